/- A replica's next operation: the walk of next. -/
import Derived.Deep.CutBlock
import Derived.BigQuiet
import Derived.Test.YtjekalilfhnpmaaGreatDoorQ25
theorem Go.Proofs.YtjekalilfhnpmaaGreatDoor.κ26 {p:Prop} (h:p):Go.RowKit.Hid p:=Go.Lib.hid h
namespace Go.Proofs.YtjekalilfhnpmaaGreatDoor
open Go Go.RowKit Go.Maps Go.Shelf LineOrd
set_option linter.unusedVariables false
set_option linter.unusedSimpArgs false
set_option maxHeartbeats 2000000
set_option maxRecDepth 100000
theorem four_fr {X:Nat→Prop} {RB CB a:Nat} {u0 u1 u2 u3:Value} {w w':World} (hF:Fr X w w') (h1:¬ X RB) (h2:¬ X CB) (h:w.cell? ⟨RB,0,none⟩=some u0∧w.cell? ⟨RB,1,none⟩=some u1∧w.cell? ⟨RB,2+a,none⟩=some u2∧w.cell? ⟨CB,0,none⟩=some u3) :
  w'.cell? ⟨RB,0,none⟩=some u0∧w'.cell? ⟨RB,1,none⟩=some u1∧w'.cell? ⟨RB,2+a,none⟩=some u2∧w'.cell? ⟨CB,0,none⟩=some u3:=by
 obtain ⟨e0,e1,e2,e3⟩:=h
 have hl:RB < w.heap.size:=World.block_lt_of_cell? w _ e0
 have hl2:CB < w.heap.size:=World.block_lt_of_cell? w _ e3
 exact ⟨(hF.cell (p:=⟨RB,0,none⟩) hl h1).trans e0,(hF.cell (p:=⟨RB,1,none⟩) hl h1).trans e1,(hF.cell (p:=⟨RB,2+a,none⟩) hl h1).trans e2,(hF.cell (p:=⟨CB,0,none⟩) hl2 h2).trans e3⟩
theorem opAt_set3 {w:World} {B:Nat} {o:OpT} (h:OpAt w B o) (t b n:Int):OpAt (((w.setCell ⟨B,0,none⟩ (.int .i64 t)).setCell ⟨B,1,none⟩ (.int .i64 b)).setCell ⟨B,2,none⟩ (.int .i64 n)) B ⟨t,b,n,o.k,o.nd,o.ot,o.nm,o.vl⟩:=by
 obtain ⟨h0,h1,h2,h3,h4,h5,h6,h7⟩:=h
 have gs:∀ {w:World} {i j:Nat} {u v:Value},j≠i→w.cell? ⟨B,j,none⟩=some u→(w.setCell ⟨B,i,none⟩ v).cell? ⟨B,j,none⟩=some u:=fun {w i j u v} hj hc=>by
  rw [World.cell?_setCell_other _ _ _ _ (by intro e;cases e;exact hj rfl)];exact hc
 have hs:∀ {w:World} {i:Nat} {u v:Value},w.cell? ⟨B,i,none⟩=some u→(w.setCell ⟨B,i,none⟩ v).cell? ⟨B,i,none⟩=some v:=fun hc=>World.cell?_setCell_same' _ _ _ (by rw [hc];rfl)
 exact ⟨gs (by omega) (gs (by omega) (hs h0)),gs (by omega) (hs (gs (by omega) h1)),hs (gs (by omega) (gs (by omega) h2)),gs (by omega) (gs (by omega) (gs (by omega) h3)),gs (by omega) (gs (by omega) (gs (by omega) h4)),gs (by omega) (gs (by omega) (gs (by omega) h5)),gs (by omega) (gs (by omega) (gs (by omega) h6)),gs (by omega) (gs (by omega) (gs (by omega) h7))⟩
theorem opAt_set3b {w:World} {B:Nat} {o:OpT} (h:OpAt w B o) (t b n:Int):OpAt (((w.setCell ⟨B,2,none⟩ (.int .i64 n)).setCell ⟨B,0,none⟩ (.int .i64 t)).setCell ⟨B,1,none⟩ (.int .i64 b)) B ⟨t,b,n,o.k,o.nd,o.ot,o.nm,o.vl⟩:=by
 obtain ⟨h0,h1,h2,h3,h4,h5,h6,h7⟩:=h
 have gs:∀ {w:World} {i j:Nat} {u v:Value},j≠i→w.cell? ⟨B,j,none⟩=some u→(w.setCell ⟨B,i,none⟩ v).cell? ⟨B,j,none⟩=some u:=fun {w i j u v} hj hc=>by
  rw [World.cell?_setCell_other _ _ _ _ (by intro e;cases e;exact hj rfl)];exact hc
 have hs:∀ {w:World} {i:Nat} {u v:Value},w.cell? ⟨B,i,none⟩=some u→(w.setCell ⟨B,i,none⟩ v).cell? ⟨B,i,none⟩=some v:=fun hc=>World.cell?_setCell_same' _ _ _ (by rw [hc];rfl)
 exact ⟨gs (by omega) (hs (gs (by omega) h0)),hs (gs (by omega) (gs (by omega) h1)),gs (by omega) (gs (by omega) (hs h2)),gs (by omega) (gs (by omega) (gs (by omega) h3)),gs (by omega) (gs (by omega) (gs (by omega) h4)),gs (by omega) (gs (by omega) (gs (by omega) h5)),gs (by omega) (gs (by omega) (gs (by omega) h6)),gs (by omega) (gs (by omega) (gs (by omega) h7))⟩
theorem set8_at {w0 w5:World} {B b:Nat} (o:OpT) (h:∀ j,j < 8→∃ u,w5.cell? ⟨B,j,none⟩=some u) (hb:Below b w0 w5) (hB:b≤B) :
  OpAt ((((((((w5.setCell ⟨B,0,none⟩ (.int .i64 o.t)).setCell ⟨B,1,none⟩ (.int .i64 o.b)).setCell ⟨B,2,none⟩ (.int .i64 o.n)).setCell ⟨B,3,none⟩ (.int .u8 o.k)).setCell ⟨B,4,none⟩ (.int .i64 o.nd)).setCell ⟨B,5,none⟩ (.int .i64 o.ot)).setCell ⟨B,6,none⟩ (.string o.nm)).setCell ⟨B,7,none⟩ (.string o.vl)) B o∧Below b w0 ((((((((w5.setCell ⟨B,0,none⟩ (.int .i64 o.t)).setCell ⟨B,1,none⟩ (.int .i64 o.b)).setCell ⟨B,2,none⟩ (.int .i64 o.n)).setCell ⟨B,3,none⟩ (.int .u8 o.k)).setCell ⟨B,4,none⟩ (.int .i64 o.nd)).setCell ⟨B,5,none⟩ (.int .i64 o.ot)).setCell ⟨B,6,none⟩ (.string o.nm)).setCell ⟨B,7,none⟩ (.string o.vl)):=by
 have gs:∀ {w:World} {i j:Nat} {u v:Value},j≠i→w.cell? ⟨B,j,none⟩=some u→(w.setCell ⟨B,i,none⟩ v).cell? ⟨B,j,none⟩=some u:=fun {w i j u v} hj hc=>by
  rw [World.cell?_setCell_other _ _ _ _ (by intro e;cases e;exact hj rfl)];exact hc
 have hs:∀ {w:World} {i:Nat} {u v:Value},w.cell? ⟨B,i,none⟩=some u→(w.setCell ⟨B,i,none⟩ v).cell? ⟨B,i,none⟩=some v:=fun hc=>World.cell?_setCell_same' _ _ _ (by rw [hc];rfl)
 obtain ⟨u0,y0⟩:=h 0 (by omega)
 obtain ⟨u1,y1⟩:=h 1 (by omega)
 obtain ⟨u2,y2⟩:=h 2 (by omega)
 obtain ⟨u3,y3⟩:=h 3 (by omega)
 obtain ⟨u4,y4⟩:=h 4 (by omega)
 obtain ⟨u5,y5⟩:=h 5 (by omega)
 obtain ⟨u6,y6⟩:=h 6 (by omega)
 obtain ⟨u7,y7⟩:=h 7 (by omega)
 refine ⟨⟨?_,?_,?_,?_,?_,?_,?_,?_⟩,below_set (below_set (below_set (below_set (below_set (below_set (below_set (below_set hb hB _) hB _) hB _) hB _) hB _) hB _) hB _) hB _⟩
 ·exact gs (by omega) (gs (by omega) (gs (by omega) (gs (by omega) (gs (by omega) (gs (by omega) (gs (by omega) (hs y0)))))))
 ·exact gs (by omega) (gs (by omega) (gs (by omega) (gs (by omega) (gs (by omega) (gs (by omega) (hs (gs (by omega) y1)))))))
 ·exact gs (by omega) (gs (by omega) (gs (by omega) (gs (by omega) (gs (by omega) (hs (gs (by omega) (gs (by omega) y2)))))))
 ·exact gs (by omega) (gs (by omega) (gs (by omega) (gs (by omega) (hs (gs (by omega) (gs (by omega) (gs (by omega) y3)))))))
 ·exact gs (by omega) (gs (by omega) (gs (by omega) (hs (gs (by omega) (gs (by omega) (gs (by omega) (gs (by omega) y4)))))))
 ·exact gs (by omega) (gs (by omega) (hs (gs (by omega) (gs (by omega) (gs (by omega) (gs (by omega) (gs (by omega) y5)))))))
 ·exact gs (by omega) (hs (gs (by omega) (gs (by omega) (gs (by omega) (gs (by omega) (gs (by omega) (gs (by omega) y6)))))))
 ·exact hs (gs (by omega) (gs (by omega) (gs (by omega) (gs (by omega) (gs (by omega) (gs (by omega) (gs (by omega) y7)))))))
theorem opAt_set4 {w:World} {B:Nat} {o:OpT} (h:OpAt w B o) (nd:Int):OpAt (w.setCell ⟨B,4,none⟩ (.int .i64 nd)) B ⟨o.t,o.b,o.n,o.k,nd,o.ot,o.nm,o.vl⟩:=by
 obtain ⟨h0,h1,h2,h3,h4,h5,h6,h7⟩:=h
 have gs:∀ {w:World} {i j:Nat} {u v:Value},j≠i→w.cell? ⟨B,j,none⟩=some u→(w.setCell ⟨B,i,none⟩ v).cell? ⟨B,j,none⟩=some u:=fun {w i j u v} hj hc=>by
  rw [World.cell?_setCell_other _ _ _ _ (by intro e;cases e;exact hj rfl)];exact hc
 have hs:∀ {w:World} {i:Nat} {u v:Value},w.cell? ⟨B,i,none⟩=some u→(w.setCell ⟨B,i,none⟩ v).cell? ⟨B,i,none⟩=some v:=fun hc=>World.cell?_setCell_same' _ _ _ (by rw [hc];rfl)
 exact ⟨gs (by omega) h0,gs (by omega) h1,gs (by omega) h2,gs (by omega) h3,hs h4,gs (by omega) h5,gs (by omega) h6,gs (by omega) h7⟩
theorem next_any {F0:Nat→Bool} (ea:Nat→Addr) (col:Nat→Int) (RB:Nat) (b:Int) (K:List OpT) (is:Bool) (o:OpT) (w:World) (h:RepD col RB b K w) (hG:Gd F0 ea w) (f2:F0 2=true) (f3:F0 3=true) (f4:F0 4=true) (f5:F0 5=true) (f6:F0 6=true) (f8:F0 8=true)
  (hK:DOk K) (hKl:K.length≤400) (hb0:0≤b) (hb4:b < 4) (hw:(nextO b K o).Wf) :
  Calls Tryz.prog 53 #[ptrV RB,.bool is,opV o] w fun e w'=>e=.returned (.tuple #[opV (nextP b K is o).1,errW ea (nextP b K is o).2])∧Below w.heap.size w w':=by
 obtain ⟨y,s,hR,hO⟩:=h
 have HR:=κ26 hR
 have HO:=κ26 hO
 have HG:=κ26 hG
 have HK:=κ26 hK
 have hRB:RB < w.heap.size:=hR.own_lt hR.co.o1 (by decide)
 have hCB:y.CB < w.heap.size:=hR.own_lt hR.co.o2 (by decide)
 obtain ⟨A0,nk,kc,hOV⟩:=hR.ops.slice
 have hnk:nk=K.length:=by have:=hR.ops.sl;rw [hOV,hO.K] at this;exact this.len
 have c6:w.cell? ⟨RB,6,none⟩=some (.slice A0 nk kc):=by rw [←hOV];exact hR.a.c6
 have c0:=hR.a.c0
 have c1:=hR.a.c1
 have k0:=hR.b'.k0
 have ht:=timeOf_le hK
 have ht0:=(timeOf_ge K).1
 have HNk:=κ26 hnk
 have hk4:nk≤400:=by omega
 obtain ⟨T,hT⟩:∃ T,s.t=T:=⟨_,rfl⟩
 have HT:Hid (timeOf K=T):=κ26 (by rw [←hT,hO.t])
 rw [hT] at k0
 rw [HT.out] at ht ht0
 have HT64:Hid (0≤T∧T≤1073741824):=κ26 ⟨ht0,ht⟩
 have HW:=κ26 hw
 unfold ptrV at c0 ⊢
 cases is with
 | false=>
  have HP:Hid (nextP b K false o=(zOp,6)):=κ26 (by unfold nextP;rw [if_pos rfl])
  rw [HP.out]
  have g6:=(hG.errs 6 (by omega) (by omega) f6).var
  simp only [errG] at g6
  have hg6:=World.block_lt_of_cell? _ _ g6
  simp only at hg6
  clear hR hO hG hK hOV hnk hT hw hKl ht ht0 c0 c1 c6 k0
  go_enter Tryz.func53,Tryz.ntmps53
  go_wp2_with fail
  go_region
  all_goals
   go_wp2_with fail
   refine bodyPost_ret (v:=.tuple #[opV zOp,errV (ea 6)]) (by simp [results,Tryz.results53,go_sem,zOp]) rfl ⟨rfl,?_⟩
   go_grown
 | true=>
  have c6':=c6
  by_cases hfull:400≤K.length∨1073741824≤timeOf K
  ·have HP:Hid (nextP b K true o=(zOp,8)):=κ26 (by unfold nextP;rw [if_neg (by simp),if_pos hfull])
   rw [HP.out]
   have g8:=(hG.errs 8 (by omega) (by omega) f8).var
   simp only [errG] at g8
   have hg8:=World.block_lt_of_cell? _ _ g8
   simp only at hg8
   rw [HT.out] at hfull
   rw [←hnk] at hfull
   have HTm:Hid (∀ w',w'.cell? ⟨y.CB,0,none⟩=some (.int .i64 T)→Calls Tryz.prog 44 #[.pointer (some ⟨y.CB,0,none⟩)] w' fun e w''=>e=.returned (.int .i64 T)∧w''=w'):=κ26 fun w' h0=>clockTime_any y.CB T w' h0
   clear hR hO hG hK hOV hnk hT hw hKl c6'
   rcases (show 400≤nk∨(nk < 400∧1073741824≤T) by omega) with h1 | ⟨h1,h2⟩
   ·have h1':(400:Int)≤(nk:Int):=by omega
    clear hfull ht ht0
    go_enter Tryz.func53,Tryz.ntmps53
    go_wp2_with fail
    go_region
    all_goals
     go_wp2_with fail
     refine bodyPost_ret (v:=.tuple #[opV zOp,errV (ea 8)]) (by simp [results,Tryz.results53,go_sem,zOp]) rfl ⟨rfl,?_⟩
     go_grown
   ·have h1':¬ (400:Int)≤(nk:Int):=by omega
    have k0':((w.alloc (.cells o.cells 31)).alloc (.cells zOp.cells 31)).cell? ⟨y.CB,0,none⟩=some (.int .i64 T):=cell_keep' (((Below.refl w.heap.size w).alloc (Nat.le_refl _) _).alloc (by simp) _) k0
    have HK0:=κ26 k0'
    clear hfull ht ht0 k0'
    go_enter Tryz.func53,Tryz.ntmps53
    go_wp2_with fail
    refine (HTm.out _ HK0.out).mono ?_
    rintro e w1 ⟨rfl,rfl⟩
    go_wp2_with fail
    go_region
    all_goals
     go_wp2_with fail
     refine bodyPost_ret (v:=.tuple #[opV zOp,errV (ea 8)]) (by simp [results,Tryz.results53,go_sem,zOp]) rfl ⟨rfl,?_⟩
     go_grown
  ·have HP:Hid (nextP b K true o=if opErr (nextO b K o)≠0 then (zOp,opErr (nextO b K o)) else (nextO b K o,0)):=κ26 (by unfold nextP;rw [if_neg (by simp),if_neg hfull])
   rw [HT.out] at hfull
   have h1':¬ (400:Int)≤(nk:Int):=by omega
   have h2':¬ (1073741824:Int)≤T:=by omega
   obtain ⟨W,hW⟩:∃ W,W=(w.alloc (.cells o.cells 31)).alloc (.cells #[.int .i64 0,.int .i64 0,.int .i64 0,.int .u8 0,.int .i64 0,.int .i64 0,.string ⟨#[]⟩,.string ⟨#[]⟩] 31):=⟨_,rfl⟩
   have hbW:Below w.heap.size w W:=by rw [hW];exact ((Below.refl w.heap.size w).alloc (Nat.le_refl _) _).alloc (by simp) _
   have HTm:Hid (∀ w',w'.cell? ⟨y.CB,0,none⟩=some (.int .i64 T)→Calls Tryz.prog 44 #[.pointer (some ⟨y.CB,0,none⟩)] w' fun e w''=>e=.returned (.int .i64 T)∧w''=w'):=κ26 fun w' h0=>clockTime_any y.CB T w' h0
   have HRW:=κ26 (hR.below hbW)
   have HOW:Hid (OpAt W w.heap.size o):=κ26 (by rw [hW];exact (OpAt.start w o _).below ((Below.refl _ _).alloc (Nat.le_refl _) _))
   have HBW:=κ26 hbW
   have HFz:Hid (∀ j,W.frozen? ⟨w.heap.size,j,none⟩=false):=κ26 fun j=>by rw [hW];simp [go_sem]
   have HK0:Hid (((w.alloc (.cells o.cells 31)).alloc (.cells #[.int .i64 0,.int .i64 0,.int .i64 0,.int .u8 0,.int .i64 0,.int .i64 0,.string ⟨#[]⟩,.string ⟨#[]⟩] 31)).cell? ⟨y.CB,0,none⟩=some (.int .i64 T)):=κ26 (by rw [←hW];exact cell_keep' hbW k0)
   have HHW:=κ26 hW
   clear hR hO hG hK hOV hnk hT hw hKl hfull ht ht0 c6' hbW hW
   go_enter Tryz.func53,Tryz.ntmps53
   go_upto_region 5 with ((go_at_call 44;refine (HTm.out _ HK0.out).mono ?_;rintro e w1 ⟨rfl,rfl⟩))
   rw [←HHW.out]
   obtain ⟨v,hv⟩:∃ v:Nat,s.v b=v:=⟨_,rfl⟩
   have HVv:Hid (cntB K b=v):=κ26 (by rw [←hv,HO.out.v])
   have hv4:v≤400:=by have:=cnt_400 HK.out b;have:=HVv.out;omega
   obtain ⟨a,ha⟩:∃ a:Nat,b=a:=⟨b.toNat,by omega⟩
   have ha4:a < 4:=by omega
   have e0:W.drew.cell? ⟨RB,0,none⟩=some (.pointer (some ⟨y.CB,0,none⟩)):=HRW.out.a.c0
   have e1:W.drew.cell? ⟨RB,1,none⟩=some (.int .i64 b):=HRW.out.a.c1
   have e2:W.drew.cell? ⟨RB,2+a,none⟩=some (.int .i64 v):=by rw [←hv,ha];exact HRW.out.a.vec a ha4
   have e3:W.drew.cell? ⟨y.CB,0,none⟩=some (.int .i64 T):=(HBW.out.cell hCB).trans k0
   have hS:W.drew.cell? ⟨RB,0,none⟩=some (.pointer (some ⟨y.CB,0,none⟩))∧W.drew.cell? ⟨RB,1,none⟩=some (.int .i64 (a:Int))∧W.drew.cell? ⟨RB,2+a,none⟩=some (.int .i64 v)∧W.drew.cell? ⟨y.CB,0,none⟩=some (.int .i64 T):=⟨e0,by rw [←ha];exact e1,e2,e3⟩
   have HA:=κ26 ha
   have hT0:=HT64.out.1
   have hT1:=HT64.out.2
   have s1:IntKind.i64.wrap (T+1)=T+1:=by rw [IntKind.wrap_i64];omega
   have s2:IntKind.i64.wrap ((v:Int)+1)=(v:Int)+1:=by rw [IntKind.wrap_i64];omega
   have a0:(0:Int)≤(a:Int):=by omega
   have a4:(a:Int) < 4:=by omega
   have hn1:w.heap.size≠RB:=by omega
   have hn2:w.heap.size≠y.CB:=by omega
   have HS5:=κ26 (fun (w':World) (hs:Fr (·=w.heap.size) W w')=>four_fr (w:=W) hs (fun e=>hn1 e.symm) (fun e=>hn2 e.symm) hS)
   have HT1:Hid (∀ w',w'.cell? ⟨y.CB,0,none⟩=some (.int .i64 T)→Calls Tryz.prog 44 #[.pointer (some ⟨y.CB,0,none⟩)] w' fun e w''=>e=.returned (.int .i64 T)∧w'=w''):=κ26 fun w' h0=>(HTm.out w' h0).mono fun e w'' ⟨h1,h2⟩=>⟨h1,h2.symm⟩
   clear hv ha e1 hb0 hb4 hT0 hT1
   go_cut [] (fun wc=>Hid (OpAt wc w.heap.size ⟨T+1,b,v+1,o.k,o.nd,o.ot,o.nm,o.vl⟩∧Fr (·=w.heap.size) W wc∧∀ j,wc.frozen? ⟨w.heap.size,j,none⟩=false))
   case first=>
    obtain ⟨j0,j1,j2,j3,j4,j5,j6,j7⟩:=HOW.out
    have z0:=HFz.out 0
    have z1:=HFz.out 1
    have z2:=HFz.out 2
    go_region_held3 (fun w'=>w'.cell? ⟨RB,0,none⟩=some (.pointer (some ⟨y.CB,0,none⟩))∧w'.cell? ⟨RB,1,none⟩=some (.int .i64 (a:Int))∧w'.cell? ⟨RB,2+a,none⟩=some (.int .i64 v)∧w'.cell? ⟨y.CB,0,none⟩=some (.int .i64 T))
     (first | (with_reducible exact hS) | (exact HS5.out _ (by repeat (first | exact fr_set _ _ _ _ | exact Fr.of_below (Below.refl _ _) | (refine Fr.trans ?_ (fr_set _ _ _ _)) | (refine Fr.trans ?_ (Fr.of_below (Below.refl _ _).drew))))))
     ((go_at_call 44;refine (HT1.out _ (by assumption)).mono ?_;rintro e wA ⟨rfl,rfl⟩))
    all_goals
     rename_i hH
     clear hH j0 j1 j2 j3 j4 j5 j6 j7 z0 z1 z2 hS e0 e2 e3
     go_wp2_with fail
     go_meet
     case rel=>
      refine κ26 ⟨?_,?_,fun j=>?_⟩
      ·first
        | exact HA.out▸(opAt_set3 HOW.out _ _ _).below (Below.refl _ _).drew
        | exact HA.out▸(opAt_set3b HOW.out _ _ _).below (Below.refl _ _).drew
      ·repeat (first | exact fr_set _ _ _ _ | (refine Fr.trans ?_ (fr_set _ _ _ _)) | (refine Fr.trans ?_ (Fr.of_below (Below.refl _ _).drew)))
      ·show World.frozen? _ _=false
       have:=HFz.out j
       first
        | (show (World.setCell _ _ _).frozen? _=false;rw [World.frozen?_setCell,World.frozen?_setCell,World.frozen?_setCell];exact this)
        | simpa using this
   case rest=>
    have HC:=hcut
    clear hcut hS e0 e2 e3
    obtain ⟨j0,j1,j2,j3,j4,j5,j6,j7⟩:=HC.out.1
    simp only at j0 j1 j2 j3 j4 j5 j6 j7
    obtain ⟨m,hm⟩:∃ m,(o.k == 109)=m:=⟨_,rfl⟩
    obtain ⟨z,hz⟩:∃ z,(o.nd == 0)=z:=⟨_,rfl⟩
    have HM:Hid ((o.k == 109)=m∧(o.nd == 0)=z):=κ26 ⟨hm,hz⟩
    obtain ⟨nx,hnx⟩:∃ nx,nextO b K o=nx:=⟨_,rfl⟩
    have HNx:Hid (nx=⟨T+1,b,v+1,o.k,if o.k=109∧o.nd=0 then (T+1)*4+b else o.nd,o.ot,o.nm,o.vl⟩):=κ26 (by rw [←hnx];unfold nextO;rw [HT.out,HVv.out])
    have HNx2:=κ26 hnx
    clear hnx
    have hz8:∀ j,j < 8→W.cell? ⟨w.heap.size+1,j,none⟩=some (#[.int .i64 0,.int .i64 0,.int .i64 0,.int .u8 0,.int .i64 0,.int .i64 0,.string ⟨#[]⟩,.string ⟨#[]⟩][j]!):=fun j hj=>by
     have e:w.heap.size+1=(w.alloc (.cells o.cells 31)).heap.size:=by simp
     rw [HHW.out,e,World.cell?_alloc_new]
     rcases (show j=0∨j=1∨j=2∨j=3∨j=4∨j=5∨j=6∨j=7 by omega) with rfl | rfl | rfl | rfl | rfl | rfl | rfl | rfl <;> rfl
    by_cases hmz:m=true∧z=true
    ·obtain ⟨rfl,rfl⟩:=hmz
     have HID:Hid (Calls Tryz.prog 106 #[opV ⟨T+1,b,v+1,o.k,o.nd,o.ot,o.nm,o.vl⟩] wc fun e w''=>e=.returned (.int .i64 ((T+1)*4+b))∧Below wc.heap.size wc w''):=κ26 (by
      have:=opID_any ea ⟨T+1,b,v+1,o.k,o.nd,o.ot,o.nm,o.vl⟩ wc (HG.out.below (HBW.out.trans (HC.out.2.1.below HBW.out.size (fun k hk=>by omega)))) f2
      rw [if_pos (show StampOk (T+1) b from ⟨by have:=HT64.out.1;omega,by omega,by have:=HA.out;omega,by have:=HA.out;omega⟩)] at this
      exact this)
     go_upto_if 61 with (fail)
     go_wp2_with fail
     refine HID.out.mono ?_
     rintro e wA ⟨rfl,hbA⟩
     have hOA:=HC.out.1.below hbA
     obtain ⟨i0,i1,i2,i3,i4,i5,i6,i7⟩:=hOA
     simp only at i0 i1 i2 i3 i4 i5 i6 i7
     have hfA:wA.frozen? ⟨w.heap.size,4,none⟩=false:=(hbA.frozen (p:=⟨w.heap.size,4,none⟩) (show w.heap.size < wc.heap.size from World.block_lt_of_cell? _ _ j0)).trans (HC.out.2.2 4)
     have HbA:=κ26 hbA
     clear hbA
     go_upto_region 8 with (fail)
     obtain ⟨WX,hWX⟩:∃ WX,WX=wA.setCell ⟨w.heap.size,4,none⟩ (.int .i64 ((T+1)*4+b)):=⟨_,rfl⟩
     have HX:Hid (OpAt WX w.heap.size nx∧Fr (·=w.heap.size) W WX):=κ26 (by
      have hmm:=HM.out
      rw [hWX,HNx.out,if_pos (by simpa using hmm)]
      exact ⟨opAt_set4 (HC.out.1.below HbA.out) _,(HC.out.2.1.trans (Fr.of_below HbA.out)).trans (fr_set _ _ _ _)⟩)
     rw [←hWX]
     clear hWX i0 i1 i2 i3 i4 i5 i6 i7 hfA HID j0 j1 j2 j3 j4 j5 j6 j7
     have HGX:=κ26 (HG.out.below (HBW.out.trans (HX.out.2.below HBW.out.size (fun k hk=>by omega))))
     have HBX:=κ26 (HBW.out.trans (HX.out.2.below HBW.out.size (fun k hk=>by omega)))
     have HCk:=κ26 (check_any ea nx WX (by rw [←HNx2.out];exact HW.out) HGX.out f2 f3 f4 f5)
     obtain ⟨j0,j1,j2,j3,j4,j5,j6,j7⟩:=HX.out.1
     have HRz:Hid (∀ j,j < 8→∃ u,WX.cell? ⟨w.heap.size+1,j,none⟩=some u):=κ26 fun j hj=>⟨_,(HX.out.2.cell (p:=⟨w.heap.size+1,j,none⟩) (by rw [HHW.out];simp) (by simp)).trans (hz8 j hj)⟩
     clear hz8
     by_cases he:opErr nx=0
     ·rw [he] at HCk
      have hev:errW ea 0=.nilIface:=rfl
      rw [hev] at HCk
      have HPe:Hid (nextP b K true o=(nx,0)):=κ26 (by rw [HP.out,HNx2.out,if_neg (by omega)])
      clear he hev
      go_wp2_with fail
      refine HCk.out.mono ?_
      rintro e w5 ⟨rfl,hb5⟩
      have HO5:=κ26 (HX.out.1.below hb5)
      obtain ⟨r0,hr0⟩:=HRz.out 0 (by omega)
      have HB5:=κ26 (HBX.out.trans (hb5.mono HBX.out.size))
      have HR5:Hid (∀ j,j < 8→(∃ u,w5.cell? ⟨w.heap.size+1,j,none⟩=some u)∧w5.frozen? ⟨w.heap.size+1,j,none⟩=false):=κ26 fun j hj=>by
       obtain ⟨u,hu⟩:=HRz.out j hj
       have hl:=World.block_lt_of_cell? _ _ hu
       refine ⟨⟨u,(hb5.cell hl).trans hu⟩,(hb5.frozen (p:=⟨w.heap.size+1,j,none⟩) hl).trans ((HX.out.2.frozen (p:=⟨w.heap.size+1,j,none⟩) (by rw [HHW.out];simp) (by simp)).trans ?_)⟩
       have e:w.heap.size+1=(w.alloc (.cells o.cells 31)).heap.size:=by simp
       rw [HHW.out,e,World.frozen?_alloc_new]
      obtain ⟨⟨u0,y0⟩,x0⟩:=HR5.out 0 (by omega)
      obtain ⟨⟨u1,y1⟩,x1⟩:=HR5.out 1 (by omega)
      obtain ⟨⟨u2,y2⟩,x2⟩:=HR5.out 2 (by omega)
      obtain ⟨⟨u3,y3⟩,x3⟩:=HR5.out 3 (by omega)
      obtain ⟨⟨u4,y4⟩,x4⟩:=HR5.out 4 (by omega)
      obtain ⟨⟨u5,y5⟩,x5⟩:=HR5.out 5 (by omega)
      obtain ⟨⟨u6,y6⟩,x6⟩:=HR5.out 6 (by omega)
      obtain ⟨⟨u7,y7⟩,x7⟩:=HR5.out 7 (by omega)
      clear hb5 hr0 j0 j1 j2 j3 j4 j5 j6 j7
      obtain ⟨j0,j1,j2,j3,j4,j5,j6,j7⟩:=HO5.out
      go_wp2_with fail
      obtain ⟨W8,hW8⟩:∃ W8,W8=((((((((w5.setCell ⟨w.heap.size+1,0,none⟩ (.int .i64 nx.t)).setCell ⟨w.heap.size+1,1,none⟩ (.int .i64 nx.b)).setCell ⟨w.heap.size+1,2,none⟩ (.int .i64 nx.n)).setCell ⟨w.heap.size+1,3,none⟩ (.int .u8 nx.k)).setCell ⟨w.heap.size+1,4,none⟩ (.int .i64 nx.nd)).setCell ⟨w.heap.size+1,5,none⟩ (.int .i64 nx.ot)).setCell ⟨w.heap.size+1,6,none⟩ (.string nx.nm)).setCell ⟨w.heap.size+1,7,none⟩ (.string nx.vl)):=⟨_,rfl⟩
      have h8:OpAt W8 (w.heap.size+1) nx∧Below w.heap.size w W8:=by
       rw [hW8]
       exact set8_at nx (fun j hj=>(HR5.out j hj).1) HB5.out (by omega)
      obtain ⟨⟨l0,l1,l2,l3,l4,l5,l6,l7⟩,hb8⟩:=h8
      rw [←hW8]
      refine bodyPost_ret (v:=.tuple #[opV nx,.nilIface]) (by simp [results,Tryz.results53,go_sem,l0,l1,l2,l3,l4,l5,l6,l7]) rfl ⟨?_,hb8⟩
      rw [HPe.out]
      rfl
     ·have hE:errW ea (opErr nx)=errV (ea (opErr nx)):=by rw [errW,if_neg he]
      have HErr:=κ26 hE
      have HPe:Hid (nextP b K true o=(zOp,opErr nx)):=κ26 (by rw [HP.out,HNx2.out,if_pos he])
      rw [hE] at HCk
      clear he hE
      generalize hkk:opErr nx=kk at HCk HPe HErr
      clear hkk
      go_wp2_with fail
      refine HCk.out.mono ?_
      rintro e w5 ⟨rfl,hb5⟩
      have HO5:=κ26 (HX.out.1.below hb5)
      obtain ⟨r0,hr0⟩:=HRz.out 0 (by omega)
      have HB5:=κ26 (HBX.out.trans (hb5.mono HBX.out.size))
      have HR5:Hid (∀ j,j < 8→(∃ u,w5.cell? ⟨w.heap.size+1,j,none⟩=some u)∧w5.frozen? ⟨w.heap.size+1,j,none⟩=false):=κ26 fun j hj=>by
       obtain ⟨u,hu⟩:=HRz.out j hj
       have hl:=World.block_lt_of_cell? _ _ hu
       refine ⟨⟨u,(hb5.cell hl).trans hu⟩,(hb5.frozen (p:=⟨w.heap.size+1,j,none⟩) hl).trans ((HX.out.2.frozen (p:=⟨w.heap.size+1,j,none⟩) (by rw [HHW.out];simp) (by simp)).trans ?_)⟩
       have e:w.heap.size+1=(w.alloc (.cells o.cells 31)).heap.size:=by simp
       rw [HHW.out,e,World.frozen?_alloc_new]
      obtain ⟨⟨u0,y0⟩,x0⟩:=HR5.out 0 (by omega)
      obtain ⟨⟨u1,y1⟩,x1⟩:=HR5.out 1 (by omega)
      obtain ⟨⟨u2,y2⟩,x2⟩:=HR5.out 2 (by omega)
      obtain ⟨⟨u3,y3⟩,x3⟩:=HR5.out 3 (by omega)
      obtain ⟨⟨u4,y4⟩,x4⟩:=HR5.out 4 (by omega)
      obtain ⟨⟨u5,y5⟩,x5⟩:=HR5.out 5 (by omega)
      obtain ⟨⟨u6,y6⟩,x6⟩:=HR5.out 6 (by omega)
      obtain ⟨⟨u7,y7⟩,x7⟩:=HR5.out 7 (by omega)
      clear hb5 hr0 j0 j1 j2 j3 j4 j5 j6 j7
      obtain ⟨j0,j1,j2,j3,j4,j5,j6,j7⟩:=HO5.out
      go_wp2_with fail
      obtain ⟨W8,hW8⟩:∃ W8,W8=((((((((w5.setCell ⟨w.heap.size+1,0,none⟩ (.int .i64 zOp.t)).setCell ⟨w.heap.size+1,1,none⟩ (.int .i64 zOp.b)).setCell ⟨w.heap.size+1,2,none⟩ (.int .i64 zOp.n)).setCell ⟨w.heap.size+1,3,none⟩ (.int .u8 zOp.k)).setCell ⟨w.heap.size+1,4,none⟩ (.int .i64 zOp.nd)).setCell ⟨w.heap.size+1,5,none⟩ (.int .i64 zOp.ot)).setCell ⟨w.heap.size+1,6,none⟩ (.string zOp.nm)).setCell ⟨w.heap.size+1,7,none⟩ (.string zOp.vl)):=⟨_,rfl⟩
      have h8:OpAt W8 (w.heap.size+1) zOp∧Below w.heap.size w W8:=by
       rw [hW8]
       exact set8_at zOp (fun j hj=>(HR5.out j hj).1) HB5.out (by omega)
      obtain ⟨⟨l0,l1,l2,l3,l4,l5,l6,l7⟩,hb8⟩:=h8
      simp only [zOp] at hW8 l0 l1 l2 l3 l4 l5 l6 l7
      rw [←hW8]
      refine bodyPost_ret (v:=.tuple #[opV zOp,errV (ea kk)]) (by simp [results,Tryz.results53,go_sem,l0,l1,l2,l3,l4,l5,l6,l7,zOp]) rfl ⟨?_,hb8⟩
      rw [HPe.out,HErr.out]
    ·have hno:¬ (o.k=109∧o.nd=0):=fun hh=>hmz (by have:=HM.out;rw [←this.1,←this.2];simpa using hh)
     obtain ⟨WX,hWX⟩:∃ WX,WX=wc:=⟨_,rfl⟩
     have HX:Hid (OpAt WX w.heap.size nx∧Fr (·=w.heap.size) W WX):=κ26 (by
      rw [hWX,HNx.out,if_neg hno]
      exact ⟨HC.out.1,HC.out.2.1⟩)
     rw [←hWX] at j0 j1 j2 j3 j4 j5 j6 j7 ⊢
     have HMz:=κ26 hmz
     clear hno hmz hWX
     cases m with
     | false=>
      go_upto_region 8 with (fail)
      clear j0 j1 j2 j3 j4 j5 j6 j7
      have HGX:=κ26 (HG.out.below (HBW.out.trans (HX.out.2.below HBW.out.size (fun k hk=>by omega))))
      have HBX:=κ26 (HBW.out.trans (HX.out.2.below HBW.out.size (fun k hk=>by omega)))
      have HCk:=κ26 (check_any ea nx WX (by rw [←HNx2.out];exact HW.out) HGX.out f2 f3 f4 f5)
      obtain ⟨j0,j1,j2,j3,j4,j5,j6,j7⟩:=HX.out.1
      have HRz:Hid (∀ j,j < 8→∃ u,WX.cell? ⟨w.heap.size+1,j,none⟩=some u):=κ26 fun j hj=>⟨_,(HX.out.2.cell (p:=⟨w.heap.size+1,j,none⟩) (by rw [HHW.out];simp) (by simp)).trans (hz8 j hj)⟩
      clear hz8
      by_cases he:opErr nx=0
      ·rw [he] at HCk
       have hev:errW ea 0=.nilIface:=rfl
       rw [hev] at HCk
       have HPe:Hid (nextP b K true o=(nx,0)):=κ26 (by rw [HP.out,HNx2.out,if_neg (by omega)])
       clear he hev
       go_wp2_with fail
       refine HCk.out.mono ?_
       rintro e w5 ⟨rfl,hb5⟩
       have HO5:=κ26 (HX.out.1.below hb5)
       obtain ⟨r0,hr0⟩:=HRz.out 0 (by omega)
       have HB5:=κ26 (HBX.out.trans (hb5.mono HBX.out.size))
       have HR5:Hid (∀ j,j < 8→(∃ u,w5.cell? ⟨w.heap.size+1,j,none⟩=some u)∧w5.frozen? ⟨w.heap.size+1,j,none⟩=false):=κ26 fun j hj=>by
        obtain ⟨u,hu⟩:=HRz.out j hj
        have hl:=World.block_lt_of_cell? _ _ hu
        refine ⟨⟨u,(hb5.cell hl).trans hu⟩,(hb5.frozen (p:=⟨w.heap.size+1,j,none⟩) hl).trans ((HX.out.2.frozen (p:=⟨w.heap.size+1,j,none⟩) (by rw [HHW.out];simp) (by simp)).trans ?_)⟩
        have e:w.heap.size+1=(w.alloc (.cells o.cells 31)).heap.size:=by simp
        rw [HHW.out,e,World.frozen?_alloc_new]
       obtain ⟨⟨u0,y0⟩,x0⟩:=HR5.out 0 (by omega)
       obtain ⟨⟨u1,y1⟩,x1⟩:=HR5.out 1 (by omega)
       obtain ⟨⟨u2,y2⟩,x2⟩:=HR5.out 2 (by omega)
       obtain ⟨⟨u3,y3⟩,x3⟩:=HR5.out 3 (by omega)
       obtain ⟨⟨u4,y4⟩,x4⟩:=HR5.out 4 (by omega)
       obtain ⟨⟨u5,y5⟩,x5⟩:=HR5.out 5 (by omega)
       obtain ⟨⟨u6,y6⟩,x6⟩:=HR5.out 6 (by omega)
       obtain ⟨⟨u7,y7⟩,x7⟩:=HR5.out 7 (by omega)
       clear hb5 hr0 j0 j1 j2 j3 j4 j5 j6 j7
       obtain ⟨j0,j1,j2,j3,j4,j5,j6,j7⟩:=HO5.out
       go_wp2_with fail
       obtain ⟨W8,hW8⟩:∃ W8,W8=((((((((w5.setCell ⟨w.heap.size+1,0,none⟩ (.int .i64 nx.t)).setCell ⟨w.heap.size+1,1,none⟩ (.int .i64 nx.b)).setCell ⟨w.heap.size+1,2,none⟩ (.int .i64 nx.n)).setCell ⟨w.heap.size+1,3,none⟩ (.int .u8 nx.k)).setCell ⟨w.heap.size+1,4,none⟩ (.int .i64 nx.nd)).setCell ⟨w.heap.size+1,5,none⟩ (.int .i64 nx.ot)).setCell ⟨w.heap.size+1,6,none⟩ (.string nx.nm)).setCell ⟨w.heap.size+1,7,none⟩ (.string nx.vl)):=⟨_,rfl⟩
       have h8:OpAt W8 (w.heap.size+1) nx∧Below w.heap.size w W8:=by
        rw [hW8]
        exact set8_at nx (fun j hj=>(HR5.out j hj).1) HB5.out (by omega)
       obtain ⟨⟨l0,l1,l2,l3,l4,l5,l6,l7⟩,hb8⟩:=h8
       rw [←hW8]
       refine bodyPost_ret (v:=.tuple #[opV nx,.nilIface]) (by simp [results,Tryz.results53,go_sem,l0,l1,l2,l3,l4,l5,l6,l7]) rfl ⟨?_,hb8⟩
       rw [HPe.out]
       rfl
      ·have hE:errW ea (opErr nx)=errV (ea (opErr nx)):=by rw [errW,if_neg he]
       have HErr:=κ26 hE
       have HPe:Hid (nextP b K true o=(zOp,opErr nx)):=κ26 (by rw [HP.out,HNx2.out,if_pos he])
       rw [hE] at HCk
       clear he hE
       generalize hkk:opErr nx=kk at HCk HPe HErr
       clear hkk
       go_wp2_with fail
       refine HCk.out.mono ?_
       rintro e w5 ⟨rfl,hb5⟩
       have HO5:=κ26 (HX.out.1.below hb5)
       obtain ⟨r0,hr0⟩:=HRz.out 0 (by omega)
       have HB5:=κ26 (HBX.out.trans (hb5.mono HBX.out.size))
       have HR5:Hid (∀ j,j < 8→(∃ u,w5.cell? ⟨w.heap.size+1,j,none⟩=some u)∧w5.frozen? ⟨w.heap.size+1,j,none⟩=false):=κ26 fun j hj=>by
        obtain ⟨u,hu⟩:=HRz.out j hj
        have hl:=World.block_lt_of_cell? _ _ hu
        refine ⟨⟨u,(hb5.cell hl).trans hu⟩,(hb5.frozen (p:=⟨w.heap.size+1,j,none⟩) hl).trans ((HX.out.2.frozen (p:=⟨w.heap.size+1,j,none⟩) (by rw [HHW.out];simp) (by simp)).trans ?_)⟩
        have e:w.heap.size+1=(w.alloc (.cells o.cells 31)).heap.size:=by simp
        rw [HHW.out,e,World.frozen?_alloc_new]
       obtain ⟨⟨u0,y0⟩,x0⟩:=HR5.out 0 (by omega)
       obtain ⟨⟨u1,y1⟩,x1⟩:=HR5.out 1 (by omega)
       obtain ⟨⟨u2,y2⟩,x2⟩:=HR5.out 2 (by omega)
       obtain ⟨⟨u3,y3⟩,x3⟩:=HR5.out 3 (by omega)
       obtain ⟨⟨u4,y4⟩,x4⟩:=HR5.out 4 (by omega)
       obtain ⟨⟨u5,y5⟩,x5⟩:=HR5.out 5 (by omega)
       obtain ⟨⟨u6,y6⟩,x6⟩:=HR5.out 6 (by omega)
       obtain ⟨⟨u7,y7⟩,x7⟩:=HR5.out 7 (by omega)
       clear hb5 hr0 j0 j1 j2 j3 j4 j5 j6 j7
       obtain ⟨j0,j1,j2,j3,j4,j5,j6,j7⟩:=HO5.out
       go_wp2_with fail
       obtain ⟨W8,hW8⟩:∃ W8,W8=((((((((w5.setCell ⟨w.heap.size+1,0,none⟩ (.int .i64 zOp.t)).setCell ⟨w.heap.size+1,1,none⟩ (.int .i64 zOp.b)).setCell ⟨w.heap.size+1,2,none⟩ (.int .i64 zOp.n)).setCell ⟨w.heap.size+1,3,none⟩ (.int .u8 zOp.k)).setCell ⟨w.heap.size+1,4,none⟩ (.int .i64 zOp.nd)).setCell ⟨w.heap.size+1,5,none⟩ (.int .i64 zOp.ot)).setCell ⟨w.heap.size+1,6,none⟩ (.string zOp.nm)).setCell ⟨w.heap.size+1,7,none⟩ (.string zOp.vl)):=⟨_,rfl⟩
       have h8:OpAt W8 (w.heap.size+1) zOp∧Below w.heap.size w W8:=by
        rw [hW8]
        exact set8_at zOp (fun j hj=>(HR5.out j hj).1) HB5.out (by omega)
       obtain ⟨⟨l0,l1,l2,l3,l4,l5,l6,l7⟩,hb8⟩:=h8
       simp only [zOp] at hW8 l0 l1 l2 l3 l4 l5 l6 l7
       rw [←hW8]
       refine bodyPost_ret (v:=.tuple #[opV zOp,errV (ea kk)]) (by simp [results,Tryz.results53,go_sem,l0,l1,l2,l3,l4,l5,l6,l7,zOp]) rfl ⟨?_,hb8⟩
       rw [HPe.out,HErr.out]
     | true=>
      cases z with
      | true=>exact absurd ⟨rfl,rfl⟩ HMz.out
      | false=>
       go_upto_region 8 with (fail)
       clear j0 j1 j2 j3 j4 j5 j6 j7
       have HGX:=κ26 (HG.out.below (HBW.out.trans (HX.out.2.below HBW.out.size (fun k hk=>by omega))))
       have HBX:=κ26 (HBW.out.trans (HX.out.2.below HBW.out.size (fun k hk=>by omega)))
       have HCk:=κ26 (check_any ea nx WX (by rw [←HNx2.out];exact HW.out) HGX.out f2 f3 f4 f5)
       obtain ⟨j0,j1,j2,j3,j4,j5,j6,j7⟩:=HX.out.1
       have HRz:Hid (∀ j,j < 8→∃ u,WX.cell? ⟨w.heap.size+1,j,none⟩=some u):=κ26 fun j hj=>⟨_,(HX.out.2.cell (p:=⟨w.heap.size+1,j,none⟩) (by rw [HHW.out];simp) (by simp)).trans (hz8 j hj)⟩
       clear hz8
       by_cases he:opErr nx=0
       ·rw [he] at HCk
        have hev:errW ea 0=.nilIface:=rfl
        rw [hev] at HCk
        have HPe:Hid (nextP b K true o=(nx,0)):=κ26 (by rw [HP.out,HNx2.out,if_neg (by omega)])
        clear he hev
        go_wp2_with fail
        refine HCk.out.mono ?_
        rintro e w5 ⟨rfl,hb5⟩
        have HO5:=κ26 (HX.out.1.below hb5)
        obtain ⟨r0,hr0⟩:=HRz.out 0 (by omega)
        have HB5:=κ26 (HBX.out.trans (hb5.mono HBX.out.size))
        have HR5:Hid (∀ j,j < 8→(∃ u,w5.cell? ⟨w.heap.size+1,j,none⟩=some u)∧w5.frozen? ⟨w.heap.size+1,j,none⟩=false):=κ26 fun j hj=>by
         obtain ⟨u,hu⟩:=HRz.out j hj
         have hl:=World.block_lt_of_cell? _ _ hu
         refine ⟨⟨u,(hb5.cell hl).trans hu⟩,(hb5.frozen (p:=⟨w.heap.size+1,j,none⟩) hl).trans ((HX.out.2.frozen (p:=⟨w.heap.size+1,j,none⟩) (by rw [HHW.out];simp) (by simp)).trans ?_)⟩
         have e:w.heap.size+1=(w.alloc (.cells o.cells 31)).heap.size:=by simp
         rw [HHW.out,e,World.frozen?_alloc_new]
        obtain ⟨⟨u0,y0⟩,x0⟩:=HR5.out 0 (by omega)
        obtain ⟨⟨u1,y1⟩,x1⟩:=HR5.out 1 (by omega)
        obtain ⟨⟨u2,y2⟩,x2⟩:=HR5.out 2 (by omega)
        obtain ⟨⟨u3,y3⟩,x3⟩:=HR5.out 3 (by omega)
        obtain ⟨⟨u4,y4⟩,x4⟩:=HR5.out 4 (by omega)
        obtain ⟨⟨u5,y5⟩,x5⟩:=HR5.out 5 (by omega)
        obtain ⟨⟨u6,y6⟩,x6⟩:=HR5.out 6 (by omega)
        obtain ⟨⟨u7,y7⟩,x7⟩:=HR5.out 7 (by omega)
        clear hb5 hr0 j0 j1 j2 j3 j4 j5 j6 j7
        obtain ⟨j0,j1,j2,j3,j4,j5,j6,j7⟩:=HO5.out
        go_wp2_with fail
        obtain ⟨W8,hW8⟩:∃ W8,W8=((((((((w5.setCell ⟨w.heap.size+1,0,none⟩ (.int .i64 nx.t)).setCell ⟨w.heap.size+1,1,none⟩ (.int .i64 nx.b)).setCell ⟨w.heap.size+1,2,none⟩ (.int .i64 nx.n)).setCell ⟨w.heap.size+1,3,none⟩ (.int .u8 nx.k)).setCell ⟨w.heap.size+1,4,none⟩ (.int .i64 nx.nd)).setCell ⟨w.heap.size+1,5,none⟩ (.int .i64 nx.ot)).setCell ⟨w.heap.size+1,6,none⟩ (.string nx.nm)).setCell ⟨w.heap.size+1,7,none⟩ (.string nx.vl)):=⟨_,rfl⟩
        have h8:OpAt W8 (w.heap.size+1) nx∧Below w.heap.size w W8:=by
         rw [hW8]
         exact set8_at nx (fun j hj=>(HR5.out j hj).1) HB5.out (by omega)
        obtain ⟨⟨l0,l1,l2,l3,l4,l5,l6,l7⟩,hb8⟩:=h8
        rw [←hW8]
        refine bodyPost_ret (v:=.tuple #[opV nx,.nilIface]) (by simp [results,Tryz.results53,go_sem,l0,l1,l2,l3,l4,l5,l6,l7]) rfl ⟨?_,hb8⟩
        rw [HPe.out]
        rfl
       ·have hE:errW ea (opErr nx)=errV (ea (opErr nx)):=by rw [errW,if_neg he]
        have HErr:=κ26 hE
        have HPe:Hid (nextP b K true o=(zOp,opErr nx)):=κ26 (by rw [HP.out,HNx2.out,if_pos he])
        rw [hE] at HCk
        clear he hE
        generalize hkk:opErr nx=kk at HCk HPe HErr
        clear hkk
        go_wp2_with fail
        refine HCk.out.mono ?_
        rintro e w5 ⟨rfl,hb5⟩
        have HO5:=κ26 (HX.out.1.below hb5)
        obtain ⟨r0,hr0⟩:=HRz.out 0 (by omega)
        have HB5:=κ26 (HBX.out.trans (hb5.mono HBX.out.size))
        have HR5:Hid (∀ j,j < 8→(∃ u,w5.cell? ⟨w.heap.size+1,j,none⟩=some u)∧w5.frozen? ⟨w.heap.size+1,j,none⟩=false):=κ26 fun j hj=>by
         obtain ⟨u,hu⟩:=HRz.out j hj
         have hl:=World.block_lt_of_cell? _ _ hu
         refine ⟨⟨u,(hb5.cell hl).trans hu⟩,(hb5.frozen (p:=⟨w.heap.size+1,j,none⟩) hl).trans ((HX.out.2.frozen (p:=⟨w.heap.size+1,j,none⟩) (by rw [HHW.out];simp) (by simp)).trans ?_)⟩
         have e:w.heap.size+1=(w.alloc (.cells o.cells 31)).heap.size:=by simp
         rw [HHW.out,e,World.frozen?_alloc_new]
        obtain ⟨⟨u0,y0⟩,x0⟩:=HR5.out 0 (by omega)
        obtain ⟨⟨u1,y1⟩,x1⟩:=HR5.out 1 (by omega)
        obtain ⟨⟨u2,y2⟩,x2⟩:=HR5.out 2 (by omega)
        obtain ⟨⟨u3,y3⟩,x3⟩:=HR5.out 3 (by omega)
        obtain ⟨⟨u4,y4⟩,x4⟩:=HR5.out 4 (by omega)
        obtain ⟨⟨u5,y5⟩,x5⟩:=HR5.out 5 (by omega)
        obtain ⟨⟨u6,y6⟩,x6⟩:=HR5.out 6 (by omega)
        obtain ⟨⟨u7,y7⟩,x7⟩:=HR5.out 7 (by omega)
        clear hb5 hr0 j0 j1 j2 j3 j4 j5 j6 j7
        obtain ⟨j0,j1,j2,j3,j4,j5,j6,j7⟩:=HO5.out
        go_wp2_with fail
        obtain ⟨W8,hW8⟩:∃ W8,W8=((((((((w5.setCell ⟨w.heap.size+1,0,none⟩ (.int .i64 zOp.t)).setCell ⟨w.heap.size+1,1,none⟩ (.int .i64 zOp.b)).setCell ⟨w.heap.size+1,2,none⟩ (.int .i64 zOp.n)).setCell ⟨w.heap.size+1,3,none⟩ (.int .u8 zOp.k)).setCell ⟨w.heap.size+1,4,none⟩ (.int .i64 zOp.nd)).setCell ⟨w.heap.size+1,5,none⟩ (.int .i64 zOp.ot)).setCell ⟨w.heap.size+1,6,none⟩ (.string zOp.nm)).setCell ⟨w.heap.size+1,7,none⟩ (.string zOp.vl)):=⟨_,rfl⟩
        have h8:OpAt W8 (w.heap.size+1) zOp∧Below w.heap.size w W8:=by
         rw [hW8]
         exact set8_at zOp (fun j hj=>(HR5.out j hj).1) HB5.out (by omega)
        obtain ⟨⟨l0,l1,l2,l3,l4,l5,l6,l7⟩,hb8⟩:=h8
        simp only [zOp] at hW8 l0 l1 l2 l3 l4 l5 l6 l7
        rw [←hW8]
        refine bodyPost_ret (v:=.tuple #[opV zOp,errV (ea kk)]) (by simp [results,Tryz.results53,go_sem,l0,l1,l2,l3,l4,l5,l6,l7,zOp]) rfl ⟨?_,hb8⟩
        rw [HPe.out,HErr.out]
end Go.Proofs.YtjekalilfhnpmaaGreatDoor
