/- ReplicaActs is walked: any acts on a replica answer as the document says. -/
import Derived.Test.YtjekalilfhnpmaaGreatDoorQ31
import Derived.Test.YtjekalilfhnpmaaGreatDoorQ43
theorem Go.Proofs.YtjekalilfhnpmaaGreatDoor.κ44 {p:Prop} (h:p):Go.RowKit.Hid p:=Go.Lib.hid h
namespace Go.Proofs.YtjekalilfhnpmaaGreatDoor
open Go Go.RowKit Go.Maps Go.Shelf LineOrd Tree
set_option linter.unusedVariables false
set_option linter.unusedSimpArgs false
set_option maxHeartbeats 20000000
set_option maxRecDepth 100000
def vec4 (a b c d:Int):Int→Int:=fun i=>if i=0 then a else if i=1 then b else if i=2 then c else d
theorem eqVecA (a b c d:Int) (w:World):(Op.equalIn 10000 48 (.agg #[.int .i64 a,.int .i64 b,.int .i64 c,.int .i64 d]) (.agg #[.int .i64 a,.int .i64 b,.int .i64 c,.int .i64 d])).run Tryz.prog w=.ok true w:=by
 have u3:=Tryz.underlying3
 have a3:=Tryz.isAgg3
 have z3:=Tryz.sizeOf3
 rw [show (10000:Nat)=9999+1 from rfl,Op.equalIn]
 simp only [Sem.run_bind,run_underlying Tryz.underlying48,Result.andThen_ok]
 simp only [Std.Legacy.Range.forIn_eq_forIn_range',Std.Legacy.Range.size,Nat.sub_zero,Nat.add_sub_cancel,Nat.div_one,List.range'_succ,List.range'_zero,List.forIn_cons,List.forIn_nil]
 go_simp
theorem long_wf {x:OpT} (h:longOp x=false) (hw:x.nm.size≤100000→x.vl.size≤100000→x.Wf):x.Wf:=by
 unfold longOp at h
 simp only [Bool.or_eq_false_iff,decide_eq_false_iff_not] at h
 exact hw (by omega) (by omega)
theorem longs_wf {most:Nat} {L:List OpT} (h:longOps most L=false) (hw:∀ x∈L,x.nm.size≤100000→x.vl.size≤100000→x.Wf):L.length≤most∧∀ x∈L,x.Wf:=by
 unfold longOps at h
 simp only [Bool.or_eq_false_iff,decide_eq_false_iff_not,List.any_eq_false] at h
 exact ⟨by omega,fun x hx=>long_wf (by simpa using h.2 x hx) (hw x hx)⟩
def kindOf (k:Int):Int:=if k=109∨k=105∨k=100 then k else 115
def kinded (o:OpT):OpT:=⟨o.t,o.b,o.n,kindOf o.k,o.nd,o.ot,o.nm,o.vl⟩
theorem kinded_wf {o:OpT} (h:o.Wf):(kinded o).Wf:=by
 have hk:0≤kindOf o.k∧kindOf o.k≤255:=by
  unfold kindOf
  split <;> constructor <;> omega
 have:=h
 exact { h with k1:=hk.1,k2:=hk.2 }
theorem kinded_k (o:OpT):(kinded o).k=109∨(kinded o).k=105∨(kinded o).k=100∨(kinded o).k=115:=by
 show kindOf o.k=109∨kindOf o.k=105∨kindOf o.k=100∨kindOf o.k=115
 unfold kindOf
 split <;> omega
theorem errA_val (a:Nat→Addr) (k:Nat) (hk:k≤12) (w:World):ErrVal a w (errW a k) k (-1):=by
 unfold errW
 split
 ·next h=>exact .inl ⟨rfl,h,rfl⟩
 ·next h=>exact .inr (.inl ⟨by omega,hk,rfl,rfl⟩)
theorem nextP_le (b:Int) (K:List OpT) (is:Bool) (o:OpT):(nextP b K is o).2≤12:=by
 unfold nextP
 split
 ·decide
 ·split
  ·decide
  ·split
   ·exact opErr_le _
   ·exact Nat.zero_le _
theorem MakeIs.le {b:Int} {K:List OpT} {o:OpT} {r:OpT×Nat} (h:MakeIs b K o r):r.2≤12:=by
 unfold MakeIs at h
 split at h
 ·split at h
  ·obtain ⟨_,_,rfl⟩:=h;exact nextP_le _ _ _ _
  ·obtain ⟨_,_,_,_,rfl⟩:=h
   unfold moveP
   split
   ·decide
   ·exact nextP_le _ _ _ _
 ·split at h
  ·obtain ⟨_,_,_,_,_,rfl⟩:=h;exact nextP_le _ _ _ _
  ·split at h
   ·obtain ⟨_,_,_,_,_,rfl⟩:=h;exact nextP_le _ _ _ _
   ·obtain ⟨_,_,rfl⟩:=h;exact nextP_le _ _ _ _
def AcR (b:Int) (RB MB:Nat) (w0 wr:World) (i:Nat) (col:Nat→Int) (A:Option Addr) (n c:Nat) (K:List OpT):Prop:=
 AcS b col RB MB A n c K K w0 wr∧DOk K∧Rising K∧K.length≤60+i
theorem replicaActs_any {F0:Nat→Bool} (ea:Nat→Addr) (by':Int) (A0:Option Addr) (n0 c0:Nat) (L:List ActT) (v:Int→Int) (nd:Int) (w:World) (hG:Gd F0 ea w) (hF:∀ k,1≤k→k≤12→F0 k=true) (f20:F0 20=true) (f21:F0 21=true)
  (hs:SlV actE w (.slice A0 n0 c0) L) (hc:n0≤maxLen) (hin:∀ x∈L,∃ l,ActIn w x l) (hby:I64 by') (hnd:I64 nd) :
  Calls Tryz.prog 8 #[.int .i64 by',.slice A0 n0 c0,vecI v,.int .i64 nd] w fun e w'=>e=.returned (.bool true)∧Below w.heap.size w w':=by
 have f2:F0 2=true:=hF 2 (by omega) (by omega)
 have f3:F0 3=true:=hF 3 (by omega) (by omega)
 have f4:F0 4=true:=hF 4 (by omega) (by omega)
 have f5:F0 5=true:=hF 5 (by omega) (by omega)
 have f6:F0 6=true:=hF 6 (by omega) (by omega)
 have f7:F0 7=true:=hF 7 (by omega) (by omega)
 have f8:F0 8=true:=hF 8 (by omega) (by omega)
 have f9:F0 9=true:=hF 9 (by omega) (by omega)
 have f10:F0 10=true:=hF 10 (by omega) (by omega)
 have HG:=κ44 hG
 have HF:=κ44 hF
 have HS:=κ44 hs
 have HIn:=κ44 hin
 have HN0:=κ44 hs.len
 have hm0:n0≤9223372036854775807:=by unfold maxLen at hc;omega
 obtain ⟨hby1,hby2⟩:=hby
 have hb00:Below w.heap.size w (w.alloc (.cells #[.int .i64 (v 0),.int .i64 (v 1),.int .i64 (v 2),.int .i64 (v 3)] 47)):=(Below.refl _ _).alloc (Nat.le_refl _) _
 have HBg:=κ44 (begun_any ea _ (hG.below hb00) f2 f3 f4 f5 f6 f7 f8 f9 f21)
 have HB0:=κ44 hb00
 clear hG hF hs hin hc hb00
 unfold vecI at *
 go_enter Tryz.func8,Tryz.ntmps8
 go_wp2_with fail
 refine HBg.out.mono ?_
 rintro e w1 ⟨rfl,hb1⟩
 have HB1:=κ44 (bel2 HB0.out hb1)
 have HVx:Hid (∀ w',Below w1.heap.size w1 w'→w'.cell? ⟨w.heap.size,0,none⟩=some (.int .i64 (v 0))∧w'.cell? ⟨w.heap.size,1,none⟩=some (.int .i64 (v 1))∧w'.cell? ⟨w.heap.size,2,none⟩=some (.int .i64 (v 2))∧w'.cell? ⟨w.heap.size,3,none⟩=some (.int .i64 (v 3))):=κ44 fun w' hb=>by
  have hb2:=bel2 hb1 hb
  have hl:w.heap.size < (w.alloc (.cells #[.int .i64 (v 0),.int .i64 (v 1),.int .i64 (v 2),.int .i64 (v 3)] 47)).heap.size:=by simp
  refine ⟨(hb2.cell (p:=⟨w.heap.size,0,none⟩) hl).trans (by simp [go_sem]),(hb2.cell (p:=⟨w.heap.size,1,none⟩) hl).trans (by simp [go_sem]),(hb2.cell (p:=⟨w.heap.size,2,none⟩) hl).trans (by simp [go_sem]),(hb2.cell (p:=⟨w.heap.size,3,none⟩) hl).trans (by simp [go_sem])⟩
 have HG1:=κ44 (HG.out.below HB1.out)
 clear hb1 HBg HB0
 by_cases h30:30 < n0
 ·have i30:(30:Int) < (n0:Int):=by omega
  go_wp2_with fail
  go_ret
  exact ⟨rfl,HB1.out⟩
 have i30:¬ (30:Int) < (n0:Int):=by omega
 have HNw:=κ44 (newB_any ea by' w1 HG1.out f2 ⟨hby1,hby2⟩)
 go_wp2_with fail
 refine HNw.out.mono ?_
 rintro e w2 hN
 clear HNw
 rcases hN with ⟨⟨hb0,hb4⟩,col0,RB,rfl,hR,hb2,hge⟩ | ⟨hno,rfl,hb2⟩
 ·have HB2:=κ44 hb2
  have tb0:¬ by' < 0:=by omega
  have tb4:¬ 4≤by':=by omega
  obtain ⟨w3,hw3⟩:∃ w3,w3=w2.alloc (.cells #[.int .i64 by',.slice none 0 0] 55):=⟨_,rfl⟩
  have hb3:Below w2.heap.size w2 w3:=by rw [hw3];exact (Below.refl _ _).alloc (Nat.le_refl _) _
  have HA3:Hid (AcS by' col0 RB w2.heap.size none 0 0 [] [] w1 w3):=κ44 (by
   refine ⟨hR.below hb3,?_,Classical.byContradiction fun hn=>by have:=hR.lt _ hn;omega,.inl rfl,hge,hb2.size,bel2 hb2 hb3⟩
   rw [hw3]
   exact ⟨by simp [go_sem],by simp [go_sem],SlV.nil,fun j=>by simp [go_sem]⟩)
  have Hw3:=κ44 hw3.symm
  obtain ⟨MB,hMB⟩:∃ MB,w2.heap.size=MB:=⟨_,rfl⟩
  have HMB:=κ44 hMB
  clear hR hb2 hge hw3 hb3 hMB
  unfold ptrV
  go_wp2_with fail
  rw [show w2.alloc (.cells #[.int .i64 by',.slice none 0 0] 55)=w3 from Hw3.out]
  rw [HMB.out] at HA3 ⊢
  clear Hw3 HMB
  go_loopw [13,14] (fun v13 v14 wr=>∃ (i:Nat) (col:Nat→Int) (A:Option Addr) (n c:Nat) (K:List OpT),i≤n0∧v14=.int .i64 i∧v13=.int .i64 K.length∧Hid (AcR by' RB MB w1 wr i col A n c K)) (fun _ v14 _=>n0 - (RowKit.intOf v14).toNat)
  case atStart=>exact ⟨0,col0,none,0,0,[],by omega,rfl,rfl,κ44 ⟨HA3.out,DOk.nil,List.Pairwise.nil,Nat.zero_le _⟩⟩
  case round=>
   obtain ⟨i,col,A,n,c,K,hi,rfl,rfl,HR⟩:=hrel
   by_cases hlt:i < n0
   ·obtain ⟨x,hx⟩:∃ x,L[i]?=some x:=⟨_,List.getElem?_eq_getElem (by have:=HN0.out;omega)⟩
    obtain ⟨l,hl⟩:=HIn.out x (List.mem_of_getElem? hx)
    have HLin:=κ44 hl
    have hbw:Below w.heap.size w wr:=bel2 HB1.out HR.out.1.bel
    obtain ⟨bb,off,rfl,hbl,q0,q1,q2,q3,q4,q5,q6,q7,q8,q9⟩:=act_at (HS.out.below hbw) hx
    have j0:(0:Int)≤(i:Int):=by omega
    have j1:(i:Int) < (n0:Int):=by omega
    have hk60:K.length≤90:=by have:=HR.out.2.2.2;omega
    have HBw:=κ44 hbw
    clear hx hl hbw hbl
    obtain ⟨W,hW⟩:∃ W,W=(wr.alloc (.cells x.cells 87)).alloc (.cells x.o.cells 31):=⟨_,rfl⟩
    have hWb:Below wr.heap.size wr W:=by rw [hW];exact ((Below.refl _ _).alloc (Nat.le_refl _) _).alloc (by simp) _
    have HA:=κ44 (HR.out.1.below hWb)
    have HK:=κ44 HR.out.2
    have HXz:Hid (col wr.heap.size=0):=κ44 (Classical.byContradiction fun hn=>by have:=HR.out.1.rep.lt _ hn;omega)
    have hXc:∀ j u,x.cells[j]?=some u→W.cell? ⟨wr.heap.size,j,none⟩=some u:=fun j u hu=>by
     rw [hW,World.cell?_alloc_lt _ _ _ (by simp),World.cell?_alloc_new]
     exact hu
    have HX:Hid (∀ w',Below W.heap.size W w'→w'.cell? ⟨wr.heap.size,0,none⟩=some (.bool x.jn)∧w'.cell? ⟨wr.heap.size,1,none⟩=some (.int .i64 x.o.t)∧w'.cell? ⟨wr.heap.size,2,none⟩=some (.int .i64 x.o.b)∧w'.cell? ⟨wr.heap.size,3,none⟩=some (.int .i64 x.o.n)∧w'.cell? ⟨wr.heap.size,4,none⟩=some (.int .u8 x.o.k)∧w'.cell? ⟨wr.heap.size,5,none⟩=some (.int .i64 x.o.nd)∧w'.cell? ⟨wr.heap.size,6,none⟩=some (.int .i64 x.o.ot)∧w'.cell? ⟨wr.heap.size,7,none⟩=some (.string x.o.nm)∧w'.cell? ⟨wr.heap.size,8,none⟩=some (.string x.o.vl)∧w'.cell? ⟨wr.heap.size,9,none⟩=some (.slice x.la x.ln x.lc)):=κ44 fun w' hb=>by
     have hl:wr.heap.size < W.heap.size:=by rw [hW];simp;omega
     have g:∀ j u,x.cells[j]?=some u→w'.cell? ⟨wr.heap.size,j,none⟩=some u:=fun j u hu=>(hb.cell (p:=⟨wr.heap.size,j,none⟩) hl).trans (hXc j u hu)
     exact ⟨g 0 _ rfl,g 1 _ rfl,g 2 _ rfl,g 3 _ rfl,g 4 _ rfl,g 5 _ rfl,g 6 _ rfl,g 7 _ rfl,g 8 _ rfl,g 9 _ rfl⟩
    have hO1:SlV opE W (.slice (some ⟨wr.heap.size+1,0,none⟩) 1 1) [x.o]:=by
     have:=SlV.one (E:=opE) (wr.alloc (.cells x.cells 87)) x.o 31 x.o.cells rfl
     rwa [World.size_alloc,←hW] at this
    have hbW:Below w.heap.size w W:=bel2 HBw.out hWb
    obtain ⟨g1,hg1⟩:∃ g1,longOps 1 [x.o]=g1:=⟨_,rfl⟩
    obtain ⟨g2,hg2⟩:∃ g2,longOps 20 l=g2:=⟨_,rfl⟩
    obtain ⟨N1,hN1⟩:∃ N1:Int,(if g1 then 1 else 0)=N1:=⟨_,rfl⟩
    obtain ⟨N2,hN2⟩:∃ N2:Int,(if g2 then 1 else 0)=N2:=⟨_,rfl⟩
    have HL1:Hid (∀ w',Below W.heap.size W w'→Calls Tryz.prog 37 #[.slice (some ⟨wr.heap.size+1,0,none⟩) 1 1,.int .i64 1] w' fun e w''=>e=.returned (.int .i64 N1)∧w''=w'):=κ44 fun w' hb=>by
     have:=longOps_any _ 1 1 1 [x.o] w' (hO1.below hb) (by unfold maxLen;omega) (by omega)
     rw [hg1,hN1] at this
     exact this
    have HL2:Hid (∀ w',Below W.heap.size W w'→Calls Tryz.prog 37 #[.slice x.la x.ln x.lc,.int .i64 20] w' fun e w''=>e=.returned (.int .i64 N2)∧w''=w'):=κ44 fun w' hb=>by
     have:=longOps_any x.la x.ln x.lc 20 l w' ((HLin.out.sl.below hbW).below hb) HLin.out.n (by omega)
     rw [hg2,hN2] at this
     exact this
    have HGs:Hid (0 < N1+N2∨(g1=false∧g2=false)):=κ44 (by
     rw [←hN1,←hN2]
     cases g1 <;> cases g2 <;> simp)
    have HGe:=κ44 (And.intro hg1 hg2)
    have s1:IntKind.i64.wrap (N1+N2)=N1+N2:=by
     rw [IntKind.wrap_i64,←hN1,←hN2]
     cases g1 <;> cases g2 <;> decide
    have HWe:=κ44 hW.symm
    have HBW:=κ44 hbW
    clear hW hWb hXc hO1 hbW hg1 hg2 hN1 hN2 HR
    go_upto_region 16 with (fail)
    rw [show (wr.alloc (.cells #[.bool x.jn,.int .i64 x.o.t,.int .i64 x.o.b,.int .i64 x.o.n,.int .u8 x.o.k,.int .i64 x.o.nd,.int .i64 x.o.ot,.string x.o.nm,.string x.o.vl,.slice x.la x.ln x.lc] 87)).alloc (.cells #[.int .i64 x.o.t,.int .i64 x.o.b,.int .i64 x.o.n,.int .u8 x.o.k,.int .i64 x.o.nd,.int .i64 x.o.ot,.string x.o.nm,.string x.o.vl] 31)=W from HWe.out]
    clear HWe q0 q1 q2 q3 q4 q5 q6 q7 q8 q9
    have HS9:Hid (∀ w',Below W.heap.size W w'→Below W.heap.size W w'∧w'.cell? ⟨wr.heap.size,9,none⟩=some (.slice x.la x.ln x.lc)):=κ44 fun w' hb=>⟨hb,(HX.out w' hb).2.2.2.2.2.2.2.2.2⟩
    have e9:=(HS9.out _ (Below.refl _ _).drew).2
    go_cut [83] (fun v83 wd=>v83=.bool (decide (0 < N1+N2))∧Hid (Below W.heap.size W wd))
    case first=>
     go_region_held_law (fun w'=>Below W.heap.size W w'∧w'.cell? ⟨wr.heap.size,9,none⟩=some (.slice x.la x.ln x.lc)) (exact HS9.out _ (by go_grown))
      (first
       | (go_at_call 37;with_reducible refine (HL1.out _ (by go_grown)).mono ?_;rintro e wA ⟨rfl,rfl⟩)
       | (go_at_call 37;with_reducible refine (HL2.out _ (by go_grown)).mono ?_;rintro e wA ⟨rfl,rfl⟩))
     all_goals
      rename_i hH
      have HH:=κ44 hH.1
      clear hH
      go_wp2_with fail
      go_meet
      case rel=>exact ⟨rfl,HH⟩
    case rest=>
    obtain ⟨rfl,HB4⟩:=hcut
    clear HL1 HL2 HS9 e9 s1
    by_cases tl:0 < N1+N2
    ·go_wp2_with fail
     go_ret
     exact ⟨rfl,bel2 HBW.out HB4.out⟩
    have HGn:Hid (longOps 1 [x.o]=false∧longOps 20 l=false):=κ44 (by
     rcases HGs.out with h | h
     ·exact absurd h tl
     ·rw [HGe.out.1,HGe.out.2];exact h)
    have HWo:=κ44 ((longs_wf HGn.out.1 (fun y hy=>by rw [List.mem_singleton.1 hy];exact HLin.out.wo)).2 x.o (by simp))
    have HWl:=κ44 (longs_wf HGn.out.2 HLin.out.wl)
    have HA4:=κ44 (HA.out.below HB4.out)
    have HBw4:=κ44 (bel2 HBW.out HB4.out)
    have HX4:Hid (∀ w',Below wc.heap.size wc w'→_):=κ44 fun w' hb=>HX.out w' (bel2 HB4.out hb)
    have HG4:=κ44 (HG.out.below HBw4.out)
    obtain ⟨e0,e1,e2,e3,e4,e5,e6,e7,e8,e9⟩:=HX4.out wc (Below.refl _ _)
    obtain ⟨jb,hjb⟩:∃ jb,x.jn=jb:=⟨_,rfl⟩
    rw [hjb] at e0
    clear hjb HGs HGe HGn HX HA HB4 HBW HBw HG
    cases jb with
    | true=>
     have HOw:=κ44 (ownOps_any x.la x.ln x.lc l wc (HLin.out.sl.below HBw4.out) (by have:=HWl.out.1;omega))
     go_wp2_with fail
     refine HOw.out.mono ?_
     rintro e w5 ⟨v',rfl,hr5,hb5⟩
     obtain ⟨A1,n1,c1,rfl⟩:=hr5.slice
     have HA5:=κ44 (HA4.out.below hb5)
     have HSl5:=κ44 hr5.sl
     have e9':=(HX4.out w5 hb5).2.2.2.2.2.2.2.2.2
     have HE9:Hid (∀ w',Below w5.heap.size w5 w'→w'.cell? ⟨wr.heap.size,9,none⟩=some (.slice x.la x.ln x.lc)):=κ44 fun w' hb=>(HX4.out w' (bel2 hb5 hb)).2.2.2.2.2.2.2.2.2
     have HJ:=κ44 (join_any ea w1 col RB by' K l A1 n1 c1 w5 HA5.out.rep HG1.out HA5.out.bel HA5.out.ge f2 f3 f4 f5 f6 f7 f8 f9 HK.out.1 HK.out.2.1 (by omega) HSl5.out (by have:=HWl.out.1;omega) HWl.out.2)
     unfold JoEnds ptrV at HJ
     clear hr5 hb5 HOw e0 e1 e2 e3 e4 e5 e6 e7 e8 e9 HX4 HA4 HG4
     rcases join_both HK.out.1 HK.out.2.1 HWl.out.2 with ⟨q,hm,hp⟩ | ⟨F,hm,hp,hln,hso,hD,hRi,hle⟩
     ·rw [hp] at HJ
      simp only at HJ
      go_wp2_with fail
      refine HJ.out.mono ?_
      rintro e w6 ⟨ev,rfl,hev,_,hb6⟩
      have HEv:=κ44 hev
      have HA6:=κ44 (HA5.out.below hb6)
      have e96:=HE9.out w6 hb6
      clear hev hb6 e9'
      have HMJ:=κ44 (mJoin_any MB by' A n c K x.la x.ln x.lc l w6 HA6.out.mod (HLin.out.sl.below (bel2 HB1.out HA6.out.bel)) HK.out.1 HWl.out.2 (by omega) (by have:=HWl.out.1;omega))
      unfold JmEnds ptrV at HMJ
      rw [hm] at HMJ
      simp only at HMJ
      clear HJ HA5 HSl5
      go_wp2_with fail
      refine HMJ.out.mono ?_
      rintro e w7 ⟨rfl,hb7⟩
      have HA7:=κ44 (HA6.out.below hb7)
      have hev7:=HEv.out.below hb7
      clear hb7 HMJ HA6 HEv
      obtain ⟨w8,hw8⟩:∃ w8,w8=w7.alloc (.cells #[.int .i64 (q.1:Nat),.int .i64 q.2] 90):=⟨_,rfl⟩
      have hb8:Below w7.heap.size w7 w8:=by rw [hw8];exact (Below.refl _ _).alloc (Nat.le_refl _) _
      have h80:w8.cell? ⟨w7.heap.size,0,none⟩=some (.int .i64 (q.1:Nat)):=by rw [hw8];simp [go_sem]
      have h81:w8.cell? ⟨w7.heap.size,1,none⟩=some (.int .i64 q.2):=by rw [hw8];simp [go_sem]
      have HA8:=κ44 (HA7.out.below hb8)
      have HG8:=κ44 (HG1.out.below HA8.out.bel)
      have HFl:=κ44 (faulted2_ok ea ev q.1 q.2 (q.1:Nat) w8 (hev7.below hb8) (HG8.out.all HF.out) (HG8.out.tv f20) (by first | rfl | simp))
      have Hw8:=κ44 hw8.symm
      clear hev7 hb8 HA7 hw8
      go_upto_region 21 with (fail)
      rw [show w7.alloc (.cells #[.int .i64 (q.1:Nat),.int .i64 q.2] 90)=w8 from Hw8.out]
      clear Hw8
      go_wp2_with fail
      refine HFl.out.mono ?_
      rintro e w9 ⟨rfl,hb9⟩
      have HA9:=κ44 (HA8.out.below hb9)
      clear hb9 HFl HA8 h80 h81
      have s1:IntKind.i64.wrap ((K.length:Int)+0)=(K.length:Int):=by rw [IntKind.wrap_i64];omega
      have s2:IntKind.i64.wrap (K.length:Int)=(K.length:Int):=by rw [IntKind.wrap_i64];omega
      by_cases t60:60 < K.length
      ·have i60:(60:Int) < (K.length:Int):=by omega
       go_wp2_with fail
       go_ret
       exact ⟨rfl,bel2 HB1.out HA9.out.bel⟩
      have i60:¬ (60:Int) < (K.length:Int):=by omega
      go_wp2_with fail
      go_roundw
      case rel=>exact ⟨i+1,col,A,n,c,K,by omega,by go_num,by first | rfl | simp,κ44 ⟨HA9.out,HK.out.1,HK.out.2.1,by omega⟩⟩
      case measure=>simp [RowKit.intOf];omega
     ·rw [hp] at HJ
      simp only at HJ
      go_wp2_with fail
      refine HJ.out.mono ?_
      rintro e w6 ⟨rfl,hRT⟩
      rw [hso] at hRT
      rw [hln]
      have e96:w6.cell? ⟨wr.heap.size,9,none⟩=some (.slice x.la x.ln x.lc):=by
       obtain ⟨_,_,_,hFr⟩:=hRT
       exact (hFr.cell (p:=⟨wr.heap.size,9,none⟩) (World.block_lt_of_cell? w5 _ e9') (fun hx=>hx HXz.out)).trans e9'
      clear e9'
      obtain ⟨col',hA6⟩:=HA5.out.join1 hRT
      have HA6:=κ44 hA6
      clear hRT hA6
      have HMJ:=κ44 (mJoin_any MB by' A n c K x.la x.ln x.lc l w6 HA6.out.mod (HLin.out.sl.below (bel2 HB1.out HA6.out.bel)) HK.out.1 HWl.out.2 (by omega) (by have:=HWl.out.1;omega))
      unfold JmEnds ptrV at HMJ
      rw [hm] at HMJ
      simp only at HMJ
      clear HJ HA5 HSl5
      go_wp2_with fail
      refine HMJ.out.mono ?_
      rintro e w7 ⟨rfl,⟨A',n',c',hm7,hA'⟩,hF7⟩
      have HA7:=κ44 (HA6.out.join2 hm7 hA' hF7)
      have hev7:ErrVal ea w7 .nilIface 0 (-1):=errA_val ea 0 (by omega) w7
      clear hm7 hA' hF7 HMJ HA6
      obtain ⟨w8,hw8⟩:∃ w8,w8=w7.alloc (.cells #[.int .i64 0,.int .i64 (-1)] 90):=⟨_,rfl⟩
      have hb8:Below w7.heap.size w7 w8:=by rw [hw8];exact (Below.refl _ _).alloc (Nat.le_refl _) _
      have h80:w8.cell? ⟨w7.heap.size,0,none⟩=some (.int .i64 0):=by rw [hw8];simp [go_sem]
      have h81:w8.cell? ⟨w7.heap.size,1,none⟩=some (.int .i64 (-1)):=by rw [hw8];simp [go_sem]
      have HA8:=κ44 (HA7.out.below hb8)
      have HG8:=κ44 (HG1.out.below HA8.out.bel)
      have HFl:=κ44 (faulted2_ok ea .nilIface 0 (-1) 0 w8 (hev7.below hb8) (HG8.out.all HF.out) (HG8.out.tv f20) (by first | rfl | simp))
      have Hw8:=κ44 hw8.symm
      clear hev7 hb8 HA7 hw8
      go_upto_region 21 with (fail)
      rw [show w7.alloc (.cells #[.int .i64 0,.int .i64 (-1)] 90)=w8 from Hw8.out]
      clear Hw8
      go_wp2_with fail
      refine HFl.out.mono ?_
      rintro e w9 ⟨rfl,hb9⟩
      have HA9:=κ44 (HA8.out.below hb9)
      clear hb9 HFl HA8 h80 h81
      have hFl:F.length≤400:=by have:=(join_ok HK.out.1 HK.out.2.1 HWl.out.2 hp).2.2.1;rw [hln] at this;omega
      obtain ⟨m,hmm⟩:∃ m,(sortOps (K++F)).length=m:=⟨_,rfl⟩
      have hmk:m=K.length+F.length:=by rw [←hmm,hle]
      have s1:IntKind.i64.wrap ((K.length:Int)+(F.length:Int))=(m:Int):=by rw [IntKind.wrap_i64];omega
      have HD:=κ44 (And.intro hD (And.intro hRi hmm))
      clear hD hRi hle hp hm hso hln hmm
      by_cases t60:60 < m
      ·have i60:(60:Int) < (m:Int):=by omega
       go_wp2_with fail
       go_ret
       exact ⟨rfl,bel2 HB1.out HA9.out.bel⟩
      have i60:¬ (60:Int) < (m:Int):=by omega
      go_wp2_with fail
      go_roundw
      case rel=>exact ⟨i+1,col',A',n',c',sortOps (K++F),by omega,by go_num,by rw [HD.out.2.2];congr 1;omega,κ44 ⟨HA9.out,HD.out.1,HD.out.2.1,by rw [HD.out.2.2];omega⟩⟩
      case measure=>simp [RowKit.intOf];omega
    | false=>
     obtain ⟨w4,rfl⟩:∃ w4,w4=wc:=⟨_,rfl⟩
     obtain ⟨W5,hW5⟩:∃ W5,W5=w4.alloc (.cells x.o.cells 31):=⟨_,rfl⟩
     have hb5:Below w4.heap.size w4 W5:=by rw [hW5];exact (Below.refl _ _).alloc (Nat.le_refl _) _
     have HO5:Hid (OpAt W5 w4.heap.size x.o∧W5.frozen? ⟨w4.heap.size,3,none⟩=false):=κ44 (by rw [hW5];exact ⟨OpAt.start w4 x.o _,by simp [go_sem]⟩)
     have HB5:=κ44 hb5
     have HW5:=κ44 hW5.symm
     clear hW5 hb5 HX4
     go_upto_region 27 with (fail)
     rw [show w4.alloc (.cells #[.int .i64 x.o.t,.int .i64 x.o.b,.int .i64 x.o.n,.int .u8 x.o.k,.int .i64 x.o.nd,.int .i64 x.o.ot,.string x.o.nm,.string x.o.vl] 31)=W5 from HW5.out]
     obtain ⟨d0,d1,d2,d3,d4,d5,d6,d7⟩:=HO5.out.1
     have fz3:=HO5.out.2
     clear HW5 e0 e1 e2 e3 e4 e5 e6 e7 e8 e9
     obtain ⟨tb,htb⟩:∃ tb,(!(x.o.k == 109) && !(x.o.k == 105) && !(x.o.k == 100))=tb:=⟨_,rfl⟩
     go_cut [129] (fun v129 wd=>v129=.bool tb∧wd=W5)
     case first=>
      clear HA4 HO5 HB5 HK HWo HWl HLin
      by_cases z1:x.o.k=109
      ·go_wp2_with fail
       go_meet
       case rel=>exact ⟨by rw [←htb];simp [z1],rfl⟩
      ·by_cases z2:x.o.k=105
       ·go_wp2_with fail
        go_meet
        case rel=>exact ⟨by rw [←htb];simp [z2],rfl⟩
       ·by_cases z3:x.o.k=100
        ·go_wp2_with fail
         go_meet
         case rel=>exact ⟨by rw [←htb];simp [z3],rfl⟩
        ·go_wp2_with fail
         go_meet
         case rel=>exact ⟨by rw [←htb];rfl,rfl⟩
     case rest=>
     obtain ⟨rfl,hwd⟩:=hcut
     subst wc
     have HKd:Hid (kindOf x.o.k=if tb then 115 else x.o.k):=κ44 (by
      rw [←htb]
      unfold kindOf
      by_cases z1:x.o.k=109
      ·simp [z1]
      ·by_cases z2:x.o.k=105
       ·simp [z2]
       ·by_cases z3:x.o.k=100
        ·simp [z3]
        ·simp [z1,z2,z3])
     clear htb
     go_upto_if 129 with (fail)
     go_cut [21] (fun v21 wd=>v21=.pointer (some ⟨w4.heap.size,0,none⟩)∧Hid (OpAt wd w4.heap.size (kinded x.o)∧Below w4.heap.size w4 wd))
     case first=>
      cases tb with
      | true=>
       go_wp2_with fail
       go_meet
       case rel=>
        refine ⟨rfl,κ44 ⟨?_,below_set HB5.out (Nat.le_refl _) _⟩⟩
        have hk:kindOf x.o.k=115:=HKd.out
        have g:∀ {j:Nat} {u:Value},j≠3→W5.cell? ⟨w4.heap.size,j,none⟩=some u→(W5.setCell ⟨w4.heap.size,3,none⟩ (.int .u8 115)).cell? ⟨w4.heap.size,j,none⟩=some u:=fun hj hc=>by
         rw [World.cell?_setCell_other _ _ _ _ (by intro e;cases e;exact hj rfl)];exact hc
        exact ⟨g (by omega) d0,g (by omega) d1,g (by omega) d2,by rw [show (kinded x.o).k=115 from hk];exact World.cell?_setCell_same' _ _ _ (by rw [d3];rfl),g (by omega) d4,g (by omega) d5,g (by omega) d6,g (by omega) d7⟩
      | false=>
       go_wp2_with fail
       go_meet
       case rel=>
        have hk:kindOf x.o.k=x.o.k:=HKd.out
        exact ⟨rfl,κ44 ⟨⟨d0,d1,d2,by rw [show (kinded x.o).k=x.o.k from hk];exact d3,d4,d5,d6,d7⟩,HB5.out⟩⟩
     case rest=>
     obtain ⟨rfl,HC5⟩:=hcut
     obtain ⟨w5,rfl⟩:∃ w5,w5=wc:=⟨_,rfl⟩
     have HA5:=κ44 (HA4.out.below HC5.out.2)
     have hkw:=kinded_wf HWo.out
     have hkk:=kinded_k x.o
     obtain ⟨o,ho⟩:∃ o,kinded x.o=o:=⟨_,rfl⟩
     rw [ho] at HC5 hkw hkk
     have HOw:=κ44 hkw
     have HOk:=κ44 hkk
     obtain ⟨d0,d1,d2,d3,d4,d5,d6,d7⟩:=HC5.out.1
     have HM1:=κ44 (make1_any ea col RB by' K o w5 HA5.out.rep (HG1.out.below HA5.out.bel) f2 f3 f4 f5 f6 f8 f10 HK.out.1 (by omega) hb0 hb4 hkw)
     unfold M1Ends ptrV at HM1
     clear ho hkw hkk HA4 HB5 HO5 HKd fz3
     go_wp2_with fail
     refine HM1.out.mono ?_
     rintro e w6 ⟨⟨r,er⟩,hmk,rfl,hb6⟩
     have HMk:=κ44 hmk
     have her:=hmk.le
     have HA6:=κ44 (HA5.out.below hb6)
     obtain ⟨E,hE⟩:∃ E,errW ea er=E:=⟨_,rfl⟩
     have HE:=κ44 hE
     simp only [hE]
     obtain ⟨W7,hW7⟩:∃ W7,W7=w6.alloc (.cells r.cells 31):=⟨_,rfl⟩
     have hb7:Below w6.heap.size w6 W7:=by rw [hW7];exact (Below.refl _ _).alloc (Nat.le_refl _) _
     have HO7:Hid (OpAt W7 w6.heap.size r):=κ44 (by rw [hW7];exact OpAt.start w6 r _)
     have HA7:=κ44 (HA6.out.below hb7)
     have HC7:=κ44 ((HC5.out.1.below hb6).below hb7)
     have HM2:=κ44 (mMake_any MB by' A n c K o W7 HA7.out.mod HK.out.1 HK.out.2.1 (by omega) hb0 hb4 HOw.out HOk.out)
     unfold MmEnds ptrV at HM2
     have HW7:=κ44 hW7.symm
     clear hmk hb6 hb7 hW7 hE HM1 HA5 HA6 HC5 d0 d1 d2 d3 d4 d5 d6 d7
     go_upto_region 30 with (fail)
     rw [show w6.alloc (.cells #[.int .i64 r.t,.int .i64 r.b,.int .i64 r.n,.int .u8 r.k,.int .i64 r.nd,.int .i64 r.ot,.string r.nm,.string r.vl] 31)=W7 from HW7.out]
     clear HW7
     obtain ⟨d0,d1,d2,d3,d4,d5,d6,d7⟩:=HC7.out
     go_wp2_with fail
     refine HM2.out.mono ?_
     rintro e w8 ⟨r',hmk',rfl,hb8⟩
     obtain rfl:(r,er)=r':=HMk.out.unique HK.out.1 hmk'
     obtain ⟨W9,hW9⟩:∃ W9,W9=w8.alloc (.cells r.cells 31):=⟨_,rfl⟩
     have hb9:Below w8.heap.size w8 W9:=by rw [hW9];exact (Below.refl _ _).alloc (Nat.le_refl _) _
     have HZ8:Hid (col w8.heap.size=0):=κ44 (Classical.byContradiction fun hn=>by have:=(HA7.out.below hb8).rep.lt _ hn;omega)
     have HO9:Hid (OpAt W9 w8.heap.size r):=κ44 (by rw [hW9];exact OpAt.start w8 r _)
     have HA9:=κ44 ((HA7.out.below hb8).below hb9)
     have HO79:=κ44 ((HO7.out.below hb8).below hb9)
     have HG9:=κ44 (HG1.out.below HA9.out.bel)
     have HCd:Hid (Calls Tryz.prog 36 #[E,.int .i64 er] W9 fun e w'=>e=.returned (.bool true)∧Below W9.heap.size W9 w'):=κ44 (by
      refine (coded2_any ea E er (-1) er W9 (by rw [←HE.out];exact errA_val ea er her W9) (HG9.out.all HF.out) (HG9.out.tv f20)).mono ?_
      rintro e w' ⟨rfl,hb⟩
      exact ⟨by simp,hb⟩)
     have heo:∀ w,(Op.equalIn 10000 31 (opV r) (opV r)).run Tryz.prog w=.ok true w:=fun w=>by rw [eqOp_run,(opEqB_iff r r).2 rfl]
     have HW9:=κ44 hW9.symm
     clear hmk' hb8 hb9 hW9 HM2 HA7 HO7 HC7 d0 d1 d2 d3 d4 d5 d6 d7
     go_upto_region 31 with (fail)
     rw [show w8.alloc (.cells #[.int .i64 r.t,.int .i64 r.b,.int .i64 r.n,.int .u8 r.k,.int .i64 r.nd,.int .i64 r.ot,.string r.nm,.string r.vl] 31)=W9 from HW9.out]
     clear HW9
     go_wp2_with fail
     refine HCd.out.mono ?_
     rintro e w10 ⟨rfl,hb10⟩
     have HA10:=κ44 (HA9.out.below hb10)
     have HO10:=κ44 (HO9.out.below hb10)
     have HO71:=κ44 (HO79.out.below hb10)
     obtain ⟨d0,d1,d2,d3,d4,d5,d6,d7⟩:=HO10.out
     obtain ⟨c0',c1',c2',c3',c4',c5',c6',c7'⟩:=HO71.out
     clear hb10 HCd HA9 HO9 HO79 HG9
     by_cases ter:er=0
     ·have hz:¬ (0:Int) < (er:Int):=by omega
      have hmo:MadeOk by' K r:=by
       have:=HMk.out
       rw [ter] at this
       exact made_ok this HK.out.1 hb0 hb4 HOw.out
      obtain ⟨hp,hm,hso,hD,hRi⟩:=join_made hmo HK.out.1 HK.out.2.1 (by omega)
      have HDR:=κ44 (And.intro hD hRi)
      have hrw:=hD.wf r (by simp)
      have HRw:=κ44 hrw
      obtain ⟨W11,hW11⟩:∃ W11,W11=w10.alloc (.cells r.cells 31):=⟨_,rfl⟩
      have hb11:Below w10.heap.size w10 W11:=by rw [hW11];exact (Below.refl _ _).alloc (Nat.le_refl _) _
      have HA11:=κ44 (HA10.out.below hb11)
      have hs11:SlV opE W11 (.slice (some ⟨w10.heap.size,0,none⟩) 1 1) [r]:=by rw [hW11];exact SlV.one (E:=opE) w10 r 31 r.cells rfl
      have HJ:=κ44 (join_any ea w1 col RB by' K [r] _ 1 1 W11 HA11.out.rep HG1.out HA11.out.bel HA11.out.ge f2 f3 f4 f5 f6 f7 f8 f9 HK.out.1 HK.out.2.1 (by omega) hs11 (by simp) (fun y hy=>by rw [List.mem_singleton.1 hy];exact hrw))
      unfold JoEnds ptrV at HJ
      rw [hp] at HJ
      simp only at HJ
      have HW11:=κ44 hW11.symm
      have HO11:=κ44 (HO10.out.below hb11)
      clear hW11 hb11 hs11 hp hD hRi hrw hmo HA10 HO10 HMk
      go_upto_region 34 with (fail)
      go_wp2_with (fail)
      rw [show w10.alloc (.cells #[.int .i64 r.t,.int .i64 r.b,.int .i64 r.n,.int .u8 r.k,.int .i64 r.nd,.int .i64 r.ot,.string r.nm,.string r.vl] 31)=W11 from HW11.out]
      refine HJ.out.mono ?_
      rintro e w12 ⟨rfl,hRT⟩
      rw [hso] at hRT
      have HO12:Hid (OpAt w12 w8.heap.size r):=κ44 (by
       obtain ⟨_,_,_,hFr⟩:=hRT
       exact HO11.out.fr hFr (fun hx=>hx HZ8.out))
      obtain ⟨col',hA12⟩:=HA11.out.join1 hRT
      obtain ⟨W13,hW13⟩:∃ W13,W13=w12.alloc (.cells r.cells 31):=⟨_,rfl⟩
      have hb13:Below w12.heap.size w12 W13:=by rw [hW13];exact (Below.refl _ _).alloc (Nat.le_refl _) _
      have HA13:=κ44 (hA12.below hb13)
      have hs13:SlV opE W13 (.slice (some ⟨w12.heap.size,0,none⟩) 1 1) [r]:=by rw [hW13];exact SlV.one (E:=opE) w12 r 31 r.cells rfl
      have HMJ:=κ44 (mJoin_any MB by' A n c K _ 1 1 [r] W13 HA13.out.mod hs13 HK.out.1 (fun y hy=>by rw [List.mem_singleton.1 hy];exact HRw.out) (by omega) (by simp))
      unfold JmEnds ptrV at HMJ
      rw [hm] at HMJ
      simp only at HMJ
      rw [hso] at HMJ
      have HW13:=κ44 hW13.symm
      clear d0 d1 d2 d3 d4 d5 d6 d7
      obtain ⟨d0,d1,d2,d3,d4,d5,d6,d7⟩:=HO12.out
      clear hW13 hb13 hs13 hm hRT hA12 HA11 HO11 HJ HW11 HO71 c0' c1' c2' c3' c4' c5' c6' c7'
      go_upto_region 35 with (fail)
      go_wp2_with (fail)
      rw [show w12.alloc (.cells #[.int .i64 r.t,.int .i64 r.b,.int .i64 r.n,.int .u8 r.k,.int .i64 r.nd,.int .i64 r.ot,.string r.nm,.string r.vl] 31)=W13 from HW13.out]
      refine HMJ.out.mono ?_
      rintro e w14 ⟨rfl,⟨A',n',c',hm14,hA'⟩,hF14⟩
      have HA14:=κ44 (HA13.out.join2 hm14 hA' hF14)
      obtain ⟨W15,hW15⟩:∃ W15,W15=w14.alloc (.cells #[.int .i64 0,.int .i64 (-1)] 90):=⟨_,rfl⟩
      have hb15:Below w14.heap.size w14 W15:=by rw [hW15];exact (Below.refl _ _).alloc (Nat.le_refl _) _
      have h150:W15.cell? ⟨w14.heap.size,0,none⟩=some (.int .i64 0):=by rw [hW15];simp [go_sem]
      have HA15:=κ44 (HA14.out.below hb15)
      have HW15:=κ44 hW15.symm
      clear hm14 hA' hF14 hb15 hW15 HA13 HA14 HMJ HW13 d0 d1 d2 d3 d4 d5 d6 d7
      go_upto_region 36 with (fail)
      rw [show w14.alloc (.cells #[.int .i64 0,.int .i64 (-1)] 90)=W15 from HW15.out]
      clear HW15
      have s1:IntKind.i64.wrap ((K.length:Int)+1)=((K.length+1:Nat):Int):=by rw [IntKind.wrap_i64];omega
      have l1:([r].length:Int)=1:=rfl
      go_wp2_with fail
      go_roundw
      case rel=>exact ⟨i+1,col',A',n',c',K++[r],by omega,by go_num,by rw [List.length_append];first | rfl | simp,κ44 ⟨HA15.out,HDR.out.1,HDR.out.2,by rw [List.length_append];have:=HK.out.2.2;simp;omega⟩⟩
      case measure=>simp [RowKit.intOf];omega
     ·have hpos:(0:Int) < (er:Int):=by omega
      go_wp2_with fail
      go_roundw
      case rel=>exact ⟨i+1,col,A,n,c,K,by omega,by go_num,rfl,κ44 ⟨HA10.out,HK.out.1,HK.out.2.1,by have:=HK.out.2.2;omega⟩⟩
      case measure=>simp [RowKit.intOf];omega
   ·obtain rfl:i=n0:=by omega
    have j1:¬ (i:Int) < (i:Int):=by omega
    have HA:=κ44 HR.out.1
    have HK:=κ44 HR.out.2
    have hl90:K.length≤90:=by have:=HK.out.2.2;omega
    have HGr:=κ44 (HG1.out.below HA.out.bel)
    obtain ⟨y,s,hR,hO⟩:=HA.out.rep
    have hsv:s.v=cntB K:=funext hO.v
    have hst:s.t=timeOf K:=hO.t
    have HRl:=κ44 hR
    obtain ⟨v0,hv0⟩:∃ v0:Int,(cntB K 0:Int)=v0:=⟨_,rfl⟩
    obtain ⟨v1,hv1⟩:∃ v1:Int,(cntB K 1:Int)=v1:=⟨_,rfl⟩
    obtain ⟨v2,hv2⟩:∃ v2:Int,(cntB K 2:Int)=v2:=⟨_,rfl⟩
    obtain ⟨v3,hv3⟩:∃ v3:Int,(cntB K 3:Int)=v3:=⟨_,rfl⟩
    obtain ⟨str,hstr⟩:∃ str,strOf K=str:=⟨_,rfl⟩
    obtain ⟨tm,htm⟩:∃ tm,timeOf K=tm:=⟨_,rfl⟩
    obtain ⟨tx,htx⟩:∃ tx,txtOf K nd=tx:=⟨_,rfl⟩
    have HC1:Hid (∀ w',Below wr.heap.size wr w'→Calls Tryz.prog 18 #[.pointer (some ⟨RB,0,none⟩)] w' fun e w''=>e=.returned (.string str)∧Below w'.heap.size w' w''):=κ44 fun w' hb=>by
     rw [←hstr]
     exact acState1 ea (HA.out.below hb) (HGr.out.below hb) f21 HK.out.1 (by omega)
    have HC2:Hid (∀ w',Below wr.heap.size wr w'→Calls Tryz.prog 42 #[.pointer (some ⟨MB,0,none⟩)] w' fun e w''=>e=.returned (.string str)∧Below w'.heap.size w' w''):=κ44 fun w' hb=>by
     rw [←hstr]
     exact acState2 (HA.out.below hb) HK.out.1 HK.out.2.1 (by omega)
    have HC3:Hid (∀ w',Below wr.heap.size wr w'→Calls Tryz.prog 19 #[.pointer (some ⟨RB,0,none⟩)] w' fun e w''=>e=.returned (.agg #[.int .i64 v0,.int .i64 v1,.int .i64 v2,.int .i64 v3])∧Below w'.heap.size w' w''):=κ44 fun w' hb=>by
     have:=repVector_any (HRl.out.below hb)
     rw [hsv] at this
     unfold vecV at this
     rw [hv0,hv1,hv2,hv3] at this
     exact this
    have HC4:Hid (∀ w',Below wr.heap.size wr w'→Calls Tryz.prog 43 #[.pointer (some ⟨MB,0,none⟩)] w' fun e w''=>e=.returned (.agg #[.int .i64 v0,.int .i64 v1,.int .i64 v2,.int .i64 v3])∧Below w'.heap.size w' w''):=κ44 fun w' hb=>by
     have:=mVector_any MB by' A n c K w' (HA.out.below hb).mod (fun o ho=>HK.out.1.fine ho) (by omega)
     rw [hv0,hv1,hv2,hv3] at this
     exact this
    have HC5:Hid (∀ w',Below wr.heap.size wr w'→Calls Tryz.prog 44 #[.pointer (some ⟨y.CB,0,none⟩)] w' fun e w''=>e=.returned (.int .i64 tm)∧w''=w'):=κ44 fun w' hb=>by
     rw [←htm,←hst]
     exact clockTime_any y.CB s.t w' (HRl.out.below hb).b'.k0
    have HC6:Hid (∀ w',Below wr.heap.size wr w'→Calls Tryz.prog 45 #[.pointer (some ⟨MB,0,none⟩)] w' fun e w''=>e=.returned (.int .i64 tm)∧Below w'.heap.size w' w''):=κ44 fun w' hb=>by
     rw [←htm]
     exact mTime_any MB by' A n c K w' (HA.out.below hb).mod (fun o ho=>HK.out.1.fine ho) HK.out.2.1 (by omega)
    have HC7:Hid (∀ w',Below wr.heap.size wr w'→Calls Tryz.prog 14 #[.pointer (some ⟨RB,0,none⟩)] w' fun e w''=>∃ A n c,e=.returned (.slice A n c)∧SlV opE w'' (.slice A n c) K∧Below w'.heap.size w' w''):=κ44 fun w' hb=>by
     refine (repOps_any col RB by' K w' (HA.out.below hb).rep (by omega)).mono ?_
     rintro e w'' ⟨v',rfl,hr,hbl⟩
     obtain ⟨A,n,c,rfl⟩:=hr.slice
     exact ⟨A,n,c,rfl,hr.sl,hbl⟩
    have HC8:Hid (∀ w',Below wr.heap.size wr w'→SlV opE w' (.slice A n c) K):=κ44 fun w' hb=>(HA.out.below hb).mod.sl
    have HC9:Hid (∀ w',Below wr.heap.size wr w'→Calls Tryz.prog 46 #[.pointer (some ⟨RB,0,none⟩),.agg #[.int .i64 (v 0),.int .i64 (v 1),.int .i64 (v 2),.int .i64 (v 3)]] w' fun e w''=>∃ A n c,e=.returned (.slice A n c)∧SlV opE w'' (.slice A n c) (diffI v K)∧Below w'.heap.size w' w''):=κ44 fun w' hb=>by
     have:=diffI_any col RB by' K v w' (HA.out.below hb).rep HK.out.1 (by omega)
     refine Calls.mono this ?_
     rintro e w'' ⟨v',rfl,hr,hbl⟩
     obtain ⟨A,n,c,rfl⟩:=hr.slice
     exact ⟨A,n,c,rfl,hr.sl,hbl⟩
    have HCA:Hid (∀ w',Below wr.heap.size wr w'→Calls Tryz.prog 47 #[.pointer (some ⟨MB,0,none⟩),.agg #[.int .i64 (v 0),.int .i64 (v 1),.int .i64 (v 2),.int .i64 (v 3)]] w' fun e w''=>∃ A n c,e=.returned (.slice A n c)∧SlV opE w'' (.slice A n c) (diffI v K)∧Below w'.heap.size w' w''):=κ44 fun w' hb=>by
     have:=mDiff_any MB by' A n c K v w' (HA.out.below hb).mod (fun o ho=>HK.out.1.fine ho) (by omega)
     refine Calls.mono this ?_
     rintro e w'' ⟨v',rfl,hr,hbl⟩
     obtain ⟨A,n,c,rfl⟩:=hr.slice
     exact ⟨A,n,c,rfl,hr.sl,hbl⟩
    have HCB:Hid (∀ w',Below wr.heap.size wr w'→Calls Tryz.prog 15 #[.pointer (some ⟨RB,0,none⟩),.int .i64 nd] w' fun e w''=>e=.returned (.string tx)∧Below w'.heap.size w' w''):=κ44 fun w' hb=>by
     rw [←htx]
     exact acText1 (HA.out.below hb) HK.out.1 (by omega) nd hnd
    have HCC:Hid (∀ w',Below wr.heap.size wr w'→Calls Tryz.prog 48 #[.pointer (some ⟨MB,0,none⟩),.int .i64 nd] w' fun e w''=>e=.returned (.string tx)∧Below w'.heap.size w' w''):=κ44 fun w' hb=>by
     rw [←htx]
     exact acText2 (HA.out.below hb) HK.out.1 HK.out.2.1 (by omega) nd
    have HS1:Hid (∀ w',Below wr.heap.size wr w'→Below wr.heap.size wr w'∧w'.cell? ⟨RB,0,none⟩=some (.pointer (some ⟨y.CB,0,none⟩))∧w'.cell? ⟨MB,1,none⟩=some (.slice A n c)):=κ44 fun w' hb=>⟨hb,(HRl.out.below hb).a.c0,(HA.out.below hb).mod.c1⟩
    have HS2:Hid (∀ w',Below wr.heap.size wr w'→Below wr.heap.size wr w'∧w'.cell? ⟨w.heap.size,0,none⟩=some (.int .i64 (v 0))∧w'.cell? ⟨w.heap.size,1,none⟩=some (.int .i64 (v 1))∧w'.cell? ⟨w.heap.size,2,none⟩=some (.int .i64 (v 2))∧w'.cell? ⟨w.heap.size,3,none⟩=some (.int .i64 (v 3))):=κ44 fun w' hb=>⟨hb,HVx.out w' (bel2 HA.out.bel hb)⟩
    have HBe:=κ44 (bel2 HB1.out HA.out.bel)
    have hLd:(diffI v K).length≤100000:=by have:=diffI_len v K;omega
    have hL0:K.length≤100000:=by omega
    have qv:=eqVecA v0 v1 v2 v3
    clear hR hO hsv hst hv0 hv1 hv2 hv3 hstr htm htx HR HG HS HIn HVx HG1 HB1 HRl HA HGr HK hl90
    go_upto_region 39 with (fail)
    as_aux_lemma=>
     obtain ⟨z0,z1⟩:=(HS1.out _ (Below.refl _ _).drew).2
     go_cut [216] (fun v216 wd=>v216=.bool false∧Hid (Below wr.heap.size wr wd))
     case first=>
      clear HC9 HCA HCB HCC HS2 hLd
      go_region_held_law (fun w'=>Below wr.heap.size wr w'∧w'.cell? ⟨RB,0,none⟩=some (.pointer (some ⟨y.CB,0,none⟩))∧w'.cell? ⟨MB,1,none⟩=some (.slice A n c)) (exact HS1.out _ (by go_grown))
       (first
        | (go_at_call 18;refine (HC1.out _ (by go_grown)).mono ?_;rintro e wA ⟨rfl,hbA⟩;have hA:=bel2 (w0:=wr) (by go_grown) hbA;have sA:=hA.size)
        | (go_at_call 42;refine (HC2.out _ (by go_grown)).mono ?_;rintro e wA ⟨rfl,hbA⟩;have hA:=bel2 (w0:=wr) (by go_grown) hbA;have sA:=hA.size)
        | (go_at_call 19;refine (HC3.out _ (by go_grown)).mono ?_;rintro e wA ⟨rfl,hbA⟩;have hA:=bel2 (w0:=wr) (by go_grown) hbA;have sA:=hA.size)
        | (go_at_call 43;refine (HC4.out _ (by go_grown)).mono ?_;rintro e wA ⟨rfl,hbA⟩;have hA:=bel2 (w0:=wr) (by go_grown) hbA;have sA:=hA.size)
        | (go_at_call 44;refine (HC5.out _ (by go_grown)).mono ?_;rintro e wA ⟨rfl,rfl⟩)
        | (go_at_call 45;refine (HC6.out _ (by go_grown)).mono ?_;rintro e wA ⟨rfl,hbA⟩;have hA:=bel2 (w0:=wr) (by go_grown) hbA;have sA:=hA.size)
        | (go_at_call 14;refine (HC7.out _ (by go_grown)).mono ?_;rintro e wA ⟨A1,n1,c1,rfl,hs1,hbA⟩;have hA:=bel2 (w0:=wr) (by go_grown) hbA;have sA:=hA.size)
        | (go_at_call 20;refine (sameOps_any _ _ _ _ _ _ K _ (by first | assumption | exact SlV.below (by assumption) (by assumption)) (HC8.out _ (by go_grown)) hL0).mono ?_;rintro e wA ⟨rfl,hbA⟩;have hA:=bel2 (w0:=wr) (by go_grown) hbA;have sA:=hA.size))
      all_goals
       rename_i hH
       clear hH
       go_wp2_with fail
       go_meet
       case rel=>exact ⟨rfl,κ44 (by assumption)⟩
     case rest=>
     obtain ⟨rfl,HE⟩:=hcut
     clear HC1 HC2 HC3 HC4 HC5 HC6 HC7 HC8 HS1 hL0 qv z0 z1
     go_upto_region 41 with (fail)
     have HS3:Hid (∀ w',Below wc.heap.size wc w'→Below wc.heap.size wc w'∧w'.cell? ⟨w.heap.size,0,none⟩=some (.int .i64 (v 0))∧w'.cell? ⟨w.heap.size,1,none⟩=some (.int .i64 (v 1))∧w'.cell? ⟨w.heap.size,2,none⟩=some (.int .i64 (v 2))∧w'.cell? ⟨w.heap.size,3,none⟩=some (.int .i64 (v 3))):=κ44 fun w' hb=>⟨hb,(HS2.out w' (bel2 HE.out hb)).2⟩
     obtain ⟨z0,z1,z2,z3⟩:=(HS3.out _ (Below.refl _ _).drew).2
     have hE:=HE.out
     go_region_held_law (fun w'=>Below wc.heap.size wc w'∧w'.cell? ⟨w.heap.size,0,none⟩=some (.int .i64 (v 0))∧w'.cell? ⟨w.heap.size,1,none⟩=some (.int .i64 (v 1))∧w'.cell? ⟨w.heap.size,2,none⟩=some (.int .i64 (v 2))∧w'.cell? ⟨w.heap.size,3,none⟩=some (.int .i64 (v 3))) (exact HS3.out _ (by go_grown))
      (first
       | (go_at_call 46;refine (HC9.out _ (bel2 HE.out (by go_grown))).mono ?_;rintro e wA ⟨A1,n1,c1,rfl,hs1,hbA⟩;have hA:=bel2 (w0:=wc) (by go_grown) hbA;have sA:=hA.size)
       | (go_at_call 47;refine (HCA.out _ (bel2 HE.out (by go_grown))).mono ?_;rintro e wA ⟨A2,n2,c2,rfl,hs2,hbA⟩;have hA:=bel2 (w0:=wc) (by go_grown) hbA;have sA:=hA.size)
       | (go_at_call 20;refine (sameOps_any _ _ _ _ _ _ (diffI v K) _ (by first | assumption | exact SlV.below (by assumption) (by assumption)) (by first | assumption | exact SlV.below (by assumption) (by assumption)) hLd).mono ?_;rintro e wA ⟨rfl,hbA⟩;have hA:=bel2 (w0:=wc) (by go_grown) hbA;have sA:=hA.size)
       | (go_at_call 15;refine (HCB.out _ (bel2 HE.out (by go_grown))).mono ?_;rintro e wA ⟨rfl,hbA⟩;have hA:=bel2 (w0:=wc) (by go_grown) hbA;have sA:=hA.size)
       | (go_at_call 48;refine (HCC.out _ (bel2 HE.out (by go_grown))).mono ?_;rintro e wA ⟨rfl,hbA⟩;have hA:=bel2 (w0:=wc) (by go_grown) hbA;have sA:=hA.size))
     all_goals
      rename_i hH
      have HH:=κ44 hH.1
      clear hH
      go_wp2_with fail
      go_ret
      exact ⟨rfl,bel2 HBe.out (bel2 HE.out HH.out)⟩
 ·have hb2':Below w.heap.size w w2:=bel2 HB1.out hb2
  have HB2:=κ44 hb2'
  have HCd:=κ44 (coded2_any ea (errV (ea 2)) 2 (-1) 2 w2 (errA_val ea 2 (by omega) w2) ((HG1.out.below hb2).all HF.out) ((HG1.out.below hb2).tv f20))
  clear hb2 hb2'
  by_cases t0:by' < 0
  ·go_wp2_with fail
   refine HCd.out.mono ?_
   rintro e w5 ⟨he5,hb5⟩
   obtain rfl:e=.returned (.bool true):=he5.trans (by simp)
   have HB5:=κ44 (bel2 HB2.out hb5)
   clear hb5 he5 HCd
   go_wp2_with fail
   go_ret
   exact ⟨rfl,HB5.out⟩
  ·have t1:4≤by':=by omega
   go_wp2_with fail
   refine HCd.out.mono ?_
   rintro e w5 ⟨he5,hb5⟩
   obtain rfl:e=.returned (.bool true):=he5.trans (by simp)
   have HB5:=κ44 (bel2 HB2.out hb5)
   clear hb5 he5 HCd
   go_wp2_with fail
   go_ret
   exact ⟨rfl,HB5.out⟩
end Go.Proofs.YtjekalilfhnpmaaGreatDoor
