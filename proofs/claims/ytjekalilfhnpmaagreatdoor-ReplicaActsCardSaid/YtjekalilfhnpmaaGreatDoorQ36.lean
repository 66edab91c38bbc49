/- The document's marks: a mark laid in, set. -/
import Derived.Deep.DeepCutAuto
import Derived.Test.YtjekalilfhnpmaaGreatDoorQ02
import Derived.Test.YtjekalilfhnpmaaGreatDoorQ07
import Derived.Test.YtjekalilfhnpmaaGreatDoorQ18
import Derived.Test.YtjekalilfhnpmaaGreatDoorQ30
theorem Go.Proofs.YtjekalilfhnpmaaGreatDoor.κ36 {p:Prop} (h:p):Go.RowKit.Hid p:=Go.Lib.hid h
namespace Go.Proofs.YtjekalilfhnpmaaGreatDoor
open Go Go.RowKit Go.Maps
set_option linter.unusedVariables false
set_option linter.unusedSimpArgs false
set_option maxHeartbeats 4000000
set_option maxRecDepth 100000
structure DSt (base MB:Nat) (v:Value) (L:List DMk) (w:World):Prop where
 ptr:w.cell? ⟨MB,0,none⟩=some v
 fz:∀ o,w.frozen? ⟨MB,o,none⟩=false
 own:Rw dmkE 180 base v L w
 ne:v.ownBlock≠some MB
 ge:base≤MB
theorem DSt.lt {base MB:Nat} {v:Value} {L:List DMk} {w:World} (h:DSt base MB v L w):MB < w.heap.size:=World.block_lt_of_cell? w _ h.ptr
theorem DSt.fr {X:Nat→Prop} {base MB:Nat} {v:Value} {L:List DMk} {w w':World} (hl:DSt base MB v L w) (h:Fr X w w') (h1:¬ X MB) (h2:∀ k,v.ownBlock=some k→¬ X k):DSt base MB v L w':=
 ⟨(h.cell hl.lt h1).trans hl.ptr,fun o=>(h.frozen (p:=⟨MB,o,none⟩) hl.lt h1).trans (hl.fz o),hl.own.kept (fun k hk=>h.block k (hl.own.lt k hk).2 (h2 k hk)),hl.ne,hl.ge⟩
theorem DSt.below {base MB:Nat} {v:Value} {L:List DMk} {w w':World} (h:DSt base MB v L w) (hb:Below w.heap.size w w'):DSt base MB v L w':=
 h.fr (X:=fun _=>False) (Fr.of_below hb) (fun h=>h) (fun _ _ h=>h)
theorem dlay_end {base MB:Nat} {v v2 v3:Value} {L L':List DMk} {w w2 w3:World} (hb:base≤w.heap.size) (h:DSt base MB v L w) (hb2:Below w.heap.size w w2) (hr:Rw dmkE 180 w.heap.size v3 L' w3) (hg:w2.grownBy w3 v2.ownBlock) (h2:∀ k,v2.ownBlock=some k→w.heap.size≤k∧k < w2.heap.size) :
  DSt base MB v3 L' (w3.setCell ⟨MB,0,none⟩ v3)∧Fr (fun k=>k=MB) w (w3.setCell ⟨MB,0,none⟩ v3)∧∀ k,v3.ownBlock=some k→w.heap.size≤k:=by
 have hlt:=h.lt
 have hsz2:=hb2.size
 have hb3:Below w.heap.size w w3:=hb2.grown hg hsz2 (fun k hk=>(h2 k hk).1)
 have hc:w3.cell? ⟨MB,0,none⟩=some v:=(hb3.cell (p:=⟨MB,0,none⟩) hlt).trans h.ptr
 refine ⟨⟨World.cell?_setCell_same _ _ _ hc,fun o=>?_,?_,fun e=>by have:=(hr.lt MB e).1;omega,h.ge⟩,⟨hb3.os,hb3.tape,hb3.output,by have:=hb3.size;simpa using this,fun k hk hx=>?_⟩,fun k hk=>(hr.lt k hk).1⟩
 ·have:=(hb3.frozen (p:=⟨MB,o,none⟩) hlt).trans (h.fz o)
  simpa using this
 ·have h4:Rw dmkE 180 w.heap.size v3 L' (w3.setCell ⟨MB,0,none⟩ v3):=hr.kept (fun k hk=>heap_setCell_other w3 ⟨MB,0,none⟩ k v3 (fun e=>by have:=(hr.lt k hk).1;simp at e;omega))
  exact ⟨h4.1,by
   rcases h4.2 with hn | ⟨g,cap,cur,e1,e2,e3⟩
   ·exact .inl hn
   ·exact .inr ⟨g,cap,cur,e1,by omega,e3⟩⟩
 ·exact (heap_setCell_other w3 ⟨MB,0,none⟩ k v3 hx).trans (hb3.block k hk)
abbrev MkC (B off:Nat) (x:DMk) (w:World):Prop:=w.cell? ⟨B,off,none⟩=some (.int .i64 x.nd)∧w.cell? ⟨B,off+1,none⟩=some (.string x.nm)∧w.cell? ⟨B,off+2,none⟩=some (.string x.vl)∧w.cell? ⟨B,off+3,none⟩=some (.int .i64 x.t)∧w.cell? ⟨B,off+4,none⟩=some (.int .i64 x.b)
theorem MkC.below {B off:Nat} {x:DMk} {w w':World} (h:MkC B off x w) (hb:Below w.heap.size w w'):MkC B off x w':=⟨cell_keep hb h.1,cell_keep hb h.2.1,cell_keep hb h.2.2.1,cell_keep hb h.2.2.2.1,cell_keep hb h.2.2.2.2⟩
theorem Rw.mk {base:Nat} {v:Value} {g n c:Nat} {L:List DMk} {w:World} (h:Rw dmkE 180 base v L w) (hv:v=.slice (some ⟨g,0,none⟩) n c) {i:Nat} {x:DMk} (hx:L[i]?=some x):MkC g (i*5) x w:=
 ⟨h.at' hv hx (j:=0) rfl,h.at' hv hx (j:=1) rfl,h.at' hv hx (j:=2) rfl,h.at' hv hx (j:=3) rfl,h.at' hv hx (j:=4) rfl⟩
theorem row_set1 {T:Type} {E:Enc T} {L:List T} {k i:Nat} {y z:T} {u:Value} (hy:L[k]?=some y) (hi:i < E.k) (hz:E.cells z=(E.cells y).set i u):E.row (L.set k z)=(E.row L).set (k*E.k+i) u:=by
 induction L generalizing k with
 | nil=>simp at hy
 | cons a r ih=>
  cases k with
  | zero=>
   simp at hy
   subst hy
   rw [List.set_cons_zero,Enc.row_cons,Enc.row_cons,hz,Nat.zero_mul,Nat.zero_add,List.set_append_left _ _ (by rw [E.len];exact hi)]
  | succ k=>
   rw [List.set_cons_succ,Enc.row_cons,Enc.row_cons,ih (by simpa using hy),List.set_append_right _ _ (by rw [E.len,Nat.add_mul];omega),E.len,show (k+1)*E.k+i - E.k=k*E.k+i by rw [Nat.add_mul];omega]
theorem drop_at' {T:Type} {L:List T} {i:Nat} {x:T} (h:L[i]?=some x):L.drop i=x :: L.drop (i+1):=by
 obtain ⟨hl,he⟩:=List.getElem?_eq_some_iff.1 h
 rw [List.drop_eq_getElem_cons hl,he]
theorem dset_end {base MB g n c k:Nat} {L:List DMk} {x y:DMk} {w:World} (h:DSt base MB (.slice (some ⟨g,0,none⟩) n c) L w) (hy:L[k]?=some y) :
  DSt base MB (.slice (some ⟨g,0,none⟩) n c) (L.set k x) (((((w.setCell ⟨g,k*5,none⟩ (.int .i64 x.nd)).setCell ⟨g,k*5+1,none⟩ (.string x.nm)).setCell ⟨g,k*5+2,none⟩ (.string x.vl)).setCell ⟨g,k*5+3,none⟩ (.int .i64 x.t)).setCell ⟨g,k*5+4,none⟩ (.int .i64 x.b))∧
  Fr (fun j=>j=g) w (((((w.setCell ⟨g,k*5,none⟩ (.int .i64 x.nd)).setCell ⟨g,k*5+1,none⟩ (.string x.nm)).setCell ⟨g,k*5+2,none⟩ (.string x.vl)).setCell ⟨g,k*5+3,none⟩ (.int .i64 x.t)).setCell ⟨g,k*5+4,none⟩ (.int .i64 x.b)):=by
 have hkl:=(List.getElem?_eq_some_iff.1 hy).1
 have hgM:MB≠g:=fun e=>h.ne (by rw [e];rfl)
 have hl:∀ z:DMk,(L.set k z).length=L.length:=fun z=>List.length_set
 have hg:∀ z:DMk,(L.set k z)[k]?=some z:=fun z=>by rw [List.getElem?_set_self hkl]
 obtain ⟨r1,g1⟩:=h.own.stored (L':=L.set k ⟨x.nd,y.nm,y.vl,y.t,y.b⟩) (k*5) (.int .i64 x.nd) (hl _) (row_set1 (i:=0) (E:=dmkE) hy (by decide) rfl)
 obtain ⟨r2,g2⟩:=r1.stored (L':=L.set k ⟨x.nd,x.nm,y.vl,y.t,y.b⟩) (k*5+1) (.string x.nm) (by rw [hl,hl]) (by rw [←List.set_set (l:=L) (a:=⟨x.nd,y.nm,y.vl,y.t,y.b⟩)];exact row_set1 (i:=1) (E:=dmkE) (hg _) (by decide) rfl)
 obtain ⟨r3,g3⟩:=r2.stored (L':=L.set k ⟨x.nd,x.nm,x.vl,y.t,y.b⟩) (k*5+2) (.string x.vl) (by rw [hl,hl]) (by rw [←List.set_set (l:=L) (a:=⟨x.nd,x.nm,y.vl,y.t,y.b⟩)];exact row_set1 (i:=2) (E:=dmkE) (hg _) (by decide) rfl)
 obtain ⟨r4,g4⟩:=r3.stored (L':=L.set k ⟨x.nd,x.nm,x.vl,x.t,y.b⟩) (k*5+3) (.int .i64 x.t) (by rw [hl,hl]) (by rw [←List.set_set (l:=L) (a:=⟨x.nd,x.nm,x.vl,y.t,y.b⟩)];exact row_set1 (i:=3) (E:=dmkE) (hg _) (by decide) rfl)
 obtain ⟨r5,g5⟩:=r4.stored (L':=L.set k x) (k*5+4) (.int .i64 x.b) (by rw [hl,hl]) (by rw [←List.set_set (l:=L) (a:=⟨x.nd,x.nm,x.vl,x.t,y.b⟩)];exact row_set1 (i:=4) (E:=dmkE) (hg _) (by decide) rfl)
 have hF:Fr (fun j=>j=g) w (((((w.setCell ⟨g,k*5,none⟩ (.int .i64 x.nd)).setCell ⟨g,k*5+1,none⟩ (.string x.nm)).setCell ⟨g,k*5+2,none⟩ (.string x.vl)).setCell ⟨g,k*5+3,none⟩ (.int .i64 x.t)).setCell ⟨g,k*5+4,none⟩ (.int .i64 x.b)):=
  ((((fr_of_grown (X:=fun j=>j=g) g1 rfl).trans (fr_of_grown (X:=fun j=>j=g) g2 rfl)).trans (fr_of_grown (X:=fun j=>j=g) g3 rfl)).trans (fr_of_grown (X:=fun j=>j=g) g4 rfl)).trans (fr_of_grown (X:=fun j=>j=g) g5 rfl)
 exact ⟨⟨(hF.cell h.lt hgM).trans h.ptr,fun o=>(hF.frozen (p:=⟨MB,o,none⟩) h.lt hgM).trans (h.fz o),r5,h.ne,h.ge⟩,hF⟩
def DLEnds (base MB:Nat) (v:Value) (L:List DMk) (x:DMk) (w:World) (e:Ending) (w':World):Prop:=
 ∃ v' L' is,e=.returned (.bool is)∧LayR L x L' is∧L'.length≤L.length+1∧DSt base MB v' L' w'∧Fr (Own MB v) w w'∧∀ k,v'.ownBlock=some k→v.ownBlock=some k∨w.heap.size≤k
theorem dlay_any (base MB:Nat) (v:Value) (x:DMk) (L:List DMk) (w:World) (hb:base≤w.heap.size) (hn:L.length≤1000) (h:DSt base MB v L w) :
  Calls Tryz.prog 191 #[.pointer (some ⟨MB,0,none⟩),.agg #[.int .i64 x.nd,.string x.nm,.string x.vl,.int .i64 x.t,.int .i64 x.b]] w (DLEnds base MB v L x w):=by
 obtain ⟨n,hn1⟩:∃ n,n=L.length:=⟨_,rfl⟩
 have H:=κ36 h
 have HN:=κ36 hn1
 have hn2:n≤1000:=by omega
 have hform:=h.own.form
 rw [←hn1] at hform
 obtain ⟨W,hW⟩:∃ W,W=w.alloc (.cells #[.int .i64 x.nd,.string x.nm,.string x.vl,.int .i64 x.t,.int .i64 x.b] 180):=⟨_,rfl⟩
 obtain ⟨BX,hBX⟩:∃ BX,BX=w.heap.size:=⟨_,rfl⟩
 have hbw:Below w.heap.size w W:=by rw [hW];exact (Below.refl _ _).alloc (Nat.le_refl _) _
 have HX:Hid (MkC BX 0 x W):=κ36 (by rw [hW,hBX];exact ⟨by simp [go_sem],by simp [go_sem],by simp [go_sem],by simp [go_sem],by simp [go_sem]⟩)
 have HBW:=κ36 hbw
 have HD:=κ36 (h.below hbw)
 have hMB:=h.lt
 have hXW:BX < W.heap.size:=World.block_lt_of_cell? _ _ HX.out.1
 clear h hn hn1 hbw
 rcases hform with ⟨rfl,hnil⟩ | ⟨g,c,rfl,hc,hcm,hbg,hgl⟩
 ·subst hnil
  have HFr:Hid (LayR [] x [x] true):=κ36 (LayR.fresh (A:=[]) (B:=[]) rfl (by simp) (by simp))
  clear hn2 HN
  go_enter Tryz.func191,Tryz.ntmps191
  go_wp2_with fail
  rw [←hW,←hBX]
  clear hW hBX
  go_loopw [5] (fun v5 wr=>v5=.int .i64 0∧Hid (Below W.heap.size W wr)) (fun v5 _=>(intOf v5).toNat)
  case atStart=>exact ⟨rfl,κ36 (Below.refl _ _)⟩
  case round=>
   obtain ⟨rfl,HB⟩:=hrel
   have HDr:=κ36 (HD.out.below HB.out)
   have p0:=HDr.out.ptr
   go_wp2_with fail
   go_quiet (fail)
   rename_i nq
   have HB2:=κ36 (below_drawn HB.out nq)
   clear p0 HB
   generalize wr.drewN nq=w5 at HB2 ⊢
   have p0:=(HD.out.below HB2.out).ptr
   go_wp2_with fail
   go_quiet (fail)
   rename_i nq
   have HB3:=κ36 (below_drawn HB2.out nq)
   clear p0 HB2
   generalize w5.drewN nq=wc at HB3 ⊢
   have HBc:Hid (Below w.heap.size w wc):=κ36 (HBW.out.trans (HB3.out.mono HBW.out.size))
   have p0:=(HD.out.below HB3.out).ptr
   have hwc:=HBc.out.size
   obtain ⟨x0,x1,x2,x3,x4⟩:=HX.out.below HB3.out
   rw [Nat.zero_add] at x1 x2 x3 x4
   have HSa:Hid (SlV dmkE wc (.slice none 0 0) []):=κ36 SlV.nil
   have HX3:=κ36 (HX.out.below HB3.out)
   go_wp2_with (at_builtin;refine wpList_append_rows rfl _ _ 176 rfl dmkE w.heap.size 180 (.agg #[.int .i64 0,.string ⟨#[]⟩,.string ⟨#[]⟩,.int .i64 0,.int .i64 0]) 56 Tryz.underlying176 infoDMk rfl (by decide) _ _ ([]) ([]) rfl rfl (Rw.nil _ _ _ _) HSa.out ?e1 ?e2 ?e3 ?_)
   case e1=>unfold maxLen;simp
   case e2=>simp
   case e3=>exact hwc
   intro v1 w1 hr1 hg1
   have hb1:Below wc.heap.size wc w1:=(Below.refl _ _).grown hg1 (Nat.le_refl _) (fun k hk=>by simp [Value.ownBlock] at hk)
   have HB1:Hid (Below w.heap.size w w1):=κ36 (HBc.out.trans (hb1.mono hwc))
   obtain ⟨q0,q1,q2,q3,q4⟩:=HX3.out.below hb1
   rw [Nat.zero_add] at q1 q2 q3 q4
   have HR1:=κ36 (hr1.below ((Below.refl _ _).alloc (Nat.le_refl _) (.cells #[.int .i64 x.nd,.string x.nm,.string x.vl,.int .i64 x.t,.int .i64 x.b] 180)))
   have HO1:Hid (SlV dmkE (w1.alloc (.cells #[.int .i64 x.nd,.string x.nm,.string x.vl,.int .i64 x.t,.int .i64 x.b] 180)) (.slice (some ⟨w1.heap.size,0,none⟩) 1 1) [x]):=κ36 (SlV.one w1 x _ _ rfl)
   have HV1:=κ36 hr1.lt
   clear hr1 hg1 hb1 HSa x0 x1 x2 x3 x4
   go_wp2_with (at_builtin;refine wpList_append_rows rfl _ _ 176 rfl dmkE w.heap.size 180 (.agg #[.int .i64 0,.string ⟨#[]⟩,.string ⟨#[]⟩,.int .i64 0,.int .i64 0]) 56 Tryz.underlying176 infoDMk rfl (by decide) _ _ ([]) ([x]) rfl rfl HR1.out HO1.out ?f1 ?f2 ?f3 ?_)
   case f1=>unfold maxLen;simp
   case f2=>simp
   case f3=>have:=HB1.out.size;simp;omega
   intro v2 w2 hr2 hg2
   have HB2:Hid (Below w.heap.size w w2):=κ36 ((HB1.out.alloc HB1.out.size _).grown hg2 (by have:=HB1.out.size;simp;omega) (fun k hk=>(HV1.out k hk).1))
   have HR2:=κ36 hr2
   have HV2:=κ36 hr2.lt
   have p2:w2.cell? ⟨MB,0,none⟩=some (.slice none 0 0):=(HB2.out.cell (p:=⟨MB,0,none⟩) hMB).trans H.out.ptr
   have fz2:w2.frozen? ⟨MB,0,none⟩=false:=(HB2.out.frozen (p:=⟨MB,0,none⟩) hMB).trans (H.out.fz 0)
   have HS2:Hid (SlV dmkE w2 (.slice none 0 0) []):=κ36 SlV.nil
   clear hr2 hg2 q0 q1 q2 q3 q4 p0 HR1 HO1 HV1
   go_wp2_with (at_builtin;refine wpList_append_rows rfl _ _ 176 rfl dmkE w.heap.size 180 (.agg #[.int .i64 0,.string ⟨#[]⟩,.string ⟨#[]⟩,.int .i64 0,.int .i64 0]) 56 Tryz.underlying176 infoDMk rfl (by decide) _ _ ([x]) ([]) rfl rfl HR2.out HS2.out ?g1 ?g2 ?g3 ?_)
   case g1=>unfold maxLen;simp
   case g2=>simp
   case g3=>exact HB2.out.size
   intro v3 w3 hr3 hg3
   obtain ⟨A3,m3,c3,rfl⟩:=hr3.slice
   have HE:=κ36 (dlay_end hb H.out HB2.out hr3 hg3 HV2.out)
   have p3:w3.cell? ⟨MB,0,none⟩=some (.slice none 0 0):=hg3.cell p2 (fun e=>by have:=(HV2.out MB e.symm).1;omega)
   have fz3:w3.frozen? ⟨MB,0,none⟩=false:=(World.frozen?_of_block (hg3.block MB (World.block_lt_of_cell? _ _ p2) (fun e=>by have:=(HV2.out MB e.symm).1;omega))).trans fz2
   clear hr3 hg3 HR2 HS2
   go_wp2_with fail
   go_ret
   exact ⟨_,[x],true,rfl,HFr.out,by simp,by simpa using HE.out.1,HE.out.2.1.mono (fun k hk=>.inl hk),fun k hk=>.inr (HE.out.2.2 k hk)⟩
 ·go_enter Tryz.func191,Tryz.ntmps191
  go_wp2_with fail
  rw [←hW,←hBX]
  have HBX:=κ36 hBX
  clear hW hBX
  go_loopw [5] (fun v5 wr=>∃ k:Nat,k≤n∧v5=.int .i64 k∧Hid (∀ i y,i < k→L[i]?=some y→kLt y.key x.key=true)∧Hid (Below W.heap.size W wr)) (fun v5 _=>n - (intOf v5).toNat)
  case atStart=>exact ⟨0,by omega,rfl,κ36 (fun i y hi=>by omega),κ36 (Below.refl _ _)⟩
  case round=>
   obtain ⟨k,hk,rfl,HA,HB⟩:=hrel
   obtain ⟨x0,x1,x2,x3,x4⟩:=HX.out.below HB.out
   have hDr:=HD.out.below HB.out
   have p0:=hDr.ptr
   have HDr:=κ36 hDr
   have HBq:=κ36 (fun nq=>below_drawn HB.out nq)
   rw [Nat.zero_add] at x1 x2 x3 x4
   clear hDr
   obtain ⟨tb,htb⟩:∃ tb:Bool,tb=(match L[k]? with | some y=>kLt y.key x.key | none=>false):=⟨_,rfl⟩
   have HTb:=κ36 htb
   clear htb
   go_upto_region 2 with (fail)
   go_cut [52] (fun v52 wc=>v52=.bool tb∧Hid (Below W.heap.size W wc))
   case first=>
    by_cases hlt:k < n
    ·obtain ⟨y,hy⟩:∃ y,L[k]?=some y:=⟨_,List.getElem?_eq_getElem (by have:=HN.out;omega)⟩
     obtain ⟨y0,y1,y2,y3,y4⟩:=HDr.out.own.mk rfl hy
     have htb:tb=kLt y.key x.key:=by have:=HTb.out;rw [hy] at this;exact this
     have k1:(0:Int)≤(k:Int):=by omega
     have k2:(k:Int) < (n:Int):=by omega
     rcases Int.lt_trichotomy y.nd x.nd with hl | hl | hl
     ·have e1:tb=true:=by rw [htb];exact (kLt_iff _ _).2 (.inl hl)
      subst e1
      clear htb hy
      go_wp2_with fail
      go_quiet (fail)
      rename_i nq
      go_wp2_with fail
      go_meet
      case rel=>exact ⟨rfl,κ36 (HBq.out nq)⟩
     ·have hb0:(y.nd == x.nd)=true:=by simp [hl]
      have hd0:decide (y.nd < x.nd)=false:=by simp [hl]
      cases hss:sLt y.nm x.nm with
      | true=>
       have e1:tb=true:=by rw [htb];exact (kLt_iff _ _).2 (.inr ⟨hl,hss⟩)
       have hss2:Op.bytesLess y.nm.toList x.nm.toList=true:=hss
       subst e1
       clear htb hy hl hss
       go_wp2_with fail
       go_quiet (fail)
       rename_i nq
       go_wp2_with fail
       go_meet
       case rel=>exact ⟨rfl,κ36 (HBq.out nq)⟩
      | false=>
       have e1:tb=false:=by rw [htb];unfold kLt;show (decide (y.nd < x.nd) || _)=false;rw [hd0];show (decide _ && sLt y.nm x.nm)=false;rw [hss];simp
       have hss2:Op.bytesLess y.nm.toList x.nm.toList=false:=hss
       subst e1
       clear htb hy hl hss
       go_wp2_with fail
       go_quiet (fail)
       rename_i nq
       go_wp2_with fail
       go_meet
       case rel=>exact ⟨rfl,κ36 (HBq.out nq)⟩
     ·have hb0:(y.nd == x.nd)=false:=by simp;omega
      have hd0:decide (y.nd < x.nd)=false:=by simp;omega
      have e1:tb=false:=by rw [htb];unfold kLt;show (decide (y.nd < x.nd) || (decide (y.nd=x.nd) && _))=false;rw [hd0,decide_eq_false (by omega:¬ y.nd=x.nd)];rfl
      subst e1
      clear htb hy hl
      go_wp2_with fail
      go_quiet (fail)
      rename_i nq
      go_wp2_with fail
      go_meet
      case rel=>exact ⟨rfl,κ36 (HBq.out nq)⟩
    ·have hlt2:decide (k < n)=false:=by simp;omega
     have e1:tb=false:=by have:=HTb.out;rw [List.getElem?_eq_none (by have:=HN.out;omega)] at this;exact this
     subst e1
     clear hlt
     go_wp2_with fail
     go_quiet (fail)
     rename_i nq
     go_wp2_with fail
     go_meet
     case rel=>exact ⟨rfl,κ36 (HBq.out nq)⟩
   case rest=>
    obtain ⟨rfl,HB2⟩:=hcut
    clear x0 x1 x2 x3 x4 p0 HDr HBq HB
    cases tb with
    | true=>
     have hkn:k < n:=by
      rcases Nat.lt_or_ge k n with h | h
      ·exact h
      ·have:=HTb.out;rw [List.getElem?_eq_none (by have:=HN.out;omega)] at this;cases this
     have HA1:Hid (∀ i y,i < k+1→L[i]?=some y→kLt y.key x.key=true):=κ36 fun i y hi hy=>by
      by_cases e:i=k
      ·subst e;have:=HTb.out;rw [hy] at this;exact this.symm
      ·exact HA.out i y (by omega) hy
     go_wp2_with fail
     go_roundw
     case rel=>exact ⟨k+1,by omega,by go_num,HA1,HB2⟩
     case measure=>simp [intOf] <;> omega
    | false=>
     go_upto_region 4 with (fail)
     obtain ⟨x0,x1,x2,x3,x4⟩:=HX.out.below HB2.out
     have hDr:=HD.out.below HB2.out
     have p0:=hDr.ptr
     have HDr:=κ36 hDr
     have HBq:=κ36 (fun nq=>below_drawn HB2.out nq)
     rw [Nat.zero_add] at x1 x2 x3 x4
     clear hDr
     obtain ⟨fb,hfb⟩:∃ fb:Bool,fb=(match L[k]? with | some y=>(y.nd == x.nd && y.nm.toList == x.nm.toList) | none=>false):=⟨_,rfl⟩
     have HFb:=κ36 hfb
     clear hfb
     go_cut [87] (fun v87 wc=>v87=.bool fb∧Hid (Below W.heap.size W wc))
     case first=>
      by_cases hlt:k < n
      ·obtain ⟨y,hy⟩:∃ y,L[k]?=some y:=⟨_,List.getElem?_eq_getElem (by have:=HN.out;omega)⟩
       obtain ⟨y0,y1,y2,y3,y4⟩:=HDr.out.own.mk rfl hy
       have hfb:fb=(y.nd == x.nd && y.nm.toList == x.nm.toList):=by have:=HFb.out;rw [hy] at this;exact this
       have k1:(0:Int)≤(k:Int):=by omega
       have k2:(k:Int) < (n:Int):=by omega
       cases h1:(y.nd == x.nd) with
       | true=>
        cases h2:(y.nm.toList == x.nm.toList) with
        | true=>
         have e1:fb=true:=by rw [hfb,h1,h2];rfl
         subst e1
         clear hfb hy
         go_wp2_with fail
         go_quiet (fail)
         rename_i nq
         go_wp2_with fail
         go_meet
         case rel=>exact ⟨rfl,κ36 (HBq.out nq)⟩
        | false=>
         have e1:fb=false:=by rw [hfb,h1,h2];rfl
         subst e1
         clear hfb hy
         go_wp2_with fail
         go_quiet (fail)
         rename_i nq
         go_wp2_with fail
         go_meet
         case rel=>exact ⟨rfl,κ36 (HBq.out nq)⟩
       | false=>
        have e1:fb=false:=by rw [hfb,h1];rfl
        subst e1
        clear hfb hy
        go_wp2_with fail
        go_quiet (fail)
        rename_i nq
        go_wp2_with fail
        go_meet
        case rel=>exact ⟨rfl,κ36 (HBq.out nq)⟩
      ·have hlt2:decide (k < n)=false:=by simp;omega
       have e1:fb=false:=by have:=HFb.out;rw [List.getElem?_eq_none (by have:=HN.out;omega)] at this;exact this
       subst e1
       clear hlt
       go_wp2_with fail
       go_quiet (fail)
       rename_i nq
       go_wp2_with fail
       go_meet
       case rel=>exact ⟨rfl,κ36 (HBq.out nq)⟩
     case rest=>
      obtain ⟨rfl,HB3⟩:=hcut
      clear x0 x1 x2 x3 x4 p0 HDr HBq HB2
      have HDc:=κ36 (HD.out.below HB3.out)
      have HBc:Hid (Below w.heap.size w wc):=κ36 (HBW.out.trans (HB3.out.mono HBW.out.size))
      cases fb with
      | true=>
       have hyk:∃ y,L[k]?=some y∧y.key=x.key:=by
        have:=HFb.out
        cases hy:L[k]? with
        | none=>rw [hy] at this;cases this
        | some y=>
         rw [hy] at this
         have h2:=this.symm
         simp only [Bool.and_eq_true,beq_iff_eq] at h2
         exact ⟨y,rfl,Prod.ext h2.1 (toList_inj h2.2)⟩
       obtain ⟨y,hy,hky⟩:=hyk
       have hkn:k < n:=by have:=(List.getElem?_eq_some_iff.1 hy).1;have:=HN.out;omega
       obtain ⟨lt,hlt⟩:∃ lt,cLt y.cell x.cell=lt:=⟨_,rfl⟩
       have HLs:Hid (∀ w,Calls Tryz.prog 89 #[stampV y.t y.b,stampV x.t x.b] w fun e w'=>e=.returned (.bool lt)∧Below w.heap.size w w'):=κ36 fun w=>by
        have:=isLess_any y.t y.b x.t x.b w
        rw [←hlt];exact this
       have HLt:=κ36 hlt
       have HY:=κ36 hy
       have HKy:=κ36 hky
       have k1:(0:Int)≤(k:Int):=by omega
       have k2:(k:Int) < (n:Int):=by omega
       obtain ⟨x0,x1,x2,x3,x4⟩:=HX.out.below HB3.out
       obtain ⟨y0,y1,y2,y3,y4⟩:=HDc.out.own.mk rfl hy
       have p0:=HDc.out.ptr
       rw [Nat.zero_add] at x1 x2 x3 x4
       clear hy hky hlt hkn
       go_wp2_with fail
       go_still_tail 10,(by kernel_rfl)
       change wpList _ _ _ _ _ wc.drew
       have hbd:Below wc.heap.size wc wc.drew:=(Below.refl _ wc).drew
       have HD5:=κ36 (HDc.out.below hbd)
       have HB5:=κ36 (HBc.out.trans (hbd.mono HBc.out.size))
       have HX5:=κ36 ((HX.out.below HB3.out).below hbd)
       clear x0 x1 x2 x3 x4 y0 y1 y2 y3 y4 p0 hbd HDc HBc HB3
       generalize wc.drew=w5 at HD5 HB5 HX5 ⊢
       go_wp2_with fail
       refine (HLs.out _).mono ?_
       rintro e w6 ⟨rfl,hb6⟩
       have HD6:=κ36 (HD5.out.below hb6)
       have HB6:=κ36 (HB5.out.trans (hb6.mono HB5.out.size))
       have HX6:=κ36 (HX5.out.below hb6)
       clear hb6 HLs HD5 HB5 HX5
       cases lt with
       | false=>
        go_wp2_with fail
        go_ret
        exact ⟨_,L,false,rfl,LayR.older (A:=L.take k) (B:=L.drop (k+1)) (y:=y) (by rw [←drop_at' HY.out,List.take_append_drop]) HKy.out HLt.out,by omega,HD6.out,Fr.of_below HB6.out,fun k hk=>.inl hk⟩
       | true=>
        obtain ⟨x0,x1,x2,x3,x4⟩:=HX6.out
        obtain ⟨y0,y1,y2,y3,y4⟩:=HD6.out.own.mk rfl HY.out
        have p0:=HD6.out.ptr
        rw [Nat.zero_add] at x1 x2 x3 x4
        go_wp2_with fail
        go_still_tail 7,(by kernel_rfl)
        change wpList _ _ _ _ _ w6.drew
        have hbd:Below w6.heap.size w6 w6.drew:=(Below.refl _ w6).drew
        have HD7:=κ36 (HD6.out.below hbd)
        have HB7:=κ36 (HB6.out.trans (hbd.mono HB6.out.size))
        clear x0 x1 x2 x3 x4 y0 y1 y2 y3 y4 p0 hbd HD6 HB6 HX6
        generalize w6.drew=w7 at HD7 HB7 ⊢
        obtain ⟨y0,y1,y2,y3,y4⟩:=HD7.out.own.mk rfl HY.out
        have z0:=HD7.out.own.fz (k*5)
        have z1:=HD7.out.own.fz (k*5+1)
        have z2:=HD7.out.own.fz (k*5+2)
        have z3:=HD7.out.own.fz (k*5+3)
        have z4:=HD7.out.own.fz (k*5+4)
        go_wp2_with fail
        go_ret
        have he:=dset_end (x:=x) HD7.out HY.out
        exact ⟨_,L.set k x,true,rfl,by rw [List.set_eq_take_append_cons_drop,if_pos (List.getElem?_eq_some_iff.1 HY.out).1];exact LayR.newer (y:=y) (by rw [←drop_at' HY.out,List.take_append_drop]) HKy.out HLt.out,by rw [List.length_set];omega,he.1,(Fr.of_below HB7.out).trans (he.2.mono (fun k hk=>.inr (by rw [hk];rfl))),fun k hk=>.inl hk⟩
      | false=>
       have hkL:k≤L.length:=by have:=HN.out;omega
       have HFr:Hid (LayR L x (L.take k++x :: L.drop k) true):=κ36 (LayR.fresh (List.take_append_drop k L).symm (fun a ha=>by
        obtain ⟨i,hi,rfl⟩:=List.getElem_of_mem ha
        rw [List.length_take] at hi
        rw [List.getElem_take]
        exact HA.out i _ (by omega) (List.getElem?_eq_getElem (by omega))) (fun b hb=>by
        rw [List.head?_drop] at hb
        have h1:=HTb.out
        have h2:=HFb.out
        rw [hb] at h1 h2
        cases h3:kLt x.key b.key with
        | true=>rfl
        | false=>
         have e:=kLt_tri h1.symm h3
         have e1:b.nd=x.nd:=congrArg Prod.fst e
         have e2:b.nm=x.nm:=congrArg Prod.snd e
         have h4:false=(b.nd == x.nd && b.nm.toList == x.nm.toList):=h2
         rw [e1,e2] at h4
         simp at h4))
       obtain ⟨x0,x1,x2,x3,x4⟩:=HX.out.below HB3.out
       have p0:=HDc.out.ptr
       have i0:(0:Int)≤(k:Int):=by omega
       have i1:(k:Int)≤(n:Int):=by omega
       have i2:(k:Int)≤(c:Int):=by omega
       have hwc:=HBc.out.size
       rw [Nat.zero_add] at x1 x2 x3 x4
       have HSa:Hid (SlV dmkE wc (.slice (some ⟨g,0,none⟩) k c) (L.take k)):=κ36 (HDc.out.own.sl.take hk c (by omega))
       have HX3:=κ36 (HX.out.below HB3.out)
       clear HTb HFb HA
       go_wp2_with (at_builtin;refine wpList_append_rows rfl _ _ 176 rfl dmkE w.heap.size 180 (.agg #[.int .i64 0,.string ⟨#[]⟩,.string ⟨#[]⟩,.int .i64 0,.int .i64 0]) 56 Tryz.underlying176 infoDMk rfl (by decide) _ _ ([]) (L.take k) rfl rfl (Rw.nil _ _ _ _) HSa.out ?a1 ?a2 ?a3 ?_)
       case a1=>unfold maxLen;rw [List.length_take];simp;omega
       case a2=>rw [List.length_take];simp;omega
       case a3=>exact hwc
       intro v1 w1 hr1 hg1
       have hb1:Below wc.heap.size wc w1:=(Below.refl _ _).grown hg1 (Nat.le_refl _) (fun k hk=>by simp [Value.ownBlock] at hk)
       have HB1:Hid (Below w.heap.size w w1):=κ36 (HBc.out.trans (hb1.mono hwc))
       obtain ⟨q0,q1,q2,q3,q4⟩:=HX3.out.below hb1
       rw [Nat.zero_add] at q1 q2 q3 q4
       have HR1:=κ36 (hr1.below ((Below.refl _ _).alloc (Nat.le_refl _) (.cells #[.int .i64 x.nd,.string x.nm,.string x.vl,.int .i64 x.t,.int .i64 x.b] 180)))
       have HO1:Hid (SlV dmkE (w1.alloc (.cells #[.int .i64 x.nd,.string x.nm,.string x.vl,.int .i64 x.t,.int .i64 x.b] 180)) (.slice (some ⟨w1.heap.size,0,none⟩) 1 1) [x]):=κ36 (SlV.one w1 x _ _ rfl)
       have HV1:=κ36 hr1.lt
       clear hr1 hg1 hb1 HSa x0 x1 x2 x3 x4
       go_wp2_with (at_builtin;refine wpList_append_rows rfl _ _ 176 rfl dmkE w.heap.size 180 (.agg #[.int .i64 0,.string ⟨#[]⟩,.string ⟨#[]⟩,.int .i64 0,.int .i64 0]) 56 Tryz.underlying176 infoDMk rfl (by decide) _ _ (L.take k) ([x]) rfl rfl HR1.out HO1.out ?b1 ?b2 ?b3 ?_)
       case b1=>unfold maxLen;rw [List.length_take];simp;omega
       case b2=>rw [List.length_take];simp;omega
       case b3=>have:=HB1.out.size;simp;omega
       intro v2 w2 hr2 hg2
       have HB2:Hid (Below w.heap.size w w2):=κ36 ((HB1.out.alloc HB1.out.size _).grown hg2 (by have:=HB1.out.size;simp;omega) (fun k hk=>(HV1.out k hk).1))
       have HR2:=κ36 hr2
       have HV2:=κ36 hr2.lt
       have p2:w2.cell? ⟨MB,0,none⟩=some (.slice (some ⟨g,0,none⟩) n c):=(HB2.out.cell (p:=⟨MB,0,none⟩) hMB).trans H.out.ptr
       have fz2:w2.frozen? ⟨MB,0,none⟩=false:=(HB2.out.frozen (p:=⟨MB,0,none⟩) hMB).trans (H.out.fz 0)
       clear hr2 hg2 q0 q1 q2 q3 q4 p0
       by_cases hac:k=c
       ·have hcn:c=n:=by omega
        subst hcn
        subst hac
        have HS2:Hid (SlV dmkE w2 (.slice (some ⟨g,0,none⟩) 0 0) (L.drop k)):=κ36 (by rw [List.drop_eq_nil_of_le (by have:=HN.out;omega)];exact SlV.empty _ _)
        clear HR1 HO1 HV1
        go_wp2_with (at_builtin;refine wpList_append_rows rfl _ _ 176 rfl dmkE w.heap.size 180 (.agg #[.int .i64 0,.string ⟨#[]⟩,.string ⟨#[]⟩,.int .i64 0,.int .i64 0]) 56 Tryz.underlying176 infoDMk rfl (by decide) _ _ (L.take k++[x]) (L.drop k) rfl rfl HR2.out HS2.out ?c1 ?c2 ?c3 ?_)
        case c1=>unfold maxLen;have:=HN.out;simp;omega
        case c2=>have:=HN.out;simp;omega
        case c3=>exact HB2.out.size
        intro v3 w3 hr3 hg3
        obtain ⟨A3,m3,c3,rfl⟩:=hr3.slice
        have HE:=κ36 (dlay_end hb H.out HB2.out hr3 hg3 HV2.out)
        have p3:w3.cell? ⟨MB,0,none⟩=some (.slice (some ⟨g,0,none⟩) k k):=hg3.cell p2 (fun e=>by have:=(HV2.out MB e.symm).1;omega)
        have fz3:w3.frozen? ⟨MB,0,none⟩=false:=(World.frozen?_of_block (hg3.block MB (World.block_lt_of_cell? _ _ p2) (fun e=>by have:=(HV2.out MB e.symm).1;omega))).trans fz2
        clear hr3 hg3 HR2 HS2
        go_wp2_with fail
        go_ret
        exact ⟨_,_,true,rfl,HFr.out,by simp;omega,by simpa using HE.out.1,HE.out.2.1.mono (fun k hk=>.inl hk),fun k hk=>.inr (HE.out.2.2 k hk)⟩
       ·have hac2:k < c:=by omega
        have HS2:Hid (SlV dmkE w2 (.slice (some ⟨g,k*5,none⟩) (n - k) (c - k)) (L.drop k)):=κ36 (by have h3:=(H.out.own.sl.drop hk (c - k) (by omega)).below HB2.out;rw [Nat.zero_add] at h3;exact h3)
        clear HR1 HO1 HV1
        go_wp2_with (at_builtin;refine wpList_append_rows rfl _ _ 176 rfl dmkE w.heap.size 180 (.agg #[.int .i64 0,.string ⟨#[]⟩,.string ⟨#[]⟩,.int .i64 0,.int .i64 0]) 56 Tryz.underlying176 infoDMk rfl (by decide) _ _ (L.take k++[x]) (L.drop k) rfl rfl HR2.out HS2.out ?d1 ?d2 ?d3 ?_)
        case d1=>unfold maxLen;have:=HN.out;simp;omega
        case d2=>have:=HN.out;simp;omega
        case d3=>exact HB2.out.size
        intro v3 w3 hr3 hg3
        obtain ⟨A3,m3,c3,rfl⟩:=hr3.slice
        have HE:=κ36 (dlay_end hb H.out HB2.out hr3 hg3 HV2.out)
        have p3:w3.cell? ⟨MB,0,none⟩=some (.slice (some ⟨g,0,none⟩) n c):=hg3.cell p2 (fun e=>by have:=(HV2.out MB e.symm).1;omega)
        have fz3:w3.frozen? ⟨MB,0,none⟩=false:=(World.frozen?_of_block (hg3.block MB (World.block_lt_of_cell? _ _ p2) (fun e=>by have:=(HV2.out MB e.symm).1;omega))).trans fz2
        clear hr3 hg3 HR2 HS2
        go_wp2_with fail
        go_ret
        exact ⟨_,_,true,rfl,HFr.out,by simp;omega,by simpa using HE.out.1,HE.out.2.1.mono (fun k hk=>.inl hk),fun k hk=>.inr (HE.out.2.2 k hk)⟩
end Go.Proofs.YtjekalilfhnpmaaGreatDoor
