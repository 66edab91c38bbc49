/- A replica's Diff: what another has not heard. A replica's State: its lines. A replica's State: determined by its operations. Plain: each node that is placed lies in Root or in Trash, and not in both. The document's Cut at a stroke, walked. -/
import Derived.Lib.SliceRun
import Derived.Test.YtjekalilfhnpmaaGreatDoorV00
import Derived.Test.YtjekalilfhnpmaaGreatDoorV07
import Derived.Test.YtjekalilfhnpmaaGreatDoorV11
import Derived.Test.YtjekalilfhnpmaaGreatDoorV20
import Derived.Test.YtjekalilfhnpmaaGreatDoorV32
namespace Go.Proofs.YtjekalilfhnpmaaGreatDoor
open Go Go.RowKit Go.Maps Go.Shelf LineOrd Tree
set_option linter.unusedVariables false
set_option linter.unusedSimpArgs false
set_option maxHeartbeats 2000000
set_option maxRecDepth 100000
theorem row_set1 {T:Type} {E:Enc T} {L:List T} {k i:Nat} {y z:T} {u:Value} (hy:L[k]?=some y) (hi:i < E.k) (hz:E.cells z=(E.cells y).set i u):E.row (L.set k z)=(E.row L).set (k*E.k+i) u:=by
 induction L generalizing k with
 | nil=>simp at hy
 | cons a r ih=>
  cases k with
  | zero=>
   simp at hy
   subst hy
   rw [List.set_cons_zero,Enc.row_cons,Enc.row_cons,hz,Nat.zero_mul,Nat.zero_add,List.set_append_left _ _ (by rw [E.len];exact hi)]
  | succ k=>
   rw [List.set_cons_succ,Enc.row_cons,Enc.row_cons,ih (by simpa using hy),List.set_append_right _ _ (by rw [E.len,Nat.add_mul];omega),E.len,show (k+1)*E.k+i - E.k=k*E.k+i by rw [Nat.add_mul];omega]
theorem Rw.setOp {base g n c k:Nat} {L:List OpT} {x y:OpT} {w:World} (h:Rw opE 31 base (.slice (some ⟨g,0,none⟩) n c) L w) (hy:L[k]?=some y) :
  Rw opE 31 base (.slice (some ⟨g,0,none⟩) n c) (L.set k x) ((((((((w.setCell ⟨g,k*8,none⟩ (.int .i64 x.t)).setCell ⟨g,k*8+1,none⟩ (.int .i64 x.b)).setCell ⟨g,k*8+2,none⟩ (.int .i64 x.n)).setCell ⟨g,k*8+3,none⟩ (.int .u8 x.k)).setCell ⟨g,k*8+4,none⟩ (.int .i64 x.nd)).setCell ⟨g,k*8+5,none⟩ (.int .i64 x.ot)).setCell ⟨g,k*8+6,none⟩ (.string x.nm)).setCell ⟨g,k*8+7,none⟩ (.string x.vl))∧
  Fr (fun j=>j=g) w ((((((((w.setCell ⟨g,k*8,none⟩ (.int .i64 x.t)).setCell ⟨g,k*8+1,none⟩ (.int .i64 x.b)).setCell ⟨g,k*8+2,none⟩ (.int .i64 x.n)).setCell ⟨g,k*8+3,none⟩ (.int .u8 x.k)).setCell ⟨g,k*8+4,none⟩ (.int .i64 x.nd)).setCell ⟨g,k*8+5,none⟩ (.int .i64 x.ot)).setCell ⟨g,k*8+6,none⟩ (.string x.nm)).setCell ⟨g,k*8+7,none⟩ (.string x.vl)):=by
 have hkl:=(List.getElem?_eq_some_iff.1 hy).1
 have hl:∀ z:OpT,(L.set k z).length=L.length:=fun z=>List.length_set
 have hg:∀ z:OpT,(L.set k z)[k]?=some z:=fun z=>by rw [List.getElem?_set_self hkl]
 obtain ⟨r1,g1⟩:=h.stored (L':=L.set k ⟨x.t,y.b,y.n,y.k,y.nd,y.ot,y.nm,y.vl⟩) (k*8) (.int .i64 x.t) (hl _) (row_set1 (i:=0) (E:=opE) hy (by decide) rfl)
 obtain ⟨r2,g2⟩:=r1.stored (L':=L.set k ⟨x.t,x.b,y.n,y.k,y.nd,y.ot,y.nm,y.vl⟩) (k*8+1) (.int .i64 x.b) (by rw [hl,hl]) (by rw [←List.set_set (l:=L) (a:=⟨x.t,y.b,y.n,y.k,y.nd,y.ot,y.nm,y.vl⟩)];exact row_set1 (i:=1) (E:=opE) (hg _) (by decide) rfl)
 obtain ⟨r3,g3⟩:=r2.stored (L':=L.set k ⟨x.t,x.b,x.n,y.k,y.nd,y.ot,y.nm,y.vl⟩) (k*8+2) (.int .i64 x.n) (by rw [hl,hl]) (by rw [←List.set_set (l:=L) (a:=⟨x.t,x.b,y.n,y.k,y.nd,y.ot,y.nm,y.vl⟩)];exact row_set1 (i:=2) (E:=opE) (hg _) (by decide) rfl)
 obtain ⟨r4,g4⟩:=r3.stored (L':=L.set k ⟨x.t,x.b,x.n,x.k,y.nd,y.ot,y.nm,y.vl⟩) (k*8+3) (.int .u8 x.k) (by rw [hl,hl]) (by rw [←List.set_set (l:=L) (a:=⟨x.t,x.b,x.n,y.k,y.nd,y.ot,y.nm,y.vl⟩)];exact row_set1 (i:=3) (E:=opE) (hg _) (by decide) rfl)
 obtain ⟨r5,g5⟩:=r4.stored (L':=L.set k ⟨x.t,x.b,x.n,x.k,x.nd,y.ot,y.nm,y.vl⟩) (k*8+4) (.int .i64 x.nd) (by rw [hl,hl]) (by rw [←List.set_set (l:=L) (a:=⟨x.t,x.b,x.n,x.k,y.nd,y.ot,y.nm,y.vl⟩)];exact row_set1 (i:=4) (E:=opE) (hg _) (by decide) rfl)
 obtain ⟨r6,g6⟩:=r5.stored (L':=L.set k ⟨x.t,x.b,x.n,x.k,x.nd,x.ot,y.nm,y.vl⟩) (k*8+5) (.int .i64 x.ot) (by rw [hl,hl]) (by rw [←List.set_set (l:=L) (a:=⟨x.t,x.b,x.n,x.k,x.nd,y.ot,y.nm,y.vl⟩)];exact row_set1 (i:=5) (E:=opE) (hg _) (by decide) rfl)
 obtain ⟨r7,g7⟩:=r6.stored (L':=L.set k ⟨x.t,x.b,x.n,x.k,x.nd,x.ot,x.nm,y.vl⟩) (k*8+6) (.string x.nm) (by rw [hl,hl]) (by rw [←List.set_set (l:=L) (a:=⟨x.t,x.b,x.n,x.k,x.nd,x.ot,y.nm,y.vl⟩)];exact row_set1 (i:=6) (E:=opE) (hg _) (by decide) rfl)
 obtain ⟨r8,g8⟩:=r7.stored (L':=L.set k x) (k*8+7) (.string x.vl) (by rw [hl,hl]) (by rw [←List.set_set (l:=L) (a:=⟨x.t,x.b,x.n,x.k,x.nd,x.ot,x.nm,y.vl⟩)];exact row_set1 (i:=7) (E:=opE) (hg _) (by decide) rfl)
 have f:=@fr_of_grown
 exact ⟨r8,(((((((fr_of_grown (X:=fun j=>j=g) g1 rfl).trans (fr_of_grown (X:=fun j=>j=g) g2 rfl)).trans (fr_of_grown (X:=fun j=>j=g) g3 rfl)).trans (fr_of_grown (X:=fun j=>j=g) g4 rfl)).trans (fr_of_grown (X:=fun j=>j=g) g5 rfl)).trans (fr_of_grown (X:=fun j=>j=g) g6 rfl)).trans (fr_of_grown (X:=fun j=>j=g) g7 rfl)).trans (fr_of_grown (X:=fun j=>j=g) g8 rfl)⟩
theorem Rw.cut {T:Type} {E:Enc T} {ty:TypeId} {base g n c:Nat} {L:List T} {w:World} (h:Rw E ty base (.slice (some ⟨g,0,none⟩) n c) L w) {i:Nat} (hi:i≤n):Rw E ty base (.slice (some ⟨g,0,none⟩) i c) (L.take i) w:=by
 have hn:n=L.length:=h.sl.len
 have hl:(L.take i).length=i:=by rw [List.length_take];omega
 unfold Rw at h ⊢
 rw [hl]
 refine ⟨by rw [E.row_len,hl],?_⟩
 rcases h.2 with ⟨e,_⟩ | ⟨g',cap,cur,e,hb,hh,h1,h2,h3,h4⟩
 ·cases e
 ·cases e
  refine .inr ⟨g,c,cur,rfl,hb,hh,by omega,h2,h3,?_⟩
  rw [←Enc.row_take,←h4,List.take_take]
  congr 1
  rw [←hn]
  exact (Nat.min_eq_left (Nat.mul_le_mul_right _ hi)).symm
theorem Rw.beyond {T:Type} {E:Enc T} {ty:TypeId} {base g n c:Nat} {L:List T}:∀ (vs:List Value) (o:Nat) (w:World),n*E.k≤o→Rw E ty base (.slice (some ⟨g,0,none⟩) n c) L w→Rw E ty base (.slice (some ⟨g,0,none⟩) n c) L (w.setCells g o vs)∧Fr (·=g) w (w.setCells g o vs)
 | [],o,w,_,h=>⟨h,Fr.of_below (Below.refl _ _)⟩
 | v :: r,o,w,ho,h=>by
  have hn:n=L.length:=h.sl.len
  obtain ⟨r1,g1⟩:=h.stored (L':=L) o v rfl (by rw [List.set_eq_of_length_le (by rw [E.row_len,←hn];exact ho)])
  obtain ⟨r2,g2⟩:=Rw.beyond r (o+1) _ (by omega) r1
  exact ⟨r2,(fr_of_grown (X:=(·=g)) g1 rfl).trans g2⟩
theorem run_clearOps (w:World) (ty:TypeId) (g o m c:Nat) (hm:0 < m) (hc:∀ j,j < m*8→(w.cell? ⟨g,o+j,none⟩).isSome=true) (hf:∀ j,w.frozen? ⟨g,j,none⟩=false) :
  (Builtin.clear_ #[36] ty #[.slice (some ⟨g,o,none⟩) m c]).run Tryz.prog w=.ok (.tuple #[]) (w.setCells g o (Builtin.zeroCells zOp.cells m).toList):=by
 have hl:(Builtin.zeroCells zOp.cells m).toList.length=m*8:=by simp [Builtin.zeroCells,zOp,OpT.cells]
 have h1:∀ v∈(Builtin.zeroCells zOp.cells m).toList,v.oneCell'=true:=fun v hv=>by
  simp only [Builtin.zeroCells,Array.toList_map,List.mem_map] at hv
  obtain ⟨i,_,rfl⟩:=hv
  have:i % zOp.cells.size < 8:=Nat.mod_lt _ (by decide)
  generalize i % zOp.cells.size=q at this
  rcases (show q=0∨q=1∨q=2∨q=3∨q=4∨q=5∨q=6∨q=7 by omega) with rfl | rfl | rfl | rfl | rfl | rfl | rfl | rfl <;> rfl
 have hst:=run_storeCells_cells (P:=Tryz.prog) g o (Builtin.zeroCells zOp.cells m).toList 0 w (by rw [hl];simpa using hc) (fun j _=>hf _) h1
 simp only [Nat.add_zero] at hst
 obtain ⟨m,rfl⟩:∃ m',m=m' + 1:=⟨m - 1,by omega⟩
 have hz:∀ w,(zeroValue 31).run Tryz.prog w=.ok (opV zOp) w:=fun w=>by simp [go_sem,opV,zOp]
 have hzz:(opV zOp).cells=zOp.cells:=rfl
 simp [Builtin.clear_,run_underlying Tryz.underlying36,hz,hzz,hst]
def VecAt (VB:Nat) (v:Int→Int) (w:World):Prop:=∀ a:Nat,a < 4→w.cell? ⟨VB,a,none⟩=some (.int .i64 (v a))
theorem VecAt.lt {VB:Nat} {v:Int→Int} {w:World} (h:VecAt VB v w):VB < w.heap.size:=World.block_lt_of_cell? _ _ (h 0 (by omega))
theorem VecAt.fr {X:Nat→Prop} {VB:Nat} {v:Int→Int} {w w':World} (h:VecAt VB v w) (hF:Fr X w w') (hx:¬ X VB):VecAt VB v w':=fun a ha=>(hF.cell h.lt hx).trans (h a ha)
def heardB (v:Int→Int) (o:OpT):Bool:=decide (o.n≤v o.b)
theorem heard_any (VB:Nat) (v:Int→Int) (o:OpT) (w:World) (hv:VecAt VB v w) (h0:0≤o.b) (h4:o.b < 4) :
  Calls Tryz.prog 104 #[opV o,.pointer (some ⟨VB,0,none⟩)] w fun e w'=>e=.returned (.bool (heardB v o))∧Below w.heap.size w w':=by
 obtain ⟨a,ha⟩:∃ a:Nat,o.b=a:=⟨o.b.toNat,by omega⟩
 have ha4:a < 4:=by omega
 have hc:=hv a ha4
 have hl:=hv.lt
 have hvv:heardB v o=decide (o.n≤v a):=by unfold heardB;rw [ha]
 rw [hvv]
 have a0:(0:Int)≤(a:Int):=by omega
 have a4:(a:Int) < 4:=by omega
 obtain ⟨t,b,n,k,nd,ot,nm,vl⟩:=o
 simp only at ha
 subst ha
 clear hv hvv h0 h4
 generalize v a=q at *
 have hc1:(w.alloc (.cells (⟨t,a,n,k,nd,ot,nm,vl⟩:OpT).cells 31)).cell? ⟨VB,a,none⟩=some (.int .i64 q):=cell_keep' ((Below.refl w.heap.size w).alloc (Nat.le_refl _) _) hc
 have hne:w.heap.size≠VB:=by omega
 have j1:(w.alloc (.cells (⟨t,a,n,k,nd,ot,nm,vl⟩:OpT).cells 31)).cell? ⟨w.heap.size,1,none⟩=some (.int .i64 a):=(OpAt.start w ⟨t,a,n,k,nd,ot,nm,vl⟩ _).c1
 have j2:(w.alloc (.cells (⟨t,a,n,k,nd,ot,nm,vl⟩:OpT).cells 31)).cell? ⟨w.heap.size,2,none⟩=some (.int .i64 n):=(OpAt.start w ⟨t,a,n,k,nd,ot,nm,vl⟩ _).c2
 clear hc
 simp only
 by_cases hle:n≤q
 ·rw [decide_eq_true hle]
  go_enter Tryz.func104,Tryz.ntmps104
  go_wp2_with fail
  go_region
  all_goals
   go_wp2_with fail
   go_ret
   exact ⟨by simp [hle],by go_grown⟩
 ·rw [decide_eq_false hle]
  go_enter Tryz.func104,Tryz.ntmps104
  go_wp2_with fail
  go_region
  all_goals
   go_wp2_with fail
   go_ret
   exact ⟨by simp [hle],by go_grown⟩
def firstH (v:Int→Int) (L:List OpT) (r:Int):Prop:=(r = -1∧∀ x,x∈L→heardB v x=false)∨∃ (k:Nat) (x:OpT),L[k]?=some x∧r=(k:Int)∧heardB v x=true∧∀ (j:Nat) (y:OpT),j < k→L[j]?=some y→heardB v y=false
abbrev clV (VB:Nat):Value:=.func (.func 104) #[] #[.pointer (some ⟨VB,0,none⟩)]
theorem indexOp_any (VB:Nat) (v:Int→Int) (A:Option Addr) (n c:Nat) (L:List OpT) (w:World) (hs:SlV opE w (.slice A n c) L) (hc:n≤maxLen) (hv:VecAt VB v w) (hb:∀ x,x∈L→0≤x.b∧x.b < 4) :
  Calls Tryz.prog 149 #[.slice A n c,clV VB] w fun e w'=>∃ r:Int,e=.returned (.int .i64 r)∧firstH v L r∧Below w.heap.size w w':=by
 have hn:=hs.len
 have HN:=Lib.hid hn
 have HS:=Lib.hid hs
 have HV:=Lib.hid hv
 have HB:=Lib.hid hb
 have hmx:n≤9223372036854775807:=by unfold maxLen at hc;omega
 clear hs hn hc hv hb
 go_enter Tryz.func149,Tryz.ntmps149
 go_wp2_with fail
 go_loopw [5,8] (fun v5 v8 wr=>∃ j:Nat,j≤n∧v8=.int .i64 j∧Hid (Below w.heap.size w wr)∧Hid (∀ i x,i < j→L[i]?=some x→heardB v x=false)) (fun v5 v8 _=>n - (RowKit.intOf v8).toNat)
 case atStart=>exact ⟨0,by omega,rfl,Lib.hid (Below.refl _ _),Lib.hid (fun i x h=>by omega)⟩
 case round=>
  obtain ⟨j,hj,rfl,HW,HA⟩:=hrel
  by_cases hlt:j < n
  ·obtain ⟨x,hx⟩:∃ x,L[j]?=some x:=⟨_,List.getElem?_eq_getElem (by have:=HN.out;omega)⟩
   obtain ⟨b,off,rfl,hbl,c0,c1,c2,c3,c4,c5,c6,c7⟩:=ops_at (HS.out.below HW.out) hx
   have HX:=Lib.hid hx
   have hxm:=HB.out x (List.mem_of_getElem? hx)
   have HC:=Lib.hid (heard_any VB v x wr (HV.out.fr (X:=fun _=>False) (Fr.of_below HW.out) (fun h=>h)) hxm.1 hxm.2)
   obtain ⟨q,hq⟩:∃ q,heardB v x=q:=⟨_,rfl⟩
   have HQ:=Lib.hid hq
   rw [hq] at HC
   have i1:(0:Int)≤(j:Int):=by omega
   have i2:(j:Int) < (n:Int):=by omega
   clear hx hxm hq hbl
   go_wp2_with fail
   refine HC.out.mono ?_
   rintro e w1 ⟨rfl,hb1⟩
   have HW1:=Lib.hid (HW.out.trans (hb1.mono HW.out.size))
   clear hb1 c0 c1 c2 c3 c4 c5 c6 c7
   cases q with
   | true=>
    go_wp2_with fail
    go_ret
    exact ⟨j,rfl,.inr ⟨j,x,HX.out,rfl,HQ.out,fun i y h1 h2=>HA.out i y h1 h2⟩,HW1.out⟩
   | false=>
    go_wp2_with fail
    go_roundw
    case rel=>exact ⟨j+1,by omega,by go_num,HW1,Lib.hid (fun i y h1 h2=>by
     by_cases he:i=j
     ·subst he
      rw [HX.out] at h2
      cases h2
      exact HQ.out
     ·exact HA.out i y (by omega) h2)⟩
    case measure=>simp [RowKit.intOf];omega
  ·obtain rfl:j=n:=by omega
   have i2:¬ (j:Int) < (j:Int):=by omega
   go_wp2_with fail
   go_ret
   exact ⟨_,rfl,.inl ⟨rfl,fun x hx=>by
    obtain ⟨i,hi,rfl⟩:=List.getElem_of_mem hx
    exact HA.out i _ (by have:=HN.out;omega) (List.getElem?_eq_getElem hi)⟩,HW.out⟩
structure SiftL (L:List OpT) (keep:OpT→Bool) (i j:Nat) (M:List OpT):Prop where
 len:M.length=L.length
 lt:i < j
 jle:j≤L.length
 done:M.take i=(L.take j).filter keep
 rest:∀ k,j≤k→M[k]?=L[k]?
theorem SiftL.start {L:List OpT} {v:Int→Int} {k:Nat} {x:OpT} (hx:L[k]?=some x) (hh:heardB v x=true) (ha:∀ (j:Nat) (y:OpT),j < k→L[j]?=some y→heardB v y=false):SiftL L (fun o=>!heardB v o) k (k+1) L:=by
 have hl:=(List.getElem?_eq_some_iff.1 hx).1
 refine ⟨rfl,by omega,by omega,?_,fun _ _=>rfl⟩
 rw [List.take_add_one,hx,List.filter_append]
 simp only [Option.toList_some]
 rw [List.filter_cons_of_neg (by simp [hh]),List.filter_nil,List.append_nil]
 refine (List.filter_eq_self.2 fun y hy=>?_).symm
 obtain ⟨j,hj,rfl⟩:=List.getElem_of_mem hy
 have hj':j < k:=by rw [List.length_take] at hj;omega
 rw [List.getElem_take]
 simp [ha j _ hj' (List.getElem?_eq_getElem (by omega))]
theorem SiftL.keep {L M:List OpT} {keep:OpT→Bool} {i j:Nat} {x:OpT} (h:SiftL L keep i j M) (hx:L[j]?=some x) (hk:keep x=true):SiftL L keep (i+1) (j+1) (M.set i x):=by
 have hl:=(List.getElem?_eq_some_iff.1 hx).1
 have h1:=h.len
 have h2:=h.lt
 refine ⟨by rw [List.length_set,h1],by omega,by omega,?_,fun k hk'=>?_⟩
 ·rw [List.take_add_one,List.take_set_of_le (Nat.le_refl _),List.getElem?_set_self (by omega),h.done,List.take_add_one,hx,List.filter_append]
  simp [hk]
 ·rw [List.getElem?_set_ne (by omega),h.rest k (by omega)]
theorem SiftL.skip {L M:List OpT} {keep:OpT→Bool} {i j:Nat} {x:OpT} (h:SiftL L keep i j M) (hx:L[j]?=some x) (hk:keep x=false):SiftL L keep i (j+1) M:=by
 have hl:=(List.getElem?_eq_some_iff.1 hx).1
 have h2:=h.lt
 refine ⟨h.len,by omega,by omega,?_,fun k hk'=>h.rest k (by omega)⟩
 rw [h.done,List.take_add_one,hx,List.filter_append]
 simp [hk]
abbrev OpC (B off:Nat) (x:OpT) (w:World):Prop:=w.cell? ⟨B,off,none⟩=some (.int .i64 x.t)∧w.cell? ⟨B,off+1,none⟩=some (.int .i64 x.b)∧w.cell? ⟨B,off+2,none⟩=some (.int .i64 x.n)∧w.cell? ⟨B,off+3,none⟩=some (.int .u8 x.k)∧w.cell? ⟨B,off+4,none⟩=some (.int .i64 x.nd)∧w.cell? ⟨B,off+5,none⟩=some (.int .i64 x.ot)∧w.cell? ⟨B,off+6,none⟩=some (.string x.nm)∧w.cell? ⟨B,off+7,none⟩=some (.string x.vl)
theorem Rw.op {base g n c:Nat} {L:List OpT} {w:World} (h:Rw opE 31 base (.slice (some ⟨g,0,none⟩) n c) L w) {i:Nat} {x:OpT} (hx:L[i]?=some x):OpC g (i*8) x w:=
 ⟨h.at' rfl hx (j:=0) rfl,h.at' rfl hx (j:=1) rfl,h.at' rfl hx (j:=2) rfl,h.at' rfl hx (j:=3) rfl,h.at' rfl hx (j:=4) rfl,h.at' rfl hx (j:=5) rfl,h.at' rfl hx (j:=6) rfl,h.at' rfl hx (j:=7) rfl⟩
theorem deleteOp_any (base VB:Nat) (v:Int→Int) (g n c:Nat) (L:List OpT) (w:World) (hr:Rw opE 31 base (.slice (some ⟨g,0,none⟩) n c) L w) (hv:VecAt VB v w) (hne:VB≠g) (hb:∀ x,x∈L→0≤x.b∧x.b < 4) :
  Calls Tryz.prog 103 #[.slice (some ⟨g,0,none⟩) n c,clV VB] w fun e w'=>∃ m:Nat,e=.returned (.slice (some ⟨g,0,none⟩) m c)∧Rw opE 31 base (.slice (some ⟨g,0,none⟩) m c) (L.filter fun o=>!heardB v o) w'∧Fr (·=g) w w':=by
 have hn:n=L.length:=hr.sl.len
 have hnc:n≤c∧c≤maxLen:=by
  rcases hr.form with ⟨e,_⟩ | ⟨g',cap,e,h1,h2,_⟩
  ·cases e
  ·cases e;exact ⟨by omega,h2⟩
 have HI:=Lib.hid (indexOp_any VB v (some ⟨g,0,none⟩) n c L w hr.sl (by omega) hv hb)
 have hmx:c≤9223372036854775807:=by have:=hnc.2;unfold maxLen at this;omega
 have hnc1:=hnc.1
 have HR:=Lib.hid hr
 have HV:=Lib.hid hv
 have HB:=Lib.hid hb
 have HN:=Lib.hid hn
 have HNe:=Lib.hid hne
 clear hr hv hb hn hne hnc
 go_enter Tryz.func103,Tryz.ntmps103
 go_wp2_with fail
 refine HI.out.mono ?_
 rintro e w1 ⟨r,rfl,hf,hb1⟩
 have HB1:=Lib.hid hb1
 clear hb1 HI
 rcases hf with ⟨rfl,hnone⟩ | ⟨k0,x0,hx0,rfl,hh0,ha0⟩
 ·have HNo:=Lib.hid hnone
  clear hnone
  go_wp2_with fail
  go_ret
  refine ⟨n,rfl,?_,Fr.of_below HB1.out⟩
  rw [List.filter_eq_self.2 fun x hx=>by simp [HNo.out x hx]]
  exact HR.out.below HB1.out
 ·have HS0:=Lib.hid (SiftL.start hx0 hh0 ha0)
  have hk0:k0 < n:=by have:=(List.getElem?_eq_some_iff.1 hx0).1;have:=HN.out;omega
  have hm1:((k0:Int) == -1)=false:=beq_eq_false_iff_ne.2 (by omega)
  clear hx0 hh0 ha0
  go_wp2_with fail
  go_loopw [5,6] (fun v5 v6 wr=>∃ (i j:Nat) (M:List OpT),v5=.int .i64 i∧v6=.int .i64 j∧i < j∧j≤n∧Hid (SiftL L (fun o=>!heardB v o) i j M∧Rw opE 31 base (.slice (some ⟨g,0,none⟩) n c) M wr∧Fr (·=g) w wr)) (fun v5 v6 _=>n - (RowKit.intOf v6).toNat)
  case atStart=>exact ⟨k0,k0+1,L,rfl,by go_num,by omega,by omega,Lib.hid ⟨HS0.out,HR.out.below HB1.out,Fr.of_below HB1.out⟩⟩
  case round=>
   obtain ⟨i,j,M,rfl,rfl,hij,hjn,HH⟩:=hrel
   by_cases hlt:j < n
   ·obtain ⟨x,hx⟩:∃ x,L[j]?=some x:=⟨_,List.getElem?_eq_getElem (by have:=HN.out;omega)⟩
    obtain ⟨y,hy⟩:∃ y,M[i]?=some y:=⟨_,List.getElem?_eq_getElem (by have:=HN.out;have:=HH.out.1.len;omega)⟩
    obtain ⟨c0,c1,c2,c3,c4,c5,c6,c7⟩:=HH.out.2.1.op ((HH.out.1.rest j (Nat.le_refl _)).trans hx)
    have HX:=Lib.hid hx
    have HY:=Lib.hid hy
    have hxm:=HB.out x (List.mem_of_getElem? hx)
    obtain ⟨q,hq⟩:∃ q,heardB v x=q:=⟨_,rfl⟩
    have HQ:=Lib.hid hq
    have HC:=Lib.hid (fun w' (hv':VecAt VB v w')=>by have:=heard_any VB v x w' hv' hxm.1 hxm.2;rw [hq] at this;exact this)
    have i1:(0:Int)≤(j:Int):=by omega
    have i2:(j:Int) < (n:Int):=by omega
    clear hx hxm hq hy
    go_wp2_with fail
    refine (HC.out _ ((HV.out.fr HH.out.2.2 HNe.out).fr (X:=fun _=>False) (Fr.of_below ((Below.refl _ _).alloc (Nat.le_refl _) _)) (fun h=>h))).mono ?_
    rintro e w2 ⟨rfl,hb2⟩
    have HW2:Hid (Below wr.heap.size wr w2):=Lib.hid (((Below.refl wr.heap.size wr).alloc (Nat.le_refl _) (.cells x.cells 31)).trans (hb2.mono (by simp)))
    have HA2:Hid (OpAt w2 wr.heap.size x):=Lib.hid ((OpAt.start wr x 31).below hb2)
    clear hb2 c0 c1 c2 c3 c4 c5 c6 c7 HC
    have HR2:=Lib.hid (HH.out.2.1.below HW2.out)
    cases q with
    | true=>
     go_wp2_with fail
     go_roundw
     case rel=>exact ⟨i,j+1,M,rfl,by go_num,by omega,by omega,Lib.hid ⟨HH.out.1.skip HX.out (by simp [HQ.out]),HR2.out,HH.out.2.2.trans (Fr.of_below HW2.out)⟩⟩
     case measure=>simp [RowKit.intOf];omega
    | false=>
     obtain ⟨a0,a1,a2,a3,a4,a5,a6,a7⟩:=HA2.out
     obtain ⟨r0,r1,r2,r3,r4,r5,r6,r7⟩:=HR2.out.op HY.out
     have z:=HR2.out.fz
     have z0:=z (i*8)
     have z1:=z (i*8+1)
     have z2:=z (i*8+2)
     have z3:=z (i*8+3)
     have z4:=z (i*8+4)
     have z5:=z (i*8+5)
     have z6:=z (i*8+6)
     have z7:=z (i*8+7)
     have i3:(0:Int)≤(i:Int):=by omega
     have i4:(i:Int) < (n:Int):=by omega
     have ng:wr.heap.size≠g:=by
      have:=(HR2.out.lt g rfl).2
      have:=(HH.out.2.1.lt g rfl).2
      omega
     clear z
     go_wp2_with fail
     go_roundw
     case rel=>exact ⟨i+1,j+1,M.set i x,by go_num,by go_num,by omega,by omega,Lib.hid ⟨HH.out.1.keep HX.out (by simp [HQ.out]),(HR2.out.setOp HY.out).1,(HH.out.2.2.trans (Fr.of_below HW2.out)).trans (HR2.out.setOp HY.out).2⟩⟩
     case measure=>simp [RowKit.intOf];omega
   ·obtain rfl:j=n:=by omega
    have i2:¬ (j:Int) < (j:Int):=by omega
    have i3:(0:Int)≤(i:Int):=by omega
    have i4:(i:Int)≤(j:Int):=by omega
    have hml:M.length=j:=by rw [HH.out.1.len,HN.out]
    have HCl:=fun ty=>run_clearOps wr ty g (i*8) (j - i) (c - i) (by omega) (fun q hq=>by
     obtain ⟨x,hx⟩:∃ x,M[i+q / 8]?=some x:=⟨_,List.getElem?_eq_getElem (by omega)⟩
     obtain ⟨u,hu⟩:∃ u,(opE.cells x)[q % 8]?=some u:=⟨_,List.getElem?_eq_getElem (by rw [opE.len];exact Nat.mod_lt _ (by decide))⟩
     have:=HH.out.2.1.at' rfl hx hu
     rw [show (i+q / 8)*opE.k+q % 8=i*8+q by show (i+q / 8)*8+q % 8=_;omega] at this
     rw [this];rfl) HH.out.2.1.fz
    have HBy:=Lib.hid ((HH.out.2.1.cut (i:=i) (by omega)).beyond (Builtin.zeroCells zOp.cells (j - i)).toList (i*8) wr (Nat.le_refl _))
    go_wp2_with fail
    go_ret
    refine ⟨i,rfl,?_,HH.out.2.2.trans HBy.out.2⟩
    have:=HBy.out.1
    rw [HH.out.1.done,List.take_of_length_le (by have:=HN.out;omega)] at this
    exact this
theorem deleteOp_nil (VB:Nat) (v:Int→Int) (w:World) (hv:VecAt VB v w) :
  Calls Tryz.prog 103 #[.slice none 0 0,clV VB] w fun e w'=>e=.returned (.slice none 0 0)∧Below w.heap.size w w':=by
 have HI:=Lib.hid (indexOp_any VB v none 0 0 [] w (.inl ⟨rfl,rfl⟩) (by decide) hv (fun x hx=>by simp at hx))
 clear hv
 go_enter Tryz.func103,Tryz.ntmps103
 go_wp2_with fail
 refine HI.out.mono ?_
 rintro e w1 ⟨r,rfl,hf,hb1⟩
 have HB1:=Lib.hid hb1
 clear hb1 HI
 obtain rfl:r = -1:=by
  rcases hf with h | ⟨k,x,h,_⟩
  ·exact h.1
  ·simp at h
 clear hf
 go_wp2_with fail
 go_ret
 exact ⟨rfl,HB1.out⟩
def diffP (v:Int→Nat) (K:List OpT):List OpT:=K.filter fun o=>decide (((v o.b:Nat):Int) < o.n)
theorem heard_diff (v:Int→Nat) (K:List OpT):(K.filter fun o=>!heardB (fun x=>(v x:Int)) o)=diffP v K:=by
 unfold diffP
 congr 1
 funext o
 unfold heardB
 by_cases h:o.n≤(v o.b:Int)
 ·rw [decide_eq_true h,decide_eq_false (by omega)];rfl
 ·rw [decide_eq_false h,decide_eq_true (by omega)];rfl
def vecI (v:Int→Int):Value:=.agg #[.int .i64 (v 0),.int .i64 (v 1),.int .i64 (v 2),.int .i64 (v 3)]
def diffI (v:Int→Int) (K:List OpT):List OpT:=K.filter fun o=>!heardB v o
theorem diffI_any (col:Nat→Int) (RB:Nat) (b:Int) (K:List OpT) (v:Int→Int) (w:World) (h:RepD col RB b K w) (hK:DOk K) (hKl:K.length≤400) :
  Calls Tryz.prog 46 #[ptrV RB,vecI v] w fun e w'=>∃ v',e=.returned v'∧Rw opE 31 w.heap.size v' (diffI v K) w'∧Below w.heap.size w w':=by
 obtain ⟨W,hW⟩:∃ W,W=w.alloc (.cells #[.int .i64 (v 0),.int .i64 (v 1),.int .i64 (v 2),.int .i64 (v 3)] 48):=⟨_,rfl⟩
 have hbW:Below w.heap.size w W:=by rw [hW];exact (Below.refl _ _).alloc (Nat.le_refl _) _
 have hs:W.heap.size=w.heap.size+1:=by rw [hW];simp
 have hVW:VecAt w.heap.size v W:=fun a ha=>by
  rw [hW,World.cell?_alloc_new]
  rcases (show a=0∨a=1∨a=2∨a=3 by omega) with rfl | rfl | rfl | rfl <;> rfl
 have HO:=Lib.hid (repOps_any col RB b K W (h.below hbW) (by omega))
 have HB:Hid (∀ x,x∈K→0≤x.b∧x.b < 4):=Lib.hid fun x hx=>⟨(hK.fine hx).b1,(hK.fine hx).b2⟩
 have HbW:=Lib.hid hbW
 have HVW:=Lib.hid hVW
 have Hs:=Lib.hid hs
 have HW:=Lib.hid hW.symm
 clear h hK hKl hbW hVW hs hW
 unfold ptrV vecI at *
 go_enter Tryz.func46,Tryz.ntmps46
 go_upto_region 1 with (fail)
 rw [HW.out]
 go_wp2_with fail
 refine HO.out.mono ?_
 rintro e w1 ⟨v1,rfl,hr1,hb1⟩
 have HV1:=Lib.hid (HVW.out.fr (X:=fun _=>False) (Fr.of_below hb1) (fun h=>h))
 have HB1:=Lib.hid (HbW.out.trans (hb1.mono HbW.out.size))
 have HR1:=Lib.hid hr1
 clear hb1 HO
 rcases hr1.form with ⟨rfl,hnil⟩ | ⟨g,cap,rfl,_,_,hg,_⟩
 ·have HD:=Lib.hid (deleteOp_nil w.heap.size _ w1 HV1.out)
  have HN:=Lib.hid hnil
  clear hr1 hnil
  go_wp2_with fail
  refine HD.out.mono ?_
  rintro e w2 ⟨rfl,hb2⟩
  have HB2:=Lib.hid (HB1.out.trans (hb2.mono HB1.out.size))
  clear hb2
  go_wp2_with fail
  go_ret
  refine ⟨_,rfl,?_,HB2.out⟩
  rw [HN.out]
  exact Rw.nil _ _ _ _
 ·have hgw:w.heap.size < g:=by have:=Hs.out;omega
  have HD:=Lib.hid (deleteOp_any W.heap.size w.heap.size _ g K.length cap K w1 hr1 HV1.out (by omega) HB.out)
  have Hg:=Lib.hid hgw
  clear hr1 hg hgw
  go_wp2_with fail
  refine HD.out.mono ?_
  rintro e w2 ⟨m,rfl,hr2,hF2⟩
  have HR2:=Lib.hid hr2
  have HF2:=Lib.hid hF2
  clear hr2 hF2
  go_wp2_with fail
  go_ret
  refine ⟨_,rfl,?_,HB1.out.trans (HF2.out.below HB1.out.size (fun k hk=>by have:=Hg.out;omega))⟩
  have:=HR2.out
  exact this.lower (by have:=Hs.out;omega)
theorem diff_any (col:Nat→Int) (RB:Nat) (b:Int) (K:List OpT) (v:Int→Nat) (w:World) (h:RepD col RB b K w) (hK:DOk K) (hKl:K.length≤400) :
  Calls Tryz.prog 46 #[ptrV RB,vecV v] w fun e w'=>∃ v',e=.returned v'∧Rw opE 31 w.heap.size v' (diffP v K) w'∧Below w.heap.size w w':=by
 have:=diffI_any col RB b K (fun x=>(v x:Int)) w h hK hKl
 rw [show diffI (fun x=>(v x:Int)) K=diffP v K from heard_diff v K] at this
 exact this
end Go.Proofs.YtjekalilfhnpmaaGreatDoor
namespace Go.Proofs.YtjekalilfhnpmaaGreatDoor
open Go Go.RowKit Go.Maps Go.Sort Go.Shelf LineOrd Tree
set_option linter.unusedVariables false
set_option linter.unusedSimpArgs false
set_option maxHeartbeats 2000000
set_option maxRecDepth 100000
def strB:Enc ByteArray:=⟨fun x=>[.string x],1,fun _=>rfl,fun x v hv=>by simp at hv;subst hv;rfl⟩
theorem infoStrB:(Tryz.prog.info? 9).map (fun i=>(i.zero,i.size,i.bytes))=some (some (.string ⟨#[]⟩),1,16):=by kernel_rfl
theorem wpList_append_rw {T:Type} {P:Program} {w:World} {ops:Array Oper} {rest:List Oper} {o:Oper} {a:Act} {Q:Exit→Act→World→Prop} (hg:o.guard=none) (s x:Operand) (t:TypeId)
  (hop:o.op=Op.call { callee:=Callee.builtin Builtin.append,args:=#[s,x],argTypes:=#[t,t] })
  (E:Enc T) (base:Nat) (e:TypeId) (z:Value) (bytes:Nat) (ht:P.underlying t=some (.slice e)) (hi:(P.info? e).map (fun i=>(i.zero,i.size,i.bytes))=some (some z,E.k,bytes)) (hzs:z.cells.size=E.k) (hsz:0 < E.k)
  (v:Value) (L:List T) (hs:a.eval s=v) (hL:Rw E e base v L w) (ad:Addr) (c:Nat) (y:T) (hx:a.eval x=.slice (some ad) 1 c) (hX:SlV E w (.slice (some ad) 1 c) [y])
  (b1:L.length+1≤maxLen) (b2:(L.length+1)*bytes≤140737488355328) (hbase:base≤w.heap.size)
  (hK:∀ v' w',Rw E e base v' (L++[y]) w'→w.grownBy w' v.ownBlock→(v'.ownBlock=v.ownBlock∨v'.ownBlock=some w.heap.size)→wpList P ops Q rest (a.put o.dst v') w') :
  wpList P ops Q (o :: rest) a w:=by
 obtain ⟨i,h2,h3,h4,h5⟩:=info_of hi
 rcases hX with ⟨he,_⟩ | ⟨ad',c'',he,_,hds⟩
 ·cases he
 ·cases he
  refine wpList_append_lies w hg s x t hop base e i z E.k bytes ht h2 h3 h4 h5 hzs hsz v L.length (E.row L) hs hL ad 1 c (E.row [y]) hx (E.row_len [y]) hds (E.row_one [y]) (by omega) b1 b2 hbase w.heap.size rfl ?_
  intro g' cap' w' ho hgr hat _
  refine hK _ w' ?_ hgr ?_
  ·unfold Rw
   rw [E.row_app,List.length_append]
   exact ho
  ·rcases hat with h | h
   ·exact .inl h.symm
   ·exact .inr (by rw [h];rfl)
theorem bel2 {w0 w1 w2:World} (h1:RowKit.Below w0.heap.size w0 w1) (h2:RowKit.Below w1.heap.size w1 w2):RowKit.Below w0.heap.size w0 w2:=h1.trans (h2.mono h1.size)
theorem itoa21 {n:Int} (h:I64 n):(S (Lib.itoa n)).size≤21:=itoa_len20 n h.1 h.2
end Go.Proofs.YtjekalilfhnpmaaGreatDoor
namespace Go.Proofs.YtjekalilfhnpmaaGreatDoor
open Go Go.RowKit Go.Maps Go.Shelf LineOrd Tree
set_option linter.unusedVariables false
set_option linter.unusedSimpArgs false
set_option maxHeartbeats 2000000
set_option maxRecDepth 100000
theorem run_from {p:PlB}:∀ (L:List OpT) {x:Int} {v:Int×ByteArray},runO p L x=some v→p x=some v∨∃ o∈L,o.nd=x∧v=(o.ot,o.nm):=by
 intro L
 induction L generalizing p with
 | nil=>exact fun h=>.inl h
 | cons o r ih=>
  intro x v h
  rw [runO_cons] at h
  rcases ih h with h1 | ⟨q,hq,h2⟩
  ·unfold Tree.move at h1
   split at h1
   ·unfold Tree.put at h1
    split at h1
    ·rename_i e
     refine .inr ⟨o,by simp,?_⟩
     simp only [mvO] at e h1
     exact ⟨e.symm,(Option.some.inj h1).symm⟩
    ·exact .inl h1
   ·exact .inl h1
  ·exact .inr ⟨q,List.mem_cons_of_mem _ hq,h2⟩
theorem move_some {p:PlB} {m:Mv ByteArray} {x:Int} {v:Int×ByteArray} (h:p x=some v):∃ v',Tree.move p m x=some v':=by
 unfold Tree.move
 split
 ·unfold Tree.put
  split
  ·exact ⟨_,rfl⟩
  ·exact ⟨v,h⟩
 ·exact ⟨v,h⟩
theorem run_some {x:Int}:∀ (L:List OpT) {p:PlB} {v:Int×ByteArray},p x=some v→∃ v',runO p L x=some v'
 | [],p,v,h=>⟨v,h⟩
 | o :: L,p,v,h=>by
  rw [runO_cons]
  obtain ⟨v',h'⟩:=move_some (m:=mvO o) h
  exact run_some L h'
theorem ins_par {p:PlB} {x o:Int} (h:Ins p x o):∃ y v,p y=some v∧v.1=o:=by
 induction h with
 | @here x v h=>exact ⟨x,v,h,rfl⟩
 | up _ _ ih=>exact ih
theorem known_placed {K:List OpT} (hK:DOk K) {x:Int} (h:Known K x):∃ v,runO p00 (logOf K) x=some v:=by
 obtain ⟨o,ho,hk,hn,hid⟩:=h
 have hol:o∈logOf K:=logOf_mem.2 ⟨ho,hk⟩
 obtain ⟨A,B,hAB⟩:=List.append_of_mem hol
 have hup:=logOf_rising hK
 rw [hAB] at hup ⊢
 have hA:∀ q∈A,q.id < o.id∧q.nd≠x∧q.ot≠x:=fun q hq=>by
  have hqK:q∈K∧q.k=109:=logOf_mem.1 (by rw [hAB];exact List.mem_append_left _ hq)
  have hlt:opLt q o=true:=(List.pairwise_append.1 hup).2.2 q hq o (by simp)
  have h1:=(lt_of_id (hK.fine hqK.1) (hK.fine ho)).1 hlt
  have h2:=(hK.fine hqK.1).ndi
  have h3:=((hK.fine hqK.1).mv hqK.2).2.2.2
  refine ⟨h1,?_,?_⟩ <;> omega
 rw [runO_append,runO_cons]
 obtain ⟨p1,hp1⟩:∃ p1,runO p00 A=p1:=⟨_,rfl⟩
 rw [hp1]
 have hg:goes p1 (mvO o)=true:=by
  unfold goes
  simp only [decide_eq_true_eq]
  refine ⟨?_,fun hi=>?_⟩
  ·have:=((hK.fine ho).mv hk).2.2.2
   show o.nd≠o.ot
   omega
  ·obtain ⟨y,v,hy,hv⟩:=ins_par hi
   rw [←hp1] at hy
   rcases run_from A hy with h1 | ⟨q,hq,h1,h2⟩
   ·cases h1
   ·have:=(hA q hq).2.2
    rw [h2] at hv
    exact this (by rw [show q.ot=(mvO o).node from hv];exact hn)
 have h1:Tree.move p1 (mvO o) x=some (o.ot,o.nm):=by
  unfold Tree.move
  rw [if_pos hg]
  unfold Tree.put
  rw [if_pos (show x=(mvO o).node from hn.symm)]
  rfl
 exact run_some B h1
theorem root_unplaced {K:List OpT} (hK:DOk K) {x:Int} (hx:x=0∨x=1):runO p00 (logOf K) x=none:=by
 cases h:runO p00 (logOf K) x with
 | none=>rfl
 | some v=>
  rcases run_from _ h with h1 | ⟨q,hq,h1,h2⟩
  ·cases h1
  ·have hqK:=logOf_mem.1 hq
   have:=(hK.fine hqK.1).mv hqK.2
   omega
theorem placed_in {K:List OpT} (hK:DOk K) {x:Int} {v:Int×ByteArray} (h:runO p00 (logOf K) x=some v):v.1=0∨v.1=1∨∃ v',runO p00 (logOf K) v.1=some v':=by
 rcases run_from _ h with h1 | ⟨q,hq,h1,h2⟩
 ·cases h1
 ·have hqK:=logOf_mem.1 hq
  rw [h2]
  rcases ((hK.refs q hqK.1).mv hqK.2).2 with h3 | h3 | h3
  ·exact .inl h3
  ·exact .inr (.inl h3)
  ·exact .inr (.inr (known_placed hK h3))
theorem in_or_lost {K:List OpT} (hK:DOk K) {x:Int} {v:Int×ByteArray} (h:runO p00 (logOf K) x=some v):Ins (runO p00 (logOf K)) x 0∨Ins (runO p00 (logOf K)) x 1:=by
 obtain ⟨d,hd⟩:Acyc (runO p00 (logOf K)):=Acyc.replay Acyc.empty _
 generalize hp:runO p00 (logOf K)=p at *
 obtain ⟨m,hm⟩:∃ m,d x=m:=⟨_,rfl⟩
 induction m using Nat.strongRecOn generalizing x v with
 | ind m ih=>
  have hlt:=hd _ _ h
  rcases placed_in hK (by rw [hp];exact h) with h1 | h1 | ⟨v',h1⟩
  ·exact .inl (h1▸Ins.here h)
  ·exact .inr (h1▸Ins.here h)
  ·rw [hp] at h1
   rcases ih (d v.1) (by omega) h1 rfl with h2 | h2
   ·exact .inl (Ins.up h h2)
   ·exact .inr (Ins.up h h2)
theorem not_both {K:List OpT} (hK:DOk K) {x:Int} (h0:Ins (runO p00 (logOf K)) x 0):¬ Ins (runO p00 (logOf K)) x 1:=by
 have r0:=root_unplaced hK (x:=0) (.inl rfl)
 have r1:=root_unplaced hK (x:=1) (.inr rfl)
 generalize runO p00 (logOf K)=p at *
 obtain ⟨z,hz⟩:∃ z:Int,z=0:=⟨0,rfl⟩
 rw [←hz] at h0
 induction h0 with
 | here h=>
  intro h1
  rcases (Ins.some h).1 h1 with h2 | h2
  ·omega
  ·rw [hz] at h2;exact Ins.none r0 h2
 | up h h' ih=>
  intro h1
  rcases (Ins.some h).1 h1 with h2 | h2
  ·rw [h2] at h';exact Ins.none r1 h'
  ·exact ih hz h2
end Go.Proofs.YtjekalilfhnpmaaGreatDoor
namespace Go.Proofs.YtjekalilfhnpmaaGreatDoor
open Go Go.RowKit Go.Maps Go.Shelf CutR
set_option linter.unusedVariables false
set_option linter.unusedSimpArgs false
set_option maxHeartbeats 4000000
set_option maxRecDepth 100000
structure CutV (b:UInt8) (s:List UInt8) (done:List (List UInt8)) (fr i:Nat):Prop where
 le:fr≤i
 lt:i≤s.length
 eq:done++cutL b (s.drop fr)=cutL b s
 no:∀ c∈(s.drop fr).take (i - fr),c≠b
theorem CutV.start (b:UInt8) (s:List UInt8):CutV b s [] 0 0:=⟨by omega,by omega,by simp,by simp⟩
theorem CutV.step {b:UInt8} {s:List UInt8} {done:List (List UInt8)} {fr i:Nat} (h:CutV b s done fr i) {c:UInt8} (hc:s[i]?=some c) (hne:c≠b):CutV b s done fr (i+1):=by
 have hlt:i < s.length:=(List.getElem?_eq_some_iff.1 hc).1
 refine ⟨by have:=h.le;omega,hlt,h.eq,?_⟩
 intro d hd
 have hle:=h.le
 rw [show i+1 - fr=(i - fr)+1 by omega,List.take_add_one,List.getElem?_drop,show fr+(i - fr)=i by omega,hc] at hd
 rcases List.mem_append.1 hd with hd | hd
 ·exact h.no d hd
 ·simp at hd;subst hd;exact hne
theorem CutV.hit {b:UInt8} {s:List UInt8} {done:List (List UInt8)} {fr i:Nat} (h:CutV b s done fr i) (hc:s[i]?=some b):CutV b s (done++[(s.drop fr).take (i - fr)]) (i+1) (i+1):=by
 have hlt:i < s.length:=(List.getElem?_eq_some_iff.1 hc).1
 have hle:=h.le
 refine ⟨Nat.le_refl _,hlt,?_,by simp⟩
 have e:s.drop fr=(s.drop fr).take (i - fr)++b :: s.drop (i+1):=by
  have h1:s.drop i=b :: s.drop (i+1):=by
   rw [List.drop_eq_getElem_cons hlt]
   congr 1
   exact (List.getElem?_eq_some_iff.1 hc).2
  have h2:(s.drop fr).drop (i - fr)=b :: s.drop (i+1):=by rw [List.drop_drop,show fr+(i - fr)=i by omega,h1]
  rw [←h2,List.take_append_drop]
 have:=cutL_hit b _ (s.drop (i+1)) h.no
 rw [←e] at this
 rw [←h.eq,this]
 simp
theorem CutV.done {b:UInt8} {s:List UInt8} {done:List (List UInt8)} {fr:Nat} (h:CutV b s done fr s.length):done++[s.drop fr]=cutL b s:=by
 have hle:=h.le
 rw [←h.eq,cutL_none]
 intro c hc
 refine h.no c ?_
 rwa [List.take_of_length_le (by simp)]
def mkB (l:List UInt8):ByteArray:=⟨l.toArray⟩
theorem extract_mk (s:ByteArray) (i j:Nat):s.extract i j=mkB ((s.data.toList.drop i).take (j - i)):=by
 apply ByteArray.ext
 apply Array.ext'
 simp [mkB,ByteArray.data_extract,Array.toList_extract,List.extract]
def CuEnds (s:ByteArray) (w:World) (e:Ending) (w':World):Prop:=∃ A n c,e=.returned (.slice A n c)∧Rw strB 9 w.heap.size (.slice A n c) (cutB s) w'∧Below w.heap.size w w'∧n≤100001
theorem mCut_any (s:ByteArray) (w:World) (hs:s.size≤100000) :
  Calls Tryz.prog 80 #[.string s,.int .u8 47] w (CuEnds s w):=by
 obtain ⟨n,hn⟩:∃ n,s.size=n:=⟨_,rfl⟩
 have hl:s.data.toList.length=n:=by rw [←hn];rfl
 have HN:=Lib.hid hn
 have HL:=Lib.hid hl
 have hs':n≤100000:=by omega
 clear hn hl hs
 go_enter Tryz.func80,Tryz.ntmps80
 go_wp2_with fail
 go_loopw [5,6,7] (fun v5 v6 v7 wr=>∃ (i fr:Nat) (done:List (List UInt8)),v7=.int .i64 i∧v6=.int .i64 fr∧i≤n∧fr≤i∧done.length≤i∧Hid (CutV 47 s.data.toList done fr i)∧Hid (Rw strB 9 w.heap.size v5 (done.map mkB) wr∧Below w.heap.size w wr)) (fun _ _ v7 _=>n - (intOf v7).toNat)
 case atStart=>exact ⟨0,0,[],rfl,rfl,by omega,by omega,by simp,Lib.hid (CutV.start _ _),Lib.hid ⟨Rw.nil _ _ _ _,Below.refl _ _⟩⟩
 case round=>
  obtain ⟨i,fr,done,rfl,rfl,hi,hfr,hdl,HC,HR⟩:=hrel
  have hsz:=HR.out.2.size
  by_cases hlt:i < n
  ·have hlt2:i < s.size:=by have:=HN.out;omega
   have i0:(0:Int)≤(i:Int):=by omega
   have i1:(i:Int) < (s.size:Int):=by omega
   by_cases hc:s[i]=47
   ·have hce:((s[i].toNat:Int) == 47)=true:=by rw [hc];rfl
    have h1:s.data.toList[i]?=some 47:=by
     rw [Array.getElem?_toList,←hc]
     exact Array.getElem?_eq_getElem hlt2
    have HS:=Lib.hid (HC.out.hit h1)
    clear h1 hc
    have HX:=Lib.hid (extract_mk s fr i)
    go_wp2_with (at_builtin;refine wpList_append_rows rfl _ _ 122 rfl strB w.heap.size 9 (.string ⟨#[]⟩) 16 Tryz.underlying122 infoStrB rfl (by decide) _ _ (done.map mkB) [s.extract fr i] rfl rfl (HR.out.1.below ((Below.refl _ _).alloc (Nat.le_refl _) _)) (SlV.one (E:=strB) wr (s.extract fr i) 9 _ rfl) ?e1 ?e2 ?e3 ?_)
    case e1=>unfold maxLen;first | (simp;done) | (simp;omega) | omega
    case e2=>first | (simp;done) | (simp;omega) | omega
    case e3=>first | (simp;done) | (simp;omega) | omega
    intro v6 w6 hr6 hg6
    have HR6:Hid (Rw strB 9 w.heap.size v6 ((done++[(s.data.toList.drop fr).take (i - fr)]).map mkB) w6∧Below w.heap.size w w6):=Lib.hid (by
     rw [List.map_append]
     rw [HX.out] at hr6
     refine ⟨hr6,?_⟩
     have hb5:Below w.heap.size w (wr.alloc (.cells #[.string (s.extract fr i)] 9)):=HR.out.2.alloc hsz _
     exact hb5.grown hg6 hb5.size (fun k hk=>(HR.out.1.lt k hk).1))
    clear hr6 hg6 HX
    go_wp2_with fail
    go_roundw
    case rel=>exact ⟨i+1,i+1,_,by go_num,by go_num,by omega,by omega,by simp;omega,HS,HR6⟩
    case measure=>simp [intOf];omega
   ·have hce:((s[i].toNat:Int) == 47)=false:=by
     rw [beq_eq_false_iff_ne]
     intro e
     exact hc (UInt8.toNat_inj.1 (by show s[i].toNat=47;omega))
    have h1:s.data.toList[i]?=some s[i]:=by
     rw [Array.getElem?_toList]
     exact Array.getElem?_eq_getElem hlt2
    have HS:=Lib.hid (HC.out.step h1 hc)
    clear hc h1
    go_wp2_with fail
    go_roundw
    case rel=>exact ⟨i+1,fr,done,by go_num,rfl,by omega,by omega,by omega,HS,HR⟩
    case measure=>simp [intOf];omega
  ·have hie:i=n:=by omega
   have hfs:fr≤s.size:=by have:=HN.out;omega
   have hge:¬ i < s.size:=by have:=HN.out;omega
   have i1:¬ (i:Int) < (s.size:Int):=by omega
   have HX:Hid (done++[s.data.toList.drop fr]=cutL 47 s.data.toList):=Lib.hid (by
    have h2:=HC.out
    rw [hie,←HL.out] at h2
    exact h2.done)
   have HE:Hid (s.extract fr s.size=mkB (s.data.toList.drop fr)):=Lib.hid (by
    rw [extract_mk,List.take_of_length_le (by rw [List.length_drop,HL.out];have:=HN.out;omega)])
   go_wp2_with (at_builtin;refine wpList_append_rows rfl _ _ 122 rfl strB w.heap.size 9 (.string ⟨#[]⟩) 16 Tryz.underlying122 infoStrB rfl (by decide) _ _ (done.map mkB) [s.extract fr s.size] rfl rfl (HR.out.1.below ((Below.refl _ _).alloc (Nat.le_refl _) _)) (SlV.one (E:=strB) wr (s.extract fr s.size) 9 _ rfl) ?f1 ?f2 ?f3 ?_)
   case f1=>unfold maxLen;first | (simp;done) | (simp;omega) | omega
   case f2=>first | (simp;done) | (simp;omega) | omega
   case f3=>first | (simp;done) | (simp;omega) | omega
   intro v6 w6 hr6 hg6
   have HR6:Hid (Rw strB 9 w.heap.size v6 (cutB s) w6∧Below w.heap.size w w6∧(cutB s).length≤100001):=Lib.hid (by
    have e:cutB s=(done.map mkB)++[s.extract fr s.size]:=by
     unfold cutB
     rw [←HX.out,HE.out,List.map_append]
     rfl
    rw [e]
    refine ⟨hr6,?_,by simp;omega⟩
    have hb5:Below w.heap.size w (wr.alloc (.cells #[.string (s.extract fr s.size)] 9)):=HR.out.2.alloc hsz _
    exact hb5.grown hg6 hb5.size (fun k hk=>(HR.out.1.lt k hk).1))
   clear hr6 hg6
   obtain ⟨A6,n6,c6,rfl⟩:=HR6.out.1.slice
   go_wp2_with fail
   go_ret
   exact ⟨A6,n6,c6,rfl,HR6.out.1,HR6.out.2.1,by rw [HR6.out.1.sl.len];exact HR6.out.2.2⟩
end Go.Proofs.YtjekalilfhnpmaaGreatDoor
