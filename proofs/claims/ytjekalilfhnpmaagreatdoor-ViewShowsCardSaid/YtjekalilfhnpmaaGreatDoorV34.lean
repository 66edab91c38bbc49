/- A view: the places that lie in a node (slices.DeleteFunc at places). -/
import Derived.Test.YtjekalilfhnpmaaGreatDoorV13
import Derived.Test.YtjekalilfhnpmaaGreatDoorV27
import Derived.Test.YtjekalilfhnpmaaGreatDoorV33
namespace Go.Proofs.YtjekalilfhnpmaaGreatDoor
open Go Go.RowKit Go.Maps Go.Shelf LineOrd Tree
set_option linter.unusedVariables false
set_option linter.unusedSimpArgs false
set_option maxHeartbeats 2000000
set_option maxRecDepth 100000
theorem Rw.setPl {base g n c k:Nat} {L:List PlT} {x y:PlT} {w:World} (h:Rw plE 81 base (.slice (some ⟨g,0,none⟩) n c) L w) (hy:L[k]?=some y) :
  Rw plE 81 base (.slice (some ⟨g,0,none⟩) n c) (L.set k x) (((w.setCell ⟨g,k*3,none⟩ (.int .i64 x.nd)).setCell ⟨g,k*3+1,none⟩ (.int .i64 x.into)).setCell ⟨g,k*3+2,none⟩ (.string x.nm))∧Fr (·=g) w (((w.setCell ⟨g,k*3,none⟩ (.int .i64 x.nd)).setCell ⟨g,k*3+1,none⟩ (.int .i64 x.into)).setCell ⟨g,k*3+2,none⟩ (.string x.nm)):=by
 have hlt:=(List.getElem?_eq_some_iff.1 hy).1
 have hl:∀ z:PlT,(L.set k z).length=L.length:=fun z=>List.length_set
 have hg:∀ z:PlT,(L.set k z)[k]?=some z:=fun z=>by rw [List.getElem?_set_self hlt]
 obtain ⟨r1,g1⟩:=h.stored (L':=L.set k ⟨x.nd,y.into,y.nm⟩) (k*3) (.int .i64 x.nd) (hl _) (row_set1 (i:=0) (E:=plE) hy (by decide) rfl)
 obtain ⟨r2,g2⟩:=r1.stored (L':=L.set k ⟨x.nd,x.into,y.nm⟩) (k*3+1) (.int .i64 x.into) (by rw [hl,hl]) (by rw [←List.set_set (l:=L) (a:=⟨x.nd,y.into,y.nm⟩)];exact row_set1 (i:=1) (E:=plE) (hg _) (by decide) rfl)
 obtain ⟨r3,g3⟩:=r2.stored (L':=L.set k x) (k*3+2) (.string x.nm) (by rw [hl,hl]) (by rw [←List.set_set (l:=L) (a:=⟨x.nd,x.into,y.nm⟩)];exact row_set1 (i:=2) (E:=plE) (hg _) (by decide) rfl)
 exact ⟨r3,((fr_of_grown (X:=fun j=>j=g) g1 rfl).trans (fr_of_grown (X:=fun j=>j=g) g2 rfl)).trans (fr_of_grown (X:=fun j=>j=g) g3 rfl)⟩
def zPl:PlT:=⟨0,0,⟨#[]⟩⟩
abbrev plCells (x:PlT):Array Value:=#[.int .i64 x.nd,.int .i64 x.into,.string x.nm]
theorem run_clearPl (w:World) (ty:TypeId) (g o m c:Nat) (hm:0 < m) (hc:∀ j,j < m*3→(w.cell? ⟨g,o+j,none⟩).isSome=true) (hf:∀ j,w.frozen? ⟨g,j,none⟩=false) :
  (Builtin.clear_ #[77] ty #[.slice (some ⟨g,o,none⟩) m c]).run Tryz.prog w=.ok (.tuple #[]) (w.setCells g o (Builtin.zeroCells (plCells zPl) m).toList):=by
 have hl:(Builtin.zeroCells (plCells zPl) m).toList.length=m*3:=by simp [Builtin.zeroCells,zPl]
 have h1:∀ v∈(Builtin.zeroCells (plCells zPl) m).toList,v.oneCell'=true:=fun v hv=>by
  simp only [Builtin.zeroCells,Array.toList_map,List.mem_map] at hv
  obtain ⟨i,_,rfl⟩:=hv
  have:i % (plCells zPl).size < 3:=Nat.mod_lt _ (by decide)
  generalize i % (plCells zPl).size=q at this
  rcases (show q=0∨q=1∨q=2 by omega) with rfl | rfl | rfl <;> rfl
 have hst:=run_storeCells_cells (P:=Tryz.prog) g o (Builtin.zeroCells (plCells zPl) m).toList 0 w (by rw [hl];simpa using hc) (fun j _=>hf _) h1
 simp only [Nat.add_zero] at hst
 obtain ⟨m,rfl⟩:∃ m',m=m' + 1:=⟨m - 1,by omega⟩
 have hz:∀ w,(zeroValue 81).run Tryz.prog w=.ok (.agg (plCells zPl)) w:=fun w=>by simp [go_sem,zPl]
 have hzz:(Value.agg (plCells zPl)).cells=plCells zPl:=rfl
 simp [Builtin.clear_,run_underlying Tryz.underlying77,hz,hzz,hst]
def outB (z:Int) (y:PlT):Bool:=decide (y.into≠z)
theorem outside_any (VB:Nat) (z:Int) (y:PlT) (w:World) (hv:w.cell? ⟨VB,0,none⟩=some (.int .i64 z)) :
  Calls Tryz.prog 69 #[.agg (plCells y),.pointer (some ⟨VB,0,none⟩)] w fun e w'=>e=.returned (.bool (outB z y))∧Below w.heap.size w w':=by
 have hl:=World.block_lt_of_cell? _ _ hv
 have hc1:(w.alloc (.cells (plCells y) 81)).cell? ⟨VB,0,none⟩=some (.int .i64 z):=cell_keep' ((Below.refl w.heap.size w).alloc (Nat.le_refl _) _) hv
 have hne:w.heap.size≠VB:=by simp only at hl;omega
 obtain ⟨nd,into,nm⟩:=y
 simp only [plCells] at hc1
 clear hv
 by_cases h:into=z
 ·have hb:outB z ⟨nd,into,nm⟩=false:=decide_eq_false (fun hn=>hn h)
  rw [hb]
  subst h
  clear hb
  go_enter Tryz.func69,Tryz.ntmps69
  go_wp2_with fail
  refine bodyPost_ret (v:=.bool false) (by simp [results,Tryz.results69,go_sem]) rfl ⟨rfl,by go_grown⟩
 ·have hb:outB z ⟨nd,into,nm⟩=true:=decide_eq_true h
  rw [hb]
  go_enter Tryz.func69,Tryz.ntmps69
  go_wp2_with fail
  go_ret
  exact ⟨by simp [h],by go_grown⟩
def firstO (z:Int) (L:List PlT) (r:Int):Prop:=(r = -1∧∀ x,x∈L→outB z x=false)∨∃ (k:Nat) (x:PlT),L[k]?=some x∧r=(k:Int)∧outB z x=true∧∀ (j:Nat) (y:PlT),j < k→L[j]?=some y→outB z y=false
abbrev clO (VB:Nat):Value:=.func (.func 69) #[] #[.pointer (some ⟨VB,0,none⟩)]
theorem indexPl_any (VB:Nat) (z:Int) (A:Option Addr) (n c:Nat) (L:List PlT) (w:World) (hs:SlV plE w (.slice A n c) L) (hc:n≤maxLen) (hv:w.cell? ⟨VB,0,none⟩=some (.int .i64 z)) :
  Calls Tryz.prog 131 #[.slice A n c,clO VB] w fun e w'=>∃ r:Int,e=.returned (.int .i64 r)∧firstO z L r∧Below w.heap.size w w':=by
 have hn:=hs.len
 have HN:=Lib.hid hn
 have HS:=Lib.hid hs
 have HV:=Lib.hid hv
 have hmx:n≤9223372036854775807:=by unfold maxLen at hc;omega
 clear hs hn hc hv
 go_enter Tryz.func131,Tryz.ntmps131
 go_wp2_with fail
 go_loopw [5,8] (fun v5 v8 wr=>∃ j:Nat,j≤n∧v8=.int .i64 j∧Hid (Below w.heap.size w wr)∧Hid (∀ i x,i < j→L[i]?=some x→outB z x=false)) (fun v5 v8 _=>n - (RowKit.intOf v8).toNat)
 case atStart=>exact ⟨0,by omega,rfl,Lib.hid (Below.refl _ _),Lib.hid (fun i x h=>by omega)⟩
 case round=>
  obtain ⟨j,hj,rfl,HW,HA⟩:=hrel
  by_cases hlt:j < n
  ·obtain ⟨x,hx⟩:∃ x,L[j]?=some x:=⟨_,List.getElem?_eq_getElem (by have:=HN.out;omega)⟩
   obtain ⟨b,off,rfl,hbl,c0,c1,c2⟩:=pl_at (HS.out.below HW.out) hx
   have HX:=Lib.hid hx
   have HC:=Lib.hid (outside_any VB z x wr (cell_keep' HW.out HV.out))
   obtain ⟨q,hq⟩:∃ q,outB z x=q:=⟨_,rfl⟩
   have HQ:=Lib.hid hq
   rw [hq] at HC
   have i1:(0:Int)≤(j:Int):=by omega
   have i2:(j:Int) < (n:Int):=by omega
   clear hx hq hbl
   go_wp2_with fail
   refine HC.out.mono ?_
   rintro e w1 ⟨rfl,hb1⟩
   have HW1:=Lib.hid (HW.out.trans (hb1.mono HW.out.size))
   clear hb1 c0 c1 c2
   cases q with
   | true=>
    go_wp2_with fail
    go_ret
    exact ⟨j,rfl,.inr ⟨j,x,HX.out,rfl,HQ.out,fun i y h1 h2=>HA.out i y h1 h2⟩,HW1.out⟩
   | false=>
    go_wp2_with fail
    go_roundw
    case rel=>exact ⟨j+1,by omega,by go_num,HW1,Lib.hid (fun i y h1 h2=>by
     by_cases he:i=j
     ·subst he
      rw [HX.out] at h2
      cases h2
      exact HQ.out
     ·exact HA.out i y (by omega) h2)⟩
    case measure=>simp [RowKit.intOf];omega
  ·obtain rfl:j=n:=by omega
   have i2:¬ (j:Int) < (j:Int):=by omega
   go_wp2_with fail
   go_ret
   exact ⟨_,rfl,.inl ⟨rfl,fun x hx=>by
    obtain ⟨i,hi,rfl⟩:=List.getElem_of_mem hx
    exact HA.out i _ (by have:=HN.out;omega) (List.getElem?_eq_getElem hi)⟩,HW.out⟩
structure SiftP (L:List PlT) (keep:PlT→Bool) (i j:Nat) (M:List PlT):Prop where
 len:M.length=L.length
 lt:i < j
 jle:j≤L.length
 done:M.take i=(L.take j).filter keep
 rest:∀ k,j≤k→M[k]?=L[k]?
theorem SiftP.start {L:List PlT} {z:Int} {k:Nat} {x:PlT} (hx:L[k]?=some x) (hh:outB z x=true) (ha:∀ (j:Nat) (y:PlT),j < k→L[j]?=some y→outB z y=false):SiftP L (fun o=>!outB z o) k (k+1) L:=by
 have hl:=(List.getElem?_eq_some_iff.1 hx).1
 refine ⟨rfl,by omega,by omega,?_,fun _ _=>rfl⟩
 rw [List.take_add_one,hx,List.filter_append]
 simp only [Option.toList_some]
 rw [List.filter_cons_of_neg (by simp [hh]),List.filter_nil,List.append_nil]
 refine (List.filter_eq_self.2 fun y hy=>?_).symm
 obtain ⟨j,hj,rfl⟩:=List.getElem_of_mem hy
 have hj':j < k:=by rw [List.length_take] at hj;omega
 rw [List.getElem_take]
 simp [ha j _ hj' (List.getElem?_eq_getElem (by omega))]
theorem SiftP.keep {L M:List PlT} {keep:PlT→Bool} {i j:Nat} {x:PlT} (h:SiftP L keep i j M) (hx:L[j]?=some x) (hk:keep x=true):SiftP L keep (i+1) (j+1) (M.set i x):=by
 have hl:=(List.getElem?_eq_some_iff.1 hx).1
 have h1:=h.len
 have h2:=h.lt
 refine ⟨by rw [List.length_set,h1],by omega,by omega,?_,fun k hk'=>?_⟩
 ·rw [List.take_add_one,List.take_set_of_le (Nat.le_refl _),List.getElem?_set_self (by omega),h.done,List.take_add_one,hx,List.filter_append]
  simp [hk]
 ·rw [List.getElem?_set_ne (by omega),h.rest k (by omega)]
theorem SiftP.skip {L M:List PlT} {keep:PlT→Bool} {i j:Nat} {x:PlT} (h:SiftP L keep i j M) (hx:L[j]?=some x) (hk:keep x=false):SiftP L keep i (j+1) M:=by
 have hl:=(List.getElem?_eq_some_iff.1 hx).1
 have h2:=h.lt
 refine ⟨h.len,by omega,by omega,?_,fun k hk'=>h.rest k (by omega)⟩
 rw [h.done,List.take_add_one,hx,List.filter_append]
 simp [hk]
abbrev PlC (B off:Nat) (x:PlT) (w:World):Prop:=w.cell? ⟨B,off,none⟩=some (.int .i64 x.nd)∧w.cell? ⟨B,off+1,none⟩=some (.int .i64 x.into)∧w.cell? ⟨B,off+2,none⟩=some (.string x.nm)
theorem PlC.below {B off:Nat} {x:PlT} {w w':World} (h:PlC B off x w) (hb:Below w.heap.size w w'):PlC B off x w':=⟨cell_keep' hb h.1,cell_keep' hb h.2.1,cell_keep' hb h.2.2⟩
theorem PlC.start (w:World) (x:PlT) (t:TypeId):PlC w.heap.size 0 x (w.alloc (.cells (plCells x) t)):=by refine ⟨?_,?_,?_⟩ <;> simp [go_sem]
theorem Rw.pl {base g n c:Nat} {L:List PlT} {w:World} (h:Rw plE 81 base (.slice (some ⟨g,0,none⟩) n c) L w) {i:Nat} {x:PlT} (hx:L[i]?=some x):PlC g (i*3) x w:=
 ⟨h.at' rfl hx (j:=0) rfl,h.at' rfl hx (j:=1) rfl,h.at' rfl hx (j:=2) rfl⟩
theorem deletePl_any (base VB:Nat) (z:Int) (g n c:Nat) (L:List PlT) (w:World) (hr:Rw plE 81 base (.slice (some ⟨g,0,none⟩) n c) L w) (hv:w.cell? ⟨VB,0,none⟩=some (.int .i64 z)) (hne:VB≠g) :
  Calls Tryz.prog 68 #[.slice (some ⟨g,0,none⟩) n c,clO VB] w fun e w'=>∃ m:Nat,e=.returned (.slice (some ⟨g,0,none⟩) m c)∧Rw plE 81 base (.slice (some ⟨g,0,none⟩) m c) (L.filter fun o=>!outB z o) w'∧Fr (·=g) w w':=by
 have hn:n=L.length:=hr.sl.len
 have hnc:n≤c∧c≤maxLen:=by
  rcases hr.form with ⟨e,_⟩ | ⟨g',cap,e,h1,h2,_⟩
  ·cases e
  ·cases e;exact ⟨by omega,h2⟩
 have HI:=Lib.hid (indexPl_any VB z (some ⟨g,0,none⟩) n c L w hr.sl (by omega) hv)
 have hmx:c≤9223372036854775807:=by have:=hnc.2;unfold maxLen at this;omega
 have hnc1:=hnc.1
 have HR:=Lib.hid hr
 have HV:=Lib.hid hv
 have HVl:=Lib.hid (World.block_lt_of_cell? _ _ hv)
 have HN:=Lib.hid hn
 have HNe:=Lib.hid hne
 clear hr hv hn hne hnc
 go_enter Tryz.func68,Tryz.ntmps68
 go_wp2_with fail
 refine HI.out.mono ?_
 rintro e w1 ⟨r,rfl,hf,hb1⟩
 have HB1:=Lib.hid hb1
 clear hb1 HI
 rcases hf with ⟨rfl,hnone⟩ | ⟨k0,x0,hx0,rfl,hh0,ha0⟩
 ·have HNo:=Lib.hid hnone
  clear hnone
  go_wp2_with fail
  go_ret
  refine ⟨n,rfl,?_,Fr.of_below HB1.out⟩
  rw [List.filter_eq_self.2 fun x hx=>by simp [HNo.out x hx]]
  exact HR.out.below HB1.out
 ·have HS0:=Lib.hid (SiftP.start hx0 hh0 ha0)
  have hk0:k0 < n:=by have:=(List.getElem?_eq_some_iff.1 hx0).1;have:=HN.out;omega
  have hm1:((k0:Int) == -1)=false:=beq_eq_false_iff_ne.2 (by omega)
  clear hx0 hh0 ha0
  go_wp2_with fail
  go_loopw [5,6] (fun v5 v6 wr=>∃ (i j:Nat) (M:List PlT),v5=.int .i64 i∧v6=.int .i64 j∧i < j∧j≤n∧Hid (SiftP L (fun o=>!outB z o) i j M∧Rw plE 81 base (.slice (some ⟨g,0,none⟩) n c) M wr∧Fr (·=g) w wr)) (fun v5 v6 _=>n - (RowKit.intOf v6).toNat)
  case atStart=>exact ⟨k0,k0+1,L,rfl,by go_num,by omega,by omega,Lib.hid ⟨HS0.out,HR.out.below HB1.out,Fr.of_below HB1.out⟩⟩
  case round=>
   obtain ⟨i,j,M,rfl,rfl,hij,hjn,HH⟩:=hrel
   by_cases hlt:j < n
   ·obtain ⟨x,hx⟩:∃ x,L[j]?=some x:=⟨_,List.getElem?_eq_getElem (by have:=HN.out;omega)⟩
    obtain ⟨y,hy⟩:∃ y,M[i]?=some y:=⟨_,List.getElem?_eq_getElem (by have:=HN.out;have:=HH.out.1.len;omega)⟩
    obtain ⟨c0,c1,c2⟩:=HH.out.2.1.pl ((HH.out.1.rest j (Nat.le_refl _)).trans hx)
    have HX:=Lib.hid hx
    have HY:=Lib.hid hy
    obtain ⟨q,hq⟩:∃ q,outB z x=q:=⟨_,rfl⟩
    have HQ:=Lib.hid hq
    have HC:=Lib.hid (fun (w':World) (hv':w'.cell? ⟨VB,0,none⟩=some (.int .i64 z))=>by have:=outside_any VB z x w' hv';rw [hq] at this;exact this)
    have i1:(0:Int)≤(j:Int):=by omega
    have i2:(j:Int) < (n:Int):=by omega
    have HVr:=Lib.hid ((HH.out.2.2.cell (p:=⟨VB,0,none⟩) HVl.out HNe.out).trans HV.out)
    clear hx hq hy
    go_wp2_with fail
    refine (HC.out _ (cell_keep' ((Below.refl _ _).alloc (Nat.le_refl _) _) HVr.out)).mono ?_
    rintro e w2 ⟨rfl,hb2⟩
    have HW2:Hid (Below wr.heap.size wr w2):=Lib.hid (((Below.refl wr.heap.size wr).alloc (Nat.le_refl _) (.cells (plCells x) 81)).trans (hb2.mono (by simp)))
    have HA2:Hid (PlC wr.heap.size 0 x w2):=Lib.hid ((PlC.start wr x 81).below hb2)
    clear hb2 c0 c1 c2 HC
    have HR2:=Lib.hid (HH.out.2.1.below HW2.out)
    cases q with
    | true=>
     go_wp2_with fail
     go_roundw
     case rel=>exact ⟨i,j+1,M,rfl,by go_num,by omega,by omega,Lib.hid ⟨HH.out.1.skip HX.out (by simp [HQ.out]),HR2.out,HH.out.2.2.trans (Fr.of_below HW2.out)⟩⟩
     case measure=>simp [RowKit.intOf];omega
    | false=>
     obtain ⟨a0,a1,a2⟩:=HA2.out
     simp only [Nat.zero_add] at a1 a2
     obtain ⟨r0,r1,r2⟩:=HR2.out.pl HY.out
     have zz:=HR2.out.fz
     have z0:=zz (i*3)
     have z1:=zz (i*3+1)
     have z2:=zz (i*3+2)
     have i3:(0:Int)≤(i:Int):=by omega
     have i4:(i:Int) < (n:Int):=by omega
     have ng:wr.heap.size≠g:=by
      have:=(HR2.out.lt g rfl).2
      have:=(HH.out.2.1.lt g rfl).2
      omega
     clear zz
     go_wp2_with fail
     go_roundw
     case rel=>exact ⟨i+1,j+1,M.set i x,by go_num,by go_num,by omega,by omega,Lib.hid ⟨HH.out.1.keep HX.out (by simp [HQ.out]),(HR2.out.setPl HY.out).1,(HH.out.2.2.trans (Fr.of_below HW2.out)).trans (HR2.out.setPl HY.out).2⟩⟩
     case measure=>simp [RowKit.intOf];omega
   ·obtain rfl:j=n:=by omega
    have i2:¬ (j:Int) < (j:Int):=by omega
    have i3:(0:Int)≤(i:Int):=by omega
    have i4:(i:Int)≤(j:Int):=by omega
    have hml:M.length=j:=by rw [HH.out.1.len,HN.out]
    have HCl:=fun ty=>run_clearPl wr ty g (i*3) (j - i) (c - i) (by omega) (fun q hq=>by
     obtain ⟨x,hx⟩:∃ x,M[i+q / 3]?=some x:=⟨_,List.getElem?_eq_getElem (by omega)⟩
     obtain ⟨u,hu⟩:∃ u,(plE.cells x)[q % 3]?=some u:=⟨_,List.getElem?_eq_getElem (by rw [plE.len];exact Nat.mod_lt _ (by decide))⟩
     have:=HH.out.2.1.at' rfl hx hu
     rw [show (i+q / 3)*plE.k+q % 3=i*3+q by show (i+q / 3)*3+q % 3=_;omega] at this
     rw [this];rfl) HH.out.2.1.fz
    have HBy:=Lib.hid ((HH.out.2.1.cut (i:=i) (by omega)).beyond (Builtin.zeroCells (plCells zPl) (j - i)).toList (i*3) wr (Nat.le_refl _))
    go_wp2_with fail
    go_ret
    refine ⟨i,rfl,?_,HH.out.2.2.trans HBy.out.2⟩
    have:=HBy.out.1
    rw [HH.out.1.done,List.take_of_length_le (by have:=HN.out;omega)] at this
    exact this
theorem deletePl_nil (VB:Nat) (z:Int) (w:World) (hv:w.cell? ⟨VB,0,none⟩=some (.int .i64 z)) :
  Calls Tryz.prog 68 #[.slice none 0 0,clO VB] w fun e w'=>e=.returned (.slice none 0 0)∧Below w.heap.size w w':=by
 have HI:=Lib.hid (indexPl_any VB z none 0 0 [] w (.inl ⟨rfl,rfl⟩) (by decide) hv)
 clear hv
 go_enter Tryz.func68,Tryz.ntmps68
 go_wp2_with fail
 refine HI.out.mono ?_
 rintro e w1 ⟨r,rfl,hf,hb1⟩
 have HB1:=Lib.hid hb1
 clear hb1 HI
 obtain rfl:r = -1:=by
  rcases hf with h | ⟨k,x,h,_⟩
  ·exact h.1
  ·simp at h
 clear hf
 go_wp2_with fail
 go_ret
 exact ⟨rfl,HB1.out⟩
end Go.Proofs.YtjekalilfhnpmaaGreatDoor
