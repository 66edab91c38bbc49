/- Operations in rows. Operations found in a list: plain. What a replica's operations make of a node's text: the plain law. The letters' order depends on the operations alone, in whatever order they come. Operations by stamp: plain. Operations that rise by their stamps: plain. Rows of structs: an append that says where the row lies; a slice of structs that comes in, opened with what each is. Rows of operations: grown, put together. Slices of operations: are they long; a copy; are two the same. Operations in order, by the document: the walk of SortedOf. A replica's operations by whose, and number: -/
import Derived.Lib.AppendZerosOnto
import Derived.LoopN
import Derived.Lib.SliceRun
import Derived.Maps.AppendAt
import Derived.Deep.CutBlock
import Derived.Test.YtjekalilfhnpmaaGreatDoorQ00
import Derived.Test.YtjekalilfhnpmaaGreatDoorQ05
import Derived.Test.YtjekalilfhnpmaaGreatDoorQ06
theorem Go.Proofs.YtjekalilfhnpmaaGreatDoor.κ7 {p:Prop} (h:p):Go.RowKit.Hid p:=Go.Lib.hid h
namespace Go.Proofs.YtjekalilfhnpmaaGreatDoor
open Go Go.RowKit
set_option linter.unusedVariables false
set_option linter.unusedSimpArgs false
instance:Inhabited OpT:=⟨⟨0,0,0,0,0,0,⟨#[]⟩,⟨#[]⟩⟩⟩
def opE:Enc OpT:=⟨fun o=>o.cells.toList,8,fun _=>rfl,fun x v hv=>by
 simp at hv
 rcases hv with rfl | rfl | rfl | rfl | rfl | rfl | rfl | rfl <;> rfl⟩
theorem infoOp:(Tryz.prog.info? 31).map (fun i=>(i.zero,i.size,i.bytes))=some (some (opV ⟨0,0,0,0,0,0,⟨#[]⟩,⟨#[]⟩⟩),8,80):=by kernel_rfl
end Go.Proofs.YtjekalilfhnpmaaGreatDoor
namespace Go.Proofs.YtjekalilfhnpmaaGreatDoor
set_option linter.unusedVariables false
set_option linter.unusedSimpArgs false
def insB (nd:Int) (x:Int) (o:OpT):Bool:=decide (o.k=105∧o.nd=nd∧o.id=x)
theorem insB_iff {nd x:Int} {o:OpT}:insB nd x o=true↔(o.k=105∧o.nd=nd∧o.id=x):=by unfold insB;simp
def HasLet (D:List OpT) (nd x:Int):Prop:=∃ o,o∈D∧o.k=105∧o.nd=nd∧o.id=x
def ownB (b n:Int) (o:OpT):Bool:=decide (o.b=b∧o.n=n)
def findOwn (K:List OpT) (b n:Int):Option OpT:=K.reverse.find? (ownB b n)
theorem findOwn_snoc (K:List OpT) (o:OpT) (b n:Int):findOwn (K++[o]) b n=if o.b=b∧o.n=n then some o else findOwn K b n:=by
 unfold findOwn
 rw [List.reverse_append,List.reverse_cons,List.reverse_nil,List.nil_append,List.singleton_append,List.find?_cons]
 unfold ownB
 by_cases h:o.b=b∧o.n=n <;> simp [h]
theorem findOwn_some {K:List OpT} {b n:Int} {o:OpT} (h:findOwn K b n=some o):o∈K∧o.b=b∧o.n=n:=by
 have h1:=List.mem_of_find?_eq_some h
 have h2:=List.find?_some h
 unfold ownB at h2
 simp at h2
 exact ⟨by simpa using h1,h2⟩
theorem findOwn_none {K:List OpT} {b n:Int} (h:findOwn K b n=none):∀ o∈K,¬ (o.b=b∧o.n=n):=fun o ho hh=>by
 have:=List.find?_eq_none.1 h o (by simpa using ho)
 unfold ownB at this
 simp at this
 exact this hh.1 hh.2
theorem findOwn_is {K:List OpT} (hu:∀ o∈K,∀ p∈K,o.b=p.b→o.n=p.n→o=p) {o:OpT} (ho:o∈K):findOwn K o.b o.n=some o:=by
 cases h:findOwn K o.b o.n with
 | none=>exact absurd ⟨rfl,rfl⟩ (findOwn_none h o ho)
 | some p=>
  obtain ⟨h1,h2,h3⟩:=findOwn_some h
  rw [hu p h1 o ho h2 h3]
def nodeB (P:List OpT) (nd:Int):Bool:=P.any fun o=>decide (o.k=109∧o.nd=nd)
def lettB (P:List OpT) (nd x:Int):Bool:=P.any (insB nd x)
end Go.Proofs.YtjekalilfhnpmaaGreatDoor
namespace Go.Proofs.YtjekalilfhnpmaaGreatDoor
open LineOrd
set_option linter.unusedVariables false
set_option linter.unusedSimpArgs false
structure LinesOk (D:List OpT):Prop where
 lo:∀ o∈D,4≤o.id
 hi:∀ o∈D,o.id < 4294967300
 one:∀ o∈D,∀ o'∈D,o.id=o'.id→o=o'
 ot:∀ o∈D,o.k=105→0≤o.ot∧o.ot < o.id
 behind:∀ o∈D,o.k=105→0 < o.ot→HasLet D o.nd o.ot
 dead:∀ o∈D,o.k=100→HasLet D o.nd o.ot
def parD (D:List OpT) (nd:Int) (x:Nat):Nat:=match D.find? (insB nd x) with | some o=>o.ot.toNat | none=>0
def chD (D:List OpT) (nd:Int) (x:Nat):UInt8:=match D.find? (insB nd x) with | some o=>o.vl.data.toList.headD 0 | none=>0
def goneB (nd x:Int) (o:OpT):Bool:=decide (o.k=100∧o.nd=nd∧o.ot=x)
def goneD (D:List OpT) (nd:Int) (x:Nat):Bool:=D.any (goneB nd x)
def letD (D:List OpT) (nd:Int) (x:Nat):Lt:=⟨x,chD D nd x,goneD D nd x⟩
theorem find_ins {D:List OpT} (h:LinesOk D) {o:OpT} (ho:o∈D) (hk:o.k=105) {nd:Int} (hn:o.nd=nd) {x:Nat} (hx:o.id=x):D.find? (insB nd x)=some o:=by
 cases hf:D.find? (insB nd x) with
 | none=>
  have:=List.find?_eq_none.1 hf o ho
  exact absurd (insB_iff.2 ⟨hk,hn,hx⟩) this
 | some o'=>
  have h1:=List.mem_of_find?_eq_some hf
  have h2:=insB_iff.1 (List.find?_some hf)
  rw [h.one o' h1 o ho (h2.2.2.trans hx.symm)]
theorem find_no {D:List OpT} {nd:Int} {x:Nat} (hx:¬ HasLet D nd x):D.find? (insB nd x)=none:=
 List.find?_eq_none.2 fun o ho hb=>hx ⟨o,ho,insB_iff.1 hb⟩
theorem parD_is {D:List OpT} (h:LinesOk D) {o:OpT} (ho:o∈D) (hk:o.k=105) {nd:Int} (hn:o.nd=nd) {x:Nat} (hx:o.id=x):parD D nd x=o.ot.toNat:=by
 unfold parD;rw [find_ins h ho hk hn hx]
theorem parD_no {D:List OpT} {nd:Int} {x:Nat} (hx:¬ HasLet D nd x):parD D nd x=0:=by
 unfold parD;rw [find_no hx]
theorem parD_lt {D:List OpT} (h:LinesOk D) (nd:Int):∀ z,0 < z→parD D nd z < z:=fun z hz=>by
 unfold parD
 split
 ·rename_i o hf
  have h1:=List.mem_of_find?_eq_some hf
  have h2:=insB_iff.1 (List.find?_some hf)
  have:=h.ot o h1 h2.1
  omega
 ·exact hz
theorem bef_congr {par par':Nat→Nat} {S:Nat→Prop} (hS:∀ z,S z→par z=par' z∧S (par z)):∀ (n x y:Nat),S x→S y→bef par n x y=bef par' n x y
 | 0,_,_,_,_=>rfl
 | n+1,x,y,hx,hy=>by
  obtain ⟨e1,s1⟩:=hS x hx
  obtain ⟨e2,s2⟩:=hS y hy
  simp only [bef]
  rw [bef_congr hS n x (par y) hx s2,bef_congr hS n y (par x) hy s1,e1,e2]
theorem Bef_congr {par par':Nat→Nat} {S:Nat→Prop} (hS:∀ z,S z→par z=par' z∧S (par z)) {x y:Nat} (hx:S x) (hy:S y):Bef par x y↔Bef par' x y:=by
 unfold Bef;rw [bef_congr hS _ x y hx hy]
structure LineOf (D:List OpT) (nd:Int) (L:List Lt):Prop where
 l:∃ l:List Nat,L=l.map (letD D nd)∧LineOrd.Good (parD D nd) (Bef (parD D nd)) l∧∀ x:Nat,x∈l↔HasLet D nd x
theorem LineOf.nil (nd:Int) {D:List OpT} (h:∀ x,¬ HasLet D nd x):LineOf D nd []:=⟨[],rfl,LineOrd.Good.nil,fun x=>⟨fun h'=>by simp at h',fun h'=>absurd h' (h x)⟩⟩
theorem LineOf.unique {D D':List OpT} (hD:LinesOk D) (he:∀ o,o∈D↔o∈D') {nd:Int} {L L':List Lt} (h:LineOf D nd L) (h':LineOf D' nd L'):L=L':=by
 have hD':LinesOk D':=by
  refine ⟨fun o ho=>hD.lo o ((he o).2 ho),fun o ho=>hD.hi o ((he o).2 ho),fun o ho o' ho'=>hD.one o ((he o).2 ho) o' ((he o').2 ho'),fun o ho=>hD.ot o ((he o).2 ho),fun o ho hk h0=>?_,fun o ho hk=>?_⟩
  ·obtain ⟨p,hp,r⟩:=hD.behind o ((he o).2 ho) hk h0
   exact ⟨p,(he p).1 hp,r⟩
  ·obtain ⟨p,hp,r⟩:=hD.dead o ((he o).2 ho) hk
   exact ⟨p,(he p).1 hp,r⟩
 obtain ⟨l,rfl,hg,hm⟩:=h.l
 obtain ⟨l',rfl,hg',hm'⟩:=h'.l
 have hl:∀ x,HasLet D nd x↔HasLet D' nd x:=fun x=>⟨fun ⟨o,ho,r⟩=>⟨o,(he o).1 ho,r⟩,fun ⟨o,ho,r⟩=>⟨o,(he o).2 ho,r⟩⟩
 have hf:∀ x:Nat,D.find? (insB nd x)=D'.find? (insB nd x):=fun x=>by
  by_cases hx:HasLet D nd x
  ·obtain ⟨o,ho,h1,h2,h3⟩:=hx
   rw [find_ins hD ho h1 h2 h3,find_ins hD' ((he o).1 ho) h1 h2 h3]
  ·rw [find_no hx,find_no (fun h=>hx ((hl x).2 h))]
 have hp:parD D nd=parD D' nd:=funext fun x=>by unfold parD;rw [hf x]
 have hgn:∀ x:Nat,goneD D nd x=goneD D' nd x:=fun x=>by
  unfold goneD
  rw [Bool.eq_iff_iff,List.any_eq_true,List.any_eq_true]
  exact ⟨fun ⟨o,ho,r⟩=>⟨o,(he o).1 ho,r⟩,fun ⟨o,ho,r⟩=>⟨o,(he o).2 ho,r⟩⟩
 have hlt:letD D nd=letD D' nd:=funext fun x=>by unfold letD chD;rw [hf x,hgn x]
 rw [hp] at hg
 have e:l=l':=(Bef.order _ (parD_lt hD' nd)).unique hg.sorted hg'.sorted fun x=>by rw [hm,hm',hl]
 rw [e,hlt]
structure OneMore (o:OpT) (D D':List OpT):Prop where
 ok:LinesOk D
 ok':LinesOk D'
 mem:∀ p,p∈D'↔p=o∨p∈D
 new:o ∉ D
theorem OneMore.let_iff {o:OpT} {D D':List OpT} (h:OneMore o D D') (nd x:Int):HasLet D' nd x↔(o.k=105∧o.nd=nd∧o.id=x)∨HasLet D nd x:=by
 constructor
 ·rintro ⟨p,hp,r⟩
  rcases (h.mem p).1 hp with rfl | hp
  ·exact .inl r
  ·exact .inr ⟨p,hp,r⟩
 ·rintro (r | ⟨p,hp,r⟩)
  ·exact ⟨o,(h.mem o).2 (.inl rfl),r⟩
  ·exact ⟨p,(h.mem p).2 (.inr hp),r⟩
theorem OneMore.old {o:OpT} {D D':List OpT} (h:OneMore o D D') {nd:Int} {x:Nat} (hx:HasLet D nd x):D'.find? (insB nd x)=D.find? (insB nd x):=by
 obtain ⟨p,hp,h1,h2,h3⟩:=hx
 rw [find_ins h.ok hp h1 h2 h3,find_ins h.ok' ((h.mem p).2 (.inr hp)) h1 h2 h3]
theorem OneMore.par {o:OpT} {D D':List OpT} (h:OneMore o D D') {nd:Int} {x:Nat} (hx:HasLet D nd x):parD D' nd x=parD D nd x:=by unfold parD;rw [h.old hx]
theorem par0 {D:List OpT} (h:LinesOk D) (nd:Int):parD D nd 0=0:=parD_no fun ⟨o,ho,_,_,h3⟩=>by have:=h.lo o ho;simp at h3;omega
theorem OneMore.good {o:OpT} {D D':List OpT} (h:OneMore o D D') {nd:Int} {l:List Nat} (hg:LineOrd.Good (parD D nd) (Bef (parD D nd)) l) (hm:∀ x:Nat,x∈l↔HasLet D nd x):LineOrd.Good (parD D' nd) (Bef (parD D' nd)) l:=by
 have hS:∀ z,(z=0∨z∈l)→parD D nd z=parD D' nd z∧(parD D nd z=0∨parD D nd z∈l):=by
  rintro z (rfl | hz)
  ·rw [par0 h.ok,par0 h.ok'];exact ⟨rfl,.inl rfl⟩
  ·exact ⟨(h.par ((hm z).1 hz)).symm,hg.closed z hz⟩
 refine ⟨hg.sorted.imp_of_mem fun {a b} ha hb hab=>(Bef_congr hS (.inr ha) (.inr hb)).1 hab,hg.pos,fun y hy=>?_⟩
 rw [h.par ((hm y).1 hy)]
 exact hg.closed y hy
theorem LineOf.other {o:OpT} {D D':List OpT} (h:OneMore o D D') {nd:Int} {L:List Lt} (hL:LineOf D nd L) (h1:¬ (o.k=105∧o.nd=nd)) (h2:¬ (o.k=100∧o.nd=nd)):LineOf D' nd L:=by
 obtain ⟨l,rfl,hg,hm⟩:=hL.l
 have hm':∀ x:Nat,x∈l↔HasLet D' nd x:=fun x=>by
  rw [hm,h.let_iff]
  exact ⟨.inr,fun h=>h.resolve_left (fun h=>h1 ⟨h.1,h.2.1⟩)⟩
 refine ⟨l,List.map_congr_left fun x hx=>?_,h.good hg hm,hm'⟩
 unfold letD chD
 rw [h.old ((hm x).1 hx)]
 have:goneD D nd x=goneD D' nd x:=by
  unfold goneD
  rw [Bool.eq_iff_iff,List.any_eq_true,List.any_eq_true]
  constructor
  ·rintro ⟨p,hp,r⟩;exact ⟨p,(h.mem p).2 (.inr hp),r⟩
  ·rintro ⟨p,hp,r⟩
   rcases (h.mem p).1 hp with rfl | hp
   ·unfold goneB at r;simp at r;exact absurd ⟨r.1,r.2.1⟩ h2
   ·exact ⟨p,hp,r⟩
 rw [this]
theorem ixOf_mapD_at {D:List OpT} {nd:Int} {x:Nat} {A B:List Nat} (h:x ∉ A):ixOf (x:Int) ((A++x :: B).map (letD D nd))=A.length:=by
 refine ixOf_some (x:=letD D nd x) (by rw [List.getElem?_map,List.getElem?_append_right (by omega)];simp) rfl fun i y hi hy=>?_
 rw [List.getElem?_map,List.getElem?_append_left hi] at hy
 obtain ⟨z,hz,rfl⟩:=Option.map_eq_some_iff.1 hy
 intro e
 have:z=x:=by have e':(z:Int)=x:=e;omega
 exact h (this▸List.mem_iff_getElem?.2 ⟨i,hz⟩)
theorem ixOf_mapD_neg {D:List OpT} {nd:Int} {x:Nat} {l:List Nat} (h:x ∉ l):ixOf (x:Int) (l.map (letD D nd)) = -1:=by
 refine ixOf_none fun y hy=>?_
 obtain ⟨z,hz,rfl⟩:=List.mem_map.1 hy
 intro e
 have:z=x:=by have e':(z:Int)=x:=e;omega
 exact h (this▸hz)
theorem goodNodup {par:Nat→Nat} (hp:∀ z,0 < z→par z < z) {l:List Nat} (hg:LineOrd.Good par (Bef par) l):l.Nodup:=hg.sorted.imp fun {a b} hab e=>by
 subst e
 exact (Bef.order par hp).irr _ hab
theorem split_mem {l:List Nat} (hn:l.Nodup) {x:Nat} (hx:x∈l):∃ A B,l=A++x :: B∧x ∉ A∧x ∉ B:=by
 obtain ⟨A,B,rfl⟩:=List.append_of_mem hx
 refine ⟨A,B,rfl,fun hA=>?_,fun hB=>?_⟩
 ·have:=(List.pairwise_append.1 hn).2.2 x hA x (by simp)
  exact this rfl
 ·have:=(List.pairwise_cons.1 (List.pairwise_append.1 hn).2.1).1 x hB
  exact this rfl
theorem LineOf.del {o:OpT} {D D':List OpT} (h:OneMore o D D') {nd:Int} {L:List Lt} (hL:LineOf D nd L) (hk:o.k=100) (hn:o.nd=nd):0≤ixOf o.ot L∧LineOf D' nd (delL o.ot L):=by
 obtain ⟨l,rfl,hg,hm⟩:=hL.l
 have hlet:HasLet D nd o.ot:=by
  have:=h.ok'.dead o ((h.mem o).2 (.inl rfl)) hk
  rw [hn,h.let_iff] at this
  rcases this with h1 | h1
  ·omega
  ·exact h1
 obtain ⟨p,hp,h1,h2,h3⟩:=hlet
 obtain ⟨x,hx⟩:∃ x:Nat,o.ot=x:=⟨o.ot.toNat,by have:=h.ok.lo p hp;omega⟩
 have hxl:x∈l:=(hm x).2 ⟨p,hp,h1,h2,by rw [h3,hx]⟩
 obtain ⟨A,B,rfl,hA,hB⟩:=split_mem (goodNodup (parD_lt h.ok nd) hg) hxl
 rw [hx,ixOf_mapD_at hA]
 refine ⟨by omega,A++x :: B,?_,h.good hg hm,fun y=>?_⟩
 ·have hother:∀ y∈A++x :: B,y≠x→letD D nd y=letD D' nd y:=fun y hy hne=>by
   unfold letD chD
   rw [h.old ((hm y).1 hy)]
   have:goneD D nd y=goneD D' nd y:=by
    unfold goneD
    rw [Bool.eq_iff_iff,List.any_eq_true,List.any_eq_true]
    constructor
    ·rintro ⟨p,hp,r⟩;exact ⟨p,(h.mem p).2 (.inr hp),r⟩
    ·rintro ⟨p,hp,r⟩
     rcases (h.mem p).1 hp with rfl | hp
     ·unfold goneB at r;simp at r;have:=r.2.2;omega
     ·exact ⟨p,hp,r⟩
   rw [this]
  have hdl:=delL_at (id:=(x:Int)) (x:=letD D nd x) (A:=A.map (letD D nd)) (B:=B.map (letD D nd)) rfl (fun y hy=>by
   obtain ⟨z,hz,rfl⟩:=List.mem_map.1 hy
   intro e
   have e':(z:Int)=x:=e
   exact hA (by rwa [show z=x by omega] at hz))
  rw [List.map_append,List.map_cons,hdl]
  rw [List.map_append,List.map_cons]
  congr 1
  ·exact List.map_congr_left fun y hy=>hother y (by simp [hy]) (fun e=>hA (e▸hy))
  ·congr 1
   ·have e1:goneD D' nd x=true:=by
     unfold goneD
     rw [List.any_eq_true]
     exact ⟨o,(h.mem o).2 (.inl rfl),by unfold goneB;simp [hk,hn,hx]⟩
    unfold letD chD
    rw [e1,h.old ((hm x).1 (by simp))]
   ·exact List.map_congr_left fun y hy=>hother y (by simp [hy]) (fun e=>hB (e▸hy))
 ·rw [hm,h.let_iff]
  exact ⟨.inr,fun h=>h.resolve_left (fun h=>by omega)⟩
theorem takeWhile_letD (D:List OpT) (nd:Int) (x:Nat):∀ (l:List Nat),((l.map (letD D nd)).takeWhile fun y=>decide ((x:Int) < y.id)).length=(l.takeWhile fun y=>decide (x < y)).length
 | []=>rfl
 | a :: l=>by
  rw [List.map_cons,List.takeWhile_cons,List.takeWhile_cons]
  have:(decide ((x:Int) < (letD D nd a).id))=decide (x < a):=by simp [letD]
  rw [this]
  split
  ·simp [takeWhile_letD D nd x l]
  ·rfl
theorem LineOf.ins {o:OpT} {D D':List OpT} (h:OneMore o D D') {nd:Int} {L:List Lt} (hL:LineOf D nd L) (hk:o.k=105) (hn:o.nd=nd):insErr o.id o.ot L=0∧LineOf D' nd (insL o.id o.ot (o.vl.data.toList.headD 0) L):=by
 obtain ⟨l,rfl,hg,hm⟩:=hL.l
 have hoD':=(h.mem o).2 (.inl rfl)
 have hlo:=h.ok'.lo o hoD'
 have hhi:=h.ok'.hi o hoD'
 have hot:=h.ok'.ot o hoD' hk
 obtain ⟨x,hx⟩:∃ x:Nat,o.id=x:=⟨o.id.toNat,by omega⟩
 obtain ⟨b,hb⟩:∃ b:Nat,o.ot=b:=⟨o.ot.toNat,by omega⟩
 have hpx:parD D' nd x=b:=by rw [parD_is h.ok' hoD' hk hn hx,hb];simp
 have hO:=Bef.order (parD D' nd) (parD_lt h.ok' nd)
 have hnew:x ∉ l:=fun hxl=>by
  obtain ⟨p,hp,_,_,h3⟩:=(hm x).1 hxl
  have:=h.ok'.one p ((h.mem p).2 (.inr hp)) o hoD' (by rw [h3,hx])
  rw [this] at hp
  exact h.new hp
 have hbl:0 < b→b∈l:=fun h0=>by
  have:=h.ok'.behind o hoD' hk (by omega)
  rw [hn,h.let_iff] at this
  rcases this with h1 | h1
  ·omega
  ·rw [hb] at h1;exact (hm b).2 h1
 have hgD':=h.good hg hm
 have hnd:=goodNodup (parD_lt h.ok nd) hg
 obtain ⟨P,Q,rfl,hP,hfrom,hno⟩:∃ P Q,l=P++Q∧((parD D' nd x=0∧P=[])∨∃ A,P=A++[parD D' nd x])∧insFrom o.ot (l.map (letD D nd))=P.length∧(0 < o.ot→0≤ixOf o.ot (l.map (letD D nd))):=by
  rcases Nat.eq_zero_or_pos b with h0 | h0
  ·exact ⟨[],l,rfl,.inl ⟨by omega,rfl⟩,by unfold insFrom;rw [hb,h0];rfl,by omega⟩
  ·obtain ⟨A,B,hAB,hA,_⟩:=split_mem hnd (hbl h0)
   have hix:=ixOf_mapD_at (D:=D) (nd:=nd) (x:=b) (A:=A) (B:=B) hA
   rw [←hAB] at hix
   refine ⟨A++[b],B,by rw [hAB];simp,.inr ⟨A,by rw [hpx]⟩,?_,fun _=>by rw [hb,hix];omega⟩
   unfold insFrom
   rw [hb,hix,if_pos (by omega)]
   simp
 have hi:ixOf o.id ((P++Q).map (letD D nd)) = -1:=by rw [hx];exact ixOf_mapD_neg hnew
 refine ⟨?_,?_⟩
 ·unfold insErr
  rw [if_neg (by omega),if_neg (by omega),if_neg (by intro ⟨h1,h2⟩;have:=hno h1;omega)]
 ·have hB:(P++Q).map (letD D nd)=P.map (letD D nd)++Q.map (letD D nd):=List.map_append
  have hat:insAt ((P++Q).map (letD D nd)) P.length o.id=P.length+(Q.takeWhile fun y=>decide (x < y)).length:=by
   unfold insAt
   rw [hB,List.drop_left' (by simp),hx,takeWhile_letD]
  have hQ:(Q.takeWhile fun y=>decide (x < y))++(Q.dropWhile fun y=>decide (x < y))=Q:=List.takeWhile_append_dropWhile
  have hTa:∀ y∈(Q.takeWhile fun y=>decide (x < y)),x < y:=fun y hy=>by simpa using takeWhile_all _ Q y hy
  have hCa:∀ c,(Q.dropWhile fun y=>decide (x < y)).head?=some c→c≤x:=fun c hc=>by simpa using dropWhile_head _ Q c hc
  generalize (Q.takeWhile fun y=>decide (x < y))=B at hat hQ hTa
  generalize (Q.dropWhile fun y=>decide (x < y))=C at hQ hCa
  subst hQ
  have hins:=hO.insert (x:=x) hgD' (by omega) hnew hP hTa (fun c hc=>by
   have h1:=hCa c hc
   have h2:c≠x:=fun e=>hnew (by
    cases C with
    | nil=>simp at hc
    | cons c' C=>simp at hc;subst hc;subst e;simp)
   omega)
  have hother:∀ y,y∈P++(B++C)→letD D nd y=letD D' nd y:=fun y hy=>by
   unfold letD chD
   rw [h.old ((hm y).1 hy)]
   have:goneD D nd y=goneD D' nd y:=by
    unfold goneD
    rw [Bool.eq_iff_iff,List.any_eq_true,List.any_eq_true]
    constructor
    ·rintro ⟨p,hp,r⟩;exact ⟨p,(h.mem p).2 (.inr hp),r⟩
    ·rintro ⟨p,hp,r⟩
     rcases (h.mem p).1 hp with rfl | hp
     ·unfold goneB at r;simp at r;omega
     ·exact ⟨p,hp,r⟩
   rw [this]
  have hnewL:letD D' nd x=⟨o.id,o.vl.data.toList.headD 0,false⟩:=by
   unfold letD chD
   rw [find_ins h.ok' hoD' hk hn hx]
   have:goneD D' nd x=false:=by
    unfold goneD
    rw [Bool.eq_false_iff]
    intro ht
    obtain ⟨p,hp,r⟩:=List.any_eq_true.1 ht
    unfold goneB at r
    simp at r
    have hpD:p∈D:=by
     rcases (h.mem p).1 hp with rfl | hp
     ·omega
     ·exact hp
    obtain ⟨q,hq,_,_,h3⟩:=h.ok.dead p hpD r.1
    have:=h.ok'.one q ((h.mem q).2 (.inr hq)) o hoD' (by omega)
    rw [this] at hq
    exact h.new hq
   rw [this,hx]
  refine ⟨P++(B++x :: C),?_,hins,?_⟩
  ·unfold insL
   rw [hfrom,hat]
   rw [show (P++(B++C)).map (letD D nd)=(P++B).map (letD D nd)++C.map (letD D nd) by simp]
   rw [List.take_left' (by simp),List.drop_left' (by simp),←hnewL]
   simp only [List.map_append,List.map_cons,List.append_assoc]
   congr 1
   ·exact List.map_congr_left fun y hy=>hother y (by simp [hy])
   ·congr 1
    ·exact List.map_congr_left fun y hy=>hother y (by simp [hy])
    ·congr 1
     exact List.map_congr_left fun y hy=>hother y (by simp [hy])
  ·intro y
   have e:y∈P++(B++x :: C)↔y=x∨y∈P++(B++C):=by
    simp only [List.mem_append,List.mem_cons]
    constructor
    ·rintro (h | h | h | h)
     ·simp [h]
     ·simp [h]
     ·exact .inl h
     ·simp [h]
    ·rintro (h | h | h | h) <;> simp [h]
   rw [e,hm,h.let_iff]
   constructor
   ·rintro (rfl | h1)
    ·exact .inl ⟨hk,hn,hx⟩
    ·exact .inr h1
   ·rintro (⟨_,_,h3⟩ | h1)
    ·exact .inl (by omega)
    ·exact .inr h1
end Go.Proofs.YtjekalilfhnpmaaGreatDoor
namespace Go.Proofs.YtjekalilfhnpmaaGreatDoor
open Go Go.RowKit Go.Shelf Go.Lib Go.Sort Stb
set_option linter.unusedVariables false
set_option linter.unusedSimpArgs false
set_option maxHeartbeats 4000000
set_option maxRecDepth 1000000
def opLt (x y:OpT):Bool:=decide (x.t < y.t∨x.t=y.t∧x.b < y.b)
def opCmp (x y:OpT):Int:=if opLt x y then -1 else if opLt y x then 1 else 0
theorem swo_opLt:SWO opLt where
 irrefl x:=by unfold opLt;simp
 trans x y z h1 h2:=by unfold opLt at *;simp at *;omega
 ntrans x y z h1 h2:=by unfold opLt at *;simp at *;omega
def cmpTag (x y:OpT×Nat):Int:=opCmp x.1 y.1
theorem ltOf_cmpTag:ltOf cmpTag=fun x y:OpT×Nat=>opLt x.1 y.1:=by
 funext x y
 unfold ltOf cmpTag opCmp
 cases e1:opLt x.1 y.1 <;> cases e2:opLt y.1 x.1 <;> simp
abbrev sortOps (L:List OpT):List OpT:=sortL opLt L
end Go.Proofs.YtjekalilfhnpmaaGreatDoor
namespace Go.Proofs.YtjekalilfhnpmaaGreatDoor
open Go Go.RowKit
set_option linter.unusedVariables false
set_option linter.unusedSimpArgs false
def SameS (x y:OpT):Prop:=x.t=y.t∧x.b=y.b
def Rising (L:List OpT):Prop:=L.Pairwise fun x y=>opLt x y=true
theorem opLt_iff {x y:OpT}:opLt x y=true↔(x.t < y.t∨x.t=y.t∧x.b < y.b):=by unfold opLt;simp
theorem opLt_irr {x y:OpT} (h:opLt x y=true):¬ SameS x y:=by
 rw [opLt_iff] at h
 unfold SameS
 omega
theorem opLt_tri {x y:OpT} (h:opLt x y=false) (hs:¬ SameS x y):opLt y x=true:=by
 have:¬ (x.t < y.t∨x.t=y.t∧x.b < y.b):=by rw [←opLt_iff,h];simp
 rw [opLt_iff]
 unfold SameS at hs
 omega
theorem opLt_tr {x y z:OpT} (h:opLt x y=true) (h':opLt y z=true):opLt x z=true:=by
 rw [opLt_iff] at *
 omega
theorem at_same {L:List OpT} (hr:Rising L) (x:OpT) {k:Nat} (hk:k=kOf opLt x L L.length):(∃ y,y∈L∧SameS y x)↔∃ y,0 < k∧L[k - 1]?=some y∧SameS y x:=by
 constructor
 ·rintro ⟨y,hy,hs⟩
  obtain ⟨i,hi,rfl⟩:=List.getElem_of_mem hy
  have hik:i < k:=by
   rcases Nat.lt_or_ge i k with h | h
   ·exact h
   ·have:=kOf_behind (lt:=opLt) x L L.length i L[i] (by omega) hi (List.getElem?_eq_getElem hi)
    exact absurd ⟨hs.1.symm,hs.2.symm⟩ (opLt_irr this)
  obtain ⟨z,hz,hl⟩:=kOf_ahead (lt:=opLt) x L L.length (Nat.le_refl _) (by omega)
  rw [←hk] at hz
  by_cases he:i=k - 1
  ·refine ⟨L[i],by omega,?_,hs⟩
   rw [←he];exact List.getElem?_eq_getElem hi
  ·obtain ⟨hz1,hz2⟩:=List.getElem?_eq_some_iff.1 hz
   have:=(List.pairwise_iff_getElem.1 hr) i (k - 1) hi hz1 (by omega)
   rw [hz2] at this
   have h2:¬ SameS x z:=fun h=>opLt_irr this ⟨hs.1.trans h.1,hs.2.trans h.2⟩
   have h3:=opLt_tri hl h2
   have h4:=opLt_tr this h3
   exact absurd hs (opLt_irr h4)
 ·rintro ⟨y,_,hy,hs⟩
  exact ⟨y,List.mem_of_getElem? hy,hs⟩
theorem Rising.laid {L:List OpT} (hr:Rising L) {x:OpT} (hx:¬ ∃ y,y∈L∧SameS y x):Rising (laidIn opLt L x):=by
 obtain ⟨k,hk⟩:∃ k,k=kOf opLt x L L.length:=⟨_,rfl⟩
 have hb:=kOf_behind (lt:=opLt) x L L.length
 have ha:=kOf_ahead (lt:=opLt) x L L.length (Nat.le_refl _)
 have hle:=kOf_le (lt:=opLt) x L L.length
 unfold laidIn
 rw [←hk] at hb ha hle ⊢
 unfold Rising
 rw [List.pairwise_append,List.pairwise_cons]
 have hbx:∀ q∈L.drop k,opLt x q=true:=fun q hq=>by
  obtain ⟨j,hj,rfl⟩:=List.getElem_of_mem hq
  rw [List.length_drop] at hj
  have:=hb (k+j) L[k+j] (by omega) (by omega) (List.getElem?_eq_getElem (by omega))
  rw [List.getElem_drop]
  exact this
 have hax:∀ p∈L.take k,opLt p x=true:=fun p hp=>by
  obtain ⟨j,hj,rfl⟩:=List.getElem_of_mem hp
  rw [List.length_take] at hj
  rw [List.getElem_take]
  obtain ⟨y,hy,hl⟩:=ha (by omega)
  obtain ⟨hy3,hy4⟩:=List.getElem?_eq_some_iff.1 hy
  have hyx:opLt y x=true:=opLt_tri hl (fun h=>hx ⟨y,List.mem_of_getElem? hy,h.1.symm,h.2.symm⟩)
  by_cases he:j=k - 1
  ·subst he;rw [hy4];exact hyx
  ·have:=(List.pairwise_iff_getElem.1 hr) j (k - 1) (by omega) hy3 (by omega)
   rw [hy4] at this
   exact opLt_tr this hyx
 refine ⟨hr.sublist (List.take_sublist _ _),⟨hbx,hr.sublist (List.drop_sublist _ _)⟩,fun p hp q hq=>?_⟩
 rcases List.mem_cons.1 hq with rfl | hq
 ·exact hax p hp
 ·exact opLt_tr (hax p hp) (hbx q hq)
theorem Rising.eq {L L':List OpT} (h:Rising L) (h':Rising L') (hp:L.Perm L'):L=L':=
 List.Perm.eq_of_pairwise (le:=fun x y=>opLt x y=true) (fun a b _ _ h1 h2=>absurd ⟨rfl,rfl⟩ (opLt_irr (opLt_tr h1 h2))) h h' hp
theorem sortOps_snoc (M:List OpT) (o:OpT):sortOps (M++[o])=laidIn opLt (sortOps M) o:=by simp [sortOps,sortL]
end Go.Proofs.YtjekalilfhnpmaaGreatDoor
namespace Go.Proofs.YtjekalilfhnpmaaGreatDoor
open Go Go.RowKit Go.Joins Go.ChangeShapes Go.WideShapes Go.Deep
set_option linter.unusedVariables false
set_option linter.unusedSimpArgs false
set_option maxHeartbeats 1000000
set_option maxRecDepth 100000
theorem wpList_append_rows_at {T:Type} {P:Program} {w:World} {ops:Array Oper} {rest:List Oper} {o:Oper} {a:Act} {Q:Exit→Act→World→Prop} (hgd:o.guard=none) (s x:Operand) (t:TypeId)
  (ho:o.op=.call { callee:=.builtin .append,args:=#[s,x],argTypes:=#[t,t] })
  (E:Enc T) (base:Nat) (e:TypeId) (z:Value) (bytes:Nat) (ht:P.underlying t=some (.slice e)) (hi:(P.info? e).map (fun i=>(i.zero,i.size,i.bytes))=some (some z,E.k,bytes))
  (hzs:z.cells.size=E.k) (hsz:0 < E.k)
  (v u:Value) (L X:List T) (hs:a.eval s=v) (hx:a.eval x=u) (hown:Rw E e base v L w) (hu:SlV E w u X)
  (h63:L.length+X.length≤maxLen) (hbytes:(L.length+X.length)*bytes≤140737488355328) (hbase:base≤w.heap.size)
  (h:∀ v' w',Rw E e base v' (L++X) w'→w.grownBy w' v.ownBlock→(v'.ownBlock=v.ownBlock∨v'.ownBlock=some w.heap.size)→wpList P ops Q rest (a.put o.dst v') w'):wpList P ops Q (o :: rest) a w:=by
 obtain ⟨i,hi0,hz0,hz1,hz2⟩:∃ i,P.info? e=some i∧i.zero=some z∧i.size=E.k∧i.bytes=bytes:=by
  cases hq:P.info? e with
  | none=>simp [hq] at hi
  | some i=>simp [hq] at hi;exact ⟨i,rfl,hi.1,hi.2.1,hi.2.2⟩
 rcases hu with ⟨rfl,rfl⟩ | ⟨p,c,rfl,h1,h3⟩
 ·refine wpList_append_own_none hgd s x t ho base e i E.k ht hi0 v L.length (E.row L) hs hown hx (h v w ?_ ⟨rfl,rfl,rfl,Nat.le_refl _,fun _ _ _=>rfl⟩ (.inl rfl))
  rw [List.append_nil]
  exact hown
 ·refine wpList_append_own_at w hgd s x t ho base e i z E.k bytes ht hi0 hz0 hz1 hz2 hzs hsz v L.length (E.row L) hs hown p X.length c (E.row X) hx (E.row_len X) h3 (E.row_one X) h63 hbytes hbase (fun v' w' h4 h5 _ h6=>h v' w' ?_ h5 h6)
  unfold Rw
  rw [List.length_append,Enc.row_app]
  exact h4
end Go.Proofs.YtjekalilfhnpmaaGreatDoor
namespace Go.Proofs.YtjekalilfhnpmaaGreatDoor
open Go Go.RowKit Go.Shelf
set_option linter.unusedVariables false
set_option linter.unusedSimpArgs false
set_option maxHeartbeats 4000000
set_option maxRecDepth 100000
theorem opsGrow_any (n:Nat) (w:World) (hn:n≤100000) :
  Calls Tryz.prog 120 #[.slice none 0 0,.int .i64 n] w fun e w'=>∃ v,e=.returned v∧Rw opE 31 w.heap.size v [] w'∧Below w.heap.size w w':=by
 rcases Nat.eq_zero_or_pos n with h0 | h0
 ·subst h0
  go_enter Tryz.func120,Tryz.ntmps120
  go_wp2_with fail
  go_ret
  exact ⟨_,rfl,Rw.nil _ _ _ _,Below.refl _ _⟩
 ·obtain ⟨i0,hi0,hz0,hzs,hzb⟩:=info_parts infoOp
  have hold:(Builtin.firstCells i0.size 0 (.slice none 0 0)).run Tryz.prog w.drew=.ok ([]:List Value).toArray w.drew:=by rw [hzs];rfl
  obtain ⟨G,hG⟩:∃ G,G=grownCap w n 0 31:=⟨_,rfl⟩
  have hGn:n≤G:=by rw [hG];exact grownCap_ge w _ _ _
  have hGm:G≤maxLen:=by rw [hG];exact grownCap_le_maxLen w n 0 31 (by unfold maxLen;omega)
  have hG63:G≤9223372036854775807:=by simp only [maxLen] at hGm;omega
  obtain ⟨ROW,hROW⟩:∃ ROW:Array Value,ROW=([]:List Value).toArray++Builtin.zeroCells (opV ⟨0,0,0,0,0,0,⟨#[]⟩,⟨#[]⟩⟩).cells n++Builtin.zeroCells (opV ⟨0,0,0,0,0,0,⟨#[]⟩,⟨#[]⟩⟩).cells (G - n):=⟨_,rfl⟩
  have hzl:∀ k,(Builtin.zeroCells (opV ⟨0,0,0,0,0,0,⟨#[]⟩,⟨#[]⟩⟩).cells k).size=k*8:=fun k=>by
   simp [Builtin.zeroCells,Value.cells,opV,OpT.cells]
  have hRl:ROW.size=G*8:=by
   rw [hROW]
   simp only [Array.size_append,hzl,List.size_toArray,List.length_nil]
   omega
  have hrz:∀ ty,(Builtin.append_ #[36,3] ty #[.slice none 0 0,.int .i64 (n:Int)]).run Tryz.prog w =
    .ok (.slice (some ⟨w.heap.size,0,none⟩) n G) (w.drew.alloc (.cells ROW 31)):=fun ty=>by
   have h:=Lib.run_append_grow_zeros w 36 3 ty 31 i0 _ .i64 .i64 Tryz.underlying36 Tryz.underlying3 hi0 hz0 none 0 0 [] hold n (by omega) (by omega) (by omega) (by omega) (by rw [hzb];omega) (by rw [hzb,Nat.zero_add];exact growslice_fits (by omega) (by omega))
   rw [Nat.zero_add,←hG] at h
   rw [hROW]
   exact h
  have HE:Hid (Rw opE 31 w.heap.size (.slice (some ⟨w.heap.size,0,none⟩) 0 G) [] (w.drew.alloc (.cells ROW 31))):=κ7 ⟨rfl,.inr ⟨w.heap.size,G,ROW,rfl,Nat.le_refl _,heap_alloc_new w.drew _,Nat.zero_le _,hGm,hRl,by simp [Enc.row]⟩⟩
  have HB:Hid (Below w.heap.size w (w.drew.alloc (.cells ROW 31))):=κ7 (((Below.refl _ w).drew).alloc (Nat.le_refl _) _)
  have z1:(0:Int) < (n:Int):=by omega
  have z2:¬ (n:Int) < 0:=by omega
  clear hold hROW hG hRl hGm hi0 hz0 hzs hzb hzl h0
  go_enter Tryz.func120,Tryz.ntmps120
  go_wp2_with (at_builtin;refine Lib.wpList_append_run _ rfl _ _ _ _ rfl _ _ rfl rfl _ _ (hrz _) ?_)
  go_wp2_with fail
  go_ret
  exact ⟨_,rfl,HE.out,HB.out⟩
theorem opsConcat_any (g:Nat) (v1 v2:Value) (L1 L2:List OpT) (w:World) (h1:SlV opE w v1 L1) (h2:SlV opE w v2 L2) (c1:w.cell? ⟨g,0,none⟩=some v1) (c2:w.cell? ⟨g,1,none⟩=some v2) (hn:L1.length+L2.length≤100000) :
  Calls Tryz.prog 59 #[.slice (some ⟨g,0,none⟩) 2 2] w fun e w'=>∃ v',e=.returned v'∧Rw opE 31 w.heap.size v' (L1++L2) w'∧Below w.heap.size w w':=by
 obtain ⟨A1,k1,rfl,hk1⟩:=h1.form
 obtain ⟨A2,k2,rfl,hk2⟩:=h2.form
 have HS1:=κ7 h1
 have HS2:=κ7 h2
 obtain ⟨n1,hn1⟩:∃ n,n=L1.length:=⟨_,rfl⟩
 obtain ⟨n2,hn2⟩:∃ n,n=L2.length:=⟨_,rfl⟩
 rw [←hn1] at hk1 c1 HS1 hn
 rw [←hn2] at hk2 c2 HS2 hn
 have HN1:=κ7 hn1
 have HN2:=κ7 hn2
 have HG:Hid (∀ w,Calls Tryz.prog 120 #[.slice none 0 0,.int .i64 ((n1:Int)+(n2:Int))] w fun e w'=>∃ v,e=.returned v∧Rw opE 31 w.heap.size v [] w'∧Below w.heap.size w w'):=κ7 fun w=>by
  have:=opsGrow_any (n1+n2) w hn
  rwa [Int.natCast_add] at this
 have HC:Hid (∀ w',Below w.heap.size w w'→w'.cell? ⟨g,0,none⟩=some (.slice A1 n1 k1)∧w'.cell? ⟨g,1,none⟩=some (.slice A2 n2 k2)):=κ7 fun w' hb=>⟨(hb.cell (World.block_lt_of_cell? w _ c1)).trans c1,(hb.cell (World.block_lt_of_cell? w _ c2)).trans c2⟩
 have z1:(0:Int)≤(n1:Int):=by omega
 have z2:(0:Int)≤(n1:Int)+(n2:Int):=by omega
 clear h1 h2 hn1 hn2
 go_enter Tryz.func59,Tryz.ntmps59
 go_wp2_with fail
 refine wp_loop_rounds 4 ?_
 rw [rounds_succ]
 go_wp2_with fail
 rw [rounds_succ]
 go_wp2_with fail
 rw [rounds_succ]
 go_wp2_with fail
 refine (HG.out _).mono ?_
 rintro e w1 ⟨v,rfl,hr,hb⟩
 obtain ⟨d1,d2⟩:=HC.out w1 hb
 have HR1:=κ7 hr
 have HB1:=κ7 hb
 clear hr hb c1 c2
 go_wp2_with fail
 refine wp_loop_rounds 4 ?_
 rw [rounds_succ]
 go_wp2_with (at_builtin;refine wpList_append_rows rfl _ _ 36 rfl opE w.heap.size 31 (opV ⟨0,0,0,0,0,0,⟨#[]⟩,⟨#[]⟩⟩) 80 Tryz.underlying36 infoOp rfl (by decide) _ _ [] L1 rfl rfl HR1.out (HS1.out.below HB1.out) ?e1 ?e2 ?e3 ?_)
 case e1=>have:=HN1.out;unfold maxLen;simp;omega
 case e2=>have:=HN1.out;simp;omega
 case e3=>exact HB1.out.size
 intro v2 w2 hr2 hg2
 have HB2:Hid (Below w.heap.size w w2):=κ7 (HB1.out.grown hg2 HB1.out.size (fun k hk=>(HR1.out.lt k hk).1))
 have HR2:=κ7 hr2
 obtain ⟨d1,d2⟩:=HC.out w2 HB2.out
 clear hr2 hg2
 go_wp2_with fail
 rw [rounds_succ]
 go_wp2_with (at_builtin;refine wpList_append_rows rfl _ _ 36 rfl opE w.heap.size 31 (opV ⟨0,0,0,0,0,0,⟨#[]⟩,⟨#[]⟩⟩) 80 Tryz.underlying36 infoOp rfl (by decide) _ _ L1 L2 rfl rfl HR2.out (HS2.out.below HB2.out) ?e4 ?e5 ?e6 ?_)
 case e4=>have:=HN1.out;have:=HN2.out;unfold maxLen;simp;omega
 case e5=>have:=HN1.out;have:=HN2.out;simp;omega
 case e6=>exact HB2.out.size
 intro v3 w3 hr3 hg3
 have HB3:Hid (Below w.heap.size w w3):=κ7 (HB2.out.grown hg3 HB2.out.size (fun k hk=>(HR2.out.lt k hk).1))
 have HR3:=κ7 hr3
 clear hr3 hg3
 go_wp2_with fail
 rw [rounds_succ]
 go_wp2_with fail
 go_ret
 exact ⟨_,rfl,by have:=HR3.out;simpa using this,HB3.out⟩
end Go.Proofs.YtjekalilfhnpmaaGreatDoor
namespace Go.Proofs.YtjekalilfhnpmaaGreatDoor
open Go Go.RowKit Go.Shelf Go.Lib Go.Sort
set_option linter.unusedVariables false
set_option linter.unusedSimpArgs false
set_option maxHeartbeats 4000000
set_option maxRecDepth 100000
theorem ops_at {w:World} {A:Option Addr} {n c:Nat} {L:List OpT} (h:SlV opE w (.slice A n c) L) {i:Nat} {x:OpT} (hx:L[i]?=some x) :
  ∃ b off,A=some ⟨b,off,none⟩∧b < w.heap.size∧w.cell? ⟨b,off+i*8,none⟩=some (.int .i64 x.t)∧w.cell? ⟨b,off+i*8+1,none⟩=some (.int .i64 x.b)∧w.cell? ⟨b,off+i*8+2,none⟩=some (.int .i64 x.n)∧w.cell? ⟨b,off+i*8+3,none⟩=some (.int .u8 x.k)∧
   w.cell? ⟨b,off+i*8+4,none⟩=some (.int .i64 x.nd)∧w.cell? ⟨b,off+i*8+5,none⟩=some (.int .i64 x.ot)∧w.cell? ⟨b,off+i*8+6,none⟩=some (.string x.nm)∧w.cell? ⟨b,off+i*8+7,none⟩=some (.string x.vl):=by
 obtain ⟨b,off,e,hb,hc⟩:=h.at' (by decide) hx
 refine ⟨b,off,e,hb,?_⟩
 have g:∀ j u,(opE.cells x)[j]?=some u→w.cell? ⟨b,off+i*8+j,none⟩=some u:=fun j u hu=>by rw [Nat.add_assoc];exact hc j u hu
 exact ⟨g 0 _ rfl,g 1 _ rfl,g 2 _ rfl,g 3 _ rfl,g 4 _ rfl,g 5 _ rfl,g 6 _ rfl,g 7 _ rfl⟩
theorem below_drawn {b:Nat} {w w':World} (h:Below b w w') (q:Nat):Below b w (w'.drewN q):=⟨h.os,h.tape,h.output,h.size,fun k hk=>h.block k hk⟩
def longOp (x:OpT):Bool:=decide (60 < x.nm.size) || decide (60 < x.vl.size)
def longOps (most:Nat) (L:List OpT):Bool:=decide (most < L.length) || L.any longOp
theorem any_of_at {L:List OpT} {i:Nat} {x:OpT} (hx:L[i]?=some x) (h:longOp x=true):L.any longOp=true:=List.any_eq_true.2 ⟨x,List.mem_of_getElem? hx,h⟩
theorem any_none {L:List OpT} {n:Nat} (hn:n=L.length) (h:∀ j x,j < n→L[j]?=some x→longOp x=false):L.any longOp=false:=by
 rw [List.any_eq_false]
 intro x hx
 obtain ⟨j,hj,rfl⟩:=List.getElem_of_mem hx
 simp [h j _ (by omega) (List.getElem?_eq_getElem hj)]
theorem longOps_any (A:Option Addr) (n c most:Nat) (L:List OpT) (w:World) (hs:SlV opE w (.slice A n c) L) (hc:n≤maxLen) (hm:most≤1000) :
  Calls Tryz.prog 37 #[.slice A n c,.int .i64 most] w fun e w'=>e=.returned (.int .i64 (if longOps most L then 1 else 0))∧w'=w:=by
 have hn:=hs.len
 have HN:=κ7 hn
 have HS:=κ7 hs
 obtain ⟨R,hR⟩:∃ R:Int,(if longOps most L then 1 else 0)=R:=⟨_,rfl⟩
 have HR:=κ7 hR
 rw [hR]
 have hmx:n≤9223372036854775807:=by unfold maxLen at hc;omega
 clear hs hn hR hc
 by_cases hlong:most < n
 ·have i0:(most:Int) < (n:Int):=by omega
  go_enter Tryz.func37,Tryz.ntmps37
  go_wp2_with fail
  go_ret
  have:=HN.out
  exact ⟨by rw [←HR.out];simp [longOps,show most < L.length by omega],rfl⟩
 ·have i0:¬ (most:Int) < (n:Int):=by omega
  go_enter Tryz.func37,Tryz.ntmps37
  go_wp2_with fail
  go_loopw [5] (fun v5 wr=>∃ j:Nat,j≤n∧v5=.int .i64 j∧wr=w∧Hid (∀ i x,i < j→L[i]?=some x→longOp x=false)) (fun v5 _=>n - (RowKit.intOf v5).toNat)
  case atStart=>exact ⟨0,by omega,rfl,rfl,κ7 (fun i x h=>by omega)⟩
  case round=>
   obtain ⟨j,hj,rfl,rfl,HA⟩:=hrel
   by_cases hlt:j < n
   ·obtain ⟨x,hx⟩:∃ x,L[j]?=some x:=⟨_,List.getElem?_eq_getElem (by have:=HN.out;omega)⟩
    obtain ⟨b,off,rfl,hbl,c0,c1,c2,c3,c4,c5,c6,c7⟩:=ops_at HS.out hx
    have HX:=κ7 hx
    clear hx c0 c1 c2 c3 c4 c5 hbl
    have i1:(0:Int)≤(j:Int):=by omega
    have i2:(j:Int) < (n:Int):=by omega
    by_cases h6:60 < x.nm.size
    ·have k6:(60:Int) < (x.nm.size:Int):=by omega
     have HL:Hid (longOp x=true):=κ7 (by simp [longOp,h6])
     go_wp2_with fail
     go_ret
     have:=any_of_at HX.out HL.out
     exact ⟨by rw [←HR.out];simp [longOps,this],rfl⟩
    ·have k6:¬ (60:Int) < (x.nm.size:Int):=by omega
     by_cases h7:60 < x.vl.size
     ·have k7:(60:Int) < (x.vl.size:Int):=by omega
      have HL:Hid (longOp x=true):=κ7 (by simp [longOp,h7])
      go_wp2_with fail
      go_ret
      have:=any_of_at HX.out HL.out
      exact ⟨by rw [←HR.out];simp [longOps,this],rfl⟩
     ·have k7:¬ (60:Int) < (x.vl.size:Int):=by omega
      have HL:Hid (longOp x=false):=κ7 (by simp [longOp];omega)
      go_wp2_with fail
      go_roundw
      case rel=>exact ⟨j+1,by omega,by go_num,trivial,κ7 (fun i y h1 h2=>by
       by_cases he:i=j
       ·subst he;rw [HX.out] at h2;cases h2;exact HL.out
       ·exact HA.out i y (by omega) h2)⟩
      case measure=>simp [RowKit.intOf];omega
   ·have i2:¬ (j:Int) < (n:Int):=by omega
    go_wp2_with fail
    go_ret
    have h1:j=n:=by omega
    have:=any_none HN.out (by rw [←h1];exact HA.out)
    have h2:=HN.out
    exact ⟨by rw [←HR.out];simp [longOps,this];omega,rfl⟩
theorem ownOps_any (A:Option Addr) (n c:Nat) (L:List OpT) (w:World) (hs:SlV opE w (.slice A n c) L) (hn:L.length≤100000) :
  Calls Tryz.prog 35 #[.slice A n c] w fun e w'=>∃ v',e=.returned v'∧Rw opE 31 w.heap.size v' L w'∧Below w.heap.size w w':=by
 have HS:=κ7 hs
 have HN:=κ7 hn
 clear hs hn
 go_enter Tryz.func35,Tryz.ntmps35
 go_wp2_with (at_builtin;refine wpList_append_rows rfl _ _ 36 rfl opE w.heap.size 31 (opV ⟨0,0,0,0,0,0,⟨#[]⟩,⟨#[]⟩⟩) 80 Tryz.underlying36 infoOp rfl (by decide) _ _ [] L rfl rfl (Rw.nil _ _ _ _) HS.out ?e1 ?e2 ?e3 ?_)
 case e1=>have:=HN.out;simp [maxLen];omega
 case e2=>have:=HN.out;simp;omega
 case e3=>exact Nat.le_refl _
 intro v1 w1 hr1 hg1
 have HR1:=κ7 hr1
 have HB1:Hid (Below w.heap.size w w1):=κ7 ((Below.refl _ _).grown hg1 (Nat.le_refl _) (fun k hk=>by simp [Value.ownBlock] at hk))
 clear hr1 hg1
 go_wp2_with fail
 go_ret
 exact ⟨_,rfl,by have:=HR1.out;simpa using this,HB1.out⟩
theorem sameOps_any (A A':Option Addr) (n c n' c':Nat) (L:List OpT) (w:World) (hs:SlV opE w (.slice A n c) L) (hs':SlV opE w (.slice A' n' c') L) (hn:L.length≤100000) :
  Calls Tryz.prog 20 #[.slice A n c,.slice A' n' c'] w fun e w'=>e=.returned (.bool true)∧Below w.heap.size w w':=by
 obtain rfl:n=n':=hs.len.trans hs'.len.symm
 have hl:=hs.len
 rw [←hl] at hn
 have HN:=κ7 hl
 have HS:=κ7 hs
 have HS':=κ7 hs'
 clear hs hs' hl
 go_enter Tryz.func20,Tryz.ntmps20
 go_wp2_with fail
 go_loopw [5] (fun v5 wr=>∃ j:Nat,j≤n∧v5=.int .i64 j∧Hid (Below w.heap.size w wr)) (fun v5 _=>n - (RowKit.intOf v5).toNat)
 case atStart=>exact ⟨0,by omega,rfl,κ7 (Below.refl _ _)⟩
 case round=>
  obtain ⟨j,hj,rfl,HB⟩:=hrel
  by_cases hlt:j < n
  ·obtain ⟨x,hx⟩:∃ x,L[j]?=some x:=⟨_,List.getElem?_eq_getElem (by have:=HN.out;omega)⟩
   obtain ⟨b,off,rfl,hbl,c0,c1,c2,c3,c4,c5,c6,c7⟩:=ops_at (HS.out.below HB.out) hx
   obtain ⟨b',off',rfl,hbl',d0,d1,d2,d3,d4,d5,d6,d7⟩:=ops_at (HS'.out.below HB.out) hx
   have i1:(0:Int)≤(j:Int):=by omega
   have i2:(j:Int) < (n:Int):=by omega
   clear hx hbl hbl'
   have heq:∀ w,(Op.equalIn 10000 31 (opV x) (opV x)).run Tryz.prog w=.ok true w:=fun w=>(eqOp_run x x w).trans (by rw [opEqB_refl])
   have HW:∀ nq,Hid (Below w.heap.size w (wr.drewN nq)):=fun nq=>κ7 (below_drawn HB.out nq)
   go_wp2_with fail
   go_quiet (fail)
   rename_i nq
   have HB2:=HW nq
   clear c0 c1 c2 c3 c4 c5 c6 c7 d0 d1 d2 d3 d4 d5 d6 d7 heq HW
   generalize wr.drewN nq=wq at HB2 ⊢
   go_wp2_with fail
   go_roundw
   case rel=>exact ⟨j+1,by omega,by go_num,HB2⟩
   case measure=>simp [RowKit.intOf];omega
  ·have i2:¬ (j:Int) < (n:Int):=by omega
   go_wp2_with fail
   go_ret
   exact ⟨rfl,HB.out⟩
theorem Rw.lower {T:Type} {E:Enc T} {ty:TypeId} {base b:Nat} {v:Value} {L:List T} {w:World} (h:Rw E ty base v L w) (hb:b≤base):Rw E ty b v L w:=⟨h.1,by
 rcases h.2 with hn | ⟨g,cap,cur,e1,e2,e3⟩
 ·exact .inl hn
 ·exact .inr ⟨g,cap,cur,e1,by omega,e3⟩⟩
theorem kOf_succ {x y:OpT} {O:List OpT} {k:Nat} (hy:O[k]?=some y):kOf opLt x O (k+1)=if opLt x y then kOf opLt x O k else k+1:=by
 conv=>lhs;unfold kOf
 rw [hy]
end Go.Proofs.YtjekalilfhnpmaaGreatDoor
namespace Go.Proofs.YtjekalilfhnpmaaGreatDoor
open Go Go.RowKit Go.Maps Go.Shelf
set_option linter.unusedVariables false
set_option linter.unusedSimpArgs false
set_option maxHeartbeats 4000000
set_option maxRecDepth 100000
def ownM (K:List OpT):Int×Int→Option OpT:=fun k=>findOwn K k.1 k.2
abbrev MO (mb n:Nat) (K:List OpT) (w:World):Prop:=MT Tryz.prog 195 pairV opV mb n (ownM K) w
theorem ownM_snoc (K:List OpT) (o:OpT):ownM (K++[o])=updT (ownM K) (o.b,o.n) (some o):=by
 funext k
 unfold ownM updT
 rw [findOwn_snoc]
 obtain ⟨a,c⟩:=k
 by_cases h:o.b=a∧o.n=c
 ·obtain ⟨rfl,rfl⟩:=h
  simp
 ·rw [if_neg h,if_neg]
  rintro ⟨⟩
  exact h ⟨rfl,rfl⟩
theorem wf_own {o:OpT} (h:o.Wf):∃ kl,keyOf Tryz.prog 195 (pairV (o.b,o.n))=some kl:=ownK_reads ⟨h.b1,h.b2⟩ ⟨h.n1,h.n2⟩
theorem byOwn_any (RB:Nat) (A:Option Addr) (n c:Nat) (K:List OpT) (w:World) (hc:w.cell? ⟨RB,6,none⟩=some (.slice A n c)) (hs:SlV opE w (.slice A n c) K) (hn:K.length≤100000) (hw:∀ o∈K,o.Wf) :
  Calls Tryz.prog 109 #[.pointer (some ⟨RB,0,none⟩)] w fun e w'=>∃ mb,e=.returned (.map (some mb))∧w.heap.size≤mb∧MO mb K.length K w'∧Below w.heap.size w w':=by
 have hl:=hs.len
 have HS:=κ7 hs
 have HW:=κ7 hw
 have HN:=κ7 hl
 rw [←hl] at hn
 have hRB:=World.block_lt_of_cell? w _ hc
 have hmm:=@run_makeMap Tryz.prog
 clear hs hw hl
 go_enter Tryz.func109,Tryz.ntmps109
 go_wp2_with fail
 go_loopw [12] (fun v12 wr=>∃ i:Nat,i≤n∧v12=.int .i64 i∧Hid (MO w.heap.size i (K.take i) wr)∧Hid (Below w.heap.size w wr)) (fun v12 _=>n - (intOf v12).toNat)
 case atStart=>exact ⟨0,by omega,rfl,κ7 (by rw [List.take_zero];exact MT.made w _ _ _ _),κ7 ((Below.refl _ _).alloc (Nat.le_refl _) _)⟩
 case round=>
  obtain ⟨i,hi,rfl,HM,HB⟩:=hrel
  by_cases hlt:i < n
  ·obtain ⟨x,hx⟩:∃ x,K[i]?=some x:=⟨_,List.getElem?_eq_getElem (by have:=HN.out;omega)⟩
   obtain ⟨b,off,rfl,hbl,c0,c1,c2,c3,c4,c5,c6,c7⟩:=ops_at (HS.out.below HB.out) hx
   have i1:(0:Int)≤(i:Int):=by omega
   have i2:(i:Int) < (n:Int):=by omega
   have HT:Hid (ownM (K.take (i+1))=updT (ownM (K.take i)) (x.b,x.n) (some x)):=κ7 (by
    obtain ⟨h1,h2⟩:=List.getElem?_eq_some_iff.1 hx
    rw [←List.take_append_getElem h1,h2,ownM_snoc])
   have HK:=κ7 (wf_own (HW.out x (List.mem_of_getElem? hx)))
   have HMa:=κ7 (fun o'=>HM.out.below ((Below.refl wr.heap.size wr).alloc (Nat.le_refl _) o'))
   have HBa:=κ7 (fun o'=>HB.out.alloc HB.out.size o')
   have hnm:i < maxLen:=by unfold maxLen;omega
   have hwr:w.heap.size < wr.heap.size:=HM.out.lt
   clear hx hlt hbl HM
   go_wp2_with (at_mapUpdate;refine wpList_putT _ rfl _ _ _ 189 rfl 195 31 ownK Tryz.underlying189 pairV opV pairV_inj w.heap.size i (ownM (K.take i)) rfl (HMa.out _) hnm (x.b,x.n) x rfl rfl HK.out ?_;intro w4 hm4 hg4)
   have HM4:Hid (MO w.heap.size (i+1) (K.take (i+1)) w4):=κ7 (by show MT _ _ _ _ _ _ (ownM (K.take (i+1))) _;rw [HT.out];exact hm4)
   have HB4:Hid (Below w.heap.size w w4):=κ7 ((HBa.out _).grown hg4 (by have:=HB.out.size;simp;omega) (fun k hk=>by have:=Option.some.inj hk;omega))
   clear hm4 hg4
   go_wp2_with fail
   go_roundw
   case rel=>exact ⟨i+1,by omega,by go_num,HM4,HB4⟩
   case measure=>simp [intOf] <;> omega
  ·have i2:¬ (i:Int) < (n:Int):=by omega
   obtain rfl:i=n:=by omega
   have HM7:Hid (MO w.heap.size K.length K wr):=κ7 (by have:=HM.out;rw [HN.out,List.take_length] at this;exact this)
   go_wp2_with fail
   go_ret
   exact ⟨_,rfl,Nat.le_refl _,HM7.out,HB.out⟩
end Go.Proofs.YtjekalilfhnpmaaGreatDoor
namespace Go.Proofs.YtjekalilfhnpmaaGreatDoor
open Go Go.RowKit Go.Joins Go.ChangeShapes Go.WideShapes Go.Deep
set_option linter.unusedVariables false
set_option linter.unusedSimpArgs false
set_option maxHeartbeats 1000000
set_option maxRecDepth 100000
def subE {T:Type} (E:Enc T) (Pp:T→Prop):Enc {x:T // Pp x}:=⟨fun x=>E.cells x.1,E.k,fun x=>E.len x.1,fun x v hv=>E.one x.1 v hv⟩
theorem subE_row {T:Type} (E:Enc T) (Pp:T→Prop):∀ L:List {x:T // Pp x},(subE E Pp).row L=E.row (L.map Subtype.val)
 | []=>rfl
 | x :: L=>by
  have:=subE_row E Pp L
  simp only [Enc.row,List.map_cons,List.flatMap_cons] at this ⊢
  rw [this];rfl
theorem SlV.of_sub {T:Type} {E:Enc T} {Pp:T→Prop} {w:World} {v:Value} {L:List {x:T // Pp x}} (h:SlV (subE E Pp) w v L):SlV E w v (L.map Subtype.val):=by
 rcases h with ⟨h1,h2⟩ | ⟨p,c,h1,h2,h3⟩
 ·exact .inl ⟨h1,by rw [h2];rfl⟩
 ·refine .inr ⟨p,c,by rw [h1,List.length_map],by rw [List.length_map];exact h2,fun j u hu=>?_⟩
  rw [←subE_row] at hu
  exact h3 j u hu
theorem open_rowsP {T H:Type} {enc:TypeId×Value→H} {P:Program} {W:World} {r:Reach} {b0 base:Nat} {t e:TypeId} {v:Value} {d:DataW H} {p:List MemPlace} (E:Enc T) (Pp:T→Prop)
  (ht:P.underlying t=some (.slice e)) (hk:P.cellsOf e=E.k)
  (hone:∀ fuel cs y,cs.length=E.k→DataW.trod enc P W base (fun _=>true) true fuel e cs=some y→∃ x:T,E.cells x=cs∧Pp x)
  (o:Value.okWide P W r b0 t v) (h:DataW.Trod enc P W base (fun _=>true) true t v d p) :
  ∃ A n c L,v=.slice A n c∧L.length=n∧SlV E W (.slice A n c) L∧c≤maxLen∧∀ x∈L,Pp x:=by
 obtain ⟨A,n,c,L,h1,h2,h3,h4⟩:=open_rows (subE E Pp) ht hk (fun fuel cs y hl ht=>by
  obtain ⟨x,hx,hp⟩:=hone fuel cs y hl ht
  exact ⟨⟨x,hp⟩,hx⟩) o h
 refine ⟨A,n,c,L.map Subtype.val,h1,by rw [List.length_map,h2],h3.of_sub,h4,fun x hx=>?_⟩
 obtain ⟨y,_,rfl⟩:=List.mem_map.1 hx
 exact y.2
end Go.Proofs.YtjekalilfhnpmaaGreatDoor
