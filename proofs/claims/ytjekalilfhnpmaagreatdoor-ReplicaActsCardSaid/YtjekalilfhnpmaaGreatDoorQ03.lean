/- A map of the call's own, between two types of plain Lean: look-up, store, 'delete', a range over it. Of no program. Keys of marks: a number and a name; their order; package cmp's functions. Keys of marks, read as a map's keys. -/
import Derived.Maps.RangeWalk
import Derived.Sort.Statements
import Derived.DeepKeys4
import Derived.Test.YtjekalilfhnpmaaGreatDoorQ02
namespace Go.Proofs.YtjekalilfhnpmaaGreatDoor
open Go Go.RowKit Go.Maps
set_option linter.unusedVariables false
set_option linter.unusedSimpArgs false
set_option maxRecDepth 100000
open Classical in
noncomputable def updT {K V:Type} (m:K→Option V) (x:K) (v:Option V):K→Option V:=fun y=>if y=x then v else m y
theorem updT_same {K V:Type} (m:K→Option V) (x:K) (v:Option V):updT m x v x=v:=by unfold updT;rw [if_pos rfl]
theorem updT_other {K V:Type} (m:K→Option V) {x y:K} (v:Option V) (h:y≠x):updT m x v y=m y:=by unfold updT;rw [if_neg h]
section
variable {K V:Type} (P:Program) (kt:TypeId) (ek:K→Value) (ev:V→Value)
def MT (b n:Nat) (m:K→Option V) (w:World):Prop:=∃ f,MapV P kt b n f w∧∀ x kl,keyOf P kt (ek x)=some kl→f kl=(m x).map ev
def RT (b r n:Nat) (m:K→Option V) (todo:K→Prop) (cnt:Nat) (w:World):Prop:=
 ∃ D lf,w.ranges P kt heldR b r n D lf cnt∧∀ x kl,keyOf P kt (ek x)=some kl→mlook D kl=(m x).map ev∧(todo x↔lf kl=true)
end
section
variable {K V:Type} {P:Program} {kt:TypeId} {ek:K→Value} {ev:V→Value} {b r n cnt:Nat} {m:K→Option V} {todo:K→Prop} {w:World}
theorem MT.made (w:World) (P:Program) (kt:TypeId) (ek:K→Value) (ev:V→Value):MT P kt ek ev w.heap.size 0 (fun _=>none) (w.alloc (.map #[] 0)):=⟨_,MapV.made w P kt,fun _ _ _=>rfl⟩
theorem MT.lt (h:MT P kt ek ev b n m w):b < w.heap.size:=by obtain ⟨f,h,_⟩:=h;exact h.lt
theorem MT.mono (h:MT P kt ek ev b n m w) {n':Nat} (hn:n≤n'):MT P kt ek ev b n' m w:=by obtain ⟨f,h,e⟩:=h;exact ⟨f,h.mono hn,e⟩
theorem MT.block {w':World} (h:MT P kt ek ev b n m w) (hb:w'.heap[b]?=w.heap[b]?):MT P kt ek ev b n m w':=by obtain ⟨f,h,e⟩:=h;exact ⟨f,h.block hb,e⟩
theorem MT.below {w':World} (h:MT P kt ek ev b n m w) (hb:Below w.heap.size w w'):MT P kt ek ev b n m w':=h.block (hb.block b h.lt)
theorem MT.fr {X:Nat→Prop} {w':World} (h:MT P kt ek ev b n m w) (hF:Fr X w w') (hx:¬ X b):MT P kt ek ev b n m w':=h.block (hF.block b h.lt hx)
theorem MT.of_eq {m':K→Option V} (h:MT P kt ek ev b n m w) (e:∀ x kl,keyOf P kt (ek x)=some kl→m' x=m x):MT P kt ek ev b n m' w:=by obtain ⟨f,h,e'⟩:=h;exact ⟨f,h,fun x kl hx=>by rw [e' x kl hx,e x kl hx]⟩
theorem MT.upd {f:Lit→Option Value} {x:K} {kl:Lit} {v:Option V} {w':World} {n':Nat} (hk:Keyed P kt) (hinj:∀ x y,ek x=ek y→x=y) (hf:∀ x kl,keyOf P kt (ek x)=some kl→f kl=(m x).map ev) (hkey:keyOf P kt (ek x)=some kl)
  (h:MapV P kt b n' (Proofs.YtjekalilfhnpmaaGreatDoor.upd f kl (v.map ev)) w'):MT P kt ek ev b n' (updT m x v) w':=by
 refine ⟨_,h,fun y kl' hy=>?_⟩
 by_cases e:y=x
 ·subst e
  rw [hkey] at hy
  cases hy
  rw [upd_same,updT_same]
 ·have hne:kl'≠kl:=fun e2=>e (hinj _ _ (hk.inj hy (by rw [e2];exact hkey)))
  rw [upd_other f _ hne,updT_other m _ e]
  exact hf y kl' hy
theorem RT.owns (h:RT P kt ek ev b r n m todo cnt w):MT P kt ek ev b n m w:=by
 obtain ⟨D,lf,h,e⟩:=h
 exact ⟨mlook D,⟨D,h.owns,fun _=>rfl⟩,fun x kl hx=>(e x kl hx).1⟩
theorem RT.left_eq (h:RT P kt ek ev b r n m todo cnt w):w.rangeLeft b r=cnt:=by obtain ⟨D,lf,h,e⟩:=h;exact h.left_eq
theorem RT.ne (h:RT P kt ek ev b r n m todo cnt w):r≠b:=by obtain ⟨D,lf,h,e⟩:=h;exact h.ne
theorem RT.lt (h:RT P kt ek ev b r n m todo cnt w):r < w.heap.size:=by obtain ⟨D,lf,h,e⟩:=h;exact h.lt
theorem RT.grown {w':World} {row:Option Nat} (h:RT P kt ek ev b r n m todo cnt w) (hg:w.grownBy w' row) (hb:some b≠row) (hr:some r≠row):RT P kt ek ev b r n m todo cnt w':=by obtain ⟨D,lf,h,e⟩:=h;exact ⟨D,lf,h.kept hg hb hr,e⟩
theorem RT.fr {X:Nat→Prop} {w':World} (h:RT P kt ek ev b r n m todo cnt w) (hF:Fr X w w') (hb:¬ X b) (hr:¬ X r):RT P kt ek ev b r n m todo cnt w':=by
 have h1:=h.owns.lt
 have h2:=h.lt
 obtain ⟨D,lf,h,e⟩:=h
 have e1:=hF.block b h1 hb
 have e2:=hF.block r h2 hr
 refine ⟨D,lf,?_,e⟩
 unfold World.ranges at h ⊢
 rw [e1,e2]
 exact h
end
section
variable {K V:Type} {P:Program} (w:World) {ops:Array Oper} {rest:List Oper} {o:Oper} {a:Act} {Q:Exit→Act→World→Prop}
theorem wpList_lookT_ok (hg:o.guard=none) (om ox:Operand) (t:TypeId) (hop:o.op=Op.lookup t om ox true)
  (k e:TypeId) (hk:Keyed P k) (ht:P.underlying t=some (.map k e)) (z:Value) (hz:(zeroValue e).run P w=.ok z w) (ek:K→Value) (ev:V→Value) (b n:Nat) (m:K→Option V)
  (hm:a.eval om=.map (some b)) (hown:MT P k ek ev b n m w) (x:K) (hx:a.eval ox=ek x) (hkey:∃ kl,keyOf P k (ek x)=some kl) (r:Option V) (hr:m x=r)
  (hK:wpList P ops Q rest (a.put o.dst (.tuple #[(r.map ev).getD z,.bool r.isSome])) w) :
  wpList P ops Q (o :: rest) a w:=by
 obtain ⟨f,hf,e⟩:=hown
 obtain ⟨kl,hkl⟩:=hkey
 refine wpList_look_ok w hg om ox t hop k _ hk ht z hz b n f hm hf _ kl hx hkl ((m x).map ev) (e x kl hkl) ?_
 rw [hr]
 cases r <;> exact hK
theorem wpList_lookT (hg:o.guard=none) (om ox:Operand) (t:TypeId) (hop:o.op=Op.lookup t om ox false)
  (k e:TypeId) (hk:Keyed P k) (ht:P.underlying t=some (.map k e)) (z:Value) (hz:(zeroValue e).run P w=.ok z w) (ek:K→Value) (ev:V→Value) (b n:Nat) (m:K→Option V)
  (hm:a.eval om=.map (some b)) (hown:MT P k ek ev b n m w) (x:K) (hx:a.eval ox=ek x) (hkey:∃ kl,keyOf P k (ek x)=some kl) (r:Option V) (hr:m x=r)
  (hK:wpList P ops Q rest (a.put o.dst ((r.map ev).getD z)) w) :
  wpList P ops Q (o :: rest) a w:=by
 obtain ⟨f,hf,e⟩:=hown
 obtain ⟨kl,hkl⟩:=hkey
 refine wpList_look w hg om ox t hop k _ hk ht z hz b n f hm hf _ kl hx hkl ((m x).map ev) (e x kl hkl) ?_
 rw [hr]
 exact hK
theorem wpList_putT (hg:o.guard=none) (om ox ov:Operand) (t:TypeId) (hop:o.op=Op.mapUpdate t om ox ov)
  (k e:TypeId) (hk:Keyed P k) (ht:P.underlying t=some (.map k e)) (ek:K→Value) (ev:V→Value) (hinj:∀ x y,ek x=ek y→x=y) (b n:Nat) (m:K→Option V)
  (hm:a.eval om=.map (some b)) (hown:MT P k ek ev b n m w) (hn:n < maxLen) (x:K) (v:V) (hx:a.eval ox=ek x) (hv:a.eval ov=ev v) (hkey:∃ kl,keyOf P k (ek x)=some kl)
  (hK:∀ w',MT P k ek ev b (n+1) (updT m x (some v)) w'→w.grownBy w' (some b)→wpList P ops Q rest (a.put o.dst undef) w') :
  wpList P ops Q (o :: rest) a w:=by
 obtain ⟨f,hf,e⟩:=hown
 obtain ⟨kl,hkl⟩:=hkey
 exact wpList_put w hg om ox ov t hop k _ hk ht b n f hm hf hn _ _ kl hx hv hkl (fun w' h1 h2=>hK w' (MT.upd hk hinj e hkl h1) h2)
theorem wpList_delT (hg:o.guard=none) (om ox:Operand) (t k:TypeId) (hop:o.op=Op.call { callee:=Callee.builtin Builtin.delete,args:=#[om,ox],argTypes:=#[t,k] })
  (e:TypeId) (hk:Keyed P k) (ht:P.underlying t=some (.map k e)) (ek:K→Value) (ev:V→Value) (hinj:∀ x y,ek x=ek y→x=y) (b n:Nat) (m:K→Option V)
  (hm:a.eval om=.map (some b)) (hown:MT P k ek ev b n m w) (x:K) (hx:a.eval ox=ek x) (hkey:∃ kl,keyOf P k (ek x)=some kl)
  (hK:∀ w',MT P k ek ev b n (updT m x none) w'→w.grownBy w' (some b)→wpList P ops Q rest (a.put o.dst (.tuple #[])) w') :
  wpList P ops Q (o :: rest) a w:=by
 obtain ⟨f,hf,e⟩:=hown
 obtain ⟨kl,hkl⟩:=hkey
 exact wpList_del w hg om ox t k hop _ hk ht b n f hm hf _ kl hx hkl (fun w' h1 h2=>hK w' (MT.upd (v:=none) hk hinj e hkl h1) h2)
theorem wpList_rangeT (hg:o.guard=none) (om:Operand) (t:TypeId) (hop:o.op=Op.range t om) (k e:TypeId) (hk:Keyed P k) (ht:P.underlying t=some (.map k e)) (ek:K→Value) (ev:V→Value) (b n:Nat) (m:K→Option V)
  (hm:a.eval om=.map (some b)) (hown:MT P k ek ev b n m w)
  (hK:∀ w' cnt,RT P k ek ev b w.heap.size n m (fun x=>(m x).isSome=true) cnt w'→cnt≤n→w.grownBy w' none→w'.heap.size=w.heap.size+1→wpList P ops Q rest (a.put o.dst (.pointer (some ⟨w.heap.size,0,none⟩))) w') :
  wpList P ops Q (o :: rest) a w:=by
 obtain ⟨f,⟨D,hD,ef⟩,e⟩:=hown
 refine wpList_range_own w hg om t hop k _ hk ht heldR b n D hm hD (fun w' h1 h2 h3=>hK w' _ ⟨D,_,h1,fun x kl hx=>?_⟩ hD.size_le h2 h3)
 have h4:mlook D kl=(m x).map ev:=(ef kl).symm.trans (e x kl hx)
 refine ⟨h4,?_⟩
 unfold mlook at h4
 cases hh:Maps.has D kl with
 | true=>
  rw [hh,if_pos rfl] at h4
  obtain ⟨es,clock,hb,F,hs,rfl⟩:=hD
  have:∃ v,mlook (DataW.map ((es.toList.map (WideElems.rg P k heldR)).foldr DataW.insert [])) kl=some v:=by
   rw [mlook,hh,if_pos rfl]
   simp only [Maps.has,List.any_eq_true] at hh
   simp only [DataW.atKey]
   cases hf:List.find? (fun p=>p.1.sameKey kl) ((es.toList.map (WideElems.rg P k heldR)).foldr DataW.insert []) with
   | none=>
    obtain ⟨p,hp,hs2⟩:=hh
    have:=List.find?_eq_none.1 hf p hp
    rw [hs2] at this
    exact absurd rfl this
   | some p=>
    have hp:=mem_sorted.1 (List.mem_of_find?_eq_some hf)
    obtain ⟨y,hy,rfl⟩:=List.mem_map.1 hp
    obtain ⟨q,hq⟩:=F.reads y hy
    rw [WideElems.rg_of hq]
    obtain ⟨z,hz,hz2⟩:=WideElems.rd_val hq
    refine ⟨y.val,?_⟩
    have hz3:z=(DataW.held y.val,[]):=(Option.some.inj hz).symm
    first | (rw [hz2,hz3];done) | (rw [←hz2,hz3];done) | (simp [←hz2,hz3];done) | (simp [hz2,hz3];done) | (subst hz3;simp [←hz2])
  obtain ⟨v,hv⟩:=this
  rw [mlook,hh,if_pos rfl,h4] at hv
  cases hmx:m x with
  | none=>rw [hmx] at hv;cases hv
  | some c=>show (m x).isSome=true↔_;rw [hmx];exact ⟨fun _=>rfl,fun _=>rfl⟩
 | false=>
  rw [hh,if_neg (by simp)] at h4
  cases hmx:m x with
  | none=>show (m x).isSome=true↔_;rw [hmx];exact ⟨fun h=>(by cases h),fun h=>(by cases h)⟩
  | some c=>rw [hmx] at h4;cases h4
theorem wpList_nextT (hg:o.guard=none) (it:Operand) (hop:o.op=Op.next it false) (k:TypeId) (hk:Keyed P k) (ek:K→Value) (ev:V→Value) (hinj:∀ x y,ek x=ek y→x=y) (hK':∀ key kl,keyOf P k key=some kl→∃ x,key=ek x)
  (b r n:Nat) (m:K→Option V) (todo:K→Prop) (cnt:Nat) (hit:a.eval it=.pointer (some ⟨r,0,none⟩)) (h:RT P k ek ev b r n m todo cnt w)
  (hDone:(∀ x kl,keyOf P k (ek x)=some kl→¬ todo x)→wpList P ops Q rest (a.put o.dst (.tuple #[.bool false])) w)
  (hMore:∀ (x:K) (c:V) (w':World) (cnt':Nat),(∃ kl,keyOf P k (ek x)=some kl)→m x=some c→todo x→RT P k ek ev b r n m (fun y=>todo y∧y≠x) cnt' w'→cnt' < cnt→w.grownBy w' (some r)→w'.heap.size=w.heap.size→
   (Instr.entry (.pointer (some ⟨r,0,none⟩))).run P w'=.ok (.tuple #[ek x,ev c]) w'→wpList P ops Q rest (a.put o.dst (.tuple #[.bool true,ek x,ev c])) w') :
  wpList P ops Q (o :: rest) a w:=by
 obtain ⟨D,lf,h,e⟩:=h
 refine wpList_plain hg fun K0 hK0=>?_
 unfold Oper.wp
 rcases h.next hk o.type with ⟨h0,hl,hrun⟩ | ⟨key,v,kl,y,w',cnt',hkey,hlk,hv,hat,hrun,hrg,hlt,hgr,hsz,hen⟩
 ·simp [execOp,hop,hit,hrun,Result.andThen]
  exact hK0 _ _ (hDone (fun x kl hx ht=>by rw [(e x kl hx).2,hl kl] at ht;cases ht))
 ·obtain ⟨x,rfl⟩:=hK' key kl hkey
  have hy:y.1=.held v:=by cases hv;rfl
  have h1:mlook D kl=some v:=by
   rw [mlook,Maps.has_true_of_atKey (y:=y.1) (fun z=>hat z),if_pos rfl,hat,hy]
  have h2:=(e x kl hkey).1
  rw [h1] at h2
  obtain ⟨c,hc,rfl⟩:=Option.map_eq_some_iff.1 h2.symm
  simp [execOp,hop,hit,hrun,Result.andThen]
  refine hK0 _ _ (hMore x c w' cnt' ⟨kl,hkey⟩ hc ((e x kl hkey).2.2 hlk) ⟨D,_,hrg,fun y kl' hy'=>⟨(e y kl' hy').1,?_⟩⟩ hlt hgr hsz hen)
  show todo y∧y≠x↔_
  rw [(e y kl' hy').2,Bool.and_eq_true]
  by_cases hyx:y=x
  ·subst hyx
   rw [hkey] at hy'
   cases hy'
   rw [WideAt.sameKey_self (hk.key hkey)]
   simp
  ·have hne:kl'≠kl:=fun e2=>hyx (hinj _ _ (hk.inj hy' (by rw [e2];exact hkey)))
   rw [Maps.sameKey_ne hne]
   simp [hyx]
end
end Go.Proofs.YtjekalilfhnpmaaGreatDoor
namespace Go.Proofs.YtjekalilfhnpmaaGreatDoor
open Go Go.RowKit Go.Sort
set_option linter.unusedVariables false
set_option linter.unusedSimpArgs false
set_option maxHeartbeats 1000000
set_option maxRecDepth 100000
theorem u8_tri (a b:UInt8):a < b∨a=b∨b < a:=by
 have h:=UInt8.toNat_inj (a:=a) (b:=b)
 rw [UInt8.lt_iff_toNat_lt,UInt8.lt_iff_toNat_lt,←h]
 omega
theorem bl_cons (a b:UInt8) (x y:List UInt8):Op.bytesLess (a :: x) (b :: y)=true↔a < b∨a=b∧Op.bytesLess x y=true:=by
 rw [Op.bytesLess]
 by_cases h:a < b <;> by_cases h2:a=b <;> simp [h,h2]
theorem bl_irrefl:∀ x:List UInt8,Op.bytesLess x x=false
 | []=>by simp [Op.bytesLess]
 | a :: x=>by
  have h:=bl_irrefl x
  cases hh:Op.bytesLess (a :: x) (a :: x) with
  | false=>rfl
  | true=>
   rcases (bl_cons a a x x).1 hh with h1 | ⟨_,h1⟩
   ·rw [UInt8.lt_iff_toNat_lt] at h1;omega
   ·rw [h] at h1;cases h1
theorem bl_trans:∀ x y z:List UInt8,Op.bytesLess x y=true→Op.bytesLess y z=true→Op.bytesLess x z=true
 | _,_,[],_,h=>by rename_i y _;cases y <;> simp [Op.bytesLess] at h
 | [],_,_ :: _,_,_=>by simp [Op.bytesLess]
 | _ :: _,[],_ :: _,h,_=>by simp [Op.bytesLess] at h
 | a :: x,b :: y,c :: z,h1,h2=>by
  rw [bl_cons] at h1 h2 ⊢
  rw [UInt8.lt_iff_toNat_lt,←UInt8.toNat_inj] at h1 h2 ⊢
  rcases h1 with h1 | ⟨e1,h1⟩
  ·rcases h2 with h2 | ⟨e2,h2⟩
   ·exact .inl (by omega)
   ·exact .inl (by omega)
  ·rcases h2 with h2 | ⟨e2,h2⟩
   ·exact .inl (by omega)
   ·exact .inr ⟨by omega,bl_trans x y z h1 h2⟩
theorem bl_tri:∀ x y:List UInt8,Op.bytesLess x y=false→Op.bytesLess y x=false→x=y
 | [],[],_,_=>rfl
 | [],_ :: _,h,_=>by simp [Op.bytesLess] at h
 | _ :: _,[],_,h=>by simp [Op.bytesLess] at h
 | a :: x,b :: y,h1,h2=>by
  have n1:¬ (a < b∨a=b∧Op.bytesLess x y=true):=fun h=>by rw [(bl_cons a b x y).2 h] at h1;cases h1
  have n2:¬ (b < a∨b=a∧Op.bytesLess y x=true):=fun h=>by rw [(bl_cons b a y x).2 h] at h2;cases h2
  rcases u8_tri a b with h | h | h
  ·exact absurd (.inl h) n1
  ·subst h
   rw [bl_tri x y (by cases hh:Op.bytesLess x y with | false=>rfl | true=>exact absurd (.inr ⟨rfl,hh⟩) n1) (by cases hh:Op.bytesLess y x with | false=>rfl | true=>exact absurd (.inr ⟨rfl,hh⟩) n2)]
  ·exact absurd (.inl h) n2
def sLt (s t:ByteArray):Bool:=Op.bytesLess s.toList t.toList
theorem sLt_irrefl (s:ByteArray):sLt s s=false:=bl_irrefl _
theorem sLt_trans {s t u:ByteArray} (h:sLt s t=true) (h':sLt t u=true):sLt s u=true:=bl_trans _ _ _ h h'
theorem toList_inj {s t:ByteArray} (h:s.toList=t.toList):s=t:=by
 rw [ByteArray.toList_eq,ByteArray.toList_eq] at h
 exact ByteArray.ext (Array.toList_inj.1 h)
theorem sLt_tri {s t:ByteArray} (h:sLt s t=false) (h':sLt t s=false):s=t:=toList_inj (bl_tri _ _ h h')
abbrev KeyT:=Int×ByteArray
def keyV (x:KeyT):Value:=.agg #[.int .i64 x.1,.string x.2]
theorem keyV_inj (x y:KeyT) (h:keyV x=keyV y):x=y:=by
 simp [keyV] at h
 exact Prod.ext h.1 h.2
def kLt (x y:KeyT):Bool:=decide (x.1 < y.1) || (decide (x.1=y.1) && sLt x.2 y.2)
theorem kLt_iff (x y:KeyT):kLt x y=true↔x.1 < y.1∨x.1=y.1∧sLt x.2 y.2=true:=by simp [kLt]
theorem kLt_irrefl (x:KeyT):kLt x x=false:=by
 cases h:kLt x x with
 | false=>rfl
 | true=>
  rcases (kLt_iff x x).1 h with h | ⟨_,h⟩
  ·omega
  ·rw [sLt_irrefl] at h;cases h
theorem kLt_trans {x y z:KeyT} (h:kLt x y=true) (h':kLt y z=true):kLt x z=true:=by
 rw [kLt_iff] at h h' ⊢
 rcases h with h | ⟨e,h⟩ <;> rcases h' with h' | ⟨e',h'⟩
 ·exact .inl (by omega)
 ·exact .inl (by omega)
 ·exact .inl (by omega)
 ·exact .inr ⟨by omega,sLt_trans h h'⟩
theorem kLt_tri {x y:KeyT} (h:kLt x y=false) (h':kLt y x=false):x=y:=by
 have n1:¬ (x.1 < y.1∨x.1=y.1∧sLt x.2 y.2=true):=fun e=>by rw [(kLt_iff x y).2 e] at h;cases h
 have n2:¬ (y.1 < x.1∨y.1=x.1∧sLt y.2 x.2=true):=fun e=>by rw [(kLt_iff y x).2 e] at h';cases h'
 have e1:x.1=y.1:=by omega
 refine Prod.ext e1 (sLt_tri ?_ ?_)
 ·cases hh:sLt x.2 y.2 with
  | false=>rfl
  | true=>exact absurd (.inr ⟨e1,hh⟩) n1
 ·cases hh:sLt y.2 x.2 with
  | false=>rfl
  | true=>exact absurd (.inr ⟨e1.symm,hh⟩) n2
theorem kLt_asymm {x y:KeyT} (h:kLt x y=true):kLt y x=false:=by
 cases h':kLt y x with
 | false=>rfl
 | true=>have:=kLt_trans h h';rw [kLt_irrefl] at this;cases this
theorem swo_kLt:SWO kLt where
 irrefl:=kLt_irrefl
 trans x y z h1 h2:=kLt_trans h1 h2
 ntrans x y z h1 h2:=by
  cases h:kLt x z with
  | false=>rfl
  | true=>
   cases h3:kLt y x with
   | true=>have:=kLt_trans h3 h;rw [h2] at this;cases this
   | false=>
    have:=kLt_tri h1 h3
    subst this
    rw [h2] at h;cases h
def kCmp (x y:KeyT):Int:=if kLt x y=true then -1 else if kLt y x=true then 1 else 0
def iCmp (x y:Int):Int:=if x < y then -1 else if y < x then 1 else 0
def sCmp (x y:ByteArray):Int:=if sLt x y=true then -1 else if sLt y x=true then 1 else 0
theorem kCmp_eq (x y:KeyT):kCmp x y=if iCmp x.1 y.1=0 then sCmp x.2 y.2 else iCmp x.1 y.1:=by
 unfold kCmp iCmp sCmp
 rcases Int.lt_trichotomy x.1 y.1 with h | h | h
 ·rw [if_pos ((kLt_iff x y).2 (.inl h)),if_pos h,if_neg (by omega)]
 ·have e1:kLt x y=sLt x.2 y.2:=by unfold kLt;simp [h]
  have e2:kLt y x=sLt y.2 x.2:=by unfold kLt;simp [h]
  rw [e1,e2,if_neg (show ¬ x.1 < y.1 by omega),if_neg (show ¬ y.1 < x.1 by omega),if_pos rfl]
 ·rw [if_neg (by rw [kLt_iff];omega),if_pos ((kLt_iff y x).2 (.inl h)),if_neg (show ¬ x.1 < y.1 by omega),if_pos h,if_neg (by omega)]
theorem nanI_any (x:Int) (w:World):Calls Tryz.prog 135 #[.int .i64 x] w fun e w'=>e=.returned (.bool false)∧w'=w:=by
 go_enter Tryz.func135,Tryz.ntmps135
 go_wp2
 go_ret
 exact ⟨by simp,rfl⟩
theorem nanS_any (s:ByteArray) (w:World):Calls Tryz.prog 134 #[.string s] w fun e w'=>e=.returned (.bool false)∧w'=w:=by
 go_enter Tryz.func134,Tryz.ntmps134
 go_wp2
 go_ret
 exact ⟨by simp,rfl⟩
theorem cmpI_any (x y:Int) (w:World):Calls Tryz.prog 74 #[.int .i64 x,.int .i64 y] w fun e w'=>e=.returned (.int .i64 (iCmp x y))∧w'=w:=by
 have HN:=Lib.hid nanI_any
 rcases Int.lt_trichotomy x y with h | h | h
 ·have e:iCmp x y = -1:=by rw [iCmp,if_pos h]
  rw [e]
  go_enter Tryz.func74,Tryz.ntmps74
  go_wp2_with (go_at_call 135;refine (HN.out _ _).mono ?_;rintro e w1 ⟨rfl,rfl⟩)
  go_ret
  exact ⟨rfl,rfl⟩
 ·have e:iCmp x y=0:=by rw [iCmp,if_neg (by omega),if_neg (by omega)]
  have n1:¬ x < y:=by omega
  have n2:¬ y < x:=by omega
  rw [e]
  go_enter Tryz.func74,Tryz.ntmps74
  go_wp2_with (go_at_call 135;refine (HN.out _ _).mono ?_;rintro e w1 ⟨rfl,rfl⟩)
  go_ret
  exact ⟨rfl,rfl⟩
 ·have e:iCmp x y=1:=by rw [iCmp,if_neg (by omega),if_pos h]
  have n1:¬ x < y:=by omega
  rw [e]
  go_enter Tryz.func74,Tryz.ntmps74
  go_wp2_with (go_at_call 135;refine (HN.out _ _).mono ?_;rintro e w1 ⟨rfl,rfl⟩)
  go_ret
  exact ⟨rfl,rfl⟩
theorem cmpS_any (x y:ByteArray) (w:World):Calls Tryz.prog 73 #[.string x,.string y] w fun e w'=>e=.returned (.int .i64 (sCmp x y))∧w'=w:=by
 have HN:=Lib.hid nanS_any
 cases h1:sLt x y with
 | true=>
  have e:sCmp x y = -1:=by rw [sCmp,if_pos h1]
  have h2:Op.bytesLess x.toList y.toList=true:=h1
  rw [e]
  clear h1
  go_enter Tryz.func73,Tryz.ntmps73
  go_wp2_with (go_at_call 134;refine (HN.out _ _).mono ?_;rintro e w1 ⟨rfl,rfl⟩)
  go_ret
  exact ⟨rfl,rfl⟩
 | false=>
  have h2:Op.bytesLess x.toList y.toList=false:=h1
  cases h3:sLt y x with
  | true=>
   have e:sCmp x y=1:=by rw [sCmp,if_neg (by rw [h1];simp),if_pos h3]
   have h4:(x.toList == y.toList)=false:=by
    rw [beq_eq_false_iff_ne]
    intro e
    rw [toList_inj e,sLt_irrefl] at h3
    cases h3
   rw [e]
   clear h1 h3
   go_enter Tryz.func73,Tryz.ntmps73
   go_wp2_with (go_at_call 134;refine (HN.out _ _).mono ?_;rintro e w1 ⟨rfl,rfl⟩)
   go_ret
   exact ⟨rfl,rfl⟩
  | false=>
   have e:sCmp x y=0:=by rw [sCmp,if_neg (by rw [h1];simp),if_neg (by rw [h3];simp)]
   have h4:(x.toList == y.toList)=true:=by
    rw [beq_iff_eq,sLt_tri h1 h3]
   rw [e]
   clear h1 h3
   go_enter Tryz.func73,Tryz.ntmps73
   go_wp2_with (go_at_call 134;refine (HN.out _ _).mono ?_;rintro e w1 ⟨rfl,rfl⟩)
   go_ret
   exact ⟨rfl,rfl⟩
theorem orI_any (g:Nat) (x y:Int) (w:World) (h0:w.cell? ⟨g,0,none⟩=some (.int .i64 x)) (h1:w.cell? ⟨g,1,none⟩=some (.int .i64 y)) (cap:Nat) :
  Calls Tryz.prog 72 #[.slice (some ⟨g,0,none⟩) 2 cap] w fun e w'=>e=.returned (.int .i64 (if x=0 then y else x))∧w'=w:=by
 by_cases hx:x=0
 ·subst hx
  rw [if_pos rfl]
  by_cases hy:y=0
  ·subst hy
   go_enter Tryz.func72,Tryz.ntmps72
   go_wp2_with fail
   refine wp_loop_rounds 3 ?_
   rw [rounds_succ]
   go_wp2_with fail
   rw [rounds_succ]
   go_wp2_with fail
   rw [rounds_succ]
   go_wp2_with fail
   go_ret
   exact ⟨rfl,rfl⟩
  ·have hy2:(y != 0)=true:=by simpa using hy
   go_enter Tryz.func72,Tryz.ntmps72
   go_wp2_with fail
   refine wp_loop_rounds 3 ?_
   rw [rounds_succ]
   go_wp2_with fail
   rw [rounds_succ]
   go_wp2_with fail
   go_ret
   exact ⟨rfl,rfl⟩
 ·have hx2:(x != 0)=true:=by simpa using hx
  rw [if_neg hx]
  go_enter Tryz.func72,Tryz.ntmps72
  go_wp2_with fail
  refine wp_loop_rounds 3 ?_
  rw [rounds_succ]
  go_wp2_with fail
  go_ret
  exact ⟨rfl,rfl⟩
end Go.Proofs.YtjekalilfhnpmaaGreatDoor
namespace Go.Proofs.YtjekalilfhnpmaaGreatDoor
open Go Go.RowKit Go.Maps
set_option linter.unusedVariables false
set_option linter.unusedSimpArgs false
set_option maxHeartbeats 1000000
set_option maxRecDepth 100000
theorem cellK_wide:(match Tryz.prog.underlying 220 with | some (.array _ _) | some (.struct _)=>true | _=>false)=true:=by kernel_rfl
theorem cellK:Keyed Tryz.prog 220:=Keyed.of_law (deep_law_laid (by kernel_rfl) (m:=3) (by omega) (of_decide_eq_true (by kernel_rfl)) (by kernel_rfl) cellK_wide)
structure KeyOk (x:KeyT):Prop where
 lo:-9223372036854775808≤x.1
 hi:x.1≤9223372036854775807
 sz:x.2.size≤maxLen
theorem cellK_lits (n:Nat) (a b:Value):Tryz.prog.keyLits (n+2) 220 [a,b]=(do
  let x ← Tryz.prog.keyLits (n+1) 3 [a]
  let y ← Tryz.prog.keyLits (n+1) 9 [b]
  pure (x++y)):=by
 have k2:Tryz.prog.cellsOf 220=2:=by kernel_rfl
 have k3:Tryz.prog.cellsOf 3=1:=by kernel_rfl
 have k9:Tryz.prog.cellsOf 9=1:=by kernel_rfl
 obtain ⟨A,hA⟩:∃ A,Tryz.prog.keyLits (n+1) 3 [a]=A:=⟨_,rfl⟩
 obtain ⟨B,hB⟩:∃ B,Tryz.prog.keyLits (n+1) 9 [b]=B:=⟨_,rfl⟩
 rw [hA,hB]
 unfold Program.keyLits
 rw [Tryz.underlying220]
 simp [k2,k3,k9,hA,hB,List.mapM_cons,List.mapM_nil,Option.bind_eq_bind]
 cases A <;> cases B <;> simp
theorem key_reads {x:KeyT} (h:KeyOk x):∃ kl,keyOf Tryz.prog 220 (keyV x)=some kl:=by
 have hts:Tryz.prog.types.size=394:=by kernel_rfl
 have hk:Tryz.prog.keyType 220=true:=by kernel_rfl
 have hf:(keyV x).formed Tryz.prog 220=true:=by
  have k2:Tryz.prog.cellsOf 220=2:=by kernel_rfl
  simp [keyV,Value.formed,Tryz.underlying220,k2]
 have hi:Tryz.prog.keyLits (394 - 1+1) 3 [.int .i64 x.1]=some [.int .i64 x.1]:=by
  unfold Program.keyLits
  rw [Tryz.underlying3]
  have:(Lit.int .i64 x.1).wf=true:=by
   have h1:=h.lo
   have h2:=h.hi
   show (decide (-9223372036854775808≤x.1) && decide (x.1≤9223372036854775807))=true
   simp [h1,h2]
  simp [this]
 have hs:Tryz.prog.keyLits (394 - 1+1) 9 [.string x.2]=some [.string x.2.data.toList]:=by
  unfold Program.keyLits
  rw [Tryz.underlying9]
  simp [h.sz]
 refine ⟨.string (keyBytes [.int .i64 x.1,.string x.2.data.toList]),?_⟩
 unfold keyOf
 rw [Tryz.underlying220]
 simp only [hk,hf,Bool.and_self,if_true]
 rw [hts]
 have:=cellK_lits (394 - 1) (.int .i64 x.1) (.string x.2)
 rw [hi,hs] at this
 show Option.map _ (Tryz.prog.keyLits (394 - 1+2) 220 [.int .i64 x.1,.string x.2])=_
 rw [this]
 rfl
theorem key_shape (key:Value) (kl:Lit) (h:keyOf Tryz.prog 220 key=some kl):∃ x:KeyT,key=keyV x∧KeyOk x:=by
 have hts:Tryz.prog.types.size=394:=by kernel_rfl
 obtain ⟨xs,L,rfl,hl,rfl⟩:=keyOf_top cellK_wide h
 have hsz:xs.size=2:=by
  have k2:Tryz.prog.cellsOf 220=2:=by kernel_rfl
  unfold keyOf at h
  rw [Tryz.underlying220] at h
  dsimp only at h
  split at h
  ·rename_i hf
   have:=(Bool.and_eq_true_iff.1 hf).2
   simp [Value.formed,Tryz.underlying220,k2] at this
   exact this
  ·cases h
 obtain ⟨l⟩:=xs
 match l,hsz with
 | [a,b],_=>
  rw [hts] at hl
  have:=cellK_lits (394 - 1) a b
  rw [show 394 - 1+2=394 + 1 by rfl] at this
  have hl2:Tryz.prog.keyLits (394 + 1) 220 [a,b]=some L:=hl
  rw [this] at hl2
  cases h1:Tryz.prog.keyLits (394 - 1+1) 3 [a] with
  | none=>rw [h1] at hl2;cases hl2
  | some la=>
   cases h2:Tryz.prog.keyLits (394 - 1+1) 9 [b] with
   | none=>rw [h1,h2] at hl2;cases hl2
   | some lb=>
    unfold Program.keyLits at h1 h2
    rw [Tryz.underlying3] at h1
    rw [Tryz.underlying9] at h2
    cases a <;> simp at h1
    cases b <;> simp at h2
    obtain ⟨⟨rfl,hw⟩,hz1⟩:=h1
    obtain ⟨hs,hz2⟩:=h2
    rename_i n s x0
    have hw2:(decide (-9223372036854775808≤n) && decide (n≤9223372036854775807))=true:=hw
    simp at hw2
    exact ⟨(n,s),rfl,hw2.1,hw2.2,hs⟩
end Go.Proofs.YtjekalilfhnpmaaGreatDoor
