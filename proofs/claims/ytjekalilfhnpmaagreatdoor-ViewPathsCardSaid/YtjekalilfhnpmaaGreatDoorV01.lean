/- Letters of a line: plain laws. The order of letters: letters that are inserted each behind its own one, in any order, stand in one order. Plain law, no program. -/
namespace Go.Proofs.YtjekalilfhnpmaaGreatDoor
set_option linter.unusedVariables false
structure Lt where
 id:Int
 c:UInt8
 gone:Bool
def ixOf (id:Int):List Lt→Int
 | []=>-1
 | x :: r=>if x.id=id then 0 else if ixOf id r < 0 then -1 else ixOf id r+1
theorem ixOf_none {id:Int}:∀ {L:List Lt},(∀ x∈L,x.id≠id)→ixOf id L = -1
 | [],_=>rfl
 | x :: r,h=>by
  unfold ixOf
  rw [if_neg (h x (by simp)),ixOf_none (fun y hy=>h y (by simp [hy])),if_pos (by omega)]
theorem ixOf_some {id:Int}:∀ {L:List Lt} {j:Nat} {x:Lt},L[j]?=some x→x.id=id→(∀ i y,i < j→L[i]?=some y→y.id≠id)→ixOf id L=j
 | [],j,x,h,_,_=>by simp at h
 | y :: r,0,x,h,he,_=>by simp at h;subst h;unfold ixOf;rw [if_pos he];rfl
 | y :: r,j+1,x,h,he,hn=>by
  have h0:=hn 0 y (by omega) rfl
  have ih:=ixOf_some (L:=r) (j:=j) (x:=x) (by simpa using h) he (fun i z hi hz=>hn (i+1) z (by omega) (by simpa using hz))
  unfold ixOf
  rw [if_neg h0,ih,if_neg (by omega)]
  simp
theorem ixOf_lt (id:Int):∀ (L:List Lt),ixOf id L < L.length∧-1≤ixOf id L
 | []=>by simp [ixOf]
 | x :: r=>by
  have:=ixOf_lt id r
  unfold ixOf
  rw [List.length_cons]
  split
  ·omega
  ·split
   ·omega
   ·omega
theorem ixOf_at {id:Int}:∀ {L:List Lt},0≤ixOf id L→∃ A x B,L=A++x :: B∧x.id=id∧ixOf id L=A.length∧∀ y∈A,y.id≠id
 | [],h=>by simp [ixOf] at h
 | y :: r,h=>by
  by_cases he:y.id=id
  ·exact ⟨[],y,r,rfl,he,by unfold ixOf;rw [if_pos he];rfl,by simp⟩
  ·by_cases hr:ixOf id r < 0
   ·unfold ixOf at h
    rw [if_neg he,if_pos hr] at h
    omega
   ·obtain ⟨A,x,B,h1,h2,h3,h4⟩:=ixOf_at (id:=id) (L:=r) (by omega)
    refine ⟨y :: A,x,B,by rw [h1];rfl,h2,?_,?_⟩
    ·show ixOf id (y :: r)=_
     unfold ixOf
     rw [if_neg he,if_neg hr,h3]
     simp
    ·intro z hz
     rcases List.mem_cons.1 hz with rfl | hz
     ·exact he
     ·exact h4 z hz
def insErr (id behind:Int) (L:List Lt):Nat:=
 if id < 4∨4294967300≤id∨behind < 0∨id≤behind then 3 else if 0≤ixOf id L then 7 else if 0 < behind∧ixOf behind L < 0 then 6 else 0
def insAt (L:List Lt) (a:Nat) (id:Int):Nat:=a+((L.drop a).takeWhile fun x=>decide (id < x.id)).length
def insFrom (behind:Int) (L:List Lt):Nat:=if 0 < behind then (ixOf behind L+1).toNat else 0
def insL (id behind:Int) (c:UInt8) (L:List Lt):List Lt:=L.take (insAt L (insFrom behind L) id)++⟨id,c,false⟩ :: L.drop (insAt L (insFrom behind L) id)
def insAfter (id behind:Int) (c:UInt8) (L:List Lt):List Lt:=if insErr id behind L=0 then insL id behind c L else L
theorem takeWhile_stop (p:Lt→Bool):∀ (L:List Lt) (k:Nat),(∀ j x,j < k→L[j]?=some x→p x=true)→k≤L.length→(∀ x,L[k]?=some x→p x=false)→(L.takeWhile p).length=k
 | [],k,_,hk,_=>by simp at hk;subst hk;rfl
 | y :: r,0,_,_,hs=>by have:=hs y rfl;simp [List.takeWhile,this]
 | y :: r,k+1,hp,hk,hs=>by
  have h0:=hp 0 y (by omega) rfl
  rw [List.takeWhile_cons_of_pos h0,List.length_cons,takeWhile_stop p r k (fun j x hj hx=>hp (j+1) x (by omega) (by simpa using hx)) (by simpa using hk) (fun x hx=>hs x (by simpa using hx))]
theorem insAt_is {L:List Lt} {a k:Nat} {id:Int} (ha:a≤k) (hk:k≤L.length) (hp:∀ j x,a≤j→j < k→L[j]?=some x→id < x.id) (hs:∀ x,L[k]?=some x→¬ id < x.id):insAt L a id=k:=by
 unfold insAt
 rw [takeWhile_stop _ (L.drop a) (k - a) (fun j x hj hx=>by
   rw [List.getElem?_drop] at hx
   exact decide_eq_true (hp (a+j) x (by omega) (by omega) hx)) (by simp;omega) (fun x hx=>by
   rw [List.getElem?_drop,show a+(k - a)=k by omega] at hx
   exact decide_eq_false (hs x hx))]
 omega
def idsL (L:List Lt):List Int:=L.map (·.id)
def delL (id:Int):List Lt→List Lt
 | []=>[]
 | x :: r=>if x.id=id then ⟨x.id,x.c,true⟩ :: r else x :: delL id r
theorem delL_none {id:Int}:∀ {L:List Lt},ixOf id L < 0→delL id L=L
 | [],_=>rfl
 | y :: r,h=>by
  unfold ixOf at h
  unfold delL
  split at h
  ·omega
  ·rename_i hne
   rw [if_neg hne]
   split at h
   ·rename_i hr;rw [delL_none hr]
   ·omega
theorem delL_at {id:Int} {x:Lt} {B:List Lt}:∀ {A:List Lt},x.id=id→(∀ y∈A,y.id≠id)→delL id (A++x :: B)=A++⟨x.id,x.c,true⟩ :: B
 | [],h,_=>by unfold delL;rw [List.nil_append];simp [h]
 | y :: A,h,hn=>by
  show delL id (y :: (A++x :: B))=_
  unfold delL
  rw [if_neg (hn y (by simp)),delL_at h (fun z hz=>hn z (by simp [hz]))]
  rfl
theorem delL_ids (id:Int):∀ (L:List Lt),idsL (delL id L)=idsL L
 | []=>rfl
 | y :: r=>by
  unfold delL
  split
  ·rfl
  ·show y.id :: idsL (delL id r)=y.id :: idsL r
   rw [delL_ids id r]
theorem delL_len (id:Int) (L:List Lt):(delL id L).length=L.length:=by
 have:=congrArg List.length (delL_ids id L)
 simpa [idsL] using this
theorem insAt_le (id behind:Int) (L:List Lt):insFrom behind L≤insAt L (insFrom behind L) id∧insAt L (insFrom behind L) id≤L.length:=by
 have hf:insFrom behind L≤L.length:=by
  have:=ixOf_lt behind L
  unfold insFrom
  split <;> omega
 refine ⟨by unfold insAt;omega,?_⟩
 unfold insAt
 have:((L.drop (insFrom behind L)).takeWhile fun x=>decide (id < x.id)).length≤(L.drop (insFrom behind L)).length:=by
  generalize L.drop (insFrom behind L)=M
  induction M with
  | nil=>simp
  | cons a r ih=>rw [List.takeWhile_cons];split <;> simp <;> omega
 rw [List.length_drop] at this
 omega
theorem insL_len (id behind:Int) (c:UInt8) (L:List Lt):(insL id behind c L).length=L.length+1:=by
 have:=(insAt_le id behind L).2
 unfold insL
 rw [List.length_append,List.length_cons,List.length_take,List.length_drop]
 omega
end Go.Proofs.YtjekalilfhnpmaaGreatDoor
namespace Go.Proofs.YtjekalilfhnpmaaGreatDoor.LineOrd
def bef (par:Nat→Nat):Nat→Nat→Nat→Bool
 | 0,_,_=>false
 | n+1,x,y=>
  if x < y then x == par y || bef par n x (par y)
  else if y < x then !(y == par x || bef par n y (par x))
  else false
theorem bef_fuel (par:Nat→Nat) (hp:∀ z,0 < z→par z < z):∀ (k n m x y:Nat),x+y≤k→x+y < n→x+y < m→bef par n x y=bef par m x y:=by
 intro k
 induction k with
 | zero=>
  intro n m x y hk hn hm
  obtain ⟨rfl,rfl⟩:x=0∧y=0:=by omega
  cases n <;> cases m <;> simp [bef] at *
 | succ k ih=>
  intro n m x y hk hn hm
  cases n with
  | zero=>omega
  | succ n=>
   cases m with
   | zero=>omega
   | succ m=>
    simp only [bef]
    by_cases h1:x < y
    ·have:=hp y (by omega)
     rw [if_pos h1,if_pos h1,ih n m x (par y) (by omega) (by omega) (by omega)]
    ·rw [if_neg h1,if_neg h1]
     by_cases h2:y < x
     ·have:=hp x (by omega)
      rw [if_pos h2,if_pos h2,ih n m y (par x) (by omega) (by omega) (by omega)]
     ·rw [if_neg h2,if_neg h2]
def Bef (par:Nat→Nat) (x y:Nat):Prop:=bef par (x+y+1) x y=true
structure Order (par:Nat→Nat) (R:Nat→Nat→Prop):Prop where
 par_lt:∀ z,0 < z→par z < z
 lt:∀ x y,x < y→(R x y↔x=par y∨R x (par y))
 gt:∀ x y,y < x→(R x y↔¬ R y x)
 irr:∀ x,¬ R x x
theorem Bef.order (par:Nat→Nat) (hp:∀ z,0 < z→par z < z):Order par (Bef par):=by
 refine ⟨hp,?_,?_,?_⟩
 ·intro x y h
  unfold Bef
  have:=hp y (by omega)
  rw [show bef par (x+y+1) x y=(x == par y || bef par (x+y) x (par y)) by simp [bef,h]]
  rw [bef_fuel par hp (x+par y) (x+y) (x+par y+1) x (par y) (by omega) (by omega) (by omega)]
  simp
 ·intro x y h
  unfold Bef
  have:=hp x (by omega)
  rw [show bef par (x+y+1) x y=!(y == par x || bef par (x+y) y (par x)) by simp [bef,h,Nat.lt_asymm h]]
  rw [show bef par (y+x+1) y x=(y == par x || bef par (y+x) y (par x)) by simp [bef,h]]
  rw [Nat.add_comm y x]
  simp
 ·intro x
  unfold Bef
  simp [bef]
section
variable {par:Nat→Nat} {R:Nat→Nat→Prop} (O:Order par R)
include O
theorem Order.not_zero (x:Nat):0 < x→¬ R x 0:=by
 induction x using Nat.strongRecOn with
 | _ x ih=>
  intro hx h
  rw [O.gt x 0 hx,O.lt 0 x hx] at h
  have hl:=O.par_lt x hx
  rcases Nat.eq_zero_or_pos (par x) with h0 | h0
  ·exact h (.inl h0.symm)
  ·exact h (.inr (Classical.byContradiction fun hn=>ih (par x) hl h0 ((O.gt (par x) 0 h0).2 hn)))
theorem Order.asymm {x y:Nat} (h:R x y):¬ R y x:=by
 rcases Nat.lt_trichotomy x y with hl | rfl | hl
 ·exact fun h'=>((O.gt y x hl).1 h') h
 ·exact O.irr x
 ·exact (O.gt x y hl).1 h
theorem Order.par_bef {y:Nat} (hy:0 < y):R (par y) y:=(O.lt _ _ (O.par_lt y hy)).2 (.inl rfl)
structure Good (par:Nat→Nat) (R:Nat→Nat→Prop) (l:List Nat):Prop where
 sorted:l.Pairwise R
 pos:∀ y∈l,0 < y
 closed:∀ y∈l,par y=0∨par y∈l
omit O in
theorem Good.nil:Good par R []:=⟨.nil,by simp,by simp⟩
theorem Order.ahead {A C:List Nat} {x:Nat} (hg:Good par R (A++C)) (hx:0 < x) (hnew:x ∉ A++C) (_hpar:par x=0∨par x∈A)
  (hA:∀ y∈A,y < x→y=par x∨R y (par x)):∀ y∈A,R y x:=by
 intro y
 induction y using Nat.strongRecOn with
 | _ y ih=>
  intro hy
  have hp0:=hg.pos y (by simp [hy])
  rcases Nat.lt_trichotomy y x with hl | rfl | hl
  ·exact (O.lt y x hl).2 (hA y hy hl)
  ·exact absurd (by simp [hy]) hnew
  ·refine (O.gt y x hl).2 fun hxy=>?_
   rcases (O.lt x y hl).1 hxy with he | hr
   ·rcases hg.closed y (by simp [hy]) with h0 | hm
    ·omega
    ·exact hnew (he▸hm)
   ·rcases hg.closed y (by simp [hy]) with h0 | hm
    ·exact O.not_zero x hx (h0▸hr)
    ·have hm':par y∈A:=by
      rcases List.mem_append.1 hm with h | h
      ·exact h
      ·have:=(List.pairwise_append.1 hg.sorted).2.2 y hy (par y) h
       exact absurd (O.par_bef hp0) (O.asymm this)
     exact O.asymm (ih (par y) (O.par_lt y hp0) hm') hr
theorem Order.behind {A C:List Nat} {c x:Nat} (hg:Good par R (A++c :: C)) (_hx:0 < x) (hnew:x ∉ A++c :: C) (hc:c < x)
  (hC:∀ y∈c :: C,y≠par x∧¬ R y (par x)):∀ y∈c :: C,R x y:=by
 intro y
 induction y using Nat.strongRecOn with
 | _ y ih=>
  intro hy
  have hp0:=hg.pos y (List.mem_append_right _ hy)
  rcases Nat.lt_trichotomy x y with hl | rfl | hl
  ·refine (O.lt x y hl).2 (.inr ?_)
   have hyC:y∈C:=by
    rcases List.mem_cons.1 hy with rfl | h
    ·omega
    ·exact h
   have hcy:R c y:=(List.pairwise_cons.1 (List.pairwise_append.1 hg.sorted).2.1).1 y hyC
   rw [O.lt c y (by omega)] at hcy
   have hm:par y∈c :: C:=by
    rcases hg.closed y (List.mem_append_right _ hy) with h0 | hm
    ·rw [h0] at hcy
     have hcp:=hg.pos c (by simp)
     rcases hcy with h | h
     ·omega
     ·exact absurd h (O.not_zero c hcp)
    ·rcases List.mem_append.1 hm with h | h
     ·have hAc:=(List.pairwise_append.1 hg.sorted).2.2 (par y) h c (by simp)
      rcases hcy with h' | h'
      ·exact absurd (h'▸hAc) (O.irr _)
      ·exact absurd h' (O.asymm hAc)
     ·exact h
   exact ih (par y) (O.par_lt y hp0) hm
  ·exact absurd (List.mem_append_right _ hy) hnew
  ·refine (O.gt x y hl).2 fun h=>?_
   rcases (O.lt y x hl).1 h with h' | h'
   ·exact (hC y hy).1 h'
   ·exact (hC y hy).2 h'
theorem Order.insert {P B C:List Nat} {x:Nat} (hg:Good par R (P++(B++C))) (hx:0 < x) (hnew:x ∉ P++(B++C))
  (hpar:(par x=0∧P=[])∨∃ A,P=A++[par x]) (hB:∀ y∈B,x < y) (hC:∀ c,C.head?=some c→c < x) :
  Good par R (P++(B++x :: C)):=by
 have hs:=hg.sorted
 have hP:par x=0∨par x∈P:=by
  rcases hpar with ⟨h,_⟩ | ⟨A,rfl⟩
  ·exact .inl h
  ·exact .inr (by simp)
 have hPp:∀ y∈P,y=par x∨R y (par x):=by
  intro y hy
  rcases hpar with ⟨_,rfl⟩ | ⟨A,rfl⟩
  ·simp at hy
  ·rcases List.mem_append.1 hy with h | h
   ·exact .inr ((List.pairwise_append.1 (List.pairwise_append.1 hs).1).2.2 y h _ (by simp))
   ·exact .inl (by simpa using h)
 have hA:∀ y∈P++B,R y x:=by
  refine O.ahead (A:=P++B) (C:=C) (by simpa using hg) hx (by simpa using hnew) (hP.imp id fun h=>by simp [h]) ?_
  intro y hy hl
  rcases List.mem_append.1 hy with h | h
  ·exact hPp y h
  ·exact absurd (hB y h) (by omega)
 have hR:∀ y∈C,R x y:=by
  cases hc:C with
  | nil=>simp
  | cons c D=>
   subst hc
   refine O.behind (A:=P++B) (by simpa using hg) hx (by simpa using hnew) (hC c rfl) ?_
   intro y hy
   have hy0:=hg.pos y (by simp only [List.mem_append];exact .inr (.inr hy))
   rcases hpar with ⟨h0,_⟩ | ⟨A,rfl⟩
   ·exact ⟨by omega,h0▸O.not_zero y hy0⟩
   ·have:=(List.pairwise_append.1 hs).2.2 (par x) (by simp) y (by simp only [List.mem_append];exact .inr hy)
    exact ⟨fun h=>O.irr _ (h▸this),O.asymm this⟩
 have hmem:∀ y,y∈P++(B++x :: C)↔y=x∨y∈P++(B++C):=by
  intro y;simp only [List.mem_append,List.mem_cons]
  constructor
  ·rintro (h | h | h | h) <;> simp [h]
  ·rintro (h | h | h | h) <;> simp [h]
 refine ⟨?_,fun y hy=>?_,fun y hy=>?_⟩
 ·have h1:=List.pairwise_append.1 hs
  have h2:=List.pairwise_append.1 h1.2.1
  refine List.pairwise_append.2 ⟨h1.1,List.pairwise_append.2 ⟨h2.1,List.pairwise_cons.2 ⟨hR,h2.2.1⟩,?_⟩,?_⟩
  ·intro a ha b hb
   rcases List.mem_cons.1 hb with rfl | hb
   ·exact hA a (by simp [ha])
   ·exact h2.2.2 a ha b hb
  ·intro a ha b hb
   rcases List.mem_append.1 hb with hb | hb
   ·exact h1.2.2 a ha b (by simp [hb])
   ·rcases List.mem_cons.1 hb with rfl | hb
    ·exact hA a (by simp [ha])
    ·exact h1.2.2 a ha b (by simp [hb])
 ·rcases (hmem y).1 hy with rfl | h
  ·exact hx
  ·exact hg.pos y h
 ·rcases (hmem y).1 hy with rfl | h
  ·exact hP.imp id fun h=>(hmem _).2 (.inr (by simp [h]))
  ·exact (hg.closed y h).imp id fun h=>(hmem _).2 (.inr h)
theorem Order.unique:∀ {l m:List Nat},l.Pairwise R→m.Pairwise R→(∀ y,y∈l↔y∈m)→l=m
 | [],m,_,_,h=>by
  cases m with
  | nil=>rfl
  | cons b m=>exact absurd ((h b).2 (by simp)) (by simp)
 | a :: l,[],_,_,h=>absurd ((h a).1 (by simp)) (by simp)
 | a :: l,b :: m,hl,hm,h=>by
  have hl':=List.pairwise_cons.1 hl
  have hm':=List.pairwise_cons.1 hm
  have hab:a=b:=by
   rcases List.mem_cons.1 ((h a).1 (by simp)) with h1 | h1
   ·exact h1
   ·rcases List.mem_cons.1 ((h b).2 (by simp)) with h2 | h2
    ·exact h2.symm
    ·exact absurd (hl'.1 b h2) (O.asymm (hm'.1 a h1))
  subst hab
  have:l=m:=by
   refine Order.unique hl'.2 hm'.2 fun y=>⟨fun hy=>?_,fun hy=>?_⟩
   ·rcases List.mem_cons.1 ((h y).1 (by simp [hy])) with rfl | h1
    ·exact absurd (hl'.1 y hy) (O.irr y)
    ·exact h1
   ·rcases List.mem_cons.1 ((h y).2 (by simp [hy])) with rfl | h1
    ·exact absurd (hm'.1 y hy) (O.irr y)
    ·exact h1
  rw [this]
end
end Go.Proofs.YtjekalilfhnpmaaGreatDoor.LineOrd
namespace Go.Proofs.YtjekalilfhnpmaaGreatDoor
open LineOrd
theorem takeWhile_all (p:Nat→Bool):∀ (D:List Nat),∀ y∈D.takeWhile p,p y=true
 | [],y,h=>by simp at h
 | a :: D,y,h=>by
  rw [List.takeWhile_cons] at h
  split at h
  ·rcases List.mem_cons.1 h with rfl | h
   ·assumption
   ·exact takeWhile_all p D y h
  ·simp at h
theorem dropWhile_head (p:Nat→Bool):∀ (D:List Nat) (c:Nat),(D.dropWhile p).head?=some c→p c=false
 | [],c,h=>by simp at h
 | a :: D,c,h=>by
  rw [List.dropWhile_cons] at h
  split at h
  ·exact dropWhile_head p D c h
  ·rename_i hp
   simp at h
   subst h
   simpa using hp
end Go.Proofs.YtjekalilfhnpmaaGreatDoor
