/- Rows of structs: how they lie, what append makes of them; nothing of the program. A row of the call's own, sorted by the library: how it lies before and after; the lists that come out. Nothing of the program's own. Appends to rows of structs inside a region that draws its order. Of no program. A slice of structs that comes in, opened; acts; numbers. -/
import Derived.Laws.AppendOwn
import Derived.Laws.AppendOwnNone
import Derived.Laws.OwnMore
import Derived.Deep.OwnRows
import Derived.Deep.AppendLies
import Derived.Shelf.SlSortCmp.KitK
import Derived.Deep.RegionLawGrows
import Derived.Deep.Slices
import Derived.Deep.Fields
import Derived.ChangeSame
import Derived.Test.YtjekalilfhnpmaaGreatDoorQ01
import Derived.Test.YtjekalilfhnpmaaGreatDoorQ02
namespace Go.Proofs.YtjekalilfhnpmaaGreatDoor
open Go Go.RowKit
set_option linter.unusedVariables false
set_option linter.unusedSimpArgs false
set_option maxHeartbeats 1000000
structure Enc (T:Type) where
 cells:T→List Value
 k:Nat
 len:∀ x,(cells x).length=k
 one:∀ x,∀ v∈cells x,v.oneCell'=true
section
variable {T:Type} (E:Enc T)
def Enc.row (L:List T):List Value:=L.flatMap E.cells
theorem Enc.row_len (L:List T):(E.row L).length=L.length*E.k:=by
 induction L with
 | nil=>simp [Enc.row]
 | cons x r ih=>unfold Enc.row at ih ⊢;rw [List.flatMap_cons,List.length_append,ih,E.len,List.length_cons,Nat.add_mul,Nat.one_mul,Nat.add_comm]
theorem Enc.row_app (A B:List T):E.row (A++B)=E.row A++E.row B:=List.flatMap_append
theorem Enc.row_cons (x:T) (B:List T):E.row (x :: B)=E.cells x++E.row B:=rfl
theorem Enc.row_at {L:List T} {i:Nat} {x:T} (h:L[i]?=some x) {j:Nat} {v:Value} (hv:(E.cells x)[j]?=some v):(E.row L)[i*E.k+j]?=some v:=by
 have hj:j < E.k:=by rw [←E.len x];exact (List.getElem?_eq_some_iff.1 hv).1
 induction L generalizing i with
 | nil=>simp at h
 | cons y r ih=>
  rw [Enc.row_cons]
  cases i with
  | zero=>
   simp at h
   subst h
   rw [Nat.zero_mul,Nat.zero_add,List.getElem?_append_left (by rw [E.len];exact hj)]
   exact hv
  | succ i=>
   have:=ih (i:=i) (by simpa using h)
   rw [List.getElem?_append_right (by rw [E.len,Nat.add_mul];omega),E.len,show (i+1)*E.k+j - E.k=i*E.k+j by rw [Nat.add_mul];omega]
   exact this
theorem Enc.row_one (L:List T):∀ v∈E.row L,v.oneCell'=true:=fun v hv=>by
 obtain ⟨x,_,hx⟩:=List.mem_flatMap.1 hv
 exact E.one x v hx
theorem Enc.row_take (L:List T) (n:Nat):(E.row L).take (n*E.k)=E.row (L.take n):=by
 induction L generalizing n with
 | nil=>simp [Enc.row]
 | cons x r ih=>
  cases n with
  | zero=>simp [Enc.row]
  | succ n=>
   rw [List.take_succ_cons,Enc.row_cons,Enc.row_cons,show (n+1)*E.k=(E.cells x).length+n*E.k by rw [E.len,Nat.add_mul,Nat.one_mul,Nat.add_comm],List.take_length_add_append,ih]
theorem Enc.row_drop (L:List T) (n:Nat):(E.row L).drop (n*E.k)=E.row (L.drop n):=by
 induction L generalizing n with
 | nil=>simp [Enc.row]
 | cons x r ih=>
  cases n with
  | zero=>simp [Enc.row]
  | succ n=>
   rw [List.drop_succ_cons,Enc.row_cons,show (n+1)*E.k=(E.cells x).length+n*E.k by rw [E.len,Nat.add_mul,Nat.one_mul,Nat.add_comm],List.drop_length_add_append,ih]
def SlV (w:World) (v:Value) (L:List T):Prop:=
 (v=.slice none 0 0∧L=[])∨∃ p c,v=.slice (some p) L.length c∧L.length≤c∧∀ j u,(E.row L)[j]?=some u→w.cell? (p.add j)=some u
variable {E}
theorem add_block (p:Addr) (j:Nat):(p.add j).block=p.block:=by unfold Addr.add;split <;> rfl
theorem SlV.nil {w:World}:SlV E w (.slice none 0 0) []:=.inl ⟨rfl,rfl⟩
theorem SlV.empty {w:World} (p:Addr) (c:Nat):SlV E w (.slice (some p) 0 c) []:=.inr ⟨p,c,rfl,Nat.zero_le _,fun j u hu=>by simp [Enc.row] at hu⟩
theorem SlV.kept {w w':World} {v:Value} {L:List T} (h:SlV E w v L) (hk:∀ k,v.ownBlock=some k→k < w.heap.size→w'.heap[k]?=w.heap[k]?):SlV E w' v L:=by
 rcases h with h | ⟨p,c,rfl,h1,h3⟩
 ·exact .inl h
 ·refine .inr ⟨p,c,rfl,h1,fun j u hu=>?_⟩
  have hc:=h3 j u hu
  have hl:=World.block_lt_of_cell? w _ hc
  rw [add_block] at hl
  exact (World.cell?_of_block (w:=w) (by rw [add_block];exact hk p.block rfl hl)).trans hc
theorem SlV.below {w w':World} {v:Value} {L:List T} (h:SlV E w v L) (hb:Below w.heap.size w w'):SlV E w' v L:=
 h.kept (fun k _ hk=>hb.block k hk)
theorem SlV.form {w:World} {v:Value} {L:List T} (h:SlV E w v L):∃ A c,v=.slice A L.length c∧L.length≤c:=by
 rcases h with ⟨rfl,rfl⟩ | ⟨p,c,rfl,h1,_⟩
 ·exact ⟨none,0,rfl,by simp⟩
 ·exact ⟨_,c,rfl,h1⟩
theorem SlV.at' {w:World} {A:Option Addr} {n c:Nat} {L:List T} (h:SlV E w (.slice A n c) L) (hk:0 < E.k) {i:Nat} {x:T} (hx:L[i]?=some x) :
  ∃ b off,A=some ⟨b,off,none⟩∧b < w.heap.size∧∀ j u,(E.cells x)[j]?=some u→w.cell? ⟨b,off+(i*E.k+j),none⟩=some u:=by
 rcases h with ⟨_,rfl⟩ | ⟨⟨b,off,s⟩,c',he,h1,h3⟩
 ·simp at hx
 ·cases he
  have hs:s=none:=by
   obtain ⟨x0,hx0⟩:∃ x0,L[0]?=some x0:=⟨_,List.getElem?_eq_getElem (by have:=(List.getElem?_eq_some_iff.1 hx).1;omega)⟩
   obtain ⟨u,hu⟩:∃ u,(E.cells x0)[0]?=some u:=⟨_,List.getElem?_eq_getElem (by rw [E.len];exact hk)⟩
   have hc:=h3 _ _ (E.row_at hx0 hu)
   cases s with
   | none=>rfl
   | some q=>simp [World.cell?,Addr.add] at hc;split at hc <;> simp_all
  subst hs
  obtain ⟨u,hu⟩:∃ u,(E.cells x)[0]?=some u:=⟨_,List.getElem?_eq_getElem (by rw [E.len];exact hk)⟩
  have hl:=World.block_lt_of_cell? w _ (h3 _ _ (E.row_at hx hu))
  rw [add_block] at hl
  exact ⟨b,off,rfl,hl,fun j u hu=>by have:=h3 _ _ (E.row_at hx hu);rw [Addr.add_lit] at this;exact this⟩
theorem SlV.len {w:World} {A:Option Addr} {n c:Nat} {L:List T} (h:SlV E w (.slice A n c) L):n=L.length:=by
 rcases h with ⟨he,rfl⟩ | ⟨p,c',he,h1,h3⟩ <;> cases he <;> rfl
theorem SlV.cap {w:World} {A:Option Addr} {n c:Nat} {L:List T} (h:SlV E w (.slice A n c) L):n≤c:=by
 rcases h with ⟨he,rfl⟩ | ⟨p,c',he,h1,h3⟩ <;> cases he
 ·exact Nat.le_refl _
 ·exact h1
theorem SlV.take {w:World} {p:Addr} {n c:Nat} {L:List T} (h:SlV E w (.slice (some p) n c) L) {m:Nat} (hm:m≤n) (c':Nat) (hc:m≤c'):SlV E w (.slice (some p) m c') (L.take m):=by
 have hl:=h.len
 rcases h with ⟨he,rfl⟩ | ⟨p',c'',he,h1,h3⟩
 ·cases he
 ·cases he
  refine .inr ⟨p,c',by rw [List.length_take];congr 1;omega,by rw [List.length_take];omega,fun j u hu=>h3 j u ?_⟩
  rw [←Enc.row_take,List.getElem?_take] at hu
  split at hu
  ·exact hu
  ·cases hu
theorem SlV.drop {w:World} {b off n c:Nat} {L:List T} (h:SlV E w (.slice (some ⟨b,off,none⟩) n c) L) {m:Nat} (hm:m≤n) (c':Nat) (hc:n - m≤c'):SlV E w (.slice (some ⟨b,off+m*E.k,none⟩) (n - m) c') (L.drop m):=by
 have hl:=h.len
 rcases h with ⟨he,rfl⟩ | ⟨p',c'',he,h1,h3⟩
 ·cases he
 ·cases he
  refine .inr ⟨⟨b,off+m*E.k,none⟩,c',by rw [List.length_drop],by rw [List.length_drop];omega,fun j u hu=>?_⟩
  rw [←Enc.row_drop,List.getElem?_drop] at hu
  have:=h3 _ _ hu
  rw [Addr.add_lit] at this ⊢
  rw [Nat.add_assoc]
  exact this
theorem SlV.of_each {w:World} {p:Addr} {n c:Nat} (hc:n≤c) (h:∀ i,i < n→∃ x:T,∀ j u,(E.cells x)[j]?=some u→w.cell? (p.add (i*E.k+j))=some u):∃ L:List T,L.length=n∧SlV E w (.slice (some p) n c) L:=by
 obtain ⟨L,hl,hL⟩:∃ L:List T,L.length=n∧∀ i x,L[i]?=some x→∀ j u,(E.cells x)[j]?=some u→w.cell? (p.add (i*E.k+j))=some u:=by
  clear hc
  induction n with
  | zero=>exact ⟨[],rfl,fun i x hx=>by simp at hx⟩
  | succ n ih=>
   obtain ⟨L,hl,hL⟩:=ih (fun i hi=>h i (by omega))
   obtain ⟨x,hx⟩:=h n (by omega)
   refine ⟨L++[x],by simp [hl],fun i y hy j u hu=>?_⟩
   by_cases hi:i < n
   ·rw [List.getElem?_append_left (by omega)] at hy
    exact hL i y hy j u hu
   ·rw [List.getElem?_append_right (by omega)] at hy
    have e:i - L.length=0:=by
     rcases Nat.eq_zero_or_pos (i - L.length) with h | h
     ·exact h
     ·rw [List.getElem?_eq_none (by simp;omega)] at hy;cases hy
    rw [e] at hy
    simp at hy
    subst hy
    have e2:i=n:=by omega
    subst e2
    exact hx j u hu
 refine ⟨L,hl,.inr ⟨p,c,by rw [hl],by omega,fun j u hu=>?_⟩⟩
 have hj:j < L.length*E.k:=by rw [←E.row_len];exact (List.getElem?_eq_some_iff.1 hu).1
 have hk:0 < E.k:=by
             rcases Nat.eq_zero_or_pos E.k with h0 | h0;· rw [h0] at hj;omega
             ·exact h0
 have hq:j / E.k < L.length:=(Nat.div_lt_iff_lt_mul hk).2 hj
 obtain ⟨x,hx⟩:∃ x,L[j / E.k]?=some x:=⟨_,List.getElem?_eq_getElem hq⟩
 have hr:j % E.k < E.k:=Nat.mod_lt _ hk
 obtain ⟨v,hv⟩:∃ v,(E.cells x)[j % E.k]?=some v:=⟨_,List.getElem?_eq_getElem (by rw [E.len];exact hr)⟩
 have e:=E.row_at hx hv
 have ej:j / E.k*E.k+j % E.k=j:=by rw [Nat.mul_comm];exact Nat.div_add_mod j E.k
 rw [ej] at e
 rw [hu] at e
 cases e
 have:=hL _ _ hx _ _ hv
 rw [ej] at this
 exact this
def Rw (E:Enc T) (ty:TypeId) (base:Nat) (v:Value) (L:List T) (w:World):Prop:=w.ownsRow base ty E.k v L.length (E.row L)
theorem Rw.nil (E:Enc T) (ty:TypeId) (base:Nat) (w:World):Rw E ty base (.slice none 0 0) [] w:=World.ownsRow_nil _ _ _ _
theorem Rw.lt {ty:TypeId} {base:Nat} {v:Value} {L:List T} {w:World} (h:Rw E ty base v L w):∀ k,v.ownBlock=some k→base≤k∧k < w.heap.size:=World.ownsRow.lt h
theorem Rw.below {ty:TypeId} {base:Nat} {v:Value} {L:List T} {w w':World} (h:Rw E ty base v L w) (hb:Below w.heap.size w w'):Rw E ty base v L w':=
 World.ownsRow.kept (row:=none) h ⟨hb.os,hb.tape,hb.output,hb.size,fun k hk _=>hb.block k hk⟩ (by cases hv:v.ownBlock <;> simp)
theorem Rw.kept {ty:TypeId} {base:Nat} {v:Value} {L:List T} {w w':World} (h:Rw E ty base v L w) (hk:∀ k,v.ownBlock=some k→w'.heap[k]?=w.heap[k]?):Rw E ty base v L w':=by
 refine ⟨h.1,?_⟩
 rcases h.2 with hn | ⟨g,cap,cur,rfl,hb,hgg,rest⟩
 ·exact .inl hn
 ·exact .inr ⟨g,cap,cur,rfl,hb,(hk g rfl).trans hgg,rest⟩
theorem Rw.sl {ty:TypeId} {base:Nat} {v:Value} {L:List T} {w:World} (h:Rw E ty base v L w):SlV E w v L:=by
 have hown:=h
 rcases h.2 with ⟨hv,h0⟩ | ⟨g,cap,cur,hv,hg,hh,hcap,hm,hsz,hcs⟩
 ·exact .inl ⟨hv,List.eq_nil_of_length_eq_zero h0⟩
 ·exact .inr ⟨⟨g,0,none⟩,cap,hv,hcap,fun j u hu=>World.ownsRow.cells hown (g:=g) (by rw [hv];rfl) j u hu⟩
theorem Rw.form {ty:TypeId} {base:Nat} {v:Value} {L:List T} {w:World} (h:Rw E ty base v L w):(v=.slice none 0 0∧L=[])∨∃ g cap,v=.slice (some ⟨g,0,none⟩) L.length cap∧L.length≤cap∧cap≤maxLen∧base≤g∧g < w.heap.size:=by
 rcases h.2 with ⟨hv,h0⟩ | ⟨g,cap,cur,hv,hg,hh,hcap,hm,hsz,hcs⟩
 ·exact .inl ⟨hv,List.eq_nil_of_length_eq_zero h0⟩
 ·exact .inr ⟨g,cap,hv,hcap,hm,hg,(Array.getElem?_eq_some_iff.1 hh).1⟩
theorem Rw.slice {ty:TypeId} {base:Nat} {v:Value} {L:List T} {w:World} (h:Rw E ty base v L w):∃ A m c,v=.slice A m c:=by
 rcases h.form with ⟨rfl,_⟩ | ⟨g,c,rfl,_⟩
 ·exact ⟨_,_,_,rfl⟩
 ·exact ⟨_,_,_,rfl⟩
theorem SlV.one (w:World) (x:T) (ty:TypeId) (cs:Array Value) (h:cs.toList=E.cells x):SlV E (w.alloc (.cells cs ty)) (.slice (some ⟨w.heap.size,0,none⟩) 1 1) [x]:=by
 refine .inr ⟨⟨w.heap.size,0,none⟩,1,rfl,by simp,fun j u hu=>?_⟩
 rw [Addr.add_lit,cell_of_row _ w.heap.size (0+j) cs ty (0,0) (heap_alloc_new w _)]
 have:E.row [x]=E.cells x:=by simp [Enc.row]
 rw [this,←h] at hu
 simpa using hu
variable {P:Program}
theorem wpList_append_rows {w:World} {ops:Array Oper} {rest:List Oper} {o:Oper} {a:Act} {Q:Exit→Act→World→Prop} (hgd:o.guard=none) (s x:Operand) (t:TypeId)
  (ho:o.op=.call { callee:=.builtin .append,args:=#[s,x],argTypes:=#[t,t] })
  (E:Enc T) (base:Nat) (e:TypeId) (z:Value) (bytes:Nat) (ht:P.underlying t=some (.slice e)) (hi:(P.info? e).map (fun i=>(i.zero,i.size,i.bytes))=some (some z,E.k,bytes))
  (hzs:z.cells.size=E.k) (hsz:0 < E.k)
  (v u:Value) (L X:List T) (hs:a.eval s=v) (hx:a.eval x=u) (hown:Rw E e base v L w) (hu:SlV E w u X)
  (h63:L.length+X.length≤maxLen) (hbytes:(L.length+X.length)*bytes≤140737488355328) (hbase:base≤w.heap.size)
  (h:∀ v' w',Rw E e base v' (L++X) w'→w.grownBy w' v.ownBlock→wpList P ops Q rest (a.put o.dst v') w'):wpList P ops Q (o :: rest) a w:=by
 obtain ⟨i,hi0,hz0,hz1,hz2⟩:∃ i,P.info? e=some i∧i.zero=some z∧i.size=E.k∧i.bytes=bytes:=by
  cases hq:P.info? e with
  | none=>simp [hq] at hi
  | some i=>simp [hq] at hi;exact ⟨i,rfl,hi.1,hi.2.1,hi.2.2⟩
 rcases hu with ⟨rfl,rfl⟩ | ⟨p,c,rfl,h1,h3⟩
 ·refine wpList_append_own_none hgd s x t ho base e i E.k ht hi0 v L.length (E.row L) hs hown hx (h v w ?_ ⟨rfl,rfl,rfl,Nat.le_refl _,fun _ _ _=>rfl⟩)
  rw [List.append_nil]
  exact hown
 ·refine wpList_append_own w hgd s x t ho base e i z E.k bytes ht hi0 hz0 hz1 hz2 hzs hsz v L.length (E.row L) hs hown p X.length c (E.row X) hx (E.row_len X) h3 (E.row_one X) h63 hbytes hbase (fun v' w' h4 h5 _=>h v' w' ?_ h5)
  unfold Rw
  rw [List.length_append,Enc.row_app]
  exact h4
theorem Rw.stored {ty:TypeId} {base g n cap:Nat} {L L':List T} {w:World} (h:Rw E ty base (.slice (some ⟨g,0,none⟩) n cap) L w) (j:Nat) (u:Value) (hl:L'.length=L.length) (hr:E.row L'=(E.row L).set j u) :
  Rw E ty base (.slice (some ⟨g,0,none⟩) n cap) L' (w.setCell ⟨g,j,none⟩ u)∧w.grownBy (w.setCell ⟨g,j,none⟩ u) (some g):=by
 have hn:n=L.length:=h.sl.len
 subst hn
 have:=World.ownsRow.stored h j u
 unfold Rw
 rw [hl,hr]
 exact this
end
def intE:Enc Int:=⟨fun x=>[.int .i64 x],1,fun _=>rfl,fun x v hv=>by simp at hv;subst hv;rfl⟩
theorem intE_row (L:List Int):intE.row L=L.map (Value.int .i64):=by
 induction L with
 | nil=>rfl
 | cons x r ih=>rw [Enc.row_cons,ih];rfl
theorem Rw.fr {T:Type} {E:Enc T} {ty:TypeId} {base:Nat} {v:Value} {L:List T} {w w':World} {X:Nat→Prop} (h:Rw E ty base v L w) (hb:∀ k,k < w.heap.size→¬ X k→w'.heap[k]?=w.heap[k]?) (hx:∀ k,v.ownBlock=some k→¬ X k):Rw E ty base v L w':=
 h.kept (fun k hk=>hb k (h.lt k hk).2 (hx k hk))
theorem Rw.at' {T:Type} {E:Enc T} {ty:TypeId} {base:Nat} {v:Value} {g n c:Nat} {L:List T} {w:World} (h:Rw E ty base v L w) (hv:v=.slice (some ⟨g,0,none⟩) n c) {i:Nat} {x:T} (hx:L[i]?=some x) {j:Nat} {u:Value} (hu:(E.cells x)[j]?=some u):w.cell? ⟨g,i*E.k+j,none⟩=some u:=by
 have:=h.sl
 rw [hv] at this
 rcases this with ⟨e,_⟩ | ⟨p,c',e,h1,h3⟩
 ·cases e
 ·cases e
  have:=h3 _ _ (E.row_at hx hu)
  rw [Addr.add_lit] at this
  simpa using this
theorem Rw.fz {T:Type} {E:Enc T} {ty:TypeId} {base:Nat} {g n c:Nat} {L:List T} {w:World} (h:Rw E ty base (.slice (some ⟨g,0,none⟩) n c) L w) (j:Nat):w.frozen? ⟨g,j,none⟩=false:=by
 have hn:n=L.length:=h.sl.len
 subst hn
 exact World.ownsRow.frozenAt h j
end Go.Proofs.YtjekalilfhnpmaaGreatDoor
namespace Go.Proofs.YtjekalilfhnpmaaGreatDoor
open Go Go.RowKit Go.Shelf Go.Lib Go.Sort
set_option linter.unusedVariables false
set_option linter.unusedSimpArgs false
set_option linter.unusedSectionVars false
set_option maxHeartbeats 1000000
section
variable {T:Type} (E:Enc T) {α:Type} [Inhabited α] (f:α→T)
def encBy (p:α):List Value:=E.cells (f p)
theorem get_map {d:Array α} {i:Nat} (hi:i < d.size):(d.toList.map f)[i]?=some (f d[i]!):=by
 rw [List.getElem?_map,List.getElem?_eq_getElem (by simpa using hi)]
 simp [getElem!_pos,hi]
theorem flatK_row (d:Array α):(flatK (encBy E f) E.k d).toList=E.row (d.toList.map f):=by
 apply List.ext_getElem?
 intro j
 by_cases hj:j < d.size*E.k
 ·have hk:0 < E.k:=by
              rcases Nat.eq_zero_or_pos E.k with h0 | h0
              ·rw [h0] at hj;omega
              ·exact h0
  have hq:j / E.k < d.size:=(Nat.div_lt_iff_lt_mul hk).2 hj
  have hr:j % E.k < E.k:=Nat.mod_lt _ hk
  have e:=E.row_at (get_map f hq) (j:=j % E.k) (v:=(E.cells (f d[j / E.k]!))[j % E.k]!) (by
   rw [List.getElem?_eq_getElem (by rw [E.len];exact hr),getElem!_pos (E.cells (f d[j / E.k]!)) (j % E.k) (by rw [E.len];exact hr)])
  rw [show j / E.k*E.k+j % E.k=j by rw [Nat.mul_comm];exact Nat.div_add_mod j E.k] at e
  rw [e]
  have hg:=get_flatK (encBy E f) E.k d j hj
  have hj':j < (flatK (encBy E f) E.k d).size:=by rw [size_flatK];exact hj
  rw [getElem!_pos (flatK (encBy E f) E.k d) j hj'] at hg
  rw [List.getElem?_eq_getElem (by simpa using hj')]
  simp only [Array.getElem_toList]
  rw [hg]
  rfl
 ·rw [List.getElem?_eq_none (by simpa using by omega),List.getElem?_eq_none (by rw [E.row_len];simpa using by omega)]
variable {E f}
theorem Rw.holdsK {ty:TypeId} {base g n cap:Nat} {L:List T} {w:World} {d:Array α} (h:Rw E ty base (.slice (some ⟨g,0,none⟩) n cap) L w) (hd:d.toList.map f=L):HoldsK (encBy E f) E.k w g 0 d:=by
 intro j hj
 refine ⟨?_,h.fz (0+j)⟩
 have hr:=flatK_row E f d
 rw [hd] at hr
 have hs:=h.sl
 rcases hs with ⟨e,_⟩ | ⟨p,c,e,h1,h3⟩
 ·cases e
 ·cases e
  have:=h3 j (flatK (encBy E f) E.k d)[j]! (by rw [←hr,List.getElem?_eq_getElem (by simpa using hj)];simp only [Array.getElem_toList];rw [getElem!_pos (flatK (encBy E f) E.k d) j hj])
  rw [Addr.add_lit] at this
  exact this
theorem Rw.rowK {ty:TypeId} {base g n cap:Nat} {L:List T} {w:World} {d:Array α} (h:Rw E ty base (.slice (some ⟨g,0,none⟩) n cap) L w) (hd:d.toList.map f=L):RowK (encBy E f) E.k w g 0 d where
 hk x:=E.len (f x)
 h1 x:=E.one (f x)
 hH:=h.holdsK hd
 hblk:=(h.lt g rfl).2
theorem Rw.sorted {ty:TypeId} {base g n cap:Nat} {L:List T} {w w':World} {d d':Array α} (h:Rw E ty base (.slice (some ⟨g,0,none⟩) n cap) L w) (hd:d.toList.map f=L) (hs:d'.size=d.size) (hS:SWK (encBy E f) E.k w g 0 d' w') :
  Rw E ty base (.slice (some ⟨g,0,none⟩) n cap) (d'.toList.map f) w'∧(base≤w.heap.size→Below base w w'):=by
 have hn:n=L.length:=h.sl.len
 have hl:L.length=d.size:=by rw [←hd];simp
 obtain ⟨m,os,rfl⟩:=hS
 have hlt:=(h.lt g rfl).2
 have hge:=(h.lt g rfl).1
 have hblk:∀ k,k < w.heap.size→k≠g→(sortWorldK (encBy E f) E.k w g 0 m d' os).heap[k]?=w.heap[k]?:=fun k hk hne=>by
  unfold sortWorldK grow
  show ((putRowK (encBy E f) E.k (Sort.ahead w m) g 0 d').heap++os)[k]?=_
  have e:(putRowK (encBy E f) E.k (Sort.ahead w m) g 0 d').heap.size=w.heap.size:=by unfold putRowK putRow mapBlock;simp [Sort.ahead]
  rw [Array.getElem?_append_left (by rw [e];exact hk)]
  unfold putRowK putRow mapBlock
  show (w.heap.modify g _)[k]?=_
  rw [Array.getElem?_modify,if_neg (Ne.symm hne)]
 refine ⟨⟨by rw [E.row_len],?_⟩,fun hb=>⟨rfl,rfl,rfl,size_sortWorldK_c (encBy E f) E.k w g 0 m d' os,fun k hk=>hblk k (by omega) (by omega)⟩⟩
 rcases h.2 with ⟨e,_⟩ | ⟨g',cap',cur,e,h1,h2,h3,h4,h5,h6⟩
 ·cases e
 ·cases e
  refine .inr ⟨g,cap,putCells id 0 (flatK (encBy E f) E.k d') cur,by simp [hs,hn,hl],h1,?_,by simp;omega,h4,by simp [putCells,h5],?_⟩
  ·unfold sortWorldK grow
   show ((putRowK (encBy E f) E.k (Sort.ahead w m) g 0 d').heap++os)[g]?=_
   have e:(putRowK (encBy E f) E.k (Sort.ahead w m) g 0 d').heap.size=w.heap.size:=by unfold putRowK putRow mapBlock;simp [Sort.ahead]
   rw [Array.getElem?_append_left (by rw [e];exact hlt)]
   unfold putRowK putRow mapBlock
   show (w.heap.modify g _)[g]?=_
   rw [Array.getElem?_modify,if_pos rfl,h2]
   rfl
  ·rw [←flatK_row]
   apply List.ext_getElem?
   intro j
   have hc:d'.size*E.k≤cur.size:=by rw [h5];exact Nat.mul_le_mul_right _ (by omega)
   by_cases hj:j < d'.size*E.k
   ·rw [List.getElem?_take,if_pos (by simpa using hj)]
    have hj2:j < (flatK (encBy E f) E.k d').size:=by rw [size_flatK];exact hj
    have hj3:j < (putCells id 0 (flatK (encBy E f) E.k d') cur).size:=by simp [putCells];omega
    rw [List.getElem?_eq_getElem (by simpa using hj3),List.getElem?_eq_getElem (by simpa using hj2)]
    simp only [Array.getElem_toList]
    simp [putCells,hj,getElem!_pos (flatK (encBy E f) E.k d') j hj2]
   ·rw [List.getElem?_take,if_neg (by simpa using hj),List.getElem?_eq_none (by simpa using by omega)]
end
section
variable {T:Type} [Inhabited T] (lt:T→T→Bool)
open Stb
def kOf (x:T) (L:List T):Nat→Nat
 | 0=>0
 | k+1=>match L[k]? with
  | some y=>if lt x y then kOf x L k else k+1
  | none=>k+1
def laidIn (L:List T) (x:T):List T:=L.take (kOf lt x L L.length)++x :: L.drop (kOf lt x L L.length)
def sortL (L:List T):List T:=L.foldl (laidIn lt) []
def StS (M L:List T):Prop:=∃ X:List (T×Nat),X.map Prod.fst=L∧X.Perm M.zipIdx∧X.Pairwise fun p q=>tlb (fun a b=>lt a.1 b.1) Prod.snd p q=true
variable {lt}
theorem swo_fst (h:SWO lt):SWO (fun a b:T×Nat=>lt a.1 b.1):=⟨fun x=>h.irrefl x.1,fun x y z=>h.trans x.1 y.1 z.1,fun x y z=>h.ntrans x.1 y.1 z.1⟩
theorem StS.unique (hS:SWO lt) {M L L':List T} (h:StS lt M L) (h':StS lt M L'):L=L':=by
 obtain ⟨X,rfl,hp,hx⟩:=h
 obtain ⟨Y,rfl,hq,hy⟩:=h'
 have hs:=swo_tlb (tag:=Prod.snd) (swo_fst hS)
 congr 1
 refine List.Perm.eq_of_pairwise (le:=fun p q=>tlb (fun a b:T×Nat=>lt a.1 b.1) Prod.snd p q=true) (fun a b _ _ h1 h2=>?_) hx hy (hp.trans hq.symm)
 have:=hs.trans a b a h1 h2
 rw [hs.irrefl a] at this
 cases this
theorem kOf_le (x:T) (L:List T):∀ k,kOf lt x L k≤k
 | 0=>Nat.le_refl _
 | k+1=>by
  unfold kOf
  split
  ·split
   ·exact Nat.le_succ_of_le (kOf_le x L k)
   ·exact Nat.le_refl _
  ·exact Nat.le_refl _
theorem kOf_behind (x:T) (L:List T):∀ k,∀ j y,kOf lt x L k≤j→j < k→L[j]?=some y→lt x y=true
 | 0,j,y,_,h,_=>by omega
 | k+1,j,y,h1,h2,h3=>by
  unfold kOf at h1
  split at h1
  ·rename_i z hz
   split at h1
   ·rename_i hl
    by_cases hj:j=k
    ·subst hj;rw [hz] at h3;cases h3;exact hl
    ·exact kOf_behind x L k j y h1 (by omega) h3
   ·omega
  ·omega
theorem kOf_ahead (x:T) (L:List T):∀ k,k≤L.length→0 < kOf lt x L k→∃ y,L[kOf lt x L k - 1]?=some y∧lt x y=false
 | 0,_,h=>by simp [kOf] at h
 | k+1,hk,h=>by
  have e:L[k]?=some L[k]:=List.getElem?_eq_getElem (by omega)
  have e2:kOf lt x L (k+1)=if lt x L[k] then kOf lt x L k else k+1:=by
   conv=>lhs;unfold kOf
   rw [e]
  rw [e2] at h ⊢
  split
  ·rename_i hl;rw [if_pos hl] at h;exact kOf_ahead x L k (by omega) h
  ·rename_i hl;exact ⟨_,e,by simpa using hl⟩
theorem kOf_map (X:List (T×Nat)) (x:T×Nat):∀ k,kOf (fun a b:T×Nat=>lt a.1 b.1) x X k=kOf lt x.1 (X.map Prod.fst) k
 | 0=>rfl
 | k+1=>by
  unfold kOf
  rw [List.getElem?_map]
  cases X[k]? with
  | none=>rfl
  | some y=>simp only [Option.map_some];rw [kOf_map X x k]
theorem laidIn_map (X:List (T×Nat)) (x:T×Nat):(laidIn (fun a b:T×Nat=>lt a.1 b.1) X x).map Prod.fst=laidIn lt (X.map Prod.fst) x.1:=by
 unfold laidIn
 rw [kOf_map,List.length_map,List.map_append,List.map_cons,List.map_take,List.map_drop]
theorem laidIn_perm (L:List T) (x:T):(laidIn lt L x).Perm (x :: L):=by
 unfold laidIn
 refine List.perm_middle.trans ?_
 rw [List.take_append_drop]
theorem laidIn_pairwise (hS:SWO lt) (X:List (T×Nat)) (x:T×Nat) (hx:X.Pairwise fun p q=>tlb (fun a b=>lt a.1 b.1) Prod.snd p q=true) (ht:∀ p∈X,p.2 < x.2):(laidIn (fun a b:T×Nat=>lt a.1 b.1) X x).Pairwise fun p q=>tlb (fun a b=>lt a.1 b.1) Prod.snd p q=true:=by
 obtain ⟨k,hk⟩:∃ k,k=kOf (fun a b:T×Nat=>lt a.1 b.1) x X X.length:=⟨_,rfl⟩
 have hb:=kOf_behind (lt:=fun a b:T×Nat=>lt a.1 b.1) x X X.length
 have ha:=kOf_ahead (lt:=fun a b:T×Nat=>lt a.1 b.1) x X X.length (Nat.le_refl _)
 have hle:=kOf_le (lt:=fun a b:T×Nat=>lt a.1 b.1) x X X.length
 unfold laidIn
 rw [←hk] at hb ha hle ⊢
 have hs:=swo_tlb (tag:=Prod.snd) (swo_fst hS)
 have hbx:∀ q∈X.drop k,tlb (fun a b=>lt a.1 b.1) Prod.snd x q=true:=fun q hq=>by
  obtain ⟨j,hj,rfl⟩:=List.getElem_of_mem hq
  rw [List.length_drop] at hj
  have:=hb (k+j) X[k+j] (by omega) (by omega) (List.getElem?_eq_getElem (by omega))
  rw [List.getElem_drop]
  exact TL.of_lt this
 have hax:∀ p∈X.take k,tlb (fun a b=>lt a.1 b.1) Prod.snd p x=true:=fun p hp=>by
  obtain ⟨j,hj,rfl⟩:=List.getElem_of_mem hp
  rw [List.length_take] at hj
  rw [List.getElem_take]
  obtain ⟨y,hy,hl⟩:=ha (by omega)
  have hy2:=List.getElem?_eq_some_iff.1 hy
  obtain ⟨hy3,hy4⟩:=hy2
  have hyx:tlb (fun a b=>lt a.1 b.1) Prod.snd y x=true:=TL.of_ear (tag:=Prod.snd) (ht y (by rw [←hy4];exact List.getElem_mem _)) hl
  by_cases he:j=k - 1
  ·subst he;rw [hy4];exact hyx
  ·have:=(List.pairwise_iff_getElem.1 hx) j (k - 1) (by omega) hy3 (by omega)
   rw [hy4] at this
   exact hs.trans _ _ _ this hyx
 rw [List.pairwise_append]
 refine ⟨hx.sublist (List.take_sublist _ _),?_,fun p hp q hq=>?_⟩
 ·rw [List.pairwise_cons]
  exact ⟨hbx,hx.sublist (List.drop_sublist _ _)⟩
 ·rcases List.mem_cons.1 hq with rfl | hq
  ·exact hax p hp
  ·exact hs.trans _ _ _ (hax p hp) (hbx q hq)
theorem foldl_laid (hS:SWO lt):∀ (Y X:List (T×Nat)),(X.Pairwise fun p q=>tlb (fun a b=>lt a.1 b.1) Prod.snd p q=true)→(∀ p∈X,∀ q∈Y,p.2 < q.2)→(Y.Pairwise fun p q=>p.2 < q.2)→
  (Y.foldl (laidIn fun a b:T×Nat=>lt a.1 b.1) X).Perm (X++Y)∧(Y.foldl (laidIn fun a b:T×Nat=>lt a.1 b.1) X).Pairwise (fun p q=>tlb (fun a b=>lt a.1 b.1) Prod.snd p q=true)∧(Y.foldl (laidIn fun a b:T×Nat=>lt a.1 b.1) X).map Prod.fst=(Y.map Prod.fst).foldl (laidIn lt) (X.map Prod.fst)
 | [],X,hx,_,_=>⟨by simp,hx,rfl⟩
 | y :: r,X,hx,h1,h2=>by
  rw [List.pairwise_cons] at h2
  have hp:=laidIn_perm (lt:=fun a b:T×Nat=>lt a.1 b.1) X y
  obtain ⟨q1,q2,q3⟩:=foldl_laid hS r (laidIn (fun a b:T×Nat=>lt a.1 b.1) X y) (laidIn_pairwise hS X y hx (fun p hp=>h1 p hp y (by simp))) (fun p hpm q hq=>by
   rcases List.mem_cons.1 (hp.mem_iff.1 hpm) with rfl | hpx
   ·exact h2.1 q hq
   ·exact h1 p hpx q (by simp [hq])) h2.2
  refine ⟨q1.trans ((hp.append_right r).trans ?_),q2,?_⟩
  ·simpa using List.perm_middle.symm
  ·rw [List.foldl_cons,q3,laidIn_map];rfl
theorem zipIdx_pair (L:List T):L.zipIdx.Pairwise fun p q=>p.2 < q.2:=by
 rw [List.pairwise_iff_getElem]
 intro i j hi hj hij
 simpa using hij
theorem sortL_sts (hS:SWO lt) (L:List T):StS lt L (sortL lt L):=by
 obtain ⟨q1,q2,q3⟩:=foldl_laid hS L.zipIdx [] List.Pairwise.nil (fun p hp=>by simp at hp) (zipIdx_pair L)
 refine ⟨_,q3.trans ?_,by simpa using q1,q2⟩
 simp [sortL]
theorem sortL_perm (hS:SWO lt) (L:List T):(sortL lt L).Perm L:=by
 obtain ⟨X,e,hp,_⟩:=sortL_sts hS L
 rw [←e]
 have:=hp.map Prod.fst
 simpa using this
end
end Go.Proofs.YtjekalilfhnpmaaGreatDoor
namespace Go.Proofs.YtjekalilfhnpmaaGreatDoor
open Go Go.RowKit
set_option linter.unusedVariables false
set_option linter.unusedSimpArgs false
set_option maxHeartbeats 1000000
section
variable {T:Type} {P:Program}
theorem info_of {e:TypeId} {z:Value} {k bytes:Nat} (hi:(P.info? e).map (fun i=>(i.zero,i.size,i.bytes))=some (some z,k,bytes)):∃ i,P.info? e=some i∧i.zero=some z∧i.size=k∧i.bytes=bytes:=by
 cases hq:P.info? e with
 | none=>simp [hq] at hi
 | some i=>simp [hq] at hi;exact ⟨i,rfl,hi.1,hi.2.1,hi.2.2⟩
theorem step_append_full {ops:Array Oper} {o:Oper} {a:Act} {w:World} {K:Act→World→Prop} {Q:Exit→Act→World→Prop} {E':Prop}
  (hg:o.guard=none) (s x:Operand) (t:TypeId) (hop:o.op=Op.call { callee:=Callee.builtin Builtin.append,args:=#[s,x],argTypes:=#[t,t] })
  (E:Enc T) (e:TypeId) (z:Value) (bytes:Nat) (ht:P.underlying t=some (.slice e)) (hi:(P.info? e).map (fun i=>(i.zero,i.size,i.bytes))=some (some z,E.k,bytes)) (hzs:z.cells.size=E.k) (hsz:0 < E.k)
  (p:Addr) (n:Nat) (L:List T) (hs:a.eval s=.slice (some p) n n) (hL:SlV E w (.slice (some p) n n) L) (ad:Addr) (c:Nat) (y:T) (hx:a.eval x=.slice (some ad) 1 c) (hX:SlV E w (.slice (some ad) 1 c) [y])
  (b1:n+1≤maxLen) (b2:(n+1)*bytes≤140737488355328)
  (hK:∀ v' w',Rw E e w.heap.size v' (L++[y]) w'→w.grownBy w' none→K (a.put o.dst v') w') :
  if Region.wanted o (yielded ops a.tmps)=true then Oper.wp P o a w K Q else E':=by
 obtain ⟨i,h2,h3,h4,h5⟩:=info_of hi
 have hl:=hL.len
 rcases hL with ⟨he,_⟩ | ⟨p',c',he,hc1,hcs⟩
 ·cases he
 ·cases he
  rcases hX with ⟨he,_⟩ | ⟨ad',c'',he,_,hds⟩
  ·cases he
  ·cases he
   refine step_append_grows hg s x t hop e i z E.k bytes ht h2 h3 h4 h5 hzs hsz (some p) _ _ (E.row L) hs (fun h=>by cases h) (E.row_len L) (fun b hb j u hu=>by cases hb;exact hcs j u hu)
    ad 1 c (E.row [y]) hx (E.row_len [y]) hds (E.row_one [y]) (by omega) b1 b2 ?_
   intro v' w' ho hgr
   refine hK v' w' ?_ hgr
   unfold Rw
   rw [E.row_app,List.length_append]
   exact ho
theorem step_append_rw {ops:Array Oper} {o:Oper} {a:Act} {w:World} {K:Act→World→Prop} {Q:Exit→Act→World→Prop} {E':Prop}
  (hg:o.guard=none) (s x:Operand) (t:TypeId) (hop:o.op=Op.call { callee:=Callee.builtin Builtin.append,args:=#[s,x],argTypes:=#[t,t] })
  (E:Enc T) (base:Nat) (e:TypeId) (z:Value) (bytes:Nat) (ht:P.underlying t=some (.slice e)) (hi:(P.info? e).map (fun i=>(i.zero,i.size,i.bytes))=some (some z,E.k,bytes)) (hzs:z.cells.size=E.k) (hsz:0 < E.k)
  (v:Value) (L:List T) (hs:a.eval s=v) (hL:Rw E e base v L w) (ad:Addr) (c:Nat) (y:T) (hx:a.eval x=.slice (some ad) 1 c) (hX:SlV E w (.slice (some ad) 1 c) [y])
  (b1:L.length+1≤maxLen) (b2:(L.length+1)*bytes≤140737488355328) (hbase:base≤w.heap.size)
  (hK:∀ v' w',Rw E e base v' (L++[y]) w'→w.grownBy w' v.ownBlock→(v'.ownBlock=v.ownBlock∨v'.ownBlock=some w.heap.size)→(∃ g n c,v'=.slice (some ⟨g,0,none⟩) n c)→K (a.put o.dst v') w') :
  if Region.wanted o (yielded ops a.tmps)=true then Oper.wp P o a w K Q else E':=by
 obtain ⟨i,h2,h3,h4,h5⟩:=info_of hi
 rcases hX with ⟨he,_⟩ | ⟨ad',c'',he,_,hds⟩
 ·cases he
 ·cases he
  refine step_append_lies w hg s x t hop base e i z E.k bytes ht h2 h3 h4 h5 hzs hsz v L.length (E.row L) hs hL ad 1 c (E.row [y]) hx (E.row_len [y]) hds (E.row_one [y]) (by omega) b1 b2 hbase w.heap.size rfl ?_
  intro g' cap' w' ho hgr hat _
  refine hK _ w' ?_ hgr ?_ ⟨_,_,_,rfl⟩
  ·unfold Rw
   rw [E.row_app,List.length_append]
   exact ho
  ·rcases hat with h | h
   ·exact .inl h.symm
   ·exact .inr (by rw [h];rfl)
end
end Go.Proofs.YtjekalilfhnpmaaGreatDoor
namespace Go.Proofs.YtjekalilfhnpmaaGreatDoor
open Go Go.RowKit Go.Joins Go.ChangeShapes Go.WideShapes Go.Deep
set_option linter.unusedVariables false
set_option linter.unusedSimpArgs false
set_option maxHeartbeats 1000000
set_option maxRecDepth 100000
theorem open_rows {T H:Type} {enc:TypeId×Value→H} {P:Program} {W:World} {r:Reach} {b0 base:Nat} {t e:TypeId} {v:Value} {d:DataW H} {p:List MemPlace} (E:Enc T)
  (ht:P.underlying t=some (.slice e)) (hk:P.cellsOf e=E.k)
  (hone:∀ fuel cs y,cs.length=E.k→DataW.trod enc P W base (fun _=>true) true fuel e cs=some y→∃ x:T,E.cells x=cs)
  (o:Value.okWide P W r b0 t v) (h:DataW.Trod enc P W base (fun _=>true) true t v d p) :
  ∃ A n c L,v=.slice A n c∧L.length=n∧SlV E W (.slice A n c) L∧c≤maxLen:=by
 obtain ⟨A,n,c,rfl⟩:=okWide_slice ht o
 obtain ⟨fuel,hf⟩:=h
 rcases Deep.open_slice ht hf with ⟨e,_⟩ | ⟨a,len,cap,m,k,D,Pl,e,_,hl,hc,hm,_,hx⟩
 ·simp [Value.cells] at e
  obtain ⟨rfl,rfl,rfl⟩:=e
  exact ⟨none,0,0,[],rfl,rfl,SlV.nil,by unfold maxLen;omega⟩
 ·simp [Value.cells] at e
  obtain ⟨rfl,e2,e3⟩:=e
  simp only [if_true] at hm
  subst e2 e3 hm
  obtain ⟨L,h1,h2⟩:=SlV.of_each (E:=E) (w:=W) (p:=a) (n:=n) hl (fun i hi=>by
   obtain ⟨cs,hcs,htr⟩:=hx i (by omega)
   obtain ⟨_,hlen,hcell⟩:=World.cells?_some hcs
   rw [hk] at hlen hcell
   obtain ⟨x,hxx⟩:=hone _ cs _ hlen htr
   refine ⟨x,fun j u hu=>?_⟩
   rw [hxx] at hu
   have hj:j < E.k:=by rw [←hlen];exact (List.getElem?_eq_some_iff.1 hu).1
   have:=hcell j hj
   rw [hu,add_add] at this
   exact this)
  exact ⟨_,n,_,L,rfl,h1,h2,hc⟩
end Go.Proofs.YtjekalilfhnpmaaGreatDoor
