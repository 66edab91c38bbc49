/- A tree's log: a range over it from behind. A tree's log, and the document's list of places: the plain laws. The document's places: where a node stands; does a node lie in another one; are two lists the same. -/
import Derived.RangeFuncNested
import Derived.RangeFuncBound
import Derived.RangeFuncCalls
import Derived.RangeFuncLeaves
import Derived.RangeFuncWrites
import Derived.Shelf.Abstract
import Derived.Shelf.RegionOpen
import Derived.WalkKit
import Derived.OwnWalkIn
import Derived.TacticsInMore
import Derived.LoopNIn
import Derived.LoopIn
import Derived.BigQuiet
import Derived.Test.YtjekalilfhnpmaaGreatDoorQ07
import Derived.Test.YtjekalilfhnpmaaGreatDoorQ15
namespace Go.Proofs.YtjekalilfhnpmaaGreatDoor
open Go Go.RowKit Go.Shelf
set_option linter.unusedVariables false
set_option linter.unusedSimpArgs false
set_option maxHeartbeats 4000000
set_option maxRecDepth 100000
attribute [local go_sem] Oper.semAt_some
abbrev DoneS:={ d:DoneT // I64 d.o.nd }
def backF (L:List DoneS) (j:Nat)   : Int×DoneS:=(((L.length - 1 - j:Nat):Int),L[L.length - 1 - j]?.getD ⟨⟨⟨0,0,0,0,0,0,⟨#[]⟩,⟨#[]⟩⟩,⟨0,0,⟨#[]⟩⟩,false,false⟩,by constructor <;> decide⟩)
def cameB (L:List DoneS) (k:Nat):List (Int×DoneS):=(List.range k).map (backF L)
theorem cameB_succ (L:List DoneS) (k:Nat):cameB L (k+1)=cameB L k++[backF L k]:=by simp [cameB,List.range_succ]
theorem cameB_len (L:List DoneS) (k:Nat):(cameB L k).length=k:=by simp [cameB]
theorem backF_at {L:List DoneS} {m:Nat} {d:DoneS} (h:L[m]?=some d):backF L (L.length - 1 - m)=((m:Int),d):=by
 have hm:=(List.getElem?_eq_some_iff.1 h).1
 unfold backF
 rw [show L.length - 1 - (L.length - 1 - m)=m by omega,h]
 rfl
abbrev KpB (mb n₀:Nat):World→World→Prop:=Fr (fun k=>k=mb∨n₀≤k)
theorem back_in (w:World) (v:Value) (hv:v.oneCell'=true):Calls Tryz.prog 157 #[v] w fun e w'=>e=.returned (.func (.func 196) #[] #[.pointer (some ⟨w.heap.size,0,none⟩)])∧w'=w.alloc (.cells #[v] 152):=by
 go_enter Tryz.func157,Tryz.ntmps157
 go_wp2_with fail
 go_ret
 exact ⟨rfl,rfl⟩
theorem back1_in (F:Fence) (n:Nat) (hf:F.fn 196) (hro:F.round=none) (hn:1≤n) (l Bs n₀ mb b off cap:Nat) (L:List DoneS) (hreach:L.length≤100000) (hb:b < n₀) (hbm:b≠mb) (hBs:Bs < n₀) (hBm:Bs≠mb) (J Jx:List (Int×DoneS)→World→Prop)
  (hY:∀ pre x W,J pre W→pre.length < L.length→YieldAt F (n - 1) Tryz.prog l #[.int .i64 x.1,.agg x.2.1.cells] W fun e W'=>
   (e=.returned (.bool true)∧J (pre++[x]) W'∧KpB mb n₀ W W')∨(e=.returned (.bool false)∧Jx (pre++[x]) W'))
  (W:World) (hBs':W.cell? ⟨Bs,0,none⟩=some (.slice (some ⟨b,off,none⟩) L.length cap)) (hc:∀ i d,L[i]?=some d→DnC b (off+i*13) d.1 W) (h0:J [] W) :
  CallsIn F n Tryz.prog 196 #[.func (.yield l) #[] #[],.pointer (some ⟨Bs,0,none⟩)] W fun e W'=>(∃ v,e=.returned v)∧
   ((∃ ys,ys=cameB L L.length∧J ys W')∨(∃ pre,True∧Jx pre W')):=by
 have HY:=Lib.hid hY
 have HC:=Lib.hid hc
 have HB0:Hid (∀ wr,KpB mb n₀ W wr→wr.cell? ⟨Bs,0,none⟩=some (.slice (some ⟨b,off,none⟩) L.length cap)):=Lib.hid fun wr h=>(h.cell (World.block_lt_of_cell? W _ hBs') (by simp;omega)).trans hBs'
 have HJ0:=Lib.hid h0
 obtain ⟨N,hN⟩:∃ N,N=L.length:=⟨_,rfl⟩
 have HN:=Lib.hid hN
 rw [←hN] at hBs' hreach HB0 ⊢
 clear hY hc h0 hN
 refine callsIn_of_wp Tryz.func196 rfl hf ?_ hro
 simp only [Tryz.ntmps196,List.size_toArray,List.length_cons,List.length_nil,Nat.reduceAdd,Nat.reduceSub,Array.replicate_succ,Array.replicate_zero,List.push_toArray,List.append_toArray,List.nil_append,List.cons_append]
 have hw0:IntKind.i64.wrap ((N:Int) - 1)=(N:Int) - 1:=by rw [IntKind.wrap_i64];omega
 gi_wp2
 gi_loopw [3] (fun i wr=>∃ j:Int,-1≤j∧j < (N:Int)∧i=.int .i64 j∧Hid (J (cameB L (N - 1 - j).toNat) wr)∧Hid (KpB mb n₀ W wr))
  (fun i _=>(intOf i+1).toNat)
 case atStart=>exact ⟨(N:Int) - 1,by omega,by omega,by first | done | rfl | go_num,Lib.hid (by rw [show ((N:Int) - 1 - ((N:Int) - 1)).toNat=0 by omega];exact HJ0.out),Lib.hid (Fr.of_below (Below.refl _ _))⟩
 case round=>
  obtain ⟨j,hj1,hj2,rfl,HJ,HK⟩:=hrel
  have hb1:=HB0.out wr HK.out
  rcases Int.lt_or_le j 0 with hneg | hpos
  ·have hx:j = -1:=by omega
   subst hx
   gi_wp2
   go_end0
   refine ⟨⟨_,rfl⟩,.inl ⟨_,rfl,?_⟩⟩
   have:=HJ.out
   rw [show ((N:Int) - 1 - (-1)).toNat=N by omega] at this
   first | exact this | (rw [HN.out] at this ⊢;exact this) | (rw [←HN.out];exact this)
  ·obtain ⟨m,rfl⟩:=Int.eq_ofNat_of_zero_le hpos
   have hm:m < N:=by omega
   obtain ⟨d,hd⟩:∃ d,L[m]?=some d:=⟨_,List.getElem?_eq_getElem (by rw [←HN.out];exact hm)⟩
   have hF:=backF_at hd
   have hdc:DnC b (off+m*13) d.1 wr:=(HC.out m d hd).fr HK.out (by omega)
   obtain ⟨c0,c1,c2,c3,c4,c5,c6,c7,c8,c9,c10,c11,c12⟩:=hdc.all
   obtain ⟨fn,tmps,assign,body,hy,hR⟩:=HY.out _ ((m:Int),d) wr HJ.out (by rw [cameB_len,←HN.out];omega)
   simp only [DoneT.cells,doneCells] at hy
   have i1:(0:Int)≤(m:Int):=by omega
   have i2:(m:Int) < (N:Int):=by omega
   have hw1:IntKind.i64.wrap ((m:Int) - 1)=(m:Int) - 1:=by rw [IntKind.wrap_i64];omega
   have HF:=Lib.hid hF
   clear hd hF hdc
   gi_wp2
   refine hR.mono ?_
   rintro e W3 (⟨rfl,hJ3,hk3⟩ | ⟨rfl,hJx3⟩)
   ·gi_wp2
    go_roundw
    case rel=>exact ⟨(m:Int) - 1,by omega,by omega,by first | done | rfl | go_num,Lib.hid (by
     rw [show ((N:Int) - 1 - ((m:Int) - 1)).toNat=(N - 1 - m)+1 by omega,cameB_succ]
     rw [show ((N:Int) - 1 - (m:Int)).toNat=N - 1 - m by omega] at hJ3
     rw [HN.out,HF.out,←HN.out]
     exact hJ3),Lib.hid (HK.out.trans hk3)⟩
    case measure=>simp [intOf] <;> omega
   ·gi_wp2
    refine bodyPost_ret (results_none rfl _ _ _) rfl ?_
    exact ⟨⟨_,rfl⟩,.inr ⟨_,trivial,hJx3⟩⟩
structure LaterC (n₀ mb:Nat) (v:Value) (L:List DoneS) (w:World):Prop where
 at':(v=.slice none 0 0∧L=[])∨∃ b off cap,v=.slice (some ⟨b,off,none⟩) L.length cap∧b < n₀∧b≠mb∧∀ i d,L[i]?=some d→DnC b (off+i*13) d.1 w
theorem back1_nil (F:Fence) (n:Nat) (hf:F.fn 196) (hro:F.round=none) (l Bs:Nat) (J:List (Int×DoneS)→World→Prop) (W:World) (hBs':W.cell? ⟨Bs,0,none⟩=some (.slice none 0 0)) (h0:J [] W) :
  CallsIn F n Tryz.prog 196 #[.func (.yield l) #[] #[],.pointer (some ⟨Bs,0,none⟩)] W fun e W'=>(∃ v,e=.returned v)∧J [] W':=by
 refine callsIn_of_wp Tryz.func196 rfl hf ?_ hro
 simp only [Tryz.ntmps196,List.size_toArray,List.length_cons,List.length_nil,Nat.reduceAdd,Nat.reduceSub,Array.replicate_succ,Array.replicate_zero,List.push_toArray,List.append_toArray,List.nil_append,List.cons_append]
 gi_wp2
 gi_loopw [3] (fun i wr=>i=.int .i64 (-1)∧J [] wr) (fun _ _=>0)
 case atStart=>exact ⟨by first | done | rfl,h0⟩
 case round=>
  obtain ⟨rfl,hJs⟩:=hrel
  gi_wp2
  go_end0
  exact ⟨⟨_,rfl⟩,hJs⟩
theorem back_stops (F:Fence) (n:Nat) (hf:F.fn 196) (hro:F.round=none) (hn:1≤n) (Bs n₀ mb:Nat) (v:Value) (L:List DoneS) (hreach:L.length≤100000) (w:World) (hBs:Bs < n₀) (hBm:Bs≠mb) (hn₀:n₀≤w.heap.size)
  (hc:w.cell? ⟨Bs,0,none⟩=some v) (hL:LaterC n₀ mb v L w) :
  SeqStopsK F n Tryz.prog 196 #[.pointer (some ⟨Bs,0,none⟩)] (fun x   : Int×DoneS=>#[Value.int .i64 x.1,.agg x.2.1.cells]) (KpB mb n₀) (fun ys=>ys=cameB L L.length) (fun _=>True) L.length w:=fun l J Jx W hW _ _ hY h0=>by
 have hc':=(hW.cell (p:=⟨Bs,0,none⟩) (by show Bs < _;omega)).trans hc
 rcases hL.at' with ⟨rfl,rfl⟩ | ⟨b,off,cap,rfl,hb,hbm,hcs⟩
 ·exact (back1_nil F n hf hro l Bs J W hc' h0).mono fun e W' ⟨he,hj⟩=>⟨he,.inl ⟨_,rfl,hj⟩⟩
 ·exact back1_in F n hf hro hn l Bs n₀ mb b off cap L hreach hb hbm hBs hBm J Jx hY W hc' (fun i d hi=>(hcs i d hi).below hW) h0
theorem kpB_t {mb n₀:Nat} {A B C:World} (h:KpB mb n₀ A B) (h':KpB mb n₀ B C):KpB mb n₀ A C:=h.trans h'
theorem kpB_b {mb n₀ n₁:Nat} (hn:n₀≤n₁) (W:World) (l:Nat) (o o':Obj) (hl:n₁≤l) (_:W.heap[l]?=some o) (_:o.isCells=false) (_:o.isWalk=false):KpB mb n₀ W (W.putObj l o'):=
 ⟨rfl,rfl,rfl,by simp [World.putObj],fun k hk hx=>World.putObj_heap_other (by intro e;apply hx;right;omega)⟩
end Go.Proofs.YtjekalilfhnpmaaGreatDoor
namespace Go.Proofs.YtjekalilfhnpmaaGreatDoor
open Go Go.RowKit Tree
set_option linter.unusedVariables false
set_option linter.unusedSimpArgs false
noncomputable def noteO (p:PlB) (o:OpT):DoneT:=⟨o,wasP (plM p o.nd),(plM p o.nd).isSome,goes p (mvO o)⟩
noncomputable def notesO:PlB→List OpT→List DoneT
 | _,[]=>[]
 | p,o :: l=>noteO p o :: notesO (Tree.move p (mvO o)) l
noncomputable def runO (p:PlB) (L:List OpT):PlB:=replay p (L.map mvO)
theorem runO_nil (p:PlB):runO p []=p:=rfl
theorem runO_cons (p:PlB) (o:OpT) (L:List OpT):runO p (o :: L)=runO (Tree.move p (mvO o)) L:=rfl
theorem runO_append (p:PlB) (A B:List OpT):runO p (A++B)=runO (runO p A) B:=by unfold runO;rw [List.map_append,replay_append]
theorem runO_snoc (p:PlB) (A:List OpT) (o:OpT):runO p (A++[o])=Tree.move (runO p A) (mvO o):=by rw [runO_append];rfl
theorem notesO_append (p:PlB) (A B:List OpT):notesO p (A++B)=notesO p A++notesO (runO p A) B:=by
 induction A generalizing p with
 | nil=>rfl
 | cons o A ih=>simp only [List.cons_append,notesO,ih,runO_cons]
theorem notesO_len (p:PlB) (A:List OpT):(notesO p A).length=A.length:=by
 induction A generalizing p with
 | nil=>rfl
 | cons o A ih=>simp [notesO,ih]
theorem notesO_ops (p:PlB) (A:List OpT):(notesO p A).map (·.o)=A:=by
 induction A generalizing p with
 | nil=>rfl
 | cons o A ih=>simp [notesO,noteO,ih]
theorem notesO_take (p:PlB) (A:List OpT) (n:Nat):(notesO p A).take n=notesO p (A.take n):=by
 induction A generalizing p n with
 | nil=>simp [notesO]
 | cons o A ih=>
  cases n with
  | zero=>simp [notesO]
  | succ n=>simp [notesO,ih]
theorem notesO_at (p:PlB) (A:List OpT) (i:Nat) (o:OpT) (h:A[i]?=some o):(notesO p A)[i]?=some (noteO (runO p (A.take i)) o):=by
 induction A generalizing p i with
 | nil=>simp at h
 | cons a A ih=>
  cases i with
  | zero=>simp at h;subst h;simp [notesO,runO_nil]
  | succ i=>simp [notesO,ih _ i (by simpa using h),runO_cons]
theorem runO_take_succ (p:PlB) {A:List OpT} {i:Nat} {o:OpT} (h:A[i]?=some o):runO p (A.take (i+1))=Tree.move (runO p (A.take i)) (mvO o):=by
 rw [←runO_snoc]
 congr 1
 obtain ⟨hi,he⟩:=List.getElem?_eq_some_iff.1 h
 rw [←he,List.take_append_getElem]
theorem undo_note (p:PlB) (o:OpT):undoM (plM (Tree.move p (mvO o))) o (noteO p o).y (noteO p o).is (noteO p o).by'=plM p:=by
 unfold undoM noteO
 simp only
 unfold Tree.move
 cases hg:goes p (mvO o) with
 | false=>simp
 | true=>
  simp only [if_true]
  funext x
  unfold updT plM put
  by_cases hx:x=o.nd
  ·subst hx
   simp [mvO]
   cases p o.nd with
   | none=>simp
   | some v=>simp [wasP]
  ·simp [hx,mvO]
structure RepP (Q:List PlT) (p:PlB):Prop where
 up:Q.Pairwise fun x y=>x.nd < y.nd
 is:∀ y,y∈Q↔p y.nd=some (y.into,y.nm)
theorem RepP.nil:RepP [] (fun _=>none):=⟨List.Pairwise.nil,fun y=>by simp⟩
theorem RepP.unique {Q Q':List PlT} {p:PlB} (h:RepP Q p) (h':RepP Q' p):Q=Q':=by
 refine List.Perm.eq_of_pairwise (le:=fun x y=>x.nd < y.nd) (fun a b _ _ h1 h2=>absurd h1 (by omega)) h.up h'.up ?_
 have n1:Q.Nodup:=h.up.imp (fun hlt he=>by rw [he] at hlt;omega)
 have n2:Q'.Nodup:=h'.up.imp (fun hlt he=>by rw [he] at hlt;omega)
 exact (List.perm_ext_iff_of_nodup n1 n2).2 fun a=>by rw [h.is a,h'.is a]
theorem RepP.idx {Q:List PlT} {p:PlB} (h:RepP Q p) {i j:Nat} {y z:PlT} (hy:Q[i]?=some y) (hz:Q[j]?=some z) (e:y.nd=z.nd):i=j:=by
 obtain ⟨hi,hi2⟩:=List.getElem?_eq_some_iff.1 hy
 obtain ⟨hj,hj2⟩:=List.getElem?_eq_some_iff.1 hz
 rcases Nat.lt_trichotomy i j with hl | hl | hl
 ·have:=(List.pairwise_iff_getElem.1 h.up) i j hi hj hl
  rw [hi2,hj2] at this
  omega
 ·exact hl
 ·have:=(List.pairwise_iff_getElem.1 h.up) j i hj hi hl
  rw [hi2,hj2] at this
  omega
theorem RepP.set {Q:List PlT} {p:PlB} (h:RepP Q p) {k:Nat} {y z:PlT} (hy:Q[k]?=some y) (hz:y.nd=z.nd):RepP (Q.set k z) (put p z.nd (some (z.into,z.nm))):=by
 obtain ⟨hk,hk2⟩:=List.getElem?_eq_some_iff.1 hy
 constructor
 ·rw [List.pairwise_iff_getElem]
  intro i j hi hj hij
  rw [List.length_set] at hi hj
  have:=(List.pairwise_iff_getElem.1 h.up) i j hi hj hij
  rw [List.getElem_set,List.getElem_set]
  by_cases h1:k=i
  ·subst h1
   rw [if_pos rfl,if_neg (by omega),←hz,←hk2]
   exact this
  ·by_cases h2:k=j
   ·subst h2
    rw [if_neg h1,if_pos rfl,←hz,←hk2]
    exact this
   ·rw [if_neg h1,if_neg h2]
    exact this
 ·intro x
  unfold put
  by_cases hx:x.nd=z.nd
  ·rw [if_pos hx]
   constructor
   ·intro hm
    obtain ⟨i,hi,rfl⟩:=List.getElem_of_mem hm
    rw [List.length_set] at hi
    rw [List.getElem_set] at hx ⊢
    by_cases h1:k=i
    ·subst h1
     rw [if_pos rfl]
    ·rw [if_neg h1] at hx ⊢
     exact absurd (h.idx hy (List.getElem?_eq_getElem hi) (by rw [hz,←hx])) h1
   ·intro he
    have e:x=z:=by
     cases x;cases z
     simp at he hx ⊢
     exact ⟨hx,he.1.symm,he.2.symm⟩
    rw [e]
    exact List.mem_iff_getElem.2 ⟨k,by simpa using hk,by simp⟩
  ·rw [if_neg hx,←h.is]
   constructor
   ·intro hm
    rcases List.mem_or_eq_of_mem_set hm with h1 | h1
    ·exact h1
    ·rw [h1] at hx;exact absurd rfl hx
   ·intro hm
    obtain ⟨i,hi,rfl⟩:=List.getElem_of_mem hm
    refine List.mem_iff_getElem.2 ⟨i,by simpa using hi,?_⟩
    rw [List.getElem_set,if_neg]
    intro h1
    subst h1
    rw [hk2] at hx
    exact hx hz
theorem RepP.ins {Q:List PlT} {p:PlB} (h:RepP Q p) {k:Nat} {z:PlT} (hk:k≤Q.length) (h1:∀ i y,i < k→Q[i]?=some y→y.nd < z.nd) (h2:∀ y,Q[k]?=some y→¬ y.nd < z.nd) (h3:∀ y∈Q,y.nd≠z.nd):RepP (Q.take k++z :: Q.drop k) (put p z.nd (some (z.into,z.nm))):=by
 have hb:∀ y∈Q.drop k,z.nd < y.nd:=fun y hy=>by
  obtain ⟨j,hj,rfl⟩:=List.getElem_of_mem hy
  rw [List.length_drop] at hj
  rw [List.getElem_drop]
  have e0:Q[k]?=some Q[k]:=List.getElem?_eq_getElem (by omega)
  have e1:=h2 _ e0
  have e2:=h3 Q[k] (List.getElem_mem _)
  rcases Nat.eq_zero_or_pos j with rfl | hj0
  ·simp only [Nat.add_zero];omega
  ·have:=(List.pairwise_iff_getElem.1 h.up) k (k+j) (by omega) (by omega) (by omega)
   omega
 have ha:∀ y∈Q.take k,y.nd < z.nd:=fun y hy=>by
  obtain ⟨j,hj,rfl⟩:=List.getElem_of_mem hy
  rw [List.length_take] at hj
  rw [List.getElem_take]
  exact h1 j _ (by omega) (List.getElem?_eq_getElem (by omega))
 constructor
 ·rw [List.pairwise_append,List.pairwise_cons]
  refine ⟨h.up.sublist (List.take_sublist _ _),⟨hb,h.up.sublist (List.drop_sublist _ _)⟩,fun x hx y hy=>?_⟩
  rcases List.mem_cons.1 hy with rfl | hy
  ·exact ha x hx
  ·have:=ha x hx
   have:=hb y hy
   omega
 ·intro x
  have hm:x∈Q.take k++z :: Q.drop k↔x=z∨x∈Q:=by
   rw [List.mem_append,List.mem_cons]
   have:x∈Q↔x∈Q.take k∨x∈Q.drop k:=by rw [←List.mem_append,List.take_append_drop]
   rw [this]
   constructor
   ·rintro (h | h | h)
    ·exact .inr (.inl h)
    ·exact .inl h
    ·exact .inr (.inr h)
   ·rintro (h | h | h)
    ·exact .inr (.inl h)
    ·exact .inl h
    ·exact .inr (.inr h)
  rw [hm]
  unfold put
  by_cases hx:x.nd=z.nd
  ·rw [if_pos hx]
   constructor
   ·rintro (rfl | hq)
    ·rfl
    ·exact absurd hx (h3 x hq)
   ·intro he
    refine .inl ?_
    cases x;cases z
    simp at he hx ⊢
    exact ⟨hx,he.1.symm,he.2.symm⟩
  ·rw [if_neg hx,←h.is]
   constructor
   ·rintro (rfl | hq)
    ·exact absurd rfl hx
    ·exact hq
   ·exact .inr
theorem RepP.keys {p:PlB} {ks:List Int} (hk:ks.Pairwise (· < ·)) (hm:∀ k,k∈ks↔(p k).isSome=true):RepP (ks.map fun k=>wasP (plM p k)) p:=by
 have e:∀ k∈ks,∃ v,p k=Option.some v∧wasP (plM p k)=⟨k,v.1,v.2⟩:=fun k hkm=>by
  have:=(hm k).1 hkm
  cases hp:p k with
  | none=>rw [hp] at this;cases this
  | some v=>exact ⟨v,rfl,by simp [plM,hp,wasP]⟩
 constructor
 ·rw [List.pairwise_map]
  refine List.Pairwise.imp_of_mem (fun {a b} h1 h2 hlt=>?_) hk
  obtain ⟨v,_,e1⟩:=e a h1
  obtain ⟨v',_,e2⟩:=e b h2
  rw [e1,e2]
  exact hlt
 ·intro y
  rw [List.mem_map]
  constructor
  ·rintro ⟨k,hk1,rfl⟩
   obtain ⟨v,hv,e1⟩:=e k hk1
   rw [e1]
   simpa using hv
  ·intro hy
   have hks:y.nd∈ks:=(hm _).2 (by rw [hy];rfl)
   refine ⟨y.nd,hks,?_⟩
   simp [plM,hy,wasP]
end Go.Proofs.YtjekalilfhnpmaaGreatDoor
namespace Go.Proofs.YtjekalilfhnpmaaGreatDoor
open Go Go.RowKit Go.Maps Tree
set_option linter.unusedVariables false
set_option linter.unusedSimpArgs false
set_option maxHeartbeats 4000000
set_option maxRecDepth 100000
def plE:Enc PlT:=⟨fun y=>[.int .i64 y.nd,.int .i64 y.into,.string y.nm],3,fun _=>rfl,fun x v hv=>by
 simp at hv
 rcases hv with rfl | rfl | rfl <;> rfl⟩
theorem infoPlT:(Tryz.prog.info? 81).map (fun i=>(i.zero,i.size,i.bytes))=some (some (.agg #[.int .i64 0,.int .i64 0,.string ⟨#[]⟩]),3,32):=by kernel_rfl
def PlEnds (ty:TypeId) (p:PlB) (n:Nat) (w:World) (e:Ending) (w':World):Prop:=∃ v Q,e=.returned v∧Rw plE ty w.heap.size v Q w'∧RepP Q p∧Q.length≤n∧Below w.heap.size w w'
end Go.Proofs.YtjekalilfhnpmaaGreatDoor
