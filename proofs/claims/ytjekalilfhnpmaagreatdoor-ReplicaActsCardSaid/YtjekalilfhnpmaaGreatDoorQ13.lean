/- A replica's operations: when they are well; what joining them makes. Plain. A replica's fresh operations: no number is left out, and stamps rise: the walk of rising. -/
import Derived.Deep.QuietTactic
import Derived.Test.YtjekalilfhnpmaaGreatDoorQ04
import Derived.Test.YtjekalilfhnpmaaGreatDoorQ07
theorem Go.Proofs.YtjekalilfhnpmaaGreatDoor.κ13 {p:Prop} (h:p):Go.RowKit.Hid p:=Go.Lib.hid h
namespace Go.Proofs.YtjekalilfhnpmaaGreatDoor
open LineOrd
set_option linter.unusedVariables false
set_option linter.unusedSimpArgs false
def Known (D:List OpT) (nd:Int):Prop:=∃ o,o∈D∧o.k=109∧o.nd=nd∧o.id=nd
structure RefOk (D:List OpT) (o:OpT):Prop where
 mv:o.k=109→(o.nd=o.id∨Known D o.nd)∧(o.ot=0∨o.ot=1∨Known D o.ot)
 ins:o.k=105→Known D o.nd∧(o.ot=0∨HasLet D o.nd o.ot)
 del:o.k=100→Known D o.nd∧HasLet D o.nd o.ot
 set:o.k=115→Known D o.nd
structure DOk (D:List OpT):Prop where
 wf:∀ o∈D,o.Wf
 er:∀ o∈D,opErr o=0
 one:∀ o∈D,∀ p∈D,SameS o p→o=p
 nod:D.Nodup
 refs:∀ o∈D,RefOk D o
 num:∀ o∈D,∀ p∈D,o.b=p.b→o.n=p.n→o=p
 low:∀ o∈D,1 < o.n→∃ p,p∈D∧p.b=o.b∧p.n=o.n - 1∧opLt p o=true
structure OpFine (o:OpT):Prop where
 t1:1≤o.t
 t2:o.t≤1073741824
 b1:0≤o.b
 b2:o.b < 4
 n1:1≤o.n
 n2:o.n≤400
 k:o.k=109∨o.k=105∨o.k=100∨o.k=115
 nd0:0≤o.nd
 ndi:o.nd≤o.id
 ndm:o.nd=o.id→o.k=109
 mv:o.k=109→o.nd≠0∧o.nd≠1∧0≤o.ot∧o.ot < o.id
 ins:o.k=105→0≤o.ot∧o.ot < o.id
 del:o.k=100→0 < o.ot∧o.ot < o.id
 set:o.k=115→o.ot=0
 val:o.k=105→o.vl.size=1
theorem fine_of {o:OpT} (h:opErr o=0):OpFine o:=by
 unfold opErr at h
 by_cases h1:¬ StampOk o.t o.b∨o.n < 1∨400 < o.n
 ·rw [if_pos h1] at h;omega
 ·rw [if_neg h1] at h
  by_cases h2:¬ (o.k=109∨o.k=105∨o.k=100∨o.k=115)
  ·rw [if_pos h2] at h;omega
  ·rw [if_neg h2] at h
   by_cases h3:numB o.k o.nd o.ot o.id=false
   ·rw [if_pos h3] at h;omega
   ·rw [if_neg h3] at h
    by_cases h4:nmB o=false
    ·rw [if_pos h4] at h;omega
    ·rw [if_neg h4] at h
     by_cases h5:vlB o.k o.vl=false
     ·rw [if_pos h5] at h;omega
     ·have h3':numB o.k o.nd o.ot o.id=true:=by simpa using h3
      unfold numB at h3'
      rw [decide_eq_true_eq] at h3'
      obtain ⟨a1,a2,a3,a4,a5,a6,a7⟩:=h3'
      have hs:StampOk o.t o.b:=Classical.byContradiction fun hh=>h1 (.inl hh)
      obtain ⟨s1,s2,s3,s4⟩:=hs
      refine ⟨s1,s2,s3,s4,by omega,by omega,Classical.byContradiction fun hh=>h2 hh,a1,a2,a3,a4,a5,a6,fun hk=>a7 (by omega),fun hk=>?_⟩
      have h5':vlB o.k o.vl=true:=by simpa using h5
      unfold vlB at h5'
      rw [if_pos hk] at h5'
      simp at h5'
      exact h5'.1
theorem OpFine.idr {o:OpT} (h:OpFine o):4≤o.id∧o.id < 4294967300:=by
 have:=h.t1;have:=h.t2;have:=h.b1;have:=h.b2
 unfold OpT.id;omega
theorem same_of_id {o p:OpT} (h:OpFine o) (h':OpFine p) (e:o.id=p.id):SameS o p:=by
 have:=h.b1;have:=h.b2;have:=h'.b1;have:=h'.b2
 unfold OpT.id at e
 unfold SameS
 omega
theorem lt_of_id {o p:OpT} (h:OpFine o) (h':OpFine p):opLt o p=true↔o.id < p.id:=by
 have:=h.b1;have:=h.b2;have:=h'.b1;have:=h'.b2
 rw [opLt_iff]
 unfold OpT.id
 omega
theorem DOk.fine {D:List OpT} (h:DOk D) {o:OpT} (ho:o∈D):OpFine o:=fine_of (h.er o ho)
theorem DOk.lines {D:List OpT} (h:DOk D):LinesOk D where
 lo o ho:=(h.fine ho).idr.1
 hi o ho:=(h.fine ho).idr.2
 one o ho p hp e:=h.one o ho p hp (same_of_id (h.fine ho) (h.fine hp) e)
 ot o ho hk:=(h.fine ho).ins hk
 behind o ho hk h0:=by
  rcases ((h.refs o ho).ins hk).2 with e | e
  ·omega
  ·exact e
 dead o ho hk:=((h.refs o ho).del hk).2
theorem Known.mono {D D':List OpT} (hs:∀ o∈D,o∈D') {nd:Int} (h:Known D nd):Known D' nd:=by
 obtain ⟨o,ho,r⟩:=h;exact ⟨o,hs o ho,r⟩
theorem HasLet.mono {D D':List OpT} (hs:∀ o∈D,o∈D') {nd x:Int} (h:HasLet D nd x):HasLet D' nd x:=by
 obtain ⟨o,ho,r⟩:=h;exact ⟨o,hs o ho,r⟩
theorem RefOk.mono {D D':List OpT} (hs:∀ o∈D,o∈D') {o:OpT} (h:RefOk D o):RefOk D' o:=
 ⟨fun hk=>⟨(h.mv hk).1.imp id (·.mono hs),(h.mv hk).2.imp id (·.imp id (·.mono hs))⟩,fun hk=>⟨(h.ins hk).1.mono hs,(h.ins hk).2.imp id (·.mono hs)⟩,fun hk=>⟨(h.del hk).1.mono hs,(h.del hk).2.mono hs⟩,fun hk=>(h.set hk).mono hs⟩
theorem DOk.of_mem {D D':List OpT} (h:DOk D) (hn:D'.Nodup) (he:∀ o,o∈D'↔o∈D):DOk D' where
 wf o ho:=h.wf o ((he o).1 ho)
 er o ho:=h.er o ((he o).1 ho)
 one o ho p hp:=h.one o ((he o).1 ho) p ((he p).1 hp)
 nod:=hn
 refs o ho:=(h.refs o ((he o).1 ho)).mono fun p hp=>(he p).2 hp
 num o ho p hp:=h.num o ((he o).1 ho) p ((he p).1 hp)
 low o ho h1:=by obtain ⟨p,hp,r⟩:=h.low o ((he o).1 ho) h1;exact ⟨p,(he p).2 hp,r⟩
theorem DOk.nil:DOk []:=⟨by simp,by simp,by simp,by simp,by simp,by simp,by simp⟩
theorem DOk.cut {L G:List OpT} (hL:DOk L) (h:DOk (L++G)) (hG:Rising G) (i:Nat):DOk (L++G.take i):=by
 have hsub:∀ o∈L++G.take i,o∈L++G:=fun o ho=>by
  rcases List.mem_append.1 ho with ho | ho
  ·exact List.mem_append.2 (.inl ho)
  ·exact List.mem_append.2 (.inr (List.mem_of_mem_take ho))
 have hdown:∀ o∈G.take i,∀ p∈L++G,opLt p o=true→p∈L++G.take i:=fun o ho p hp hlt=>by
  rcases List.mem_append.1 hp with hp | hp
  ·exact List.mem_append.2 (.inl hp)
  ·refine List.mem_append.2 (.inr ?_)
   obtain ⟨j,hj,rfl⟩:=List.getElem_of_mem ho
   obtain ⟨q,hq,rfl⟩:=List.getElem_of_mem hp
   rw [List.length_take] at hj
   rw [List.getElem_take] at hlt
   have hqj:q < j:=by
    rcases Nat.lt_trichotomy q j with h1 | h1 | h1
    ·exact h1
    ·subst h1;exact absurd ⟨rfl,rfl⟩ (opLt_irr hlt)
    ·have:=(List.pairwise_iff_getElem.1 hG) j q (by omega) hq h1
     exact absurd ⟨rfl,rfl⟩ (opLt_irr (opLt_tr hlt this))
   exact List.mem_iff_getElem.2 ⟨q,by rw [List.length_take];omega,by rw [List.getElem_take]⟩
 have hkn:∀ o∈G.take i,∀ nd,Known (L++G) nd→nd < o.id→Known (L++G.take i) nd:=fun o ho nd ⟨p,hp,r1,r2,r3⟩ hlt=>
  ⟨p,hdown o ho p hp ((lt_of_id (h.fine hp) (h.fine (hsub o (List.mem_append.2 (.inr ho))))).2 (by omega)),r1,r2,r3⟩
 have hlt:∀ o∈G.take i,∀ nd x,HasLet (L++G) nd x→x < o.id→HasLet (L++G.take i) nd x:=fun o ho nd x ⟨p,hp,r1,r2,r3⟩ hlt=>
  ⟨p,hdown o ho p hp ((lt_of_id (h.fine hp) (h.fine (hsub o (List.mem_append.2 (.inr ho))))).2 (by omega)),r1,r2,r3⟩
 have hinL:∀ o∈L,o∈L++G.take i:=fun o ho=>List.mem_append.2 (.inl ho)
 refine ⟨fun o ho=>h.wf o (hsub o ho),fun o ho=>h.er o (hsub o ho),fun o ho p hp=>h.one o (hsub o ho) p (hsub p hp),h.nod.sublist (List.Sublist.append (List.Sublist.refl _) (List.take_sublist _ _)),fun o ho=>?_,fun o ho p hp=>h.num o (hsub o ho) p (hsub p hp),fun o ho h1=>?_⟩
 ·rcases List.mem_append.1 ho with ho' | ho'
  ·exact (hL.refs o ho').mono hinL
  ·have hr:=h.refs o (hsub o ho)
   have hf:=h.fine (hsub o ho)
   refine ⟨fun hk=>⟨?_,?_⟩,fun hk=>⟨?_,?_⟩,fun hk=>⟨?_,?_⟩,fun hk=>?_⟩
   ·rcases (hr.mv hk).1 with e | e
    ·exact .inl e
    ·by_cases e2:o.nd=o.id
     ·exact .inl e2
     ·exact .inr (hkn o ho' _ e (by have:=hf.ndi;omega))
   ·rcases (hr.mv hk).2 with e | e | e
    ·exact .inl e
    ·exact .inr (.inl e)
    ·exact .inr (.inr (hkn o ho' _ e (hf.mv hk).2.2.2))
   ·exact hkn o ho' _ (hr.ins hk).1 (by have:=hf.ndi;have:=hf.ndm;omega)
   ·exact (hr.ins hk).2.imp id fun e=>hlt o ho' _ _ e (hf.ins hk).2
   ·exact hkn o ho' _ (hr.del hk).1 (by have:=hf.ndi;have:=hf.ndm;omega)
   ·exact hlt o ho' _ _ (hr.del hk).2 (hf.del hk).2
   ·exact hkn o ho' _ (hr.set hk) (by have:=hf.ndi;have:=hf.ndm;omega)
 ·rcases List.mem_append.1 ho with ho' | ho'
  ·obtain ⟨p,hp,r⟩:=hL.low o ho' h1
   exact ⟨p,hinL p hp,r⟩
  ·obtain ⟨p,hp,r1,r2,r3⟩:=h.low o (hsub o ho) h1
   exact ⟨p,hdown o ho' p hp r3,r1,r2,r3⟩
def cntB (D:List OpT) (b:Int):Nat:=D.countP fun o=>decide (o.b=b)
theorem cntB_app (D E:List OpT) (b:Int):cntB (D++E) b=cntB D b+cntB E b:=by unfold cntB;exact List.countP_append
theorem ints_len_ge:∀ (m:Nat) (S:List Int),(∀ k:Int,1≤k→k≤m→k∈S)→m≤S.length
 | 0,_,_=>Nat.zero_le _
 | m+1,S,h=>by
  have h1:((m+1:Nat):Int)∈S:=h _ (by omega) (by omega)
  have:=ints_len_ge m (S.erase ((m+1:Nat):Int)) fun k hk1 hk2=>(List.mem_erase_of_ne (by omega)).2 (h k hk1 (by omega))
  rw [List.length_erase_of_mem h1] at this
  have:=List.length_pos_of_mem h1
  omega
theorem ints_len_le:∀ (m:Nat) (S:List Int),S.Nodup→(∀ k∈S,1≤k∧k≤m)→S.length≤m
 | 0,S,_,h=>by
  cases S with
  | nil=>simp
  | cons a S=>have:=h a (by simp);omega
 | m+1,S,hn,h=>by
  have:=ints_len_le m (S.erase ((m+1:Nat):Int)) (hn.erase _) fun k hk=>by
   have h1:=h k (List.mem_of_mem_erase hk)
   have h2:k≠((m+1:Nat):Int):=fun e=>by
    subst e
    exact (hn.not_mem_erase) hk
   omega
  by_cases h1:((m+1:Nat):Int)∈S
  ·rw [List.length_erase_of_mem h1] at this
   omega
  ·rw [List.erase_of_not_mem h1] at this
   omega
theorem ints_are {S:List Int} (hn:S.Nodup) (h1:∀ k∈S,1≤k) (hd:∀ k∈S,1 < k→k - 1∈S) (k:Int):k∈S↔1≤k∧k≤S.length:=by
 have down:∀ (d:Nat) (k:Int),k∈S→1≤k - d→k - d∈S:=by
  intro d
  induction d with
  | zero=>intro k hk _;simpa using hk
  | succ d ih=>
   intro k hk h
   have:=ih k hk (by omega)
   have:=hd _ this (by omega)
   rwa [show k - ((d+1:Nat):Int)=k - d - 1 by omega]
 have up:∀ k,k∈S→k≤S.length:=fun k hk=>by
  have:=ints_len_ge k.toNat S fun j hj1 hj2=>by
   have h:=h1 k hk
   have:=down (k - j).toNat k hk (by omega)
   rwa [show k - ((k - j).toNat:Int)=j by omega] at this
  have h:=h1 k hk
  omega
 refine ⟨fun hk=>⟨h1 k hk,up k hk⟩,fun ⟨hk1,hk2⟩=>?_⟩
 refine Classical.byContradiction fun hno=>?_
 have hlt:∀ j∈S,1≤j∧j≤((k - 1).toNat:Int):=fun j hj=>by
  refine ⟨h1 j hj,?_⟩
  rcases Int.lt_or_le j k with hl | hl
  ·omega
  ·have:=down (j - k).toNat j hj (by omega)
   rw [show j - ((j - k).toNat:Int)=k by omega] at this
   exact absurd this hno
 have:=ints_len_le _ S hn hlt
 omega
theorem pairwise_of_nodup {D:List OpT} (hn:D.Nodup) (R:OpT→OpT→Prop) (h:∀ o∈D,∀ p∈D,o≠p→R o p):D.Pairwise R:=
 (List.Pairwise.and_mem.1 hn).imp fun {a b} ⟨ha,hb,hne⟩=>h a ha b hb hne
def numsB (D:List OpT) (b:Int):List Int:=(D.filter fun o=>decide (o.b=b)).map (·.n)
theorem numsB_len (D:List OpT) (b:Int):(numsB D b).length=cntB D b:=by unfold numsB cntB;rw [List.length_map,List.countP_eq_length_filter]
theorem mem_numsB {D:List OpT} {b k:Int}:k∈numsB D b↔∃ o,o∈D∧o.b=b∧o.n=k:=by
 unfold numsB
 rw [List.mem_map]
 constructor
 ·rintro ⟨o,ho,r⟩
  rw [List.mem_filter] at ho
  exact ⟨o,ho.1,by simpa using ho.2,r⟩
 ·rintro ⟨o,ho,h1,h2⟩
  exact ⟨o,List.mem_filter.2 ⟨ho,by simpa using h1⟩,h2⟩
theorem numsB_nodup {D:List OpT} (hn:D.Nodup) (hu:∀ o∈D,∀ p∈D,o.b=p.b→o.n=p.n→o=p) (b:Int):(numsB D b).Nodup:=by
 unfold numsB
 refine List.pairwise_map.2 (pairwise_of_nodup (hn.filter _) _ fun o ho p hp hne e=>hne ?_)
 rw [List.mem_filter] at ho hp
 exact hu o ho.1 p hp.1 (by have:=ho.2;have:=hp.2;simp at *;omega) e
theorem nums_are {D:List OpT} (h:DOk D) (b k:Int):(∃ o,o∈D∧o.b=b∧o.n=k)↔1≤k∧k≤cntB D b:=by
 rw [←mem_numsB,←numsB_len]
 refine ints_are (numsB_nodup h.nod h.num b) (fun k hk=>?_) (fun k hk h1=>?_) k
 ·obtain ⟨o,ho,_,rfl⟩:=mem_numsB.1 hk
  exact (h.fine ho).n1
 ·obtain ⟨o,ho,hb,rfl⟩:=mem_numsB.1 hk
  obtain ⟨p,hp,h2,h3,_⟩:=h.low o ho h1
  exact mem_numsB.2 ⟨p,hp,by omega,h3⟩
theorem own_lt {D:List OpT} (hnum:∀ o∈D,∀ p∈D,o.b=p.b→o.n=p.n→o=p) (hlow:∀ o∈D,1 < o.n→∃ p,p∈D∧p.b=o.b∧p.n=o.n - 1∧opLt p o=true) (h1:∀ o∈D,1≤o.n) :
  ∀ (d:Nat) (o p:OpT),o∈D→p∈D→o.b=p.b→p.n=o.n+d+1→opLt o p=true
 | 0,o,p,ho,hp,hb,hn=>by
  have:=h1 o ho
  obtain ⟨q,hq,hqb,hqn,hl⟩:=hlow p hp (by omega)
  rwa [hnum o ho q hq (by omega) (by omega)]
 | d+1,o,p,ho,hp,hb,hn=>by
  have:=h1 o ho
  obtain ⟨q,hq,hqb,hqn,hl⟩:=hlow p hp (by omega)
  exact opLt_tr (own_lt hnum hlow h1 d o q ho hq (by omega) (by omega)) hl
theorem one_of_own {D:List OpT} (hnum:∀ o∈D,∀ p∈D,o.b=p.b→o.n=p.n→o=p) (hlow:∀ o∈D,1 < o.n→∃ p,p∈D∧p.b=o.b∧p.n=o.n - 1∧opLt p o=true) (h1:∀ o∈D,1≤o.n) {o p:OpT} (ho:o∈D) (hp:p∈D) (hs:SameS o p):o=p:=by
 rcases Int.lt_trichotomy o.n p.n with h | h | h
 ·exact absurd hs (opLt_irr (own_lt hnum hlow h1 (p.n - o.n - 1).toNat o p ho hp hs.2 (by omega)))
 ·exact hnum o ho p hp hs.2 h
 ·exact absurd ⟨hs.1.symm,hs.2.symm⟩ (opLt_irr (own_lt hnum hlow h1 (o.n - p.n - 1).toNat p o hp ho hs.2.symm (by omega)))
theorem sortOps_perm (L:List OpT):(sortOps L).Perm L:=sortL_perm swo_opLt L
theorem sortOps_mem {L:List OpT} {o:OpT}:o∈sortOps L↔o∈L:=(sortOps_perm L).mem_iff
theorem rising_sort {L:List OpT} (hn:L.Pairwise fun o p=>¬ SameS o p):Rising (sortOps L):=by
 suffices h:∀ M:List OpT,(∃ B,L=M.reverse++B)→Rising (sortOps M.reverse) by
  have:=h L.reverse ⟨[],by simp⟩
  simpa using this
 intro M
 induction M with
 | nil=>intro _;exact List.Pairwise.nil
 | cons o M ih=>
  rintro ⟨B,hB⟩
  rw [List.reverse_cons,sortOps_snoc]
  refine (ih ⟨o :: B,by rw [hB];simp⟩).laid ?_
  rintro ⟨y,hy,hs⟩
  rw [sortOps_mem] at hy
  rw [hB,List.reverse_cons] at hn
  have:=(List.pairwise_append.1 (List.pairwise_append.1 hn).1).2.2 y hy o (by simp)
  exact this hs
theorem DOk.rising {D:List OpT} (h:DOk D):Rising (sortOps D):=rising_sort (pairwise_of_nodup h.nod _ fun o ho p hp hne hs=>hne (h.one o ho p hp hs))
theorem DOk.sorted {D:List OpT} (h:DOk D):DOk (sortOps D):=h.of_mem ((sortOps_perm D).nodup_iff.2 h.nod) fun o=>sortOps_mem
theorem DOk.perm {D D':List OpT} (h:DOk D) (hp:D'.Perm D):DOk D':=h.of_mem (hp.nodup_iff.2 h.nod) fun o=>hp.mem_iff
theorem sort_eq {D D':List OpT} (h:DOk D) (h':DOk D') (he:∀ o,o∈D↔o∈D'):sortOps D=sortOps D':=
 h.rising.eq h'.rising ((sortOps_perm D).trans (((List.perm_ext_iff_of_nodup h.nod h'.nod).2 he).trans (sortOps_perm D').symm))
theorem Rising.nodup {L:List OpT} (h:Rising L):L.Nodup:=h.imp fun {a b} hab e=>by subst e;exact opLt_irr hab ⟨rfl,rfl⟩
theorem sort_self {D:List OpT} (h:Rising D):sortOps D=D:=(rising_sort (h.imp fun hab=>opLt_irr hab)).eq h (sortOps_perm D)
open Classical in
noncomputable def freshG (L:List OpT):List OpT→Nat→List OpT→(Nat×Int) ⊕ List OpT
 | F,i,[]=>.inr F
 | F,i,o :: l=>if opErr o≠0 then .inl (opErr o,i) else match findOwn (L++F) o.b o.n with
  | some p=>if p=o then freshG L F (i+1) l else .inl (7,i)
  | none=>freshG L (F++[o]) (i+1) l
def gapP (L F:List OpT):Bool:=F.any fun o=>decide (((cntB L o.b+cntB F o.b:Nat):Int) < o.n)
def fallB (K:List OpT) (o:OpT):Bool:=match findOwn K o.b (o.n - 1) with | some p=>!opLt p o | none=>false
def fallsP (L F:List OpT):Bool:=F.any (fallB (L++F))
def refB (P:List OpT) (o:OpT):Bool:=
 if o.k=109 then (nodeB P o.nd || o.nd == o.id) && (o.ot == 0 || o.ot == 1 || nodeB P o.ot)
 else if o.k=105 then nodeB P o.nd && (o.ot == 0 || lettB P o.nd o.ot)
 else if o.k=100 then nodeB P o.nd && lettB P o.nd o.ot
 else nodeB P o.nd
def refersP:List OpT→List OpT→Bool
 | _,[]=>true
 | P,o :: l=>refB P o && refersP (P++[o]) l
noncomputable def joinP (L l:List OpT):(Nat×Int) ⊕ List OpT:=
 match freshG L [] 0 l with
 | .inl e=>.inl e
 | .inr F=>if gapP L F=true then .inl (9,-1) else if fallsP L F=true then .inl (3,-1) else if refersP [] (sortOps (L++sortOps F))=false then .inl (6,-1) else if 400 < L.length+F.length then .inl (8,-1) else .inr (sortOps F)
structure Fresh (L l F:List OpT):Prop where
 sub:∀ o∈F,o∈l
 er:∀ o∈F,opErr o=0
 nod:F.Pairwise fun o p=>¬ (o.b=p.b∧o.n=p.n)
 new:∀ o∈L,∀ p∈F,¬ (o.b=p.b∧o.n=p.n)
 all:∀ o∈l,o∈L∨o∈F
theorem freshG_spec (L:List OpT):∀ (l F:List OpT) (i:Nat) (R:List OpT),freshG L F i l=.inr R→(∀ o∈F,opErr o=0)→(F.Pairwise fun o p=>¬ (o.b=p.b∧o.n=p.n))→(∀ o∈L,∀ p∈F,¬ (o.b=p.b∧o.n=p.n))→
  (∀ o∈F,o∈R)∧(∀ o∈R,o∈F∨o∈l)∧(∀ o∈R,opErr o=0)∧(R.Pairwise fun o p=>¬ (o.b=p.b∧o.n=p.n))∧(∀ o∈L,∀ p∈R,¬ (o.b=p.b∧o.n=p.n))∧∀ o∈l,o∈L∨o∈R
 | [],F,i,R,h,h1,h2,h3=>by
  have h:=Sum.inr.inj h
  subst h
  exact ⟨fun _ h=>h,fun _ h=>.inl h,h1,h2,h3,by simp⟩
 | o :: l,F,i,R,h,h1,h2,h3=>by
  unfold freshG at h
  by_cases he:opErr o≠0
  ·rw [if_pos he] at h;cases h
  ·rw [if_neg he] at h
   cases hf:findOwn (L++F) o.b o.n with
   | some p=>
    rw [hf] at h
    simp only at h
    by_cases hp:p=o
    ·rw [if_pos hp] at h
     obtain ⟨q1,q2,q3,q4,q5,q6⟩:=freshG_spec L l F (i+1) R h h1 h2 h3
     refine ⟨q1,fun x hx=>(q2 x hx).imp id (List.mem_cons_of_mem _),q3,q4,q5,fun x hx=>?_⟩
     rcases List.mem_cons.1 hx with rfl | hx
     ·have:=(findOwn_some hf).1
      rw [hp] at this
      exact (List.mem_append.1 this).imp id (q1 x)
     ·exact q6 x hx
    ·rw [if_neg hp] at h;cases h
   | none=>
    rw [hf] at h
    simp only at h
    have hno:=findOwn_none hf
    obtain ⟨q1,q2,q3,q4,q5,q6⟩:=freshG_spec L l (F++[o]) (i+1) R h (fun x hx=>by
      rcases List.mem_append.1 hx with hx | hx
      ·exact h1 x hx
      ·rw [List.mem_singleton.1 hx];omega) (List.pairwise_append.2 ⟨h2,by simp,fun a ha b hb=>by rw [List.mem_singleton.1 hb];exact hno a (List.mem_append.2 (.inr ha))⟩) (fun x hx p hp=>by
      rcases List.mem_append.1 hp with hp | hp
      ·exact h3 x hx p hp
      ·rw [List.mem_singleton.1 hp];exact hno x (List.mem_append.2 (.inl hx)))
    refine ⟨fun x hx=>q1 x (List.mem_append.2 (.inl hx)),fun x hx=>?_,q3,q4,q5,fun x hx=>?_⟩
    ·rcases q2 x hx with h | h
     ·rcases List.mem_append.1 h with h | h
      ·exact .inl h
      ·rw [List.mem_singleton.1 h];exact .inr (by simp)
     ·exact .inr (List.mem_cons_of_mem _ h)
    ·rcases List.mem_cons.1 hx with rfl | hx
     ·exact .inr (q1 x (by simp))
     ·exact q6 x hx
theorem fresh_of {L l F:List OpT} (h:freshG L [] 0 l=.inr F):Fresh L l F:=by
 obtain ⟨_,q2,q3,q4,q5,q6⟩:=freshG_spec L l [] 0 F h (by simp) (by simp) (by simp)
 exact ⟨fun o ho=>(q2 o ho).resolve_left (by simp),q3,q4,q5,q6⟩
theorem nodeB_iff {P:List OpT} {nd:Int}:nodeB P nd=true↔∃ o,o∈P∧o.k=109∧o.nd=nd:=by
 unfold nodeB;rw [List.any_eq_true];simp
theorem lettB_iff {P:List OpT} {nd x:Int}:lettB P nd x=true↔HasLet P nd x:=by
 unfold lettB;rw [List.any_eq_true]
 exact ⟨fun ⟨o,ho,h⟩=>⟨o,ho,insB_iff.1 h⟩,fun ⟨o,ho,h⟩=>⟨o,ho,insB_iff.2 h⟩⟩
theorem refersP_ok:∀ (l P:List OpT),(∀ o∈P++l,o.k=109∨o.k=105∨o.k=100∨o.k=115)→(∀ nd,nodeB P nd=true→Known P nd)→(∀ o∈P,RefOk P o)→refersP P l=true→∀ o∈P++l,RefOk (P++l) o
 | [],P,_,_,h,_=>by simpa using h
 | o :: l,P,hk,hn,h,hr=>by
  unfold refersP at hr
  rw [Bool.and_eq_true] at hr
  have hR:RefOk P o:=by
   have h1:=hr.1
   unfold refB at h1
   have kk:o.k=109∨o.k=105∨o.k=100∨o.k=115:=hk o (by simp)
   refine ⟨fun e=>?_,fun e=>?_,fun e=>?_,fun e=>?_⟩
   ·rw [if_pos e] at h1
    simp only [Bool.and_eq_true,Bool.or_eq_true,beq_iff_eq] at h1
    exact ⟨h1.1.symm.imp id (hn _),h1.2.elim (fun h=>h.elim .inl (fun h=>.inr (.inl h))) (fun h=>.inr (.inr (hn _ h)))⟩
   ·rw [if_neg (by omega),if_pos e] at h1
    simp only [Bool.and_eq_true,Bool.or_eq_true,beq_iff_eq] at h1
    exact ⟨hn _ h1.1,h1.2.imp id lettB_iff.1⟩
   ·rw [if_neg (by omega),if_neg (by omega),if_pos e] at h1
    simp only [Bool.and_eq_true] at h1
    exact ⟨hn _ h1.1,lettB_iff.1 h1.2⟩
   ·rw [if_neg (by omega),if_neg (by omega),if_neg (by omega)] at h1
    exact hn _ h1
  have hsub:∀ p∈P,p∈P++[o]:=fun p hp=>List.mem_append.2 (.inl hp)
  have:=refersP_ok l (P++[o]) (by simpa using hk) (fun nd hnd=>by
   obtain ⟨p,hp,h1,h2⟩:=nodeB_iff.1 hnd
   rcases List.mem_append.1 hp with hp | hp
   ·exact (hn nd (nodeB_iff.2 ⟨p,hp,h1,h2⟩)).mono hsub
   ·rw [List.mem_singleton.1 hp] at h1 h2
    rcases (hR.mv h1).1 with e | e
    ·exact ⟨o,by simp,h1,h2,by omega⟩
    ·rw [h2] at e;exact e.mono hsub) (fun p hp=>by
   rcases List.mem_append.1 hp with hp | hp
   ·exact (h p hp).mono hsub
   ·rw [List.mem_singleton.1 hp];exact hR.mono hsub) hr.2
  simpa using this
theorem refers_ok {M:List OpT} (hk:∀ o∈M,o.k=109∨o.k=105∨o.k=100∨o.k=115) (h:refersP [] M=true):∀ o∈M,RefOk M o:=by
 have:=refersP_ok M [] (by simpa using hk) (fun nd h=>by obtain ⟨o,ho,_⟩:=nodeB_iff.1 h;simp at ho) (by simp) h
 simpa using this
theorem refers_all {M:List OpT} (hf:∀ o∈M,OpFine o) (hup:Rising M) (h:∀ o∈M,RefOk M o):refersP [] M=true:=by
 suffices hs:∀ (l P:List OpT),P++l=M→refersP P l=true from hs M [] rfl
 intro l
 induction l with
 | nil=>intro P _;rfl
 | cons o l ih=>
  intro P hP
  unfold refersP
  rw [ih (P++[o]) (by rw [←hP];simp),Bool.and_true]
  have ho:o∈M:=by rw [←hP];simp
  have hfo:=hf o ho
  have hR:=h o ho
  have hin:∀ p∈M,p.id < o.id→p∈P:=fun p hp hlt=>by
   rw [←hP] at hp hup
   rcases List.mem_append.1 hp with hp | hp
   ·exact hp
   ·have h2:=(List.pairwise_append.1 hup).2.1
    rcases List.mem_cons.1 hp with rfl | hp
    ·omega
    ·have:=(List.pairwise_cons.1 h2).1 p hp
     have h3:=(lt_of_id hfo (hf p (by rw [←hP];simp [hp]))).1 this
     omega
  have hK:∀ nd,Known M nd→nd < o.id→nodeB P nd=true:=fun nd ⟨p,hp,h1,h2,h3⟩ hlt=>nodeB_iff.2 ⟨p,hin p hp (by omega),h1,h2⟩
  have hL:∀ nd x,HasLet M nd x→x < o.id→lettB P nd x=true:=fun nd x ⟨p,hp,h1,h2,h3⟩ hlt=>lettB_iff.2 ⟨p,hin p hp (by omega),h1,h2,h3⟩
  unfold refB
  have hi:=hfo.ndi
  rcases hfo.k with e | e | e | e
  ·rw [if_pos e]
   simp only [Bool.and_eq_true,Bool.or_eq_true,beq_iff_eq]
   refine ⟨?_,?_⟩
   ·by_cases e2:o.nd=o.id
    ·exact .inr e2
    ·rcases (hR.mv e).1 with e3 | e3
     ·exact .inr e3
     ·exact .inl (hK _ e3 (by omega))
   ·rcases (hR.mv e).2 with e3 | e3 | e3
    ·exact .inl (.inl e3)
    ·exact .inl (.inr e3)
    ·exact .inr (hK _ e3 (hfo.mv e).2.2.2)
  ·rw [if_neg (by omega),if_pos e]
   simp only [Bool.and_eq_true,Bool.or_eq_true,beq_iff_eq]
   exact ⟨hK _ (hR.ins e).1 (by have:=hfo.ndm;omega),(hR.ins e).2.imp id fun h=>hL _ _ h (hfo.ins e).2⟩
  ·rw [if_neg (by omega),if_neg (by omega),if_pos e]
   simp only [Bool.and_eq_true]
   exact ⟨hK _ (hR.del e).1 (by have:=hfo.ndm;omega),hL _ _ (hR.del e).2 (hfo.del e).2⟩
  ·rw [if_neg (by omega),if_neg (by omega),if_neg (by omega)]
   exact hK _ (hR.set e) (by have:=hfo.ndm;omega)
theorem fallB_no {K:List OpT} {o:OpT} (h:fallB K o=false) {p:OpT} (hp:findOwn K o.b (o.n - 1)=some p):opLt p o=true:=by
 unfold fallB at h;rw [hp] at h;simpa using h
theorem join_ok {L l G:List OpT} (hL:DOk L) (hup:Rising L) (hw:∀ o∈l,o.Wf) (h:joinP L l=.inr G):DOk (L++G)∧Rising G∧L.length+G.length≤400∧(∀ o∈G,o∈l)∧(∀ o∈l,o∈L∨o∈G):=by
 unfold joinP at h
 cases hf:freshG L [] 0 l with
 | inl e=>rw [hf] at h;cases h
 | inr F=>
  rw [hf] at h
  simp only at h
  by_cases h1:gapP L F=true
  ·rw [if_pos h1] at h;cases h
  rw [if_neg h1] at h
  by_cases h2:fallsP L F=true
  ·rw [if_pos h2] at h;cases h
  rw [if_neg h2] at h
  by_cases h3:refersP [] (sortOps (L++sortOps F))=false
  ·rw [if_pos h3] at h;cases h
  rw [if_neg h3] at h
  by_cases h4:400 < L.length+F.length
  ·rw [if_pos h4] at h;cases h
  rw [if_neg h4] at h
  have h:=Sum.inr.inj h
  subst h
  have hF:=fresh_of hf
  have hnd:(L++F).Nodup:=by
   refine List.pairwise_append.2 ⟨hL.nod,hF.nod.imp fun hh e=>hh (by subst e;exact ⟨rfl,rfl⟩),fun a ha b hb e=>?_⟩
   subst e
   exact hF.new a ha a hb ⟨rfl,rfl⟩
  have hnum:∀ o∈L++F,∀ p∈L++F,o.b=p.b→o.n=p.n→o=p:=fun o ho p hp hb hn=>by
   rcases List.mem_append.1 ho with ho | ho <;> rcases List.mem_append.1 hp with hp | hp
   ·exact hL.num o ho p hp hb hn
   ·exact absurd ⟨hb,hn⟩ (hF.new o ho p hp)
   ·exact absurd ⟨hb.symm,hn.symm⟩ (hF.new p hp o ho)
   ·refine Classical.byContradiction fun hne=>?_
    obtain ⟨i,hi,rfl⟩:=List.getElem_of_mem ho
    obtain ⟨j,hj,rfl⟩:=List.getElem_of_mem hp
    have hpw:=List.pairwise_iff_getElem.1 hF.nod
    rcases Nat.lt_trichotomy i j with hij | hij | hij
    ·exact hpw i j hi hj hij ⟨hb,hn⟩
    ·subst hij;exact hne rfl
    ·exact hpw j i hj hi hij ⟨hb.symm,hn.symm⟩
  have her:∀ o∈L++F,opErr o=0:=fun o ho=>(List.mem_append.1 ho).elim (hL.er o) (hF.er o)
  have hfi:∀ o∈L++F,OpFine o:=fun o ho=>fine_of (her o ho)
  have hn1:∀ o∈L++F,1≤o.n:=fun o ho=>(hfi o ho).n1
  have hcount:∀ b k:Int,1≤k→k≤cntB (L++F) b→∃ o,o∈L++F∧o.b=b∧o.n=k:=fun b k hk1 hk2=>by
   have hle:∀ x∈numsB (L++F) b,1≤x∧x≤((cntB (L++F) b:Nat):Int):=fun x hx=>by
    obtain ⟨o,ho,hb,rfl⟩:=mem_numsB.1 hx
    refine ⟨hn1 o ho,?_⟩
    rw [cntB_app]
    rcases List.mem_append.1 ho with ho | ho
    ·have:=((nums_are hL b o.n).1 ⟨o,ho,hb,rfl⟩).2
     omega
    ·have:gapP L F=false:=by simpa using h1
     unfold gapP at this
     rw [List.any_eq_false] at this
     have:=this o ho
     rw [hb] at this
     simpa using this
   refine mem_numsB.1 (Classical.byContradiction fun hno=>?_)
   have hnd2:=numsB_nodup hnd hnum b
   have hlen:(numsB (L++F) b).length=cntB (L++F) b:=numsB_len _ _
   have:((k :: numsB (L++F) b)).length≤cntB (L++F) b:=ints_len_le _ _ (List.nodup_cons.2 ⟨hno,hnd2⟩) fun x hx=>by
    rcases List.mem_cons.1 hx with rfl | hx
    ·exact ⟨hk1,hk2⟩
    ·exact hle x hx
   rw [List.length_cons] at this
   omega
  have hlow:∀ o∈L++F,1 < o.n→∃ p,p∈L++F∧p.b=o.b∧p.n=o.n - 1∧opLt p o=true:=fun o ho ho1=>by
   rcases List.mem_append.1 ho with ho' | ho'
   ·obtain ⟨p,hp,r⟩:=hL.low o ho' ho1
    exact ⟨p,List.mem_append.2 (.inl hp),r⟩
   ·have hg:gapP L F=false:=by simpa using h1
    unfold gapP at hg
    rw [List.any_eq_false] at hg
    have hg:=hg o ho'
    simp at hg
    obtain ⟨p,hp,hpb,hpn⟩:=hcount o.b (o.n - 1) (by omega) (by rw [cntB_app];omega)
    refine ⟨p,hp,hpb,hpn,?_⟩
    have hfl:fallsP L F=false:=by simpa using h2
    unfold fallsP at hfl
    rw [List.any_eq_false] at hfl
    have hfl:=hfl o ho'
    refine fallB_no (by simpa using hfl) ?_
    rw [←hpb,←hpn]
    exact findOwn_is hnum hp
  have hone:∀ o∈L++F,∀ p∈L++F,SameS o p→o=p:=fun o ho p hp hs=>one_of_own hnum hlow hn1 ho hp hs
  have hFup:Rising (sortOps F):=rising_sort (hF.nod.imp_of_mem fun {a b} ha hb hab hs=>by
   have:=hone a (List.mem_append.2 (.inr ha)) b (List.mem_append.2 (.inr hb)) hs
   subst this
   exact hab ⟨rfl,rfl⟩)
  have hpm:(L++sortOps F).Perm (L++F):=List.Perm.append_left L (sortOps_perm F)
  have hpm2:(sortOps (L++sortOps F)).Perm (L++F):=(sortOps_perm _).trans hpm
  have hrefs:∀ o∈L++F,RefOk (L++F) o:=fun o ho=>by
   have:=refers_ok (M:=sortOps (L++sortOps F)) (fun o ho=>(hfi o (hpm2.mem_iff.1 ho)).k) (by simpa using h3) o (hpm2.mem_iff.2 ho)
   exact this.mono fun p hp=>hpm2.mem_iff.1 hp
  have hD:DOk (L++F):=⟨fun o ho=>(List.mem_append.1 ho).elim (hL.wf o) (fun h=>hw o (hF.sub o h)),her,hone,hnd,hrefs,hnum,hlow⟩
  refine ⟨hD.perm hpm,hFup,?_,fun o ho=>hF.sub o (sortOps_mem.1 ho),fun o ho=>(hF.all o ho).imp id sortOps_mem.2⟩
  rw [(sortOps_perm F).length_eq]
  omega
theorem join_all {L l:List OpT} (hL:DOk L) (D:List OpT) (hD:DOk D) (hm:∀ o,o∈D↔o∈L∨o∈l) (hlen:D.length≤400):∃ G,joinP L l=.inr G∧∀ o,o∈L++G↔o∈D:=by
 have hfr:∀ (l2 F:List OpT) (i:Nat),(∀ o∈l2,o∈l)→(∀ o∈F,o∈D)→∃ R,freshG L F i l2=.inr R:=by
  intro l2
  induction l2 with
  | nil=>intro F i _ _;exact ⟨F,rfl⟩
  | cons o l2 ih=>
   intro F i h1 h2
   have hoD:o∈D:=(hm o).2 (.inr (h1 o (by simp)))
   unfold freshG
   rw [if_neg (by rw [hD.er o hoD];simp)]
   cases hf:findOwn (L++F) o.b o.n with
   | some p=>
    simp only
    obtain ⟨hp,hb,hn⟩:=findOwn_some hf
    have hpD:p∈D:=(List.mem_append.1 hp).elim (fun h=>(hm p).2 (.inl h)) (h2 p)
    rw [if_pos (hD.num p hpD o hoD hb hn)]
    exact ih F (i+1) (fun x hx=>h1 x (by simp [hx])) h2
   | none=>
    simp only
    exact ih (F++[o]) (i+1) (fun x hx=>h1 x (by simp [hx])) (fun x hx=>(List.mem_append.1 hx).elim (h2 x) (fun h=>by rw [List.mem_singleton.1 h];exact hoD))
 obtain ⟨F,hF0⟩:=hfr l [] 0 (fun _ h=>h) (by simp)
 have hF:=fresh_of hF0
 have hnd:(L++F).Nodup:=by
  refine List.pairwise_append.2 ⟨hL.nod,hF.nod.imp fun hh e=>hh (by subst e;exact ⟨rfl,rfl⟩),fun a ha b hb e=>?_⟩
  subst e
  exact hF.new a ha a hb ⟨rfl,rfl⟩
 have hmem:∀ o,o∈L++F↔o∈D:=fun o=>by
  rw [hm,List.mem_append]
  constructor
  ·exact fun h=>h.imp id (hF.sub o)
  ·rintro (h | h)
   ·exact .inl h
   ·exact hF.all o h
 have hLF:DOk (L++F):=hD.of_mem hnd hmem
 have hpm:(L++F).Perm D:=(List.perm_ext_iff_of_nodup hnd hD.nod).2 hmem
 have hpm1:(L++sortOps F).Perm (L++F):=List.Perm.append_left L (sortOps_perm F)
 have hgap:gapP L F=false:=by
  unfold gapP
  rw [List.any_eq_false]
  intro o ho
  have:=((nums_are hLF o.b o.n).1 ⟨o,List.mem_append.2 (.inr ho),rfl,rfl⟩).2
  rw [cntB_app] at this
  simpa using this
 have hfalls:fallsP L F=false:=by
  unfold fallsP
  rw [List.any_eq_false]
  intro o ho
  unfold fallB
  cases hf:findOwn (L++F) o.b (o.n - 1) with
  | none=>simp
  | some p=>
   obtain ⟨hp,hb,hn⟩:=findOwn_some hf
   have hn1:=(hLF.fine hp).n1
   obtain ⟨q,hq,hqb,hqn,hl⟩:=hLF.low o (List.mem_append.2 (.inr ho)) (by omega)
   rw [hLF.num p hp q hq (by omega) (by omega)]
   simp [hl]
 have hs:DOk (sortOps (L++sortOps F)):=(hLF.perm hpm1).sorted
 have href:refersP [] (sortOps (L++sortOps F))=true:=refers_all (fun o ho=>hs.fine ho) (hLF.perm hpm1).rising hs.refs
 refine ⟨sortOps F,?_,fun o=>by rw [hpm1.mem_iff];exact hmem o⟩
 unfold joinP
 rw [hF0]
 have hl:L.length+F.length≤400:=by rw [←List.length_append,hpm.length_eq];exact hlen
 simp [hgap,hfalls,href]
 omega
end Go.Proofs.YtjekalilfhnpmaaGreatDoor
namespace Go.Proofs.YtjekalilfhnpmaaGreatDoor
open Go Go.RowKit Go.Maps Go.Shelf
set_option linter.unusedVariables false
set_option linter.unusedSimpArgs false
set_option maxHeartbeats 4000000
set_option maxRecDepth 100000
theorem below_set {b:Nat} {w w':World} (h:Below b w w') {p:Addr} (hp:b≤p.block) (v:Value):Below b w (w'.setCell p v):=
 ⟨h.os,h.tape,h.output,by simpa [World.setCell] using h.size,fun k hk=>(Below.heap_setCell _ _ _ _ (by omega)).trans (h.block k hk)⟩
structure FourN (B:Nat) (f:Int→Int) (w:World):Prop where
 c0:w.cell? ⟨B,0,none⟩=some (.int .i64 (f 0))
 c1:w.cell? ⟨B,1,none⟩=some (.int .i64 (f 1))
 c2:w.cell? ⟨B,2,none⟩=some (.int .i64 (f 2))
 c3:w.cell? ⟨B,3,none⟩=some (.int .i64 (f 3))
 fz:∀ j,w.frozen? ⟨B,j,none⟩=false
theorem FourN.lt {B:Nat} {f:Int→Int} {w:World} (h:FourN B f w):B < w.heap.size:=World.block_lt_of_cell? w _ h.c0
theorem FourN.below {B:Nat} {f:Int→Int} {w w':World} (h:FourN B f w) (hb:Below w.heap.size w w'):FourN B f w':=
 ⟨(hb.cell h.lt).trans h.c0,(hb.cell h.lt).trans h.c1,(hb.cell h.lt).trans h.c2,(hb.cell h.lt).trans h.c3,fun j=>(hb.frozen (p:=⟨B,j,none⟩) h.lt).trans (h.fz j)⟩
theorem FourN.set {B:Nat} {f:Int→Int} {w:World} (h:FourN B f w) (a:Nat) (ha:a < 4) (v:Int):FourN B (fun x=>if x=a then v else f x) (w.setCell ⟨B,a,none⟩ (.int .i64 v)):=by
 have gs:∀ {j:Nat} {u:Value},j≠a→w.cell? ⟨B,j,none⟩=some u→(w.setCell ⟨B,a,none⟩ (.int .i64 v)).cell? ⟨B,j,none⟩=some u:=fun {j u} hj hc=>by
  rw [World.cell?_setCell_other _ _ _ _ (by intro e;cases e;exact hj rfl)];exact hc
 have hs:∀ {u:Value},w.cell? ⟨B,a,none⟩=some u→(w.setCell ⟨B,a,none⟩ (.int .i64 v)).cell? ⟨B,a,none⟩=some (.int .i64 v):=fun hc=>World.cell?_setCell_same' _ _ _ (by rw [hc];rfl)
 have hm:a=0∨a=1∨a=2∨a=3:=by omega
 refine ⟨?_,?_,?_,?_,fun j=>by rw [World.frozen?_setCell];exact h.fz j⟩
 ·rcases hm with rfl | rfl | rfl | rfl
  ·exact hs h.c0
  ·exact gs (by omega) h.c0
  ·exact gs (by omega) h.c0
  ·exact gs (by omega) h.c0
 ·rcases hm with rfl | rfl | rfl | rfl
  ·exact gs (by omega) h.c1
  ·exact hs h.c1
  ·exact gs (by omega) h.c1
  ·exact gs (by omega) h.c1
 ·rcases hm with rfl | rfl | rfl | rfl
  ·exact gs (by omega) h.c2
  ·exact gs (by omega) h.c2
  ·exact hs h.c2
  ·exact gs (by omega) h.c2
 ·rcases hm with rfl | rfl | rfl | rfl
  ·exact gs (by omega) h.c3
  ·exact gs (by omega) h.c3
  ·exact gs (by omega) h.c3
  ·exact hs h.c3
theorem FourN.at' {B:Nat} {f:Int→Int} {w:World} (h:FourN B f w) (a:Nat) (ha:a < 4):w.cell? ⟨B,a,none⟩=some (.int .i64 (f a)):=by
 have hm:a=0∨a=1∨a=2∨a=3:=by omega
 rcases hm with rfl | rfl | rfl | rfl
 ·exact h.c0
 ·exact h.c1
 ·exact h.c2
 ·exact h.c3
theorem FourN.congr {B:Nat} {f g:Int→Int} {w:World} (h:FourN B f w) (e:∀ x,0≤x→x < 4→g x=f x):FourN B g w:=
 ⟨by rw [e 0 (by omega) (by omega)];exact h.c0,by rw [e 1 (by omega) (by omega)];exact h.c1,by rw [e 2 (by omega) (by omega)];exact h.c2,by rw [e 3 (by omega) (by omega)];exact h.c3,h.fz⟩
def manyF (v:Int→Nat) (G:List OpT) (i:Nat):Int→Int:=fun x=>(v x:Int)+cntB (G.take i) x
theorem manyF_succ {v:Int→Nat} {G:List OpT} {i:Nat} {o:OpT} (h:G[i]?=some o) (x:Int):manyF v G (i+1) x=if x=o.b then manyF v G i o.b+1 else manyF v G i x:=by
 unfold manyF
 obtain ⟨h1,h2⟩:=List.getElem?_eq_some_iff.1 h
 rw [←List.take_append_getElem h1,h2,cntB_app]
 have:cntB [o] x=if x=o.b then 1 else 0:=by
  unfold cntB
  by_cases e:x=o.b
  ·rw [if_pos e,e];simp
  ·rw [if_neg e]
   have:¬ o.b=x:=fun h=>e h.symm
   simp [this]
 rw [this]
 by_cases e:x=o.b
 ·rw [if_pos e,if_pos e,e];omega
 ·rw [if_neg e,if_neg e];omega
theorem manyF_rg {v:Int→Nat} {G:List OpT} {i:Nat} (x:Int) (hv:∀ x,v x≤100000) (hn:G.length≤100000):0≤manyF v G i x∧manyF v G i x≤200000:=by
 unfold manyF
 have h1:=hv x
 have:cntB (G.take i) x≤(G.take i).length:=by unfold cntB;exact List.countP_le_length
 rw [List.length_take] at this
 omega
def gapB (v:Int→Nat) (G:List OpT) (o:OpT):Bool:=decide (manyF v G G.length o.b < o.n)
def RisEnds (ea:Nat→Addr) (gap falls:Bool) (sl:Value) (w:World) (e:Ending) (w':World):Prop:=
 e=.returned (if gap then .tuple #[.slice none 0 0,errV (ea 9)] else if falls then .tuple #[.slice none 0 0,errV (ea 3)] else .tuple #[sl,.nilIface])∧Below w.heap.size w w'
theorem any_take_succ {T:Type} {G:List T} {p:T→Bool} {i:Nat} {o:T} (h:G[i]?=some o) (h0:(G.take i).any p=false) (ho:p o=false):(G.take (i+1)).any p=false:=by
 obtain ⟨h1,h2⟩:=List.getElem?_eq_some_iff.1 h
 rw [←List.take_append_getElem h1,h2,List.any_append,h0]
 simp [ho]
theorem any_at {T:Type} {G:List T} {p:T→Bool} {i:Nat} {o:T} (h:G[i]?=some o) (ho:p o=true):G.any p=true:=List.any_eq_true.2 ⟨o,List.mem_of_getElem? h,ho⟩
theorem zeroOp (w:World):(zeroValue 31).run Tryz.prog w=.ok (opV ⟨0,0,0,0,0,0,⟨#[]⟩,⟨#[]⟩⟩) w:=by kernel_rfl
theorem rising_any {F:Nat→Bool} (ea:Nat→Addr) (RB mb nb:Nat) (v:Int→Nat) (P G:List OpT) (A:Option Addr) (n c:Nat) (w:World) (hG:Gd F ea w) (f3:F 3=true) (f9:F 9=true)
  (q2:w.cell? ⟨RB,2,none⟩=some (.int .i64 (v 0))) (q3:w.cell? ⟨RB,3,none⟩=some (.int .i64 (v 1))) (q4:w.cell? ⟨RB,4,none⟩=some (.int .i64 (v 2))) (q5:w.cell? ⟨RB,5,none⟩=some (.int .i64 (v 3)))
  (hM:MO mb nb P w) (hs:SlV opE w (.slice A n c) G) (hv:∀ x,v x≤100000) (hn:G.length≤100000) (hf:∀ o∈G,OpFine o) :
  Calls Tryz.prog 110 #[.pointer (some ⟨RB,0,none⟩),.map (some mb),.slice A n c] w (RisEnds ea (G.any (gapB v G)) (G.any (fallB P)) (.slice A n c) w):=by
 have hl:=hs.len
 have HS:=κ13 hs
 have HN:=κ13 hl
 have HF:=κ13 hf
 have HV:=κ13 hv
 have HG:=κ13 hG
 have HM:=κ13 hM
 obtain ⟨gap,hgap⟩:∃ gap,G.any (gapB v G)=gap:=⟨_,rfl⟩
 obtain ⟨falls,hfalls⟩:∃ falls,G.any (fallB P)=falls:=⟨_,rfl⟩
 have HGap:=κ13 hgap
 have HFal:=κ13 hfalls
 rw [hgap,hfalls]
 rw [←hl] at hn
 have hRB:=World.block_lt_of_cell? w _ q2
 have hfour:FourN w.heap.size (manyF v G 0) (w.alloc (.cells #[.int .i64 (v 0),.int .i64 (v 1),.int .i64 (v 2),.int .i64 (v 3)] 48)):=by
  have e:∀ x,manyF v G 0 x=v x:=fun x=>by unfold manyF;simp [cntB]
  refine ⟨?_,?_,?_,?_,fun j=>by simp [go_sem]⟩ <;> rw [e] <;> simp [go_sem]
 have HFour:=κ13 hfour
 generalize v 0=v0 at q2 HFour
 generalize v 1=v1 at q3 HFour
 generalize v 2=v2 at q4 HFour
 generalize v 3=v3 at q5 HFour
 clear hs hl hf hv hG hM hgap hfalls hfour
 go_enter Tryz.func110,Tryz.ntmps110
 go_wp2_with fail
 go_loopw [23] (fun v23 wr=>∃ i:Nat,i≤n∧v23=.int .i64 i∧Hid (FourN w.heap.size (manyF v G i) wr)∧Hid (Below w.heap.size w wr)) (fun v23 _=>n - (intOf v23).toNat)
 case atStart=>exact ⟨0,by omega,rfl,HFour,κ13 ((Below.refl _ _).alloc (Nat.le_refl _) _)⟩
 case round=>
  obtain ⟨i,hi,rfl,HQ,HB⟩:=hrel
  by_cases hlt:i < n
  ·obtain ⟨x,hx⟩:∃ x,G[i]?=some x:=⟨_,List.getElem?_eq_getElem (by have:=HN.out;omega)⟩
   have hfx:=HF.out x (List.mem_of_getElem? hx)
   obtain ⟨bb,off,rfl,hbl,c0,c1,c2,c3,c4,c5,c6,c7⟩:=ops_at (HS.out.below HB.out) hx
   have i1:(0:Int)≤(i:Int):=by omega
   have i2:(i:Int) < (n:Int):=by omega
   obtain ⟨a,ha⟩:∃ a:Nat,x.b=a:=⟨x.b.toNat,by have:=hfx.b1;omega⟩
   have ha4:a < 4:=by have:=hfx.b2;omega
   have hrg:=manyF_rg (v:=v) (G:=G) (i:=i) (a:Int) HV.out (by have:=HN.out;omega)
   have HSx:=κ13 (manyF_succ (v:=v) hx)
   have hq:=HQ.out.at' a ha4
   have hqf:=HQ.out.fz a
   have hwl:=HQ.out.lt
   obtain ⟨m,hm⟩:∃ m,manyF v G i (a:Int)=m:=⟨_,rfl⟩
   rw [hm] at hq hrg
   have m1:m+1≤9223372036854775807:=by omega
   have m2:-9223372036854775808≤m+1:=by omega
   have HMx:=κ13 hm
   have HAx:=κ13 ha
   rw [ha] at c1
   clear hx hlt hbl hfx hm ha hrg
   have a0:(0:Int)≤(a:Int):=by omega
   have a4:(a:Int) < 4:=by omega
   go_wp2_with fail
   go_roundw
   case rel=>
    refine ⟨i+1,by omega,by go_num,κ13 ?_,κ13 ?_⟩
    ·refine (((HQ.out.set _ ha4 (m+1)).congr fun y _ _=>?_).below ((Below.refl _ _).alloc (Nat.le_refl _) _))
     rw [HSx.out y,HAx.out,HMx.out]
    ·exact (below_set HB.out (Nat.le_refl _) _).alloc (by have:=HB.out.size;simp;omega) _
   case measure=>simp [intOf] <;> omega
  ·have i2:¬ (i:Int) < (n:Int):=by omega
   obtain rfl:n=i:=by omega
   have HQ2:Hid (FourN w.heap.size (manyF v G G.length) wr):=κ13 (by have:=HQ.out;rw [HN.out] at this;exact this)
   clear HQ HFour q2 q3 q4 q5 i2
   obtain ⟨wa,hwa⟩:∃ wa,wa=wr:=⟨_,rfl⟩
   go_wp2_with fail
   go_loopw [37] (fun v37 wr=>∃ i:Nat,i≤n∧v37=.int .i64 i∧Hid ((G.take i).any (gapB v G)=false)∧Hid (Below wa.heap.size wa wr)) (fun v37 _=>n - (intOf v37).toNat)
   case atStart=>exact ⟨0,by omega,rfl,κ13 (by simp),κ13 (by rw [hwa];exact Below.refl _ _)⟩
   case round=>
    obtain ⟨i,hi,rfl,HP,HBi⟩:=hrel
    by_cases hlt:i < n
    ·obtain ⟨x,hx⟩:∃ x,G[i]?=some x:=⟨_,List.getElem?_eq_getElem (by have:=HN.out;omega)⟩
     have hfx:=HF.out x (List.mem_of_getElem? hx)
     have hbw:Below w.heap.size w wr:=by subst hwa;exact HB.out.trans (HBi.out.mono HB.out.size)
     obtain ⟨bb,off,rfl,hbl,c0,c1,c2,c3,c4,c5,c6,c7⟩:=ops_at (HS.out.below hbw) hx
     have i1:(0:Int)≤(i:Int):=by omega
     have i2:(i:Int) < (n:Int):=by omega
     obtain ⟨a,ha⟩:∃ a:Nat,x.b=a:=⟨x.b.toNat,by have:=hfx.b1;omega⟩
     have ha4:a < 4:=by have:=hfx.b2;omega
     have HQ3:Hid (∀ o',FourN w.heap.size (manyF v G G.length) (wr.alloc o')):=κ13 fun o'=>by subst hwa;exact (HQ2.out.below HBi.out).below ((Below.refl _ _).alloc (Nat.le_refl _) o')
     have hq:=fun o'=>(HQ3.out o').at' a ha4
     obtain ⟨m,hm⟩:∃ m,manyF v G G.length (a:Int)=m:=⟨_,rfl⟩
     rw [hm] at hq
     have HMx:=κ13 hm
     have HX:=κ13 hx
     have HGb:Hid (gapB v G x=decide (m < x.n)):=κ13 (by unfold gapB;rw [ha,hm])
     have HBa:=κ13 (fun o'=>HBi.out.alloc HBi.out.size o')
     have g9:=fun o'=>(((HG.out.below hbw).alloc o').errs 9 (by omega) (by omega) f9).var
     simp only [errG] at g9
     rw [ha] at c1
     clear hx hlt hbl hfx hm ha
     by_cases hgp:m < x.n
     ·obtain rfl:gap=true:=by rw [←HGap.out];exact any_at HX.out (by rw [HGb.out];simpa using hgp)
      have a0:(0:Int)≤(a:Int):=by omega
      have a4:(a:Int) < 4:=by omega
      have hq1:=hq (.cells #[.int .i64 x.t,.int .i64 (a:Int),.int .i64 x.n,.int .u8 x.k,.int .i64 x.nd,.int .i64 x.ot,.string x.nm,.string x.vl] 31)
      have g91:=g9 (.cells #[.int .i64 x.t,.int .i64 (a:Int),.int .i64 x.n,.int .u8 x.k,.int .i64 x.nd,.int .i64 x.ot,.string x.nm,.string x.vl] 31)
      clear hq g9
      go_wp2_with fail
      go_quiet (fail)
      rename_i nq
      have HBq:Hid (Below w.heap.size w ((wr.alloc (.cells #[.int .i64 x.t,.int .i64 (a:Int),.int .i64 x.n,.int .u8 x.k,.int .i64 x.nd,.int .i64 x.ot,.string x.nm,.string x.vl] 31)).drewN nq)):=κ13 (below_drawn (hbw.alloc hbw.size _) nq)
      go_wp2_with fail
      go_quiet (fail)
      go_wp2_with fail
      go_ret2
      exact ⟨rfl,below_drawn HBq.out _⟩
     ·have HP1:=κ13 (any_take_succ HX.out HP.out (by rw [HGb.out];simpa using hgp))
      have a0:(0:Int)≤(a:Int):=by omega
      have a4:(a:Int) < 4:=by omega
      have hq1:=hq (.cells #[.int .i64 x.t,.int .i64 (a:Int),.int .i64 x.n,.int .u8 x.k,.int .i64 x.nd,.int .i64 x.ot,.string x.nm,.string x.vl] 31)
      clear hq g9
      go_wp2_with fail
      go_quiet (fail)
      rename_i nq
      go_wp2_with fail
      go_roundw
      case rel=>exact ⟨i+1,by omega,by go_num,HP1,κ13 (below_drawn (HBa.out _) nq)⟩
      case measure=>simp [intOf] <;> omega
    ·have i2:¬ (i:Int) < (n:Int):=by omega
     obtain rfl:n=i:=by omega
     obtain rfl:gap=false:=by rw [←HGap.out,←HP.out,HN.out,List.take_length]
     have HB2:Hid (Below w.heap.size w wr):=κ13 (by subst hwa;exact HB.out.trans (HBi.out.mono HB.out.size))
     clear HB hwa HBi HP HQ2 hlt
     obtain ⟨wb,hwb⟩:∃ wb,wb=wr:=⟨_,rfl⟩
     go_wp2_with fail
     go_loopw [53] (fun v53 wr=>∃ i:Nat,i≤n∧v53=.int .i64 i∧Hid ((G.take i).any (fallB P)=false)∧Hid (Below wb.heap.size wb wr)) (fun v53 _=>n - (intOf v53).toNat)
     case atStart=>exact ⟨0,by omega,rfl,κ13 (by simp),κ13 (by rw [hwb];exact Below.refl _ _)⟩
     case round=>
      obtain ⟨i,hi,rfl,HP,HBi⟩:=hrel
      have hbw:Below w.heap.size w wr:=by subst hwb;exact HB2.out.trans (HBi.out.mono HB2.out.size)
      by_cases hlt:i < n
      ·obtain ⟨x,hx⟩:∃ x,G[i]?=some x:=⟨_,List.getElem?_eq_getElem (by have:=HN.out;omega)⟩
       have hfx:=HF.out x (List.mem_of_getElem? hx)
       obtain ⟨bb,off,rfl,hbl,c0,c1,c2,c3,c4,c5,c6,c7⟩:=ops_at (HS.out.below hbw) hx
       have i1:(0:Int)≤(i:Int):=by omega
       have i2:(i:Int) < (n:Int):=by omega
       have x1:-9223372036854775808≤x.n - 1:=by have:=hfx.n1;omega
       have x2:x.n - 1≤9223372036854775807:=by have:=hfx.n2;omega
       have HK:Hid (∃ kl,keyOf Tryz.prog 195 (pairV (x.b,x.n - 1))=some kl):=κ13 (ownK_reads ⟨by have:=hfx.b1;show _≤x.b;omega,by have:=hfx.b2;show x.b≤_;omega⟩ ⟨x1,x2⟩)
       have HX:=κ13 hx
       have HMa:=κ13 (fun o'=>(HM.out.below hbw).below ((Below.refl wr.heap.size wr).alloc (Nat.le_refl _) o'))
       have HBa:=κ13 (fun o' o2=>(hbw.alloc hbw.size o').alloc (by have:=hbw.size;simp;omega) o2)
       have HBb:=κ13 (fun o' o2=>(HBi.out.alloc HBi.out.size o').alloc (by have:=HBi.out.size;simp;omega) o2)
       clear hx hlt hbl hfx
       obtain ⟨r,hr⟩:∃ r,findOwn P x.b (x.n - 1)=r:=⟨_,rfl⟩
       have hlk:ownM P (x.b,x.n - 1)=r:=hr
       have HFb:Hid ((r=none→fallB P x=false)∧∀ p,r=some p→fallB P x=!opLt p x):=κ13 ⟨fun e=>by unfold fallB;rw [hr,e],fun p e=>by unfold fallB;rw [hr,e]⟩
       clear hr
       cases r with
       | none=>
        have HP1:=κ13 (any_take_succ HX.out HP.out (HFb.out.1 rfl))
        go_wp2_with (at_lookup;refine wpList_lookT_ok _ rfl _ _ _ rfl 195 31 ownK Tryz.underlying189 _ (zeroOp _) pairV opV mb nb (ownM P) rfl (HMa.out _) (x.b,x.n - 1) rfl HK.out none hlk ?_)
        go_wp2_with fail
        go_roundw
        case rel=>exact ⟨i+1,by omega,by go_num,HP1,κ13 (HBb.out _ _)⟩
        case measure=>simp [intOf] <;> omega
       | some p=>
        obtain ⟨lt,hlt2⟩:∃ lt,opLt p x=lt:=⟨_,rfl⟩
        have HLs:Hid (∀ w,Calls Tryz.prog 119 #[stampV p.t p.b,stampV x.t x.b] w fun e w'=>e=.returned (.bool lt)∧Below w.heap.size w w'):=κ13 fun w=>by rw [←hlt2];exact less_any _ _ _ _ w
        have HLt:=κ13 hlt2
        clear hlt2
        go_wp2_with (at_lookup;refine wpList_lookT_ok _ rfl _ _ _ rfl 195 31 ownK Tryz.underlying189 _ (zeroOp _) pairV opV mb nb (ownM P) rfl (HMa.out _) (x.b,x.n - 1) rfl HK.out (some p) hlk ?_)
        go_wp2_with fail
        refine (HLs.out _).mono ?_
        rintro e w5 ⟨rfl,hb5⟩
        have HB5:=κ13 ((HBa.out _ _).trans (hb5.mono (HBa.out _ _).size))
        have HB6:=κ13 ((HBb.out _ _).trans (hb5.mono (HBb.out _ _).size))
        have g3:=((HG.out.below HB5.out).errs 3 (by omega) (by omega) f3).var
        simp only [errG] at g3
        clear hb5
        cases lt with
        | true=>
         have HP1:=κ13 (any_take_succ HX.out HP.out (by rw [HFb.out.2 p rfl,HLt.out];rfl))
         go_wp2_with fail
         go_roundw
         case rel=>exact ⟨i+1,by omega,by go_num,HP1,κ13 HB6.out⟩
         case measure=>simp [intOf] <;> omega
        | false=>
         obtain rfl:falls=true:=by rw [←HFal.out];exact any_at HX.out (by rw [HFb.out.2 p rfl,HLt.out];rfl)
         go_wp2_with fail
         go_quiet (fail)
         go_wp2_with fail
         go_ret2
         exact ⟨rfl,below_drawn HB5.out _⟩
      ·have i2:¬ (i:Int) < (n:Int):=by omega
       obtain rfl:n=i:=by omega
       obtain rfl:falls=false:=by rw [←HFal.out,←HP.out,HN.out,List.take_length]
       go_wp2_with fail
       go_ret2
       exact ⟨rfl,hbw⟩
end Go.Proofs.YtjekalilfhnpmaaGreatDoor
