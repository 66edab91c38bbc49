/- A replica's parts, by its operations: what one more operation makes of each. Plain. Replicas that meet: what is well apart is well together; what one makes is well. Plain. -/
import Derived.Test.YtjekalilfhnpmaaGreatDoorQ13
import Derived.Test.YtjekalilfhnpmaaGreatDoorQ17
import Derived.Test.YtjekalilfhnpmaaGreatDoorQ18
namespace Go.Proofs.YtjekalilfhnpmaaGreatDoor
open LineOrd
set_option linter.unusedVariables false
set_option linter.unusedSimpArgs false
def movB (o:OpT):Bool:=decide (o.k=109)
def logOf (D:List OpT):List OpT:=sortOps (D.filter movB)
def timeOf (D:List OpT):Int:=D.foldl (fun t o=>if t < o.t then o.t else t) 0
theorem timeOf_snoc (D:List OpT) (o:OpT):timeOf (D++[o])=if timeOf D < o.t then o.t else timeOf D:=by unfold timeOf;rw [List.foldl_append];rfl
theorem timeOf_ge (D:List OpT):0≤timeOf D∧(∀ o∈D,o.t≤timeOf D)∧(timeOf D=0∨∃ o,o∈D∧timeOf D=o.t):=by
 suffices h:∀ M:List OpT,0≤timeOf M.reverse∧(∀ o∈M.reverse,o.t≤timeOf M.reverse)∧(timeOf M.reverse=0∨∃ o,o∈M.reverse∧timeOf M.reverse=o.t) by
  have:=h D.reverse
  simpa using this
 intro M
 induction M with
 | nil=>exact ⟨by simp [timeOf],by simp,.inl rfl⟩
 | cons o M ih=>
  rw [List.reverse_cons,timeOf_snoc]
  obtain ⟨h1,h2,h3⟩:=ih
  refine ⟨by split <;> omega,fun p hp=>?_,?_⟩
  ·rcases List.mem_append.1 hp with hp | hp
   ·have:=h2 p hp
    split <;> omega
   ·rw [List.mem_singleton.1 hp]
    split <;> omega
  ·split
   ·exact .inr ⟨o,by simp,rfl⟩
   ·rcases h3 with h3 | ⟨p,hp,h3⟩
    ·exact .inl h3
    ·exact .inr ⟨p,by simp only [List.mem_append];exact .inl hp,h3⟩
theorem timeOf_eq {D D':List OpT} (h1:∀ o∈D,1≤o.t) (he:∀ o,o∈D↔o∈D'):timeOf D=timeOf D':=by
 obtain ⟨a1,a2,a3⟩:=timeOf_ge D
 obtain ⟨b1,b2,b3⟩:=timeOf_ge D'
 rcases a3 with a3 | ⟨o,ho,a3⟩
 ·rcases b3 with b3 | ⟨p,hp,b3⟩
  ·omega
  ·have:=a2 p ((he p).2 hp)
   omega
 ·have:=b2 o ((he o).1 ho)
  rcases b3 with b3 | ⟨p,hp,b3⟩
  ·have:=h1 o ho;omega
  ·have:=a2 p ((he p).2 hp)
   omega
theorem timeOf_le {D:List OpT} (h:DOk D):timeOf D≤1073741824:=by
 rcases (timeOf_ge D).2.2 with h3 | ⟨o,ho,h3⟩
 ·omega
 ·have:=(h.fine ho).t2;omega
theorem logOf_mv (D:List OpT) {o:OpT} (hk:o.k=109):logOf (D++[o])=laidIn opLt (logOf D) o:=by
 unfold logOf
 rw [List.filter_append,List.filter_cons_of_pos (by simp [movB,hk]),List.filter_nil,sortOps_snoc]
theorem logOf_no (D:List OpT) {o:OpT} (hk:o.k≠109):logOf (D++[o])=logOf D:=by
 unfold logOf
 rw [List.filter_append,List.filter_cons_of_neg (by simp [movB,hk]),List.filter_nil,List.append_nil]
theorem logOf_len (D:List OpT):(logOf D).length≤D.length:=by
 unfold logOf
 rw [(sortOps_perm _).length_eq]
 exact List.length_filter_le _ _
theorem logOf_mem {D:List OpT} {o:OpT}:o∈logOf D↔o∈D∧o.k=109:=by
 unfold logOf
 rw [sortOps_mem,List.mem_filter]
 simp [movB]
theorem logOf_rising {D:List OpT} (h:DOk D):Rising (logOf D):=by
 unfold logOf
 refine rising_sort (pairwise_of_nodup (h.nod.filter _) _ fun o ho p hp hne hs=>hne (h.one o (List.mem_filter.1 ho).1 p (List.mem_filter.1 hp).1 hs))
theorem logOf_eq {D D':List OpT} (h:DOk D) (h':DOk D') (he:∀ o,o∈D↔o∈D'):logOf D=logOf D':=by
 have hp:D.Perm D':=(List.perm_ext_iff_of_nodup h.nod h'.nod).2 he
 refine (logOf_rising h).eq (logOf_rising h') ?_
 unfold logOf
 exact (sortOps_perm _).trans ((hp.filter _).trans (sortOps_perm _).symm)
theorem logOk_of {D:List OpT} (h:DOk D):LogOk (logOf D):=⟨logOf_rising h,fun o ho=>by
 have:=h.wf o (logOf_mem.1 ho).1
 exact ⟨⟨this.nd1,this.nd2⟩,⟨this.ot1,this.ot2⟩⟩⟩
theorem oneMore {D:List OpT} {o:OpT} (h:DOk D) (h':DOk (D++[o])):OneMore o D (D++[o]):=
 ⟨h.lines,h'.lines,fun p=>by rw [List.mem_append,List.mem_singleton];exact ⟨fun h=>h.symm,fun h=>h.symm⟩,fun ho=>(List.pairwise_append.1 h'.nod).2.2 o ho o (by simp) rfl⟩
theorem apply_log {D:List OpT} {o:OpT} (h:DOk D) (h':DOk (D++[o])) (hk:o.k=109):applyErr (logOf D) o=0∧applyL (logOf D) o=logOf (D++[o]):=by
 have h0:applyErr (logOf D) o=0:=by
  unfold applyErr
  rw [if_neg (by rw [h'.er o (by simp)];simp),if_neg (by omega),if_neg]
  rintro ⟨y,hy,hs⟩
  have hyD:=(logOf_mem.1 hy).1
  have:=h'.one y (by simp [hyD]) o (by simp) hs
  subst this
  exact (oneMore h h').new hyD
 refine ⟨h0,?_⟩
 unfold applyL
 rw [if_pos h0,logOf_mv D hk]
theorem known_snoc {D:List OpT} {o:OpT} {nd:Int}:Known (D++[o]) nd↔Known D nd∨(o.k=109∧o.nd=nd∧o.id=nd):=by
 constructor
 ·rintro ⟨p,hp,r⟩
  rcases List.mem_append.1 hp with hp | hp
  ·exact .inl ⟨p,hp,r⟩
  ·rw [List.mem_singleton.1 hp] at r;exact .inr r
 ·rintro (⟨p,hp,r⟩ | r)
  ·exact ⟨p,by simp [hp],r⟩
  ·exact ⟨o,by simp,r⟩
theorem cnt_snoc (D:List OpT) (o:OpT) (b:Int):cntB (D++[o]) b=cntB D b+if o.b=b then 1 else 0:=by
 rw [cntB_app]
 congr 1
 unfold cntB
 by_cases e:o.b=b <;> simp [e]
theorem num_next {D:List OpT} {o:OpT} (h:DOk D) (h':DOk (D++[o])):o.n=cntB D o.b+1:=by
 have h1:=(nums_are h' o.b o.n).1 ⟨o,by simp,rfl,rfl⟩
 rw [cnt_snoc,if_pos rfl] at h1
 refine Classical.byContradiction fun hne=>?_
 obtain ⟨p,hp,hpb,hpn⟩:=(nums_are h o.b o.n).2 ⟨h1.1,by omega⟩
 have:=h'.num p (by simp [hp]) o (by simp) hpb hpn
 subst this
 exact (oneMore h h').new hp
theorem cnt_le (D:List OpT) (b:Int):cntB D b≤D.length:=by unfold cntB;exact List.countP_le_length
theorem cnt_400 {D:List OpT} (h:DOk D) (b:Int):cntB D b≤400:=by
 rcases Nat.eq_zero_or_pos (cntB D b) with h0 | h0
 ·omega
 ·obtain ⟨o,ho,_,hn⟩:=(nums_are h b (cntB D b)).2 ⟨by omega,Int.le_refl _⟩
  have:=(h.fine ho).n2
  omega
theorem made_new {D:List OpT} {o:OpT} (h:DOk D) (h':DOk (D++[o])) (hn:o.nd=o.id):¬ Known D o.nd∧∀ x,¬ HasLet (D++[o]) o.nd x:=by
 have h1:¬ Known D o.nd:=fun ⟨p,hp,_,_,h3⟩=>by
  have:=h'.lines.one p (by simp [hp]) o (by simp) (by omega)
  subst this
  exact (oneMore h h').new hp
 refine ⟨h1,fun x ⟨p,hp,hk,hpn,_⟩=>?_⟩
 rcases List.mem_append.1 hp with hp | hp
 ·have:=((h.refs p hp).ins hk).1
  rw [hpn] at this
  exact h1 this
 ·rw [List.mem_singleton.1 hp] at hk
  have:=((fine_of (h'.er o (by simp))).ndm hn)
  omega
theorem best_set {D:List OpT} {m:MapC} {o:OpT} (h:BestAll (InL D) m):BestAll (InL (D++[o])) (setC m o).1:=h.set.congr fun k c=>InL.app D [o] k c
theorem best_no {D:List OpT} {m:MapC} {o:OpT} (h:BestAll (InL D) m) (hk:o.k≠115):BestAll (InL (D++[o])) m:=h.congr fun k c=>by
 rw [InL.app]
 exact ⟨fun hh=>hh.elim id (fun ⟨x,hx,_,h2,_⟩=>by rw [List.mem_singleton.1 hx] at h2;exact absurd h2 hk),.inl⟩
theorem DOk.snoc {L:List OpT} {x:OpT} (h:DOk L) (hw:x.Wf) (he:opErr x=0) (ht:timeOf L < x.t) (hn:x.n=cntB L x.b+1) (hr:RefOk (L++[x]) x):DOk (L++[x]):=by
 have hx:x ∉ L:=fun hx=>by have:=(timeOf_ge L).2.1 x hx;omega
 have hlt:∀ p∈L,opLt p x=true:=fun p hp=>by
  rw [opLt_iff]
  have:=(timeOf_ge L).2.1 p hp
  omega
 have hsub:∀ p∈L,p∈L++[x]:=fun p hp=>by simp [hp]
 refine ⟨fun o ho=>?_,fun o ho=>?_,fun o ho p hp hs=>?_,?_,fun o ho=>?_,fun o ho p hp hb hn'=>?_,fun o ho h1=>?_⟩
 ·rcases List.mem_append.1 ho with ho | ho
  ·exact h.wf o ho
  ·rw [List.mem_singleton.1 ho];exact hw
 ·rcases List.mem_append.1 ho with ho | ho
  ·exact h.er o ho
  ·rw [List.mem_singleton.1 ho];exact he
 ·rcases List.mem_append.1 ho with ho | ho <;> rcases List.mem_append.1 hp with hp | hp
  ·exact h.one o ho p hp hs
  ·rw [List.mem_singleton.1 hp] at hs
   exact absurd hs (opLt_irr (hlt o ho))
  ·rw [List.mem_singleton.1 ho] at hs
   exact absurd ⟨hs.1.symm,hs.2.symm⟩ (opLt_irr (hlt p hp))
  ·rw [List.mem_singleton.1 ho,List.mem_singleton.1 hp]
 ·refine List.pairwise_append.2 ⟨h.nod,by simp,fun a ha b hb e=>?_⟩
  rw [List.mem_singleton.1 hb] at e
  exact hx (e▸ha)
 ·rcases List.mem_append.1 ho with ho | ho
  ·exact (h.refs o ho).mono hsub
  ·rw [List.mem_singleton.1 ho];exact hr
 ·rcases List.mem_append.1 ho with ho | ho <;> rcases List.mem_append.1 hp with hp | hp
  ·exact h.num o ho p hp hb hn'
  ·rw [List.mem_singleton.1 hp] at hb hn'
   have:=((nums_are h x.b o.n).1 ⟨o,ho,hb,rfl⟩).2
   omega
  ·rw [List.mem_singleton.1 ho] at hb hn'
   have:=((nums_are h x.b p.n).1 ⟨p,hp,hb.symm,rfl⟩).2
   omega
  ·rw [List.mem_singleton.1 ho,List.mem_singleton.1 hp]
 ·rcases List.mem_append.1 ho with ho | ho
  ·obtain ⟨p,hp,r⟩:=h.low o ho h1
   exact ⟨p,hsub p hp,r⟩
  ·rw [List.mem_singleton.1 ho] at h1 ⊢
   obtain ⟨p,hp,hb,hpn⟩:=(nums_are h x.b (cntB L x.b)).2 ⟨by omega,Int.le_refl _⟩
   exact ⟨p,hsub p hp,hb,by omega,hlt p hp⟩
theorem rising_snoc {L:List OpT} {x:OpT} (h:Rising L) (ht:timeOf L < x.t):Rising (L++[x]):=by
 refine List.pairwise_append.2 ⟨h,by simp,fun a ha b hb=>?_⟩
 rw [List.mem_singleton.1 hb,opLt_iff]
 have:=(timeOf_ge L).2.1 a ha
 omega
theorem join_one {L:List OpT} {x:OpT} (h:DOk L) (h':DOk (L++[x])) (hup:Rising (L++[x])) (hlen:L.length < 400):joinP L [x]=.inr [x]∧sortOps (L++[x])=L++[x]:=by
 obtain ⟨G,hG,hGm⟩:=join_all (l:=[x]) h (L++[x]) h' (fun o=>by rw [List.mem_append]) (by rw [List.length_append];simp;omega)
 have hx:x ∉ L:=(oneMore h h').new
 obtain ⟨hD,hGr,_,hsub,_⟩:=join_ok h (hup.sublist (List.sublist_append_left _ _)) (fun o ho=>by rw [List.mem_singleton.1 ho];exact h'.wf x (by simp)) hG
 have hxG:x∈G:=by
  have:=(hGm x).2 (by simp)
  exact (List.mem_append.1 this).resolve_left hx
 have:G=[x]:=by
  refine hGr.eq (List.pairwise_singleton _ _) ((List.perm_ext_iff_of_nodup hGr.nodup (by simp)).2 fun o=>⟨fun ho=>hsub o ho,fun ho=>by rw [List.mem_singleton.1 ho];exact hxG⟩)
 rw [this] at hG
 exact ⟨hG,sort_self hup⟩
def zOp:OpT:=⟨0,0,0,0,0,0,⟨#[]⟩,⟨#[]⟩⟩
def nextO (b:Int) (L:List OpT) (o:OpT):OpT:=⟨timeOf L+1,b,cntB L b+1,o.k,if o.k=109∧o.nd=0 then (timeOf L+1)*4+b else o.nd,o.ot,o.nm,o.vl⟩
def nextP (b:Int) (L:List OpT) (is:Bool) (o:OpT):OpT×Nat:=
 if is=false then (zOp,6) else if 400≤L.length∨1073741824≤timeOf L then (zOp,8) else if opErr (nextO b L o)≠0 then (zOp,opErr (nextO b L o)) else (nextO b L o,0)
theorem nextP_ok {b:Int} {L:List OpT} {is:Bool} {o x:OpT} (h:nextP b L is o=(x,0)):is=true∧L.length < 400∧timeOf L < 1073741824∧opErr x=0∧x=nextO b L o:=by
 unfold nextP at h
 split at h
 ·cases h
 rename_i h1
 split at h
 ·cases h
 rename_i h2
 split at h
 ·rename_i h3
  have:=congrArg Prod.snd h
  exact absurd this h3
 ·rename_i h3
  have:=congrArg Prod.fst h
  simp only at this
  subst this
  exact ⟨by simpa using h1,by omega,by omega,by omega,rfl⟩
end Go.Proofs.YtjekalilfhnpmaaGreatDoor
