/- A replica's operations: is all known that they are about: the walk of refers. -/
import Derived.Deep.QuietTactic
import Derived.Deep.CutBlock
import Derived.Test.YtjekalilfhnpmaaGreatDoorQ05
import Derived.Test.YtjekalilfhnpmaaGreatDoorQ07
import Derived.Test.YtjekalilfhnpmaaGreatDoorQ12
import Derived.Test.YtjekalilfhnpmaaGreatDoorQ13
theorem Go.Proofs.YtjekalilfhnpmaaGreatDoor.κ14 {p:Prop} (h:p):Go.RowKit.Hid p:=Go.Lib.hid h
namespace Go.Proofs.YtjekalilfhnpmaaGreatDoor
open Go Go.RowKit Go.Maps Go.Shelf
set_option linter.unusedVariables false
set_option linter.unusedSimpArgs false
set_option maxHeartbeats 4000000
set_option maxRecDepth 100000
def nodeM (P:List OpT):Int→Option Bool:=fun nd=>if nodeB P nd then some true else none
def lettM (P:List OpT):Int×Int→Option Bool:=fun k=>if lettB P k.1 k.2 then some true else none
theorem nodeB_snoc (P:List OpT) (o:OpT) (nd:Int):nodeB (P++[o]) nd=(nodeB P nd || decide (o.k=109∧o.nd=nd)):=by unfold nodeB;simp
theorem lettB_snoc (P:List OpT) (o:OpT) (nd x:Int):lettB (P++[o]) nd x=(lettB P nd x || insB nd x o):=by unfold lettB;simp
theorem nodeM_mv (P:List OpT) {o:OpT} (h:o.k=109):nodeM (P++[o])=updT (nodeM P) o.nd (some true):=by
 funext x
 unfold nodeM updT
 rw [nodeB_snoc]
 by_cases e:x=o.nd
 ·simp [e,h]
 ·have:¬ o.nd=x:=fun h=>e h.symm
  simp [e,this]
theorem nodeM_no (P:List OpT) {o:OpT} (h:o.k≠109):nodeM (P++[o])=nodeM P:=by
 funext x
 unfold nodeM
 rw [nodeB_snoc]
 simp [h]
theorem lettM_ins (P:List OpT) {o:OpT} (h:o.k=105):lettM (P++[o])=updT (lettM P) (o.nd,o.id) (some true):=by
 funext x
 obtain ⟨a,c⟩:=x
 unfold lettM updT
 rw [lettB_snoc]
 unfold insB
 by_cases e:(a,c)=(o.nd,o.id)
 ·cases e
  simp [h]
 ·rw [if_neg e]
  have:¬ (o.nd=a∧o.id=c):=by rintro ⟨rfl,rfl⟩;exact e rfl
  simp [h,this]
theorem lettM_no (P:List OpT) {o:OpT} (h:o.k≠105):lettM (P++[o])=lettM P:=by
 funext x
 unfold lettM
 rw [lettB_snoc]
 unfold insB
 simp [h]
theorem MT.look_run {P:Program} {kt:TypeId} {T V:Type} {ek:T→Value} {ev:V→Value} {b n:Nat} {m:T→Option V} {w:World} (h:MT P kt ek ev b n m w) (K:Keyed P kt) {t e:TypeId} (ht:P.underlying t=some (.map kt e)) {z:Value} (hz:(zeroValue e).run P w=.ok z w) (x:T) (hkey:∃ kl,keyOf P kt (ek x)=some kl) {r:Option V} (hr:m x=r) :
  (Instr.lookup t (.map (some b)) (ek x) false).run P w=.ok ((r.map ev).getD z) w:=by
 obtain ⟨f,hf,e⟩:=h
 obtain ⟨kl,hkl⟩:=hkey
 have:=(hf.look K ht hz hkl).2
 rw [e x kl hkl,hr] at this
 exact this
theorem zeroBool (w:World):(zeroValue 4).run Tryz.prog w=.ok (.bool false) w:=by kernel_rfl
abbrev MN (nb n:Nat) (P:List OpT) (w:World):Prop:=MT Tryz.prog 3 ekI Value.bool nb n (nodeM P) w
abbrev ML (lb n:Nat) (P:List OpT) (w:World):Prop:=MT Tryz.prog 200 pairV Value.bool lb n (lettM P) w
structure RfS (b0 nb lb n:Nat) (P:List OpT) (w:World):Prop where
 mn:MN nb n P w
 ml:ML lb n P w
 ne:nb≠lb
 g1:b0≤nb
 g2:b0≤lb
theorem RfS.below {b0 nb lb n:Nat} {P:List OpT} {w w':World} (h:RfS b0 nb lb n P w) (hb:Below w.heap.size w w'):RfS b0 nb lb n P w':=⟨h.mn.below hb,h.ml.below hb,h.ne,h.g1,h.g2⟩
theorem RfS.same {b0 nb lb n:Nat} {P:List OpT} {o:OpT} {w:World} (h:RfS b0 nb lb n P w) (h1:o.k≠109) (h2:o.k≠105):RfS b0 nb lb (n+1) (P++[o]) w:=
 ⟨by show MT _ _ _ _ _ _ (nodeM _) _;rw [nodeM_no P h1];exact h.mn.mono (Nat.le_succ _),by show MT _ _ _ _ _ _ (lettM _) _;rw [lettM_no P h2];exact h.ml.mono (Nat.le_succ _),h.ne,h.g1,h.g2⟩
theorem RfS.node {b0 nb lb n:Nat} {P:List OpT} {o:OpT} {w w':World} (h:RfS b0 nb lb n P w) (h1:o.k=109) (hm:MT Tryz.prog 3 ekI Value.bool nb (n+1) (updT (nodeM P) o.nd (some true)) w') (hg:w.grownBy w' (some nb)):RfS b0 nb lb (n+1) (P++[o]) w':=
 ⟨by show MT _ _ _ _ _ _ (nodeM _) _;rw [nodeM_mv P h1];exact hm,by show MT _ _ _ _ _ _ (lettM _) _;rw [lettM_no P (by omega)];exact (h.ml.mono (Nat.le_succ _)).fr (fr_of_grown (X:=(·=nb)) hg rfl) (fun e=>h.ne e.symm),h.ne,h.g1,h.g2⟩
theorem RfS.lett {b0 nb lb n:Nat} {P:List OpT} {o:OpT} {w w':World} (h:RfS b0 nb lb n P w) (h1:o.k=105) (hm:MT Tryz.prog 200 pairV Value.bool lb (n+1) (updT (lettM P) (o.nd,o.id) (some true)) w') (hg:w.grownBy w' (some lb)):RfS b0 nb lb (n+1) (P++[o]) w':=
 ⟨by show MT _ _ _ _ _ _ (nodeM _) _;rw [nodeM_no P (by omega)];exact (h.mn.mono (Nat.le_succ _)).fr (fr_of_grown (X:=(·=lb)) hg rfl) (fun e=>h.ne e),by show MT _ _ _ _ _ _ (lettM _) _;rw [lettM_ins P h1];exact hm,h.ne,h.g1,h.g2⟩
structure RfL (w0:World) (A:Option Addr) (n c:Nat) (M:List OpT) (i:Nat) (wr:World):Prop where
 s:RfS w0.heap.size w0.heap.size (w0.heap.size+1) i (M.take i) wr
 sl:SlV opE wr (.slice A n c) M
 bl:Below w0.heap.size w0 wr
 own:∀ k,(Value.slice A n c).ownBlock=some k→w0.heap.size+2≤k
theorem RfL.below {w0:World} {A:Option Addr} {n c:Nat} {M:List OpT} {i:Nat} {w w':World} (h:RfL w0 A n c M i w) (hb:Below w.heap.size w w'):RfL w0 A n c M i w':=
 ⟨h.s.below hb,h.sl.below hb,h.bl.trans (hb.mono h.bl.size),h.own⟩
theorem RfL.put {w0:World} {A:Option Addr} {n c:Nat} {M:List OpT} {i j:Nat} {w w':World} {q:Nat} (h:RfL w0 A n c M i w) (hs:RfS w0.heap.size w0.heap.size (w0.heap.size+1) j (M.take j) w') (hg:w.grownBy w' (some q)) (hq:q=w0.heap.size∨q=w0.heap.size+1):RfL w0 A n c M j w':=by
 refine ⟨hs,h.sl.kept fun k hk _=>hg.block k (by assumption) (fun e=>?_),h.bl.grown hg h.bl.size (fun k hk=>?_),h.own⟩
 ·have:=h.own k hk
  have:=Option.some.inj e
  omega
 ·have:=Option.some.inj hk
  omega
theorem refers_any {F:Nat→Bool} (ea:Nat→Addr) (RB:Nat) (vK vG:Value) (K G:List OpT) (w:World) (hG:Gd F ea w) (f2:F 2=true) (f6:F 6=true)
  (hc:w.cell? ⟨RB,6,none⟩=some vK) (hK:SlV opE w vK K) (hs:SlV opE w vG G) (hn:K.length+G.length≤100000) (hf:∀ o∈K++G,OpFine o) :
  Calls Tryz.prog 56 #[.pointer (some ⟨RB,0,none⟩),vG] w fun e w'=>e=.returned (if refersP [] (sortOps (K++G)) then .nilIface else errV (ea 6))∧Below w.heap.size w w':=by
 have hRB:=World.block_lt_of_cell? w _ hc
 obtain ⟨R,hR⟩:∃ R,refersP [] (sortOps (K++G))=R:=⟨_,rfl⟩
 rw [hR]
 obtain ⟨M,hM⟩:∃ M,sortOps (K++G)=M:=⟨_,rfl⟩
 rw [hM] at hR
 have HR:=κ14 hR
 have HMl:Hid (M.length≤100000):=κ14 (by rw [←hM,(sortL_perm swo_opLt _).length_eq,List.length_append];exact hn)
 have HF:Hid (∀ o∈M,OpFine o):=κ14 fun o ho=>hf o (by rw [←hM] at ho;exact (sortL_perm swo_opLt _).mem_iff.1 ho)
 have HGd:=κ14 hG
 have HCat:Hid (∀ w' g,Below w.heap.size w w'→w'.cell? ⟨g,0,none⟩=some vK→w'.cell? ⟨g,1,none⟩=some vG→Calls Tryz.prog 59 #[.slice (some ⟨g,0,none⟩) 2 2] w' fun e w''=>∃ v',e=.returned v'∧Rw opE 31 w'.heap.size v' (K++G) w''∧Below w'.heap.size w' w''):=
  κ14 fun w' g hb c1 c2=>opsConcat_any g vK vG K G w' (hK.below hb) (hs.below hb) c1 c2 hn
 have HSo:Hid (∀ w' v,SlV opE w' v (K++G)→Calls Tryz.prog 58 #[v] w' fun e w''=>∃ v',e=.returned v'∧Rw opE 31 w'.heap.size v' M w''∧Below w'.heap.size w' w''):=
  κ14 fun w' v h=>by
   have:=opSort_any v (K++G) w' h (by rw [List.length_append];exact hn)
   rw [hM] at this
   exact this
 obtain ⟨AK,kc,rfl,_⟩:=hK.form
 obtain ⟨AG,gc,rfl,_⟩:=hs.form
 generalize K.length=nK at hc HCat
 generalize G.length=nG at HCat ⊢
 have hmm:=@run_makeMap Tryz.prog
 clear hR hM hG hK hs hf
 go_enter Tryz.func56,Tryz.ntmps56
 go_wp2_with fail
 refine (HCat.out _ _ (((Below.refl _ w).alloc (Nat.le_refl _) _).alloc (by simp) _ |>.alloc (by simp;omega) _) (by simp [go_sem]) (by simp [go_sem])).mono ?_
 rintro e w1 ⟨v1,rfl,hr1,hb1⟩
 have HR1:=κ14 hr1
 have HRf1:Hid (RfS w.heap.size w.heap.size (w.heap.size+1) 0 [] w1):=κ14 (by
  refine RfS.below (w:=((w.alloc (.map #[] 0)).alloc (.map #[] 0)).alloc _) ⟨?_,?_,by omega,Nat.le_refl _,by omega⟩ hb1
  ·exact ((MT.made w Tryz.prog 3 ekI Value.bool).below ((Below.refl _ _).alloc (Nat.le_refl _) _)).below ((Below.refl _ _).alloc (Nat.le_refl _) _)
  ·have:=MT.made (w.alloc (.map #[] 0)) Tryz.prog 200 pairV Value.bool
   rw [World.size_alloc] at this
   exact this.below ((Below.refl _ _).alloc (Nat.le_refl _) _))
 have HB1:Hid (Below w.heap.size w w1):=κ14 ((((Below.refl _ w).alloc (Nat.le_refl _) _).alloc (by simp) _ |>.alloc (by simp;omega) _).trans (hb1.mono (by simp;omega)))
 clear hr1 hb1 hc
 go_wp2_with fail
 refine (HSo.out _ _ HR1.out.sl).mono ?_
 rintro e w2 ⟨v2,rfl,hr2,hb2⟩
 obtain ⟨A,n,c,rfl⟩:=hr2.slice
 have hl:n=M.length:=hr2.sl.len
 have HN:=κ14 hl
 have HL2:Hid (RfL w A n c M 0 w2):=κ14 ⟨HRf1.out.below hb2,hr2.sl,HB1.out.trans (hb2.mono HB1.out.size),fun k hk=>by have:=(hr2.lt k hk).1;have:=HRf1.out.ml.lt;omega⟩
 have hn5:n≤100000:=by have:=HMl.out;omega
 clear hr2 hb2 hl HR1 HRf1 HB1 HCat HSo hn hmm
 go_wp2_with fail
 go_loopw [22] (fun v22 wr=>∃ i:Nat,i≤n∧v22=.int .i64 i∧Hid (refersP (M.take i) (M.drop i)=R)∧Hid (RfL w A n c M i wr)) (fun v22 _=>n - (intOf v22).toNat)
 case atStart=>exact ⟨0,by omega,rfl,κ14 (by simpa using HR.out),HL2⟩
 case round=>
  obtain ⟨i,hi,rfl,HRr,HL⟩:=hrel
  by_cases hlt:i < n
  ·obtain ⟨x,hx⟩:∃ x,M[i]?=some x:=⟨_,List.getElem?_eq_getElem (by have:=HN.out;omega)⟩
   have hfx:=HF.out x (List.mem_of_getElem? hx)
   obtain ⟨bb,off,rfl,hbl,c0,c1,c2,c3,c4,c5,c6,c7⟩:=ops_at HL.out.sl hx
   have i1:(0:Int)≤(i:Int):=by omega
   have i2:(i:Int) < (n:Int):=by omega
   obtain ⟨P,hP⟩:∃ P,M.take i=P:=⟨_,rfl⟩
   have HTk:Hid (M.take (i+1)=P++[x]):=κ14 (by
    obtain ⟨h1,h2⟩:=List.getElem?_eq_some_iff.1 hx
    rw [←List.take_append_getElem h1,h2,hP])
   have HRs:Hid (refersP (M.take i) (M.drop i)=(refB P x && refersP (M.take (i+1)) (M.drop (i+1)))):=κ14 (by
    obtain ⟨h1,h2⟩:=List.getElem?_eq_some_iff.1 hx
    rw [HTk.out,List.drop_eq_getElem_cons h1,h2,hP]
    rfl)
   have HP:=κ14 hP
   obtain ⟨idv,hidv⟩:∃ idv,x.id=idv:=⟨_,rfl⟩
   have HId:=κ14 hidv
   have HID:Hid (∀ w',Gd F ea w'→Calls Tryz.prog 106 #[opV x] w' fun e w''=>e=.returned (.int .i64 idv)∧Below w'.heap.size w' w''):=κ14 fun w' hg=>by
    have:=opID_any ea x w' hg f2
    rw [if_pos (show StampOk x.t x.b from ⟨hfx.t1,hfx.t2,hfx.b1,hfx.b2⟩)] at this
    rw [←hidv]
    exact this
   have HFx:=κ14 hfx
   have HO4:Hid (OpAt (wr.alloc (.cells x.cells 31)) wr.heap.size x):=κ14 (OpAt.start wr x _)
   have HL4:=κ14 (HL.out.below ((Below.refl wr.heap.size wr).alloc (Nat.le_refl _) (.cells x.cells 31)))
   have HG4:=κ14 (HGd.out.below HL4.out.bl)
   clear hx hlt hbl hfx hP hidv
   go_wp2_with fail
   refine (HID.out _ HG4.out).mono ?_
   rintro e w5 ⟨rfl,hb5⟩
   have HO5:=κ14 (HO4.out.below hb5)
   have HL5:=κ14 (HL4.out.below hb5)
   obtain ⟨B5,hB5⟩:∃ B5,wr.heap.size=B5:=⟨_,rfl⟩
   rw [hB5] at HO5
   clear hb5 c0 c1 c2 c3 c4 c5 c6 c7 HG4 HO4 HL4 HID HL
   obtain ⟨q0,q1,q2,q3,q4,q5,q6,q7⟩:=HO5.out
   obtain ⟨tn,htn⟩:∃ tn,nodeB P x.nd=tn:=⟨_,rfl⟩
   obtain ⟨tt,htt⟩:∃ tt,nodeB P x.ot=tt:=⟨_,rfl⟩
   obtain ⟨tl,htl⟩:∃ tl,lettB P x.nd x.ot=tl:=⟨_,rfl⟩
   have hMn:MN w.heap.size i P w5:=by have:=HL5.out.s.mn;rw [HP.out] at this;exact this
   have hMl:ML (w.heap.size+1) i P w5:=by have:=HL5.out.s.ml;rw [HP.out] at this;exact this
   have hin:I64 x.nd:=⟨by have:=HFx.out.nd0;omega,by have:=HFx.out.ndi;have:=HFx.out.idr;omega⟩
   have hio:I64 x.ot:=by
    have h:=HFx.out
    have hr:=h.idr
    rcases h.k with e | e | e | e
    ·have:=h.mv e;constructor <;> omega
    ·have:=h.ins e;constructor <;> omega
    ·have:=h.del e;constructor <;> omega
    ·have:=h.set e;constructor <;> omega
   have hii:I64 idv:=by have:=HFx.out.idr;have:=HId.out;constructor <;> omega
   have hkn:=ekI_reads hin
   have hko:=ekI_reads hio
   have hkl:=lofK_reads (x:=(x.nd,x.ot)) hin hio
   have hki:=lofK_reads (x:=(x.nd,idv)) hin hii
   have hlk:nodeM P x.nd=if tn then some true else none:=by unfold nodeM;rw [htn]
   have hlo:nodeM P x.ot=if tt then some true else none:=by unfold nodeM;rw [htt]
   have hll:lettM P (x.nd,x.ot)=if tl then some true else none:=by unfold lettM;rw [htl]
   have HT:Hid (nodeB P x.nd=tn∧nodeB P x.ot=tt∧lettB P x.nd x.ot=tl):=κ14 ⟨htn,htt,htl⟩
   have r1:(Instr.lookup 197 (.map (some w.heap.size)) (.int .i64 x.ot) false).run Tryz.prog w5=.ok (.bool tt) w5:=by
    have:=hMn.look_run treeK Tryz.underlying197 (zeroBool _) x.ot hko hlo
    rw [show (Option.map Value.bool (if tt=true then some true else none)).getD (Value.bool false)=.bool tt by cases tt <;> rfl] at this
    exact this
   have r2:(Instr.lookup 198 (.map (some (w.heap.size+1))) (.agg #[.int .i64 x.nd,.int .i64 x.ot]) false).run Tryz.prog w5=.ok (.bool tl) w5:=by
    have:=hMl.look_run lofK Tryz.underlying198 (zeroBool _) (x.nd,x.ot) hkl hll
    rw [show (Option.map Value.bool (if tl=true then some true else none)).getD (Value.bool false)=.bool tl by cases tl <;> rfl] at this
    exact this
   obtain ⟨e1,he1⟩:∃ e1,(x.nd == idv)=e1:=⟨_,rfl⟩
   obtain ⟨e2,he2⟩:∃ e2,(x.ot == 0)=e2:=⟨_,rfl⟩
   obtain ⟨e3,he3⟩:∃ e3,(x.ot == 1)=e3:=⟨_,rfl⟩
   have HE:Hid ((x.nd == idv)=e1∧(x.ot == 0)=e2∧(x.ot == 1)=e3):=κ14 ⟨he1,he2,he3⟩
   have hv:∀ t:Bool,(Option.map Value.bool (if t=true then some true else none)).getD (Value.bool false)=.bool t:=fun t=>by cases t <;> rfl
   have him:i < maxLen:=by unfold maxLen;omega
   clear htn htt htl hko hkl hlo hll
   rw [hB5]
   clear hB5 hin hio hii
   go_upto_block 2 with (at_lookup;refine wpList_lookT _ rfl _ _ _ rfl 3 4 treeK Tryz.underlying197 _ (zeroBool _) ekI Value.bool w.heap.size i (nodeM P) rfl hMn x.nd rfl hkn _ hlk ?_;rw [hv tn])
   go_cut [10] (fun v10 wc=>v10=.bool (refB P x)∧Hid (RfL w (some ⟨bb,off,none⟩) n c M (i+1) wc))
   case first=>
    go_wp2_with (first
     | (at_mapUpdate;refine wpList_putT _ rfl _ _ _ 197 rfl 3 4 treeK Tryz.underlying197 ekI Value.bool ekI_inj w.heap.size i (nodeM P) rfl hMn him x.nd true rfl rfl hkn ?_;intro w6 hm6 hg6)
     | (at_mapUpdate;refine wpList_putT _ rfl _ _ _ 198 rfl 200 4 lofK Tryz.underlying198 pairV Value.bool pairV_inj (w.heap.size+1) i (lettM P) rfl hMl him (x.nd,idv) true rfl rfl hki ?_;intro w6 hm6 hg6))
    all_goals
     go_meet
     case rel=>
      obtain ⟨t1,t2,t3⟩:=HT.out
      obtain ⟨t4,t5,t6⟩:=HE.out
      have hid2:=HId.out
      have hS5:=HL5.out
      have hTk:=HTk.out
      have hPt:=HP.out
      refine ⟨?_,?_⟩
      ·unfold refB
       rw [t1,t2,t3,hid2,t4,t5,t6]
       simp_all
      ·first
        | (refine κ14 (hS5.put ?_ hg6 (.inl rfl));rw [hTk];have:=hS5.s;rw [hPt] at this;exact this.node (by simp_all) hm6 hg6)
        | (refine κ14 (hS5.put ?_ hg6 (.inr rfl));rw [hTk];have:=hS5.s;rw [hPt] at this;rw [←hid2] at hm6;exact this.lett (by simp_all) hm6 hg6)
        | (refine κ14 ⟨?_,hS5.sl,hS5.bl,hS5.own⟩;rw [hTk];have:=hS5.s;rw [hPt] at this;exact this.same (by simp_all) (by simp_all))
   case rest=>
    obtain ⟨rfl,HL6⟩:=hcut
    obtain ⟨rb,hrb⟩:∃ rb,refB P x=rb:=⟨_,rfl⟩
    rw [hrb]
    have HRb:=κ14 hrb
    have g6:=((HGd.out.below HL6.out.bl).errs 6 (by omega) (by omega) f6).var
    simp only [errG] at g6
    clear hrb q0 q1 q2 q3 q4 q5 q6 q7 r1 r2 hMn hMl hlk he1 he2 he3 hv hki hkn
    cases rb with
    | true=>
     have HR7:Hid (refersP (M.take (i+1)) (M.drop (i+1))=R):=κ14 (by rw [←HRr.out,HRs.out,HRb.out,Bool.true_and])
     go_wp2_with fail
     go_roundw
     case rel=>exact ⟨i+1,by omega,by go_num,HR7,HL6⟩
     case measure=>simp [intOf] <;> omega
    | false=>
     obtain rfl:R=false:=by rw [←HRr.out,HRs.out,HRb.out,Bool.false_and]
     go_wp2_with fail
     go_ret
     exact ⟨rfl,HL6.out.bl⟩
  ·have i2:¬ (i:Int) < (n:Int):=by omega
   obtain rfl:R=true:=by
    rw [←HRr.out,List.drop_eq_nil_of_le (by have:=HN.out;omega)]
    rfl
   go_wp2_with fail
   go_ret
   exact ⟨rfl,HL.out.bl⟩
end Go.Proofs.YtjekalilfhnpmaaGreatDoor
