/- ReplicaActs is proved: any acts on a replica answer as the document says. No condition but the card's own (the listed variables as the program's text lays them). -/
import Derived.Lay
import Derived.Lib.LaidIn
import Derived.ChangeMaps5
import Derived.Test.YtjekalilfhnpmaaGreatDoorQ04
import Derived.Test.YtjekalilfhnpmaaGreatDoorQ42
import Derived.Test.YtjekalilfhnpmaaGreatDoorQ44
namespace Go.Proofs.YtjekalilfhnpmaaGreatDoor
open Go Go.ChangeShapes Go.WideShapes Go.ChangeAt Go.RowKit
namespace replicaActs
set_option linter.unusedVariables false
set_option linter.unusedSimpArgs false
set_option maxHeartbeats 2000000
theorem laidOut:laidOutB Tryz.prog=true:=by kernel_rfl
theorem laidErrs:∀ k∈[1,2,3,4,5,6,7,8,9,10,11,12],ErrVarOk k∧ErrLaid Rows.replicaActsRow.laid k:=by
 intro k hk
 simp only [List.mem_cons,List.not_mem_nil,or_false] at hk
 rcases hk with rfl | rfl | rfl | rfl | rfl | rfl | rfl | rfl | rfl | rfl | rfl | rfl
 ·exact ⟨errVar1,by unfold ErrLaid;kernel_rfl⟩
 ·exact ⟨errVar2,by unfold ErrLaid;kernel_rfl⟩
 ·exact ⟨errVar3,by unfold ErrLaid;kernel_rfl⟩
 ·exact ⟨errVar4,by unfold ErrLaid;kernel_rfl⟩
 ·exact ⟨errVar5,by unfold ErrLaid;kernel_rfl⟩
 ·exact ⟨errVar6,by unfold ErrLaid;kernel_rfl⟩
 ·exact ⟨errVar7,by unfold ErrLaid;kernel_rfl⟩
 ·exact ⟨errVar8,by unfold ErrLaid;kernel_rfl⟩
 ·exact ⟨errVar9,by unfold ErrLaid;kernel_rfl⟩
 ·exact ⟨errVar10,by unfold ErrLaid;kernel_rfl⟩
 ·exact ⟨errVar11,by unfold ErrLaid;kernel_rfl⟩
 ·exact ⟨errVar12,by unfold ErrLaid;kernel_rfl⟩
set_option maxRecDepth 100000 in
theorem walk_of {H:Type} {enc:TypeId×Value→H} {base:Nat} {v0 v1 v2 v3:Value} {d0 d1 d2 d3:DataW H} {p0 p1 p2 p3:List MemPlace} (W:World) (hL:laidMetH Tryz.prog Rows.replicaActsRow.laid W)
  (o0:Value.okWide Tryz.prog W .any base 3 v0) (h0:DataW.Trod enc Tryz.prog W 0 (fun _=>true) true 3 v0 d0 p0)
  (o1:Value.okWide Tryz.prog W .any base 85 v1) (h1:DataW.Trod enc Tryz.prog W 0 (fun _=>true) true 85 v1 d1 p1)
  (o2:Value.okWide Tryz.prog W .any base 47 v2) (h2:DataW.Trod enc Tryz.prog W 0 (fun _=>true) true 47 v2 d2 p2)
  (o3:Value.okWide Tryz.prog W .any base 3 v3) (h3:DataW.Trod enc Tryz.prog W 0 (fun _=>true) true 3 v3 d3 p3)
  : Calls Tryz.prog 8 #[v0,v1,v2,v3] W fun e w'=>e=.returned (.bool true)∧Below W.heap.size W w':=by
 obtain ⟨n0,rfl,_,_,wn0⟩:=open_int Tryz.underlying3 o0 h0
 obtain ⟨A1,n1,c1,L1,rfl,e1,g1,cm1,pw1⟩:=open_racts o1 h1
 obtain ⟨x2,y2,z2,q2,rfl,wx2,wy2,wz2,wq2⟩:=open_vec o2 h2
 obtain ⟨n3,rfl,_,_,wn3⟩:=open_int Tryz.underlying3 o3 h3
 obtain ⟨a,hE⟩:=errs_of_laid hL laidErrs
 have hT:=typeVar_of_laid hL (by simp [Rows.replicaActsRow])
 have hG:Gd (flagsOf [1,2,3,4,5,6,7,8,9,10,11,12,20,21]) a W:={
  errs:=fun k h1 h2 hf=>hE k (by simp [flagsOf] at hf;simp;omega)
  tv:=fun _=>hT
  tab:=fun _=>tab_of_laid hL (by kernel_rfl)
  len:=fun hf=>absurd hf (by decide)
  db:=fun hf=>absurd hf (by decide)
 }
 exact replicaActs_any a n0 A1 n1 c1 L1 (vec4 x2 y2 z2 q2) n3 W hG (fun k h1 h2=>by simp [flagsOf];omega) (by decide) (by decide) g1 (Nat.le_trans g1.cap cm1) pw1 (wf_i64 wn0) (wf_i64 wn3)
theorem door_met (os:Os) (args:Array Value):laidMetH Tryz.prog Rows.replicaActsRow.laid ((World.doorLaid Tryz.prog 400 os).forCall (fun _ _=>0) ⟨#[],args,[]⟩).memory:=
 laidMetH_of_parts3 (fuel:=8) (laidMet_of_run' 8 (by kernel_rfl) (by kernel_rfl)) (by kernel_rfl) (by kernel_rfl)
theorem rd0:Tryz.prog.readableRec 3=true:=by kernel_rfl
theorem sz0:3 < Tryz.prog.types.size:=of_decide_eq_true (by kernel_rfl)
theorem rd1:Tryz.prog.readableRec 85=true:=by kernel_rfl
theorem sz1:85 < Tryz.prog.types.size:=of_decide_eq_true (by kernel_rfl)
theorem rd2:Tryz.prog.readableRec 47=true:=by kernel_rfl
theorem sz2:47 < Tryz.prog.types.size:=of_decide_eq_true (by kernel_rfl)
theorem rd3:Tryz.prog.readableRec 3=true:=by kernel_rfl
theorem sz3:3 < Tryz.prog.types.size:=of_decide_eq_true (by kernel_rfl)
set_option maxRecDepth 100000 in
theorem lifted (os:Os) (started:os.Started) (H:Type) (enc:TypeId×Value→H) :
  ReturnsInHanded {} Tryz.checked os 8 .any (fun w args=>(Rows.replicaActsSpec.pre enc Tryz.prog Tryz.f8 [] false w args∧laidMetH Tryz.prog Rows.replicaActsRow.laid w)∧sizedMet enc Tryz.prog Tryz.f8 (OpenSpec.ofChange Rows.replicaActsSpec) false w args)
   (Rows.replicaActsSpec.post enc Tryz.prog Tryz.f8 false true false false):=by
 refine returnsInHanded_of_change_and (C:=Tryz.checked) (X:=fun w _=>laidMetH Tryz.prog Rows.replicaActsRow.laid w) (fun _ _ _ hh h=>h.of_heap hh) own started (by kernel_rfl) Tryz.func8
  (ChangeSpec.witness_shaped (enc:=enc) (C:=Tryz.checked) (os:=os) (X:=fun w _=>laidMetH Tryz.prog Rows.replicaActsRow.laid w) false (World.doorLaid Tryz.prog 400 os) #[.int .i64 0,.slice none 0 0,.agg #[.int .i64 0,.int .i64 0,.int .i64 0,.int .i64 0],.int .i64 0] 8 rfl (World.shaped_of_RefB (by kernel_rfl) (by kernel_rfl)) (by kernel_rfl) (by kernel_rfl) (by kernel_rfl) (door_met os _)) ?_
 intro W base args ds gs before hval0 hW _ _ hL hsz0
 have hval:∀ (j:Nat) t v,Tryz.f8.params[j]?=some t→args[j]?=some v→Value.okWide Tryz.prog W .any base t v:=hval0
 have hW':=hW
 obtain ⟨p,q,hA0,hV,rfl,hfz,hnd⟩:=hW
 have hA:DataW.TrodAll enc Tryz.prog W 0 (fun _=>true) true Tryz.f8.params.toList args.toList ds p:=hA0
 rw [Tryz.params8] at hA hval
 obtain ⟨v0,vs0,d0,ds0,p0,q0,hargs,rfl,rfl,h0,r0⟩:=trodAll_cons hA
 obtain ⟨v1,vs1,d1,ds1,p1,q1,rfl,rfl,rfl,h1,r1⟩:=trodAll_cons r0
 obtain ⟨v2,vs2,d2,ds2,p2,q2,rfl,rfl,rfl,h2,r2⟩:=trodAll_cons r1
 obtain ⟨v3,vs3,d3,ds3,p3,q3,rfl,rfl,rfl,h3,r3⟩:=trodAll_cons r2
 obtain ⟨rfl,rfl,rfl⟩:=trodAll_nil r3
 obtain rfl:args=#[v0,v1,v2,v3]:=by cases args;simp_all
 obtain ⟨rfl,rfl⟩:=trodVars_none hV
 have k0:=h0
 have lt0:∀ x∈p0,x.block < W.heap.size:=by obtain ⟨m,hm⟩:=k0;exact DataW.trod_lt m _ _ _ hm
 have k1:=h1
 have lt1:∀ x∈p1,x.block < W.heap.size:=by obtain ⟨m,hm⟩:=k1;exact DataW.trod_lt m _ _ _ hm
 have k2:=h2
 have lt2:∀ x∈p2,x.block < W.heap.size:=by obtain ⟨m,hm⟩:=k2;exact DataW.trod_lt m _ _ _ hm
 have k3:=h3
 have lt3:∀ x∈p3,x.block < W.heap.size:=by obtain ⟨m,hm⟩:=k3;exact DataW.trod_lt m _ _ _ hm
 have hwalk:=walk_of W (by exact hL) (hval 0 3 v0 rfl rfl) h0 (hval 1 85 v1 rfl rfl) h1 (hval 2 47 v2 rfl rfl) h2 (hval 3 3 v3 rfl rfl) h3
 clear hA0 hval0
 refine hwalk.mono fun e W' ⟨he,bel⟩=>?_
 subst he
 exact ⟨_,rfl,_,_,_,[],_,[],hW',trodAll_mk1 (shut_bool Tryz.underlying4 _),(trodAll_cons_mk (Below.trod laidOut rd0 sz0 k0 bel lt0) (trodAll_cons_mk (Below.trod laidOut rd1 sz1 k1 bel lt1) (trodAll_cons_mk (Below.trod laidOut rd2 sz2 k2 bel lt2) (trodAll_cons_mk (Below.trod laidOut rd3 sz3 k3 bel lt3) trodAll_mk0)))),rfl,bel.frame _,fun h=>by cases h⟩
theorem closed:joinedFacts Tryz.pinned.checked.prog 8 Tryz.f8 Rows.replicaActsSpec Rows.replicaActsRow=true:=by
 unfold joinedFacts
 simp only [Bool.and_eq_true]
 repeat' with_reducible apply And.intro
 all_goals as_aux_lemma=>kernel_rfl
theorem named:Tryz.pinned.checked.prog.funcNamed Rows.replicaActsRow.func=some 8:=by kernel_rfl
theorem said:Rows.ReplicaActsSaid:=
 OpenClaim.holds_of_wide 8 Tryz.f8 rfl rfl rfl rfl rfl rfl rfl ⟨rfl,rfl,rfl,rfl,rfl⟩ rfl rfl rfl rfl rfl named Tryz.func8 closed
  (of_decide_eq_true (by kernel_rfl)) (by unfold Func.isWrapper;first | (rw [if_pos (by decide +kernel)];kernel_rfl) | (rw [if_neg (by decide +kernel)];exact ⟨rfl,rfl⟩))
  (fun os started H enc _=>lifted os started H enc)
theorem proved:Rows.ReplicaActsCardSaid:=
 Claim7.holds_tied_plain_at .later [] [.data,.data,.data,.handle,.sentinel,.sentinel,.sentinel,.sentinel,.sentinel,.sentinel,.sentinel,.sentinel,.sentinel,.sentinel,.sentinel,.sentinel] true (true,"964e02bd5ebde6dc6e9677a6a730712edd48cffd1292e3e2a4ee69e5f62cce34") true
  said (fun _ h=>by cases h) (by kernel_rfl) (fun _ h=>by cases h) replicaActs_row_tie rfl ⟨rfl,rfl⟩ (by kernel_rfl) rfl
  (fun f fn hf hfn=>by
   obtain rfl:f=8:=Option.some.inj ((show Tryz.prog.funcNamed "concordat/concordatlaw2.ReplicaActs"=some 8 by kernel_rfl).symm.trans hf) |>.symm
   obtain rfl:fn=Tryz.f8:=(Option.some.inj (Tryz.func8.symm.trans hfn)).symm
   exact ⟨by kernel_rfl,fun j t ht=>by
    rw [Tryz.params8] at ht
    have hm:t∈[47,85,3]:=by have:=Array.mem_of_getElem? ht;simp at this;first | (simp [this];done) | (rcases this with h | h | h | h <;> simp [h];done) | (rcases this with h | h <;> simp [h];done) | (rcases this with h | h | h <;> simp [h])
    have hall:([47,85,3].all fun u=>!Tryz.prog.wantsStandIn u)=true:=by kernel_rfl
    exact (show Tryz.prog.wantsStandIn t=false by simpa using List.all_eq_true.1 hall t hm)⟩)
  (by kernel_rfl)
end replicaActs
end Go.Proofs.YtjekalilfhnpmaaGreatDoor
