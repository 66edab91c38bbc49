/- Cells of marks: those that are not empty, in their order. Operations sorted: the walk of op.Sort. -/
import Derived.Shelf.SlSortCmp.NoneTotal
import Derived.Lib.SliceRun
import Derived.Test.YtjekalilfhnpmaaGreatDoorQ05
import Derived.Test.YtjekalilfhnpmaaGreatDoorQ06
import Derived.Test.YtjekalilfhnpmaaGreatDoorQ07
import Derived.Test.YtjekalilfhnpmaaGreatDoorQ08
import Derived.Test.YtjekalilfhnpmaaGreatDoorQ11
theorem Go.Proofs.YtjekalilfhnpmaaGreatDoor.κ12 {p:Prop} (h:p):Go.RowKit.Hid p:=Go.Lib.hid h
namespace Go.Proofs.YtjekalilfhnpmaaGreatDoor
open Go Go.RowKit Go.Maps Go.Shelf Go.Lib Go.Sort
set_option linter.unusedVariables false
set_option linter.unusedSimpArgs false
set_option maxHeartbeats 4000000
set_option maxRecDepth 1000000
structure MarkT where
 nd:Int
 nm:ByteArray
 vl:ByteArray
def MarkT.key (x:MarkT):KeyT:=(x.nd,x.nm)
def MarkT.cells (x:MarkT):Array Value:=#[.int .i64 x.nd,.string x.nm,.string x.vl]
def markE:Enc MarkT:=⟨fun x=>x.cells.toList,3,fun _=>rfl,fun x v hv=>by
 simp [MarkT.cells] at hv
 rcases hv with rfl | rfl | rfl <;> rfl⟩
theorem infoMark:(Tryz.prog.info? 130).map (fun i=>(i.zero,i.size,i.bytes))=some (some (.agg #[.int .i64 0,.string ⟨#[]⟩,.string ⟨#[]⟩]),3,40):=by kernel_rfl
def markOf (m:MapC) (k:KeyT):MarkT:=⟨k.1,k.2,match m k with | some c=>c.v | none=>⟨#[]⟩⟩
theorem markCmp_any (x y:MarkT) (W:World):Calls Tryz.prog 127 #[.agg x.cells,.agg y.cells] W fun e w'=>e=.returned (.int .i64 (kCmp x.key y.key))∧∃ q os',w'=grow (W.drewN q) os':=by
 have HI:=κ12 (fun w=>cmpI_any x.nd y.nd w)
 have HSc:=κ12 (fun w=>cmpS_any x.nm y.nm w)
 have HE:Hid (kCmp x.key y.key=if iCmp x.nd y.nd=0 then sCmp x.nm y.nm else iCmp x.nd y.nd):=κ12 (kCmp_eq _ _)
 have HO:=κ12 orI_any
 generalize kCmp x.key y.key=R at HE ⊢
 generalize iCmp x.nd y.nd=c1 at HI HE
 generalize sCmp x.nm y.nm=c2 at HSc HE
 obtain ⟨W1,hW1⟩:∃ W1,W1=(W.alloc (.cells x.cells 130)).alloc (.cells y.cells 130):=⟨_,rfl⟩
 have x0:W1.cell? ⟨W.heap.size,0,none⟩=some (.int .i64 x.nd):=by rw [hW1];simp [go_sem,MarkT.cells]
 have x1:W1.cell? ⟨W.heap.size,1,none⟩=some (.string x.nm):=by rw [hW1];simp [go_sem,MarkT.cells]
 have y0:W1.cell? ⟨W.heap.size+1,0,none⟩=some (.int .i64 y.nd):=by rw [hW1];simp [go_sem,MarkT.cells]
 have y1:W1.cell? ⟨W.heap.size+1,1,none⟩=some (.string y.nm):=by rw [hW1];simp [go_sem,MarkT.cells]
 go_enter Tryz.func127,Tryz.ntmps127
 go_wp2_with fail
 rw [←hW1]
 have HW1:=κ12 hW1
 clear hW1
 go_still_tail 10,(by kernel_rfl)
 still_call (HI.out _)
 repeat still_step
 still_call (HSc.out _)
 refine wpStill_nil ?_
 change wpList _ _ _ _ _ W1.drew
 have HW2:Hid (W1.drew=grow (W.drewN 1) (#[.cells x.cells 130]++#[.cells y.cells 130])):=κ12 (by rw [HW1.out,alloc_eq_grow,alloc_eq_grow,grow_grow];rfl)
 clear x0 x1 y0 y1 HW1
 generalize W1.drew=W2 at HW2 ⊢
 have HO2:Hid (∀ o,o=Obj.cells #[.int .i64 c1,.int .i64 c2] 3→Calls Tryz.prog 72 #[.slice (some ⟨W2.heap.size,0,none⟩) 2 2] (W2.alloc o) fun e w'=>e=.returned (.int .i64 R)∧w'=W2.alloc o):=κ12 fun o ho=>by
  rw [HE.out]
  refine HO.out W2.heap.size c1 c2 (W2.alloc o) ?_ ?_ 2
  ·rw [ho];simp [go_sem]
  ·rw [ho];simp [go_sem]
 go_wp2_with fail
 refine (HO2.out _ rfl).mono ?_
 rintro e w3 ⟨rfl,rfl⟩
 go_wp2_with fail
 go_ret
 exact ⟨rfl,1,_,by rw [HW2.out,alloc_eq_grow,grow_grow]⟩
theorem ltOf_kCmp:ltOf kCmp=kLt:=by
 funext x y
 unfold ltOf kCmp
 cases e1:kLt x y <;> cases e2:kLt y x <;> simp
abbrev sortK (ks:List KeyT):List KeyT:=ks.mergeSort fun x y=>!kLt y x
theorem sortK_perm (ks:List KeyT):(sortK ks).Perm ks:=List.mergeSort_perm _ _
theorem sortK_sorted {ks:List KeyT} (h:ks.Pairwise (·≠·)):(sortK ks).Pairwise (fun x y=>kLt x y=true):=by
 have h1:(sortK ks).Pairwise (fun x y=>(!kLt y x)=true):=List.pairwise_mergeSort (fun a b c h1 h2=>by
  simp only [Bool.not_eq_true'] at *
  exact swo_kLt.ntrans c b a h2 h1) (fun a b=>by
  simp only [Bool.or_eq_true,Bool.not_eq_true']
  cases h:kLt b a with
  | false=>exact .inl rfl
  | true=>exact .inr (kLt_asymm h)) ks
 have h2:(sortK ks).Pairwise (·≠·):=((sortK_perm ks).symm.pairwise_iff (fun {a b} h=>Ne.symm h)).1 h
 refine (h1.and h2).imp fun {a b} ⟨ha,hb⟩=>?_
 simp only [Bool.not_eq_true'] at ha
 cases h:kLt a b with
 | true=>rfl
 | false=>exact absurd (kLt_tri h ha) hb
theorem marksSort_any (base g n cap:Nat) (m:MapC) (ks:List KeyT) (w:World) (h:Rw markE 130 base (.slice (some ⟨g,0,none⟩) n cap) (ks.map (markOf m)) w) (hb:base≤w.heap.size) (hl:ks.length≤100000) :
  Calls Tryz.prog 126 #[.slice (some ⟨g,0,none⟩) n cap,.func (.func 127) #[] #[]] w fun e w'=>
   e=.returned (.tuple #[])∧Rw markE 130 base (.slice (some ⟨g,0,none⟩) n cap) ((sortK ks).map (markOf m)) w'∧Below base w w':=by
 have hn:n=ks.toArray.size:=by rw [h.sl.len];simp
 have hd:ks.toArray.toList.map (markOf m)=ks.map (markOf m):=by simp
 have hcmp:CmpLays Tryz.prog 127 #[] (encBy markE (markOf m)) 3 kCmp g 0 ks.toArray.size w:=fun q os dk _ x y=>by
  have:=markCmp_any (markOf m x) (markOf m y) (sortWorldK (encBy markE (markOf m)) 3 w g 0 q dk os)
  exact this
 have:=AnyQ.slices_SortFunc_total Tryz.sortMark 3 (fun w=>by kernel_rfl) (fun w=>by kernel_rfl) (encBy markE (markOf m)) (fun x=>rfl) (fun x=>markE.one _) kCmp (by rw [ltOf_kCmp];exact swo_kLt) 127 #[] g 0 cap ks.toArray w
  (fun args w=>by kernel_rfl) hcmp (h.holdsK hd) (h.lt g rfl).2 (by simp;omega) (by rw [ltOf_kCmp];exact fun x y=>kLt_tri)
 rw [←hn] at this
 refine Calls.mono (show Calls Tryz.prog 126 #[.slice (some ⟨g,0,none⟩) n cap,.func (.func 127) #[] #[]] w _ from this) fun e w' ⟨he,q,os,hw⟩=>?_
 rw [ltOf_kCmp] at hw
 have hS:=h.sorted (d:=ks.toArray) (d':=(sortK ks).toArray) hd (by simp [List.length_mergeSort]) ⟨q,os,hw⟩
 exact ⟨he,by simpa using hS.1,hS.2 hb⟩
end Go.Proofs.YtjekalilfhnpmaaGreatDoor
namespace Go.Proofs.YtjekalilfhnpmaaGreatDoor
open Go Go.RowKit Go.Shelf Go.Lib Go.Sort Stb
set_option linter.unusedVariables false
set_option linter.unusedSimpArgs false
set_option maxHeartbeats 4000000
set_option maxRecDepth 1000000
theorem less_grow (t b t' b':Int) (w:World) :
  Calls Tryz.prog 119 #[stampV t b,stampV t' b'] w fun e w'=>e=.returned (.bool (decide (t < t'∨t=t'∧b < b')))∧∃ q os',w'=grow (w.drewN q) os':=by
 by_cases h1:t=t'
 ·subst h1
  go_enter Tryz.func119,Tryz.ntmps119
  go_wp2
  go_ret
  exact ⟨by simp,0,_,by rw [alloc_eq_grow,alloc_eq_grow,grow_grow];rfl⟩
 ·go_enter Tryz.func119,Tryz.ntmps119
  go_wp2
  go_ret
  exact ⟨by simp [h1],0,_,by rw [alloc_eq_grow,alloc_eq_grow,grow_grow];rfl⟩
theorem grow_drewN (w:World) (os:Array Obj) (q:Nat):(grow w os).drewN q=grow (w.drewN q) os:=rfl
theorem drewN_drewN (w:World) (q r:Nat):(w.drewN q).drewN r=w.drewN (q+r):=by unfold World.drewN;simp [Nat.add_assoc]
theorem opCmp_any (x y:OpT) (W:World):Calls Tryz.prog 118 #[opV x,opV y] W fun e w'=>e=.returned (.int .i64 (opCmp x y))∧∃ q os',w'=grow (W.drewN q) os':=by
 obtain ⟨R,hR⟩:∃ R,opCmp x y=R:=⟨_,rfl⟩
 have HR:=κ12 hR
 have HL1:Hid (∀ w,Calls Tryz.prog 119 #[stampV x.t x.b,stampV y.t y.b] w fun e w'=>e=.returned (.bool (opLt x y))∧∃ q os',w'=grow (w.drewN q) os'):=κ12 fun w=>less_grow _ _ _ _ w
 have HL2:Hid (∀ w,Calls Tryz.prog 119 #[stampV y.t y.b,stampV x.t x.b] w fun e w'=>e=.returned (.bool (opLt y x))∧∃ q os',w'=grow (w.drewN q) os'):=κ12 fun w=>less_grow _ _ _ _ w
 rw [hR]
 obtain ⟨l1,h1⟩:∃ l1,opLt x y=l1:=⟨_,rfl⟩
 obtain ⟨l2,h2⟩:∃ l2,opLt y x=l2:=⟨_,rfl⟩
 have hR2:R=if l1 then -1 else if l2 then 1 else 0:=by rw [←hR,←h1,←h2];rfl
 have HR2:=κ12 hR2
 rw [h1] at HL1
 rw [h2] at HL2
 clear h1 h2 hR hR2
 have HQ:Hid (∀ q os,(grow (((W.alloc (.cells x.cells 31)).alloc (.cells y.cells 31)).drewN q) os).cell? ⟨W.heap.size,0,none⟩=some (.int .i64 x.t)∧(grow (((W.alloc (.cells x.cells 31)).alloc (.cells y.cells 31)).drewN q) os).cell? ⟨W.heap.size,1,none⟩=some (.int .i64 x.b)∧
   (grow (((W.alloc (.cells x.cells 31)).alloc (.cells y.cells 31)).drewN q) os).cell? ⟨W.heap.size+1,0,none⟩=some (.int .i64 y.t)∧(grow (((W.alloc (.cells x.cells 31)).alloc (.cells y.cells 31)).drewN q) os).cell? ⟨W.heap.size+1,1,none⟩=some (.int .i64 y.b)):=κ12 fun q os=>by
  obtain ⟨W1,hW1⟩:∃ W1,W1=(W.alloc (.cells x.cells 31)).alloc (.cells y.cells 31):=⟨_,rfl⟩
  have hs:W1.heap.size=W.heap.size+2:=by rw [hW1];simp
  rw [←hW1]
  have g:∀ a:Addr,a.block < W1.heap.size→(grow (W1.drewN q) os).cell? a=W1.cell? a:=fun a ha=>(cell?_grow (W1.drewN q) os a ha).trans rfl
  rw [g _ (by simp;omega),g _ (by simp;omega),g _ (by simp;omega),g _ (by simp;omega),hW1]
  simp [go_sem]
 cases l1 with
 | true=>
  go_enter Tryz.func118,Tryz.ntmps118
  go_wp2_with fail
  refine (HL1.out _).mono ?_
  rintro e w1 ⟨rfl,q,os,rfl⟩
  go_wp2_with fail
  go_ret
  exact ⟨by rw [HR2.out];rfl,q,_,by rw [alloc_eq_grow,alloc_eq_grow,grow_grow,grow_drewN,grow_grow]⟩
 | false=>
  cases l2 with
  | true=>
   go_enter Tryz.func118,Tryz.ntmps118
   go_wp2_with fail
   refine (HL1.out _).mono ?_
   rintro e w1 ⟨rfl,q,os,hw1⟩
   have cc:=HQ.out q os
   rw [←hw1] at cc
   obtain ⟨c0,c1,c2,c3⟩:=cc
   have HW1:=κ12 hw1
   clear hw1
   go_wp2_with fail
   refine (HL2.out _).mono ?_
   rintro e w2 ⟨rfl,q',os',hw2⟩
   have HW2:=κ12 hw2
   clear hw2 c0 c1 c2 c3
   go_wp2_with fail
   go_ret
   exact ⟨by rw [HR2.out];rfl,q+q',#[.cells x.cells 31]++#[.cells y.cells 31]++os++os',by rw [HW2.out,HW1.out];simp only [alloc_eq_grow,grow_grow,grow_drewN,drewN_drewN,Array.append_assoc]⟩
  | false=>
   go_enter Tryz.func118,Tryz.ntmps118
   go_wp2_with fail
   refine (HL1.out _).mono ?_
   rintro e w1 ⟨rfl,q,os,hw1⟩
   have cc:=HQ.out q os
   rw [←hw1] at cc
   obtain ⟨c0,c1,c2,c3⟩:=cc
   have HW1:=κ12 hw1
   clear hw1
   go_wp2_with fail
   refine (HL2.out _).mono ?_
   rintro e w2 ⟨rfl,q',os',hw2⟩
   have HW2:=κ12 hw2
   clear hw2 c0 c1 c2 c3
   go_wp2_with fail
   go_ret
   exact ⟨by rw [HR2.out];rfl,q+q',#[.cells x.cells 31]++#[.cells y.cells 31]++os++os',by rw [HW2.out,HW1.out];simp only [alloc_eq_grow,grow_grow,grow_drewN,drewN_drewN,Array.append_assoc]⟩
theorem opsClone_any (v:Value) (L:List OpT) (w:World) (hs:SlV opE w v L) (hn:L.length≤100000) :
  Calls Tryz.prog 61 #[v] w fun e w'=>∃ v',e=.returned v'∧Rw opE 31 w.heap.size v' L w'∧Below w.heap.size w w':=by
 have q22:∀ (w:World) (a:Option Addr) (n c n' c':Nat),(binOp .eql 36 (.slice a n c) (.slice none n' c')).run Tryz.prog w=.ok (.bool a.isNone) w:=fun w a n c n' c'=>Lib.run_eql_slice_nil w _ _ a n c n' c' Tryz.underlying36
 rcases hs with ⟨rfl,rfl⟩ | ⟨p,c,rfl,h1,h3⟩
 ·go_enter Tryz.func61,Tryz.ntmps61
  go_wp2_with fail
  go_ret
  exact ⟨_,rfl,Rw.nil _ _ _ _,by go_grown⟩
 ·obtain ⟨n,hn1⟩:∃ n,n=L.length:=⟨_,rfl⟩
  have HN:=κ12 hn1
  have hs:SlV opE w (.slice (some p) n c) L:=.inr ⟨p,c,by rw [hn1],h1,h3⟩
  have HS:=κ12 hs
  rw [←hn1] at hn h1 ⊢
  clear h3 hs hn1
  go_enter Tryz.func61,Tryz.ntmps61
  go_wp2_with (at_builtin;refine wpList_append_rows rfl _ _ 36 rfl opE w.heap.size 31 (opV ⟨0,0,0,0,0,0,⟨#[]⟩,⟨#[]⟩⟩) 80 Tryz.underlying36 infoOp rfl (by decide) _ _ [] L rfl rfl (World.ownsRow_made w #[] 0 (Nat.le_refl _) (Nat.zero_le _) (by simp)) (HS.out.below ((Below.refl _ _).alloc (Nat.le_refl _) _)) ?e1 ?e2 ?e3 ?_)
  case e1=>have:=HN.out;simp [maxLen];omega
  case e2=>have:=HN.out;simp;omega
  case e3=>simp
  intro v1 w1 hr1 hg1
  have HR1:=κ12 hr1
  have HB1:Hid (Below w.heap.size w w1):=κ12 (((Below.refl _ _).alloc (Nat.le_refl _) _).grown hg1 (by simp) (fun k hk=>by simp [Value.ownBlock] at hk;omega))
  clear hr1 hg1 q22
  go_wp2_with fail
  go_ret
  exact ⟨_,rfl,by have:=HR1.out;simpa using this,HB1.out⟩
theorem rw_addr {T:Type} {E:Enc T} {ty:TypeId} {base:Nat} {v:Value} {L:List T} {w:World} (h:Rw E ty base v L w):(v=.slice none 0 0∧L=[])∨∃ g cap,v=.slice (some ⟨g,0,none⟩) L.length cap∧base≤g:=by
 rcases h.form with h | ⟨g,cap,h1,_,_,h2,_⟩
 ·exact .inl h
 ·exact .inr ⟨g,cap,h1,h2⟩
theorem opStable_nil (w:World) (fv:Value):Calls Tryz.prog 164 #[.slice none 0 0,.int .i64 0,fv] w fun e w'=>e=.returned (.tuple #[])∧w'=w:=by
 have HC:Hid (∀ w,Calls Tryz.prog 201 #[.slice none 0 0,.int .i64 0,.int .i64 0,fv] w fun e w'=>e=.returned (.tuple #[])∧w'=w):=κ12 fun w=>AnyF.insertionSortCmpFunc_none stbL.ins none 0 fv w
 go_enter Tryz.func164,Tryz.ntmps164
 go_wp2_with fail
 go_loopw [7,8] (fun v7 v8 wr=>v7=.int .i64 0∧v8=.int .i64 20∧wr=w) (fun _ _ _=>0)
 case atStart=>exact ⟨rfl,rfl,rfl⟩
 case round=>
  obtain ⟨rfl,rfl,rfl⟩:=hrel
  go_wp2_with fail
  refine (HC.out _).mono ?_
  rintro e w1 ⟨rfl,rfl⟩
  go_wp2_with fail
  go_loopw [6] (fun v6 wr=>v6=.int .i64 20∧wr=w1) (fun _ _=>0)
  case atStart=>exact ⟨rfl,rfl⟩
  case round=>
   obtain ⟨rfl,rfl⟩:=hrel
   go_wp2_with fail
   go_end0
   exact ⟨rfl,rfl⟩
theorem opsStable_any (base:Nat) (v:Value) (L:List OpT) (w:World) (h:Rw opE 31 base v L w) (hb:base≤w.heap.size) (hn:L.length≤100000) :
  Calls Tryz.prog 164 #[v,.int .i64 L.length,.func (.func 118) #[] #[]] w fun e w'=>e=.returned (.tuple #[])∧Rw opE 31 base v (sortOps L) w'∧Below base w w':=by
 rcases rw_addr h with ⟨rfl,rfl⟩ | ⟨g,cap,rfl,hg⟩
 ·refine (opStable_nil w _).mono ?_
  rintro e w' ⟨rfl,rfl⟩
  exact ⟨rfl,h,Below.refl _ _⟩
 ·obtain ⟨d,hd⟩:∃ d:Array (OpT×Nat),d=L.zipIdx.toArray:=⟨_,rfl⟩
  have hdl:d.toList.map Prod.fst=L:=by rw [hd];simp
  have hds:d.size=L.length:=by rw [hd];simp
  have R:=h.rowK (f:=Prod.fst) hdl
  have hS:SWO (ltOf cmpTag):=by rw [ltOf_cmpTag];exact swo_fst swo_opLt
  have eg:∀ args w,(callFunc 118 args).run Tryz.prog w=.ok (.enter 118 args) w:=enters_of Tryz.func118 (by kernel_rfl) rfl
  have hC:CmpLays Tryz.prog 118 #[] (encBy opE Prod.fst) 8 cmpTag g 0 d.size w:=fun m os dk hk x y=>opCmp_any x.1 y.1 _
  have hE:∀ p q,p < q→q < d.size→Ear Prod.snd d[p]! d[q]!:=fun p q h1 h2=>by
   unfold Ear
   rw [getElem!_pos d p (by omega),getElem!_pos d q h2]
   have h3:q < L.length:=by omega
   subst hd
   simpa using h1
  have:=stable_any stbL cmpTag hS Prod.snd 118 #[] g 0 cap d w R eg hC (by omega) hE
  rw [hds] at this
  refine this.mono ?_
  rintro e w' ⟨rfl,d',hp,ht,hW⟩
  have hs':=hp.1
  obtain ⟨hr,hbb⟩:=h.sorted (f:=Prod.fst) hdl hs' hW
  have hst:StS opLt L (d'.toList.map Prod.fst):=by
   refine ⟨d'.toList,rfl,?_,?_⟩
   ·have:=hp.2.2
    rw [show L.length=d'.size by omega,Array.extract_size,show d'.size=d.size by omega,Array.extract_size,hd] at this
    simpa using this
   ·rw [List.pairwise_iff_getElem]
    intro i j hi hj hij
    simp at hi hj
    have:=ht i j (by omega) hij (by omega)
    rw [getElem!_pos d' i hi,getElem!_pos d' j hj] at this
    unfold TL at this
    rw [ltOf_cmpTag] at this
    simpa using this
  have e:=StS.unique swo_opLt hst (sortL_sts swo_opLt L)
  rw [e] at hr
  exact ⟨rfl,hr,hbb hb⟩
theorem opsSortStable_any (base:Nat) (v:Value) (L:List OpT) (w:World) (h:Rw opE 31 base v L w) (hb:base≤w.heap.size) (hn:L.length≤100000) :
  Calls Tryz.prog 117 #[v,.func (.func 118) #[] #[]] w fun e w'=>e=.returned (.tuple #[])∧Rw opE 31 base v (sortOps L) w'∧Below base w w':=by
 have HC:=κ12 (opsStable_any base v L w h hb hn)
 obtain ⟨A,m,c,rfl⟩:=h.slice
 obtain rfl:m=L.length:=h.sl.len
 clear h
 go_enter Tryz.func117,Tryz.ntmps117
 go_wp2_with fail
 refine HC.out.mono ?_
 rintro e w1 ⟨rfl,h1,h2⟩
 go_wp2_with fail
 go_end0
 exact ⟨rfl,h1,h2⟩
theorem opSort_any (v:Value) (L:List OpT) (w:World) (hs:SlV opE w v L) (hn:L.length≤100000) :
  Calls Tryz.prog 58 #[v] w fun e w'=>∃ v',e=.returned v'∧Rw opE 31 w.heap.size v' (sortOps L) w'∧Below w.heap.size w w':=by
 have HC:=κ12 (opsClone_any v L w hs hn)
 clear hs
 go_enter Tryz.func58,Tryz.ntmps58
 go_wp2_with fail
 refine HC.out.mono ?_
 rintro e w1 ⟨v1,rfl,h1,h2⟩
 have HS:=κ12 (opsSortStable_any w.heap.size v1 L w1 h1 h2.size hn)
 have HB:=κ12 h2
 clear h1 h2 HC
 go_wp2_with fail
 refine HS.out.mono ?_
 rintro e w2 ⟨rfl,h3,h4⟩
 have HR:=κ12 h3
 have HB2:=κ12 h4
 clear h3 h4 HS
 go_wp2_with fail
 go_ret
 exact ⟨_,rfl,HR.out,HB.out.trans HB2.out⟩
end Go.Proofs.YtjekalilfhnpmaaGreatDoor
