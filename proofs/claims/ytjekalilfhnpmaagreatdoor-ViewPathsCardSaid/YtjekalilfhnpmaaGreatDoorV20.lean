/- Cells of marks: those that are not empty, in their order. Operations sorted: the walk of op.Sort. Cells of marks: the walk of Marks. Cells of marks: the plain law: whoever sets and joins, in whatever order, the newest one stays. The document's marks: plain law: a mark laid in; they tell the cells. -/
import Derived.Shelf.SlSortCmp.NoneTotal
import Derived.Lib.SliceRun
import Derived.Test.YtjekalilfhnpmaaGreatDoorV06
import Derived.Test.YtjekalilfhnpmaaGreatDoorV07
import Derived.Test.YtjekalilfhnpmaaGreatDoorV08
import Derived.Test.YtjekalilfhnpmaaGreatDoorV15
import Derived.Test.YtjekalilfhnpmaaGreatDoorV16
import Derived.Test.YtjekalilfhnpmaaGreatDoorV19
namespace Go.Proofs.YtjekalilfhnpmaaGreatDoor
open Go Go.RowKit Go.Maps Go.Shelf Go.Lib Go.Sort
set_option linter.unusedVariables false
set_option linter.unusedSimpArgs false
set_option maxHeartbeats 4000000
set_option maxRecDepth 1000000
end Go.Proofs.YtjekalilfhnpmaaGreatDoor
namespace Go.Proofs.YtjekalilfhnpmaaGreatDoor
open Go Go.RowKit Go.Shelf Go.Lib Go.Sort Stb
set_option linter.unusedVariables false
set_option linter.unusedSimpArgs false
set_option maxHeartbeats 4000000
set_option maxRecDepth 1000000
theorem less_grow (t b t' b':Int) (w:World) :
  Calls Tryz.prog 119 #[stampV t b,stampV t' b'] w fun e w'=>e=.returned (.bool (decide (t < t'∨t=t'∧b < b')))∧∃ q os',w'=grow (w.drewN q) os':=by
 by_cases h1:t=t'
 ·subst h1
  go_enter Tryz.func119,Tryz.ntmps119
  go_wp2
  go_ret
  exact ⟨by simp,0,_,by rw [alloc_eq_grow,alloc_eq_grow,grow_grow];rfl⟩
 ·go_enter Tryz.func119,Tryz.ntmps119
  go_wp2
  go_ret
  exact ⟨by simp [h1],0,_,by rw [alloc_eq_grow,alloc_eq_grow,grow_grow];rfl⟩
theorem grow_drewN (w:World) (os:Array Obj) (q:Nat):(grow w os).drewN q=grow (w.drewN q) os:=rfl
theorem drewN_drewN (w:World) (q r:Nat):(w.drewN q).drewN r=w.drewN (q+r):=by unfold World.drewN;simp [Nat.add_assoc]
theorem opCmp_any (x y:OpT) (W:World):Calls Tryz.prog 118 #[opV x,opV y] W fun e w'=>e=.returned (.int .i64 (opCmp x y))∧∃ q os',w'=grow (W.drewN q) os':=by
 obtain ⟨R,hR⟩:∃ R,opCmp x y=R:=⟨_,rfl⟩
 have HR:=Lib.hid hR
 have HL1:Hid (∀ w,Calls Tryz.prog 119 #[stampV x.t x.b,stampV y.t y.b] w fun e w'=>e=.returned (.bool (opLt x y))∧∃ q os',w'=grow (w.drewN q) os'):=Lib.hid fun w=>less_grow _ _ _ _ w
 have HL2:Hid (∀ w,Calls Tryz.prog 119 #[stampV y.t y.b,stampV x.t x.b] w fun e w'=>e=.returned (.bool (opLt y x))∧∃ q os',w'=grow (w.drewN q) os'):=Lib.hid fun w=>less_grow _ _ _ _ w
 rw [hR]
 obtain ⟨l1,h1⟩:∃ l1,opLt x y=l1:=⟨_,rfl⟩
 obtain ⟨l2,h2⟩:∃ l2,opLt y x=l2:=⟨_,rfl⟩
 have hR2:R=if l1 then -1 else if l2 then 1 else 0:=by rw [←hR,←h1,←h2];rfl
 have HR2:=Lib.hid hR2
 rw [h1] at HL1
 rw [h2] at HL2
 clear h1 h2 hR hR2
 have HQ:Hid (∀ q os,(grow (((W.alloc (.cells x.cells 31)).alloc (.cells y.cells 31)).drewN q) os).cell? ⟨W.heap.size,0,none⟩=some (.int .i64 x.t)∧(grow (((W.alloc (.cells x.cells 31)).alloc (.cells y.cells 31)).drewN q) os).cell? ⟨W.heap.size,1,none⟩=some (.int .i64 x.b)∧
   (grow (((W.alloc (.cells x.cells 31)).alloc (.cells y.cells 31)).drewN q) os).cell? ⟨W.heap.size+1,0,none⟩=some (.int .i64 y.t)∧(grow (((W.alloc (.cells x.cells 31)).alloc (.cells y.cells 31)).drewN q) os).cell? ⟨W.heap.size+1,1,none⟩=some (.int .i64 y.b)):=Lib.hid fun q os=>by
  obtain ⟨W1,hW1⟩:∃ W1,W1=(W.alloc (.cells x.cells 31)).alloc (.cells y.cells 31):=⟨_,rfl⟩
  have hs:W1.heap.size=W.heap.size+2:=by rw [hW1];simp
  rw [←hW1]
  have g:∀ a:Addr,a.block < W1.heap.size→(grow (W1.drewN q) os).cell? a=W1.cell? a:=fun a ha=>(cell?_grow (W1.drewN q) os a ha).trans rfl
  rw [g _ (by simp;omega),g _ (by simp;omega),g _ (by simp;omega),g _ (by simp;omega),hW1]
  simp [go_sem]
 cases l1 with
 | true=>
  go_enter Tryz.func118,Tryz.ntmps118
  go_wp2_with fail
  refine (HL1.out _).mono ?_
  rintro e w1 ⟨rfl,q,os,rfl⟩
  go_wp2_with fail
  go_ret
  exact ⟨by rw [HR2.out];rfl,q,_,by rw [alloc_eq_grow,alloc_eq_grow,grow_grow,grow_drewN,grow_grow]⟩
 | false=>
  cases l2 with
  | true=>
   go_enter Tryz.func118,Tryz.ntmps118
   go_wp2_with fail
   refine (HL1.out _).mono ?_
   rintro e w1 ⟨rfl,q,os,hw1⟩
   have cc:=HQ.out q os
   rw [←hw1] at cc
   obtain ⟨c0,c1,c2,c3⟩:=cc
   have HW1:=Lib.hid hw1
   clear hw1
   go_wp2_with fail
   refine (HL2.out _).mono ?_
   rintro e w2 ⟨rfl,q',os',hw2⟩
   have HW2:=Lib.hid hw2
   clear hw2 c0 c1 c2 c3
   go_wp2_with fail
   go_ret
   exact ⟨by rw [HR2.out];rfl,q+q',#[.cells x.cells 31]++#[.cells y.cells 31]++os++os',by rw [HW2.out,HW1.out];simp only [alloc_eq_grow,grow_grow,grow_drewN,drewN_drewN,Array.append_assoc]⟩
  | false=>
   go_enter Tryz.func118,Tryz.ntmps118
   go_wp2_with fail
   refine (HL1.out _).mono ?_
   rintro e w1 ⟨rfl,q,os,hw1⟩
   have cc:=HQ.out q os
   rw [←hw1] at cc
   obtain ⟨c0,c1,c2,c3⟩:=cc
   have HW1:=Lib.hid hw1
   clear hw1
   go_wp2_with fail
   refine (HL2.out _).mono ?_
   rintro e w2 ⟨rfl,q',os',hw2⟩
   have HW2:=Lib.hid hw2
   clear hw2 c0 c1 c2 c3
   go_wp2_with fail
   go_ret
   exact ⟨by rw [HR2.out];rfl,q+q',#[.cells x.cells 31]++#[.cells y.cells 31]++os++os',by rw [HW2.out,HW1.out];simp only [alloc_eq_grow,grow_grow,grow_drewN,drewN_drewN,Array.append_assoc]⟩
theorem opsClone_any (v:Value) (L:List OpT) (w:World) (hs:SlV opE w v L) (hn:L.length≤100000) :
  Calls Tryz.prog 61 #[v] w fun e w'=>∃ v',e=.returned v'∧Rw opE 31 w.heap.size v' L w'∧Below w.heap.size w w':=by
 have q22:∀ (w:World) (a:Option Addr) (n c n' c':Nat),(binOp .eql 36 (.slice a n c) (.slice none n' c')).run Tryz.prog w=.ok (.bool a.isNone) w:=fun w a n c n' c'=>Lib.run_eql_slice_nil w _ _ a n c n' c' Tryz.underlying36
 rcases hs with ⟨rfl,rfl⟩ | ⟨p,c,rfl,h1,h3⟩
 ·go_enter Tryz.func61,Tryz.ntmps61
  go_wp2_with fail
  go_ret
  exact ⟨_,rfl,Rw.nil _ _ _ _,by go_grown⟩
 ·obtain ⟨n,hn1⟩:∃ n,n=L.length:=⟨_,rfl⟩
  have HN:=Lib.hid hn1
  have hs:SlV opE w (.slice (some p) n c) L:=.inr ⟨p,c,by rw [hn1],h1,h3⟩
  have HS:=Lib.hid hs
  rw [←hn1] at hn h1 ⊢
  clear h3 hs hn1
  go_enter Tryz.func61,Tryz.ntmps61
  go_wp2_with (at_builtin;refine wpList_append_rows rfl _ _ 36 rfl opE w.heap.size 31 (opV ⟨0,0,0,0,0,0,⟨#[]⟩,⟨#[]⟩⟩) 80 Tryz.underlying36 infoOp rfl (by decide) _ _ [] L rfl rfl (World.ownsRow_made w #[] 0 (Nat.le_refl _) (Nat.zero_le _) (by simp)) (HS.out.below ((Below.refl _ _).alloc (Nat.le_refl _) _)) ?e1 ?e2 ?e3 ?_)
  case e1=>have:=HN.out;simp [maxLen];omega
  case e2=>have:=HN.out;simp;omega
  case e3=>simp
  intro v1 w1 hr1 hg1
  have HR1:=Lib.hid hr1
  have HB1:Hid (Below w.heap.size w w1):=Lib.hid (((Below.refl _ _).alloc (Nat.le_refl _) _).grown hg1 (by simp) (fun k hk=>by simp [Value.ownBlock] at hk;omega))
  clear hr1 hg1 q22
  go_wp2_with fail
  go_ret
  exact ⟨_,rfl,by have:=HR1.out;simpa using this,HB1.out⟩
theorem rw_addr {T:Type} {E:Enc T} {ty:TypeId} {base:Nat} {v:Value} {L:List T} {w:World} (h:Rw E ty base v L w):(v=.slice none 0 0∧L=[])∨∃ g cap,v=.slice (some ⟨g,0,none⟩) L.length cap∧base≤g:=by
 rcases h.form with h | ⟨g,cap,h1,_,_,h2,_⟩
 ·exact .inl h
 ·exact .inr ⟨g,cap,h1,h2⟩
theorem opStable_nil (w:World) (fv:Value):Calls Tryz.prog 164 #[.slice none 0 0,.int .i64 0,fv] w fun e w'=>e=.returned (.tuple #[])∧w'=w:=by
 have HC:Hid (∀ w,Calls Tryz.prog 201 #[.slice none 0 0,.int .i64 0,.int .i64 0,fv] w fun e w'=>e=.returned (.tuple #[])∧w'=w):=Lib.hid fun w=>AnyF.insertionSortCmpFunc_none stbL.ins none 0 fv w
 go_enter Tryz.func164,Tryz.ntmps164
 go_wp2_with fail
 go_loopw [7,8] (fun v7 v8 wr=>v7=.int .i64 0∧v8=.int .i64 20∧wr=w) (fun _ _ _=>0)
 case atStart=>exact ⟨rfl,rfl,rfl⟩
 case round=>
  obtain ⟨rfl,rfl,rfl⟩:=hrel
  go_wp2_with fail
  refine (HC.out _).mono ?_
  rintro e w1 ⟨rfl,rfl⟩
  go_wp2_with fail
  go_loopw [6] (fun v6 wr=>v6=.int .i64 20∧wr=w1) (fun _ _=>0)
  case atStart=>exact ⟨rfl,rfl⟩
  case round=>
   obtain ⟨rfl,rfl⟩:=hrel
   go_wp2_with fail
   go_end0
   exact ⟨rfl,rfl⟩
theorem opsStable_any (base:Nat) (v:Value) (L:List OpT) (w:World) (h:Rw opE 31 base v L w) (hb:base≤w.heap.size) (hn:L.length≤100000) :
  Calls Tryz.prog 164 #[v,.int .i64 L.length,.func (.func 118) #[] #[]] w fun e w'=>e=.returned (.tuple #[])∧Rw opE 31 base v (sortOps L) w'∧Below base w w':=by
 rcases rw_addr h with ⟨rfl,rfl⟩ | ⟨g,cap,rfl,hg⟩
 ·refine (opStable_nil w _).mono ?_
  rintro e w' ⟨rfl,rfl⟩
  exact ⟨rfl,h,Below.refl _ _⟩
 ·obtain ⟨d,hd⟩:∃ d:Array (OpT×Nat),d=L.zipIdx.toArray:=⟨_,rfl⟩
  have hdl:d.toList.map Prod.fst=L:=by rw [hd];simp
  have hds:d.size=L.length:=by rw [hd];simp
  have R:=h.rowK (f:=Prod.fst) hdl
  have hS:SWO (ltOf cmpTag):=by rw [ltOf_cmpTag];exact swo_fst swo_opLt
  have eg:∀ args w,(callFunc 118 args).run Tryz.prog w=.ok (.enter 118 args) w:=enters_of Tryz.func118 (by kernel_rfl) rfl
  have hC:CmpLays Tryz.prog 118 #[] (encBy opE Prod.fst) 8 cmpTag g 0 d.size w:=fun m os dk hk x y=>opCmp_any x.1 y.1 _
  have hE:∀ p q,p < q→q < d.size→Ear Prod.snd d[p]! d[q]!:=fun p q h1 h2=>by
   unfold Ear
   rw [getElem!_pos d p (by omega),getElem!_pos d q h2]
   have h3:q < L.length:=by omega
   subst hd
   simpa using h1
  have:=stable_any stbL cmpTag hS Prod.snd 118 #[] g 0 cap d w R eg hC (by omega) hE
  rw [hds] at this
  refine this.mono ?_
  rintro e w' ⟨rfl,d',hp,ht,hW⟩
  have hs':=hp.1
  obtain ⟨hr,hbb⟩:=h.sorted (f:=Prod.fst) hdl hs' hW
  have hst:StS opLt L (d'.toList.map Prod.fst):=by
   refine ⟨d'.toList,rfl,?_,?_⟩
   ·have:=hp.2.2
    rw [show L.length=d'.size by omega,Array.extract_size,show d'.size=d.size by omega,Array.extract_size,hd] at this
    simpa using this
   ·rw [List.pairwise_iff_getElem]
    intro i j hi hj hij
    simp at hi hj
    have:=ht i j (by omega) hij (by omega)
    rw [getElem!_pos d' i hi,getElem!_pos d' j hj] at this
    unfold TL at this
    rw [ltOf_cmpTag] at this
    simpa using this
  have e:=StS.unique swo_opLt hst (sortL_sts swo_opLt L)
  rw [e] at hr
  exact ⟨rfl,hr,hbb hb⟩
theorem opsSortStable_any (base:Nat) (v:Value) (L:List OpT) (w:World) (h:Rw opE 31 base v L w) (hb:base≤w.heap.size) (hn:L.length≤100000) :
  Calls Tryz.prog 117 #[v,.func (.func 118) #[] #[]] w fun e w'=>e=.returned (.tuple #[])∧Rw opE 31 base v (sortOps L) w'∧Below base w w':=by
 have HC:=Lib.hid (opsStable_any base v L w h hb hn)
 obtain ⟨A,m,c,rfl⟩:=h.slice
 obtain rfl:m=L.length:=h.sl.len
 clear h
 go_enter Tryz.func117,Tryz.ntmps117
 go_wp2_with fail
 refine HC.out.mono ?_
 rintro e w1 ⟨rfl,h1,h2⟩
 go_wp2_with fail
 go_end0
 exact ⟨rfl,h1,h2⟩
theorem opSort_any (v:Value) (L:List OpT) (w:World) (hs:SlV opE w v L) (hn:L.length≤100000) :
  Calls Tryz.prog 58 #[v] w fun e w'=>∃ v',e=.returned v'∧Rw opE 31 w.heap.size v' (sortOps L) w'∧Below w.heap.size w w':=by
 have HC:=Lib.hid (opsClone_any v L w hs hn)
 clear hs
 go_enter Tryz.func58,Tryz.ntmps58
 go_wp2_with fail
 refine HC.out.mono ?_
 rintro e w1 ⟨v1,rfl,h1,h2⟩
 have HS:=Lib.hid (opsSortStable_any w.heap.size v1 L w1 h1 h2.size hn)
 have HB:=Lib.hid h2
 clear h1 h2 HC
 go_wp2_with fail
 refine HS.out.mono ?_
 rintro e w2 ⟨rfl,h3,h4⟩
 have HR:=Lib.hid h3
 have HB2:=Lib.hid h4
 clear h3 h4 HS
 go_wp2_with fail
 go_ret
 exact ⟨_,rfl,HR.out,HB.out.trans HB2.out⟩
end Go.Proofs.YtjekalilfhnpmaaGreatDoor
namespace Go.Proofs.YtjekalilfhnpmaaGreatDoor
open Go Go.RowKit Go.Maps Go.Shelf Go.Lib Go.Sort
set_option linter.unusedVariables false
set_option linter.unusedSimpArgs false
set_option maxHeartbeats 4000000
set_option maxRecDepth 1000000
end Go.Proofs.YtjekalilfhnpmaaGreatDoor
namespace Go.Proofs.YtjekalilfhnpmaaGreatDoor
open Go Go.RowKit Go.Maps
set_option linter.unusedVariables false
set_option linter.unusedSimpArgs false
set_option maxHeartbeats 1000000
set_option maxRecDepth 100000
def InL (L:List OpT) (k:KeyT) (c:CellT):Prop:=∃ o∈L,opErr o=0∧o.k=115∧(o.nd,o.nm)=k∧c=⟨o.vl,o.t,o.b⟩
theorem InL.nil (k:KeyT) (c:CellT):¬ InL [] k c:=fun ⟨o,h,_⟩=>by simp at h
theorem InL.app (L M:List OpT) (k:KeyT) (c:CellT):InL (L++M) k c↔InL L k c∨InL M k c:=by
 constructor
 ·rintro ⟨o,h,r⟩
  rcases List.mem_append.1 h with h | h
  ·exact .inl ⟨o,h,r⟩
  ·exact .inr ⟨o,h,r⟩
 ·rintro (⟨o,h,r⟩ | ⟨o,h,r⟩)
  ·exact ⟨o,List.mem_append.2 (.inl h),r⟩
  ·exact ⟨o,List.mem_append.2 (.inr h),r⟩
structure Best (S:CellT→Prop) (r:Option CellT):Prop where
 no:r=none→∀ c,¬ S c
 is:∀ c,r=some c→S c∧∀ c',S c'→cLt c c'=false
theorem cLt_iff (a b:CellT):cLt a b=true↔a.t < b.t∨a.t=b.t∧a.b < b.b:=by simp [cLt]
theorem cLt_not (a b:CellT):cLt a b=false↔¬ (a.t < b.t∨a.t=b.t∧a.b < b.b):=by simp [cLt]
theorem Best.one {S:CellT→Prop} (hu:∀ c c',S c→S c'→c.t=c'.t→c.b=c'.b→c=c') {r r':Option CellT} (h:Best S r) (h':Best S r'):r=r':=by
 cases hr:r with
 | none=>
  cases hr':r' with
  | none=>rfl
  | some c=>exact absurd (h'.is c hr').1 (h.no hr c)
 | some c=>
  cases hr':r' with
  | none=>exact absurd (h.is c hr).1 (h'.no hr' c)
  | some c'=>
   obtain ⟨h1,h2⟩:=h.is c hr
   obtain ⟨h3,h4⟩:=h'.is c' hr'
   have e1:=(cLt_not _ _).1 (h2 c' h3)
   have e2:=(cLt_not _ _).1 (h4 c h1)
   rw [hu c c' h1 h3 (by omega) (by omega)]
def BestAll (S:KeyT→CellT→Prop) (m:MapC):Prop:=∀ k,KeyOk k→Best (S k) (m k)
theorem BestAll.congr {S S':KeyT→CellT→Prop} {m:MapC} (h:BestAll S m) (e:∀ k c,S' k c↔S k c):BestAll S' m:=fun k hk=>
 ⟨fun hn c hc=>(h k hk).no hn c ((e k c).1 hc),fun c hc=>⟨(e k c).2 ((h k hk).is c hc).1,fun c' hc'=>((h k hk).is c hc).2 c' ((e k c').1 hc')⟩⟩
theorem BestAll.start:BestAll (InL []) (fun _=>none):=fun k _=>⟨fun _ c=>InL.nil k c,fun c h=>(by cases h)⟩
theorem BestAll.join {S T:KeyT→CellT→Prop} {m m':MapC} (h:BestAll S m) (h':BestAll T m'):BestAll (fun k c=>S k c∨T k c) (joinC m m'):=by
 intro k hk
 have b1:=h k hk
 have b2:=h' k hk
 unfold joinC
 cases h1:m k with
 | none=>
  cases h2:m' k with
  | none=>exact ⟨fun _ c hc=>hc.elim (b1.no h1 c) (b2.no h2 c),fun c hc=>by cases hc⟩
  | some c2=>
   obtain ⟨i1,i2⟩:=b2.is c2 h2
   exact ⟨fun e=>(by cases e),fun c hc=>by cases hc;exact ⟨.inr i1,fun c' hc'=>hc'.elim (fun h=>absurd h (b1.no h1 c')) (i2 c')⟩⟩
 | some c1=>
  obtain ⟨j1,j2⟩:=b1.is c1 h1
  cases h2:m' k with
  | none=>exact ⟨fun e=>(by cases e),fun c hc=>by cases hc;exact ⟨.inl j1,fun c' hc'=>hc'.elim (j2 c') (fun h=>absurd h (b2.no h2 c'))⟩⟩
  | some c2=>
   obtain ⟨i1,i2⟩:=b2.is c2 h2
   refine ⟨fun e=>(by cases e),fun c hc=>?_⟩
   have hc':(if cLt c1 c2=true then c2 else c1)=c:=Option.some.inj hc
   by_cases hl:cLt c1 c2=true
   ·rw [if_pos hl] at hc'
    subst hc'
    refine ⟨.inr i1,fun c' hc'=>hc'.elim (fun h=>?_) (i2 c')⟩
    have:=(cLt_not _ _).1 (j2 c' h)
    have:=(cLt_iff _ _).1 hl
    rw [cLt_not]
    omega
   ·rw [if_neg hl] at hc'
    subst hc'
    refine ⟨.inl j1,fun c' hc'=>hc'.elim (j2 c') (fun h=>?_)⟩
    have:=(cLt_not _ _).1 (i2 c' h)
    have:=mt (cLt_iff c1 c2).2 hl
    rw [cLt_not]
    omega
theorem BestAll.set {S:KeyT→CellT→Prop} {m:MapC} {o:OpT} (h:BestAll S m):BestAll (fun k c=>S k c∨InL [o] k c) (setC m o).1:=by
 unfold setC
 by_cases he:opErr o≠0
 ·rw [if_pos he]
  exact h.congr (fun k c=>⟨fun hc=>hc.elim id (fun ⟨x,hx,h1,_⟩=>by rw [List.mem_singleton.1 hx] at h1;exact absurd h1 he),.inl⟩)
 ·rw [if_neg he]
  have he0:opErr o=0:=by omega
  by_cases hk:o.k≠115
  ·rw [if_pos hk]
   exact h.congr (fun k c=>⟨fun hc=>hc.elim id (fun ⟨x,hx,_,h2,_⟩=>by rw [List.mem_singleton.1 hx] at h2;exact absurd h2 hk),.inl⟩)
  ·rw [if_neg hk]
   have hk0:o.k=115:=by omega
   intro k hkk
   have b1:=h k hkk
   have hin:∀ c,InL [o] (o.nd,o.nm) c↔c=⟨o.vl,o.t,o.b⟩:=fun c=>⟨fun ⟨x,hx,_,_,_,hc⟩=>by rw [List.mem_singleton.1 hx] at hc;exact hc,fun hc=>⟨o,by simp,he0,hk0,rfl,hc⟩⟩
   by_cases e:k=(o.nd,o.nm)
   ·subst e
    show Best _ ((layC m (o.nd,o.nm) ⟨o.vl,o.t,o.b⟩).1 (o.nd,o.nm))
    rw [layC_same]
    refine ⟨fun e=>(by cases e),fun c hc=>?_⟩
    have hc:=Option.some.inj hc
    cases hm:m (o.nd,o.nm) with
    | none=>
     rw [hm] at hc
     subst hc
     exact ⟨.inr ((hin _).2 rfl),fun c' hc'=>hc'.elim (fun h=>absurd h (b1.no hm c')) (fun h=>by rw [(hin c').1 h,cLt_not];simp)⟩
    | some was=>
     rw [hm] at hc
     obtain ⟨i1,i2⟩:=b1.is was hm
     have hc':(if cLt was ⟨o.vl,o.t,o.b⟩=true then (⟨o.vl,o.t,o.b⟩:CellT) else was)=c:=hc
     by_cases hl:cLt was ⟨o.vl,o.t,o.b⟩=true
     ·rw [if_pos hl] at hc'
      subst hc'
      refine ⟨.inr ((hin _).2 rfl),fun c' hc'=>hc'.elim (fun h=>?_) (fun h=>by rw [(hin c').1 h,cLt_not];simp)⟩
      have h1:=(cLt_not _ _).1 (i2 c' h)
      have h2:=(cLt_iff _ _).1 hl
      rw [cLt_not]
      dsimp only at h2 ⊢
      omega
     ·rw [if_neg hl] at hc'
      subst hc'
      refine ⟨.inl i1,fun c' hc'=>hc'.elim (i2 c') (fun h=>?_)⟩
      rw [(hin c').1 h]
      cases hh:cLt was ⟨o.vl,o.t,o.b⟩ with
      | false=>rfl
      | true=>exact absurd hh hl
   ·show Best _ ((layC m (o.nd,o.nm) ⟨o.vl,o.t,o.b⟩).1 k)
    rw [layC_other e]
    exact ⟨fun hn c hc=>hc.elim (b1.no hn c) (fun ⟨x,hx,_,_,h3,_⟩=>by rw [List.mem_singleton.1 hx] at h3;exact e h3.symm),fun c hc=>⟨.inl (b1.is c hc).1,fun c' hc'=>hc'.elim ((b1.is c hc).2 c') (fun ⟨x,hx,_,_,h3,_⟩=>by rw [List.mem_singleton.1 hx] at h3;exact absurd h3.symm e)⟩⟩
structure DMk where
 nd:Int
 nm:ByteArray
 vl:ByteArray
 t:Int
 b:Int
def DMk.key (x:DMk):KeyT:=(x.nd,x.nm)
def DMk.cell (x:DMk):CellT:=⟨x.vl,x.t,x.b⟩
def DMk.cells (x:DMk):Array Value:=#[.int .i64 x.nd,.string x.nm,.string x.vl,.int .i64 x.t,.int .i64 x.b]
def dmkE:Enc DMk:=⟨fun x=>x.cells.toList,5,fun _=>rfl,fun x v hv=>by
 simp [DMk.cells] at hv
 rcases hv with rfl | rfl | rfl | rfl | rfl <;> rfl⟩
end Go.Proofs.YtjekalilfhnpmaaGreatDoor
