/- A view: places by name, then node (slices.SortFunc at places). A view: List. A view: List is walked. -/
import Derived.Shelf.SlSortCmp.NoneTotal
import Derived.Test.YtjekalilfhnpmaaGreatDoorV04
import Derived.Test.YtjekalilfhnpmaaGreatDoorV07
import Derived.Test.YtjekalilfhnpmaaGreatDoorV15
import Derived.Test.YtjekalilfhnpmaaGreatDoorV20
import Derived.Test.YtjekalilfhnpmaaGreatDoorV28
import Derived.Test.YtjekalilfhnpmaaGreatDoorV33
import Derived.Test.YtjekalilfhnpmaaGreatDoorV34
namespace Go.Proofs.YtjekalilfhnpmaaGreatDoor
open Go Go.RowKit Go.Maps Go.Shelf Go.Lib Go.Sort
set_option linter.unusedVariables false
set_option linter.unusedSimpArgs false
set_option maxHeartbeats 4000000
set_option maxRecDepth 1000000
def vLt (x y:KeyT):Bool:=sLt x.2 y.2 || (decide (x.2=y.2) && decide (x.1 < y.1))
theorem vLt_iff (x y:KeyT):vLt x y=true↔sLt x.2 y.2=true∨x.2=y.2∧x.1 < y.1:=by simp [vLt]
theorem vLt_irrefl (x:KeyT):vLt x x=false:=by
 cases h:vLt x x with
 | false=>rfl
 | true=>
  rcases (vLt_iff x x).1 h with h | ⟨_,h⟩
  ·rw [sLt_irrefl] at h;cases h
  ·omega
theorem vLt_trans {x y z:KeyT} (h:vLt x y=true) (h':vLt y z=true):vLt x z=true:=by
 rw [vLt_iff] at h h' ⊢
 rcases h with h | ⟨e,h⟩ <;> rcases h' with h' | ⟨e',h'⟩
 ·exact .inl (sLt_trans h h')
 ·exact .inl (by rw [←e'];exact h)
 ·exact .inl (by rw [e];exact h')
 ·exact .inr ⟨e.trans e',by omega⟩
theorem vLt_tri {x y:KeyT} (h:vLt x y=false) (h':vLt y x=false):x=y:=by
 have n1:¬ (sLt x.2 y.2=true∨x.2=y.2∧x.1 < y.1):=fun e=>by rw [(vLt_iff x y).2 e] at h;cases h
 have n2:¬ (sLt y.2 x.2=true∨y.2=x.2∧y.1 < x.1):=fun e=>by rw [(vLt_iff y x).2 e] at h';cases h'
 have e2:x.2=y.2:=by
  refine sLt_tri ?_ ?_
  ·cases hh:sLt x.2 y.2 with
   | false=>rfl
   | true=>exact absurd (.inl hh) n1
  ·cases hh:sLt y.2 x.2 with
   | false=>rfl
   | true=>exact absurd (.inl hh) n2
 have h1:¬ x.1 < y.1:=fun hh=>n1 (.inr ⟨e2,hh⟩)
 have h2:¬ y.1 < x.1:=fun hh=>n2 (.inr ⟨e2.symm,hh⟩)
 exact Prod.ext (by omega) e2
theorem vLt_asymm {x y:KeyT} (h:vLt x y=true):vLt y x=false:=by
 cases h':vLt y x with
 | false=>rfl
 | true=>have:=vLt_trans h h';rw [vLt_irrefl] at this;cases this
theorem swo_vLt:SWO vLt where
 irrefl:=vLt_irrefl
 trans x y z h1 h2:=vLt_trans h1 h2
 ntrans x y z h1 h2:=by
  cases h:vLt x z with
  | false=>rfl
  | true=>
   cases h3:vLt y x with
   | true=>have:=vLt_trans h3 h;rw [h2] at this;cases this
   | false=>
    have:=vLt_tri h1 h3
    subst this
    rw [h2] at h;cases h
def vCmp (x y:KeyT):Int:=if vLt x y=true then -1 else if vLt y x=true then 1 else 0
theorem vCmp_eq (x y:KeyT):vCmp x y=if sCmp x.2 y.2=0 then iCmp x.1 y.1 else sCmp x.2 y.2:=by
 unfold vCmp iCmp sCmp
 cases h1:sLt x.2 y.2 with
 | true=>
  rw [if_pos ((vLt_iff x y).2 (.inl h1)),if_pos rfl,if_neg (by omega)]
 | false=>
  cases h2:sLt y.2 x.2 with
  | true=>
   have n1:¬ vLt x y=true:=fun e=>by have:=vLt_asymm ((vLt_iff y x).2 (.inl h2));rw [this] at e;cases e
   rw [if_neg n1,if_pos ((vLt_iff y x).2 (.inl h2))]
   simp
  | false=>
   have e:x.2=y.2:=sLt_tri h1 h2
   have e1:vLt x y=decide (x.1 < y.1):=by unfold vLt;rw [h1];simp [e]
   have e2:vLt y x=decide (y.1 < x.1):=by unfold vLt;rw [h2];simp [e]
   rw [e1,e2]
   simp
theorem ltOf_vCmp:ltOf vCmp=vLt:=by
 funext x y
 unfold ltOf vCmp
 cases e1:vLt x y <;> cases e2:vLt y x <;> simp
def plK (z:Int) (k:KeyT):PlT:=⟨k.1,z,k.2⟩
theorem plCmp_any (z:Int) (x y:KeyT) (W:World):Calls Tryz.prog 71 #[.agg (plCells (plK z x)),.agg (plCells (plK z y))] W fun e w'=>e=.returned (.int .i64 (vCmp x y))∧∃ q os',w'=grow (W.drewN q) os':=by
 have HI:=Lib.hid (fun w=>cmpI_any x.1 y.1 w)
 have HSc:=Lib.hid (fun w=>cmpS_any x.2 y.2 w)
 have HE:Hid (vCmp x y=if sCmp x.2 y.2=0 then iCmp x.1 y.1 else sCmp x.2 y.2):=Lib.hid (vCmp_eq _ _)
 have HO:=Lib.hid orI_any
 generalize vCmp x y=R at HE ⊢
 generalize iCmp x.1 y.1=c1 at HI HE
 generalize sCmp x.2 y.2=c2 at HSc HE
 obtain ⟨xn,xs⟩:=x
 obtain ⟨yn,ys⟩:=y
 simp only [plK,plCells] at *
 obtain ⟨W1,hW1⟩:∃ W1,W1=(W.alloc (.cells #[.int .i64 xn,.int .i64 z,.string xs] 81)).alloc (.cells #[.int .i64 yn,.int .i64 z,.string ys] 81):=⟨_,rfl⟩
 have x0:W1.cell? ⟨W.heap.size,0,none⟩=some (.int .i64 xn):=by rw [hW1];simp [go_sem]
 have x1:W1.cell? ⟨W.heap.size,2,none⟩=some (.string xs):=by rw [hW1];simp [go_sem]
 have y0:W1.cell? ⟨W.heap.size+1,0,none⟩=some (.int .i64 yn):=by rw [hW1];simp [go_sem]
 have y1:W1.cell? ⟨W.heap.size+1,2,none⟩=some (.string ys):=by rw [hW1];simp [go_sem]
 go_enter Tryz.func71,Tryz.ntmps71
 go_wp2_with fail
 rw [←hW1]
 have HW1:=Lib.hid hW1
 clear hW1
 go_still_tail 10,(by kernel_rfl)
 still_call (HSc.out _)
 repeat still_step
 still_call (HI.out _)
 refine wpStill_nil ?_
 change wpList _ _ _ _ _ W1.drew
 have HW2:Hid (W1.drew=grow (W.drewN 1) (#[.cells #[.int .i64 xn,.int .i64 z,.string xs] 81]++#[.cells #[.int .i64 yn,.int .i64 z,.string ys] 81])):=Lib.hid (by rw [HW1.out,alloc_eq_grow,alloc_eq_grow,grow_grow];rfl)
 clear x0 x1 y0 y1 HW1
 generalize W1.drew=W2 at HW2 ⊢
 have HO2:Hid (∀ o,o=Obj.cells #[.int .i64 c2,.int .i64 c1] 3→Calls Tryz.prog 72 #[.slice (some ⟨W2.heap.size,0,none⟩) 2 2] (W2.alloc o) fun e w'=>e=.returned (.int .i64 R)∧w'=W2.alloc o):=Lib.hid fun o ho=>by
  rw [HE.out]
  refine HO.out W2.heap.size c2 c1 (W2.alloc o) ?_ ?_ 2
  ·rw [ho];simp [go_sem]
  ·rw [ho];simp [go_sem]
 go_wp2_with fail
 refine (HO2.out _ rfl).mono ?_
 rintro e w3 ⟨rfl,rfl⟩
 go_wp2_with fail
 go_ret
 exact ⟨rfl,1,_,by rw [HW2.out,alloc_eq_grow,grow_grow]⟩
abbrev sortV (ks:List KeyT):List KeyT:=ks.mergeSort fun x y=>!vLt y x
theorem sortV_perm (ks:List KeyT):(sortV ks).Perm ks:=List.mergeSort_perm _ _
theorem sortV_sorted {ks:List KeyT} (h:ks.Pairwise (·≠·)):(sortV ks).Pairwise (fun x y=>vLt x y=true):=by
 have h1:(sortV ks).Pairwise (fun x y=>(!vLt y x)=true):=List.pairwise_mergeSort (fun a b c h1 h2=>by
  simp only [Bool.not_eq_true'] at *
  exact swo_vLt.ntrans c b a h2 h1) (fun a b=>by
  simp only [Bool.or_eq_true,Bool.not_eq_true']
  cases h:vLt b a with
  | false=>exact .inl rfl
  | true=>exact .inr (vLt_asymm h)) ks
 have h2:(sortV ks).Pairwise (·≠·):=((sortV_perm ks).symm.pairwise_iff (fun {a b} h=>Ne.symm h)).1 h
 refine (h1.and h2).imp fun {a b} ⟨ha,hb⟩=>?_
 simp only [Bool.not_eq_true'] at ha
 cases h:vLt a b with
 | true=>rfl
 | false=>exact absurd (vLt_tri h ha) hb
theorem placeSort_any (base g n cap:Nat) (z:Int) (ks:List KeyT) (w:World) (h:Rw plE 81 base (.slice (some ⟨g,0,none⟩) n cap) (ks.map (plK z)) w) (hb:base≤w.heap.size) (hl:ks.length≤1000000) :
  Calls Tryz.prog 70 #[.slice (some ⟨g,0,none⟩) n cap,.func (.func 71) #[] #[]] w fun e w'=>
   e=.returned (.tuple #[])∧Rw plE 81 base (.slice (some ⟨g,0,none⟩) n cap) ((sortV ks).map (plK z)) w'∧Below base w w':=by
 have hn:n=ks.toArray.size:=by rw [h.sl.len];simp
 have hd:ks.toArray.toList.map (plK z)=ks.map (plK z):=by simp
 have hcmp:CmpLays Tryz.prog 71 #[] (encBy plE (plK z)) 3 vCmp g 0 ks.toArray.size w:=fun q os dk _ x y=>by
  have:=plCmp_any z x y (sortWorldK (encBy plE (plK z)) 3 w g 0 q dk os)
  exact this
 have:=AnyQ.slices_SortFunc_total Tryz.sortPlace 3 (fun w=>by kernel_rfl) (fun w=>by kernel_rfl) (encBy plE (plK z)) (fun x=>rfl) (fun x=>plE.one _) vCmp (by rw [ltOf_vCmp];exact swo_vLt) 71 #[] g 0 cap ks.toArray w
  (fun args w=>by kernel_rfl) hcmp (h.holdsK hd) (h.lt g rfl).2 (by simp;omega) (by rw [ltOf_vCmp];exact fun x y=>vLt_tri)
 rw [←hn] at this
 refine Calls.mono (show Calls Tryz.prog 70 #[.slice (some ⟨g,0,none⟩) n cap,.func (.func 71) #[] #[]] w _ from this) fun e w' ⟨he,q,os,hw⟩=>?_
 rw [ltOf_vCmp] at hw
 have hS:=h.sorted (d:=ks.toArray) (d':=(sortV ks).toArray) hd (by simp [List.length_mergeSort]) ⟨q,os,hw⟩
 exact ⟨he,by simpa using hS.1,hS.2 hb⟩
end Go.Proofs.YtjekalilfhnpmaaGreatDoor
namespace Go.Proofs.YtjekalilfhnpmaaGreatDoor
open Go Go.RowKit Go.Maps Go.Shelf LineOrd Tree
set_option linter.unusedVariables false
set_option linter.unusedSimpArgs false
set_option maxHeartbeats 20000000
set_option maxRecDepth 100000
structure EntT where
 nm:ByteArray
 nd:Int
def entE:Enc EntT:=⟨fun x=>[.string x.nm,.int .i64 x.nd],2,fun _=>rfl,fun x v hv=>by
 simp at hv
 rcases hv with rfl | rfl <;> rfl⟩
theorem infoEnt:(Tryz.prog.info? 61).map (fun i=>(i.zero,i.size,i.bytes))=some (some (.agg #[.string ⟨#[]⟩,.int .i64 0]),2,24):=by kernel_rfl
def keysIn (z:Int) (Q:List PlT):List KeyT:=(Q.filter fun y=>!outB z y).map fun y=>(y.nd,y.nm)
theorem keysIn_is (z:Int) (Q:List PlT):(Q.filter fun y=>!outB z y)=(keysIn z Q).map (plK z):=by
 unfold keysIn
 rw [List.map_map]
 conv=>lhs;rw [←List.map_id (Q.filter fun y=>!outB z y)]
 refine List.map_congr_left fun y hy=>?_
 have h:=(List.mem_filter.1 hy).2
 simp [outB] at h
 obtain ⟨nd,into,nm⟩:=y
 simp only at h
 subst h
 rfl
theorem keysIn_len (z:Int) (Q:List PlT):(keysIn z Q).length≤Q.length:=by
 unfold keysIn
 rw [List.length_map]
 exact List.length_filter_le _ _
def dupB (ks:List KeyT) (i:Nat) (k:KeyT):Bool:=decide (0 < i) && decide ((ks[i - 1]?).map Prod.snd=some k.2)
def entOf (ks:List KeyT) (i:Nat) (k:KeyT):EntT:=⟨if dupB ks i k then k.2++(⟨#[126]⟩++S (Lib.itoa k.1)) else k.2,k.1⟩
def ents (ks:List KeyT):List EntT:=ks.zipIdx.map fun p=>entOf ks p.2 p.1
theorem ents_len (ks:List KeyT):(ents ks).length=ks.length:=by simp [ents]
theorem ents_at {ks:List KeyT} {i:Nat} {k:KeyT} (h:ks[i]?=some k):(ents ks)[i]?=some (entOf ks i k):=by
 unfold ents
 rw [List.getElem?_map,List.getElem?_zipIdx,h]
 simp
theorem ents_take {ks:List KeyT} {i:Nat} {k:KeyT} (h:ks[i]?=some k):(ents ks).take (i+1)=(ents ks).take i++[entOf ks i k]:=by
 rw [List.take_add_one,ents_at h]
 rfl
def LsEnds (K:List OpT) (z:Int) (w:World) (e:Ending) (w':World):Prop:=∃ v Q,e=.returned v∧RepP Q (runO p00 (logOf K))∧Q.length≤1000000∧Rw entE 61 w.heap.size v (ents (sortV (keysIn z Q))) w'∧Below w.heap.size w w'
theorem deletePl_all (base VB:Nat) (z:Int) (A:Option Addr) (n c:Nat) (L:List PlT) (w:World) (hr:Rw plE 81 base (.slice A n c) L w) (hv:w.cell? ⟨VB,0,none⟩=some (.int .i64 z)) (hb:VB < base) (hbs:base≤w.heap.size) :
  Calls Tryz.prog 68 #[.slice A n c,clO VB] w fun e w'=>∃ A' m c',e=.returned (.slice A' m c')∧Rw plE 81 base (.slice A' m c') (L.filter fun o=>!outB z o) w'∧Below base w w':=by
 rcases hr.form with ⟨e,hL⟩ | ⟨g,cap,e,_⟩
 ·cases e
  subst hL
  refine (deletePl_nil VB z w hv).mono ?_
  rintro e w' ⟨rfl,h2⟩
  exact ⟨none,0,0,rfl,Rw.nil _ _ _ _,h2.mono hbs⟩
 ·cases e
  have hg:=hr.lt g rfl
  refine (deletePl_any base VB z g _ _ L w hr hv (by omega)).mono ?_
  rintro e w' ⟨m,rfl,h1,h2⟩
  exact ⟨some ⟨g,0,none⟩,m,_,rfl,h1,h2.below hbs (fun k hk=>by rw [hk];exact hg.1)⟩
theorem placeSort_all (base:Nat) (A:Option Addr) (n c:Nat) (z:Int) (ks:List KeyT) (w:World) (h:Rw plE 81 base (.slice A n c) (ks.map (plK z)) w) (hb:base≤w.heap.size) (hl:ks.length≤1000000) :
  Calls Tryz.prog 70 #[.slice A n c,.func (.func 71) #[] #[]] w fun e w'=>e=.returned (.tuple #[])∧Rw plE 81 base (.slice A n c) ((sortV ks).map (plK z)) w'∧Below base w w':=by
 rcases h.form with ⟨e,hL⟩ | ⟨g,cap,e,_⟩
 ·cases e
  have hks:ks=[]:=by simpa using hL
  subst hks
  have hN:Calls Tryz.prog 70 #[.slice none 0 0,.func (.func 71) #[] #[]] w fun e w'=>e=.returned (.tuple #[])∧w'=w:=AnyF.slices_SortFunc_none (ρ:=Tryz.sortPlace_ren) Tryz.sortPlace none 0 (.func (.func 71) #[] #[]) w
  refine hN.mono ?_
  rintro e w' ⟨rfl,rfl⟩
  exact ⟨rfl,by rw [show sortV []=[] by simp [sortV]];exact Rw.nil _ _ _ _,Below.refl _ _⟩
 ·cases e
  exact placeSort_any base g _ _ z ks w h hb hl
@[go_sem] def lateOpV (o:Oper):Oper:=o
theorem itoa_len20V (n:Int) (h:I64 n):(S (Lib.itoa n)).size≤21:=itoa21 h
abbrev EnC (B:Nat) (x:EntT) (w:World):Prop:=w.cell? ⟨B,0,none⟩=some (.string x.nm)∧w.cell? ⟨B,1,none⟩=some (.int .i64 x.nd)
theorem list_any {F0:Nat→Bool} (ea:Nat→Addr) (col:Nat→Int) (RB:Nat) (b:Int) (K:List OpT) (z:Int) (w:World) (h:RepD col RB b K w) (hG:Gd F0 ea w) (f21:F0 21=true) (hK:DOk K) (hKl:K.length≤400) :
  Calls Tryz.prog 23 #[ptrV RB,.int .i64 z] w (LsEnds K z w):=by
 obtain ⟨y,s,hR,hO⟩:=h
 have hgl:s.g.length≤400:=by rw [hO.g];exact Nat.le_trans (logOf_len K) hKl
 have htn:y.tn≤1000000:=Nat.le_trans hR.tnb (Nat.le_trans (Nat.mul_le_mul hgl hgl) (by decide))
 have hb0:Below w.heap.size w (w.alloc (.cells #[.int .i64 z] 3)):=(Below.refl _ _).alloc (Nat.le_refl _) _
 have hpk:∀ x v,runO p00 (logOf K) x=some v→I64 x∧v.2.size≤100000:=fun x v hx=>by
  rcases run_from _ hx with h1 | ⟨o,ho,h1,h2⟩
  ·cases h1
  ·have hw:=hK.wf o (logOf_mem.1 ho).1
   rw [←h1,h2]
   exact ⟨⟨hw.nd1,hw.nd2⟩,hw.nm1⟩
 have HTr:=Lib.hid (repTree_any (hR.below hb0))
 have HPl:=Lib.hid (treePlaces_any 0 y.TB y.tb y.tn y.tv s.g _ (hR.below hb0).tr htn (fun x v hv=>by rw [hO.g] at hv;exact (hpk x v hv).1))
 rw [hO.g] at HPl
 have HIt:=Lib.hid (fun w' (hb:Below w.heap.size w w') x (hx:I64 x)=>itoa_any ea x w' (hG.below hb) f21 hx.1 hx.2)
 have HPk:=Lib.hid hpk
 unfold PlEnds at HPl
 unfold ptrV at *
 clear hR hO hG hK hKl hgl hb0 hpk
 go_enter Tryz.func23,Tryz.ntmps23
 go_wp2_with fail
 refine HTr.out.mono ?_
 rintro e w0 ⟨rfl,rfl⟩
 go_wp2_with fail
 refine HPl.out.mono ?_
 rintro e w1 ⟨v1,Q,rfl,hr1,hQ,hql,hb1⟩
 obtain ⟨A1,n1,c1,rfl⟩:=hr1.slice
 have HQ:=Lib.hid hQ
 have hqn:Q.length≤1000000:=by omega
 have hbw1:Below w.heap.size w w1:=bel2 ((Below.refl _ _).alloc (Nat.le_refl _) _) hb1
 have hv1:w1.cell? ⟨w.heap.size,0,none⟩=some (.int .i64 z):=cell_keep' hb1 (by simp [go_sem])
 have HDl:=Lib.hid (deletePl_all _ w.heap.size z A1 n1 c1 Q w1 hr1 hv1 (by simp) hb1.size)
 have hbs:w.heap.size≤(w.alloc (.cells #[.int .i64 z] 3)).heap.size:=by simp
 have hbs1:=hb1.size
 obtain ⟨B1,hB1⟩:∃ B1,(w.alloc (.cells #[.int .i64 z] 3)).heap.size=B1:=⟨_,rfl⟩
 rw [hB1] at HDl hbs hbs1
 have HBw1:=Lib.hid hbw1
 clear hr1 hQ hb1 hv1 hbw1 HTr HPl hB1 hql
 go_wp2_with fail
 refine HDl.out.mono ?_
 rintro e w2 ⟨A2,m2,c2,rfl,hr2,hb2⟩
 rw [keysIn_is] at hr2
 have hkl:=keysIn_len z Q
 have HSo:=Lib.hid (placeSort_all B1 A2 m2 c2 z (keysIn z Q) w2 hr2 (Nat.le_trans hbs1 hb2.size) (by omega))
 have HBw2:=Lib.hid (HBw1.out.trans (hb2.mono hbs))
 have hbs2:=hb2.size
 clear hr2 hb2 HDl
 go_wp2_with fail
 refine HSo.out.mono ?_
 rintro e w3 ⟨rfl,hr3,hb3⟩
 have HKs:Hid (∀ k∈sortV (keysIn z Q),I64 k.1∧k.2.size≤100000):=Lib.hid fun k hk=>by
  have h1:=(sortV_perm _).mem_iff.1 hk
  obtain ⟨q,hq,rfl⟩:=List.mem_map.1 h1
  have h2:=(HQ.out.is q).1 (List.mem_filter.1 hq).1
  exact HPk.out q.nd (q.into,q.nm) h2
 have hsl:(sortV (keysIn z Q)).length≤1000000:=by rw [(sortV_perm _).length_eq];omega
 obtain ⟨ks,hks⟩:∃ ks,sortV (keysIn z Q)=ks:=⟨_,rfl⟩
 rw [hks] at hr3 HKs hsl
 have HKe:=Lib.hid hks
 have hn3:m2=ks.length:=by have:=hr3.sl.len;simpa using this
 have HN3:=Lib.hid hn3
 have HR3:=Lib.hid hr3.sl
 have HB3:=Lib.hid (HBw2.out.trans (hb3.mono hbs))
 clear hr3 hb3 HSo hks HBw1 HBw2 hbs hbs1 hbs2 hkl HPk
 have hm3:m2≤1000000:=by omega
 clear hn3
 go_wp2_with fail
 go_loopw [6,21] (fun v6 v21 wr=>∃ i:Nat,i≤m2∧v21=.int .i64 i∧Hid (Rw entE 61 w3.heap.size v6 ((ents ks).take i) wr∧Below w3.heap.size w3 wr)) (fun _ v21 _=>m2 - (RowKit.intOf v21).toNat)
 case atStart=>exact ⟨0,by omega,rfl,Lib.hid ⟨by rw [List.take_zero];exact Rw.nil _ _ _ _,Below.refl _ _⟩⟩
 case round=>
  obtain ⟨i,hi,rfl,HA⟩:=hrel
  by_cases hlt:i < m2
  ·obtain ⟨k,hk⟩:∃ k,ks[i]?=some k:=⟨_,List.getElem?_eq_getElem (by have:=HN3.out;omega)⟩
   have hkm:=HKs.out k (List.mem_of_getElem? hk)
   have hpk:(ks.map (plK z))[i]?=some (plK z k):=by rw [List.getElem?_map,hk];rfl
   obtain ⟨bb,off,rfl,hbl,q0,q1,q2⟩:=pl_at (HR3.out.below HA.out.2) hpk
   simp only [plK] at q0 q1 q2
   have j0:(0:Int)≤(i:Int):=by omega
   have j1:(i:Int) < (m2:Int):=by omega
   have HKm:=Lib.hid hkm
   have HK:=Lib.hid hk
   obtain ⟨W,hW⟩:∃ W,W=(wr.alloc (.cells #[.int .i64 k.1,.int .i64 z,.string k.2] 81)).alloc (.cells #[.string k.2,.int .i64 k.1] 61):=⟨_,rfl⟩
   have hWb:Below wr.heap.size wr W:=by rw [hW];exact ((Below.refl _ _).alloc (Nat.le_refl _) _).alloc (by simp) _
   have hC:W.cell? ⟨wr.heap.size,0,none⟩=some (.int .i64 k.1)∧W.cell? ⟨wr.heap.size,2,none⟩=some (.string k.2)∧W.cell? ⟨wr.heap.size+1,0,none⟩=some (.string k.2)∧W.cell? ⟨wr.heap.size+1,1,none⟩=some (.int .i64 k.1)∧W.frozen? ⟨wr.heap.size+1,0,none⟩=false:=by rw [hW];simp [go_sem]
   have HWb:=Lib.hid hWb
   have HC:=Lib.hid hC
   have HWe:=Lib.hid hW.symm
   clear hW hWb hC hk hkm hpk hbl
   go_upto_region 10 with (fail)
   rw [show (wr.alloc (.cells #[.int .i64 k.1,.int .i64 z,.string k.2] 81)).alloc (.cells #[.string k.2,.int .i64 k.1] 61)=W from HWe.out]
   clear HWe q0 q1 q2
   have c2:=HC.out.2.1
   go_cut [43] (fun v43 wd=>v43=.bool (dupB ks i k)∧Hid (Below W.heap.size W wd))
   case first=>
    have HWq:∀ nq,Hid (Below W.heap.size W (W.drewN nq)):=fun nq=>Lib.hid (below_drawn (Below.refl _ _) nq)
    by_cases h0:i=0
    ·subst h0
     have hd:dupB ks 0 k=false:=by simp [dupB]
     have i0:¬ (0:Int) < ((0:Nat):Int):=by omega
     go_quiet (fail)
     rename_i nq
     have HH:=HWq nq
     generalize W.drewN nq=wq at HH ⊢
     go_wp2_with fail
     go_meet
     case rel=>exact ⟨by rw [hd],HH⟩
    ·have i0:(0:Int) < (i:Int):=by omega
     obtain ⟨k',hk'⟩:∃ k',ks[i - 1]?=some k':=⟨_,List.getElem?_eq_getElem (by have:=HN3.out;omega)⟩
     obtain ⟨p,hp⟩:∃ p,i=p+1:=⟨i - 1,by omega⟩
     subst hp
     simp only [Nat.add_sub_cancel] at hk'
     have hpk':(ks.map (plK z))[p]?=some (plK z k'):=by rw [List.getElem?_map,hk'];rfl
     obtain ⟨bb',off',hA',hbl,r0,r1,r2⟩:=pl_at ((HR3.out.below HA.out.2).below HWb.out) hpk'
     cases hA'
     simp only [plK] at r2
     obtain ⟨tb,htb⟩:∃ tb,(k'.2.toList == k.2.toList)=tb:=⟨_,rfl⟩
     have hd:dupB ks (p+1) k=tb:=by
      unfold dupB
      rw [Nat.add_sub_cancel,hk',←htb]
      simp only [Option.map_some,Option.some.injEq]
      rw [decide_eq_true (by omega),Bool.true_and,Bool.eq_iff_iff,decide_eq_true_iff,beq_iff_eq]
      exact ⟨fun e=>by rw [e],fun e=>toList_inj e⟩
     have s1:IntKind.i64.wrap (((p+1:Nat):Int) - 1)=(p:Int):=by rw [IntKind.wrap_i64];omega
     have p0:(0:Int)≤(p:Int):=by omega
     have p1:(p:Int) < (m2:Int):=by omega
     clear r0 r1 hpk' hk' hbl
     go_quiet (fail)
     rename_i nq
     have HH:=HWq nq
     generalize W.drewN nq=wq at HH ⊢
     go_wp2_with fail
     go_meet
     case rel=>exact ⟨by rw [hd],HH⟩
   case rest=>
   obtain ⟨rfl,HB4⟩:=hcut
   obtain ⟨w4,rfl⟩:∃ w4,w4=wc:=⟨_,rfl⟩
   have HC4:Hid (∀ w',Below w4.heap.size w4 w'→w'.cell? ⟨wr.heap.size,0,none⟩=some (.int .i64 k.1)∧w'.cell? ⟨wr.heap.size+1,0,none⟩=some (.string k.2)∧w'.cell? ⟨wr.heap.size+1,1,none⟩=some (.int .i64 k.1)∧w'.frozen? ⟨wr.heap.size+1,0,none⟩=false):=Lib.hid fun w' hb=>by
    have hb':=bel2 HB4.out hb
    have hl:wr.heap.size+1 < W.heap.size:=World.block_lt_of_cell? _ _ HC.out.2.2.1
    exact ⟨cell_keep' hb' HC.out.1,cell_keep' hb' HC.out.2.2.1,cell_keep' hb' HC.out.2.2.2.1,(hb'.frozen (p:=⟨wr.heap.size+1,0,none⟩) hl).trans HC.out.2.2.2.2⟩
   have HBr4:=Lib.hid (bel2 HWb.out HB4.out)
   obtain ⟨db,hdb⟩:∃ db,dupB ks i k=db:=⟨_,rfl⟩
   have HDb:=Lib.hid hdb
   rw [hdb]
   clear hdb c2 HC HB4 HWb
   go_upto_if 43 with (fail)
   go_cut [9] (fun v9 wd=>v9=.pointer (some ⟨wr.heap.size+1,0,none⟩)∧Hid (EnC (wr.heap.size+1) (entOf ks i k) wd∧Below wr.heap.size wr wd))
   case first=>
    cases db with
    | true=>
     have hE:entOf ks i k=⟨k.2++(⟨#[126]⟩++S (Lib.itoa k.1)),k.1⟩:=by unfold entOf;rw [HDb.out];rfl
     obtain ⟨T0,hT0⟩:∃ T0,T0=S (Lib.itoa k.1):=⟨_,rfl⟩
     obtain ⟨U1,hU1⟩:∃ U1,U1=⟨#[126]⟩++T0:=⟨_,rfl⟩
     obtain ⟨U2,hU2⟩:∃ U2,U2=k.2++U1:=⟨_,rfl⟩
     have z0:T0.size≤21:=by rw [hT0];exact itoa_len20V _ HKm.out.1
     have y1:U1.size≤22:=by rw [hU1,ByteArray.size_append];show 1+T0.size≤_;omega
     have y2:=HKm.out.2
     have m1:∀ w,(Op.stringOp .add ⟨#[126]⟩ T0).run Tryz.prog w=.ok (.string U1) w:=fun w=>by rw [hU1];exact run_string_add_sum (P:=Tryz.prog) (w:=w) _ _ (by show 1+T0.size≤_;omega)
     have m2':∀ w,(Op.stringOp .add k.2 U1).run Tryz.prog w=.ok (.string U2) w:=fun w=>by rw [hU2];exact run_string_add_sum (P:=Tryz.prog) (w:=w) _ _ (by omega)
     have HEq:Hid (entOf ks i k=⟨U2,k.1⟩):=Lib.hid (by rw [hE,hU2,hU1,hT0])
     have HIa:Hid (∀ w',Below w4.heap.size w4 w'→Calls Tryz.prog 63 #[.int .i64 k.1] w' fun e w''=>e=.returned (.string T0)∧Below w'.heap.size w' w''):=Lib.hid fun w' hb=>by rw [hT0];exact HIt.out w' (bel2 (bel2 (bel2 HB3.out HA.out.2) HBr4.out) hb) k.1 HKm.out.1
     have HFn:Hid (∀ w',Below w4.heap.size w4 w'→(w'.setCell ⟨wr.heap.size+1,0,none⟩ (.string U2)).cell? ⟨wr.heap.size,0,none⟩=some (.int .i64 k.1)∧EnC (wr.heap.size+1) ⟨U2,k.1⟩ (w'.setCell ⟨wr.heap.size+1,0,none⟩ (.string U2))∧Below wr.heap.size wr (w'.setCell ⟨wr.heap.size+1,0,none⟩ (.string U2))):=Lib.hid fun w' hb=>by
      have hc:=HC4.out w' hb
      refine ⟨?_,⟨World.cell?_setCell_same' _ _ _ (by rw [hc.2.1];rfl),?_⟩,below_set (p:=⟨wr.heap.size+1,0,none⟩) (bel2 HBr4.out hb) (by simp) _⟩
      ·rw [World.cell?_setCell_other _ _ _ _ (by intro e;have:=congrArg Addr.block e;simp at this)];exact hc.1
      ·rw [World.cell?_setCell_other _ _ _ _ (by intro e;have:=congrArg Addr.off e;simp at this)];exact hc.2.2.1
     clear hE hT0 hU1 hU2 z0 y1 y2
     obtain ⟨a0,a1,a2,a3⟩:=HC4.out _ (Below.refl _ _).drew
     go_upto_region 11 with (fail)
     change Code.wp _ (Code.region _ #[_,lateOpV _,_,_,_,_,_,_,_] _) _ _ _
     go_region_held_law (fun w'=>w'.cell? ⟨wr.heap.size,0,none⟩=some (.int .i64 k.1)) (first | with_reducible exact hSt | exact (HC4.out _ (by go_grown)).1)
      (first
       | (go_at_call 63;refine (HIa.out _ (by go_grown)).mono ?_;rintro e wA ⟨rfl,hbA⟩;have hA:=bel2 (w0:=w4) (by go_grown) hbA;have sA:=hA.size;obtain ⟨b0,b1,b2,b3⟩:=HC4.out wA hA;have hSt:=(HFn.out wA hA).1))
     all_goals
      rename_i hH
      clear hH
      go_wp2_with fail
      go_meet
      case rel=>exact ⟨rfl,Lib.hid ⟨by rw [HEq.out];exact (HFn.out wA hA).2.1,(HFn.out wA hA).2.2⟩⟩
    | false=>
     have hE:entOf ks i k=⟨k.2,k.1⟩:=by unfold entOf;rw [HDb.out];rfl
     have hc:=HC4.out w4 (Below.refl _ _)
     go_wp2_with fail
     go_meet
     case rel=>exact ⟨rfl,Lib.hid ⟨by rw [hE];exact ⟨hc.2.1,hc.2.2.1⟩,HBr4.out⟩⟩
   case rest=>
   obtain ⟨rfl,HE⟩:=hcut
   obtain ⟨w5,rfl⟩:∃ w5,w5=wc:=⟨_,rfl⟩
   have HTk:=Lib.hid (ents_take HK.out)
   obtain ⟨x,hx⟩:∃ x,entOf ks i k=x:=⟨_,rfl⟩
   rw [hx] at HTk HE
   obtain ⟨e0,e1⟩:=HE.out.1
   have HRo:=Lib.hid (HA.out.1.below HE.out.2)
   have hl1:((ents ks).take i).length≤1000000:=by rw [List.length_take,ents_len];have:=HN3.out;omega
   clear hx HDb HC4 HBr4
   go_wp2_with (at_builtin;refine wpList_append_rows rfl _ _ 56 rfl entE w3.heap.size 61 (.agg #[.string ⟨#[]⟩,.int .i64 0]) 24 Tryz.underlying56 infoEnt rfl (by decide) _ _ ((ents ks).take i) [x] rfl rfl (HRo.out.below ((Below.refl _ _).alloc (Nat.le_refl _) _)) (SlV.one (E:=entE) w5 x 61 _ rfl) ?e1 ?e2 ?e3 ?_)
   case e1=>unfold maxLen;simp;omega
   case e2=>simp;omega
   case e3=>have:=HA.out.2.size;have:=HE.out.2.size;simp;omega
   intro v6 w6 hr6 hg6
   have HR6:Hid (Rw entE 61 w3.heap.size v6 ((ents ks).take (i+1)) w6∧Below w3.heap.size w3 w6):=Lib.hid (by
    rw [HTk.out]
    refine ⟨hr6,?_⟩
    have hb5:Below w3.heap.size w3 (w5.alloc (.cells #[.string x.nm,.int .i64 x.nd] 61)):=bel2 (bel2 HA.out.2 HE.out.2) ((Below.refl _ _).alloc (Nat.le_refl _) _)
    exact hb5.grown hg6 hb5.size (fun k hk=>(HA.out.1.lt k hk).1))
   clear hr6 hg6 HRo
   go_wp2_with fail
   go_roundw
   case rel=>exact ⟨i+1,by omega,by go_num,HR6⟩
   case measure=>simp [RowKit.intOf];omega
  ·obtain rfl:i=m2:=by omega
   have j1:¬ (i:Int) < (i:Int):=by omega
   go_wp2_with fail
   go_ret
   refine ⟨_,Q,rfl,HQ.out,hqn,?_,bel2 HB3.out HA.out.2⟩
   rw [HKe.out]
   have h1:=HA.out.1
   rw [List.take_of_length_le (by rw [ents_len,HN3.out];exact Nat.le_refl _)] at h1
   exact h1.lower HB3.out.size
end Go.Proofs.YtjekalilfhnpmaaGreatDoor
