/- A view: Lost. A view: Path. A view: Path is walked. A view: an entry by its name (slices.IndexFunc at entries). Plain: what view.Find answers. Plain: the names of a list's entries are apart, and hold no stroke. Plain: a path's text is found; the places that are not in Root are lost. Plain: an insertion by name keeps a list by name and node. -/
import Derived.Test.YtjekalilfhnpmaaGreatDoorV11
import Derived.Test.YtjekalilfhnpmaaGreatDoorV27
import Derived.Test.YtjekalilfhnpmaaGreatDoorV28
import Derived.Test.YtjekalilfhnpmaaGreatDoorV33
import Derived.Test.YtjekalilfhnpmaaGreatDoorV35
namespace Go.Proofs.YtjekalilfhnpmaaGreatDoor
open Go Go.RowKit Go.Maps Go.Shelf LineOrd Tree
set_option linter.unusedVariables false
set_option linter.unusedSimpArgs false
set_option maxHeartbeats 20000000
set_option maxRecDepth 100000
structure TreeV (RB TB:Nat) (K:List OpT) (p:PlB) (w:World):Prop where
 tree:∀ w',Below w.heap.size w w'→Calls Tryz.prog 33 #[.pointer (some ⟨RB,0,none⟩)] w' fun e w''=>e=.returned (.pointer (some ⟨TB,0,none⟩))∧w''=w'
 places:∀ w',Below w.heap.size w w'→Calls Tryz.prog 34 #[.pointer (some ⟨TB,0,none⟩)] w' fun e w''=>∃ A n c Q,e=.returned (.slice A n c)∧Rw plE 81 w'.heap.size (.slice A n c) Q w''∧RepP Q p∧Q.length≤1000000∧Below w'.heap.size w' w''
 inside:∀ w' x o,I64 x→Below w.heap.size w w'→∃ t:Bool,(t=true↔Ins p x o)∧Calls Tryz.prog 83 #[.pointer (some ⟨TB,0,none⟩),.int .i64 x,.int .i64 o] w' fun e w''=>e=.returned (.bool t)∧Below w'.heap.size w' w''
 rng:∀ x v,p x=some v→I64 x∧I64 v.1∧v.2.size≤100000
theorem RepL.treeV {y:RLay} {s:RpSt} {col:Nat→Int} {RB:Nat} {b:Int} {K:List OpT} {w:World} (hR:RepL y col RB b s w) (hO:Of K K s) (hK:DOk K) (hKl:K.length≤400):TreeV RB y.TB K (runO p00 (logOf K)) w:=by
 have hgl:s.g.length≤400:=by rw [hO.g];exact Nat.le_trans (logOf_len K) hKl
 have htn:y.tn≤1000000:=Nat.le_trans hR.tnb (Nat.le_trans (Nat.mul_le_mul hgl hgl) (by decide))
 have hpk:∀ x v,runO p00 (logOf K) x=some v→I64 x∧I64 v.1∧v.2.size≤100000:=fun x v hx=>by
  rcases run_from _ hx with h1 | ⟨o,ho,h1,h2⟩
  ·cases h1
  ·have hw:=hK.wf o (logOf_mem.1 ho).1
   rw [←h1,h2]
   exact ⟨⟨hw.nd1,hw.nd2⟩,⟨hw.ot1,hw.ot2⟩,hw.nm1⟩
 refine ⟨fun w' hb=>repTree_any (hR.below hb),fun w' hb=>?_,fun w' x o hx hb=>?_,hpk⟩
 ·have:=treePlaces_any 0 y.TB y.tb y.tn y.tv s.g w' (hR.below hb).tr htn (fun x v hv=>by rw [hO.g] at hv;exact (hpk x v hv).1)
  rw [hO.g] at this
  refine Calls.mono this ?_
  rintro e w'' ⟨v,Q,rfl,h1,h2,h3,h4⟩
  obtain ⟨A,n,c,rfl⟩:=h1.slice
  exact ⟨A,n,c,Q,rfl,h1,h2,by omega,h4⟩
 ·have hok:PlOk (runO p00 (logOf K)):=plOk_run (logOk_of hK).nd
  have htr:=(hR.below hb).tr
  rw [hO.g] at htr
  have:=inside_any y.TB y.tb y.tn _ x o w' htr.p0 htr.mp hok hx
  exact ⟨@decide _ (Classical.propDecidable _),@decide_eq_true_iff _ (Classical.propDecidable _),this⟩
open Classical in
def LoEnds (p:PlB) (w:World) (e:Ending) (w':World):Prop:=∃ A n c Q,e=.returned (.slice A n c)∧RepP Q p∧SlV intE w' (.slice A n c) ((Q.filter fun y=>decide (Ins p y.nd 1)).map PlT.nd)∧Below w.heap.size w w'
open Classical in
theorem lost_any {RB TB:Nat} {K:List OpT} {p:PlB} (w:World) (h:TreeV RB TB K p w) :
  Calls Tryz.prog 32 #[ptrV RB] w (LoEnds p w):=by
 have HT:=Lib.hid h
 have HPl:=Lib.hid (h.places w (Below.refl _ _))
 have HTr:=Lib.hid (h.tree w (Below.refl _ _))
 unfold ptrV
 clear h
 go_enter Tryz.func32,Tryz.ntmps32
 go_wp2_with fail
 refine HTr.out.mono ?_
 rintro e w0 ⟨rfl,rfl⟩
 go_wp2_with fail
 refine HPl.out.mono ?_
 rintro e w1 ⟨A1,n1,c1,Q,rfl,hr1,hQ,hql,hb1⟩
 have hn1:n1=Q.length:=hr1.sl.len
 have HN:=Lib.hid hn1
 have HS:=Lib.hid hr1.sl
 have HQ:=Lib.hid hQ
 have HB1:=Lib.hid hb1
 have hnm:n1≤1000000:=by omega
 clear hr1 hQ hb1 hn1 hql HPl HTr
 go_wp2_with fail
 go_loopw [3,12] (fun v3 v12 wr=>∃ i:Nat,i≤n1∧v12=.int .i64 i∧Hid (Rw intE 3 w1.heap.size v3 (((Q.take i).filter fun y=>decide (Ins p y.nd 1)).map PlT.nd) wr∧Below w1.heap.size w1 wr)) (fun _ v12 _=>n1 - (RowKit.intOf v12).toNat)
 case atStart=>exact ⟨0,by omega,rfl,Lib.hid ⟨by rw [List.take_zero];exact Rw.nil _ _ _ _,Below.refl _ _⟩⟩
 case round=>
  obtain ⟨i,hi,rfl,HA⟩:=hrel
  by_cases hlt:i < n1
  ·obtain ⟨x,hx⟩:∃ x,Q[i]?=some x:=⟨_,List.getElem?_eq_getElem (by have:=HN.out;omega)⟩
   have hxr:=HT.out.rng x.nd (x.into,x.nm) ((HQ.out.is x).1 (List.mem_of_getElem? hx))
   obtain ⟨bb,off,rfl,hbl,q0,q1,q2⟩:=pl_at (HS.out.below HA.out.2) hx
   have j0:(0:Int)≤(i:Int):=by omega
   have j1:(i:Int) < (n1:Int):=by omega
   obtain ⟨W,hW⟩:∃ W,W=wr.alloc (.cells #[.int .i64 x.nd,.int .i64 x.into,.string x.nm] 81):=⟨_,rfl⟩
   have hWb:Below wr.heap.size wr W:=by rw [hW];exact (Below.refl _ _).alloc (Nat.le_refl _) _
   have hC:W.cell? ⟨wr.heap.size,0,none⟩=some (.int .i64 x.nd):=by rw [hW];simp [go_sem]
   have hbW:Below w0.heap.size w0 W:=bel2 (bel2 HB1.out HA.out.2) hWb
   obtain ⟨t,ht,_⟩:=HT.out.inside W x.nd 1 hxr.1 hbW
   have HIn:Hid (∀ w',Below W.heap.size W w'→Calls Tryz.prog 83 #[.pointer (some ⟨TB,0,none⟩),.int .i64 x.nd,.int .i64 1] w' fun e w''=>e=.returned (.bool t)∧Below w'.heap.size w' w''):=Lib.hid fun w' hb=>by
    obtain ⟨t',ht',hc⟩:=HT.out.inside w' x.nd 1 hxr.1 (bel2 hbW hb)
    rwa [Bool.eq_iff_iff.2 (ht'.trans ht.symm)] at hc
   have HTr:Hid (∀ w',Below W.heap.size W w'→Calls Tryz.prog 33 #[.pointer (some ⟨RB,0,none⟩)] w' fun e w''=>e=.returned (.pointer (some ⟨TB,0,none⟩))∧w''=w'):=Lib.hid fun w' hb=>HT.out.tree w' (bel2 hbW hb)
   have HS0:Hid (∀ w',Below W.heap.size W w'→Below W.heap.size W w'∧w'.cell? ⟨wr.heap.size,0,none⟩=some (.int .i64 x.nd)):=Lib.hid fun w' hb=>⟨hb,cell_keep' hb hC⟩
   have HTk:Hid (((Q.take (i+1)).filter fun y=>decide (Ins p y.nd 1)).map PlT.nd=((Q.take i).filter fun y=>decide (Ins p y.nd 1)).map PlT.nd++if t then [x.nd] else []):=Lib.hid (by
    rw [List.take_add_one,hx,Option.toList_some,List.filter_append,List.map_append]
    congr 1
    cases t with
    | true=>
     have h1:=ht.1 rfl
     simp [h1]
    | false=>
     have h1:¬ Ins p x.nd 1:=fun hh=>by have:=ht.2 hh;cases this
     simp [h1])
   have HWe:=Lib.hid hW.symm
   have HWb:=Lib.hid hWb
   clear hW hWb hC hbW ht hx hxr hbl
   go_upto_region 7 with (fail)
   rw [show wr.alloc (.cells #[.int .i64 x.nd,.int .i64 x.into,.string x.nm] 81)=W from HWe.out]
   clear HWe q0 q1 q2
   have z0:=(HS0.out _ (Below.refl _ _).drew).2
   go_cut [20] (fun v20 wd=>v20=.bool t∧Hid (Below W.heap.size W wd))
   case first=>
    go_region_held_law (fun w'=>Below W.heap.size W w'∧w'.cell? ⟨wr.heap.size,0,none⟩=some (.int .i64 x.nd)) (exact HS0.out _ (by go_grown))
     (first
      | (go_at_call 33;refine (HTr.out _ (by go_grown)).mono ?_;rintro e wA ⟨rfl,rfl⟩)
      | (go_at_call 83;refine (HIn.out _ (by go_grown)).mono ?_;rintro e wA ⟨rfl,hbA⟩;have hA:=bel2 (w0:=W) (by go_grown) hbA;have sA:=hA.size))
    all_goals
     rename_i hH
     have HH:=Lib.hid hH.1
     clear hH
     go_wp2_with fail
     go_meet
     case rel=>exact ⟨rfl,HH⟩
   case rest=>
   obtain ⟨rfl,HB4⟩:=hcut
   obtain ⟨w4,rfl⟩:∃ w4,w4=wc:=⟨_,rfl⟩
   have hB4:=bel2 HWb.out HB4.out
   have HB5:=Lib.hid hB4
   have k0:=(HS0.out w4 HB4.out).2
   have HRo:=Lib.hid (HA.out.1.below hB4)
   have HBr:=Lib.hid (bel2 HA.out.2 hB4)
   have hl1:(((Q.take i).filter fun y=>decide (Ins p y.nd 1)).map PlT.nd).length≤1000000:=by
    rw [List.length_map]
    have h1:=List.length_filter_le (fun y:PlT=>decide (Ins p y.nd 1)) (Q.take i)
    rw [List.length_take] at h1
    omega
   clear hB4 HTr HIn HS0 z0
   obtain ⟨M,hM⟩:∃ M,((Q.take i).filter fun y=>decide (Ins p y.nd 1)).map PlT.nd=M:=⟨_,rfl⟩
   rw [hM] at HRo HTk hl1
   clear hM
   cases t with
   | true=>
    go_wp2_with (at_builtin;refine wpList_append_rows rfl _ _ 42 rfl intE w1.heap.size 3 (.int .i64 0) 8 Tryz.underlying42 (by kernel_rfl) rfl (by decide) _ _ M [x.nd] rfl rfl (HRo.out.below ((Below.refl _ _).alloc (Nat.le_refl _) _)) (SlV.one (E:=intE) w4 x.nd 3 _ rfl) ?e1 ?e2 ?e3 ?_)
    case e1=>unfold maxLen;first | omega | (simp;omega)
    case e2=>first | omega | (simp;omega)
    case e3=>have:=HBr.out.size;simp;omega
    intro v6 w6 hr6 hg6
    have HR6:Hid (Rw intE 3 w1.heap.size v6 (((Q.take (i+1)).filter fun y=>decide (Ins p y.nd 1)).map PlT.nd) w6∧Below w1.heap.size w1 w6):=Lib.hid (by
     rw [HTk.out]
     refine ⟨hr6,?_⟩
     have hb5:Below w1.heap.size w1 (w4.alloc (.cells #[.int .i64 x.nd] 3)):=bel2 HBr.out ((Below.refl _ _).alloc (Nat.le_refl _) _)
     exact hb5.grown hg6 hb5.size (fun k hk=>(HRo.out.lt k hk).1))
    clear hr6 hg6 HRo
    go_wp2_with fail
    go_roundw
    case rel=>exact ⟨i+1,by omega,by go_num,HR6⟩
    case measure=>simp [RowKit.intOf];omega
   | false=>
    go_wp2_with fail
    go_roundw
    case rel=>exact ⟨i+1,by omega,by go_num,Lib.hid ⟨by rw [HTk.out];show Rw _ _ _ _ (M++[]) _;rw [List.append_nil];exact HRo.out,HBr.out⟩⟩
    case measure=>simp [RowKit.intOf];omega
  ·obtain rfl:i=n1:=by omega
   have j1:¬ (i:Int) < (i:Int):=by omega
   obtain ⟨A3,n3,c3,hv3⟩:=HA.out.1.slice
   subst hv3
   go_wp2_with fail
   go_ret
   refine ⟨A3,n3,c3,Q,rfl,HQ.out,?_,bel2 HB1.out HA.out.2⟩
   have h1:=HA.out.1.sl
   rwa [List.take_of_length_le (by rw [HN.out];exact Nat.le_refl _)] at h1
def nameOf (p:PlB) (Q:List PlT) (x:Int):ByteArray:=match p x with
 | none=>⟨#[]⟩
 | some v=>match (ents (sortV (keysIn v.1 Q))).find? (fun e=>decide (e.nd=x)) with
  | none=>⟨#[]⟩
  | some e=>e.nm
theorem keysIn_nodup {p:PlB} {Q:List PlT} (h:RepP Q p) (z:Int):(keysIn z Q).Pairwise (fun a b=>a.1≠b.1):=by
 unfold keysIn
 rw [List.pairwise_map]
 exact (h.up.sublist List.filter_sublist).imp fun hlt=>by omega
theorem keysIn_mem {p:PlB} {Q:List PlT} (h:RepP Q p) {z:Int} {k:KeyT}:k∈keysIn z Q↔p k.1=some (z,k.2):=by
 unfold keysIn
 rw [List.mem_map]
 constructor
 ·rintro ⟨y,hy,rfl⟩
  obtain ⟨h1,h2⟩:=List.mem_filter.1 hy
  have e:y.into=z:=by simpa [outB] using h2
  rw [←e]
  exact (h.is y).1 h1
 ·intro hk
  refine ⟨⟨k.1,z,k.2⟩,List.mem_filter.2 ⟨(h.is _).2 hk,by simp [outB]⟩,rfl⟩
theorem ents_one {p:PlB} {Q:List PlT} (h:RepP Q p) {x:Int} {v:Int×ByteArray} (hx:p x=some v) :
  ∃ (j:Nat) (e:EntT),(ents (sortV (keysIn v.1 Q)))[j]?=some e∧e.nd=x∧e.nm=nameOf p Q x∧∀ (i:Nat) (e':EntT),(ents (sortV (keysIn v.1 Q)))[i]?=some e'→e'.nd=x→i=j:=by
 have hm:(x,v.2)∈sortV (keysIn v.1 Q):=(sortV_perm _).mem_iff.2 ((keysIn_mem h).2 hx)
 obtain ⟨j,hj,hjx⟩:=List.getElem_of_mem hm
 have hjo:(sortV (keysIn v.1 Q))[j]?=some (x,v.2):=by rw [List.getElem?_eq_getElem hj,hjx]
 have hnd:(sortV (keysIn v.1 Q)).Pairwise (fun a b=>a.1≠b.1):=((sortV_perm _).symm.pairwise_iff (fun {a b} h=>Ne.symm h)).1 (keysIn_nodup h v.1)
 have hone:∀ i e',(ents (sortV (keysIn v.1 Q)))[i]?=some e'→e'.nd=x→i=j:=fun i e' he hn=>by
  have hi:i < (sortV (keysIn v.1 Q)).length:=by have:=(List.getElem?_eq_some_iff.1 he).1;rwa [ents_len] at this
  have h1:=ents_at (List.getElem?_eq_getElem hi)
  rw [he] at h1
  have h2:(sortV (keysIn v.1 Q))[i].1=x:=by
   have:=congrArg EntT.nd (Option.some.inj h1)
   rw [hn] at this
   exact this.symm
  refine Classical.byContradiction fun hne=>?_
  have h3:(sortV (keysIn v.1 Q))[j].1=x:=by rw [hjx]
  rcases Nat.lt_or_gt_of_ne hne with hlt | hlt
  ·exact (List.pairwise_iff_getElem.1 hnd i j hi hj hlt) (h2.trans h3.symm)
  ·exact (List.pairwise_iff_getElem.1 hnd j i hj hi hlt) (h3.trans h2.symm)
 refine ⟨j,_,ents_at hjo,rfl,?_,hone⟩
 unfold nameOf
 rw [hx]
 simp only
 cases hf:(ents (sortV (keysIn v.1 Q))).find? (fun e=>decide (e.nd=x)) with
 | none=>
  have:=List.find?_eq_none.1 hf _ (List.mem_of_getElem? (ents_at hjo))
  simp [entOf] at this
 | some e=>
  have h1:=List.find?_some hf
  simp only [decide_eq_true_eq] at h1
  obtain ⟨i,hi,he⟩:=List.getElem_of_mem (List.mem_of_find?_eq_some hf)
  have h2:=hone i e (by rw [List.getElem?_eq_getElem hi,he]) h1
  subst h2
  have h3:=ents_at hjo
  rw [List.getElem?_eq_getElem hi,he] at h3
  rw [←Option.some.inj h3]
inductive PathB (p:PlB) (Q:List PlT):Int→ByteArray→Prop
 | root:PathB p Q 0 ⟨#[]⟩
 | step {x:Int} {v:Int×ByteArray} {t:ByteArray}:x≠0→p x=some v→PathB p Q v.1 t→PathB p Q x (t++(⟨#[47]⟩++nameOf p Q x))
theorem PathB.unique {p:PlB} {Q:List PlT} {x:Int} {a b:ByteArray} (h:PathB p Q x a) (h':PathB p Q x b):a=b:=by
 induction h generalizing b with
 | root=>
  cases h' with
  | root=>rfl
  | step hn _ _=>exact absurd rfl hn
 | step hn hp _ ih=>
  cases h' with
  | root=>exact absurd rfl hn
  | step hn' hp' h''=>
   rw [hp] at hp'
   cases hp'
   rw [ih h'']
theorem nameOf_size {p:PlB} {Q:List PlT} (h:RepP Q p) {x:Int} {v:Int×ByteArray} (hx:p x=some v) (hi:I64 x) (hv:v.2.size≤100000):(nameOf p Q x).size≤100022:=by
 obtain ⟨j,e,he,h1,h2,_⟩:=ents_one h hx
 rw [←h2]
 have hj:j < (sortV (keysIn v.1 Q)).length:=by have:=(List.getElem?_eq_some_iff.1 he).1;rwa [ents_len] at this
 have h3:=ents_at (List.getElem?_eq_getElem hj)
 rw [he] at h3
 have h4:=(keysIn_mem h).1 ((sortV_perm _).mem_iff.1 (List.getElem_mem hj))
 have h5:(sortV (keysIn v.1 Q))[j].1=x:=by have:=congrArg EntT.nd (Option.some.inj h3);rw [h1] at this;exact this.symm
 rw [h5,hx] at h4
 have h7:=Option.some.inj h4
 have h6:v.2=(sortV (keysIn v.1 Q))[j].2:=(Prod.ext_iff.1 h7).2
 rw [Option.some.inj h3]
 unfold entOf
 simp only
 split
 ·have:=itoa21 (n:=(sortV (keysIn v.1 Q))[j].1) (by rw [h5];exact hi)
  rw [ByteArray.size_append,ByteArray.size_append,←h6]
  show v.2.size+(1+_)≤_
  omega
 ·rw [←h6];omega
theorem app_nil (t:ByteArray):t++(⟨#[]⟩:ByteArray)=t:=by apply ByteArray.ext;simp
theorem nil_app (t:ByteArray):(⟨#[]⟩:ByteArray)++t=t:=by apply ByteArray.ext;simp
theorem en_at {w:World} {A:Option Addr} {n c:Nat} {L:List EntT} (h:SlV entE w (.slice A n c) L) {i:Nat} {y:EntT} (hy:L[i]?=some y) :
  ∃ b off,A=some ⟨b,off,none⟩∧b < w.heap.size∧w.cell? ⟨b,off+i*2,none⟩=some (.string y.nm)∧w.cell? ⟨b,off+i*2+1,none⟩=some (.int .i64 y.nd):=by
 obtain ⟨b,off,e,hb,hc⟩:=h.at' (by decide) hy
 refine ⟨b,off,e,hb,?_⟩
 have g:∀ j u,(entE.cells y)[j]?=some u→w.cell? ⟨b,off+i*2+j,none⟩=some u:=fun j u hu=>by rw [Nat.add_assoc];exact hc j u hu
 exact ⟨g 0 _ rfl,g 1 _ rfl⟩
structure ViewV (RB TB:Nat) (K:List OpT) (p:PlB) (Q:List PlT) (w:World):Prop where
 t:TreeV RB TB K p w
 rep:RepP Q p
 len:Q.length≤1000000
 ac:Acyc p
 place:∀ w' x v,p x=some v→Below w.heap.size w w'→Calls Tryz.prog 84 #[.pointer (some ⟨TB,0,none⟩),.int .i64 x] w' fun e w''=>e=.returned (.tuple #[.agg #[.int .i64 x,.int .i64 v.1,.string v.2],.bool true])∧Below w'.heap.size w' w''
 list:∀ w' z,Below w.heap.size w w'→Calls Tryz.prog 23 #[.pointer (some ⟨RB,0,none⟩),.int .i64 z] w' fun e w''=>∃ A n c,e=.returned (.slice A n c)∧Rw entE 61 w'.heap.size (.slice A n c) (ents (sortV (keysIn z Q))) w''∧Below w'.heap.size w' w''
theorem ViewV.of {F0:Nat→Bool} (ea:Nat→Addr) {col:Nat→Int} {RB:Nat} {b:Int} {K:List OpT} {w:World} (h:RepD col RB b K w) (hG:Gd F0 ea w) (f21:F0 21=true) (hK:DOk K) (hKl:K.length≤400):∃ TB,TreeV RB TB K (runO p00 (logOf K)) w∧∀ Q,RepP Q (runO p00 (logOf K))→Q.length≤1000000→ViewV RB TB K (runO p00 (logOf K)) Q w:=by
 have h0:=h
 obtain ⟨y,s,hR,hO⟩:=h
 refine ⟨y.TB,hR.treeV hO hK hKl,fun Q hQ hQl=>⟨hR.treeV hO hK hKl,hQ,hQl,Acyc.replay Acyc.empty _,fun w' x v hx hb=>?_,fun w' z hb=>?_⟩⟩
 ·have htr:=(hR.below hb).tr
  rw [hO.g] at htr
  have hxr:=(hR.treeV hO hK hKl).rng x v hx
  have:=treePlace_any 0 y.TB y.tb y.tn y.tv (logOf K) x w' htr hxr.1
  have e:plM (runO p00 (logOf K)) x=some ⟨x,v.1,v.2⟩:=by unfold plM;rw [hx];rfl
  rw [e] at this
  exact this
 ·refine (list_any ea col RB b K z w' (h0.below hb) (hG.below hb) f21 hK hKl).mono ?_
  rintro e w'' ⟨v,Q',rfl,h1,h2,h3,h4⟩
  obtain rfl:=h1.unique hQ
  obtain ⟨A,n,c,rfl⟩:=h3.slice
  exact ⟨A,n,c,rfl,h3,h4⟩
theorem path_in {RB TB:Nat} {K:List OpT} {p:PlB} {Q:List PlT} (w:World) (h:ViewV RB TB K p Q w) (x:Int) (hx:I64 x) (hx0:x≠0) (hin:Ins p x 0) :
  Calls Tryz.prog 29 #[ptrV RB,.int .i64 x] w fun e w'=>∃ s,PathB p Q x s∧e=.returned (.tuple #[.string s,.bool true])∧Below w.heap.size w w'∧s.size≤1000000000000:=by
 have HV:=Lib.hid h
 obtain ⟨t,ht,hti⟩:=h.t.inside w x 0 hx (Below.refl _ _)
 have htt:t=true:=ht.2 hin
 subst htt
 have HIn:=Lib.hid hti
 have HTr:=Lib.hid (h.t.tree w (Below.refl _ _))
 obtain ⟨d,hd⟩:=h.ac
 have HD:=Lib.hid hd
 have hx1:(x == 0)=false:=by simpa using hx0
 have HX:=Lib.hid (And.intro hx0 hin)
 have hrk:rankP d Q x≤1000000:=Nat.le_trans (rankP_le d Q x) h.len
 unfold ptrV
 have hxn:¬ x=0:=hx0
 clear h hti ht hd hx0 hin
 go_enter Tryz.func29,Tryz.ntmps29
 go_wp2_with fail
 refine HTr.out.mono ?_
 rintro e w0 ⟨rfl,rfl⟩
 go_wp2_with fail
 refine HIn.out.mono ?_
 rintro e w1 ⟨rfl,hb1⟩
 have HB1:=Lib.hid hb1
 clear hb1 HIn HTr
 go_wp2_with fail
 go_loopw [1,6] (fun v1 v6 wr=>∃ (y:Int) (out:ByteArray),v1=.int .i64 y∧v6=.string out∧Hid (y=0∨Ins p y 0)∧Hid (∀ t,PathB p Q y t→PathB p Q x (t++out))∧out.size+rankP d Q y*100100≤1000000*100100∧I64 y∧Hid (Below w0.heap.size w0 wr)) (fun v1 _ _=>rankP d Q (RowKit.intOf v1))
 case atStart=>exact ⟨x,⟨#[]⟩,rfl,rfl,Lib.hid (.inr HX.out.2),Lib.hid (fun t ht=>by rw [app_nil];exact ht),by have:=Nat.mul_le_mul_right 100100 hrk;show 0+_≤_;omega,hx,HB1⟩
 case round=>
  obtain ⟨y,out,rfl,rfl,HY,HP,hsz,hy64,HB⟩:=hrel
  by_cases hy0:y=0
  ·subst hy0
   go_wp2_with fail
   go_ret2
   exact ⟨out,by have:=HP.out _ PathB.root;rwa [nil_app] at this,rfl,HB.out,by omega⟩
  ·have hyn:¬ y=0:=hy0
   obtain ⟨v,hv⟩:∃ v,p y=some v:=by
    rcases HY.out with h | h
    ·exact absurd h hy0
    ·cases hp:p y with
     | none=>exact absurd h (Ins.none hp)
     | some v=>exact ⟨v,rfl⟩
   have HNx:Hid (v.1=0∨Ins p v.1 0):=Lib.hid (by
    rcases HY.out with h | h
    ·exact absurd h hy0
    ·exact (Ins.some hv).1 h)
   have hvr:=HV.out.t.rng y v hv
   have hrl:rankP d Q v.1 < rankP d Q y:=rankP_lt (y:=⟨y,v.1,v.2⟩) ((HV.out.rep.is _).2 hv) (HD.out _ _ hv)
   obtain ⟨U0,hU0⟩:∃ U0,U0=(⟨#[47]⟩:ByteArray)++nameOf p Q y:=⟨_,rfl⟩
   obtain ⟨U,hU⟩:∃ U,U=U0++out:=⟨_,rfl⟩
   have hns:=nameOf_size HV.out.rep hv hy64 hvr.2.2
   have z0:U0.size≤100023:=by rw [hU0,ByteArray.size_append];show 1+_≤_;omega
   have z1:U.size=U0.size+out.size:=by rw [hU,ByteArray.size_append]
   have m1:∀ w,(Op.stringOp .add ⟨#[47]⟩ (nameOf p Q y)).run Tryz.prog w=.ok (.string U0) w:=fun w=>by rw [hU0];exact run_string_add_sum (P:=Tryz.prog) (w:=w) _ _ (by show 1+_≤_;omega)
   have m2:∀ w,(Op.stringOp .add U0 out).run Tryz.prog w=.ok (.string U) w:=fun w=>by rw [hU];exact run_string_add_sum (P:=Tryz.prog) (w:=w) _ _ (by omega)
   have HPn:Hid (∀ t,PathB p Q v.1 t→PathB p Q x (t++U)):=Lib.hid fun t ht=>by
    have:=HP.out _ (PathB.step hy0 hv ht)
    rwa [←hU0,ByteArray.append_assoc,←hU] at this
   have hsz2:U.size+rankP d Q v.1*100100≤1000000*100100:=by omega
   obtain ⟨j0,e0,he0,hn0,hm0,hone⟩:=ents_one HV.out.rep hv
   have HE:=Lib.hid (And.intro he0 hone)
   have HEn:=Lib.hid (And.intro hn0 hm0)
   have HTr:=Lib.hid (HV.out.t.tree wr HB.out)
   have HPl:=Lib.hid (HV.out.place wr y v hv HB.out)
   have HV64:=Lib.hid hvr.2.1
   have HRl:=Lib.hid hrl
   clear hv hvr hrl hU0 hU hns z0 z1 he0 hn0 hm0 hone HP
   go_wp2_with fail
   refine HTr.out.mono ?_
   rintro e w2 ⟨rfl,rfl⟩
   go_wp2_with fail
   refine HPl.out.mono ?_
   rintro e w3 ⟨rfl,hb3⟩
   obtain ⟨W,hW⟩:∃ W,W=w3.alloc (.cells #[.int .i64 y,.int .i64 v.1,.string v.2] 81):=⟨_,rfl⟩
   have hWb:Below w3.heap.size w3 W:=by rw [hW];exact (Below.refl _ _).alloc (Nat.le_refl _) _
   have hC:W.cell? ⟨w3.heap.size,1,none⟩=some (.int .i64 v.1):=by rw [hW];simp [go_sem]
   have HBW:=Lib.hid (bel2 (bel2 HB.out hb3) hWb)
   have HLs:=Lib.hid (HV.out.list W v.1 HBW.out)
   have HWe:=Lib.hid hW.symm
   obtain ⟨PB,hPB⟩:∃ PB,w3.heap.size=PB:=⟨_,rfl⟩
   have HPB:=Lib.hid hPB
   rw [hPB] at hC
   clear hW hWb hb3 HTr HPl hPB
   go_upto_region 8 with (fail)
   rw [show w3.alloc (.cells #[.int .i64 y,.int .i64 v.1,.string v.2] 81)=W from HWe.out,HPB.out]
   clear HWe HPB
   go_wp2_with fail
   refine HLs.out.mono ?_
   rintro e w4 ⟨A4,n4,c4,rfl,hr4,hb4⟩
   have hn4:n4=(ents (sortV (keysIn v.1 Q))).length:=hr4.sl.len
   have HS4:=Lib.hid hr4.sl
   have HB4:=Lib.hid (bel2 HBW.out hb4)
   have HC4:=Lib.hid (cell_keep' hb4 hC)
   have hn4m:n4≤1000000:=by rw [hn4,ents_len,(sortV_perm _).length_eq];exact Nat.le_trans (keysIn_len _ _) HV.out.len
   obtain ⟨E,hE⟩:∃ E,ents (sortV (keysIn v.1 Q))=E:=⟨_,rfl⟩
   rw [hE] at HE HS4 hn4
   have HN4:=Lib.hid hn4
   have hj0:j0 < n4:=by rw [hn4];exact (List.getElem?_eq_some_iff.1 HE.out.1).1
   clear hr4 hb4 hC hE hn4 HLs HBW
   go_wp2_with fail
   go_loopw [6,40] (fun v6 v40 wq=>∃ j:Nat,j≤n4∧v40=.int .i64 j∧v6=.string (if j≤j0 then out else U)∧Hid (Below w4.heap.size w4 wq)) (fun _ v40 _=>n4 - (RowKit.intOf v40).toNat)
   case atStart=>exact ⟨0,by omega,rfl,by rw [if_pos (Nat.zero_le _)],Lib.hid (Below.refl _ _)⟩
   case round=>
    obtain ⟨j,hj,rfl,rfl,HBj⟩:=hrel
    by_cases hlt:j < n4
    ·obtain ⟨k,hk⟩:∃ k,E[j]?=some k:=⟨_,List.getElem?_eq_getElem (by have:=HN4.out;omega)⟩
     obtain ⟨bb,off,rfl,hbl,q0,q1⟩:=en_at (HS4.out.below HBj.out) hk
     have i0:(0:Int)≤(j:Int):=by omega
     have i1:(j:Int) < (n4:Int):=by omega
     by_cases hkj:k.nd=y
     ·obtain rfl:=HE.out.2 j k hk hkj
      obtain rfl:k=e0:=by rw [HE.out.1] at hk;exact (Option.some.inj hk).symm
      have hkn:=HEn.out.2
      rw [hkn] at q0
      rw [hkj] at q1
      rw [if_pos (Nat.le_refl _)]
      clear hk hkj hkn hbl
      go_wp2_with fail
      go_roundw
      case rel=>exact ⟨j+1,by omega,by go_num,by rw [if_neg (by omega)],Lib.hid (bel2 HBj.out ((Below.refl _ _).alloc (Nat.le_refl _) _))⟩
      case measure=>simp [RowKit.intOf];omega
     ·have hne:j≠j0:=fun e=>by subst e;rw [HE.out.1] at hk;exact hkj (by rw [←Option.some.inj hk];exact HEn.out.1)
      have hko:(if j≤j0 then out else U)=(if j+1≤j0 then out else U):=by
       by_cases hh:j≤j0
       ·rw [if_pos hh,if_pos (by omega)]
       ·rw [if_neg hh,if_neg (by omega)]
      rw [hko]
      have hkb:(k.nd == y)=false:=by simpa using hkj
      clear hk hbl hko
      go_wp2_with fail
      go_roundw
      case rel=>exact ⟨j+1,by omega,by go_num,rfl,Lib.hid (bel2 HBj.out ((Below.refl _ _).alloc (Nat.le_refl _) _))⟩
      case measure=>simp [RowKit.intOf];omega
    ·obtain rfl:j=n4:=by omega
     have i1:¬ (j:Int) < (j:Int):=by omega
     have p1:=cell_keep' HBj.out HC4.out
     rw [if_neg (by omega)]
     go_wp2_with fail
     go_roundw
     case rel=>exact ⟨v.1,U,rfl,rfl,HNx,HPn,hsz2,HV64.out,Lib.hid (bel2 HB4.out HBj.out)⟩
     case measure=>
      exact HRl.out
theorem path_root {RB TB:Nat} {K:List OpT} {p:PlB} {Q:List PlT} (w:World) (h:ViewV RB TB K p Q w) :
  Calls Tryz.prog 29 #[ptrV RB,.int .i64 0] w fun e w'=>e=.returned (.tuple #[.string ⟨#[47]⟩,.bool true])∧Below w.heap.size w w':=by
 unfold ptrV
 clear h
 go_enter Tryz.func29,Tryz.ntmps29
 go_wp2_with fail
 go_ret2
 exact ⟨rfl,Below.refl _ _⟩
theorem path_out {RB TB:Nat} {K:List OpT} {p:PlB} {Q:List PlT} (w:World) (h:ViewV RB TB K p Q w) (x:Int) (hx:I64 x) (hx0:x≠0) (hin:¬ Ins p x 0) :
  Calls Tryz.prog 29 #[ptrV RB,.int .i64 x] w fun e w'=>e=.returned (.tuple #[.string ⟨#[]⟩,.bool false])∧Below w.heap.size w w':=by
 obtain ⟨t,ht,hti⟩:=h.t.inside w x 0 hx (Below.refl _ _)
 have htt:t=false:=by
  cases t with
  | false=>rfl
  | true=>exact absurd (ht.1 rfl) hin
 subst htt
 have HIn:=Lib.hid hti
 have HTr:=Lib.hid (h.t.tree w (Below.refl _ _))
 have hx1:(x == 0)=false:=by simpa using hx0
 have hxn:¬ x=0:=hx0
 unfold ptrV
 clear h hti ht hx0 hin
 go_enter Tryz.func29,Tryz.ntmps29
 go_wp2_with fail
 refine HTr.out.mono ?_
 rintro e w0 ⟨rfl,rfl⟩
 go_wp2_with fail
 refine HIn.out.mono ?_
 rintro e w1 ⟨rfl,hb1⟩
 have HB1:=Lib.hid hb1
 clear hb1 HIn HTr
 go_wp2_with fail
 go_ret2
 exact ⟨rfl,HB1.out⟩
set_option maxHeartbeats 2000000
def namedB (s:ByteArray) (y:EntT):Bool:=y.nm.toList == s.toList
abbrev enCells (x:EntT):Array Value:=#[.string x.nm,.int .i64 x.nd]
theorem named_any (VB:Nat) (s:ByteArray) (y:EntT) (w:World) (hv:w.cell? ⟨VB,0,none⟩=some (.string s)) :
  Calls Tryz.prog 79 #[.agg (enCells y),.pointer (some ⟨VB,0,none⟩)] w fun e w'=>e=.returned (.bool (namedB s y))∧Below w.heap.size w w':=by
 have hl:=World.block_lt_of_cell? _ _ hv
 have hc1:(w.alloc (.cells (enCells y) 61)).cell? ⟨VB,0,none⟩=some (.string s):=cell_keep' ((Below.refl w.heap.size w).alloc (Nat.le_refl _) _) hv
 have hne:w.heap.size≠VB:=by simp only at hl;omega
 obtain ⟨nm,nd⟩:=y
 obtain ⟨tb,htb⟩:∃ tb,(nm.toList == s.toList)=tb:=⟨_,rfl⟩
 have hb:namedB s ⟨nm,nd⟩=tb:=htb
 rw [hb]
 simp only [enCells] at hc1
 clear hv hb
 go_enter Tryz.func79,Tryz.ntmps79
 go_wp2_with fail
 refine bodyPost_ret (v:=.bool tb) (by simp [results,Tryz.results79,go_sem,htb]) rfl ⟨rfl,by go_grown⟩
def firstN (s:ByteArray) (L:List EntT) (r:Int):Prop:=(r = -1∧∀ x,x∈L→namedB s x=false)∨∃ (k:Nat) (x:EntT),L[k]?=some x∧r=(k:Int)∧namedB s x=true∧∀ (j:Nat) (y:EntT),j < k→L[j]?=some y→namedB s y=false
abbrev clN (VB:Nat):Value:=.func (.func 79) #[] #[.pointer (some ⟨VB,0,none⟩)]
theorem indexEn_any (VB:Nat) (s:ByteArray) (A:Option Addr) (n c:Nat) (L:List EntT) (w:World) (hs:SlV entE w (.slice A n c) L) (hc:n≤maxLen) (hv:w.cell? ⟨VB,0,none⟩=some (.string s)) :
  Calls Tryz.prog 78 #[.slice A n c,clN VB] w fun e w'=>∃ r:Int,e=.returned (.int .i64 r)∧firstN s L r∧Below w.heap.size w w':=by
 have hn:=hs.len
 have HN:=Lib.hid hn
 have HS:=Lib.hid hs
 have HV:=Lib.hid hv
 have hmx:n≤9223372036854775807:=by unfold maxLen at hc;omega
 clear hs hn hc hv
 go_enter Tryz.func78,Tryz.ntmps78
 go_wp2_with fail
 go_loopw [5,8] (fun v5 v8 wr=>∃ j:Nat,j≤n∧v8=.int .i64 j∧Hid (Below w.heap.size w wr)∧Hid (∀ i x,i < j→L[i]?=some x→namedB s x=false)) (fun v5 v8 _=>n - (RowKit.intOf v8).toNat)
 case atStart=>exact ⟨0,by omega,rfl,Lib.hid (Below.refl _ _),Lib.hid (fun i x h=>by omega)⟩
 case round=>
  obtain ⟨j,hj,rfl,HW,HA⟩:=hrel
  by_cases hlt:j < n
  ·obtain ⟨x,hx⟩:∃ x,L[j]?=some x:=⟨_,List.getElem?_eq_getElem (by have:=HN.out;omega)⟩
   obtain ⟨b,off,rfl,hbl,c0,c1⟩:=en_at (HS.out.below HW.out) hx
   have HX:=Lib.hid hx
   have HC:=Lib.hid (named_any VB s x wr (cell_keep' HW.out HV.out))
   obtain ⟨q,hq⟩:∃ q,namedB s x=q:=⟨_,rfl⟩
   have HQ:=Lib.hid hq
   rw [hq] at HC
   have i1:(0:Int)≤(j:Int):=by omega
   have i2:(j:Int) < (n:Int):=by omega
   clear hx hq hbl
   go_wp2_with fail
   refine HC.out.mono ?_
   rintro e w1 ⟨rfl,hb1⟩
   have HW1:=Lib.hid (HW.out.trans (hb1.mono HW.out.size))
   clear hb1 c0 c1
   cases q with
   | true=>
    go_wp2_with fail
    go_ret
    exact ⟨j,rfl,.inr ⟨j,x,HX.out,rfl,HQ.out,fun i y h1 h2=>HA.out i y h1 h2⟩,HW1.out⟩
   | false=>
    go_wp2_with fail
    go_roundw
    case rel=>exact ⟨j+1,by omega,by go_num,HW1,Lib.hid (fun i y h1 h2=>by
     by_cases he:i=j
     ·subst he
      rw [HX.out] at h2
      cases h2
      exact HQ.out
     ·exact HA.out i y (by omega) h2)⟩
    case measure=>simp [RowKit.intOf];omega
  ·obtain rfl:j=n:=by omega
   have i2:¬ (j:Int) < (j:Int):=by omega
   go_wp2_with fail
   go_ret
   exact ⟨_,rfl,.inl ⟨rfl,fun x hx=>by
    obtain ⟨i,hi,rfl⟩:=List.getElem_of_mem hx
    exact HA.out i _ (by have:=HN.out;omega) (List.getElem?_eq_getElem hi)⟩,HW.out⟩
def stepF (L:List EntT) (s:ByteArray):Option Int:=(L.find? (namedB s)).map (·.nd)
def walkF (Q:List PlT):Int→List ByteArray→Option Int
 | z,[]=>some z
 | z,s :: r=>match stepF (ents (sortV (keysIn z Q))) s with
  | none=>none
  | some y=>walkF Q y r
theorem walkF_snoc (Q:List PlT) (s:ByteArray):∀ (r:List ByteArray) (z:Int),walkF Q z (r++[s])=(walkF Q z r).bind fun y=>stepF (ents (sortV (keysIn y Q))) s
 | [],z=>by
  simp only [List.nil_append,walkF,Option.bind_some]
  split <;> simp_all
 | t :: r,z=>by
  simp only [List.cons_append,walkF]
  cases stepF (ents (sortV (keysIn z Q))) t with
  | none=>rfl
  | some y=>exact walkF_snoc Q s r y
theorem walkF_none (Q:List PlT):∀ (r q:List ByteArray) (z:Int),walkF Q z r=none→walkF Q z (r++q)=none
 | [],q,z,h=>by cases h
 | t :: r,q,z,h=>by
  simp only [List.cons_append,walkF] at h ⊢
  cases hs:stepF (ents (sortV (keysIn z Q))) t with
  | none=>rfl
  | some y=>rw [hs] at h;exact walkF_none Q r q y h
theorem stepF_no {L:List EntT} {s:ByteArray} (h:firstN s L (-1)):stepF L s=none:=by
 rcases h with ⟨_,h⟩ | ⟨k,x,_,h,_⟩
 ·unfold stepF
  rw [List.find?_eq_none.2 (fun x hx=>by rw [h x hx];decide)]
  rfl
 ·omega
theorem stepF_at {L:List EntT} {s:ByteArray} {k:Nat} {x:EntT} (hx:L[k]?=some x) (h:namedB s x=true) (hn:∀ (j:Nat) (y:EntT),j < k→L[j]?=some y→namedB s y=false):stepF L s=some x.nd:=by
 unfold stepF
 obtain ⟨hk,hx'⟩:=List.getElem?_eq_some_iff.1 hx
 have:L.find? (namedB s)=some x:=by
  rw [List.find?_eq_some_iff_getElem]
  exact ⟨h,k,hk,hx',fun j hj=>by rw [hn j _ hj (List.getElem?_eq_getElem (by omega))];rfl⟩
 rw [this]
 rfl
def findV (Q:List PlT) (s:ByteArray):Option Int:=if Lib.hasPrefix s.data.toList [47]=false then none else if s=⟨#[47]⟩ then some 0 else walkF Q 0 (cutB (s.extract 1 s.size))
theorem namedB_iff {s:ByteArray} {y:EntT}:namedB s y=true↔y.nm=s:=by
 unfold namedB
 rw [beq_iff_eq,ByteArray.toList_eq,ByteArray.toList_eq]
 exact ⟨fun h=>ByteArray.ext (Array.ext' h),fun h=>by rw [h]⟩
theorem stepF_own {p:PlB} {Q:List PlT} (h:RepP Q p) {x:Int} {v:Int×ByteArray} (hx:p x=some v)
  (hap:∀ (i j:Nat) (a b:EntT),(ents (sortV (keysIn v.1 Q)))[i]?=some a→(ents (sortV (keysIn v.1 Q)))[j]?=some b→i < j→a.nm≠b.nm) :
  stepF (ents (sortV (keysIn v.1 Q))) (nameOf p Q x)=some x:=by
 obtain ⟨j,e,hj,he,hn,_⟩:=ents_one h hx
 rw [stepF_at hj (namedB_iff.2 hn) (fun i y hi hy=>by
  cases hb:namedB (nameOf p Q x) y with
  | false=>rfl
  | true=>exact absurd ((namedB_iff.1 hb).trans hn.symm) (hap i j y e hy hj hi)),he]
open CutR in
theorem cutL_snoc (c:UInt8) (b:List UInt8) (hb:∀ x∈b,x≠c):∀ (a:List UInt8),cutL c (a++c :: b)=cutL c a++[b]
 | []=>by
  have:=cutL_hit c [] b (fun x hx=>by cases hx)
  rw [List.nil_append] at this ⊢
  rw [this,cutL_none c b hb,cutL_none c [] (fun x hx=>by cases hx)]
  rfl
 | d :: a=>by
  have ih:=cutL_snoc c b hb a
  rw [List.cons_append,cutL,cutL,ih]
  have hne:=cutL_ne c a
  split
  ·rfl
  ·cases hc:cutL c a with
   | nil=>exact absurd hc hne
   | cons h t=>rfl
theorem cutB_snoc {a b:ByteArray} (hb:∀ x∈b.data.toList,x≠47):cutB (a++(⟨#[47]⟩++b))=cutB a++[b]:=by
 unfold cutB
 rw [show (a++((⟨#[47]⟩:ByteArray)++b)).data.toList=a.data.toList++47 :: b.data.toList by simp [ByteArray.data_append],cutL_snoc 47 _ hb,List.map_append]
 rfl
theorem cutB_one {b:ByteArray} (hb:∀ x∈b.data.toList,x≠47):cutB b=[b]:=by
 unfold cutB
 rw [CutR.cutL_none 47 _ hb]
 simp
theorem found_again {p:PlB} {Q:List PlT} (h:RepP Q p)
  (hap:∀ (z:Int) (i j:Nat) (a b:EntT),(ents (sortV (keysIn z Q)))[i]?=some a→(ents (sortV (keysIn z Q)))[j]?=some b→i < j→a.nm≠b.nm)
  (hno:∀ x v,p x=some v→∀ c∈(nameOf p Q x).data.toList,c≠47) {x:Int} {t:ByteArray} (hP:PathB p Q x t) :
  x≠0→∃ r,t=(⟨#[47]⟩:ByteArray)++r∧walkF Q 0 (cutB r)=some x:=by
 induction hP with
 | root=>exact fun h0=>absurd rfl h0
 | @step x v t hx0 hx hP ih=>
  intro _
  by_cases hz:v.1=0
  ·have ht:t=⟨#[]⟩:=by rw [hz] at hP;exact hP.unique .root
   refine ⟨nameOf p Q x,by rw [ht];apply ByteArray.ext;simp,?_⟩
   have:=stepF_own h hx (hap v.1)
   rw [hz] at this
   rw [cutB_one (hno x v hx),walkF,this]
   rfl
  ·obtain ⟨r,rfl,hr⟩:=ih hz
   refine ⟨r++(⟨#[47]⟩++nameOf p Q x),by apply ByteArray.ext;simp,?_⟩
   rw [cutB_snoc (hno x v hx),walkF_snoc,hr]
   exact stepF_own h hx (hap v.1)
theorem u8_dig {a b:Nat} (ha:a < 10) (hb:b < 10) (h:UInt8.ofNat (48+a)=UInt8.ofNat (48+b)):a=b:=by
 have:=congrArg UInt8.toNat h
 simp [UInt8.toNat_ofNat'] at this
 omega
theorem dec_big {u:Nat} (h:¬ u < 10):Lib.decDigits u=Lib.decDigits (u / 10)++[UInt8.ofNat (48+u % 10)]:=by rw [Lib.decDigits,dif_neg h]
theorem dec_inj:∀ (a b:Nat),Lib.decDigits a=Lib.decDigits b→a=b:=by
 intro a
 induction a using Nat.strongRecOn with
 | ind a ih=>
  intro b h
  by_cases ha:a < 10
  ·by_cases hb:b < 10
   ·rw [Lib.decDigits_one ha,Lib.decDigits_one hb] at h
    exact u8_dig ha hb (List.cons.inj h).1
   ·rw [Lib.decDigits_one ha,dec_big hb] at h
    have:=congrArg List.length h
    have h2:0 < (Lib.decDigits (b / 10)).length:=by
     rw [Lib.decDigits]
     split <;> simp
    simp only [List.length_append,List.length_cons,List.length_nil] at this
    omega
  ·by_cases hb:b < 10
   ·rw [dec_big ha,Lib.decDigits_one hb] at h
    have:=congrArg List.length h
    have h2:0 < (Lib.decDigits (a / 10)).length:=by
     rw [Lib.decDigits]
     split <;> simp
    simp only [List.length_append,List.length_cons,List.length_nil] at this
    omega
   ·rw [dec_big ha,dec_big hb] at h
    obtain ⟨h1,h2⟩:=List.append_inj' h rfl
    have h3:=ih (a / 10) (by omega) (b / 10) h1
    have h4:=u8_dig (Nat.mod_lt a (by decide)) (Nat.mod_lt b (by decide)) (List.cons.inj h2).1
    omega
theorem itoa_inj {a b:Int} (ha:0≤a) (hb:0≤b) (h:Lib.itoa a=Lib.itoa b):a=b:=by
 unfold Lib.itoa at h
 rw [if_neg (by omega),if_neg (by omega)] at h
 have:=dec_inj _ _ h
 omega
theorem dec_ge (u:Nat):∀ c∈Lib.decDigits u,48≤c.toNat∧c.toNat≤57:=by
 induction u using Nat.strongRecOn with
 | ind u ih=>
  intro c hc
  rw [Lib.decDigits] at hc
  split at hc
  ·rw [List.mem_singleton.1 hc]
   simp [UInt8.toNat_ofNat']
   omega
  ·rcases List.mem_append.1 hc with h | h
   ·exact ih (u / 10) (by omega) c h
   ·rw [List.mem_singleton.1 h]
    simp [UInt8.toNat_ofNat']
    omega
theorem cut_one {m:UInt8}:∀ {a b r t:List UInt8},m ∉ a→m ∉ b→a++m :: r=b++m :: t→a=b∧r=t
 | [],[],_,_,_,_,h=>⟨rfl,(List.cons.inj h).2⟩
 | [],y :: b,_,_,_,hb,h=>absurd (List.mem_cons.2 (.inl (List.cons.inj h).1)) hb
 | x :: a,[],_,_,ha,_,h=>absurd (List.mem_cons.2 (.inl (List.cons.inj h).1.symm)) ha
 | x :: a,y :: b,r,t,ha,hb,h=>by
  obtain ⟨h1,h2⟩:=List.cons.inj h
  obtain ⟨h3,h4⟩:=cut_one (fun hm=>ha (List.mem_cons_of_mem _ hm)) (fun hm=>hb (List.mem_cons_of_mem _ hm)) h2
  exact ⟨by rw [h1,h3],h4⟩
def NameL (l:List UInt8):Prop:=l≠[]∧∀ c∈l,nameB c=true
theorem NameL.no {l:List UInt8} (h:NameL l) {c:UInt8} (hc:c=126∨c=47):c ∉ l:=fun hm=>by
 have:=h.2 c hm
 rcases hc with rfl | rfl <;> revert this <;> decide
theorem NameL.app {a b:List UInt8} {c:UInt8} (h:c ∉ a):c ∉ b→c ∉ a++b:=fun hb hm=>(List.mem_append.1 hm).elim h hb
theorem between {ks:List KeyT} (hs:ks.Pairwise (fun x y=>vLt x y=true)) {i j:Nat} {a b c:KeyT} (ha:ks[i]?=some a) (hb:ks[j]?=some b) (hc:ks[j - 1]?=some c) (hij:i < j) (e:a.2=b.2):c.2=b.2:=by
 obtain ⟨ia,ea⟩:=List.getElem?_eq_some_iff.1 ha
 obtain ⟨ib,eb⟩:=List.getElem?_eq_some_iff.1 hb
 obtain ⟨ic,ec⟩:=List.getElem?_eq_some_iff.1 hc
 rcases Nat.lt_or_ge i (j - 1) with h | h
 ·have h1:=List.pairwise_iff_getElem.1 hs i (j - 1) ia ic h
  have h2:=List.pairwise_iff_getElem.1 hs (j - 1) j ic ib (by omega)
  rw [ea,ec] at h1
  rw [ec,eb] at h2
  rcases (vLt_iff _ _).1 h2 with h3 | h3
  ·rcases (vLt_iff _ _).1 h1 with h4 | h4
   ·have:=sLt_trans h4 h3
    rw [e,sLt_irrefl] at this
    cases this
   ·rw [←h4.1,e,sLt_irrefl] at h3
    cases h3
  ·exact h3.1
 ·have:j - 1=i:=by omega
  subst this
  rw [ha] at hc
  cases hc
  exact e
theorem names_apart {ks:List KeyT} (hs:ks.Pairwise (fun x y=>vLt x y=true)) (hn:∀ k∈ks,NameL k.2.data.toList∧0≤k.1) {i j:Nat} {a b:KeyT} (ha:ks[i]?=some a) (hb:ks[j]?=some b) (hij:i < j):(entOf ks i a).nm≠(entOf ks j b).nm:=by
 have na:=hn a (List.mem_of_getElem? ha)
 have nb:=hn b (List.mem_of_getElem? hb)
 have h1:=List.pairwise_iff_getElem.1 hs i j (List.getElem?_eq_some_iff.1 ha).1 (List.getElem?_eq_some_iff.1 hb).1 hij
 rw [(List.getElem?_eq_some_iff.1 ha).2,(List.getElem?_eq_some_iff.1 hb).2] at h1
 have hdup:a.2=b.2→dupB ks j b=true:=fun e=>by
  obtain ⟨c,hc⟩:∃ c,ks[j - 1]?=some c:=⟨_,List.getElem?_eq_getElem (by have:=(List.getElem?_eq_some_iff.1 hb).1;omega)⟩
  have:=between hs ha hb hc hij e
  unfold dupB
  rw [hc]
  simp [this]
  omega
 have dt:∀ k:KeyT,(k.2++(⟨#[126]⟩++S (Lib.itoa k.1))).data.toList=k.2.data.toList++126 :: Lib.itoa k.1:=fun k=>by
  simp [S,ByteArray.data_append]
 intro he
 have hl:=congrArg (fun s:ByteArray=>s.data.toList) he
 unfold entOf at hl
 simp only at hl
 cases da:dupB ks i a <;> cases db:dupB ks j b <;> rw [da,db] at hl
 ·simp only [Bool.false_eq_true,if_false] at hl
  have e:a.2=b.2:=ByteArray.ext (Array.toList_inj.1 hl)
  rw [hdup e] at db
  cases db
 ·simp only [Bool.false_eq_true,if_false,if_true] at hl
  rw [dt] at hl
  exact na.1.no (.inl rfl) (by rw [hl];simp)
 ·simp only [Bool.false_eq_true,if_false,if_true] at hl
  rw [dt] at hl
  exact nb.1.no (.inl rfl) (by rw [←hl];simp)
 ·simp only [if_true] at hl
  rw [dt,dt] at hl
  obtain ⟨h2,h3⟩:=cut_one (na.1.no (.inl rfl)) (nb.1.no (.inl rfl)) hl
  have h4:=itoa_inj na.2 nb.2 h3
  have e:a=b:=Prod.ext h4 (ByteArray.ext (Array.toList_inj.1 h2))
  rw [e,vLt_irrefl] at h1
  cases h1
theorem placed_name {K:List OpT} (hK:DOk K) {x:Int} {v:Int×ByteArray} (h:runO p00 (logOf K) x=some v):NameL v.2.data.toList∧0≤x:=by
 rcases run_from _ h with h1 | ⟨q,hq,h1,h2⟩
 ·cases h1
 ·have hqK:=logOf_mem.1 hq
  have he:=hK.er q hqK.1
  have hnm:nmB q=true:=by
   cases hb:nmB q with
   | true=>rfl
   | false=>
    unfold opErr at he
    by_cases g1:¬ StampOk q.t q.b∨q.n < 1∨400 < q.n
    ·rw [if_pos g1] at he;cases he
    ·rw [if_neg g1] at he
     by_cases g2:¬ (q.k=109∨q.k=105∨q.k=100∨q.k=115)
     ·rw [if_pos g2] at he;cases he
     ·rw [if_neg g2] at he
      by_cases g3:numB q.k q.nd q.ot q.id=false
      ·rw [if_pos g3] at he;cases he
      ·rw [if_neg g3,if_pos hb] at he;cases he
  unfold nmB at hnm
  rw [if_pos (.inl hqK.2)] at hnm
  refine ⟨?_,by rw [←h1];exact (hK.fine hqK.1).nd0⟩
  rw [h2]
  unfold isNmB at hnm
  rw [Bool.and_eq_true,decide_eq_true_eq,List.all_eq_true] at hnm
  refine ⟨fun h0=>?_,hnm.2⟩
  have h1':1≤q.nm.data.toList.length:=hnm.1.1
  have h0':q.nm.data.toList=[]:=h0
  rw [h0'] at h1'
  exact absurd h1' (by decide)
theorem no_stroke {ks:List KeyT} {i:Nat} {k:KeyT} (h:NameL k.2.data.toList) (h0:0≤k.1):(47:UInt8) ∉ (entOf ks i k).nm.data.toList:=by
 unfold entOf
 simp only
 split
 ·rw [show (k.2++((⟨#[126]⟩:ByteArray)++S (Lib.itoa k.1))).data.toList=k.2.data.toList++126 :: Lib.itoa k.1 by simp [S,ByteArray.data_append]]
  refine NameL.app (h.no (.inr rfl)) fun hm=>?_
  rcases List.mem_cons.1 hm with h1 | h1
  ·revert h1;decide
  ·unfold Lib.itoa at h1
   rw [if_neg (by omega)] at h1
   have:=(dec_ge _ _ h1).1
   revert this
   decide
 ·exact h.no (.inr rfl)
theorem ent_key {p:PlB} {Q:List PlT} (h:RepP Q p) {z:Int} {i:Nat} {e:EntT} (he:(ents (sortV (keysIn z Q)))[i]?=some e) :
  ∃ k,(sortV (keysIn z Q))[i]?=some k∧e=entOf (sortV (keysIn z Q)) i k∧p k.1=some (z,k.2):=by
 have hi:i < (sortV (keysIn z Q)).length:=by have:=(List.getElem?_eq_some_iff.1 he).1;rwa [ents_len] at this
 have h1:=List.getElem?_eq_getElem hi
 refine ⟨_,h1,?_,(keysIn_mem h).1 ((sortV_perm _).mem_iff.1 (List.getElem_mem hi))⟩
 have h2:=ents_at h1
 rw [he] at h2
 exact Option.some.inj h2
theorem keys_up {p:PlB} {Q:List PlT} (h:RepP Q p) (z:Int):(sortV (keysIn z Q)).Pairwise (fun x y=>vLt x y=true):=
 sortV_sorted ((keysIn_nodup h z).imp fun hne e=>hne (by rw [e]))
theorem nameOf_ok {K:List OpT} (hK:DOk K) {Q:List PlT} (h:RepP Q (runO p00 (logOf K))) {x:Int} {v:Int×ByteArray} (hx:runO p00 (logOf K) x=some v) :
  1≤(nameOf (runO p00 (logOf K)) Q x).size∧∀ c∈(nameOf (runO p00 (logOf K)) Q x).data.toList,c≠47:=by
 obtain ⟨j,e,hj,_,hn,_⟩:=ents_one h hx
 obtain ⟨k,hk,rfl,hp⟩:=ent_key h hj
 obtain ⟨n1,n2⟩:=placed_name hK hp
 rw [←hn]
 refine ⟨?_,fun c hc e=>?_⟩
 ·have h1:1≤k.2.size:=by
   have:k.2.data.toList.length=k.2.size:=by simp
   rcases hd:k.2.data.toList with _ | ⟨c,r⟩
   ·exact absurd hd n1.1
   ·rw [hd] at this;simp at this;omega
  unfold entOf
  simp only
  split
  ·rw [ByteArray.size_append];omega
  ·exact h1
 ·subst e
  exact no_stroke (k:=k) n1 n2 hc
theorem apart_all {K:List OpT} (hK:DOk K) {Q:List PlT} (h:RepP Q (runO p00 (logOf K))) (z:Int) (i j:Nat) (a b:EntT) (ha:(ents (sortV (keysIn z Q)))[i]?=some a) (hb:(ents (sortV (keysIn z Q)))[j]?=some b) (hij:i < j):a.nm≠b.nm:=by
 obtain ⟨ka,h1,rfl,_⟩:=ent_key h ha
 obtain ⟨kb,h2,rfl,_⟩:=ent_key h hb
 exact names_apart (keys_up h z) (fun k hk=>placed_name hK (v:=(z,k.2)) ((keysIn_mem h (z:=z)).1 ((sortV_perm _).mem_iff.1 hk))) h1 h2 hij
theorem path_found {K:List OpT} (hK:DOk K) {Q:List PlT} (h:RepP Q (runO p00 (logOf K))) {x:Int} {t:ByteArray} (hP:PathB (runO p00 (logOf K)) Q x t) (hx:x≠0):findV Q t=some x:=by
 obtain ⟨r,rfl,hr⟩:=found_again h (apart_all hK h) (fun x v hv=>(nameOf_ok hK h hv).2) hP hx
 have hs:2≤((⟨#[47]⟩:ByteArray)++r).size:=by
  generalize ht:(⟨#[47]⟩:ByteArray)++r=t at hP
  cases hP with
  | root=>exact absurd rfl hx
  | step _ hv _=>
   have:=(nameOf_ok hK h hv).1
   rw [ByteArray.size_append,ByteArray.size_append]
   show 2≤_+(1+_)
   omega
 unfold findV
 have h1:Lib.hasPrefix ((⟨#[47]⟩:ByteArray)++r).data.toList [47]=true:=by
  rw [show ((⟨#[47]⟩:ByteArray)++r).data.toList=47 :: r.data.toList by simp [ByteArray.data_append]]
  simp [Lib.hasPrefix]
 have h2:(((⟨#[47]⟩:ByteArray)++r).extract 1 ((⟨#[47]⟩:ByteArray)++r).size)=r:=by
  apply ByteArray.ext
  simp [ByteArray.data_append]
  right
  show r.size≤1+r.size - 1
  omega
 rw [h1,if_neg (by decide),if_neg (by intro e;rw [e] at hs;exact absurd hs (by decide)),h2]
 exact hr
open Classical in
theorem lost_count {K:List OpT} (hK:DOk K) {Q:List PlT} (h:RepP Q (runO p00 (logOf K))):(Q.filter fun y=>decide (¬ Ins (runO p00 (logOf K)) y.nd 0)).length=(Q.filter fun y=>decide (Ins (runO p00 (logOf K)) y.nd 1)).length:=by
 congr 1
 refine List.filter_congr fun y hy=>?_
 have hp:=(h.is y).1 hy
 have h1:=in_or_lost hK hp
 have h2:=fun h0=>not_both hK (x:=y.nd) h0
 by_cases h3:Ins (runO p00 (logOf K)) y.nd 0
 ·rw [decide_eq_false (fun hn=>hn h3),decide_eq_false (h2 h3)]
 ·rw [decide_eq_true h3,decide_eq_true (h1.resolve_left h3)]
def kE (k:KeyT):EntT:=⟨k.2,k.1⟩
theorem ins_sorted {L:List KeyT} {x:KeyT} {k:Nat} (hs:L.Pairwise (fun a b=>vLt a b=true)) (hl:∀ a∈L,a.1 < x.1)
  (hb:∀ (i:Nat) (a:KeyT),i < k→L[i]?=some a→sLt x.2 a.2=false) (ha:∀ a,L[k]?=some a→sLt x.2 a.2=true) :
  (L.take k++x :: L.drop k).Pairwise (fun a b=>vLt a b=true):=by
 have hs2:=hs
 rw [←List.take_append_drop k L] at hs2
 obtain ⟨s1,s2,s3⟩:=List.pairwise_append.1 hs2
 have t1:∀ a∈L.take k,vLt a x=true:=fun a hm=>by
  obtain ⟨i,hi,rfl⟩:=List.getElem_of_mem hm
  rw [List.length_take] at hi
  have h1:=hb i L[i] (by omega) (List.getElem?_eq_getElem (by omega))
  rw [List.getElem_take,vLt_iff]
  cases h2:sLt L[i].2 x.2 with
  | true=>exact .inl rfl
  | false=>exact .inr ⟨sLt_tri h2 h1,hl _ (List.getElem_mem _)⟩
 have t2:∀ b∈L.drop k,vLt x b=true:=fun b hm=>by
  obtain ⟨j,hj,rfl⟩:=List.getElem_of_mem hm
  rw [List.length_drop] at hj
  rw [List.getElem_drop,vLt_iff]
  have h1:=ha L[k] (List.getElem?_eq_getElem (by omega))
  rcases Nat.eq_zero_or_pos j with rfl | h0
  ·exact .inl h1
  ·have h2:=List.pairwise_iff_getElem.1 hs k (k+j) (by omega) (by omega) (by omega)
   rcases (vLt_iff _ _).1 h2 with h3 | ⟨h3,_⟩
   ·exact .inl (sLt_trans h1 h3)
   ·rw [←h3];exact .inl h1
 refine List.pairwise_append.2 ⟨s1,List.pairwise_cons.2 ⟨t2,s2⟩,fun a ha' b hb'=>?_⟩
 rcases List.mem_cons.1 hb' with rfl | h
 ·exact t1 a ha'
 ·exact s3 a ha' b h
theorem ins_perm {L:List KeyT} {x:KeyT} (k:Nat):(L.take k++x :: L.drop k).Perm (L++[x]):=by
 refine List.perm_middle.trans ?_
 rw [List.take_append_drop]
 exact (List.perm_append_singleton x L).symm
theorem sorted_is {p:PlB} {Q:List PlT} (h:RepP Q p) {z:Int} {L:List KeyT} (hs:L.Pairwise (fun a b=>vLt a b=true)) (hp:L.Perm (keysIn z Q)):L=sortV (keysIn z Q):=
 List.Perm.eq_of_pairwise (le:=fun a b=>vLt a b=true) (fun a b _ _ h1 h2=>by rw [vLt_asymm h1] at h2;cases h2) hs (keys_up h z) (hp.trans (sortV_perm _).symm)
theorem keysIn_snoc (z:Int) (Q:List PlT) (y:PlT):keysIn z (Q++[y])=keysIn z Q++(if y.into=z then [(y.nd,y.nm)] else []):=by
 unfold keysIn outB
 rw [List.filter_append,List.map_append]
 by_cases h:y.into=z <;> simp [h]
end Go.Proofs.YtjekalilfhnpmaaGreatDoor
