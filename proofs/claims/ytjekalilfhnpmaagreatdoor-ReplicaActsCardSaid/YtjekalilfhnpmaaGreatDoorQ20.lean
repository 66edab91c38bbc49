/- A tree: made; its moves; a place; all places. -/
import Derived.Shelf.SlIterI.Nil
import Derived.Shelf.SortM.Plain
import Derived.Shelf.SortM.SortNone
import Derived.Lib.SlKeysI
import Derived.Test.YtjekalilfhnpmaaGreatDoorQ00
import Derived.Test.YtjekalilfhnpmaaGreatDoorQ16
import Derived.Test.YtjekalilfhnpmaaGreatDoorQ17
theorem Go.Proofs.YtjekalilfhnpmaaGreatDoor.κ20 {p:Prop} (h:p):Go.RowKit.Hid p:=Go.Lib.hid h
namespace Go.Proofs.YtjekalilfhnpmaaGreatDoor
open Go Go.RowKit Go.Maps Go.Sort Go.Shelf Tree
set_option linter.unusedVariables false
set_option linter.unusedSimpArgs false
set_option maxHeartbeats 4000000
set_option maxRecDepth 100000
theorem treeNew_any (w:World) :
  Calls Tryz.prog 51 #[] w fun e w'=>∃ TB b,e=.returned (.pointer (some ⟨TB,0,none⟩))∧TrS w.heap.size TB b 0 (.slice none 0 0) [] w'∧Below w.heap.size w w':=by
 have hmm:=@run_makeMap Tryz.prog
 go_enter Tryz.func51,Tryz.ntmps51
 go_wp2_with fail
 go_ret
 refine ⟨_,w.heap.size,rfl,⟨by simp [go_sem],by simp [go_sem],by simp [go_sem],?_,Rw.nil _ _ _ _,by simp,Nat.le_refl _,by simp,fun k hk=>by cases hk⟩,((Below.refl _ w).alloc (Nat.le_refl _) _).alloc (by simp) _⟩
 exact (MT.made w Tryz.prog 3 ekI evP).below ((Below.refl _ _).alloc (Nat.le_refl _) _)
theorem mlook_has {P:Program} {k:TypeId} {b n:Nat} {D:DataW Value} {w:World} (hD:w.ownsMap P k heldR b n D) {kl:Lit} (hh:Maps.has D kl=true):∃ v,mlook D kl=some v:=by
 obtain ⟨es,clock,hb,F,hs,rfl⟩:=hD
 rw [mlook,hh,if_pos rfl]
 simp only [Maps.has,List.any_eq_true] at hh
 simp only [DataW.atKey]
 cases hf:List.find? (fun p=>p.1.sameKey kl) ((es.toList.map (WideElems.rg P k heldR)).foldr DataW.insert []) with
 | none=>
  obtain ⟨p,hp,hs2⟩:=hh
  have:=List.find?_eq_none.1 hf p hp
  rw [hs2] at this
  exact absurd rfl this
 | some p=>
  have hp:=mem_sorted.1 (List.mem_of_find?_eq_some hf)
  obtain ⟨y,hy,rfl⟩:=List.mem_map.1 hp
  obtain ⟨q,hq⟩:=F.reads y hy
  rw [WideElems.rg_of hq]
  obtain ⟨z,hz,hz2⟩:=WideElems.rd_val hq
  refine ⟨y.val,?_⟩
  have hz3:z=(DataW.held y.val,[]):=(Option.some.inj hz).symm
  first | (rw [hz2,hz3];done) | (rw [←hz2,hz3];done) | (simp [←hz2,hz3];done) | (simp [hz2,hz3];done) | (subst hz3;simp [←hz2])
theorem MT_keys {V:Type} {ev:V→Value} {b n:Nat} {m:Int→Option V} {w:World} (h:MT Tryz.prog 3 ekI ev b n m w) :
  ∃ D:DataW Value,w.ownsMap Tryz.prog 3 heldR b n D∧(intKeys D).Nodup∧∀ x,x∈intKeys D↔(I64 x∧(m x).isSome=true):=by
 obtain ⟨f,⟨D,hD,ef⟩,e⟩:=h
 refine ⟨D,hD,?_,fun x=>?_⟩
 ·obtain ⟨es,rfl,hpw,_⟩:=hD.entries treeK
  obtain ⟨es',hD',hko⟩:=hD.keysOf
  obtain rfl:es=es':=by simpa using hD'
  show (es.map fun p=>Go.intOf p.1).Nodup
  refine List.pairwise_map.2 (hpw.imp_of_mem fun {p q} hp' hq' hne e=>hne ?_)
  obtain ⟨v,hv⟩:=hko p hp'
  obtain ⟨a,_,ha,_⟩:=Maps.keyOf_i64 Tryz.underlying3 hv
  obtain ⟨v',hv'⟩:=hko q hq'
  obtain ⟨a',_,ha',_⟩:=Maps.keyOf_i64 Tryz.underlying3 hv'
  rw [ha,ha'] at e ⊢
  exact congrArg _ e
 ·have hhas:x∈intKeys D↔Maps.has D (.int .i64 x)=true:=by
   obtain ⟨es,rfl,hko⟩:=hD.keysOf
   rw [has_eq,List.any_eq_true]
   show x∈es.map (fun p=>Go.intOf p.1)↔_
   rw [List.mem_map]
   constructor
   ·rintro ⟨p,hp',rfl⟩
    obtain ⟨v,hv⟩:=hko p hp'
    obtain ⟨a,_,ha,_⟩:=Maps.keyOf_i64 Tryz.underlying3 hv
    exact ⟨p,hp',by rw [ha];simp [Lit.sameKey,Go.intOf]⟩
   ·rintro ⟨p,hp',hs⟩
    obtain ⟨v,hv⟩:=hko p hp'
    obtain ⟨a,_,ha,_⟩:=Maps.keyOf_i64 Tryz.underlying3 hv
    rw [ha] at hs
    exact ⟨p,hp',by rw [ha];simpa [Lit.sameKey,Go.intOf] using hs⟩
  constructor
  ·intro hx
   have hwf:=intKeys_wf hD Tryz.underlying3 x hx
   have hxi:I64 x:=by
    have h2:(decide (-9223372036854775808≤x) && decide (x≤9223372036854775807))=true:=hwf
    simpa [I64] using h2
   obtain ⟨v,hv⟩:=mlook_has hD (hhas.1 hx)
   obtain ⟨kl,hkl⟩:=ekI_reads hxi
   obtain ⟨a,ha1,ha2,_⟩:=Maps.keyOf_i64 Tryz.underlying3 hkl
   have hax:a=x:=by simpa [ekI,encZ] using ha1.symm
   have h3:=e x kl hkl
   rw [ha2,hax,ef,hv] at h3
   refine ⟨hxi,?_⟩
   cases hm:m x with
   | none=>rw [hm] at h3;cases h3
   | some c=>rfl
  ·rintro ⟨hxi,hm⟩
   rw [hhas]
   obtain ⟨kl,hkl⟩:=ekI_reads hxi
   obtain ⟨a,ha1,ha2,_⟩:=Maps.keyOf_i64 Tryz.underlying3 hkl
   have hax:a=x:=by simpa [ekI,encZ] using ha1.symm
   have h3:=e x kl hkl
   rw [ha2,hax,ef] at h3
   cases hh:Maps.has D (.int .i64 x) with
   | true=>rfl
   | false=>
    rw [mlook,hh,if_neg (by simp)] at h3
    cases hmx:m x with
    | none=>rw [hmx] at hm;cases hm
    | some c=>rw [hmx] at h3;cases h3
theorem plSorts (m:Nat):AnyZI.SortsIn Tryz.prog Tryz.plSorted_ren Fence.wide m:=
 ⟨fun blk off cap ss W hH hblk hsz=>callsIn_wide.2 (AnyM.slices_Sort_int Tryz.plSort blk off cap ss W hH hblk hsz),
  fun p cap W=>callsIn_wide.2 (AnyM.slices_Sort_int_none Tryz.plSort p cap W)⟩
theorem plKeys_any (mb:Option Nat) (W:World):Calls Tryz.prog 85 #[.map mb] W fun e w'=>e=.returned (.func (.func 139) #[] #[.pointer (some ⟨W.heap.size,0,none⟩)])∧w'=W.alloc (.cells #[.map mb] 151):=
 callsIn_wide.1 (AnyZI.keys_in Tryz.plKeys Fence.wide 5 trivial rfl mb W)
theorem plSorted_any (b n:Nat) (D0:DataW Value) (w:World) (hown:w.ownsMap Tryz.prog 3 heldR b n D0) (hmax:Maps.size D0≤1000000) :
  Calls Tryz.prog 64 #[.func (.func 139) #[] #[.pointer (some ⟨w.heap.size,0,none⟩)]] (w.alloc (.cells #[.map (some b)] 151)) fun e w'=>∃ (v:Value) (ss:List Int),e=.returned v∧ss.Perm (intKeys D0)∧
   w'.ownsRow w.heap.size 3 1 v ss.length ((ss.mergeSort (fun x y=>decide (x≤y))).map encZ)∧Below w.heap.size w w':=by
 have hbl:=hown.lt
 have hseq:SeqGives Fence.wide 2 Tryz.prog 139 #[.pointer (some ⟨w.heap.size,0,none⟩)] encZ (fun ss=>ss.Perm (intKeys D0)) (Maps.size D0) (w.alloc (.cells #[.map (some b)] 151)):=
  AnyZI.keys_gives (ρ:=Tryz.plKeys_ren) { Tryz.plKeys with } Fence.wide _ trivial rfl (by omega) w.heap.size b n D0 _ (by simp) (by simp) (by
   obtain ⟨es,clock,hb,Ft,hs,hD⟩:=hown
   exact ⟨es,clock,(Below.heap_alloc _ _ b hbl).trans hb,Ft,hs,hD⟩)
 have cS:=AnyZI.sorted_in Tryz.plSorted Fence.wide 5 trivial trivial trivial trivial rfl (by omega) (plSorts _) (enters_of Tryz.func124 (by kernel_rfl) rfl) 139 #[.pointer (some ⟨w.heap.size,0,none⟩)] trivial (enters_of Tryz.func139 (by kernel_rfl) rfl) _ _ (show Maps.size D0≤maxLen by unfold maxLen;omega) (by omega) _ hseq
 refine (callsIn_wide.1 (show CallsIn Fence.wide 5 Tryz.prog 64 _ _ _ from cS)).mono ?_
 rintro e w' ⟨v,ss,rfl,hS,hrow,hnil,hb⟩
 exact ⟨v,ss,rfl,hS,ownsRow_base_a hrow (by simp),((Below.refl _ w).alloc (Nat.le_refl _) _).trans (hb.mono (by simp))⟩
theorem sorted_up {ss:List Int} (h:ss.Nodup):(ss.mergeSort (fun x y=>decide (x≤y))).Pairwise (· < ·):=by
 have h1:(ss.mergeSort (fun x y=>decide (x≤y))).Pairwise (fun x y=>decide (x≤y)=true):=List.pairwise_mergeSort (fun a b c h1 h2=>by simp only [decide_eq_true_eq] at *;omega) (fun a b=>by simp;omega) ss
 have h2:(ss.mergeSort (fun x y=>decide (x≤y))).Nodup:=(List.mergeSort_perm ss _).nodup_iff.2 h
 refine (h1.and h2).imp fun {a b} ⟨ha,hb⟩=>?_
 simp only [decide_eq_true_eq] at ha
 omega
theorem treePlaces_any (base TB b n:Nat) (lv:Value) (L:List OpT) (w:World) (hst:TrS base TB b n lv L w) (hn:n≤1000000) (hk:∀ x v,runO p00 L x=some v→I64 x) :
  Calls Tryz.prog 34 #[.pointer (some ⟨TB,0,none⟩)] w (PlEnds 81 (runO p00 L) n w):=by
 obtain ⟨D,hD,hnd,hks⟩:=MT_keys hst.mp
 have hsz:=hD.size_le
 have HSo:=κ20 (plSorted_any b n D w hD (by omega))
 have HKe:=κ20 (plKeys_any (some b) w)
 have HSt:=κ20 hst
 have HD1:Hid ((intKeys D).Nodup∧(∀ x,x∈intKeys D↔(I64 x∧(plM (runO p00 L) x).isSome=true))∧(intKeys D).length≤n):=κ20 ⟨hnd,hks,by
  obtain ⟨es,rfl,_⟩:=hD.entries treeK
  simpa [intKeys,Maps.size] using hsz⟩
 have HKx:=κ20 hk
 have p0:=hst.p0
 clear hst hk hD hnd hks hsz
 go_enter Tryz.func34,Tryz.ntmps34
 go_wp2_with fail
 refine HKe.out.mono ?_
 rintro e w1 ⟨rfl,rfl⟩
 go_wp2_with fail
 refine HSo.out.mono ?_
 rintro e w2 ⟨v2,ss,rfl,hss,hrow2,hb2⟩
 obtain ⟨A2,q,c2,rfl⟩:∃ A2 q c2,v2=.slice A2 q c2:=by
  rcases hrow2.2 with ⟨e,_⟩ | ⟨g',cap',cur,e,_⟩
  ·exact ⟨_,_,_,e⟩
  ·exact ⟨_,_,_,e⟩
 obtain ⟨ks,hks⟩:∃ ks,ks=ss.mergeSort (fun x y=>decide (x≤y)):=⟨_,rfl⟩
 rw [←hks] at hrow2
 have HKs:Hid (ks.Pairwise (· < ·)∧(∀ x,x∈ks↔(I64 x∧(plM (runO p00 L) x).isSome=true))∧ks.length≤n):=κ20 (by
  have hp:ks.Perm (intKeys D):=by rw [hks];exact (List.mergeSort_perm ss _).trans hss
  refine ⟨by rw [hks];exact sorted_up (hss.nodup_iff.2 HD1.out.1),fun x=>by rw [hp.mem_iff];exact HD1.out.2.1 x,by rw [hp.length_eq];exact HD1.out.2.2⟩)
 have hsl:ss.length=ks.length:=by rw [hks];simp
 rw [hsl] at hrow2
 have hq:q=ks.length:=by
  rcases hrow2.2 with ⟨e,e2⟩ | ⟨g',cap',cur,e,_⟩
  ·cases e;exact e2.symm
  ·cases e;rfl
 have HQ:=κ20 hq
 have HC:Hid (∀ j x,ks[j]?=some x→∃ g off,A2=some ⟨g,off,none⟩∧g < w2.heap.size∧w2.cell? ⟨g,off+j,none⟩=some (.int .i64 x)):=κ20 fun j x hx=>by
  have hown:=hrow2
  rcases hrow2.2 with ⟨e,e2⟩ | ⟨g',cap',cur,e,_,hh,_⟩
  ·have:=(List.getElem?_eq_some_iff.1 hx).1;omega
  ·cases e
   refine ⟨g',0,rfl,(Array.getElem?_eq_some_iff.1 hh).1,?_⟩
   have:=World.ownsRow.cells hown (g:=g') rfl j (.int .i64 x) (by rw [List.getElem?_map,hx];rfl)
   rw [Addr.add_lit,Nat.zero_add] at this
   rw [Nat.zero_add]
   exact this
 have HB2:=κ20 hb2
 have hq5:q≤1000000:=by have:=HKs.out.2.2;omega
 clear hss hrow2 hb2 hks hsl hq HSo HKe HD1
 go_wp2_with fail
 go_loopw [3,13] (fun v3 v13 wr=>∃ i:Nat,i≤q∧v13=.int .i64 i∧Hid (Rw plE 81 w2.heap.size v3 ((ks.take i).map fun x=>wasP (plM (runO p00 L) x)) wr)∧Hid (Below w2.heap.size w2 wr)) (fun _ v13 _=>q - (RowKit.intOf v13).toNat)
 case atStart=>exact ⟨0,by omega,rfl,κ20 (by simpa using Rw.nil _ _ _ _),κ20 (Below.refl _ _)⟩
 case round=>
  obtain ⟨i,hi,rfl,HR,HB⟩:=hrel
  have HStr:Hid (TrS base TB b n lv L wr):=κ20 ((HSt.out.below HB2.out).below HB.out)
  by_cases hlt:i < q
  ·obtain ⟨x,hx⟩:∃ x,ks[i]?=some x:=⟨_,List.getElem?_eq_getElem (by have:=HQ.out;omega)⟩
   obtain ⟨g,off,rfl,hgl,hc0⟩:=HC.out i x hx
   have c0:=(HB.out.cell hgl).trans hc0
   have q0:=HStr.out.p0
   have hmr:=HStr.out.mp
   have hxi:I64 x:=((HKs.out.2.1 x).1 (List.mem_of_getElem? hx)).1
   have hxm:(plM (runO p00 L) x).isSome=true:=((HKs.out.2.1 x).1 (List.mem_of_getElem? hx)).2
   obtain ⟨y,hy⟩:=Option.isSome_iff_exists.1 hxm
   have HTk:Hid ((ks.take (i+1)).map (fun x=>wasP (plM (runO p00 L) x))=(ks.take i).map (fun x=>wasP (plM (runO p00 L) x))++[y]):=κ20 (by
    obtain ⟨h1,h2⟩:=List.getElem?_eq_some_iff.1 hx
    rw [←List.take_append_getElem h1,h2,List.map_append]
    simp [hy,wasP])
   have hl1:((ks.take i).map (fun x=>wasP (plM (runO p00 L) x))).length+1≤1000001:=by rw [List.length_map,List.length_take];omega
   have i1:(0:Int)≤(i:Int):=by omega
   have i2:(i:Int) < (q:Int):=by omega
   have HRa:=κ20 (fun o'=>HR.out.below ((Below.refl wr.heap.size wr).alloc (Nat.le_refl _) o'))
   have HO1:Hid (SlV plE (wr.alloc (.cells #[.int .i64 y.nd,.int .i64 y.into,.string y.nm] 81)) (.slice (some ⟨wr.heap.size,0,none⟩) 1 1) [y]):=κ20 (SlV.one wr y _ _ rfl)
   have HL1:=κ20 hl1
   clear hx hc0 hxm hlt hl1 hgl
   go_wp2_with (first
    | (at_lookup;refine wpList_lookT _ rfl _ _ _ rfl 3 81 treeK Tryz.underlying151 _ (zeroPl _) ekI evP b n (plM (runO p00 L)) rfl hmr x rfl (ekI_reads hxi) (some y) hy ?_)
    | (at_builtin;refine wpList_append_rows rfl _ _ 77 rfl plE w2.heap.size 81 (.agg #[.int .i64 0,.int .i64 0,.string ⟨#[]⟩]) 32 Tryz.underlying77 infoPlT rfl (by decide) _ _ ((ks.take i).map fun x=>wasP (plM (runO p00 L) x)) [y] rfl rfl (HRa.out _) HO1.out ?zd1 ?zd2 ?zd3 ?_))
   case zd1=>unfold maxLen;have:=HL1.out;simp at this ⊢;omega
   case zd2=>have:=HL1.out;simp at this ⊢;omega
   case zd3=>have:=HB.out.size;simp;omega
   intro v6 w6 hr6 hg6
   have HR6:Hid (Rw plE 81 w2.heap.size v6 ((ks.take (i+1)).map fun x=>wasP (plM (runO p00 L) x)) w6):=κ20 (by rw [HTk.out];simpa [List.map_take] using hr6)
   have HB6:Hid (Below w2.heap.size w2 w6):=κ20 ((HB.out.alloc HB.out.size _).grown hg6 (by have:=HB.out.size;simp;omega) (fun k hk=>(HR.out.lt k hk).1))
   clear hr6 hg6 hmr hy c0 q0
   go_wp2_with fail
   go_roundw
   case rel=>exact ⟨i+1,by omega,by go_num,HR6,HB6⟩
   case measure=>simp [RowKit.intOf] <;> omega
  ·have i2:¬ (i:Int) < (q:Int):=by omega
   obtain rfl:i=q:=by omega
   have hT:ks.take i=ks:=List.take_of_length_le (by have:=HQ.out;omega)
   have HR7:Hid (Rw plE 81 w2.heap.size _ (ks.map fun x=>wasP (plM (runO p00 L) x)) wr):=κ20 (by have:=HR.out;rw [hT] at this;exact this)
   clear hT
   go_wp2_with fail
   go_ret
   refine ⟨_,ks.map fun x=>wasP (plM (runO p00 L) x),rfl,HR7.out.lower HB2.out.size,RepP.keys HKs.out.1 (fun k=>?_),by rw [List.length_map];exact HKs.out.2.2,HB2.out.trans (HB.out.mono HB2.out.size)⟩
   rw [HKs.out.2.1 k]
   have e:(plM (runO p00 L) k).isSome=(runO p00 L k).isSome:=by unfold plM;simp
   rw [e]
   constructor
   ·exact fun h=>h.2
   ·intro h
    obtain ⟨v,hv⟩:=Option.isSome_iff_exists.1 h
    exact ⟨HKx.out k v hv,h⟩
end Go.Proofs.YtjekalilfhnpmaaGreatDoor
