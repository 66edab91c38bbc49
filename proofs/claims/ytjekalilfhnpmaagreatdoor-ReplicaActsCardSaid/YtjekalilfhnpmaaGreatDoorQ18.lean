/- Cells of marks: the walk of Marks. Cells of marks: the plain law: whoever sets and joins, in whatever order, the newest one stays. The document's marks: plain law: a mark laid in; they tell the cells. What is wanted besides: dec_len20 infoPlR isInside_any itoa_neg itoa_nonneg placeOf_any ret_str sortL_len. -/
import Derived.Shelf.SlSortCmp.KitK
import Derived.BigQuiet
import Derived.Test.YtjekalilfhnpmaaGreatDoorQ01
import Derived.Test.YtjekalilfhnpmaaGreatDoorQ02
import Derived.Test.YtjekalilfhnpmaaGreatDoorQ05
import Derived.Test.YtjekalilfhnpmaaGreatDoorQ06
import Derived.Test.YtjekalilfhnpmaaGreatDoorQ12
import Derived.Test.YtjekalilfhnpmaaGreatDoorQ16
theorem Go.Proofs.YtjekalilfhnpmaaGreatDoor.κ18 {p:Prop} (h:p):Go.RowKit.Hid p:=Go.Lib.hid h
namespace Go.Proofs.YtjekalilfhnpmaaGreatDoor
open Go Go.RowKit Go.Maps Go.Shelf Go.Lib Go.Sort
set_option linter.unusedVariables false
set_option linter.unusedSimpArgs false
set_option maxHeartbeats 4000000
set_option maxRecDepth 1000000
structure CollIs (m:MapC) (ks:List KeyT) (todo:KeyT→Prop):Prop where
 nod:ks.Pairwise (·≠·)
 mem:∀ k,k∈ks↔(KeyOk k∧¬ todo k∧∃ c,m k=some c∧c.v.size≠0)
theorem CollIs.start (m:MapC):CollIs m [] (fun k=>(m k).isSome=true):=⟨List.Pairwise.nil,fun k=>⟨fun h=>by simp at h,fun ⟨_,h,c,hc,_⟩=>absurd (by rw [hc];rfl) h⟩⟩
theorem CollIs.skip {m:MapC} {ks:List KeyT} {todo:KeyT→Prop} {x:KeyT} {c:CellT} (h:CollIs m ks todo) (hx:m x=some c) (he:c.v.size=0):CollIs m ks (fun y=>todo y∧y≠x):=by
 refine ⟨h.nod,fun k=>⟨fun hk=>?_,fun ⟨h1,h2,c',hc',h3⟩=>?_⟩⟩
 ·obtain ⟨h1,h2,h3⟩:=(h.mem k).1 hk
  exact ⟨h1,fun h=>h2 h.1,h3⟩
 ·refine (h.mem k).2 ⟨h1,fun ht=>?_,c',hc',h3⟩
  refine h2 ⟨ht,fun e=>?_⟩
  rw [e,hx] at hc'
  cases hc'
  exact h3 he
theorem CollIs.take {m:MapC} {ks:List KeyT} {todo:KeyT→Prop} {x:KeyT} {c:CellT} (h:CollIs m ks todo) (hx:m x=some c) (ht:todo x) (hk:KeyOk x) (he:c.v.size≠0):CollIs m (ks++[x]) (fun y=>todo y∧y≠x):=by
 refine ⟨List.pairwise_append.2 ⟨h.nod,by simp,fun a ha b hb e=>?_⟩,fun k=>⟨fun h'=>?_,fun ⟨h1,h2,c',hc',h3⟩=>?_⟩⟩
 ·rw [List.mem_singleton] at hb
  rw [e,hb] at ha
  exact ((h.mem x).1 ha).2.1 ht
 ·rcases List.mem_append.1 h' with h' | h'
  ·obtain ⟨h1,h2,h3⟩:=(h.mem k).1 h'
   exact ⟨h1,fun h=>h2 h.1,h3⟩
  ·rw [List.mem_singleton.1 h']
   exact ⟨hk,fun h=>h.2 rfl,c,hx,he⟩
 ·by_cases e:k=x
  ·exact List.mem_append.2 (.inr (by simp [e]))
  ·exact List.mem_append.2 (.inl ((h.mem k).2 ⟨h1,fun h=>h2 ⟨h,e⟩,c',hc',h3⟩))
def MarksEnds (m:MapC) (n:Nat) (w:World) (e:Ending) (w':World):Prop:=
 ∃ (v:Value) (ks:List KeyT),e=.returned v∧Rw markE 130 w.heap.size v (ks.map (markOf m)) w'∧ks.Pairwise (fun x y=>kLt x y=true)∧(∀ k,k∈ks↔(KeyOk k∧∃ c,m k=some c∧c.v.size≠0))∧ks.length≤n∧Below w.heap.size w w'
theorem marks_any (base CB b n:Nat) (m:MapC) (w:World) (hst:CSt base CB b n m w) (hn:n≤10000) :
  Calls Tryz.prog 66 #[.pointer (some ⟨CB,0,none⟩)] w (MarksEnds m n w):=by
 have p0:=hst.ptr
 have hm:=hst.mt
 have hbl:=hm.lt
 go_enter Tryz.func66,Tryz.ntmps66
 go_wp2_with (at_range;refine wpList_rangeT _ rfl _ _ rfl 220 222 cellK Tryz.underlying185 keyV cellV b n m rfl hm ?_;intro w0 cnt0 hrg0 hc0 hg0 hs0)
 have HF0:Hid (Fr (fun _=>False) w w0):=κ18 ((Fr.of_below (Below.refl _ w)).grown0 hg0)
 have HB0:Hid (Below w.heap.size w w0):=κ18 (HF0.out.below (Nat.le_refl _) (fun _ h=>h.elim))
 have HR0:=κ18 hrg0
 go_frame
 obtain ⟨r,hr⟩:∃ r,r=w.heap.size:=⟨_,rfl⟩
 have hrw:w.heap.size≤r:=by omega
 rw [←hr] at HR0 ⊢
 clear hst p0 hm hrg0 hg0 HF0 hr
 go_loopw [3] (fun v3 wr=>∃ (todo:KeyT→Prop) (cnt:Nat) (ks:List KeyT),RC b r n m todo cnt wr∧ks.length+cnt≤n∧Rw markE 130 w.heap.size v3 (ks.map (markOf m)) wr∧(∀ k,v3.ownBlock=some k→r < k)∧Hid (CollIs m ks todo)∧Below w.heap.size w wr) (fun _ wr=>wr.rangeLeft b r)
 case atStart=>exact ⟨_,cnt0,[],HR0.out,by simpa using hc0,Rw.nil _ _ _ _,fun k hk=>by simp [Value.ownBlock] at hk,κ18 (CollIs.start m),HB0.out⟩
 case round=>
  clear HB0 HR0
  obtain ⟨todo,cnt,ks,hrg,hkn,hrow,hvr,HC,hB⟩:=hrel
  have HRg:=κ18 hrg
  have HRow:=κ18 hrow
  have HV:=κ18 hvr
  have HB:=κ18 hB
  clear hrow hvr hB
  go_wp2_with (at_next;refine wpList_nextT _ rfl _ rfl 220 cellK keyV cellV keyV_inj shapeK b r n m todo cnt rfl hrg ?_ ?_)
  ·intro hdone
   have HMem:Hid (∀ k,k∈ks↔(KeyOk k∧∃ c,m k=some c∧c.v.size≠0)):=κ18 fun k=>by
    rw [HC.out.mem k]
    refine ⟨fun ⟨h1,h2,h3⟩=>⟨h1,h3⟩,fun ⟨h1,h3⟩=>⟨h1,?_,h3⟩⟩
    obtain ⟨kl,hkl⟩:=key_reads h1
    exact hdone k.1 k.2 kl hkl
   clear hdone hrg
   rcases HRow.out.form with ⟨rfl,hnil⟩ | ⟨g,cap,rfl,hcap,_,hg1,hg2⟩
   ·have hks:ks=[]:=by simpa using hnil
    subst hks
    have HN:=κ18 (fun W=>AnyF.slices_SortFunc_none (ρ:=Tryz.sortMark_ren) Tryz.sortMark none 0 (.func (.func 127) #[] #[]) W)
    have HN2:Hid (∀ W,Calls Tryz.prog 126 #[.slice none 0 0,.func (.func 127) #[] #[]] W fun e w'=>e=.returned (.tuple #[])∧w'=W):=κ18 fun W=>HN.out W
    clear hnil HN
    go_wp2_with fail
    refine (HN2.out _).mono ?_
    rintro e w2 ⟨rfl,rfl⟩
    go_wp2_with fail
    go_ret
    exact ⟨_,[],rfl,HRow.out,List.Pairwise.nil,HMem.out,by simp,HB.out⟩
   ·have HS:=κ18 (marksSort_any w.heap.size g (ks.map (markOf m)).length cap m ks wr HRow.out HB.out.size (by omega))
    clear hcap hg1 hg2
    obtain ⟨q,hq⟩:∃ q,(ks.map (markOf m)).length=q:=⟨_,rfl⟩
    rw [hq] at HS ⊢
    clear hq
    go_wp2_with fail
    refine HS.out.mono ?_
    rintro e w2 ⟨rfl,hr2,hb2⟩
    have HR2:=κ18 hr2
    have HB2:=κ18 (HB.out.trans hb2)
    clear hr2 hb2 HS
    go_wp2_with fail
    go_ret
    exact ⟨_,sortK ks,rfl,HR2.out,sortK_sorted HC.out.nod,fun k=>by rw [(sortK_perm ks).mem_iff];exact HMem.out k,by rw [(sortK_perm ks).length_eq];omega,HB2.out⟩
  ·intro xn xs c w1 cnt1 kl hkey hmx htd hrg1 hlt hg1 hs1 hen
   have HK:=κ18 (keyOk_of ⟨kl,hkey⟩)
   have hF1:Fr (·=r) wr w1:=fr_of_grown hg1 rfl
   have HRow1:Hid (Rw markE 130 w.heap.size _ (ks.map (markOf m)) w1):=κ18 (HRow.out.fr (X:=(·=r)) (fun k h1 h2=>hF1.block k h1 h2) (fun k hk e=>by have:=HV.out k hk;omega))
   have HB1:=κ18 (HB.out.trans (hF1.below HB.out.size (fun k hk=>by rw [hk];exact hrw)))
   have HRg1:=κ18 hrg1
   have hrl:=hrg1.lt
   have hen2:(Instr.entry (.pointer (some ⟨r,0,none⟩))).run Tryz.prog w1=.ok (.tuple #[.agg #[.int .i64 xn,.string xs],.agg #[.string c.v,.int .i64 c.t,.int .i64 c.b]]) w1:=hen
   have HLe:Hid (wr.rangeLeft b r=cnt):=κ18 hrg.left_eq
   have HMx:=κ18 hmx
   have HTd:=κ18 htd
   clear hrg hrg1 hen hkey hg1 hF1 hmx htd HB HRg HRow
   obtain ⟨tb,htb⟩:∃ tb,(c.v.toList == [])=tb:=⟨_,rfl⟩
   have HTb:=κ18 htb
   cases tb with
   | true=>
    have HC1:=κ18 (HC.out.skip HMx.out (by
     have:=HTb.out
     rw [beq_iff_eq,ByteArray.toList_eq] at this
     show c.v.data.size=0
     rw [←Array.length_toList,this];rfl))
    have hba2:∀ o1 o2,Below w1.heap.size w1 ((w1.alloc o1).alloc o2):=fun o1 o2=>((Below.refl _ w1).alloc (Nat.le_refl _) o1).alloc (by simp) o2
    have HRow2:=κ18 (fun o1 o2=>HRow1.out.below (hba2 o1 o2))
    have HB2:=κ18 (fun o1 o2=>HB1.out.trans ((hba2 o1 o2).mono HB1.out.size))
    have HRg2:=κ18 (fun o1 o2=>(HRg1.out.grown (World.grownBy_alloc w1 o1 none) (by simp) (by simp)).grown (World.grownBy_alloc _ o2 none) (by simp) (by simp))
    have HLe2:Hid (∀ o1 o2,((w1.alloc o1).alloc o2).rangeLeft b r=cnt1):=κ18 fun o1 o2=>(HRg2.out o1 o2).left_eq
    clear hba2
    go_wp2_with fail
    go_roundw
    case rel=>exact ⟨_,cnt1,ks,HRg2.out _ _,by omega,HRow2.out _ _,HV.out,HC1,HB2.out _ _⟩
    case measure=>rw [HLe2.out,HLe.out];omega
   | false=>
    have HC1:=κ18 (HC.out.take HMx.out HTd.out HK.out (by
     intro h
     have h2:=HTb.out
     rw [beq_eq_false_iff_ne,ByteArray.toList_eq] at h2
     exact h2 (List.eq_nil_of_length_eq_zero (by rw [Array.length_toList];exact h))))
    have HMk:Hid ((⟨xn,xs,c.v⟩:MarkT)=markOf m (xn,xs)):=κ18 (by unfold markOf;rw [HMx.out])
    have hba3:∀ o1 o2 o3,Below w1.heap.size w1 (((w1.alloc o1).alloc o2).alloc o3):=fun o1 o2 o3=>(((Below.refl _ w1).alloc (Nat.le_refl _) o1).alloc (by simp) o2).alloc (by simp;omega) o3
    have HRow3:=κ18 (fun o1 o2 o3=>HRow1.out.below (hba3 o1 o2 o3))
    have HB3:=κ18 (fun o1 o2 o3=>HB1.out.trans ((hba3 o1 o2 o3).mono HB1.out.size))
    have HRg3:=κ18 (fun o1 o2 o3=>((HRg1.out.grown (World.grownBy_alloc w1 o1 none) (by simp) (by simp)).grown (World.grownBy_alloc _ o2 none) (by simp) (by simp)).grown (World.grownBy_alloc _ o3 none) (by simp) (by simp))
    have HO3:Hid (∀ o1 o2,SlV markE (((w1.alloc o1).alloc o2).alloc (.cells #[.int .i64 xn,.string xs,.string c.v] 130)) (.slice (some ⟨w1.heap.size+1+1,0,none⟩) 1 1) [⟨xn,xs,c.v⟩]):=κ18 fun o1 o2=>by
     have e:w1.heap.size+1+1=((w1.alloc o1).alloc o2).heap.size:=by simp
     rw [e]
     exact SlV.one ((w1.alloc o1).alloc o2) (⟨xn,xs,c.v⟩:MarkT) 130 #[.int .i64 xn,.string xs,.string c.v] rfl
    clear hs1
    have hl3:(ks.map (markOf m)).length+1≤10001:=by rw [List.length_map];omega
    have hsz3:=HB1.out.size
    clear hba3
    go_wp2_with (at_builtin;refine wpList_append_rows_at rfl _ _ 127 rfl markE w.heap.size 130 (.agg #[.int .i64 0,.string ⟨#[]⟩,.string ⟨#[]⟩]) 40 Tryz.underlying127 infoMark rfl (by decide) _ _ (ks.map (markOf m)) [⟨xn,xs,c.v⟩] rfl rfl (HRow3.out _ _ _) (HO3.out _ _) ?za1 ?za2 ?za3 ?_)
    case za1=>unfold maxLen;have:[(⟨xn,xs,c.v⟩:MarkT)].length=1:=rfl;omega
    case za2=>have:[(⟨xn,xs,c.v⟩:MarkT)].length=1:=rfl;omega
    case za3=>simp;omega
    intro v6 w6 hr6 hg6 hat6
    have hr6':Rw markE 130 w.heap.size v6 ((ks++[(xn,xs)]).map (markOf m)) w6:=by
     rw [List.map_append,List.map_singleton,←HMk.out];exact hr6
    have hrg6:RC b r n m (fun y=>todo y∧y≠(xn,xs)) cnt1 w6:=(HRg3.out _ _ _).grown hg6 (fun e=>by have:=HV.out b e.symm;omega) (fun e=>by have:=HV.out r e.symm;omega)
    have hv6:∀ k,v6.ownBlock=some k→r < k:=fun k hk=>by
     rcases hat6 with e | e
     ·exact HV.out k (by rw [←e];exact hk)
     ·rw [e] at hk;have:=Option.some.inj hk;omega
    have hb6:Below w.heap.size w w6:=(HB3.out _ _ _).grown hg6 (by simp;omega) (fun k hk=>by have:=HV.out k hk;omega)
    have HLe6:Hid (w6.rangeLeft b r=cnt1):=κ18 hrg6.left_eq
    have HR6:=κ18 hr6'
    have HRg6:=κ18 hrg6
    have HV6:=κ18 hv6
    have HB6:=κ18 hb6
    have HL6:Hid ((ks++[(xn,xs)]).length+cnt1≤n):=κ18 (by rw [List.length_append];simp;omega)
    clear hr6 hr6' hg6 hat6 hrg6 hv6 hb6 hen2
    go_wp2_with fail
    go_roundw
    case rel=>exact ⟨_,cnt1,_,HRg6.out,HL6.out,HR6.out,HV6.out,HC1,HB6.out⟩
    case measure=>rw [HLe6.out,HLe.out];omega
end Go.Proofs.YtjekalilfhnpmaaGreatDoor
namespace Go.Proofs.YtjekalilfhnpmaaGreatDoor
open Go Go.RowKit Go.Maps
set_option linter.unusedVariables false
set_option linter.unusedSimpArgs false
set_option maxHeartbeats 1000000
set_option maxRecDepth 100000
def InL (L:List OpT) (k:KeyT) (c:CellT):Prop:=∃ o∈L,opErr o=0∧o.k=115∧(o.nd,o.nm)=k∧c=⟨o.vl,o.t,o.b⟩
theorem InL.nil (k:KeyT) (c:CellT):¬ InL [] k c:=fun ⟨o,h,_⟩=>by simp at h
theorem InL.app (L M:List OpT) (k:KeyT) (c:CellT):InL (L++M) k c↔InL L k c∨InL M k c:=by
 constructor
 ·rintro ⟨o,h,r⟩
  rcases List.mem_append.1 h with h | h
  ·exact .inl ⟨o,h,r⟩
  ·exact .inr ⟨o,h,r⟩
 ·rintro (⟨o,h,r⟩ | ⟨o,h,r⟩)
  ·exact ⟨o,List.mem_append.2 (.inl h),r⟩
  ·exact ⟨o,List.mem_append.2 (.inr h),r⟩
structure Best (S:CellT→Prop) (r:Option CellT):Prop where
 no:r=none→∀ c,¬ S c
 is:∀ c,r=some c→S c∧∀ c',S c'→cLt c c'=false
theorem cLt_iff (a b:CellT):cLt a b=true↔a.t < b.t∨a.t=b.t∧a.b < b.b:=by simp [cLt]
theorem cLt_not (a b:CellT):cLt a b=false↔¬ (a.t < b.t∨a.t=b.t∧a.b < b.b):=by simp [cLt]
theorem Best.one {S:CellT→Prop} (hu:∀ c c',S c→S c'→c.t=c'.t→c.b=c'.b→c=c') {r r':Option CellT} (h:Best S r) (h':Best S r'):r=r':=by
 cases hr:r with
 | none=>
  cases hr':r' with
  | none=>rfl
  | some c=>exact absurd (h'.is c hr').1 (h.no hr c)
 | some c=>
  cases hr':r' with
  | none=>exact absurd (h.is c hr).1 (h'.no hr' c)
  | some c'=>
   obtain ⟨h1,h2⟩:=h.is c hr
   obtain ⟨h3,h4⟩:=h'.is c' hr'
   have e1:=(cLt_not _ _).1 (h2 c' h3)
   have e2:=(cLt_not _ _).1 (h4 c h1)
   rw [hu c c' h1 h3 (by omega) (by omega)]
def BestAll (S:KeyT→CellT→Prop) (m:MapC):Prop:=∀ k,KeyOk k→Best (S k) (m k)
theorem BestAll.congr {S S':KeyT→CellT→Prop} {m:MapC} (h:BestAll S m) (e:∀ k c,S' k c↔S k c):BestAll S' m:=fun k hk=>
 ⟨fun hn c hc=>(h k hk).no hn c ((e k c).1 hc),fun c hc=>⟨(e k c).2 ((h k hk).is c hc).1,fun c' hc'=>((h k hk).is c hc).2 c' ((e k c').1 hc')⟩⟩
theorem BestAll.start:BestAll (InL []) (fun _=>none):=fun k _=>⟨fun _ c=>InL.nil k c,fun c h=>(by cases h)⟩
theorem BestAll.join {S T:KeyT→CellT→Prop} {m m':MapC} (h:BestAll S m) (h':BestAll T m'):BestAll (fun k c=>S k c∨T k c) (joinC m m'):=by
 intro k hk
 have b1:=h k hk
 have b2:=h' k hk
 unfold joinC
 cases h1:m k with
 | none=>
  cases h2:m' k with
  | none=>exact ⟨fun _ c hc=>hc.elim (b1.no h1 c) (b2.no h2 c),fun c hc=>by cases hc⟩
  | some c2=>
   obtain ⟨i1,i2⟩:=b2.is c2 h2
   exact ⟨fun e=>(by cases e),fun c hc=>by cases hc;exact ⟨.inr i1,fun c' hc'=>hc'.elim (fun h=>absurd h (b1.no h1 c')) (i2 c')⟩⟩
 | some c1=>
  obtain ⟨j1,j2⟩:=b1.is c1 h1
  cases h2:m' k with
  | none=>exact ⟨fun e=>(by cases e),fun c hc=>by cases hc;exact ⟨.inl j1,fun c' hc'=>hc'.elim (j2 c') (fun h=>absurd h (b2.no h2 c'))⟩⟩
  | some c2=>
   obtain ⟨i1,i2⟩:=b2.is c2 h2
   refine ⟨fun e=>(by cases e),fun c hc=>?_⟩
   have hc':(if cLt c1 c2=true then c2 else c1)=c:=Option.some.inj hc
   by_cases hl:cLt c1 c2=true
   ·rw [if_pos hl] at hc'
    subst hc'
    refine ⟨.inr i1,fun c' hc'=>hc'.elim (fun h=>?_) (i2 c')⟩
    have:=(cLt_not _ _).1 (j2 c' h)
    have:=(cLt_iff _ _).1 hl
    rw [cLt_not]
    omega
   ·rw [if_neg hl] at hc'
    subst hc'
    refine ⟨.inl j1,fun c' hc'=>hc'.elim (j2 c') (fun h=>?_)⟩
    have:=(cLt_not _ _).1 (i2 c' h)
    have:=mt (cLt_iff c1 c2).2 hl
    rw [cLt_not]
    omega
theorem BestAll.set {S:KeyT→CellT→Prop} {m:MapC} {o:OpT} (h:BestAll S m):BestAll (fun k c=>S k c∨InL [o] k c) (setC m o).1:=by
 unfold setC
 by_cases he:opErr o≠0
 ·rw [if_pos he]
  exact h.congr (fun k c=>⟨fun hc=>hc.elim id (fun ⟨x,hx,h1,_⟩=>by rw [List.mem_singleton.1 hx] at h1;exact absurd h1 he),.inl⟩)
 ·rw [if_neg he]
  have he0:opErr o=0:=by omega
  by_cases hk:o.k≠115
  ·rw [if_pos hk]
   exact h.congr (fun k c=>⟨fun hc=>hc.elim id (fun ⟨x,hx,_,h2,_⟩=>by rw [List.mem_singleton.1 hx] at h2;exact absurd h2 hk),.inl⟩)
  ·rw [if_neg hk]
   have hk0:o.k=115:=by omega
   intro k hkk
   have b1:=h k hkk
   have hin:∀ c,InL [o] (o.nd,o.nm) c↔c=⟨o.vl,o.t,o.b⟩:=fun c=>⟨fun ⟨x,hx,_,_,_,hc⟩=>by rw [List.mem_singleton.1 hx] at hc;exact hc,fun hc=>⟨o,by simp,he0,hk0,rfl,hc⟩⟩
   by_cases e:k=(o.nd,o.nm)
   ·subst e
    show Best _ ((layC m (o.nd,o.nm) ⟨o.vl,o.t,o.b⟩).1 (o.nd,o.nm))
    rw [layC_same]
    refine ⟨fun e=>(by cases e),fun c hc=>?_⟩
    have hc:=Option.some.inj hc
    cases hm:m (o.nd,o.nm) with
    | none=>
     rw [hm] at hc
     subst hc
     exact ⟨.inr ((hin _).2 rfl),fun c' hc'=>hc'.elim (fun h=>absurd h (b1.no hm c')) (fun h=>by rw [(hin c').1 h,cLt_not];simp)⟩
    | some was=>
     rw [hm] at hc
     obtain ⟨i1,i2⟩:=b1.is was hm
     have hc':(if cLt was ⟨o.vl,o.t,o.b⟩=true then (⟨o.vl,o.t,o.b⟩:CellT) else was)=c:=hc
     by_cases hl:cLt was ⟨o.vl,o.t,o.b⟩=true
     ·rw [if_pos hl] at hc'
      subst hc'
      refine ⟨.inr ((hin _).2 rfl),fun c' hc'=>hc'.elim (fun h=>?_) (fun h=>by rw [(hin c').1 h,cLt_not];simp)⟩
      have h1:=(cLt_not _ _).1 (i2 c' h)
      have h2:=(cLt_iff _ _).1 hl
      rw [cLt_not]
      dsimp only at h2 ⊢
      omega
     ·rw [if_neg hl] at hc'
      subst hc'
      refine ⟨.inl i1,fun c' hc'=>hc'.elim (i2 c') (fun h=>?_)⟩
      rw [(hin c').1 h]
      cases hh:cLt was ⟨o.vl,o.t,o.b⟩ with
      | false=>rfl
      | true=>exact absurd hh hl
   ·show Best _ ((layC m (o.nd,o.nm) ⟨o.vl,o.t,o.b⟩).1 k)
    rw [layC_other e]
    exact ⟨fun hn c hc=>hc.elim (b1.no hn c) (fun ⟨x,hx,_,_,h3,_⟩=>by rw [List.mem_singleton.1 hx] at h3;exact e h3.symm),fun c hc=>⟨.inl (b1.is c hc).1,fun c' hc'=>hc'.elim ((b1.is c hc).2 c') (fun ⟨x,hx,_,_,h3,_⟩=>by rw [List.mem_singleton.1 hx] at h3;exact absurd h3.symm e)⟩⟩
theorem eq_of_rising:∀ {l l':List KeyT},l.Pairwise (fun x y=>kLt x y=true)→l'.Pairwise (fun x y=>kLt x y=true)→(∀ k,k∈l↔k∈l')→l=l'
 | [],[],_,_,_=>rfl
 | [],b :: s,_,_,h=>by have:=(h b).2 (by simp);simp at this
 | a :: r,[],_,_,h=>by have:=(h a).1 (by simp);simp at this
 | a :: r,b :: s,h1,h2,h=>by
  obtain ⟨a1,a2⟩:=List.pairwise_cons.1 h1
  obtain ⟨b1,b2⟩:=List.pairwise_cons.1 h2
  have hab:a=b:=by
   rcases List.mem_cons.1 ((h a).1 (by simp)) with e | ha
   ·exact e
   ·rcases List.mem_cons.1 ((h b).2 (by simp)) with e | hb
    ·exact e.symm
    ·have:=kLt_trans (a1 b hb) (b1 a ha)
     rw [kLt_irrefl] at this
     cases this
  subst hab
  rw [eq_of_rising a2 b2 (fun p=>⟨fun hp=>by
   rcases List.mem_cons.1 ((h p).1 (by simp [hp])) with e | hp'
   ·have:=a1 p hp
    rw [e,kLt_irrefl] at this
    cases this
   ·exact hp',fun hp=>by
   rcases List.mem_cons.1 ((h p).2 (by simp [hp])) with e | hp'
   ·have:=b1 p hp
    rw [e,kLt_irrefl] at this
    cases this
   ·exact hp'⟩)]
theorem marks_same {m m':MapC} {ks ks':List KeyT} (he:∀ k,KeyOk k→m k=m' k) (h1:ks.Pairwise (fun x y=>kLt x y=true)) (h2:∀ k,k∈ks↔(KeyOk k∧∃ c,m k=some c∧c.v.size≠0))
  (h3:ks'.Pairwise (fun x y=>kLt x y=true)) (h4:∀ k,k∈ks'↔(KeyOk k∧∃ c,m' k=some c∧c.v.size≠0)):ks'.map (markOf m')=ks.map (markOf m):=by
 have e:ks'=ks:=eq_of_rising h3 h1 (fun k=>by
  rw [h2,h4]
  exact ⟨fun ⟨a,b⟩=>⟨a,by rw [he k a];exact b⟩,fun ⟨a,b⟩=>⟨a,by rw [←he k a];exact b⟩⟩)
 subst e
 refine List.map_congr_left fun k hk=>?_
 unfold markOf
 rw [he k ((h2 k).1 hk).1]
def OneStamp (L:List OpT):Prop:=∀ x∈L,∀ y∈L,x.t=y.t→x.b=y.b→x=y
theorem OneStamp.inl {L:List OpT} (h:OneStamp L) (k:KeyT) (c c':CellT) (h1:InL L k c) (h2:InL L k c') (e1:c.t=c'.t) (e2:c.b=c'.b):c=c':=by
 obtain ⟨o,ho,_,_,_,rfl⟩:=h1
 obtain ⟨o',ho',_,_,_,rfl⟩:=h2
 rw [h o ho o' ho' e1 e2]
structure DMk where
 nd:Int
 nm:ByteArray
 vl:ByteArray
 t:Int
 b:Int
def DMk.key (x:DMk):KeyT:=(x.nd,x.nm)
def DMk.cell (x:DMk):CellT:=⟨x.vl,x.t,x.b⟩
def DMk.cells (x:DMk):Array Value:=#[.int .i64 x.nd,.string x.nm,.string x.vl,.int .i64 x.t,.int .i64 x.b]
def dmkE:Enc DMk:=⟨fun x=>x.cells.toList,5,fun _=>rfl,fun x v hv=>by
 simp [DMk.cells] at hv
 rcases hv with rfl | rfl | rfl | rfl | rfl <;> rfl⟩
theorem infoDMk:(Tryz.prog.info? 180).map (fun i=>(i.zero,i.size,i.bytes))=some (some (.agg #[.int .i64 0,.string ⟨#[]⟩,.string ⟨#[]⟩,.int .i64 0,.int .i64 0]),5,56):=by kernel_rfl
inductive LayR (L:List DMk) (x:DMk):List DMk→Bool→Prop
 | newer {A B:List DMk} {y:DMk}:L=A++y :: B→y.key=x.key→cLt y.cell x.cell=true→LayR L x (A++x :: B) true
 | older {A B:List DMk} {y:DMk}:L=A++y :: B→y.key=x.key→cLt y.cell x.cell=false→LayR L x L false
 | fresh {A B:List DMk}:L=A++B→(∀ a∈A,kLt a.key x.key=true)→(∀ b,B.head?=some b→kLt x.key b.key=true)→LayR L x (A++x :: B) true
structure Rep (L:List DMk) (m:MapC):Prop where
 so:(L.map DMk.key).Pairwise (fun x y=>kLt x y=true)
 ok:∀ x∈L,KeyOk x.key
 is:∀ k c,m k=some c↔∃ y∈L,y.key=k∧y.cell=c
theorem Rep.start:Rep [] (fun _=>none):=⟨List.Pairwise.nil,by simp,by simp⟩
theorem Rep.at' {L:List DMk} {m:MapC} (h:Rep L m) {y:DMk} (hy:y∈L):m y.key=some y.cell:=(h.is _ _).2 ⟨y,hy,rfl,rfl⟩
theorem Rep.one {L:List DMk} {m:MapC} (h:Rep L m) {y z:DMk} (hy:y∈L) (hz:z∈L) (e:y.key=z.key):y.cell=z.cell:=by
 have h1:=h.at' hy
 rw [e,h.at' hz] at h1
 exact (Option.some.inj h1).symm
theorem Rep.step {L L':List DMk} {m:MapC} {x:DMk} {is:Bool} (h:Rep L m) (hl:LayR L x L' is) (hk:KeyOk x.key):Rep L' (layC m x.key x.cell).1∧is=(layC m x.key x.cell).2:=by
 cases hl with
 | @newer A B y e ek el=>
  have hy:y∈L:=by rw [e];simp
  have hm:m x.key=some y.cell:=by rw [←ek];exact h.at' hy
  have hc:layC m x.key x.cell=(updT m x.key (some x.cell),true):=by unfold layC;rw [hm];simp [el]
  rw [hc]
  refine ⟨⟨?_,?_,fun k c=>?_⟩,rfl⟩
  ·have:=h.so
   rw [e] at this
   simpa [ek] using this
  ·intro z hz
   rcases List.mem_append.1 hz with hz | hz
   ·exact h.ok z (by rw [e];simp [hz])
   ·rcases List.mem_cons.1 hz with rfl | hz
    ·exact hk
    ·exact h.ok z (by rw [e];simp [hz])
  ·have hs:=h.so
   rw [e,List.map_append,List.map_cons,List.pairwise_append,List.pairwise_cons] at hs
   obtain ⟨_,⟨hb,_⟩,hab⟩:=hs
   by_cases ekx:k=x.key
   ·subst ekx
    show updT m x.key (some x.cell) x.key=some c↔_
    rw [updT_same]
    constructor
    ·intro hcc;cases hcc;exact ⟨x,by simp,rfl,rfl⟩
    ·rintro ⟨z,hz,hzk,rfl⟩
     rcases List.mem_append.1 hz with hz | hz
     ·have:=hab z.key (List.mem_map_of_mem hz) y.key (by simp)
      rw [hzk,ek,kLt_irrefl] at this;cases this
     ·rcases List.mem_cons.1 hz with rfl | hz
      ·rfl
      ·have:=hb z.key (List.mem_map_of_mem hz)
       rw [hzk,ek,kLt_irrefl] at this;cases this
   ·show updT m x.key (some x.cell) k=some c↔_
    rw [updT_other m _ ekx,h.is k c]
    constructor
    ·rintro ⟨z,hz,hzk,hzc⟩
     rw [e] at hz
     refine ⟨z,?_,hzk,hzc⟩
     rcases List.mem_append.1 hz with hz | hz
     ·simp [hz]
     ·rcases List.mem_cons.1 hz with rfl | hz
      ·exact absurd (hzk.symm.trans ek) ekx
      ·simp [hz]
    ·rintro ⟨z,hz,hzk,hzc⟩
     refine ⟨z,?_,hzk,hzc⟩
     rw [e]
     rcases List.mem_append.1 hz with hz | hz
     ·simp [hz]
     ·rcases List.mem_cons.1 hz with rfl | hz
      ·exact absurd hzk.symm ekx
      ·simp [hz]
 | @older A B y e ek el=>
  have hy:y∈L:=by rw [e];simp
  have hm:m x.key=some y.cell:=by rw [←ek];exact h.at' hy
  have hc:layC m x.key x.cell=(m,false):=by unfold layC;rw [hm];simp [el]
  rw [hc]
  exact ⟨h,rfl⟩
 | @fresh A B e ha hb=>
  have hs:=h.so
  rw [e,List.map_append,List.pairwise_append] at hs
  obtain ⟨sA,sB,sAB⟩:=hs
  have hB:∀ z∈B,kLt x.key z.key=true:=by
   cases B with
   | nil=>intro z hz;simp at hz
   | cons b B=>
    have h0:=hb b rfl
    rw [List.map_cons,List.pairwise_cons] at sB
    intro z hz
    rcases List.mem_cons.1 hz with rfl | hz
    ·exact h0
    ·exact kLt_trans h0 (sB.1 z.key (List.mem_map_of_mem hz))
  have hne:∀ z∈L,z.key≠x.key:=by
   intro z hz ez
   rw [e] at hz
   rcases List.mem_append.1 hz with hz | hz
   ·have:=ha z hz;rw [ez,kLt_irrefl] at this;cases this
   ·have:=hB z hz;rw [ez,kLt_irrefl] at this;cases this
  have hm:m x.key=none:=by
   cases hmm:m x.key with
   | none=>rfl
   | some c=>
    obtain ⟨z,hz,hzk,_⟩:=(h.is _ _).1 hmm
    exact absurd hzk (hne z hz)
  have hc:layC m x.key x.cell=(updT m x.key (some x.cell),true):=by unfold layC;rw [hm]
  rw [hc]
  refine ⟨⟨?_,?_,fun k c=>?_⟩,rfl⟩
  ·rw [List.map_append,List.map_cons,List.pairwise_append,List.pairwise_cons]
   refine ⟨sA,⟨fun k hk=>?_,sB⟩,fun k hk k' hk'=>?_⟩
   ·obtain ⟨z,hz,rfl⟩:=List.mem_map.1 hk
    exact hB z hz
   ·obtain ⟨a,ha',rfl⟩:=List.mem_map.1 hk
    rcases List.mem_cons.1 hk' with rfl | hk'
    ·exact ha a ha'
    ·exact sAB _ hk _ hk'
  ·intro z hz
   rcases List.mem_append.1 hz with hz | hz
   ·exact h.ok z (by rw [e];simp [hz])
   ·rcases List.mem_cons.1 hz with rfl | hz
    ·exact hk
    ·exact h.ok z (by rw [e];simp [hz])
  ·have hmem:∀ z,z∈A++x :: B↔z=x∨z∈L:=by
    intro z
    rw [e]
    simp only [List.mem_append,List.mem_cons]
    constructor
    ·rintro (h1 | h1 | h1)
     ·exact .inr (.inl h1)
     ·exact .inl h1
     ·exact .inr (.inr h1)
    ·rintro (h1 | h1 | h1)
     ·exact .inr (.inl h1)
     ·exact .inl h1
     ·exact .inr (.inr h1)
   by_cases ekx:k=x.key
   ·subst ekx
    show updT m x.key (some x.cell) x.key=some c↔_
    rw [updT_same]
    constructor
    ·intro hcc;cases hcc;exact ⟨x,by simp,rfl,rfl⟩
    ·rintro ⟨z,hz,hzk,rfl⟩
     rcases (hmem z).1 hz with rfl | hz
     ·rfl
     ·exact absurd hzk (hne z hz)
   ·show updT m x.key (some x.cell) k=some c↔_
    rw [updT_other m _ ekx,h.is k c]
    constructor
    ·rintro ⟨z,hz,hzk,hzc⟩
     exact ⟨z,(hmem z).2 (.inr hz),hzk,hzc⟩
    ·rintro ⟨z,hz,hzk,hzc⟩
     rcases (hmem z).1 hz with rfl | hz
     ·exact absurd hzk.symm ekx
     ·exact ⟨z,hz,hzk,hzc⟩
def fullL (L:List DMk):List DMk:=L.filter fun x=>!(x.vl.toList == [])
theorem empty_iff (s:ByteArray):(s.toList == [])=true↔s.size=0:=by
 rw [beq_iff_eq,ByteArray.toList_eq]
 show s.data.toList=[]↔s.data.size=0
 rw [←Array.length_toList,List.length_eq_zero_iff]
theorem Rep.marks {L:List DMk} {m:MapC} {ks:List KeyT} (h:Rep L m) (h1:ks.Pairwise (fun x y=>kLt x y=true)) (h2:∀ k,k∈ks↔(KeyOk k∧∃ c,m k=some c∧c.v.size≠0)) :
  ks.map (markOf m)=(fullL L).map fun x=>⟨x.nd,x.nm,x.vl⟩:=by
 have hs:((fullL L).map DMk.key).Pairwise (fun x y=>kLt x y=true):=h.so.sublist ((List.filter_sublist).map _)
 have e:ks=(fullL L).map DMk.key:=eq_of_rising h1 hs (fun k=>by
  rw [h2,List.mem_map]
  constructor
  ·rintro ⟨hk,c,hc,hv⟩
   obtain ⟨y,hy,hyk,rfl⟩:=(h.is k c).1 hc
   refine ⟨y,List.mem_filter.2 ⟨hy,?_⟩,hyk⟩
   simp only [Bool.not_eq_true']
   cases hh:(y.vl.toList == []) with
   | false=>rfl
   | true=>exact absurd ((empty_iff _).1 hh) hv
  ·rintro ⟨y,hy,rfl⟩
   obtain ⟨hy,hv⟩:=List.mem_filter.1 hy
   refine ⟨h.ok y hy,y.cell,h.at' hy,fun h0=>?_⟩
   have:=(empty_iff y.vl).2 h0
   rw [this] at hv;cases hv)
 rw [e,List.map_map]
 refine List.map_congr_left fun y hy=>?_
 have hy:=(List.mem_filter.1 hy).1
 show markOf m y.key=_
 unfold markOf
 rw [h.at' hy]
 rfl
end Go.Proofs.YtjekalilfhnpmaaGreatDoor
namespace Go.Proofs.YtjekalilfhnpmaaGreatDoor
open Go Go.RowKit
set_option linter.unusedVariables false
set_option linter.unusedSimpArgs false
set_option maxHeartbeats 1000000
set_option maxRecDepth 100000
theorem ret_str {a b:ByteArray} (h:a=b):Ending.returned (.string a)=.returned (.string b):=by rw [h]
theorem dec_len20 (u:Nat) (h:u≤9223372036854775808):(S (Lib.decDigits u)).size≤20:=by
 rw [S_size]
 exact dec_len 20 u (by omega) (by omega)
theorem itoa_nonneg (n:Int) (h:0≤n):Lib.itoa n=Lib.decDigits n.toNat:=by unfold Lib.itoa;rw [if_neg (by omega)]
theorem itoa_neg (n:Int) (h:n < 0):Lib.itoa n=45 :: Lib.decDigits n.natAbs:=by unfold Lib.itoa;rw [if_pos h]
end Go.Proofs.YtjekalilfhnpmaaGreatDoor
namespace Go.Proofs.YtjekalilfhnpmaaGreatDoor
open Go Go.RowKit Go.Shelf Go.Lib Go.Sort
set_option linter.unusedVariables false
set_option linter.unusedSimpArgs false
set_option linter.unusedSectionVars false
set_option maxHeartbeats 1000000
section
variable {T:Type} (E:Enc T) {α:Type} [Inhabited α] (f:α→T)
variable {E f}
end
section
variable {T:Type} [Inhabited T] (lt:T→T→Bool)
open Stb
variable {lt}
theorem sortL_len (hS:SWO lt) (L:List T):(sortL lt L).length=L.length:=(sortL_perm hS L).length_eq
end
end Go.Proofs.YtjekalilfhnpmaaGreatDoor
namespace Go.Proofs.YtjekalilfhnpmaaGreatDoor
open Go Go.RowKit Tree
set_option linter.unusedVariables false
set_option linter.unusedSimpArgs false
theorem RepP.have' {Q:List PlT} {p:PlB} (h:RepP Q p) {i:Nat} {y:PlT} (hy:Q[i]?=some y):p y.nd=some (y.into,y.nm):=(h.is y).1 (List.mem_of_getElem? hy)
theorem RepP.lack {Q:List PlT} {p:PlB} (h:RepP Q p) {x:Int} (hx:∀ y∈Q,y.nd≠x):p x=none:=by
 cases hp:p x with
 | none=>rfl
 | some v=>exact absurd rfl (hx ⟨x,v.1,v.2⟩ ((h.is _).2 (by simpa using hp)))
def rankP (d:Int→Nat) (Q:List PlT) (x:Int):Nat:=Q.countP fun y=>decide (d y.nd≤d x)
theorem rankP_le (d:Int→Nat) (Q:List PlT) (x:Int):rankP d Q x≤Q.length:=List.countP_le_length
theorem rankP_lt {d:Int→Nat} {Q:List PlT} {y:PlT} (hy:y∈Q) (hd:d y.into < d y.nd):rankP d Q y.into < rankP d Q y.nd:=by
 unfold rankP
 induction Q with
 | nil=>simp at hy
 | cons z Q ih=>
  have hm:Q.countP (fun z=>decide (d z.nd≤d y.into))≤Q.countP (fun z=>decide (d z.nd≤d y.nd)):=List.countP_mono_left (fun z _ hz=>by simp at hz ⊢;omega)
  rw [List.countP_cons,List.countP_cons]
  rcases List.mem_cons.1 hy with rfl | hy
  ·simp [show ¬ d y.nd≤d y.into by omega]
   omega
  ·have:=ih hy
   by_cases h1:d z.nd≤d y.into
   ·simp [h1,show d z.nd≤d y.nd by omega]
    exact this
   ·simp [h1]
    omega
end Go.Proofs.YtjekalilfhnpmaaGreatDoor
namespace Go.Proofs.YtjekalilfhnpmaaGreatDoor
open Go Go.RowKit Go.Maps Tree
set_option linter.unusedVariables false
set_option linter.unusedSimpArgs false
set_option maxHeartbeats 4000000
set_option maxRecDepth 100000
theorem infoPlR:(Tryz.prog.info? 69).map (fun i=>(i.zero,i.size,i.bytes))=some (some (.agg #[.int .i64 0,.int .i64 0,.string ⟨#[]⟩]),3,32):=by kernel_rfl
theorem pl_at {w:World} {A:Option Addr} {n c:Nat} {Q:List PlT} (h:SlV plE w (.slice A n c) Q) {i:Nat} {y:PlT} (hy:Q[i]?=some y) :
  ∃ b off,A=some ⟨b,off,none⟩∧b < w.heap.size∧w.cell? ⟨b,off+i*3,none⟩=some (.int .i64 y.nd)∧w.cell? ⟨b,off+i*3+1,none⟩=some (.int .i64 y.into)∧w.cell? ⟨b,off+i*3+2,none⟩=some (.string y.nm):=by
 obtain ⟨b,off,e,hb,hc⟩:=h.at' (by decide) hy
 refine ⟨b,off,e,hb,?_⟩
 have g:∀ j u,(plE.cells y)[j]?=some u→w.cell? ⟨b,off+i*3+j,none⟩=some u:=fun j u hu=>by rw [Nat.add_assoc];exact hc j u hu
 exact ⟨g 0 _ rfl,g 1 _ rfl,g 2 _ rfl⟩
def PlaceAt (Q:List PlT) (x r:Int):Prop:=(∃ (k:Nat) (y:PlT),r=(k:Int)∧Q[k]?=some y∧y.nd=x)∨(r = -1∧∀ y∈Q,y.nd≠x)
theorem placeOf_any (A:Option Addr) (n c:Nat) (x:Int) (Q:List PlT) (w:World) (hs:SlV plE w (.slice A n c) Q) (hn:n≤100000) :
  Calls Tryz.prog 82 #[.slice A n c,.int .i64 x] w fun e w'=>∃ r,e=.returned (.int .i64 r)∧PlaceAt Q x r∧w'=w:=by
 have HN:=κ18 hs.len
 have HS:=κ18 hs
 clear hs
 go_enter Tryz.func82,Tryz.ntmps82
 go_wp2_with fail
 go_loopw [5] (fun v5 wr=>∃ i:Nat,i≤n∧v5=.int .i64 i∧wr=w∧Hid (∀ j y,j < i→Q[j]?=some y→y.nd≠x)) (fun v5 _=>n - (intOf v5).toNat)
 case atStart=>exact ⟨0,by omega,rfl,rfl,κ18 (fun j y h=>by omega)⟩
 case round=>
  obtain ⟨i,hi,rfl,rfl,HP⟩:=hrel
  by_cases hlt:i < n
  ·obtain ⟨y,hy⟩:∃ y,Q[i]?=some y:=⟨_,List.getElem?_eq_getElem (by have:=HN.out;omega)⟩
   obtain ⟨b,off,rfl,_,c0,_,_⟩:=pl_at HS.out hy
   have HY:=κ18 hy
   have i1:(0:Int)≤(i:Int):=by omega
   have i2:(i:Int) < (n:Int):=by omega
   clear hy
   by_cases he:y.nd=x
   ·have hb:(y.nd == x)=true:=by simp [he]
    have HE:=κ18 he
    clear he
    go_wp2_with fail
    go_ret
    exact ⟨_,rfl,.inl ⟨i,y,rfl,HY.out,HE.out⟩,rfl⟩
   ·have hb:(y.nd == x)=false:=by simp [he]
    have HE:=κ18 he
    clear he
    go_wp2_with fail
    go_roundw
    case rel=>exact ⟨i+1,by omega,by go_num,trivial,κ18 (fun j z h1 h2=>by
     by_cases hj:j=i
     ·subst hj;rw [HY.out] at h2;cases h2;exact HE.out
     ·exact HP.out j z (by omega) h2)⟩
    case measure=>simp [intOf] <;> omega
  ·have i2:¬ (i:Int) < (n:Int):=by omega
   go_wp2_with fail
   go_ret
   refine ⟨_,rfl,.inr ⟨rfl,fun y hy=>?_⟩,rfl⟩
   obtain ⟨j,hj,rfl⟩:=List.getElem_of_mem hy
   exact HP.out j _ (by have:=HN.out;omega) (List.getElem?_eq_getElem hj)
open Classical in
theorem isInside_any (A:Option Addr) (n c:Nat) (x o:Int) (Q:List PlT) (p:PlB) (w:World) (hs:SlV plE w (.slice A n c) Q) (hn:n≤100000) (hQ:RepP Q p) (hac:Acyc p) :
  Calls Tryz.prog 28 #[.slice A n c,.int .i64 x,.int .i64 o] w fun e w'=>e=.returned (.bool (decide (Ins p x o)))∧w'=w:=by
 obtain ⟨R,hR⟩:∃ R,R=decide (Ins p x o):=⟨_,rfl⟩
 rw [←hR]
 have HR:Hid (R=true↔Ins p x o):=κ18 (by rw [hR,decide_eq_true_iff])
 obtain ⟨d,hd⟩:=hac
 have HD:=κ18 hd
 have HN:=κ18 hs.len
 have HS:=κ18 hs
 have HQ:=κ18 hQ
 have HC:Hid (∀ x,Calls Tryz.prog 82 #[.slice A n c,.int .i64 x] w fun e w'=>∃ r,e=.returned (.int .i64 r)∧PlaceAt Q x r∧w'=w):=κ18 fun x=>placeOf_any A n c x Q w hs hn
 have HK0:Hid (rankP d Q x+0≤n):=κ18 (by have:=rankP_le d Q x;have:=hs.len;omega)
 clear hs hQ hd hR
 go_enter Tryz.func28,Tryz.ntmps28
 go_wp2_with fail
 go_loopw [1,7] (fun v1 v7 wr=>∃ (i:Nat) (z:Int),v1=.int .i64 z∧v7=.int .i64 i∧wr=w∧Hid (rankP d Q z+i≤n)∧Hid (R=true↔Ins p z o)) (fun _ v7 _=>n+1 - (intOf v7).toNat)
 case atStart=>exact ⟨0,x,rfl,rfl,rfl,HK0,HR⟩
 case round=>
  obtain ⟨i,z,rfl,rfl,rfl,HKz,HRz⟩:=hrel
  clear HR HK0
  have hin:i≤n:=by have:=HKz.out;omega
  have i2:(i:Int)≤(n:Int):=by omega
  go_wp2_with fail
  refine (HC.out z).mono ?_
  rintro e w1 ⟨r,rfl,hr,rfl⟩
  rcases hr with ⟨k,y,rfl,hy,hyz⟩ | ⟨rfl,hno⟩
  ·obtain ⟨b,off,rfl,_,_,c1,_⟩:=pl_at HS.out hy
   have hk:k < n:=by have:=HN.out;have:=(List.getElem?_eq_some_iff.1 hy).1;omega
   have hp:p z=some (y.into,y.nm):=by rw [←hyz];exact HQ.out.have' hy
   have hdd:d y.into < d y.nd:=by have:=HD.out z _ hp;rw [hyz];exact this
   have hrk:=rankP_lt (List.mem_of_getElem? hy) hdd
   rw [hyz] at hrk
   have HRk:=κ18 hrk
   have HPz:=κ18 hp
   have k1:(0:Int)≤(k:Int):=by omega
   have k2:(k:Int) < (n:Int):=by omega
   clear hy hyz hp hdd hrk
   by_cases he:y.into=o
   ·have hb:(y.into == o)=true:=by simp [he]
    obtain rfl:R=true:=HRz.out.2 ((Ins.some HPz.out).2 (.inl he))
    clear he
    go_wp2_with fail
    go_ret
    exact ⟨rfl,rfl⟩
   ·have hb:(y.into == o)=false:=by simp [he]
    have HR2:Hid (R=true↔Ins p y.into o):=κ18 (HRz.out.trans ((Ins.some HPz.out).trans ⟨fun h=>h.resolve_left he,.inr⟩))
    clear he
    go_wp2_with fail
    go_roundw
    case rel=>exact ⟨i+1,y.into,rfl,by go_num,trivial,κ18 (by have:=HKz.out;have:=HRk.out;omega),HR2⟩
    case measure=>simp [intOf] <;> omega
  ·have hR0:R=false:=by
    cases R with
    | false=>rfl
    | true=>exact absurd (HRz.out.1 rfl) (Ins.none (HQ.out.lack hno))
   subst hR0
   clear hno
   go_wp2_with fail
   go_ret
   exact ⟨rfl,rfl⟩
end Go.Proofs.YtjekalilfhnpmaaGreatDoor
