/- view.Find, walked. looked: a closed fact. ViewPaths: the walk. -/
import Derived.TacticsInMore
import Derived.Test.YtjekalilfhnpmaaGreatDoorV10
import Derived.Test.YtjekalilfhnpmaaGreatDoorV12
import Derived.Test.YtjekalilfhnpmaaGreatDoorV38
import Derived.Test.YtjekalilfhnpmaaGreatDoorV39
import Derived.Test.YtjekalilfhnpmaaGreatDoorV40
namespace Go.Proofs.YtjekalilfhnpmaaGreatDoor
open Go Go.RowKit Go.Maps Go.Shelf LineOrd Tree
set_option linter.unusedVariables false
set_option linter.unusedSimpArgs false
set_option maxHeartbeats 8000000
set_option maxRecDepth 100000
attribute [local go_sem] Oper.semAt_some
theorem results_cell2 {fn:Func} {a b:Tmp} {k l:TypeId} (h:fn.results=#[.cell a k,.cell b l]) (tmps:Array Value) (P:Program) (w:World) {p q:Addr} {x y:Value} (ha:tmps.getD a undef=.pointer (some p)) (hb:tmps.getD b undef=.pointer (some q))
  (hx:(loadVar k p).run P w=.ok x w) (hy:(loadVar l q).run P w=.ok y w):(results fn tmps).run P w=.ok (.tuple #[x,y]) w:=by
 have e1:∀ v,(asAddr (.pointer (some v)):Sem Addr).run P w=.ok v w:=fun v=>by simp [asAddr]
 rw [Array.getD_eq_getD_getElem?] at ha hb
 simp [results,h,ha,hb,e1,hx,hy,Sem.run_bind,Result.andThen]
theorem boxed_below {w w':World} {B:Nat} {t:TypeId} {v:Value} (hb:Below w.heap.size w w') (h:Boxed w B t v):Boxed w' B t v:=(hb.block B h.lt).trans h
theorem boxed_fr {X:Nat→Prop} {w w':World} {B:Nat} {t:TypeId} {v:Value} (hb:Fr X w w') (hx:¬ X B) (h:Boxed w B t v):Boxed w' B t v:=(hb.block B h.lt hx).trans h
theorem Fr.keepsFrom {X:Nat→Prop} {B:Nat} {W W':World} (h:Fr X W W') (hx:∀ k,X k→k < B):KeepsFrom B W W':=
 ⟨h.size,fun k o hk ho _=>(h.block k (Array.getElem?_eq_some_iff.1 ho).1 (fun hx'=>by have:=hx k hx';omega)).trans ho⟩
theorem lv_int {p:Addr} {n:Int} {w:World} (h:w.cell? p=some (.int .i64 n)):(loadVar 3 p).run Tryz.prog w=.ok (.int .i64 n) w:=by
 simp [loadVar,isAgg,underlying,Tryz.underlying3,h,Result.andThen]
theorem lv_bool {p:Addr} {b:Bool} {w:World} (h:w.cell? p=some (.bool b)):(loadVar 4 p).run Tryz.prog w=.ok (.bool b) w:=by
 simp [loadVar,isAgg,underlying,Tryz.underlying4,h,Result.andThen]
theorem rangeFunc_wbox {F:Fence} {n:Nat} {P:Program} {α:Type} {g:Operand} {ps:Array Tmp} {assign body:Code} {Q:Exit→Act→World→Prop} {a:Act} {w:World}
  (hro:F.round=none) (h1:1≤n) {gf:Nat} {lb:Array Value} (hg:a.eval g=.func (.func gf) #[] lb) (hFg:F.fn gf) (eg:∀ args w,(callFunc gf args).run P w=.ok (.enter gf args) w)
  {encs:α→Array Value} {Wr Kp:World→World→Prop} {S Sp:List α→Prop} {N:Nat} {w0:World} (hseq:SeqW F (n - 1) P gf lb encs Wr Kp S Sp N w0)
  (hKt:∀ {A B C:World},Kp A B→Kp B C→Kp A C) (hKb:∀ (W:World) (l:Nat) (o':Obj),w.heap.size≤l→Kp W (W.putObj l o')) (hWr:∀ A B,Wr A B→KeepsFrom w.heap.size A B) (hb0:Below w0.heap.size w0 w) (hps:∀ x,(encs x).size=ps.size)
  (I Ix:List α→World→Prop) (hI:OwnFrom w.heap.size I) (hIx:OwnFrom w.heap.size Ix) (hIw:∀ pre A B,I pre A→Wr A B→I pre B) (h0:I [] w) (s:Tmp)
  (PB:α→Nat→World→Prop) (hPB:∀ x B,OwnFrom w.heap.size (fun (_:Unit) W=>PB x B W))
  (hassign:∀ (l:Nat) (pre:List α) (x:α) (W:World) (K:Act→World→Prop),I pre W→(∀ Bx W',KeepsFrom w.heap.size W W'→Kp W W'→I pre W'→PB x Bx W'→∀ a',a'={ tmps:=((ps.zip (encs x)).foldl (fun t (p,v)=>t.setIfInBounds p v) a.tmps).setIfInBounds s (.pointer (some ⟨Bx,0,none⟩)),defers:=[] }→K a' W')→
   assign.wpIn (F.inRound l) (n - 1 - 1) P (Exit.then K (fun _ _ _=>False)) { tmps:=(ps.zip (encs x)).foldl (fun t (p,v)=>t.setIfInBounds p v) a.tmps,defers:=[] } W)
  (hbody:∀ (l:Nat) (pre:List α) (x:α) (Bx:Nat) (W:World),I pre W→PB x Bx W→pre.length < N→body.wpIn (F.inRound l) (n - 1 - 1) P (fun e _ W'=>KeepsFrom w.heap.size W W'∧((e=.normal∧Kp W W'∧I (pre++[x]) W')∨(e=.ret∧Ix (pre++[x]) W'))) { tmps:=((ps.zip (encs x)).foldl (fun t (p,v)=>t.setIfInBounds p v) a.tmps).setIfInBounds s (.pointer (some ⟨Bx,0,none⟩)),defers:=[] } W)
  (hdone:∀ (D:Nat) (xs:List α) (W:World),w.heap.size≤D→S xs→I xs W→W.heap[D]?=some (.deferred (some []))→Q .normal { a with defers:={ target:=.collected D,args:=#[] } :: a.defers } W)
  (hstop:∀ (D:Nat) (pre:List α) (W:World),w.heap.size≤D→Sp pre→Ix pre W→W.heap[D]?=some (.deferred (some []))→Code.ret.wpIn F n P Q { a with defers:={ target:=.collected D,args:=#[] } :: a.defers } W) :
  (Code.rangeFunc g ps assign body).wpIn F n P Q a w:=by
 refine rangeFunc_w hro h1 hg hFg eg hseq hKt hKb hWr hb0 hps I Ix hI hIx hIw h0
  (fun x a' W=>∃ Bx,PB x Bx W∧a'={ tmps:=((ps.zip (encs x)).foldl (fun t (p,v)=>t.setIfInBounds p v) a.tmps).setIfInBounds s (.pointer (some ⟨Bx,0,none⟩)),defers:=[] })
  (fun x a' u W W' row h hgr hr=>by obtain ⟨Bx,h1,h2⟩:=h;exact ⟨Bx,hPB x Bx u W W' row h1 hgr hr,h2⟩) ?_ ?_ hdone hstop
 ·intro l pre x W K hi hK
  exact hassign l pre x W K hi (fun Bx W' k1 k2 k3 k4 a' e=>hK a' W' k1 k2 k3 ⟨Bx,k4,e⟩)
 ·rintro l pre x a' W hi ⟨Bx,hb,rfl⟩ hlen
  exact hbody l pre x Bx W hi hb hlen
theorem postM_ret1c {n D:Nat} {P:Program} {fn:Func} {R:Ending→World→Prop} {a:Act} {w:World} {v:Value} (hd:a.defers=[{ target:=.collected D,args:=#[] }]) (hK:w.heap[D]?=some (.deferred (some []))) (hv:(results fn a.tmps).run P (w.putObj D (.deferred none))=.ok v (w.putObj D (.deferred none))) (hR:R (.returned v) (w.putObj D (.deferred none))):bodyPostM Fence.wide n P fn R .ret a w:=by
 show LeavesInM Fence.wide n P fn a.tmps R a.defers .returning w
 rw [hd]
 exact ⟨by simp,.inl ⟨_,_,rfl,run_takeDeferred hK,⟨v,hv,hR⟩⟩⟩
theorem TreeV.below {RB TB:Nat} {K:List OpT} {p:PlB} {w w':World} (h:TreeV RB TB K p w) (hb:Below w.heap.size w w'):TreeV RB TB K p w':=
 ⟨fun v hv=>h.tree v (bel2 hb hv),fun v hv=>h.places v (bel2 hb hv),fun v x o hx hv=>h.inside v x o hx (bel2 hb hv),h.rng⟩
theorem ViewV.below {RB TB:Nat} {K:List OpT} {p:PlB} {Q:List PlT} {w w':World} (h:ViewV RB TB K p Q w) (hb:Below w.heap.size w w'):ViewV RB TB K p Q w':=
 ⟨h.t.below hb,h.rep,h.len,h.ac,fun v x u hx hv=>h.place v x u hx (bel2 hb hv),fun v z hv=>h.list v z (bel2 hb hv)⟩
theorem viewFind_any {RB TB:Nat} {K:List OpT} {p:PlB} {Q:List PlT} (w:World) (h:ViewV RB TB K p Q w) (s:ByteArray) (hs:s.size≤1000000000000) :
  Calls Tryz.prog 25 #[.pointer (some ⟨RB,0,none⟩),.string s] w fun e w'=>
   e=.returned (.tuple #[.int .i64 ((findV Q s).getD 0),.bool (findV Q s).isSome])∧Below w.heap.size w w':=by
 have HP:Hid (∀ A,Calls Tryz.prog 76 #[.string s,.string ⟨#[47]⟩] A fun e w'=>e=.returned (.bool (Lib.hasPrefix s.data.toList [47]))∧w'=A):=Lib.hid fun A=>Tryz.strings_HasPrefix s ⟨#[47]⟩ A
 have HV:=Lib.hid h
 obtain ⟨F,hF⟩:∃ F,findV Q s=F:=⟨_,rfl⟩
 rw [hF]
 have HF:=Lib.hid hF
 clear h hF
 refine (callsIn_wide (n:=8)).1 ?_
 refine callsIn_of_wp_marks Tryz.func25 rfl trivial ?_ rfl
 simp only [Tryz.ntmps25,List.size_toArray,List.length_cons,List.length_nil,Nat.reduceAdd,Nat.reduceSub,Array.replicate_succ,Array.replicate_zero,List.push_toArray,List.append_toArray,List.nil_append,List.cons_append]
 refine wpIn_wide.2 ?_
 go_wp2_with fail
 refine (HP.out _).mono ?_
 rintro _ _ ⟨rfl,rfl⟩
 cases hpre:Lib.hasPrefix s.data.toList [47] with
 | false=>
  have hn:F=none:=by rw [←HF.out];simp [findV,hpre]
  subst hn
  clear hpre
  go_wp2_with fail
  refine postM_ret0 rfl (results_cell2 Tryz.results25 _ _ _ (by rfl) (by rfl) (lv_int (n:=0) (by simp [go_sem])) (lv_bool (b:=false) (by simp [go_sem]))) ⟨rfl,by go_grown⟩
 | true=>
  have h1:1≤s.size:=by
   rcases hd:s.data.toList with _ | ⟨c,r⟩
   ·rw [hd] at hpre;simp [Lib.hasPrefix] at hpre
   ·have:s.data.toList.length=s.size:=by simp
    rw [hd] at this
    simp at this
    omega
  obtain ⟨tb,htb⟩:∃ tb,(s.toList == [47])=tb:=⟨_,rfl⟩
  have HPre:=Lib.hid hpre
  clear hpre
  cases tb with
  | true=>
   have hsq:s=⟨#[47]⟩:=by
    have:=beq_iff_eq.1 htb
    rw [ByteArray.toList_eq] at this
    exact ByteArray.ext (Array.ext' this)
   have hn:F=some 0:=by rw [←HF.out];unfold findV;rw [HPre.out,hsq];simp
   subst hn
   clear hsq
   go_wp2_with fail
   refine postM_ret0 rfl (results_cell2 Tryz.results25 _ _ _ (by rfl) (by rfl) (lv_int (n:=0) (by simp [go_sem])) (lv_bool (b:=true) (by simp [go_sem]))) ⟨rfl,by go_grown⟩
  | false=>
   obtain ⟨T,hT⟩:∃ T,s.extract 1 s.size=T:=⟨_,rfl⟩
   have hne:s≠⟨#[47]⟩:=fun e=>by rw [e,ByteArray.toList_eq] at htb;exact absurd htb (by decide)
   have hFw:F=walkF Q 0 (cutB T):=by rw [←HF.out,←hT];simp [findV,HPre.out,hne]
   have HFw:=Lib.hid hFw
   have hTs:T.size≤1000000000000:=by rw [←hT];simp;omega
   have hsl:∀ w,(Instr.slice 9 (.string s) (some (.int .i64 1)) none none).run Tryz.prog w=.ok (.string T) w:=fun w=>by rw [←hT];go_simp;intro h;omega
   clear hFw hne
   go_wp2_with fail
   obtain ⟨h,hh⟩:∃ h,w.heap.size=h:=⟨_,rfl⟩
   obtain ⟨W3,hW3⟩:∃ W3,(((w.alloc (.cells #[.pointer (some ⟨RB,0,none⟩)] 23)).alloc (.cells #[.int .i64 0] 3)).alloc (.cells #[.bool false] 4)).alloc (.cells #[.int .i64 0] 3)=W3:=⟨_,rfl⟩
   rw [hW3]
   have z3:W3.heap.size=h+4:=by rw [←hW3,←hh];simp
   have b3:Below h w W3:=by rw [←hW3,←hh];exact ((((Below.refl _ w).alloc (Nat.le_refl _) _).alloc (by simp) _).alloc (by simp;omega) _).alloc (by simp;omega) _
   have k0:W3.cell? ⟨h,0,none⟩=some (.pointer (some ⟨RB,0,none⟩)):=by rw [←hW3,←hh];simp [go_sem]
   have k1:Boxed W3 (h+1) 3 (.int .i64 0):=by rw [←hW3,←hh];have:=((Boxed.new (w.alloc (.cells #[.pointer (some ⟨RB,0,none⟩)] 23)) 3 (.int .i64 0)).alloc (.cells #[.bool false] 4)).alloc (.cells #[.int .i64 0] 3);simpa using this
   have k2:Boxed W3 (h+2) 4 (.bool false):=by rw [←hW3,←hh];have:=(Boxed.new ((w.alloc (.cells #[.pointer (some ⟨RB,0,none⟩)] 23)).alloc (.cells #[.int .i64 0] 3)) 4 (.bool false)).alloc (.cells #[.int .i64 0] 3);simpa [Nat.add_assoc] using this
   have k3:Boxed W3 (h+3) 3 (.int .i64 0):=by rw [←hW3,←hh];have:=Boxed.new (((w.alloc (.cells #[.pointer (some ⟨RB,0,none⟩)] 23)).alloc (.cells #[.int .i64 0] 3)).alloc (.cells #[.bool false] 4)) 3 (.int .i64 0);simpa [Nat.add_assoc] using this
   have K0:=Lib.hid (And.intro b3 (And.intro k0 (And.intro k1 (And.intro k2 k3))))
   clear hW3 b3 k0 k1 k2 k3
   refine (splitSeq_any T W3).mono ?_
   rintro _ _ ⟨rfl,rfl⟩
   obtain ⟨WB,hWB⟩:∃ WB,((W3.alloc (.cells #[.string T] 9)).alloc (.cells #[.string ⟨#[47]⟩] 9)).alloc (.cells #[.int .i64 0] 3)=WB:=⟨_,rfl⟩
   rw [hWB,z3]
   have hb:Below W3.heap.size W3 WB:=by rw [←hWB];exact (((Below.refl _ W3).alloc (Nat.le_refl _) _).alloc (by simp) _).alloc (by simp;omega) _
   have zB:WB.heap.size=h+7:=by rw [←hWB];simp [z3]
   have q0:Boxed WB (h+4) 9 (.string T):=by rw [←hWB,←z3];exact ((Boxed.new W3 _ _).alloc _).alloc _
   have q1:Boxed WB (h+5) 9 (.string ⟨#[47]⟩):=by rw [←hWB];have:=(Boxed.new (W3.alloc (.cells #[.string T] 9)) 9 (.string ⟨#[47]⟩)).alloc (.cells #[.int .i64 0] 3);simpa [z3] using this
   have q2:Boxed WB (h+6) 3 (.int .i64 0):=by rw [←hWB];have:=(Boxed.new ((W3.alloc (.cells #[.string T] 9)).alloc (.cells #[.string ⟨#[47]⟩] 9)) 3 (.int .i64 0));simpa [z3] using this
   have KB:=Lib.hid (And.intro ((K0.out.1).trans (hb.mono (by omega))) (And.intro (cell_keep' hb K0.out.2.1) (And.intro (boxed_below hb K0.out.2.2.1) (And.intro (boxed_below hb K0.out.2.2.2.1) (boxed_below hb K0.out.2.2.2.2)))))
   have QB:=Lib.hid (And.intro q0 (And.intro q1 q2))
   clear hWB hb q0 q1 q2 K0
   rw [hh]
   go_wp2_with fail
   refine (wpIn_wide (n:=8)).1 ?_
   refine rangeFunc_wbox rfl (by omega) (gf:=182) (lb:=#[.pointer (some ⟨h+4+1,0,none⟩),.pointer (some ⟨h+4,0,none⟩),.pointer (some ⟨h+4+2,0,none⟩)]) rfl trivial (enters_of Tryz.func182 (by kernel_rfl) rfl)
    (split_seq 7 (by omega) (h+4) (h+3) (h+7) T hTs WB (by omega) (by omega) (by omega) QB.out.1 QB.out.2.1 QB.out.2.2) (fun a b=>a.trans b) ?hKb ?hWr (Below.refl _ _) (fun _=>rfl)
    (fun pre W=>∃ y,walkF Q 0 pre=some y∧Boxed W (h+3) 3 (.int .i64 y)∧Fr (fun k=>k=h+3∨k=h+4∨h+7≤k) WB W)
    (fun pre W=>walkF Q 0 pre=none∧Boxed W (h+1) 3 (.int .i64 0)∧Boxed W (h+2) 4 (.bool false)∧Below h w W) ?hI ?hIx ?hIw ⟨0,rfl,KB.out.2.2.2.2,Fr.of_below (Below.refl _ _)⟩ 7
    (fun x Bx W=>h+7≤Bx∧W.cell? ⟨Bx,0,none⟩=some (.string x)) ?hPB ?assign ?body ?done ?stop
   case hKb=>
    intro W l o' hl
    exact ⟨rfl,rfl,rfl,by simp [World.putObj],fun k hk hx=>World.putObj_heap_other (by intro e;apply hx;right;omega)⟩
   case hWr=>
    rintro A B ⟨v,rfl⟩
    exact KeepsFrom.of_grownBy (grownBy_setCell' A (h+4) _) (fun j e=>by cases e;omega)
   case hI=>
    rintro pre A B row ⟨y,h1,h2,h3⟩ hg hr
    refine ⟨y,h1,h2.kept hg (fun e=>by have:=(hr _ e.symm).1;omega),h3.trans ⟨hg.os,hg.tape,hg.output,hg.size,fun k hk hx=>hg.block k hk (fun e=>hx (.inr (.inr (by have:=(hr _ e.symm).1;omega))))⟩⟩
   case hIx=>
    rintro pre A B row ⟨h1,h2,h3,h4⟩ hg hr
    refine ⟨h1,h2.kept hg (fun e=>by have:=(hr _ e.symm).1;omega),h3.kept hg (fun e=>by have:=(hr _ e.symm).1;omega),h4.trans ?_⟩
    exact ⟨hg.os,hg.tape,hg.output,hg.size,fun k hk=>hg.block k (by have:=h4.size;omega) (fun e=>by have:=(hr _ e.symm).1;omega)⟩
   case hIw=>
    rintro pre A B ⟨y,h1,h2,h3⟩ ⟨v,rfl⟩
    have hg:=grownBy_setCell' A (h+4) (.string v)
    refine ⟨y,h1,h2.other (by omega) _,h3.trans ⟨hg.os,hg.tape,hg.output,hg.size,fun k hk hx=>hg.block k hk (fun e=>hx (.inr (.inl (by cases e;rfl))))⟩⟩
   case hPB=>
    rintro x Bx u A B row ⟨h1,h2⟩ hg hr
    exact ⟨h1,cell_kept h2 hg (fun r e=>(hr r e).2)⟩
   case assign=>
    rintro l pre x W K ⟨y,h1,h2,h3⟩ hK
    have hbl:=(Below.refl W.heap.size W).alloc (Nat.le_refl _) (.cells #[.string x] 9)
    have hsz:h+7≤W.heap.size:=by have:=h3.size;omega
    have hK2:=hK W.heap.size (W.alloc (.cells #[.string x] 9)) ((KeepsOthers.alloc _ _).from _) (Fr.of_below hbl) ⟨y,h1,h2.alloc _,h3.trans (Fr.of_below hbl)⟩ ⟨hsz,by simp [go_sem]⟩
    have HK2:=Lib.hid hK2
    clear hK hbl h1 h2 h3 hK2
    gi_wp2
    refine HK2.out _ ?_
    simp
   case body=>
    rintro l pre x Bx W ⟨y,hy,by0,hf⟩ ⟨hBx,cBx⟩ hlen
    have hsz:h+7≤W.heap.size:=by have:=hf.size;omega
    have c0:W.cell? ⟨h,0,none⟩=some (.pointer (some ⟨RB,0,none⟩)):=(hf.cell (by show h < _;omega) (by show ¬ (h=h+3∨h=h+4∨h+7≤h);omega)).trans KB.out.2.1
    have cy:=by0.cell
    have hbW:Below h w W:=KB.out.1.trans (hf.below (by omega) (by intro k hk;omega))
    have HL:=Lib.hid (HV.out.list W y (by rw [hh];exact hbW))
    have HY:=Lib.hid (And.intro hy hf)
    have HBy:=Lib.hid by0
    have HC:=Lib.hid cBx
    have HW:=Lib.hid hbW
    clear hy hf cBx hbW by0
    gi_wp2
    refine ⟨trivial,(CallsIn.inRound l (callsIn_wide.2 HL.out)).mono ?_⟩
    rintro e w2 ⟨A,n,c,rfl,hr2,hb2⟩
    have HB2:=Lib.hid hb2
    have HS2:=Lib.hid hr2.sl
    have hnm:n≤1000000:=by rw [hr2.sl.len,ents_len,(sortV_perm _).length_eq];exact Nat.le_trans (keysIn_len _ _) HV.out.len
    clear hr2 hb2 HL
    gi_wp2
    refine ⟨trivial,(CallsIn.inRound l (callsIn_wide.2 (indexEn_any Bx x A n c _ w2 HS2.out (by unfold maxLen;omega) (cell_keep' HB2.out HC.out)))).mono ?_⟩
    rintro e w3 ⟨r,rfl,hfn,hb3⟩
    have HB3:=Lib.hid (HB2.out.trans (hb3.mono HB2.out.size))
    have hs3:h+7≤w3.heap.size:=by have:=HB3.out.size;omega
    have hfr:Fr (fun k=>k=h+3∨k=h+4∨h+7≤k) WB w3:=HY.out.2.trans (Fr.of_below HB3.out)
    have b1:=boxed_fr hfr (by omega) KB.out.2.2.1
    have b2:=boxed_fr hfr (by omega) KB.out.2.2.2.1
    have b3:=boxed_below HB3.out HBy.out
    have e1:=b1.cell
    have e2:=b2.cell
    have e3:=b3.cell
    have f1:=b1.frozen
    have f2:=b2.frozen
    have f3:=b3.frozen
    have HX:=Lib.hid (And.intro b1 (And.intro b2 b3))
    clear b1 b2 b3 cy c0
    rcases hfn with ⟨rfl,hno⟩ | ⟨k,en,hk,rfl,hnam,hbef⟩
    ·have hw:walkF Q 0 (pre++[x])=none:=by rw [walkF_snoc,HY.out.1];exact stepF_no (.inl ⟨rfl,hno⟩)
     have HWn:=Lib.hid hw
     clear hno hw hfr hb3
     gi_wp2
     obtain ⟨W4,hW4⟩:∃ W4,(w3.setCell ⟨h+1,0,none⟩ (.int .i64 0)).setCell ⟨h+1+1,0,none⟩ (.bool false)=W4:=⟨_,rfl⟩
     have hs1:Fr (fun k=>k=h+1∨k=h+2) W W4:=by rw [←hW4];exact ((Fr.of_below HB3.out).trans ((fr_set w3 (h+1) 0 _).mono (fun k e=>.inl e))).trans ((fr_set _ (h+1+1) 0 _).mono (fun k e=>.inr e))
     have g1:Boxed W4 (h+1) 3 (.int .i64 0):=by rw [←hW4];exact (HX.out.1.set _).other (by omega) _
     have g2:Boxed W4 (h+2) 4 (.bool false):=by rw [←hW4];exact (HX.out.2.1.other (by omega) _).set _
     rw [hW4]
     exact ⟨hs1.keepsFrom (by intro k hk;omega),HWn.out,g1,g2,HW.out.trans (hs1.below (by omega) (by intro k hk;omega))⟩
    ·have hw:walkF Q 0 (pre++[x])=some en.nd:=by rw [walkF_snoc,HY.out.1];exact stepF_at hk hnam hbef
     obtain ⟨b,off,rfl,hbl,d0,d1⟩:=en_at (HS2.out.below hb3) hk
     have HWn:=Lib.hid hw
     have HF3:=Lib.hid hfr
     have i1:(0:Int)≤(k:Int):=by omega
     have i2:(k:Int) < (n:Int):=by have:=(List.getElem?_eq_some_iff.1 hk).1;rw [←HS2.out.len] at this;omega
     clear hw hfr hk hnam hbef hb3
     gi_wp2
     obtain ⟨W4,hW4⟩:∃ W4,w3.setCell ⟨h+1+1+1,0,none⟩ (.int .i64 en.nd)=W4:=⟨_,rfl⟩
     have hs1:Fr (fun k=>k=h+3) W W4:=by rw [←hW4];exact (Fr.of_below HB3.out).trans (fr_set w3 (h+1+1+1) 0 _)
     have g1:Boxed W4 (h+3) 3 (.int .i64 en.nd):=by rw [←hW4];exact HX.out.2.2.set _
     rw [hW4]
     exact ⟨hs1.keepsFrom (by intro k hk;omega),hs1.mono (fun k e=>.inl e),_,HWn.out,g1,HY.out.2.trans (hs1.mono (fun k e=>.inl e))⟩
   case done=>
    rintro D xs W hD rfl ⟨y,h1,h2,h3⟩ hK
    have hFy:F=some y:=by rw [HFw.out];exact h1
    subst hFy
    have hW1:Below h w W:=KB.out.1.trans (h3.below (by omega) (by intro k hk;omega))
    have b1:=boxed_fr h3 (by omega) KB.out.2.2.1
    have b2:=boxed_fr h3 (by omega) KB.out.2.2.2.1
    have e1:=b1.cell
    have e2:=b2.cell
    have e3:=h2.cell
    have f1:=b1.frozen
    have f2:=b2.frozen
    have HX:=Lib.hid (And.intro b1 (And.intro b2 hW1))
    have HK:=Lib.hid hK
    have hDl:=(Array.getElem?_eq_some_iff.1 hK).1
    clear h1 h2 h3 b1 b2 hW1 hK
    go_wp2_with fail
    have hs1:Fr (fun k=>k=h+1∨k=h+2) W ((W.setCell ⟨h+1,0,none⟩ (.int .i64 y)).setCell ⟨h+1+1,0,none⟩ (.bool true)):=((fr_set W (h+1) 0 _).mono (fun k e=>.inl e)).trans ((fr_set _ (h+1+1) 0 _).mono (fun k e=>.inr e))
    have hp:Fr (fun k=>k=D) ((W.setCell ⟨h+1,0,none⟩ (.int .i64 y)).setCell ⟨h+1+1,0,none⟩ (.bool true)) (((W.setCell ⟨h+1,0,none⟩ (.int .i64 y)).setCell ⟨h+1+1,0,none⟩ (.bool true)).putObj D (.deferred none)):=⟨rfl,rfl,rfl,by simp [World.putObj],fun k hk hx=>World.putObj_heap_other (fun e=>hx e)⟩
    have g1:=boxed_fr hp (by omega) ((HX.out.1.set (.int .i64 y)).other (show h+1≠h+1+1 by omega) (.bool true))
    have g2:=boxed_fr hp (by omega) ((HX.out.2.1.other (show h+2≠h+1 by omega) (.int .i64 y)).set (.bool true))
    refine postM_ret1c (D:=D) rfl ?_ (results_cell2 Tryz.results25 _ _ _ (by rfl) (by rfl) (lv_int g1.cell) (lv_bool g2.cell)) ⟨rfl,?_⟩
    ·exact (hs1.block D hDl (by omega)).trans HK.out
    ·rw [hh]
     exact HX.out.2.2.trans ((hs1.below (base:=h) (by omega) (by intro k hk;omega)).trans (hp.below (by have:=hs1.size;omega) (by intro k hk;omega)))
   case stop=>
    rintro D pre W hD ⟨q,hq⟩ ⟨h1,h2,h3,h4⟩ hK
    have hFn:F=none:=by rw [HFw.out,←hq];exact walkF_none Q pre q 0 h1
    subst hFn
    have HX:=Lib.hid (And.intro h2 (And.intro h3 h4))
    have HK:=Lib.hid hK
    have hDl:=(Array.getElem?_eq_some_iff.1 hK).1
    clear h1 h2 h3 h4 hK
    refine wpIn_wide.2 ?_
    go_wp2_with fail
    have hp:Fr (fun k=>k=D) W (W.putObj D (.deferred none)):=⟨rfl,rfl,rfl,by simp [World.putObj],fun k hk hx=>World.putObj_heap_other (fun e=>hx e)⟩
    have g1:=boxed_fr hp (by omega) HX.out.1
    have g2:=boxed_fr hp (by omega) HX.out.2.1
    refine postM_ret1c (D:=D) rfl HK.out (results_cell2 Tryz.results25 _ _ _ (by rfl) (by rfl) (lv_int g1.cell) (lv_bool g2.cell)) ⟨rfl,?_⟩
    rw [hh]
    exact HX.out.2.2.trans (hp.below (by omega) (by intro k hk;omega))
set_option maxHeartbeats 2000000
abbrev o4:OpT:=⟨1,0,1,109,4,0,⟨#[97]⟩,⟨#[]⟩⟩
abbrev Q4:List PlT:=[⟨4,0,⟨#[97]⟩⟩]
theorem next4:nextP 0 [] true ⟨0,0,0,109,0,0,⟨#[97]⟩,⟨#[]⟩⟩=(o4,0):=by rfl
theorem made4:MadeOk 0 [] o4:=next_made next4 DOk.nil (by omega) (by omega) (by simp) (by simp) i64_0 i64_0 (show (1:Nat)≤100000 by omega) nil_le fun _=>
 ⟨fun _=>⟨.inl rfl,.inl rfl⟩,fun h=>(by cases h),fun h=>(by cases h),fun h=>(by cases h)⟩
theorem p4_is:runO p00 (logOf [o4])=Tree.put p00 4 (some (0,⟨#[97]⟩)):=by
 have e:runO p00 (logOf [o4])=Tree.move p00 (mvO o4):=by
  have:logOf [o4]=[o4]:=rfl
  rw [this]
  rfl
 rw [e]
 unfold Tree.move
 rw [if_pos]
 ·rfl
 ·unfold Tree.goes
  have hh:(mvO o4).node≠(mvO o4).into∧¬ Tree.Ins p00 (mvO o4).into (mvO o4).node:=⟨by decide,fun h=>ins_p00 h⟩
  exact @decide_eq_true _ (_) hh
theorem p4_at:runO p00 (logOf [o4]) 4=some (0,⟨#[97]⟩):=by rw [p4_is];rfl
theorem rep4:RepP Q4 (runO p00 (logOf [o4])):=by
 refine ⟨by simp,fun y=>?_⟩
 rw [p4_is]
 unfold Tree.put
 constructor
 ·intro hy
  rw [List.mem_singleton.1 hy]
  rfl
 ·intro hy
  split at hy
  ·rename_i e
   cases y with | mk nd into nm=>
   simp only at e hy
   cases hy
   subst e
   simp
  ·cases hy
theorem ents4:ents (sortV (keysIn 0 Q4))=[⟨⟨#[97]⟩,4⟩]:=by
 have h:keysIn 0 Q4=[(4,⟨#[97]⟩)]:=by rfl
 rw [h,List.perm_singleton.1 (sortV_perm [(4,⟨#[97]⟩)])]
 rfl
theorem find4:findV Q4 ⟨#[47,97]⟩=some 4:=by
 unfold findV
 have h1:Lib.hasPrefix (⟨#[47,97]⟩:ByteArray).data.toList [47]=true:=by rfl
 have h2:((⟨#[47,97]⟩:ByteArray).extract 1 (⟨#[47,97]⟩:ByteArray).size)=⟨#[97]⟩:=by rfl
 rw [h1,if_neg (by decide),if_neg (by intro h;cases h),h2,cutB_one (by simp),walkF,ents4,stepF_at (k:=0) (x:=⟨⟨#[97]⟩,4⟩) rfl (namedB_iff.2 rfl) (fun j y h=>by omega)]
 rfl
theorem path4:PathB (runO p00 (logOf [o4])) Q4 4 ⟨#[47,97]⟩:=by
 have h:=PathB.step (p:=runO p00 (logOf [o4])) (Q:=Q4) (x:=4) (by omega) p4_at .root
 have hn:nameOf (runO p00 (logOf [o4])) Q4 4=⟨#[97]⟩:=by
  unfold nameOf
  rw [p4_at]
  simp only
  rw [ents4]
  rfl
 rw [hn] at h
 exact h
theorem ins4:Ins (runO p00 (logOf [o4])) 4 0:=.here p4_at
theorem lost4:¬ Ins (runO p00 (logOf [o4])) 4 1:=not_both made4.ok ins4
theorem looked_any {F0:Nat→Bool} (ea:Nat→Addr) (w:World) (hG:Gd F0 ea w) (f2:F0 2=true) (f3:F0 3=true) (f4:F0 4=true) (f5:F0 5=true) (f6:F0 6=true) (f7:F0 7=true) (f8:F0 8=true) (f9:F0 9=true) (f21:F0 21=true) :
  Calls Tryz.prog 22 #[] w fun e w'=>e=.returned (.bool true)∧Below w.heap.size w w':=by
 have HG:=Lib.hid hG
 obtain ⟨jn1,jn2⟩:=join_one DOk.nil made4.ok (List.pairwise_singleton _ _) (by simp)
 have jn3:sortOps [o4]=[o4]:=jn2
 have HRo:=Lib.hid (fun W' (hb:Below w.heap.size w W') A (hs:SlV opE W' (.slice A 1 1) [o4])=>replicaOf_any ea 0 [o4] A 1 1 W' (hG.below hb) f2 f3 f4 f5 f6 f7 f8 f9 (by omega) (by omega) hs (by simp) (fun o ho=>by rw [List.mem_singleton.1 ho];exact made4.ok.wf o4 (by simp)))
 rw [jn1] at HRo
 have HJ3:=Lib.hid jn3
 clear hG jn1 jn2 jn3
 go_enter Tryz.func22,Tryz.ntmps22
 go_wp2_with fail
 refine (HRo.out _ ((Below.refl _ _).alloc (Nat.le_refl _) _) _ (SlV.one w o4 _ _ rfl)).mono ?_
 rintro e w1 hE
 obtain ⟨col,RB,rfl,hR,hb1⟩:=hE
 rw [HJ3.out] at hR
 have hB1:Below w.heap.size w w1:=((Below.refl _ w).alloc (Nat.le_refl _) _).trans (hb1.mono (by simp))
 obtain ⟨TB,_,hVq⟩:=ViewV.of ea hR (HG.out.below hB1) f21 made4.ok (by simp)
 have hV:=hVq Q4 rep4 (by simp)
 have HV:=Lib.hid hV
 have HB1:=Lib.hid hB1
 have HFi:=Lib.hid (viewFind_any w1 hV ⟨#[47,97]⟩ (by decide))
 rw [find4] at HFi
 clear hR hb1 hB1 hV hVq HRo
 unfold ptrV
 go_wp2_with fail
 refine HFi.out.mono ?_
 rintro e w2 ⟨rfl,hb2⟩
 have HB2:=Lib.hid hb2
 have HPa:=Lib.hid (path_in w2 (HV.out.below hb2) 4 (by constructor <;> omega) (by omega) ins4)
 have hg:(some (4:Int)).getD 0=4:=rfl
 have hi:(some (4:Int)).isSome=true:=rfl
 rw [hg,hi]
 unfold ptrV at HPa
 clear hb2 HFi hg hi
 go_wp2_with fail
 refine HPa.out.mono ?_
 rintro e w3 ⟨s,hs,rfl,hb3,_⟩
 obtain rfl:=hs.unique path4
 have HB3:=Lib.hid (bel2 HB2.out hb3)
 have HLi:=Lib.hid (HV.out.list w3 0 HB3.out)
 clear hs hb3 HPa HB2
 go_wp2_with fail
 refine HLi.out.mono ?_
 rintro e w4 ⟨A,n,c,rfl,hr4,hb4⟩
 obtain rfl:n=1:=by rw [hr4.sl.len,ents4];rfl
 have HB4:=Lib.hid (bel2 HB3.out hb4)
 have HLo:=Lib.hid (lost_any w4 (HV.out.below HB4.out).t)
 clear hr4 hb4 HLi HB3
 unfold ptrV at HLo
 go_wp2_with fail
 refine HLo.out.mono ?_
 rintro e w5 ⟨A',n',c',Q,rfl,hQ,hs5,hb5⟩
 obtain rfl:=hQ.unique rep4
 obtain rfl:n'=0:=by
  rw [hs5.len]
  simp [lost4]
 have HB5:=Lib.hid (bel2 HB4.out hb5)
 clear hQ hs5 hb5 HLo
 go_wp2_with fail
 go_ret
 exact ⟨rfl,bel2 HB1.out HB5.out⟩
set_option maxHeartbeats 8000000
open Classical in
theorem viewPaths_any {F0:Nat→Bool} (ea:Nat→Addr) (A:Option Addr) (n c:Nat) (Ts:List TurnT) (by':Int) (w:World) (hG:Gd F0 ea w) (f2:F0 2=true) (f3:F0 3=true) (f4:F0 4=true) (f5:F0 5=true) (f6:F0 6=true) (f7:F0 7=true) (f8:F0 8=true) (f9:F0 9=true) (f10:F0 10=true) (f21:F0 21=true)
  (hs:SlV turnE w (.slice A n c) Ts) (hc:n≤maxLen) (hw:∀ x∈Ts,x.o.nm.size≤100000→x.o.vl.size≤100000→x.Wf) :
  Calls Tryz.prog 6 #[.slice A n c,.int .i64 by'] w fun e w'=>e=.returned (.bool true)∧Below w.heap.size w w':=by
 have HG:=Lib.hid hG
 have HS:=Lib.hid hs
 have HW:=Lib.hid hw
 have HBg:=Lib.hid (looked_any ea w hG f2 f3 f4 f5 f6 f7 f8 f9 f21)
 have hm1:n≤9223372036854775807:=by unfold maxLen at hc;omega
 have HC:=Lib.hid hc
 clear hG hs hw hc
 go_enter Tryz.func6,Tryz.ntmps6
 go_wp2_with fail
 refine HBg.out.mono ?_
 rintro e w1 ⟨rfl,hb1⟩
 have HB1:=Lib.hid hb1
 have HLg:=Lib.hid (longTurns_any A n c Ts w1 (HS.out.below hb1) HC.out)
 clear hb1 HBg
 go_wp2_with fail
 refine HLg.out.mono ?_
 rintro e w1' ⟨lb,rfl,rfl,hsh⟩
 have HSh:=Lib.hid hsh
 clear hsh HLg
 cases lb with
 | true=>
  go_wp2_with fail
  go_ret
  exact ⟨rfl,HB1.out⟩
 | false=>
  by_cases hb0:by' < 0
  ·go_wp2_with fail
   go_ret
   exact ⟨rfl,HB1.out⟩
  by_cases hb4:4≤by'
  ·go_wp2_with fail
   go_ret
   exact ⟨rfl,HB1.out⟩
  have HPl:=Lib.hid (played_any ea A n c Ts w1' (HG.out.below HB1.out) f2 f3 f4 f5 f6 f7 f8 f9 f10 (HS.out.below HB1.out) (HSh.out (by first | exact rfl | trivial)).1 (fun x hx=>HW.out x hx (by have:=((HSh.out (by first | exact rfl | trivial)).2 x hx).1;omega) (by have:=((HSh.out (by first | exact rfl | trivial)).2 x hx).2;omega)))
  have HGp:=Lib.hid (HG.out.below HB1.out)
  have q22:∀ (w:World) (a:Option Addr) (n c n' c':Nat),(binOp .eql 44 (.slice a n c) (.slice none n' c')).run Tryz.prog w=.ok (.bool a.isNone) w:=fun w a n c n' c'=>Lib.run_eql_slice_nil w _ _ a n c n' c' Tryz.underlying44
  obtain ⟨d,rfl⟩:=Int.eq_ofNat_of_zero_le (show 0≤by' by omega)
  have hd:d < 4:=by omega
  go_wp2_with fail
  refine HPl.out.mono ?_
  rintro e w2 ⟨v,cs,RBs,Ks,H,rfl,hR,hrow,hF,hH⟩
  obtain ⟨g,cg,rfl⟩:∃ g cg,v=.slice (some ⟨g,0,none⟩) 4 cg:=by
   rcases hrow.row.form with ⟨_,h⟩ | ⟨g,cap,h,_⟩
   ·simp at h
   ·exact ⟨g,cap,h⟩
  have hHl:H.length≤60:=Nat.le_trans hH (HSh.out (by first | exact rfl | trivial)).1
  have hKl:(Ks d).length≤400:=Nat.le_trans (hF.len hd) (by omega)
  have hK:=hF.ok d hd
  have cp:=hrow.ptr hd
  have hRd:=hR.rep d hd
  have hb2:=hR.bel
  obtain ⟨TB,hT,hVq⟩:=ViewV.of ea hRd (HGp.out.below hb2) f21 hK hKl
  have HTr:=Lib.hid (hT.tree w2 (Below.refl _ _))
  have HPs:=Lib.hid (hT.places w2 (Below.refl _ _))
  have HVq:=Lib.hid hVq
  have HK:=Lib.hid hK
  have HB2:=Lib.hid (HB1.out.trans (hb2.mono HB1.out.size))
  have i0:(0:Int)≤(d:Int):=by omega
  have i1:(d:Int) < 4:=by omega
  obtain ⟨p,hp⟩:∃ p,runO p00 (logOf (Ks d))=p:=⟨_,rfl⟩
  rw [hp] at HPs HVq
  have HP:=Lib.hid hp
  clear hR hrow hF hH HPl hHl hKl hK hRd hb2 hT hVq hp
  go_wp2_with fail
  refine HTr.out.mono ?_
  rintro e w3 ⟨rfl,rfl⟩
  go_wp2_with fail
  refine HPs.out.mono ?_
  rintro e w4 ⟨Ap,m,cap,Q,rfl,hrp,hQ,hQl,hb4'⟩
  have hmQ:m=Q.length:=hrp.sl.len
  have HMQ:=Lib.hid hmQ
  have HV:=Lib.hid ((HVq.out Q hQ hQl).below hb4')
  have HSp:=Lib.hid hrp.sl
  have HB4:=Lib.hid (HB2.out.trans (hb4'.mono HB2.out.size))
  have HLo:=Lib.hid (lost_any w4 HV.out.t)
  have hml:m≤1000000:=by omega
  clear hrp hQ hQl hb4' HVq HPs HTr HB2 hmQ
  unfold ptrV at HLo
  go_wp2_with fail
  refine HLo.out.mono ?_
  rintro e w5 ⟨A',n',c',Q',rfl,hQ',hs5,hb5⟩
  obtain rfl:=hQ'.unique HV.out.rep
  have HB5:=Lib.hid hb5
  have hn5:=hs5.len
  rw [List.length_map,←HP.out,←lost_count HK.out (by rw [HP.out];exact HV.out.rep),HP.out] at hn5
  have HN5:=Lib.hid hn5
  clear hs5 hb5 hQ' hn5 HLo
  go_wp2_with fail
  go_loopw [10,11] (fun v10 v11 wr=>∃ j:Nat,j≤m∧v11=.int .i64 j∧v10=.int .i64 (((Q'.take j).filter fun y=>decide (¬ Ins p y.nd 0)).length:Nat)∧Hid (Below w4.heap.size w4 wr)) (fun _ v11 _=>m - (RowKit.intOf v11).toNat)
  case atStart=>exact ⟨0,by omega,rfl,rfl,HB5⟩
  case round=>
   obtain ⟨j,hj,rfl,rfl,HBr⟩:=hrel
   by_cases hlt:j < m
   ·obtain ⟨y,hy⟩:∃ y,Q'[j]?=some y:=⟨_,List.getElem?_eq_getElem (by have:=HMQ.out;omega)⟩
    obtain ⟨b,off,rfl,hbl,q0,q1,q2⟩:=pl_at (HSp.out.below HBr.out) hy
    have hyp:=(HV.out.rep.is y).1 (List.mem_of_getElem? hy)
    have hI:=(HV.out.t.rng y.nd _ hyp).1
    have hy0:y.nd≠0:=fun e=>by
     have:=root_unplaced HK.out (x:=y.nd) (.inl e)
     rw [HP.out,hyp] at this
     cases this
    have htk:Q'.take (j+1)=Q'.take j++[y]:=by rw [List.take_add_one,hy];rfl
    have j1:(0:Int)≤(j:Int):=by omega
    have j2:(j:Int) < (m:Int):=by omega
    have hcl:((Q'.take j).filter fun y=>decide (¬ Ins p y.nd 0)).length≤1000000:=Nat.le_trans (List.length_filter_le _ _) (by rw [List.length_take];omega)
    by_cases hin:Ins p y.nd 0
    ·have hc1:((Q'.take (j+1)).filter fun y=>decide (¬ Ins p y.nd 0)).length=((Q'.take j).filter fun y=>decide (¬ Ins p y.nd 0)).length:=by
      rw [htk,List.filter_append,List.length_append]
      simp [hin]
     have HPa:=Lib.hid (path_in wr (HV.out.below HBr.out) y.nd hI hy0 hin)
     have HC1:=Lib.hid hc1
     have HY0:=Lib.hid hy0
     generalize ((Q'.take j).filter fun y=>decide (¬ Ins p y.nd 0)).length=cn at HC1 hcl ⊢
     unfold ptrV at HPa
     clear hyp hI hy0 htk hin hc1 hy hbl q1 q2
     go_wp2_with fail
     refine HPa.out.mono ?_
     rintro e w6 ⟨s,hsP,rfl,hb6,hsz⟩
     have HB6:=Lib.hid (bel2 HBr.out hb6)
     have HFi:=Lib.hid (viewFind_any w6 (HV.out.below HB6.out) s hsz)
     have hfv:findV Q' s=some y.nd:=path_found HK.out (by rw [HP.out];exact HV.out.rep) (by rw [HP.out];exact hsP) HY0.out
     rw [hfv] at HFi
     have hg:(some y.nd).getD 0=y.nd:=rfl
     have hi:(some y.nd).isSome=true:=rfl
     rw [hg,hi] at HFi
     have q6:=cell_keep' hb6 q0
     clear hfv hg hi hsP hb6 hsz q0 HPa
     go_wp2_with fail
     refine HFi.out.mono ?_
     rintro e w7 ⟨rfl,hb7⟩
     have HB7:=Lib.hid (bel2 HB6.out hb7)
     have q7:=cell_keep' hb7 q6
     clear hb7 q6 HFi
     go_wp2_with fail
     go_roundw
     case rel=>exact ⟨j+1,by omega,by go_num,by rw [HC1.out],HB7⟩
     case measure=>simp [RowKit.intOf];omega
    ·have hc1:((Q'.take (j+1)).filter fun y=>decide (¬ Ins p y.nd 0)).length=((Q'.take j).filter fun y=>decide (¬ Ins p y.nd 0)).length+1:=by
      rw [htk,List.filter_append,List.length_append]
      simp [hin]
     have HPa:=Lib.hid (path_out wr (HV.out.below HBr.out) y.nd hI hy0 hin)
     have HC1:=Lib.hid hc1
     generalize ((Q'.take j).filter fun y=>decide (¬ Ins p y.nd 0)).length=cn at HC1 hcl ⊢
     unfold ptrV at HPa
     clear hyp hI hy0 htk hin hc1 hy hbl q1 q2
     go_wp2_with fail
     refine HPa.out.mono ?_
     rintro e w6 ⟨rfl,hb6⟩
     have HB6:=Lib.hid (bel2 HBr.out hb6)
     clear hb6 HPa
     go_wp2_with fail
     go_roundw
     case rel=>exact ⟨j+1,by omega,by go_num,by rw [HC1.out];go_num,HB6⟩
     case measure=>simp [RowKit.intOf];omega
   ·obtain rfl:j=m:=by omega
    have i2:¬ (j:Int) < (j:Int):=by omega
    have hc1:((Q'.take j).filter fun y=>decide (¬ Ins p y.nd 0)).length=n':=by rw [HMQ.out,List.take_length,HN5.out]
    rw [hc1]
    clear hc1
    go_wp2_with fail
    go_ret
    exact ⟨by simp,bel2 HB4.out HBr.out⟩
end Go.Proofs.YtjekalilfhnpmaaGreatDoor
