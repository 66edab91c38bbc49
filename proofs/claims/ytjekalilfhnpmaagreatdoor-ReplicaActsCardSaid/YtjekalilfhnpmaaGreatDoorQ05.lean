/- Operations: when is one right? By the document, by the program. Operations: when are two the same. A tree of nodes: places in a map; does a node lie in another one. A tree's log: a move taken back. Keys of two numbers, read as a map's keys. Cells of marks: made, laid, set, read. Cells of marks: set, and read. Cells of marks: copied, joined. Cells of marks: joined. An operation that comes in, opened to its cells. -/
import Derived.StillTailTactics
import Derived.DeepKeys4
import Derived.BigQuiet
import Derived.Test.YtjekalilfhnpmaaGreatDoorQ02
import Derived.Test.YtjekalilfhnpmaaGreatDoorQ03
import Derived.Test.YtjekalilfhnpmaaGreatDoorQ04
theorem Go.Proofs.YtjekalilfhnpmaaGreatDoor.κ5 {p:Prop} (h:p):Go.RowKit.Hid p:=Go.Lib.hid h
namespace Go.Proofs.YtjekalilfhnpmaaGreatDoor
open Go Go.RowKit
set_option linter.unusedVariables false
set_option linter.unusedSimpArgs false
set_option maxHeartbeats 4000000
set_option maxRecDepth 100000
structure OpT where
 t:Int
 b:Int
 n:Int
 k:Int
 nd:Int
 ot:Int
 nm:ByteArray
 vl:ByteArray
structure OpT.Wf (o:OpT):Prop where
 t1:-9223372036854775808≤o.t
 t2:o.t≤9223372036854775807
 b1:-9223372036854775808≤o.b
 b2:o.b≤9223372036854775807
 n1:-9223372036854775808≤o.n
 n2:o.n≤9223372036854775807
 k1:0≤o.k
 k2:o.k≤255
 nd1:-9223372036854775808≤o.nd
 nd2:o.nd≤9223372036854775807
 ot1:-9223372036854775808≤o.ot
 ot2:o.ot≤9223372036854775807
 nm1:o.nm.size≤100000
 vl1:o.vl.size≤100000
abbrev OpT.cells (o:OpT):Array Value:=#[.int .i64 o.t,.int .i64 o.b,.int .i64 o.n,.int .u8 o.k,.int .i64 o.nd,.int .i64 o.ot,.string o.nm,.string o.vl]
abbrev opV (o:OpT):Value:=.agg o.cells
def OpT.id (o:OpT):Int:=o.t*4+o.b
def numB (k nd ot id:Int):Bool:=decide (0≤nd∧nd≤id∧(nd=id→k=109)∧
 (k=109→nd≠0∧nd≠1∧0≤ot∧ot < id)∧(k=105→0≤ot∧ot < id)∧(k=100→0 < ot∧ot < id)∧(k≠109∧k≠105∧k≠100→ot=0))
def nmB (o:OpT):Bool:=if o.k=109∨o.k=115 then isNmB o.nm.data.toList else decide (o.nm.size=0)
def vlB (k:Int) (vl:ByteArray):Bool:=if k=105 then decide (vl.size=1) && isSnB vl.data.toList else if k=115 then decide (vl.size≤12) && isSnB vl.data.toList else decide (vl.size=0)
instance (t b:Int):Decidable (StampOk t b):=by unfold StampOk;infer_instance
def opErr (o:OpT):Nat:=
 if ¬ StampOk o.t o.b∨o.n < 1∨400 < o.n then 2
 else if ¬ (o.k=109∨o.k=105∨o.k=100∨o.k=115) then 5
 else if numB o.k o.nd o.ot o.id=false then 3
 else if nmB o=false then 4
 else if vlB o.k o.vl=false then 3
 else 0
theorem isEmpty_of {s:ByteArray} (h:s.size=0):s.toList.isEmpty=true:=by
 rw [ByteArray.toList_eq,List.isEmpty_iff]
 exact List.eq_nil_of_length_eq_zero h
theorem isEmpty_not {s:ByteArray} (h:s.size≠0):s.toList.isEmpty=false:=by
 rw [ByteArray.toList_eq]
 cases hl:s.data.toList with
 | nil=>exact absurd (by have:s.data.toList.length=s.size:=rfl;rw [hl] at this;exact this.symm) h
 | cons _ _=>rfl
theorem value_any (x:Bool) (o:OpT) (w:World) (hs:o.vl.size≤100000) (hx:vlB o.k o.vl=x) :
  Calls Tryz.prog 155 #[opV o] w fun e w'=>e=.returned (.bool x)∧Below w.heap.size w w':=by
 by_cases h1:o.k=105
 ·by_cases h2:o.vl.size=1
  ·have HC:Hid (∀ w,Calls Tryz.prog 195 #[.string o.vl,.int .i64 1] w fun e w'=>e=.returned (.bool x)∧Below w.heap.size w w'):=fun w=>
    opSeen_any x o.vl 1 w hs (by omega) (by rw [←hx];unfold vlB;rw [if_pos h1];simp [h2])
   obtain ⟨t,b,n,k,nd,ot,nm,vl⟩:=o
   simp only at h1 h2 hs HC
   subst h1
   clear hx
   have h3:((vl.size:Int) == 1)=true:=by simp;omega
   go_enter Tryz.func155,Tryz.ntmps155
   go_wp2_with fail
   refine (HC.out _).mono ?_
   rintro e w' ⟨rfl,hb⟩
   go_wp2_with fail
   go_ret
   exact ⟨rfl,((Below.refl _ _).alloc (Nat.le_refl _) _).trans (hb.mono (by simp))⟩
  ·have hxf:x=false:=by rw [←hx];unfold vlB;rw [if_pos h1];simp [h2]
   obtain ⟨t,b,n,k,nd,ot,nm,vl⟩:=o
   simp only at h1 h2 hs
   subst h1 hxf
   clear hx
   have h3:((vl.size:Int) == 1)=false:=by simp;omega
   go_enter Tryz.func155,Tryz.ntmps155
   go_wp2_with fail
   go_ret
   exact ⟨rfl,(Below.refl _ _).alloc (Nat.le_refl _) _⟩
 by_cases h4:o.k=115
 ·have HC:Hid (∀ w,Calls Tryz.prog 195 #[.string o.vl,.int .i64 12] w fun e w'=>e=.returned (.bool x)∧Below w.heap.size w w'):=fun w=>
   opSeen_any x o.vl 12 w hs (by omega) (by rw [←hx];unfold vlB;rw [if_neg h1,if_pos h4])
  obtain ⟨t,b,n,k,nd,ot,nm,vl⟩:=o
  simp only at h1 h4 hs HC
  subst h4
  clear hx
  go_enter Tryz.func155,Tryz.ntmps155
  go_wp2_with fail
  refine (HC.out _).mono ?_
  rintro e w' ⟨rfl,hb⟩
  go_wp2_with fail
  go_ret
  exact ⟨rfl,((Below.refl _ _).alloc (Nat.le_refl _) _).trans (hb.mono (by simp))⟩
 ·have hxe:o.vl.toList.isEmpty=x:=by
   rw [←hx]
   unfold vlB
   rw [if_neg h1,if_neg h4]
   by_cases h0:o.vl.size=0
   ·rw [isEmpty_of h0,decide_eq_true h0]
   ·rw [isEmpty_not h0,decide_eq_false h0]
  obtain ⟨t,b,n,k,nd,ot,nm,vl⟩:=o
  simp only at h1 h4 hs hxe
  clear hx
  have e1:(k == 105)=false:=by simp [h1]
  have e2:(k == 115)=false:=by simp [h4]
  clear h1 h4
  go_enter Tryz.func155,Tryz.ntmps155
  go_wp2_with fail
  go_ret
  exact ⟨by simp [hxe],(Below.refl _ _).alloc (Nat.le_refl _) _⟩
theorem numbers_any (o:OpT) (id:Int) (w:World) :
  Calls Tryz.prog 153 #[opV o,.int .i64 id] w fun e w'=>e=.returned (.bool (numB o.k o.nd o.ot id))∧Below w.heap.size w w':=by
 obtain ⟨t,b,n,k,nd,ot,nm,vl⟩:=o
 show Calls Tryz.prog 153 #[.agg #[.int .i64 t,.int .i64 b,.int .i64 n,.int .u8 k,.int .i64 nd,.int .i64 ot,.string nm,.string vl],.int .i64 id] w fun e w'=>e=.returned (.bool (numB k nd ot id))∧Below w.heap.size w w'
 have H:Hid (numB k nd ot id=decide (0≤nd∧nd≤id∧(nd=id→k=109)∧
  (k=109→nd≠0∧nd≠1∧0≤ot∧ot < id)∧(k=105→0≤ot∧ot < id)∧(k=100→0 < ot∧ot < id)∧(k≠109∧k≠105∧k≠100→ot=0))):=rfl
 generalize numB k nd ot id=x at H ⊢
 go_enter Tryz.func153,Tryz.ntmps153
 go_wp2_with fail
 all_goals
  go_ret
  refine ⟨ret_bool ?_,(Below.refl _ _).alloc (Nat.le_refl _) _⟩
  rw [H.out,Bool.eq_iff_iff]
  clear H
  (try simp at *)
  (try omega)
structure OpAt (w:World) (B:Nat) (o:OpT):Prop where
 c0:w.cell? ⟨B,0,none⟩=some (.int .i64 o.t)
 c1:w.cell? ⟨B,1,none⟩=some (.int .i64 o.b)
 c2:w.cell? ⟨B,2,none⟩=some (.int .i64 o.n)
 c3:w.cell? ⟨B,3,none⟩=some (.int .u8 o.k)
 c4:w.cell? ⟨B,4,none⟩=some (.int .i64 o.nd)
 c5:w.cell? ⟨B,5,none⟩=some (.int .i64 o.ot)
 c6:w.cell? ⟨B,6,none⟩=some (.string o.nm)
 c7:w.cell? ⟨B,7,none⟩=some (.string o.vl)
theorem OpAt.lt {w:World} {B:Nat} {o:OpT} (h:OpAt w B o):B < w.heap.size:=World.block_lt_of_cell? w _ h.c0
theorem OpAt.below {w w':World} {B:Nat} {o:OpT} (h:OpAt w B o) (hb:Below w.heap.size w w'):OpAt w' B o:=
 have hl:=h.lt
 ⟨(hb.cell hl).trans h.c0,(hb.cell hl).trans h.c1,(hb.cell hl).trans h.c2,(hb.cell hl).trans h.c3,(hb.cell hl).trans h.c4,(hb.cell hl).trans h.c5,(hb.cell hl).trans h.c6,(hb.cell hl).trans h.c7⟩
theorem OpAt.start (w:World) (o:OpT) (t:TypeId):OpAt (w.alloc (.cells o.cells t)) w.heap.size o:=by
 refine ⟨?_,?_,?_,?_,?_,?_,?_,?_⟩ <;> simp [go_sem,OpT.cells]
def errW (a:Nat→Addr) (k:Nat):Value:=if k=0 then .nilIface else errV (a k)
def kindIx:Nat→Int | 109=>0 | 105=>1 | 100=>2 | 115=>3 | _=>-1
theorem kindIx_is:∀ n,n < 256→Lib.indexByte [109,105,100,115] n.toUInt8=kindIx n:=by decide +kernel
theorem kind_at (k:Int) (w:World) (h1:0≤k) (h2:k≤255) :
  Calls Tryz.prog 152 #[.string ⟨#[109,105,100,115]⟩,.int .u8 k] w fun e w'=>e=.returned (.int .i64 (kindIx k.toNat))∧w'=w:=by
 rw [←kindIx_is k.toNat (by omega)]
 exact Tryz.strings_IndexByte ⟨#[109,105,100,115]⟩ k w
theorem kindIx_no {n:Nat} (h:¬ (n=109∨n=105∨n=100∨n=115)):kindIx n = -1:=by
 unfold kindIx
 split <;> first | omega | rfl
theorem decide_lt {n:Int} (h:¬ (n < 1∨400 < n)):decide (n < 1)=false∧decide (400 < n)=false:=by
 constructor <;> (rw [decide_eq_false_iff_not];omega)
theorem check_rest {F:Nat→Bool} (ea:Nat→Addr) (o:OpT) (w:World) (rN rM rV:Bool) (hw:o.Wf) (hG:Gd F ea w) (f3:F 3=true) (f4:F 4=true)
  (h1:StampOk o.t o.b) (hn:¬ (o.n < 1∨400 < o.n)) (hk:o.k=109∨o.k=105∨o.k=100∨o.k=115)
  (eN:numB o.k o.nd o.ot o.id=rN) (eM:nmB o=rM) (eV:vlB o.k o.vl=rV) :
  Calls Tryz.prog 107 #[opV o] w fun e w'=>e=.returned (errW ea (if rN=false then 3 else if rM=false then 4 else if rV=false then 3 else 0))∧Below w.heap.size w w':=by
 have hvl:=hw.vl1
 have hnm:=hw.nm1
 have hG1:Gd F ea (w.alloc (.cells o.cells 31)):=hG.alloc _
 have hO1:OpAt (w.alloc (.cells o.cells 31)) w.heap.size o:=OpAt.start w o _
 have HG:=κ5 hG1
 have HO:=κ5 hO1
 have HC:Hid (Calls Tryz.prog 151 #[stampV o.t o.b] (w.alloc (.cells o.cells 31)) fun e w'=>e=.returned (.tuple #[.int .i64 o.id,.nilIface])∧Below (w.alloc (.cells o.cells 31)).heap.size (w.alloc (.cells o.cells 31)) w'):=κ5 (id_ok _ _ _ h1)
 have HNum:Hid (∀ w,Calls Tryz.prog 153 #[opV o,.int .i64 o.id] w fun e w'=>e=.returned (.bool rN)∧Below w.heap.size w w'):=κ5 fun w=>by rw [←eN];exact numbers_any o o.id w
 have HVal:Hid (∀ w,Calls Tryz.prog 155 #[opV o] w fun e w'=>e=.returned (.bool rV)∧Below w.heap.size w w'):=κ5 fun w=>value_any rV o w hvl eV
 have HNam:Hid ((o.k=109∨o.k=115)→∀ w,Calls Tryz.prog 154 #[.string o.nm] w fun e w'=>e=.returned (.bool rM)∧Below w.heap.size w w'):=κ5 fun h w=>opName_any rM o.nm w hnm (by rw [←eM];unfold nmB;rw [if_pos h])
 have HEmp:¬ (o.k=109∨o.k=115)→o.nm.toList.isEmpty=rM:=fun h=>by
  rw [←eM]
  unfold nmB
  rw [if_neg h]
  by_cases h0:o.nm.size=0
  ·rw [isEmpty_of h0,decide_eq_true h0]
  ·rw [isEmpty_not h0,decide_eq_false h0]
 have n1:=(decide_lt hn).1
 have n2:=(decide_lt hn).2
 generalize o.id=id at HC HNum
 clear hw hG hG1 hO1 h1 hn eN eM eV hvl hnm
 obtain ⟨t,b,n,k,nd,ot,nm,vl⟩:=o
 simp only at n1 n2 hk HEmp
 rcases hk with rfl | rfl | rfl | rfl
 ·have HK:Hid (∀ w,Calls Tryz.prog 152 #[.string ⟨#[109,105,100,115]⟩,.int .u8 109] w fun e w'=>e=.returned (.int .i64 0)∧w'=w):=κ5 (fun w=>kind_at 109 w (by omega) (by omega))
  have HNa:=κ5 (HNam.out (.inl rfl))
  clear HNam HEmp
  cases rN
  ·go_enter Tryz.func107,Tryz.ntmps107
   go_wp2_with fail
   refine HC.out.mono ?_
   rintro e w1 ⟨rfl,hb⟩
   have HB:=κ5 (((Below.refl _ w).alloc (Nat.le_refl _) _).trans (hb.mono (by simp)))
   have HG1:=κ5 (HG.out.below hb)
   have hO:=HO.out.below hb
   have HO1:=κ5 hO
   clear HG HO HC hb
   obtain ⟨c0,c1,c2,c3,c4,c5,c6,c7⟩:=hO
   go_wp2_with fail
   refine (HK.out _).mono ?_
   rintro e w2 ⟨rfl,rfl⟩
   go_wp2_with fail
   refine (HNum.out _).mono ?_
   rintro e w3 ⟨rfl,hb3⟩
   have HB:=κ5 (HB.out.trans (hb3.mono HB.out.size))
   have HG1:=κ5 (HG1.out.below hb3)
   have hO:=HO1.out.below hb3
   clear hb3 c0 c1 c2 c3 c4 c5 c6 c7
   have HO1:=κ5 hO
   obtain ⟨c0,c1,c2,c3,c4,c5,c6,c7⟩:=hO
   have gv:=(HG1.out.errs 3 (by omega) (by omega) f3).var
   simp only [errG] at gv
   go_wp2_with fail
   go_ret
   exact ⟨rfl,HB.out⟩
  cases rM
  ·go_enter Tryz.func107,Tryz.ntmps107
   go_wp2_with fail
   refine HC.out.mono ?_
   rintro e w1 ⟨rfl,hb⟩
   have HB:=κ5 (((Below.refl _ w).alloc (Nat.le_refl _) _).trans (hb.mono (by simp)))
   have HG1:=κ5 (HG.out.below hb)
   have hO:=HO.out.below hb
   have HO1:=κ5 hO
   clear HG HO HC hb
   obtain ⟨c0,c1,c2,c3,c4,c5,c6,c7⟩:=hO
   go_wp2_with fail
   refine (HK.out _).mono ?_
   rintro e w2 ⟨rfl,rfl⟩
   go_wp2_with fail
   refine (HNum.out _).mono ?_
   rintro e w3 ⟨rfl,hb3⟩
   have HB:=κ5 (HB.out.trans (hb3.mono HB.out.size))
   have HG1:=κ5 (HG1.out.below hb3)
   have hO:=HO1.out.below hb3
   clear hb3 c0 c1 c2 c3 c4 c5 c6 c7
   have HO1:=κ5 hO
   obtain ⟨c0,c1,c2,c3,c4,c5,c6,c7⟩:=hO
   have gv:=(HG1.out.errs 4 (by omega) (by omega) f4).var
   simp only [errG] at gv
   go_wp2_with fail
   refine (HNa.out _).mono ?_
   rintro e w4 ⟨rfl,hb4⟩
   have HB:=κ5 (HB.out.trans (hb4.mono HB.out.size))
   have HG1:=κ5 (HG1.out.below hb4)
   have hO:=HO1.out.below hb4
   clear hb4 c0 c1 c2 c3 c4 c5 c6 c7
   have HO1:=κ5 hO
   obtain ⟨c0,c1,c2,c3,c4,c5,c6,c7⟩:=hO
   have gv:=(HG1.out.errs 4 (by omega) (by omega) f4).var
   simp only [errG] at gv
   go_wp2_with fail
   go_ret
   exact ⟨rfl,HB.out⟩
  cases rV
  ·go_enter Tryz.func107,Tryz.ntmps107
   go_wp2_with fail
   refine HC.out.mono ?_
   rintro e w1 ⟨rfl,hb⟩
   have HB:=κ5 (((Below.refl _ w).alloc (Nat.le_refl _) _).trans (hb.mono (by simp)))
   have HG1:=κ5 (HG.out.below hb)
   have hO:=HO.out.below hb
   have HO1:=κ5 hO
   clear HG HO HC hb
   obtain ⟨c0,c1,c2,c3,c4,c5,c6,c7⟩:=hO
   go_wp2_with fail
   refine (HK.out _).mono ?_
   rintro e w2 ⟨rfl,rfl⟩
   go_wp2_with fail
   refine (HNum.out _).mono ?_
   rintro e w3 ⟨rfl,hb3⟩
   have HB:=κ5 (HB.out.trans (hb3.mono HB.out.size))
   have HG1:=κ5 (HG1.out.below hb3)
   have hO:=HO1.out.below hb3
   clear hb3 c0 c1 c2 c3 c4 c5 c6 c7
   have HO1:=κ5 hO
   obtain ⟨c0,c1,c2,c3,c4,c5,c6,c7⟩:=hO
   go_wp2_with fail
   refine (HNa.out _).mono ?_
   rintro e w4 ⟨rfl,hb4⟩
   have HB:=κ5 (HB.out.trans (hb4.mono HB.out.size))
   have HG1:=κ5 (HG1.out.below hb4)
   have hO:=HO1.out.below hb4
   clear hb4 c0 c1 c2 c3 c4 c5 c6 c7
   have HO1:=κ5 hO
   obtain ⟨c0,c1,c2,c3,c4,c5,c6,c7⟩:=hO
   go_wp2_with fail
   refine (HVal.out _).mono ?_
   rintro e w5 ⟨rfl,hb5⟩
   have HB:=κ5 (HB.out.trans (hb5.mono HB.out.size))
   have HG1:=κ5 (HG1.out.below hb5)
   have hO:=HO1.out.below hb5
   clear hb5 c0 c1 c2 c3 c4 c5 c6 c7
   have HO1:=κ5 hO
   obtain ⟨c0,c1,c2,c3,c4,c5,c6,c7⟩:=hO
   have gv:=(HG1.out.errs 3 (by omega) (by omega) f3).var
   simp only [errG] at gv
   go_wp2_with fail
   go_ret
   exact ⟨rfl,HB.out⟩
  ·go_enter Tryz.func107,Tryz.ntmps107
   go_wp2_with fail
   refine HC.out.mono ?_
   rintro e w1 ⟨rfl,hb⟩
   have HB:=κ5 (((Below.refl _ w).alloc (Nat.le_refl _) _).trans (hb.mono (by simp)))
   have HG1:=κ5 (HG.out.below hb)
   have hO:=HO.out.below hb
   have HO1:=κ5 hO
   clear HG HO HC hb
   obtain ⟨c0,c1,c2,c3,c4,c5,c6,c7⟩:=hO
   go_wp2_with fail
   refine (HK.out _).mono ?_
   rintro e w2 ⟨rfl,rfl⟩
   go_wp2_with fail
   refine (HNum.out _).mono ?_
   rintro e w3 ⟨rfl,hb3⟩
   have HB:=κ5 (HB.out.trans (hb3.mono HB.out.size))
   have HG1:=κ5 (HG1.out.below hb3)
   have hO:=HO1.out.below hb3
   clear hb3 c0 c1 c2 c3 c4 c5 c6 c7
   have HO1:=κ5 hO
   obtain ⟨c0,c1,c2,c3,c4,c5,c6,c7⟩:=hO
   go_wp2_with fail
   refine (HNa.out _).mono ?_
   rintro e w4 ⟨rfl,hb4⟩
   have HB:=κ5 (HB.out.trans (hb4.mono HB.out.size))
   have HG1:=κ5 (HG1.out.below hb4)
   have hO:=HO1.out.below hb4
   clear hb4 c0 c1 c2 c3 c4 c5 c6 c7
   have HO1:=κ5 hO
   obtain ⟨c0,c1,c2,c3,c4,c5,c6,c7⟩:=hO
   go_wp2_with fail
   refine (HVal.out _).mono ?_
   rintro e w5 ⟨rfl,hb5⟩
   have HB:=κ5 (HB.out.trans (hb5.mono HB.out.size))
   have HG1:=κ5 (HG1.out.below hb5)
   have hO:=HO1.out.below hb5
   clear hb5 c0 c1 c2 c3 c4 c5 c6 c7
   have HO1:=κ5 hO
   obtain ⟨c0,c1,c2,c3,c4,c5,c6,c7⟩:=hO
   go_wp2_with fail
   go_ret
   exact ⟨rfl,HB.out⟩
 ·have HK:Hid (∀ w,Calls Tryz.prog 152 #[.string ⟨#[109,105,100,115]⟩,.int .u8 105] w fun e w'=>e=.returned (.int .i64 1)∧w'=w):=κ5 (fun w=>kind_at 105 w (by omega) (by omega))
  have hE:=HEmp (by omega)
  clear HNam HEmp
  cases rN
  ·go_enter Tryz.func107,Tryz.ntmps107
   go_wp2_with fail
   refine HC.out.mono ?_
   rintro e w1 ⟨rfl,hb⟩
   have HB:=κ5 (((Below.refl _ w).alloc (Nat.le_refl _) _).trans (hb.mono (by simp)))
   have HG1:=κ5 (HG.out.below hb)
   have hO:=HO.out.below hb
   have HO1:=κ5 hO
   clear HG HO HC hb
   obtain ⟨c0,c1,c2,c3,c4,c5,c6,c7⟩:=hO
   go_wp2_with fail
   refine (HK.out _).mono ?_
   rintro e w2 ⟨rfl,rfl⟩
   go_wp2_with fail
   refine (HNum.out _).mono ?_
   rintro e w3 ⟨rfl,hb3⟩
   have HB:=κ5 (HB.out.trans (hb3.mono HB.out.size))
   have HG1:=κ5 (HG1.out.below hb3)
   have hO:=HO1.out.below hb3
   clear hb3 c0 c1 c2 c3 c4 c5 c6 c7
   have HO1:=κ5 hO
   obtain ⟨c0,c1,c2,c3,c4,c5,c6,c7⟩:=hO
   have gv:=(HG1.out.errs 3 (by omega) (by omega) f3).var
   simp only [errG] at gv
   go_wp2_with fail
   go_ret
   exact ⟨rfl,HB.out⟩
  cases rM
  ·go_enter Tryz.func107,Tryz.ntmps107
   go_wp2_with fail
   refine HC.out.mono ?_
   rintro e w1 ⟨rfl,hb⟩
   have HB:=κ5 (((Below.refl _ w).alloc (Nat.le_refl _) _).trans (hb.mono (by simp)))
   have HG1:=κ5 (HG.out.below hb)
   have hO:=HO.out.below hb
   have HO1:=κ5 hO
   clear HG HO HC hb
   obtain ⟨c0,c1,c2,c3,c4,c5,c6,c7⟩:=hO
   go_wp2_with fail
   refine (HK.out _).mono ?_
   rintro e w2 ⟨rfl,rfl⟩
   go_wp2_with fail
   refine (HNum.out _).mono ?_
   rintro e w3 ⟨rfl,hb3⟩
   have HB:=κ5 (HB.out.trans (hb3.mono HB.out.size))
   have HG1:=κ5 (HG1.out.below hb3)
   have hO:=HO1.out.below hb3
   clear hb3 c0 c1 c2 c3 c4 c5 c6 c7
   have HO1:=κ5 hO
   obtain ⟨c0,c1,c2,c3,c4,c5,c6,c7⟩:=hO
   have gv:=(HG1.out.errs 4 (by omega) (by omega) f4).var
   simp only [errG] at gv
   go_wp2_with fail
   go_ret
   exact ⟨rfl,HB.out⟩
  cases rV
  ·go_enter Tryz.func107,Tryz.ntmps107
   go_wp2_with fail
   refine HC.out.mono ?_
   rintro e w1 ⟨rfl,hb⟩
   have HB:=κ5 (((Below.refl _ w).alloc (Nat.le_refl _) _).trans (hb.mono (by simp)))
   have HG1:=κ5 (HG.out.below hb)
   have hO:=HO.out.below hb
   have HO1:=κ5 hO
   clear HG HO HC hb
   obtain ⟨c0,c1,c2,c3,c4,c5,c6,c7⟩:=hO
   go_wp2_with fail
   refine (HK.out _).mono ?_
   rintro e w2 ⟨rfl,rfl⟩
   go_wp2_with fail
   refine (HNum.out _).mono ?_
   rintro e w3 ⟨rfl,hb3⟩
   have HB:=κ5 (HB.out.trans (hb3.mono HB.out.size))
   have HG1:=κ5 (HG1.out.below hb3)
   have hO:=HO1.out.below hb3
   clear hb3 c0 c1 c2 c3 c4 c5 c6 c7
   have HO1:=κ5 hO
   obtain ⟨c0,c1,c2,c3,c4,c5,c6,c7⟩:=hO
   go_wp2_with fail
   refine (HVal.out _).mono ?_
   rintro e w5 ⟨rfl,hb5⟩
   have HB:=κ5 (HB.out.trans (hb5.mono HB.out.size))
   have HG1:=κ5 (HG1.out.below hb5)
   have hO:=HO1.out.below hb5
   clear hb5 c0 c1 c2 c3 c4 c5 c6 c7
   have HO1:=κ5 hO
   obtain ⟨c0,c1,c2,c3,c4,c5,c6,c7⟩:=hO
   have gv:=(HG1.out.errs 3 (by omega) (by omega) f3).var
   simp only [errG] at gv
   go_wp2_with fail
   go_ret
   exact ⟨rfl,HB.out⟩
  ·go_enter Tryz.func107,Tryz.ntmps107
   go_wp2_with fail
   refine HC.out.mono ?_
   rintro e w1 ⟨rfl,hb⟩
   have HB:=κ5 (((Below.refl _ w).alloc (Nat.le_refl _) _).trans (hb.mono (by simp)))
   have HG1:=κ5 (HG.out.below hb)
   have hO:=HO.out.below hb
   have HO1:=κ5 hO
   clear HG HO HC hb
   obtain ⟨c0,c1,c2,c3,c4,c5,c6,c7⟩:=hO
   go_wp2_with fail
   refine (HK.out _).mono ?_
   rintro e w2 ⟨rfl,rfl⟩
   go_wp2_with fail
   refine (HNum.out _).mono ?_
   rintro e w3 ⟨rfl,hb3⟩
   have HB:=κ5 (HB.out.trans (hb3.mono HB.out.size))
   have HG1:=κ5 (HG1.out.below hb3)
   have hO:=HO1.out.below hb3
   clear hb3 c0 c1 c2 c3 c4 c5 c6 c7
   have HO1:=κ5 hO
   obtain ⟨c0,c1,c2,c3,c4,c5,c6,c7⟩:=hO
   go_wp2_with fail
   refine (HVal.out _).mono ?_
   rintro e w5 ⟨rfl,hb5⟩
   have HB:=κ5 (HB.out.trans (hb5.mono HB.out.size))
   have HG1:=κ5 (HG1.out.below hb5)
   have hO:=HO1.out.below hb5
   clear hb5 c0 c1 c2 c3 c4 c5 c6 c7
   have HO1:=κ5 hO
   obtain ⟨c0,c1,c2,c3,c4,c5,c6,c7⟩:=hO
   go_wp2_with fail
   go_ret
   exact ⟨rfl,HB.out⟩
 ·have HK:Hid (∀ w,Calls Tryz.prog 152 #[.string ⟨#[109,105,100,115]⟩,.int .u8 100] w fun e w'=>e=.returned (.int .i64 2)∧w'=w):=κ5 (fun w=>kind_at 100 w (by omega) (by omega))
  have hE:=HEmp (by omega)
  clear HNam HEmp
  cases rN
  ·go_enter Tryz.func107,Tryz.ntmps107
   go_wp2_with fail
   refine HC.out.mono ?_
   rintro e w1 ⟨rfl,hb⟩
   have HB:=κ5 (((Below.refl _ w).alloc (Nat.le_refl _) _).trans (hb.mono (by simp)))
   have HG1:=κ5 (HG.out.below hb)
   have hO:=HO.out.below hb
   have HO1:=κ5 hO
   clear HG HO HC hb
   obtain ⟨c0,c1,c2,c3,c4,c5,c6,c7⟩:=hO
   go_wp2_with fail
   refine (HK.out _).mono ?_
   rintro e w2 ⟨rfl,rfl⟩
   go_wp2_with fail
   refine (HNum.out _).mono ?_
   rintro e w3 ⟨rfl,hb3⟩
   have HB:=κ5 (HB.out.trans (hb3.mono HB.out.size))
   have HG1:=κ5 (HG1.out.below hb3)
   have hO:=HO1.out.below hb3
   clear hb3 c0 c1 c2 c3 c4 c5 c6 c7
   have HO1:=κ5 hO
   obtain ⟨c0,c1,c2,c3,c4,c5,c6,c7⟩:=hO
   have gv:=(HG1.out.errs 3 (by omega) (by omega) f3).var
   simp only [errG] at gv
   go_wp2_with fail
   go_ret
   exact ⟨rfl,HB.out⟩
  cases rM
  ·go_enter Tryz.func107,Tryz.ntmps107
   go_wp2_with fail
   refine HC.out.mono ?_
   rintro e w1 ⟨rfl,hb⟩
   have HB:=κ5 (((Below.refl _ w).alloc (Nat.le_refl _) _).trans (hb.mono (by simp)))
   have HG1:=κ5 (HG.out.below hb)
   have hO:=HO.out.below hb
   have HO1:=κ5 hO
   clear HG HO HC hb
   obtain ⟨c0,c1,c2,c3,c4,c5,c6,c7⟩:=hO
   go_wp2_with fail
   refine (HK.out _).mono ?_
   rintro e w2 ⟨rfl,rfl⟩
   go_wp2_with fail
   refine (HNum.out _).mono ?_
   rintro e w3 ⟨rfl,hb3⟩
   have HB:=κ5 (HB.out.trans (hb3.mono HB.out.size))
   have HG1:=κ5 (HG1.out.below hb3)
   have hO:=HO1.out.below hb3
   clear hb3 c0 c1 c2 c3 c4 c5 c6 c7
   have HO1:=κ5 hO
   obtain ⟨c0,c1,c2,c3,c4,c5,c6,c7⟩:=hO
   have gv:=(HG1.out.errs 4 (by omega) (by omega) f4).var
   simp only [errG] at gv
   go_wp2_with fail
   go_ret
   exact ⟨rfl,HB.out⟩
  cases rV
  ·go_enter Tryz.func107,Tryz.ntmps107
   go_wp2_with fail
   refine HC.out.mono ?_
   rintro e w1 ⟨rfl,hb⟩
   have HB:=κ5 (((Below.refl _ w).alloc (Nat.le_refl _) _).trans (hb.mono (by simp)))
   have HG1:=κ5 (HG.out.below hb)
   have hO:=HO.out.below hb
   have HO1:=κ5 hO
   clear HG HO HC hb
   obtain ⟨c0,c1,c2,c3,c4,c5,c6,c7⟩:=hO
   go_wp2_with fail
   refine (HK.out _).mono ?_
   rintro e w2 ⟨rfl,rfl⟩
   go_wp2_with fail
   refine (HNum.out _).mono ?_
   rintro e w3 ⟨rfl,hb3⟩
   have HB:=κ5 (HB.out.trans (hb3.mono HB.out.size))
   have HG1:=κ5 (HG1.out.below hb3)
   have hO:=HO1.out.below hb3
   clear hb3 c0 c1 c2 c3 c4 c5 c6 c7
   have HO1:=κ5 hO
   obtain ⟨c0,c1,c2,c3,c4,c5,c6,c7⟩:=hO
   go_wp2_with fail
   refine (HVal.out _).mono ?_
   rintro e w5 ⟨rfl,hb5⟩
   have HB:=κ5 (HB.out.trans (hb5.mono HB.out.size))
   have HG1:=κ5 (HG1.out.below hb5)
   have hO:=HO1.out.below hb5
   clear hb5 c0 c1 c2 c3 c4 c5 c6 c7
   have HO1:=κ5 hO
   obtain ⟨c0,c1,c2,c3,c4,c5,c6,c7⟩:=hO
   have gv:=(HG1.out.errs 3 (by omega) (by omega) f3).var
   simp only [errG] at gv
   go_wp2_with fail
   go_ret
   exact ⟨rfl,HB.out⟩
  ·go_enter Tryz.func107,Tryz.ntmps107
   go_wp2_with fail
   refine HC.out.mono ?_
   rintro e w1 ⟨rfl,hb⟩
   have HB:=κ5 (((Below.refl _ w).alloc (Nat.le_refl _) _).trans (hb.mono (by simp)))
   have HG1:=κ5 (HG.out.below hb)
   have hO:=HO.out.below hb
   have HO1:=κ5 hO
   clear HG HO HC hb
   obtain ⟨c0,c1,c2,c3,c4,c5,c6,c7⟩:=hO
   go_wp2_with fail
   refine (HK.out _).mono ?_
   rintro e w2 ⟨rfl,rfl⟩
   go_wp2_with fail
   refine (HNum.out _).mono ?_
   rintro e w3 ⟨rfl,hb3⟩
   have HB:=κ5 (HB.out.trans (hb3.mono HB.out.size))
   have HG1:=κ5 (HG1.out.below hb3)
   have hO:=HO1.out.below hb3
   clear hb3 c0 c1 c2 c3 c4 c5 c6 c7
   have HO1:=κ5 hO
   obtain ⟨c0,c1,c2,c3,c4,c5,c6,c7⟩:=hO
   go_wp2_with fail
   refine (HVal.out _).mono ?_
   rintro e w5 ⟨rfl,hb5⟩
   have HB:=κ5 (HB.out.trans (hb5.mono HB.out.size))
   have HG1:=κ5 (HG1.out.below hb5)
   have hO:=HO1.out.below hb5
   clear hb5 c0 c1 c2 c3 c4 c5 c6 c7
   have HO1:=κ5 hO
   obtain ⟨c0,c1,c2,c3,c4,c5,c6,c7⟩:=hO
   go_wp2_with fail
   go_ret
   exact ⟨rfl,HB.out⟩
 ·have HK:Hid (∀ w,Calls Tryz.prog 152 #[.string ⟨#[109,105,100,115]⟩,.int .u8 115] w fun e w'=>e=.returned (.int .i64 3)∧w'=w):=κ5 (fun w=>kind_at 115 w (by omega) (by omega))
  have HNa:=κ5 (HNam.out (.inr rfl))
  clear HNam HEmp
  cases rN
  ·go_enter Tryz.func107,Tryz.ntmps107
   go_wp2_with fail
   refine HC.out.mono ?_
   rintro e w1 ⟨rfl,hb⟩
   have HB:=κ5 (((Below.refl _ w).alloc (Nat.le_refl _) _).trans (hb.mono (by simp)))
   have HG1:=κ5 (HG.out.below hb)
   have hO:=HO.out.below hb
   have HO1:=κ5 hO
   clear HG HO HC hb
   obtain ⟨c0,c1,c2,c3,c4,c5,c6,c7⟩:=hO
   go_wp2_with fail
   refine (HK.out _).mono ?_
   rintro e w2 ⟨rfl,rfl⟩
   go_wp2_with fail
   refine (HNum.out _).mono ?_
   rintro e w3 ⟨rfl,hb3⟩
   have HB:=κ5 (HB.out.trans (hb3.mono HB.out.size))
   have HG1:=κ5 (HG1.out.below hb3)
   have hO:=HO1.out.below hb3
   clear hb3 c0 c1 c2 c3 c4 c5 c6 c7
   have HO1:=κ5 hO
   obtain ⟨c0,c1,c2,c3,c4,c5,c6,c7⟩:=hO
   have gv:=(HG1.out.errs 3 (by omega) (by omega) f3).var
   simp only [errG] at gv
   go_wp2_with fail
   go_ret
   exact ⟨rfl,HB.out⟩
  cases rM
  ·go_enter Tryz.func107,Tryz.ntmps107
   go_wp2_with fail
   refine HC.out.mono ?_
   rintro e w1 ⟨rfl,hb⟩
   have HB:=κ5 (((Below.refl _ w).alloc (Nat.le_refl _) _).trans (hb.mono (by simp)))
   have HG1:=κ5 (HG.out.below hb)
   have hO:=HO.out.below hb
   have HO1:=κ5 hO
   clear HG HO HC hb
   obtain ⟨c0,c1,c2,c3,c4,c5,c6,c7⟩:=hO
   go_wp2_with fail
   refine (HK.out _).mono ?_
   rintro e w2 ⟨rfl,rfl⟩
   go_wp2_with fail
   refine (HNum.out _).mono ?_
   rintro e w3 ⟨rfl,hb3⟩
   have HB:=κ5 (HB.out.trans (hb3.mono HB.out.size))
   have HG1:=κ5 (HG1.out.below hb3)
   have hO:=HO1.out.below hb3
   clear hb3 c0 c1 c2 c3 c4 c5 c6 c7
   have HO1:=κ5 hO
   obtain ⟨c0,c1,c2,c3,c4,c5,c6,c7⟩:=hO
   have gv:=(HG1.out.errs 4 (by omega) (by omega) f4).var
   simp only [errG] at gv
   go_wp2_with fail
   refine (HNa.out _).mono ?_
   rintro e w4 ⟨rfl,hb4⟩
   have HB:=κ5 (HB.out.trans (hb4.mono HB.out.size))
   have HG1:=κ5 (HG1.out.below hb4)
   have hO:=HO1.out.below hb4
   clear hb4 c0 c1 c2 c3 c4 c5 c6 c7
   have HO1:=κ5 hO
   obtain ⟨c0,c1,c2,c3,c4,c5,c6,c7⟩:=hO
   have gv:=(HG1.out.errs 4 (by omega) (by omega) f4).var
   simp only [errG] at gv
   go_wp2_with fail
   go_ret
   exact ⟨rfl,HB.out⟩
  cases rV
  ·go_enter Tryz.func107,Tryz.ntmps107
   go_wp2_with fail
   refine HC.out.mono ?_
   rintro e w1 ⟨rfl,hb⟩
   have HB:=κ5 (((Below.refl _ w).alloc (Nat.le_refl _) _).trans (hb.mono (by simp)))
   have HG1:=κ5 (HG.out.below hb)
   have hO:=HO.out.below hb
   have HO1:=κ5 hO
   clear HG HO HC hb
   obtain ⟨c0,c1,c2,c3,c4,c5,c6,c7⟩:=hO
   go_wp2_with fail
   refine (HK.out _).mono ?_
   rintro e w2 ⟨rfl,rfl⟩
   go_wp2_with fail
   refine (HNum.out _).mono ?_
   rintro e w3 ⟨rfl,hb3⟩
   have HB:=κ5 (HB.out.trans (hb3.mono HB.out.size))
   have HG1:=κ5 (HG1.out.below hb3)
   have hO:=HO1.out.below hb3
   clear hb3 c0 c1 c2 c3 c4 c5 c6 c7
   have HO1:=κ5 hO
   obtain ⟨c0,c1,c2,c3,c4,c5,c6,c7⟩:=hO
   go_wp2_with fail
   refine (HNa.out _).mono ?_
   rintro e w4 ⟨rfl,hb4⟩
   have HB:=κ5 (HB.out.trans (hb4.mono HB.out.size))
   have HG1:=κ5 (HG1.out.below hb4)
   have hO:=HO1.out.below hb4
   clear hb4 c0 c1 c2 c3 c4 c5 c6 c7
   have HO1:=κ5 hO
   obtain ⟨c0,c1,c2,c3,c4,c5,c6,c7⟩:=hO
   go_wp2_with fail
   refine (HVal.out _).mono ?_
   rintro e w5 ⟨rfl,hb5⟩
   have HB:=κ5 (HB.out.trans (hb5.mono HB.out.size))
   have HG1:=κ5 (HG1.out.below hb5)
   have hO:=HO1.out.below hb5
   clear hb5 c0 c1 c2 c3 c4 c5 c6 c7
   have HO1:=κ5 hO
   obtain ⟨c0,c1,c2,c3,c4,c5,c6,c7⟩:=hO
   have gv:=(HG1.out.errs 3 (by omega) (by omega) f3).var
   simp only [errG] at gv
   go_wp2_with fail
   go_ret
   exact ⟨rfl,HB.out⟩
  ·go_enter Tryz.func107,Tryz.ntmps107
   go_wp2_with fail
   refine HC.out.mono ?_
   rintro e w1 ⟨rfl,hb⟩
   have HB:=κ5 (((Below.refl _ w).alloc (Nat.le_refl _) _).trans (hb.mono (by simp)))
   have HG1:=κ5 (HG.out.below hb)
   have hO:=HO.out.below hb
   have HO1:=κ5 hO
   clear HG HO HC hb
   obtain ⟨c0,c1,c2,c3,c4,c5,c6,c7⟩:=hO
   go_wp2_with fail
   refine (HK.out _).mono ?_
   rintro e w2 ⟨rfl,rfl⟩
   go_wp2_with fail
   refine (HNum.out _).mono ?_
   rintro e w3 ⟨rfl,hb3⟩
   have HB:=κ5 (HB.out.trans (hb3.mono HB.out.size))
   have HG1:=κ5 (HG1.out.below hb3)
   have hO:=HO1.out.below hb3
   clear hb3 c0 c1 c2 c3 c4 c5 c6 c7
   have HO1:=κ5 hO
   obtain ⟨c0,c1,c2,c3,c4,c5,c6,c7⟩:=hO
   go_wp2_with fail
   refine (HNa.out _).mono ?_
   rintro e w4 ⟨rfl,hb4⟩
   have HB:=κ5 (HB.out.trans (hb4.mono HB.out.size))
   have HG1:=κ5 (HG1.out.below hb4)
   have hO:=HO1.out.below hb4
   clear hb4 c0 c1 c2 c3 c4 c5 c6 c7
   have HO1:=κ5 hO
   obtain ⟨c0,c1,c2,c3,c4,c5,c6,c7⟩:=hO
   go_wp2_with fail
   refine (HVal.out _).mono ?_
   rintro e w5 ⟨rfl,hb5⟩
   have HB:=κ5 (HB.out.trans (hb5.mono HB.out.size))
   have HG1:=κ5 (HG1.out.below hb5)
   have hO:=HO1.out.below hb5
   clear hb5 c0 c1 c2 c3 c4 c5 c6 c7
   have HO1:=κ5 hO
   obtain ⟨c0,c1,c2,c3,c4,c5,c6,c7⟩:=hO
   go_wp2_with fail
   go_ret
   exact ⟨rfl,HB.out⟩
theorem check_any {F:Nat→Bool} (ea:Nat→Addr) (o:OpT) (w:World) (hw:o.Wf) (hG:Gd F ea w) (f2:F 2=true) (f3:F 3=true) (f4:F 4=true) (f5:F 5=true) :
  Calls Tryz.prog 107 #[opV o] w fun e w'=>e=.returned (errW ea (opErr o))∧Below w.heap.size w w':=by
 have hnm:=hw.nm1
 have hvl:=hw.vl1
 have hk1:=hw.k1
 have hk2:=hw.k2
 have hw0:=hw
 have hG0:=hG
 clear hw
 have hG1:Gd F ea (w.alloc (.cells o.cells 31)):=hG.alloc _
 have hO1:OpAt (w.alloc (.cells o.cells 31)) w.heap.size o:=OpAt.start w o _
 have HG:=κ5 hG1
 have HO:=κ5 hO1
 clear hG hG1 hO1
 by_cases h1:StampOk o.t o.b
 ·have HC:Hid (Calls Tryz.prog 151 #[stampV o.t o.b] (w.alloc (.cells o.cells 31)) fun e w'=>e=.returned (.tuple #[.int .i64 o.id,.nilIface])∧Below (w.alloc (.cells o.cells 31)).heap.size (w.alloc (.cells o.cells 31)) w'):=κ5 (id_ok _ _ _ h1)
  have K109:kindIx (Int.toNat 109)=0:=rfl
  have K105:kindIx (Int.toNat 105)=1:=rfl
  have K100:kindIx (Int.toNat 100)=2:=rfl
  have K115:kindIx (Int.toNat 115)=3:=rfl
  by_cases hn:o.n < 1∨400 < o.n
  ·have H:Hid (opErr o=2):=by
    unfold opErr
    rw [if_pos (.inr hn)]
    exact rfl
   rw [H.out]
   clear h1 H
   rcases (show o.n < 1∨(1≤o.n∧400 < o.n) by omega) with hn1 | ⟨hn1,hn2⟩
   all_goals
    clear hn
    rcases (show o.k=109∨o.k=115∨(o.k≠109∧o.k≠115) by omega) with h | h | ⟨h,h'⟩
    all_goals
     go_enter Tryz.func107,Tryz.ntmps107
     go_wp2_with fail
     refine HC.out.mono ?_
     rintro e w1 ⟨rfl,hb⟩
     have hO:=HO.out.below hb
     have gb:=(HG.out.below hb).errs 2 (by omega) (by omega) f2
     have gv:=gb.var
     simp only [errG] at gv
     obtain ⟨c0,c1,c2,c3,c4,c5,c6,c7⟩:=hO
     have HB:=κ5 hb
     clear hb gb
     go_wp2_with fail
     go_ret
     exact ⟨rfl,((Below.refl _ _).alloc (Nat.le_refl _) _).trans (HB.out.mono (by simp))⟩
  ·by_cases hk:o.k=109∨o.k=105∨o.k=100∨o.k=115
   ·have H:opErr o=(if numB o.k o.nd o.ot o.id=false then 3 else if nmB o=false then 4 else if vlB o.k o.vl=false then 3 else 0):=by
     unfold opErr
     rw [if_neg (fun h=>h.elim (fun h=>h h1) hn),if_neg (fun h=>h hk)]
    rw [H]
    exact check_rest ea o w _ _ _ hw0 hG0 f3 f4 h1 hn hk rfl rfl rfl
   ·have H:Hid (opErr o=5):=by
     unfold opErr
     rw [if_neg (fun h=>h.elim (fun h=>h h1) hn),if_pos hk]
     exact rfl
    rw [H.out]
    have K:=kindIx_no (n:=o.k.toNat) (by omega)
    have HK:Hid (∀ w,Calls Tryz.prog 152 #[.string ⟨#[109,105,100,115]⟩,.int .u8 o.k] w fun e w'=>e=.returned (.int .i64 (-1))∧w'=w):=κ5 (fun w=>by rw [←K];exact kind_at o.k w hk1 hk2)
    have n1:=(decide_lt hn).1
    have n2:=(decide_lt hn).2
    have k1:(o.k == 109)=false:=by simp;omega
    have k2:(o.k == 115)=false:=by simp;omega
    clear h1 H K hn hk hw0 hG0
    go_enter Tryz.func107,Tryz.ntmps107
    go_wp2_with fail
    refine HC.out.mono ?_
    rintro e w1 ⟨rfl,hb⟩
    have hO:=HO.out.below hb
    have gb:=(HG.out.below hb).errs 5 (by omega) (by omega) f5
    have gv:=gb.var
    simp only [errG] at gv
    obtain ⟨c0,c1,c2,c3,c4,c5,c6,c7⟩:=hO
    have HB:=κ5 hb
    clear hb gb
    go_wp2_with fail
    refine (HK.out _).mono ?_
    rintro e w2 ⟨rfl,rfl⟩
    go_wp2_with fail
    go_ret
    exact ⟨rfl,((Below.refl _ _).alloc (Nat.le_refl _) _).trans (HB.out.mono (by simp))⟩
 ·have H:Hid (opErr o=2):=by
   unfold opErr
   rw [if_pos (.inl h1)]
   exact rfl
  have hE:=HG.out.errs 2 (by omega) (by omega) f2
  have HC:Hid (Calls Tryz.prog 151 #[stampV o.t o.b] (w.alloc (.cells o.cells 31)) fun e w'=>e=.returned (.tuple #[.int .i64 0,errV (ea 2)])∧Below (w.alloc (.cells o.cells 31)).heap.size (w.alloc (.cells o.cells 31)) w'):=κ5 (id_bad _ _ _ _ _ hE h1)
  rw [H.out]
  clear hE h1 H HG
  rcases (show o.k=109∨o.k=115∨(o.k≠109∧o.k≠115) by omega) with h | h | ⟨h,h'⟩
  all_goals
   go_enter Tryz.func107,Tryz.ntmps107
   go_wp2_with fail
   refine HC.out.mono ?_
   rintro e w1 ⟨rfl,hb⟩
   have hO:=HO.out.below hb
   obtain ⟨c0,c1,c2,c3,c4,c5,c6,c7⟩:=hO
   have HB:=κ5 hb
   clear hb
   go_wp2_with fail
   go_ret
   exact ⟨rfl,((Below.refl _ _).alloc (Nat.le_refl _) _).trans (HB.out.mono (by simp))⟩
def opEqB (o p:OpT):Bool:=o.t == p.t && o.b == p.b && o.n == p.n && o.k == p.k && o.nd == p.nd && o.ot == p.ot && o.nm.toList == p.nm.toList && o.vl.toList == p.vl.toList
theorem str_eq (s u:ByteArray):(s.toList == u.toList)=decide (s=u):=by
 rw [Bool.eq_iff_iff]
 simp only [beq_iff_eq,decide_eq_true_eq,ByteArray.toList_eq]
 constructor
 ·intro h
  rw [←S_of s,←S_of u,h]
 ·rintro rfl
  rfl
theorem opEqB_iff (o p:OpT):opEqB o p=true↔o=p:=by
 unfold opEqB
 rw [str_eq,str_eq]
 obtain ⟨t,b,n,k,nd,ot,nm,vl⟩:=o
 obtain ⟨t',b',n',k',nd',ot',nm',vl'⟩:=p
 simp only [Bool.and_eq_true,beq_iff_eq,decide_eq_true_eq,OpT.mk.injEq]
 constructor
 ·rintro ⟨⟨⟨⟨⟨⟨⟨h1,h2⟩,h3⟩,h4⟩,h5⟩,h6⟩,h7⟩,h8⟩
  exact ⟨h1,h2,h3,h4,h5,h6,h7,h8⟩
 ·rintro ⟨h1,h2,h3,h4,h5,h6,h7,h8⟩
  exact ⟨⟨⟨⟨⟨⟨⟨h1,h2⟩,h3⟩,h4⟩,h5⟩,h6⟩,h7⟩,h8⟩
theorem opEqB_refl (o:OpT):opEqB o o=true:=(opEqB_iff o o).2 rfl
theorem eqOp_run (o p:OpT) (w:World):(Op.equalIn 10000 31 (opV o) (opV p)).run Tryz.prog w=.ok (opEqB o p) w:=by
 have u3:=Tryz.underlying3
 have a3:=Tryz.isAgg3
 have z3:=Tryz.sizeOf3
 have u5:=Tryz.underlying5
 have a5:=Tryz.isAgg5
 have z5:=Tryz.sizeOf5
 have u9:=Tryz.underlying9
 have a9:=Tryz.isAgg9
 have z9:=Tryz.sizeOf9
 have us:=Tryz.underlying29
 have ag:=Tryz.isAgg29
 have zs:=Tryz.sizeOf29
 rw [show (10000:Nat)=9999+1 from rfl,Op.equalIn]
 simp only [Sem.run_bind,run_underlying Tryz.underlying31,Result.andThen_ok]
 go_simp
 unfold opEqB
 (repeat' split) <;> simp_all
theorem opID_any {F:Nat→Bool} (ea:Nat→Addr) (o:OpT) (w:World) (hG:Gd F ea w) (f2:F 2=true) :
  Calls Tryz.prog 106 #[opV o] w fun e w'=>e=.returned (.int .i64 (if StampOk o.t o.b then o.t*4+o.b else 0))∧Below w.heap.size w w':=by
 have HO:=κ5 (OpAt.start w o 31)
 by_cases h:StampOk o.t o.b
 ·rw [if_pos h]
  have HC:=κ5 (fun w=>id_ok o.t o.b w h)
  clear h hG
  go_enter Tryz.func106,Tryz.ntmps106
  go_wp2_with fail
  refine (HC.out _).mono ?_
  rintro e w1 ⟨rfl,hb⟩
  have HB:=κ5 (((Below.refl _ w).alloc (Nat.le_refl _) _).trans (hb.mono (by simp)))
  clear hb
  go_wp2_with fail
  go_ret
  exact ⟨rfl,HB.out⟩
 ·rw [if_neg h]
  have hE:=(hG.alloc (.cells o.cells 31)).errs 2 (by omega) (by omega) f2
  have HC:=κ5 (id_bad o.t o.b _ _ _ hE h)
  clear h hG hE
  go_enter Tryz.func106,Tryz.ntmps106
  go_wp2_with fail
  refine HC.out.mono ?_
  rintro e w1 ⟨rfl,hb⟩
  have HB:=κ5 (((Below.refl _ w).alloc (Nat.le_refl _) _).trans (hb.mono (by simp)))
  clear hb
  go_wp2_with fail
  go_ret
  exact ⟨rfl,HB.out⟩
end Go.Proofs.YtjekalilfhnpmaaGreatDoor
namespace Go.Proofs.YtjekalilfhnpmaaGreatDoor
open Go Go.RowKit Go.Maps Tree
set_option linter.unusedVariables false
set_option linter.unusedSimpArgs false
set_option maxHeartbeats 4000000
set_option maxRecDepth 100000
theorem cell_keep' {p:Addr} {u:Value} {w w':World} (hb:Below w.heap.size w w') (h:w.cell? p=some u):w'.cell? p=some u:=(hb.cell (World.block_lt_of_cell? w _ h)).trans h
abbrev PlB:=Pl ByteArray
structure PlT where
 nd:Int
 into:Int
 nm:ByteArray
@[reducible] def evP (x:PlT):Value:=.agg #[.int .i64 x.nd,.int .i64 x.into,.string x.nm]
def ekI (x:Int):Value:=.int .i64 x
theorem ekI_inj (x y:Int) (h:ekI x=ekI y):x=y:=by simpa [ekI] using h
def plM (p:PlB):Int→Option PlT:=fun x=>(p x).map fun v=>⟨x,v.1,v.2⟩
theorem treeK:Keyed Tryz.prog 3:=int_keyed Tryz.underlying3
def I64 (x:Int):Prop:=-9223372036854775808≤x∧x≤9223372036854775807
theorem ekI_reads {x:Int} (h:I64 x):∃ kl,keyOf Tryz.prog 3 (ekI x)=some kl:=⟨_,keyOf_int_mk Tryz.underlying3 (by
 have h1:=h.1
 have h2:=h.2
 show (decide (-9223372036854775808≤x) && decide (x≤9223372036854775807))=true
 simp [h1,h2])⟩
abbrev MP (b n:Nat) (p:PlB) (w:World):Prop:=MT Tryz.prog 3 ekI evP b n (plM p) w
theorem zeroPl (w:World):(zeroValue 81).run Tryz.prog w=.ok (.agg #[.int .i64 0,.int .i64 0,.string ⟨#[]⟩]) w:=by kernel_rfl
structure PlOk (p:PlB):Prop where
 ac:Acyc p
 rg:∀ x v,p x=some v→I64 v.1
open Classical in
theorem inside_any (TB b n:Nat) (p:PlB) (node of:Int) (w:World) (hp:w.cell? ⟨TB,0,none⟩=some (.map (some b))) (hm:MP b n p w) (hok:PlOk p) (hn:I64 node) :
  Calls Tryz.prog 83 #[.pointer (some ⟨TB,0,none⟩),.int .i64 node,.int .i64 of] w fun e w'=>e=.returned (.bool (decide (Ins p node of)))∧Below w.heap.size w w':=by
 obtain ⟨d,hd⟩:=hok.ac
 have HD:=κ5 hd
 have HP:=κ5 hp
 have HM:=κ5 hm
 have HRg:=κ5 hok.rg
 obtain ⟨R,hR⟩:∃ R,R=decide (Ins p node of):=⟨_,rfl⟩
 rw [←hR]
 have HR:Hid (R=true↔Ins p node of):=κ5 (by rw [hR,decide_eq_true_iff])
 clear hd hp hm hok hR
 go_enter Tryz.func83,Tryz.ntmps83
 go_wp2_with fail
 go_loopw [1] (fun v1 wr=>∃ x:Int,v1=.int .i64 x∧Hid (I64 x)∧Hid (R=true↔Ins p x of)∧Hid (Below w.heap.size w wr)) (fun v1 _=>d (intOf v1))
 case atStart=>exact ⟨node,rfl,κ5 hn,HR,κ5 (Below.refl _ _)⟩
 case round=>
  obtain ⟨x,rfl,HX,HRx,HB⟩:=hrel
  have p0:=cell_keep' HB.out HP.out
  have hmr:=HM.out.below HB.out
  cases hx:p x with
  | none=>
   have hR0:R=false:=by
    cases R with
    | false=>rfl
    | true=>exact absurd (HRx.out.1 rfl) (Ins.none hx)
   subst hR0
   have hlk:plM p x=none:=by unfold plM;rw [hx];rfl
   have HBa:=κ5 (fun o=>HB.out.alloc HB.out.size o)
   go_wp2_with (at_lookup;refine wpList_lookT_ok _ rfl _ _ _ rfl 3 81 treeK Tryz.underlying151 _ (zeroPl _) ekI evP b n (plM p) rfl hmr x rfl (ekI_reads HX.out) none hlk ?_)
   go_wp2_with fail
   go_ret
   exact ⟨rfl,HBa.out _⟩
  | some v=>
   have hlk:plM p x=some ⟨x,v.1,v.2⟩:=by unfold plM;rw [hx];rfl
   have HBa:=κ5 (fun o=>HB.out.alloc HB.out.size o)
   by_cases hv:v.1=of
   ·have hR1:R=true:=HRx.out.2 ((Ins.some hx).2 (.inl hv))
    subst hR1
    have hvb:(v.1 == of)=true:=by simp [hv]
    go_wp2_with (at_lookup;refine wpList_lookT_ok _ rfl _ _ _ rfl 3 81 treeK Tryz.underlying151 _ (zeroPl _) ekI evP b n (plM p) rfl hmr x rfl (ekI_reads HX.out) (some ⟨x,v.1,v.2⟩) hlk ?_)
    go_wp2_with fail
    go_ret
    exact ⟨rfl,HBa.out _⟩
   ·have hvb:(v.1 == of)=false:=by simp [hv]
    have HRn:Hid (R=true↔Ins p v.1 of):=κ5 (HRx.out.trans ((Ins.some hx).trans ⟨fun h=>h.resolve_left hv,.inr⟩))
    have HXn:=κ5 (HRg.out x v hx)
    have HDn:=κ5 (HD.out x v hx)
    clear HRx
    go_wp2_with (at_lookup;refine wpList_lookT_ok _ rfl _ _ _ rfl 3 81 treeK Tryz.underlying151 _ (zeroPl _) ekI evP b n (plM p) rfl hmr x rfl (ekI_reads HX.out) (some ⟨x,v.1,v.2⟩) hlk ?_)
    go_wp2_with fail
    exact ⟨⟨_,rfl,HXn,HRn,κ5 (HBa.out _)⟩,HDn.out⟩
abbrev doneCells (o:OpT) (y:PlT) (is by':Bool):Array Value:=#[.int .i64 o.t,.int .i64 o.b,.int .i64 o.n,.int .u8 o.k,.int .i64 o.nd,.int .i64 o.ot,.string o.nm,.string o.vl,.int .i64 y.nd,.int .i64 y.into,.string y.nm,.bool is,.bool by']
noncomputable def undoM (m:Int→Option PlT) (o:OpT) (y:PlT) (is by':Bool):Int→Option PlT:=if by' then updT m o.nd (if is then some y else none) else m
theorem undo_any (TB b n:Nat) (m:Int→Option PlT) (o:OpT) (y:PlT) (is by':Bool) (w:World) (hp:w.cell? ⟨TB,0,none⟩=some (.map (some b))) (hm:MT Tryz.prog 3 ekI evP b n m w) (hnd:I64 o.nd) (hn:n < maxLen) :
  Calls Tryz.prog 158 #[.pointer (some ⟨TB,0,none⟩),.agg (doneCells o y is by')] w fun e w'=>
   e=.returned (.tuple #[])∧MT Tryz.prog 3 ekI evP b (n+1) (undoM m o y is by') w'∧Fr (·=b) w w':=by
 obtain ⟨W,hW⟩:∃ W,W=w.alloc (.cells (doneCells o y is by') 251):=⟨_,rfl⟩
 have hbw:Below w.heap.size w W:=by rw [hW];exact (Below.refl _ w).alloc (Nat.le_refl _) _
 have hmW:MT Tryz.prog 3 ekI evP b n m W:=hm.below hbw
 have p0:=cell_keep' hbw hp
 obtain ⟨x0,x1,x2,x3,x4,x5⟩:W.cell? ⟨w.heap.size,4,none⟩=some (.int .i64 o.nd)∧W.cell? ⟨w.heap.size,8,none⟩=some (.int .i64 y.nd)∧W.cell? ⟨w.heap.size,9,none⟩=some (.int .i64 y.into)∧W.cell? ⟨w.heap.size,10,none⟩=some (.string y.nm)∧W.cell? ⟨w.heap.size,11,none⟩=some (.bool is)∧W.cell? ⟨w.heap.size,12,none⟩=some (.bool by'):=by
  rw [hW]
  exact ⟨by simp [go_sem],by simp [go_sem],by simp [go_sem],by simp [go_sem],by simp [go_sem],by simp [go_sem]⟩
 have HB:=κ5 hbw
 have HM:=κ5 hmW
 have HK:=κ5 (ekI_reads hnd)
 obtain ⟨R,hR⟩:∃ R,R=undoM m o y is by':=⟨_,rfl⟩
 rw [←hR]
 have HR:=κ5 hR
 clear hbw hmW hp hm hnd hR
 cases by' with
 | false=>
  have hr:R=m:=HR.out.trans (by unfold undoM;rw [if_neg (by simp)])
  subst hr
  go_enter Tryz.func158,Tryz.ntmps158
  go_wp2_with fail
  rw [←hW]
  clear hW
  go_wp2_with fail
  go_end0
  exact ⟨rfl,HM.out.mono (by omega),Fr.of_below HB.out⟩
 | true=>
  cases is with
  | true=>
   have hr:R=updT m o.nd (some y):=HR.out.trans (by unfold undoM;simp)
   subst hr
   go_enter Tryz.func158,Tryz.ntmps158
   go_wp2_with fail
   rw [←hW]
   clear hW
   go_wp2_with fail
   go_still_tail 9,(by kernel_rfl)
   change wpList _ _ _ _ _ W.drew
   have HS3:=κ5 (HM.out.below (Below.refl _ W).drew)
   have HB3:=κ5 (HB.out.trans ((Below.refl _ W).drew.mono HB.out.size))
   clear p0 x0 x1 x2 x3 x4 x5
   generalize W.drew=W3 at *
   go_wp2_with (at_mapUpdate;refine wpList_putT _ rfl _ _ _ 151 rfl 3 81 treeK Tryz.underlying151 ekI evP ekI_inj b n m rfl HS3.out hn o.nd y rfl rfl HK.out ?_;intro w4 hm4 hg4)
   have HF4:=κ5 ((Fr.of_below (X:=(·=b)) HB3.out).trans (fr_of_grown (X:=(·=b)) hg4 rfl))
   have HM4:=κ5 hm4
   clear hm4 hg4
   go_wp2_with fail
   go_end0
   exact ⟨rfl,HM4.out,HF4.out⟩
  | false=>
   have hr:R=updT m o.nd none:=HR.out.trans (by unfold undoM;simp)
   subst hr
   go_enter Tryz.func158,Tryz.ntmps158
   go_wp2_with fail
   rw [←hW]
   clear hW
   go_wp2_with fail
   go_still_tail 7,(by kernel_rfl)
   change wpList _ _ _ _ _ W.drew
   have HS3:=κ5 (HM.out.below (Below.refl _ W).drew)
   have HB3:=κ5 (HB.out.trans ((Below.refl _ W).drew.mono HB.out.size))
   clear p0 x0 x1 x2 x3 x4 x5
   generalize W.drew=W3 at *
   go_wp2_with (refine wpList_delT _ rfl _ _ 151 3 rfl 81 treeK Tryz.underlying151 ekI evP ekI_inj b n m rfl HS3.out o.nd rfl HK.out ?_;intro w4 hm4 hg4)
   have HF4:=κ5 ((Fr.of_below (X:=(·=b)) HB3.out).trans (fr_of_grown (X:=(·=b)) hg4 rfl))
   have HM4:=κ5 hm4
   clear hm4 hg4
   go_wp2_with fail
   go_end0
   exact ⟨rfl,HM4.out.mono (by omega),HF4.out⟩
end Go.Proofs.YtjekalilfhnpmaaGreatDoor
namespace Go.Proofs.YtjekalilfhnpmaaGreatDoor
open Go Go.RowKit Go.Maps
set_option linter.unusedVariables false
set_option linter.unusedSimpArgs false
set_option maxHeartbeats 1000000
set_option maxRecDepth 100000
def pairV (x:Int×Int):Value:=.agg #[.int .i64 x.1,.int .i64 x.2]
theorem pairV_inj (x y:Int×Int) (h:pairV x=pairV y):x=y:=by
 obtain ⟨a,b⟩:=x
 obtain ⟨c,d⟩:=y
 simpa [pairV] using h
theorem ownK_wide:(match Tryz.prog.underlying 195 with | some (.array _ _) | some (.struct _)=>true | _=>false)=true:=by kernel_rfl
theorem ownK:Keyed Tryz.prog 195:=Keyed.of_law (deep_law_laid (by kernel_rfl) (m:=3) (by omega) (of_decide_eq_true (by kernel_rfl)) (by kernel_rfl) ownK_wide)
theorem ownK_lits (n:Nat) (a b:Value):Tryz.prog.keyLits (n+2) 195 [a,b]=(do
  let x ← Tryz.prog.keyLits (n+1) 3 [a]
  let y ← Tryz.prog.keyLits (n+1) 3 [b]
  pure (x++y)):=by
 have k2:Tryz.prog.cellsOf 195=2:=by kernel_rfl
 have k3:Tryz.prog.cellsOf 3=1:=by kernel_rfl
 obtain ⟨A,hA⟩:∃ A,Tryz.prog.keyLits (n+1) 3 [a]=A:=⟨_,rfl⟩
 obtain ⟨B,hB⟩:∃ B,Tryz.prog.keyLits (n+1) 3 [b]=B:=⟨_,rfl⟩
 rw [hA,hB]
 unfold Program.keyLits
 rw [Tryz.underlying195]
 simp [k2,k3,hA,hB,List.mapM_cons,List.mapM_nil,Option.bind_eq_bind]
 cases A <;> cases B <;> simp
theorem ownK_reads {x:Int×Int} (h1:I64 x.1) (h2:I64 x.2):∃ kl,keyOf Tryz.prog 195 (pairV x)=some kl:=by
 have hts:Tryz.prog.types.size=394:=by kernel_rfl
 have hk:Tryz.prog.keyType 195=true:=by kernel_rfl
 have hf:(pairV x).formed Tryz.prog 195=true:=by
  have k2:Tryz.prog.cellsOf 195=2:=by kernel_rfl
  simp [pairV,Value.formed,Tryz.underlying195,k2]
 have hi:∀ z:Int,I64 z→Tryz.prog.keyLits (394 - 1+1) 3 [.int .i64 z]=some [.int .i64 z]:=fun z hz=>by
  unfold Program.keyLits
  rw [Tryz.underlying3]
  have:(Lit.int .i64 z).wf=true:=by
   have h1:=hz.1
   have h2:=hz.2
   show (decide (-9223372036854775808≤z) && decide (z≤9223372036854775807))=true
   simp [h1,h2]
  simp [this]
 refine ⟨.string (keyBytes [.int .i64 x.1,.int .i64 x.2]),?_⟩
 unfold keyOf
 rw [Tryz.underlying195]
 simp only [hk,hf,Bool.and_self,if_true]
 rw [hts]
 have:=ownK_lits (394 - 1) (.int .i64 x.1) (.int .i64 x.2)
 rw [hi x.1 h1,hi x.2 h2] at this
 show Option.map _ (Tryz.prog.keyLits (394 - 1+2) 195 [.int .i64 x.1,.int .i64 x.2])=_
 rw [this]
 rfl
theorem lofK_wide:(match Tryz.prog.underlying 200 with | some (.array _ _) | some (.struct _)=>true | _=>false)=true:=by kernel_rfl
theorem lofK:Keyed Tryz.prog 200:=Keyed.of_law (deep_law_laid (by kernel_rfl) (m:=3) (by omega) (of_decide_eq_true (by kernel_rfl)) (by kernel_rfl) lofK_wide)
theorem lofK_lits (n:Nat) (a b:Value):Tryz.prog.keyLits (n+2) 200 [a,b]=(do
  let x ← Tryz.prog.keyLits (n+1) 3 [a]
  let y ← Tryz.prog.keyLits (n+1) 3 [b]
  pure (x++y)):=by
 have k2:Tryz.prog.cellsOf 200=2:=by kernel_rfl
 have k3:Tryz.prog.cellsOf 3=1:=by kernel_rfl
 obtain ⟨A,hA⟩:∃ A,Tryz.prog.keyLits (n+1) 3 [a]=A:=⟨_,rfl⟩
 obtain ⟨B,hB⟩:∃ B,Tryz.prog.keyLits (n+1) 3 [b]=B:=⟨_,rfl⟩
 rw [hA,hB]
 unfold Program.keyLits
 rw [Tryz.underlying200]
 simp [k2,k3,hA,hB,List.mapM_cons,List.mapM_nil,Option.bind_eq_bind]
 cases A <;> cases B <;> simp
theorem lofK_reads {x:Int×Int} (h1:I64 x.1) (h2:I64 x.2):∃ kl,keyOf Tryz.prog 200 (pairV x)=some kl:=by
 have hts:Tryz.prog.types.size=394:=by kernel_rfl
 have hk:Tryz.prog.keyType 200=true:=by kernel_rfl
 have hf:(pairV x).formed Tryz.prog 200=true:=by
  have k2:Tryz.prog.cellsOf 200=2:=by kernel_rfl
  simp [pairV,Value.formed,Tryz.underlying200,k2]
 have hi:∀ z:Int,I64 z→Tryz.prog.keyLits (394 - 1+1) 3 [.int .i64 z]=some [.int .i64 z]:=fun z hz=>by
  unfold Program.keyLits
  rw [Tryz.underlying3]
  have:(Lit.int .i64 z).wf=true:=by
   have h1:=hz.1
   have h2:=hz.2
   show (decide (-9223372036854775808≤z) && decide (z≤9223372036854775807))=true
   simp [h1,h2]
  simp [this]
 refine ⟨.string (keyBytes [.int .i64 x.1,.int .i64 x.2]),?_⟩
 unfold keyOf
 rw [Tryz.underlying200]
 simp only [hk,hf,Bool.and_self,if_true]
 rw [hts]
 have:=lofK_lits (394 - 1) (.int .i64 x.1) (.int .i64 x.2)
 rw [hi x.1 h1,hi x.2 h2] at this
 show Option.map _ (Tryz.prog.keyLits (394 - 1+2) 200 [.int .i64 x.1,.int .i64 x.2])=_
 rw [this]
 rfl
set_option maxHeartbeats 4000000
structure CellT where
 v:ByteArray
 t:Int
 b:Int
def cellV (c:CellT):Value:=.agg #[.string c.v,.int .i64 c.t,.int .i64 c.b]
abbrev MapC:=KeyT→Option CellT
def cLt (a b:CellT):Bool:=decide (a.t < b.t∨a.t=b.t∧a.b < b.b)
noncomputable def layC (m:MapC) (k:KeyT) (x:CellT):MapC×Bool:=
 match m k with
 | some was=>if cLt was x=true then (updT m k (some x),true) else (m,false)
 | none=>(updT m k (some x),true)
structure CSt (base CB b n:Nat) (m:MapC) (w:World):Prop where
 ptr:w.cell? ⟨CB,0,none⟩=some (.map (some b))
 mt:MT Tryz.prog 220 keyV cellV b n m w
 ge:base≤CB
 geb:base≤b
 ne:CB≠b
theorem CSt.lt {base CB b n:Nat} {m:MapC} {w:World} (h:CSt base CB b n m w):CB < w.heap.size:=World.block_lt_of_cell? w _ h.ptr
theorem CSt.fr {X:Nat→Prop} {base CB b n:Nat} {m:MapC} {w w':World} (h:CSt base CB b n m w) (hF:Fr X w w') (h1:¬ X CB) (h2:¬ X b):CSt base CB b n m w':=⟨(hF.cell h.lt h1).trans h.ptr,h.mt.fr hF h2,h.ge,h.geb,h.ne⟩
theorem CSt.below {base CB b n:Nat} {m:MapC} {w w':World} (h:CSt base CB b n m w) (hb:Below w.heap.size w w'):CSt base CB b n m w':=h.fr (X:=fun _=>False) (Fr.of_below hb) (fun h=>h) (fun h=>h)
theorem CSt.mono {base CB b n n':Nat} {m:MapC} {w:World} (h:CSt base CB b n m w) (hn:n≤n'):CSt base CB b n' m w:=⟨h.ptr,h.mt.mono hn,h.ge,h.geb,h.ne⟩
theorem CSt.put {base CB b n n':Nat} {m m':MapC} {w w':World} (h:CSt base CB b n m w) (hm:MT Tryz.prog 220 keyV cellV b n' m' w') (hF:Fr (·=b) w w'):CSt base CB b n' m' w':=⟨(hF.cell h.lt (fun e=>h.ne e)).trans h.ptr,hm,h.ge,h.geb,h.ne⟩
theorem cell_keep {p:Addr} {u:Value} {w w':World} (hb:Below w.heap.size w w') (h:w.cell? p=some u):w'.cell? p=some u:=(hb.cell (World.block_lt_of_cell? w _ h)).trans h
theorem zeroCell (w:World):(zeroValue 222).run Tryz.prog w=.ok (.agg #[.string ⟨#[]⟩,.int .i64 0,.int .i64 0]) w:=by kernel_rfl
theorem CSt.look {base CB b n:Nat} {m:MapC} {w:World} (h:CSt base CB b n m w) {k:KeyT} (hk:KeyOk k) {r:Option CellT} (hr:m k=r) (w':World) (hw:w'.heap[b]?=w.heap[b]?) :
  (Instr.lookup 185 (.map (some b)) (.agg #[.int .i64 k.1,.string k.2]) true).run Tryz.prog w'=.ok (.tuple #[(r.map cellV).getD (.agg #[.string ⟨#[]⟩,.int .i64 0,.int .i64 0]),.bool r.isSome]) w':=by
 obtain ⟨f,hf,e⟩:=h.mt
 obtain ⟨kl,hkl⟩:=key_reads hk
 have:=((hf.block (w':=w') hw).look cellK Tryz.underlying185 (zeroCell w') hkl).1
 rw [e k kl hkl,hr] at this
 rw [show (Value.agg #[.int .i64 k.1,.string k.2])=keyV k from rfl,this]
 cases r <;> rfl
theorem cellsNew_any (w:World) :
  Calls Tryz.prog 52 #[] w fun e w'=>∃ CB b,e=.returned (.pointer (some ⟨CB,0,none⟩))∧CSt w.heap.size CB b 0 (fun _=>none) w'∧Below w.heap.size w w':=by
 have hmm:=@run_makeMap Tryz.prog
 go_enter Tryz.func52,Tryz.ntmps52
 go_wp2_with fail
 go_ret
 refine ⟨_,w.heap.size,rfl,⟨by simp [go_sem],?_,by simp,Nat.le_refl _,by simp⟩,((Below.refl _ w).alloc (Nat.le_refl _) _).alloc (by simp) _⟩
 exact (MT.made w Tryz.prog 220 keyV cellV).below ((Below.refl _ _).alloc (Nat.le_refl _) _)
theorem lay_any (base CB b n:Nat) (m:MapC) (k:KeyT) (x:CellT) (w:World) (hst:CSt base CB b n m w) (hk:KeyOk k) (hn:n < maxLen) :
  Calls Tryz.prog 162 #[.pointer (some ⟨CB,0,none⟩),.agg #[.int .i64 k.1,.string k.2],.agg #[.string x.v,.int .i64 x.t,.int .i64 x.b]] w fun e w'=>
   e=.returned (.bool (layC m k x).2)∧CSt base CB b (n+1) (layC m k x).1 w'∧Fr (·=b) w w':=by
 obtain ⟨W,hW⟩:∃ W,W=(w.alloc (.cells #[.int .i64 k.1,.string k.2] 220)).alloc (.cells #[.string x.v,.int .i64 x.t,.int .i64 x.b] 222):=⟨_,rfl⟩
 have hbw:Below w.heap.size w W:=by rw [hW];exact ((Below.refl _ w).alloc (Nat.le_refl _) _).alloc (by simp) _
 have hSW:CSt base CB b n m W:=hst.below hbw
 have hc:W.cell? ⟨w.heap.size,0,none⟩=some (.int .i64 k.1)∧W.cell? ⟨w.heap.size,1,none⟩=some (.string k.2):=by rw [hW];exact ⟨by simp [go_sem],by simp [go_sem]⟩
 have hx:W.cell? ⟨w.heap.size+1,0,none⟩=some (.string x.v)∧W.cell? ⟨w.heap.size+1,1,none⟩=some (.int .i64 x.t)∧W.cell? ⟨w.heap.size+1,2,none⟩=some (.int .i64 x.b):=by rw [hW];exact ⟨by simp [go_sem],by simp [go_sem],by simp [go_sem]⟩
 have HL:Hid (∀ r,m k=r→∀ w',w'.heap[b]?=W.heap[b]?→(Instr.lookup 185 (.map (some b)) (.agg #[.int .i64 k.1,.string k.2]) true).run Tryz.prog w'=.ok (.tuple #[(r.map cellV).getD (.agg #[.string ⟨#[]⟩,.int .i64 0,.int .i64 0]),.bool r.isSome]) w'):=κ5 fun r hr w' hw=>hSW.look hk hr w' hw
 have HS:=κ5 hSW
 have HB:=κ5 hbw
 have HK:=κ5 (key_reads hk)
 have p0:=hSW.ptr
 clear hst hSW hbw hk
 cases hm:m k with
 | none=>
  have HLy:Hid (layC m k x=(updT m k (some x),true)):=κ5 (by rw [layC,hm])
  have HLk:=κ5 (HL.out none hm)
  rw [HLy.out]
  have hbl:b < W.heap.size:=HS.out.mt.lt
  have hb2:Below W.heap.size W (W.alloc (.cells #[.string ⟨#[]⟩,.int .i64 0,.int .i64 0] 222)):=(Below.refl _ _).alloc (Nat.le_refl _) _
  have p1:=cell_keep hb2 p0
  have c1:=cell_keep hb2 hc.1
  have c2:=cell_keep hb2 hc.2
  obtain ⟨c3,c4⟩:=hc
  have l1:=HLk.out W.drew rfl
  have l2:=HLk.out (W.alloc (.cells #[.string ⟨#[]⟩,.int .i64 0,.int .i64 0] 222)).drew (Below.heap_alloc _ _ b hbl)
  clear hbl hb2
  go_enter Tryz.func162,Tryz.ntmps162
  go_wp2_with fail
  rw [←hW]
  clear hW
  go_region
  all_goals
   have hb2:Below W.heap.size W (W.alloc (.cells #[.string ⟨#[]⟩,.int .i64 0,.int .i64 0] 222)).drew:=(((Below.refl _ _).alloc (Nat.le_refl _) _)).drew
   have HS2:=κ5 (HS.out.below hb2)
   have HB2:=κ5 (HB.out.trans (hb2.mono HB.out.size))
   have x1:=cell_keep hb2 hx.1
   have x2:=cell_keep hb2 hx.2.1
   have x3:=cell_keep hb2 hx.2.2
   have d1:=cell_keep hb2 c3
   have d2:=cell_keep hb2 c4
   have q0:=cell_keep hb2 p0
   clear hb2 c1 c2 c3 c4 p0 p1 hx l1 l2 HLk HL HS
   generalize (W.alloc (.cells #[.string ⟨#[]⟩,.int .i64 0,.int .i64 0] 222)).drew=W2 at *
   go_wp2_with fail
   go_still_tail 6,(by kernel_rfl)
   change wpList _ _ _ _ _ W2.drew
   have HS3:=κ5 (HS2.out.below (Below.refl _ W2).drew)
   have HB3:=κ5 (HB2.out.trans ((Below.refl _ W2).drew.mono HB2.out.size))
   clear x1 x2 x3 d1 d2 q0 HS2 HB2
   generalize W2.drew=W3 at *
   go_wp2_with (at_mapUpdate;refine wpList_putT _ rfl _ _ _ 185 rfl 220 222 cellK Tryz.underlying185 keyV cellV keyV_inj b n m rfl HS3.out.mt hn k x rfl rfl HK.out ?_;intro w4 hm4 hg4)
   have HF4:=κ5 ((Fr.of_below (X:=(·=b)) HB3.out).trans (fr_of_grown (X:=(·=b)) hg4 rfl))
   have HS4:=κ5 (HS3.out.put hm4 (fr_of_grown (X:=(·=b)) hg4 rfl))
   clear hm4 hg4
   go_wp2_with fail
   go_ret
   exact ⟨rfl,HS4.out,HF4.out⟩
 | some was=>
  have HLk:=κ5 (HL.out (some was) hm)
  have hbl:b < W.heap.size:=HS.out.mt.lt
  have hb2:Below W.heap.size W (W.alloc (.cells #[.string ⟨#[]⟩,.int .i64 0,.int .i64 0] 222)):=(Below.refl _ _).alloc (Nat.le_refl _) _
  have p1:=cell_keep hb2 p0
  have c1:=cell_keep hb2 hc.1
  have c2:=cell_keep hb2 hc.2
  obtain ⟨c3,c4⟩:=hc
  have l1:(Instr.lookup 185 (.map (some b)) (.agg #[.int .i64 k.1,.string k.2]) true).run Tryz.prog W.drew=.ok (.tuple #[.agg #[.string was.v,.int .i64 was.t,.int .i64 was.b],.bool true]) W.drew:=HLk.out W.drew rfl
  have l2:(Instr.lookup 185 (.map (some b)) (.agg #[.int .i64 k.1,.string k.2]) true).run Tryz.prog (W.alloc (.cells #[.string ⟨#[]⟩,.int .i64 0,.int .i64 0] 222)).drew=.ok (.tuple #[.agg #[.string was.v,.int .i64 was.t,.int .i64 was.b],.bool true]) (W.alloc (.cells #[.string ⟨#[]⟩,.int .i64 0,.int .i64 0] 222)).drew:=HLk.out (W.alloc (.cells #[.string ⟨#[]⟩,.int .i64 0,.int .i64 0] 222)).drew (Below.heap_alloc _ _ b hbl)
  have HLy:Hid (layC m k x=if cLt was x=true then (updT m k (some x),true) else (m,false)):=κ5 (by rw [layC,hm])
  have HLs:=κ5 (fun w=>less_any was.t was.b x.t x.b w)
  clear hbl hb2
  generalize layC m k x=R at HLy ⊢
  go_enter Tryz.func162,Tryz.ntmps162
  go_wp2_with fail
  rw [←hW]
  clear hW
  go_region
  all_goals
   have hb2:Below W.heap.size W (W.alloc (.cells #[.string was.v,.int .i64 was.t,.int .i64 was.b] 222)).drew:=(((Below.refl _ _).alloc (Nat.le_refl _) _)).drew
   have HS2:=κ5 (HS.out.below hb2)
   have HB2:=κ5 (HB.out.trans (hb2.mono HB.out.size))
   have x1:=cell_keep hb2 hx.1
   have x2:=cell_keep hb2 hx.2.1
   have x3:=cell_keep hb2 hx.2.2
   have d1:=cell_keep hb2 c3
   have d2:=cell_keep hb2 c4
   have q0:=cell_keep hb2 p0
   have y1:(W.alloc (.cells #[.string was.v,.int .i64 was.t,.int .i64 was.b] 222)).drew.cell? ⟨W.heap.size,1,none⟩=some (.int .i64 was.t):=by simp [go_sem]
   have y2:(W.alloc (.cells #[.string was.v,.int .i64 was.t,.int .i64 was.b] 222)).drew.cell? ⟨W.heap.size,2,none⟩=some (.int .i64 was.b):=by simp [go_sem]
   clear hb2 c1 c2 c3 c4 p0 p1 hx l1 l2 HLk HL HS
   generalize (W.alloc (.cells #[.string was.v,.int .i64 was.t,.int .i64 was.b] 222)).drew=W2 at *
   obtain ⟨lt,hlt⟩:∃ lt,cLt was x=lt:=⟨_,rfl⟩
   have hlt2:decide (was.t < x.t∨was.t=x.t∧was.b < x.b)=lt:=hlt
   rw [hlt] at HLy
   rw [hlt2] at HLs
   clear hlt hlt2
   have K2:Hid (W2.cell? ⟨w.heap.size+1,0,none⟩=some (.string x.v)∧W2.cell? ⟨w.heap.size+1,1,none⟩=some (.int .i64 x.t)∧W2.cell? ⟨w.heap.size+1,2,none⟩=some (.int .i64 x.b)∧W2.cell? ⟨w.heap.size,0,none⟩=some (.int .i64 k.1)∧W2.cell? ⟨w.heap.size,1,none⟩=some (.string k.2)∧W2.cell? ⟨CB,0,none⟩=some (.map (some b))):=κ5 ⟨x1,x2,x3,d1,d2,q0⟩
   go_wp2_with fail
   refine (HLs.out _).mono ?_
   rintro e w5 ⟨rfl,hb5⟩
   have HS5:=κ5 (HS2.out.below hb5)
   have HB5:=κ5 (HB2.out.trans (hb5.mono HB2.out.size))
   clear x1 x2 x3 d1 d2 q0 y1 y2
   obtain ⟨x1,x2,x3,d1,d2,q0⟩:=K2.out
   replace x1:=cell_keep hb5 x1
   replace x2:=cell_keep hb5 x2
   replace x3:=cell_keep hb5 x3
   replace d1:=cell_keep hb5 d1
   replace d2:=cell_keep hb5 d2
   replace q0:=cell_keep hb5 q0
   clear hb5 HS2 HB2 HLs K2
   cases lt with
   | true=>
    have hr:=HLy.out
    rw [if_pos rfl] at hr
    subst hr
    go_wp2_with fail
    go_still_tail 6,(by kernel_rfl)
    change wpList _ _ _ _ _ w5.drew
    have HS3:=κ5 (HS5.out.below (Below.refl _ w5).drew)
    have HB3:=κ5 (HB5.out.trans ((Below.refl _ w5).drew.mono HB5.out.size))
    clear x1 x2 x3 d1 d2 q0 HS5 HB5
    generalize w5.drew=W3 at *
    go_wp2_with (at_mapUpdate;refine wpList_putT _ rfl _ _ _ 185 rfl 220 222 cellK Tryz.underlying185 keyV cellV keyV_inj b n m rfl HS3.out.mt hn k x rfl rfl HK.out ?_;intro w4 hm4 hg4)
    have HF4:=κ5 ((Fr.of_below (X:=(·=b)) HB3.out).trans (fr_of_grown (X:=(·=b)) hg4 rfl))
    have HS4:=κ5 (HS3.out.put hm4 (fr_of_grown (X:=(·=b)) hg4 rfl))
    clear hm4 hg4
    go_wp2_with fail
    go_ret
    exact ⟨rfl,HS4.out,HF4.out⟩
   | false=>
    have hr:=HLy.out
    rw [if_neg (by simp)] at hr
    subst hr
    go_wp2_with fail
    go_ret
    exact ⟨rfl,HS5.out.mono (by omega),Fr.of_below HB5.out⟩
noncomputable def setC (m:MapC) (o:OpT):MapC×Bool×Nat:=
 if opErr o≠0 then (m,false,opErr o) else if o.k≠115 then (m,false,5) else ((layC m (o.nd,o.nm) ⟨o.vl,o.t,o.b⟩).1,(layC m (o.nd,o.nm) ⟨o.vl,o.t,o.b⟩).2,0)
theorem keyOk_op {o:OpT} (h:o.Wf):KeyOk (o.nd,o.nm):=⟨h.nd1,h.nd2,Nat.le_trans h.nm1 (by unfold maxLen;omega)⟩
theorem cset_any {F:Nat→Bool} (ea:Nat→Addr) (base CB b n:Nat) (m:MapC) (o:OpT) (w:World) (hw:o.Wf) (hG:Gd F ea w) (f2:F 2=true) (f3:F 3=true) (f4:F 4=true) (f5:F 5=true) (hst:CSt base CB b n m w) (hn:n < maxLen) :
  Calls Tryz.prog 115 #[.pointer (some ⟨CB,0,none⟩),opV o] w fun e w'=>
   e=.returned (.tuple #[.bool (setC m o).2.1,errW ea (setC m o).2.2])∧CSt base CB b (n+1) (setC m o).1 w'∧Fr (·=b) w w':=by
 have HC:Hid (∀ w',Gd F ea w'→Calls Tryz.prog 107 #[opV o] w' fun e w''=>e=.returned (errW ea (opErr o))∧Below w'.heap.size w' w''):=κ5 fun w' hg=>check_any ea o w' hw hg f2 f3 f4 f5
 have HG:=κ5 (hG.alloc (.cells o.cells 31))
 have HS:=κ5 hst
 have HSt:Hid (setC m o=if opErr o≠0 then (m,false,opErr o) else if o.k≠115 then (m,false,5) else ((layC m (o.nd,o.nm) ⟨o.vl,o.t,o.b⟩).1,(layC m (o.nd,o.nm) ⟨o.vl,o.t,o.b⟩).2,0)):=κ5 rfl
 have HK:=κ5 (keyOk_op hw)
 generalize setC m o=R at HSt ⊢
 by_cases he:opErr o≠0
 ·have hr:=HSt.out
  rw [if_pos he] at hr
  subst hr
  have hE:errW ea (opErr o)=errV (ea (opErr o)):=by rw [errW,if_neg he]
  rw [hE] at HC
  have HE:=κ5 hE
  clear hst hG hw he hE HSt
  generalize opErr o=k at HC HE
  go_enter Tryz.func115,Tryz.ntmps115
  go_wp2_with fail
  refine (HC.out _ HG.out).mono ?_
  rintro e w1 ⟨rfl,hb⟩
  have HB:=κ5 (((Below.refl w.heap.size w).alloc (Nat.le_refl _) (.cells o.cells 31)).trans (hb.mono (by simp)))
  clear hb
  go_wp2_with fail
  go_ret2
  exact ⟨by rw [HE.out];rfl,(HS.out.below HB.out).mono (by omega),Fr.of_below HB.out⟩
 ·have he0:opErr o=0:=by omega
  have hr:=HSt.out
  rw [if_neg he] at hr
  rw [he0] at HC
  have hk1:=hw.k1
  have hk2:=hw.k2
  have HGB:=κ5 hG
  clear hst hG hw he he0 HSt
  go_enter Tryz.func115,Tryz.ntmps115
  go_wp2_with fail
  refine (HC.out _ HG.out).mono ?_
  rintro e w1 ⟨rfl,hb⟩
  have hO:=(OpAt.start w o 31).below hb
  have HB:=κ5 (((Below.refl w.heap.size w).alloc (Nat.le_refl _) (.cells o.cells 31)).trans (hb.mono (by simp)))
  obtain ⟨q0,q1,q2,q3,q4,q5,q6,q7⟩:=hO
  have hev:errW ea 0=.nilIface:=rfl
  rw [hev]
  clear hb hev HC HG
  by_cases hk:o.k≠115
  ·rw [if_pos hk] at hr
   subst hr
   have hkb:(o.k != 115)=true:=by simpa using hk
   have g5:=((HGB.out.below HB.out).errs 5 (by omega) (by omega) f5).var
   simp only [errG] at g5
   have HS1:=κ5 (HS.out.below HB.out)
   clear hk
   go_wp2_with fail
   go_quiet (fail)
   rename_i nq
   have HB2:=κ5 (HB.out.trans (below_drewN w.heap.size w1 nq))
   have HS2:=κ5 (HS1.out.below (below_drewN w1.heap.size w1 nq))
   go_wp2_with fail
   go_ret2
   exact ⟨rfl,HS2.out.mono (by omega),Fr.of_below HB2.out⟩
  ·have hk':o.k=115:=by omega
   rw [if_neg hk] at hr
   have HR:=κ5 hr
   clear hr
   have hkb:(o.k != 115)=false:=by simp [hk']
   have HL:=κ5 (lay_any base CB b n m (o.nd,o.nm) ⟨o.vl,o.t,o.b⟩ w1 (HS.out.below HB.out) HK.out hn)
   generalize layC m (o.nd,o.nm) ⟨o.vl,o.t,o.b⟩=R2 at HL HR
   clear hk
   go_wp2_with fail
   refine HL.out.mono ?_
   rintro e w2 ⟨rfl,hS2,hF2⟩
   have HS2:=κ5 hS2
   have HF2:=κ5 ((Fr.of_below (X:=(·=b)) HB.out).trans hF2)
   clear hS2 hF2 q0 q1 q2 q3 q4 q5 q6 q7 HL
   go_wp2_with fail
   go_ret2
   rw [HR.out]
   exact ⟨rfl,HS2.out,HF2.out⟩
theorem Fr.grown {X:Nat→Prop} {w0 w w':World} {r:Nat} (h:Fr X w0 w) (hg:w.grownBy w' (some r)) (hr:w0.heap.size≤r∨X r):Fr X w0 w':=
 ⟨hg.os.trans h.os,hg.tape.trans h.tape,hg.output.trans h.output,Nat.le_trans h.size hg.size,fun k hk hx=>(hg.block k (Nat.lt_of_lt_of_le hk h.size) (fun e=>by cases e;rcases hr with h1 | h1;omega;exact hx h1)).trans (h.block k hk hx)⟩
theorem Fr.grown0 {X:Nat→Prop} {w0 w w':World} (h:Fr X w0 w) (hg:w.grownBy w' none):Fr X w0 w':=
 ⟨hg.os.trans h.os,hg.tape.trans h.tape,hg.output.trans h.output,Nat.le_trans h.size hg.size,fun k hk hx=>(hg.block k (Nat.lt_of_lt_of_le hk h.size) (by simp)).trans (h.block k hk hx)⟩
theorem Fr.alloc {X:Nat→Prop} {w0 w:World} (h:Fr X w0 w) (o:Obj):Fr X w0 (w.alloc o):=h.grown0 (World.grownBy_alloc w o none)
theorem MT.grown {K V:Type} {P:Program} {kt:TypeId} {ek:K→Value} {ev:V→Value} {b n r:Nat} {m:K→Option V} {w w':World} (h:MT P kt ek ev b n m w) (hg:w.grownBy w' (some r)) (hr:r≠b):MT P kt ek ev b n m w':=h.block (hg.block b h.lt (fun e=>hr (by cases e;rfl)))
abbrev RC (b r n:Nat) (m:MapC) (todo:KeyT→Prop) (cnt:Nat) (w:World):Prop:=RT Tryz.prog 220 keyV cellV b r n m todo cnt w
theorem shapeK (key:Value) (kl:Lit) (h:keyOf Tryz.prog 220 key=some kl):∃ x,key=keyV x:=by obtain ⟨x,h,_⟩:=key_shape key kl h;exact ⟨x,h⟩
theorem keyOk_of {x:KeyT} (h:∃ kl,keyOf Tryz.prog 220 (keyV x)=some kl):KeyOk x:=by
 obtain ⟨kl,h⟩:=h
 obtain ⟨y,e,h⟩:=key_shape _ kl h
 rw [keyV_inj _ _ e];exact h
noncomputable def joinC (m1 m2:MapC):MapC:=fun k=>match m1 k,m2 k with | some a,some b=>some (if cLt a b=true then b else a) | some a,none=>some a | none,r=>r
theorem layC_other {m:MapC} {k k':KeyT} {x:CellT} (h:k'≠k):(layC m k x).1 k'=m k':=by
 unfold layC
 cases hm:m k with
 | none=>exact updT_other m _ h
 | some was=>
  show (if cLt was x=true then (updT m k (some x),true) else (m,false)).1 k'=_
  split
  ·exact updT_other m _ h
  ·rfl
theorem layC_same (m:MapC) (k:KeyT) (x:CellT):(layC m k x).1 k=some (match m k with | some was=>if cLt was x=true then x else was | none=>x):=by
 unfold layC
 cases hm:m k with
 | none=>exact updT_same m _ _
 | some was=>
  show (if cLt was x=true then (updT m k (some x),true) else (m,false)).1 k=some (if cLt was x=true then x else was)
  split
  ·exact updT_same m _ _
  ·exact hm
theorem CSt.eq {base CB b n:Nat} {m m':MapC} {w:World} (h:CSt base CB b n m w) (e:∀ k,KeyOk k→m' k=m k):CSt base CB b n m' w:=⟨h.ptr,h.mt.of_eq (fun k kl hk=>e k (keyOk_of ⟨kl,hk⟩)),h.ge,h.geb,h.ne⟩
end Go.Proofs.YtjekalilfhnpmaaGreatDoor
namespace Go.Proofs.YtjekalilfhnpmaaGreatDoor
open Go Go.RowKit Go.Joins Go.ChangeShapes Go.WideShapes Go.Deep
set_option linter.unusedVariables false
set_option linter.unusedSimpArgs false
set_option maxHeartbeats 1000000
set_option maxRecDepth 100000
theorem wf_i64 {x:Int} (h:(Lit.int .i64 x).wf=true):-9223372036854775808≤x∧x≤9223372036854775807:=by
 have h':(decide (-9223372036854775808≤x) && decide (x≤9223372036854775807))=true:=h
 simpa using h'
theorem wf_u8 {x:Int} (h:(Lit.int .u8 x).wf=true):0≤x∧x≤255:=by
 have h':(decide (0≤x) && decide (x≤255))=true:=h
 simpa using h'
theorem open_op_cells {H:Type} {enc:TypeId×Value→H} {W:World} {base:Nat} {sp:Nat→Bool} {held:Bool} {fuel:Nat} {c0 c1 c2 c3 c4 c5 c6 c7:Value} {x:DataW H×List MemPlace}
  (hf:DataW.trod enc Tryz.prog W base sp held fuel 31 [c0,c1,c2,c3,c4,c5,c6,c7]=some x) :
  ∃ o:OpT,[c0,c1,c2,c3,c4,c5,c6,c7]=o.cells.toList∧(o.nm.size≤100000→o.vl.size≤100000→o.Wf):=by
 have k44:Tryz.prog.cellsOf 29=2:=by kernel_rfl
 have k3:Tryz.prog.cellsOf 3=1:=by kernel_rfl
 have k5:Tryz.prog.cellsOf 5=1:=by kernel_rfl
 have k9:Tryz.prog.cellsOf 9=1:=by kernel_rfl
 obtain ⟨xs,n,_,hx,_,hlen,hg⟩:=DataW.trod_struct Tryz.underlying31 hf
 have g0:DataW.trod enc Tryz.prog W base sp held n 29 (([c0,c1,c2,c3,c4,c5,c6,c7].drop 0).take (Tryz.prog.cellsOf 29))=xs[0]?:=hg 0 _ rfl
 have g1:DataW.trod enc Tryz.prog W base sp held n 3 (([c0,c1,c2,c3,c4,c5,c6,c7].drop 2).take (Tryz.prog.cellsOf 3))=xs[1]?:=hg 1 _ rfl
 have g2:DataW.trod enc Tryz.prog W base sp held n 5 (([c0,c1,c2,c3,c4,c5,c6,c7].drop 3).take (Tryz.prog.cellsOf 5))=xs[2]?:=hg 2 _ rfl
 have g3:DataW.trod enc Tryz.prog W base sp held n 3 (([c0,c1,c2,c3,c4,c5,c6,c7].drop 4).take (Tryz.prog.cellsOf 3))=xs[3]?:=hg 3 _ rfl
 have g4:DataW.trod enc Tryz.prog W base sp held n 3 (([c0,c1,c2,c3,c4,c5,c6,c7].drop 5).take (Tryz.prog.cellsOf 3))=xs[4]?:=hg 4 _ rfl
 have g5:DataW.trod enc Tryz.prog W base sp held n 9 (([c0,c1,c2,c3,c4,c5,c6,c7].drop 6).take (Tryz.prog.cellsOf 9))=xs[5]?:=hg 5 _ rfl
 have g6:DataW.trod enc Tryz.prog W base sp held n 9 (([c0,c1,c2,c3,c4,c5,c6,c7].drop 7).take (Tryz.prog.cellsOf 9))=xs[6]?:=hg 6 _ rfl
 match xs,hlen with
 | [y0,y1,y2,y3,y4,y5,y6],_=>
  rw [k44] at g0
  rw [k3] at g1 g3 g4
  rw [k5] at g2
  rw [k9] at g5 g6
  obtain ⟨zs,m,_,hz,_,hzlen,hzg⟩:=DataW.trod_struct (cs:=[c0,c1]) Tryz.underlying29 g0
  have z0:DataW.trod enc Tryz.prog W base sp held m 3 ((([c0,c1]:List Value).drop 0).take (Tryz.prog.cellsOf 3))=zs[0]?:=hzg 0 _ rfl
  have z1:DataW.trod enc Tryz.prog W base sp held m 3 ((([c0,c1]:List Value).drop 1).take (Tryz.prog.cellsOf 3))=zs[1]?:=hzg 1 _ rfl
  match zs,hzlen with
  | [s0,s1],_=>
   rw [k3] at z0 z1
   obtain ⟨t,et,_,wt⟩:=DataW.trod_int Tryz.underlying3 z0
   obtain ⟨b,eb,_,wb⟩:=DataW.trod_int Tryz.underlying3 z1
   obtain ⟨nn,en,_,wn⟩:=DataW.trod_int Tryz.underlying3 g1
   obtain ⟨k,ek,_,wk⟩:=DataW.trod_int Tryz.underlying5 g2
   obtain ⟨nd,end',_,wnd⟩:=DataW.trod_int Tryz.underlying3 g3
   obtain ⟨ot,eot,_,wot⟩:=DataW.trod_int Tryz.underlying3 g4
   obtain ⟨nm,enm,_⟩:=DataW.trod_string Tryz.underlying9 g5
   obtain ⟨vl,evl,_⟩:=DataW.trod_string Tryz.underlying9 g6
   simp at et eb en ek end' eot enm evl
   subst et eb en ek end' eot enm evl
   have r1:=wf_i64 wt
   have r2:=wf_i64 wb
   have r3:=wf_i64 wn
   have r4:=wf_u8 wk
   have r5:=wf_i64 wnd
   have r6:=wf_i64 wot
   exact ⟨⟨t,b,nn,k,nd,ot,nm,vl⟩,rfl,fun h1 h2=>⟨r1.1,r1.2,r2.1,r2.2,r3.1,r3.2,r4.1,r4.2,r5.1,r5.2,r6.1,r6.2,h1,h2⟩⟩
end Go.Proofs.YtjekalilfhnpmaaGreatDoor
