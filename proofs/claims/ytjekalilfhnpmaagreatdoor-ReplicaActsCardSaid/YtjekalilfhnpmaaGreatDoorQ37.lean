/- The document's marks: set by an operation; held against the program's. Numbers as texts: the document's below and Decimal. -/
import Derived.Test.YtjekalilfhnpmaaGreatDoorQ18
import Derived.Test.YtjekalilfhnpmaaGreatDoorQ30
import Derived.Test.YtjekalilfhnpmaaGreatDoorQ35
import Derived.Test.YtjekalilfhnpmaaGreatDoorQ36
theorem Go.Proofs.YtjekalilfhnpmaaGreatDoor.κ37 {p:Prop} (h:p):Go.RowKit.Hid p:=Go.Lib.hid h
namespace Go.Proofs.YtjekalilfhnpmaaGreatDoor
open Go Go.RowKit Go.Maps
set_option linter.unusedVariables false
set_option linter.unusedSimpArgs false
set_option maxHeartbeats 4000000
set_option maxRecDepth 100000
def mkOf (o:OpT):DMk:=⟨o.nd,o.nm,o.vl,o.t,o.b⟩
def DSEnds (base MB:Nat) (v:Value) (L:List DMk) (m:MapC) (o:OpT) (w:World) (e:Ending) (w':World):Prop:=
 ∃ v' L',e=.returned (.tuple #[.bool (setC m o).2.1,.int .i64 ((setC m o).2.2:Int)])∧Rep L' (setC m o).1∧L'.length≤L.length+1∧DSt base MB v' L' w'∧Fr (Own MB v) w w'∧∀ k,v'.ownBlock=some k→v.ownBlock=some k∨w.heap.size≤k
theorem dset_any (base MB:Nat) (v:Value) (L:List DMk) (m:MapC) (o:OpT) (w:World) (hw:o.Wf) (hb:base≤w.heap.size) (hn:L.length≤1000) (h:DSt base MB v L w) (hR:Rep L m) :
  Calls Tryz.prog 148 #[.pointer (some ⟨MB,0,none⟩),opV o] w (DSEnds base MB v L m o w):=by
 have HC:Hid (∀ w,Calls Tryz.prog 87 #[opV o] w fun e w'=>e=.returned (.int .i64 (opErr o))∧Below w.heap.size w w'):=κ37 fun w=>opError_any o w hw
 have HS:=κ37 h
 have HRp:=κ37 hR
 by_cases he:opErr o≠0
 ·have HSt:Hid (setC m o=(m,false,opErr o)):=κ37 (by rw [setC,if_pos he])
  obtain ⟨k,hk⟩:∃ k,opErr o=k:=⟨_,rfl⟩
  rw [hk] at HC HSt he
  have hkp:(0:Int) < (k:Int):=by omega
  have hk0:((k:Int) == 0)=false:=by simp;omega
  clear h hR hw hk he
  go_enter Tryz.func148,Tryz.ntmps148
  go_wp2_with fail
  refine (HC.out _).mono ?_
  rintro e w1 ⟨rfl,hb1⟩
  have HB:=κ37 (((Below.refl w.heap.size w).alloc (Nat.le_refl _) (.cells o.cells 31)).trans (hb1.mono (by simp)))
  clear hb1
  go_wp2_with fail
  go_ret2
  exact ⟨v,L,by rw [HSt.out];rfl,by rw [HSt.out];exact HRp.out,by omega,HS.out.below HB.out,Fr.of_below HB.out,fun k hk=>.inl hk⟩
 ·have he0:opErr o=0:=by omega
  rw [he0] at HC
  have hk1:=hw.k1
  have hk2:=hw.k2
  have HKo:=κ37 (keyOk_op hw)
  by_cases hk:o.k≠115
  ·have HSt:Hid (setC m o=(m,false,5)):=κ37 (by rw [setC,if_neg he,if_pos hk])
   have hkb:(o.k != 115)=true:=by simpa using hk
   clear h hR hw hk he he0
   go_enter Tryz.func148,Tryz.ntmps148
   go_wp2_with fail
   refine (HC.out _).mono ?_
   rintro e w1 ⟨rfl,hb1⟩
   obtain ⟨q0,q1,q2,q3,q4,q5,q6,q7⟩:=(OpAt.start w o 31).below hb1
   have HB:=κ37 (((Below.refl w.heap.size w).alloc (Nat.le_refl _) (.cells o.cells 31)).trans (hb1.mono (by simp)))
   clear hb1
   go_wp2_with fail
   go_ret2
   exact ⟨v,L,by rw [HSt.out];rfl,by rw [HSt.out];exact HRp.out,by omega,HS.out.below HB.out,Fr.of_below HB.out,fun k hk=>.inl hk⟩
  ·have hk0:o.k=115:=by omega
   have HSt:Hid (setC m o=((layC m (mkOf o).key (mkOf o).cell).1,(layC m (mkOf o).key (mkOf o).cell).2,0)):=κ37 (by rw [setC,if_neg he,if_neg hk];rfl)
   have hkb:(o.k != 115)=false:=by simp [hk0]
   clear h hR hw hk he he0 hk0
   go_enter Tryz.func148,Tryz.ntmps148
   go_wp2_with fail
   refine (HC.out _).mono ?_
   rintro e w1 ⟨rfl,hb1⟩
   obtain ⟨q0,q1,q2,q3,q4,q5,q6,q7⟩:=(OpAt.start w o 31).below hb1
   have HB:=κ37 (((Below.refl w.heap.size w).alloc (Nat.le_refl _) (.cells o.cells 31)).trans (hb1.mono (by simp)))
   have HL:=κ37 (dlay_any base MB v (mkOf o) L w1 (Nat.le_trans hb HB.out.size) hn (HS.out.below HB.out))
   clear hb1
   go_wp2_with fail
   refine HL.out.mono ?_
   rintro e w2 ⟨v2,L2,is,rfl,hl2,hn2,hS2,hF2,hv2⟩
   have HS2:=κ37 hS2
   have HF2:=κ37 ((Fr.of_below (X:=Own MB v) HB.out).trans hF2)
   have HV2:=κ37 hv2
   have HRs:=κ37 (HRp.out.step hl2 HKo.out)
   have his:=HRs.out.2
   subst his
   clear hl2 hS2 hF2 hv2 HL q0 q1 q2 q3 q4 q5 q6 q7
   go_wp2_with fail
   go_ret2
   exact ⟨v2,L2,by rw [HSt.out];rfl,by rw [HSt.out];exact HRs.out.1,hn2,HS2.out,HF2.out,fun k hk=>(HV2.out k hk).imp id (fun h=>Nat.le_trans HB.out.size h)⟩
theorem fullL_succ {L:List DMk} {i:Nat} {x:DMk} (hx:L[i]?=some x):fullL (L.take (i+1))=if (x.vl.toList == [])=true then fullL (L.take i) else fullL (L.take i)++[x]:=by
 rw [List.take_add_one,hx,Option.toList_some]
 unfold fullL
 rw [List.filter_append]
 by_cases h:(x.vl.toList == [])=true
 ·rw [if_pos h,List.filter_cons,if_neg (by rw [h];simp),List.filter_nil,List.append_nil]
 ·rw [if_neg h,List.filter_cons,if_pos (by rw [(Bool.not_eq_true _).mp h];rfl),List.filter_nil]
end Go.Proofs.YtjekalilfhnpmaaGreatDoor
namespace Go.Proofs.YtjekalilfhnpmaaGreatDoor
open Go Go.RowKit
set_option linter.unusedVariables false
set_option linter.unusedSimpArgs false
set_option maxHeartbeats 1000000
set_option maxRecDepth 100000
theorem below_small (k:Nat) (w:World) (h:k < 10) :
  Calls Tryz.prog 136 #[.int .i64 (-(k:Int))] w fun e w'=>e=.returned (.string (S (Lib.decDigits k)))∧Below w.heap.size w w':=by
 have t1:-(10:Int) < -(k:Int):=by omega
 go_enter Tryz.func136,Tryz.ntmps136
 go_wp2_with fail
 refine (byte_any _ _ (by omega)).mono ?_
 rintro e w1 ⟨rfl,hb⟩
 go_wp2_with fail
 go_ret
 refine ⟨ret_str ?_,hb⟩
 rw [Lib.decDigits_one h]
 rw [show (48+(k:Int)).toNat=48+k by omega]
theorem below_any (m:Nat):∀ (k:Nat) (w:World),k≤m→k≤9223372036854775808→
  Calls Tryz.prog 136 #[.int .i64 (-(k:Int))] w fun e w'=>e=.returned (.string (S (Lib.decDigits k)))∧Below w.heap.size w w':=by
 induction m with
 | zero=>
  intro k w hk _
  exact below_small k w (by omega)
 | succ m ih=>
  intro k w hk hb
  by_cases h10:k < 10
  ·exact below_small k w h10
  ·have IH:=κ37 ih
   clear ih
   have t1:¬ -(10:Int) < -(k:Int):=by omega
   go_enter Tryz.func136,Tryz.ntmps136
   go_wp2_with fail
   rw [show (-((k:Int) / 10)) = -((k / 10:Nat):Int) by omega]
   refine (IH.out _ _ (by omega) (by omega)).mono ?_
   rintro e w1 ⟨rfl,hb1⟩
   go_wp2_with fail
   have hm:k % 10 < 10:=Nat.mod_lt _ (by omega)
   refine (byte_any _ _ (by omega)).mono ?_
   rintro e w2 ⟨rfl,hb2⟩
   have l1:=dec_len20 (k / 10) (by omega)
   have l2:(S [UInt8.ofNat (48+(k:Int) % 10).toNat]).size=1:=rfl
   go_wp2_with fail
   go_ret
   refine ⟨ret_str ?_,hb1.trans (hb2.mono hb1.size)⟩
   rw [S_app]
   congr 1
   rw [Lib.decDigits.eq_1 k,dif_neg h10]
theorem decimal_any (n:Int) (w:World) (h1:-9223372036854775808≤n) (h2:n≤9223372036854775807) :
  Calls Tryz.prog 75 #[.int .i64 n] w fun e w'=>e=.returned (.string (S (Lib.itoa n)))∧Below w.heap.size w w':=by
 by_cases hn:n < 0
 ·obtain ⟨k,hk⟩:∃ k:Nat,n = -(k:Int):=⟨n.natAbs,by omega⟩
  subst hk
  have hk2:k≤9223372036854775808:=by omega
  go_enter Tryz.func75,Tryz.ntmps75
  go_wp2_with fail
  refine (below_any k k _ (Nat.le_refl _) hk2).mono ?_
  rintro e w1 ⟨rfl,hb1⟩
  have l1:=dec_len20 k hk2
  have l2:(ByteArray.mk #[45]).size=1:=rfl
  go_wp2_with fail
  go_ret
  refine ⟨ret_str ?_,hb1⟩
  rw [itoa_neg _ hn]
  rw [show (-(k:Int)).natAbs=k by omega]
  exact S_app [45] _
 ·obtain ⟨k,hk⟩:∃ k:Nat,n=(k:Int):=⟨n.toNat,by omega⟩
  subst hk
  have hk2:k≤9223372036854775808:=by omega
  go_enter Tryz.func75,Tryz.ntmps75
  go_wp2_with fail
  refine (below_any k k _ (Nat.le_refl _) hk2).mono ?_
  rintro e w1 ⟨rfl,hb1⟩
  go_wp2_with fail
  go_ret
  refine ⟨ret_str ?_,hb1⟩
  rw [itoa_nonneg _ (by omega)]
  simp
end Go.Proofs.YtjekalilfhnpmaaGreatDoor
