/- What is wanted besides: idOf_ok isLess_any refName_any refSeen_any sortedOf_any stampError_bad stampError_ok. Operations: the document's OpError. -/
import Derived.Deep.CutBlock
import Derived.Test.YtjekalilfhnpmaaGreatDoorQ02
import Derived.Test.YtjekalilfhnpmaaGreatDoorQ04
import Derived.Test.YtjekalilfhnpmaaGreatDoorQ05
import Derived.Test.YtjekalilfhnpmaaGreatDoorQ06
import Derived.Test.YtjekalilfhnpmaaGreatDoorQ07
import Derived.Test.YtjekalilfhnpmaaGreatDoorQ11
import Derived.Test.YtjekalilfhnpmaaGreatDoorQ23
theorem Go.Proofs.YtjekalilfhnpmaaGreatDoor.κ30 {p:Prop} (h:p):Go.RowKit.Hid p:=Go.Lib.hid h
namespace Go.Proofs.YtjekalilfhnpmaaGreatDoor
open Go Go.RowKit
set_option linter.unusedVariables false
set_option linter.unusedSimpArgs false
set_option maxHeartbeats 4000000
set_option maxRecDepth 100000
theorem byte_at (s:ByteArray) (i:Nat) (h:i < s.size):s.data.toList[i]?=some s[i]:=by
 rw [Array.getElem?_toList]
 exact Array.getElem?_eq_getElem h
theorem take_all (p:UInt8→Bool) (s:ByteArray) (i:Nat) (hi:i < s.size) (h:(s.data.toList.take i).all p=true) (hp:p s[i]=true):(s.data.toList.take (i+1)).all p=true:=by
 rw [List.take_add_one,byte_at s i hi,List.all_append,h]
 simp [hp]
theorem all_not (p:UInt8→Bool) (s:ByteArray) (i:Nat) (hi:i < s.size) (hp:p s[i]=false):s.data.toList.all p=false:=by
 rw [List.all_eq_false]
 exact ⟨s[i],List.mem_of_getElem? (byte_at s i hi),by simp [hp]⟩
theorem refName_any (x:Bool) (s:ByteArray) (w:World) (hs:s.size≤100000) (hx:isNmB s.data.toList=x) :
  Calls Tryz.prog 143 #[.string s] w fun e w'=>e=.returned (.bool x)∧w'=w:=by
 have HX:=κ30 hx
 have hsz:s.data.toList.length=s.size:=rfl
 have HL:=κ30 hsz
 clear hx hsz
 go_enter Tryz.func143,Tryz.ntmps143
 go_wp2_with fail
 go_loop [3] (fun v3=>∃ i:Nat,i≤s.size∧v3=.int .i64 i∧(s.data.toList.take i).all nameB=true) (fun v3=>s.size - (intOf v3).toNat)
 case atStart=>exact ⟨0,by omega,rfl,rfl⟩
 case round=>
  obtain ⟨i,hi,rfl,hall⟩:=hrel
  have HA:=κ30 hall
  clear hall
  by_cases hlt:i < s.size
  ·have HD:Hid (nameB s[i]=decide ((97≤(s[i].toNat:Int)∧(s[i].toNat:Int)≤122)∨(48≤(s[i].toNat:Int)∧(s[i].toNat:Int)≤57)∨(s[i].toNat:Int)=45∨(s[i].toNat:Int)=46)):=rfl
   have HS:Hid (nameB s[i]=true→(s.data.toList.take (i+1)).all nameB=true):=κ30 (take_all nameB s i hlt HA.out)
   have HF:Hid (nameB s[i]=false→s.data.toList.all nameB=false):=κ30 (all_not nameB s i hlt)
   have HN:Hid (nameB s[i]=false→isNmB s.data.toList=false):=κ30 fun h=>by unfold isNmB;rw [HF.out h];simp
   clear HF
   go_wp2_with fail
   all_goals first
    | (
      go_ret
      refine ⟨ret_bool ?_,rfl⟩
      rw [←HX.out,HN.out]
      rw [HD.out,decide_eq_false_iff_not]
      clear HX HL HA HD HS HN hi hs
      simp at *
      omega)
    | (
      go_round
      case rel=>
       refine ⟨i+1,by omega,by go_num,HS.out ?_⟩
       rw [HD.out,decide_eq_true_eq]
       clear HX HL HA HD HS HN hi hs
       simp at *
       omega
      case measure=>simp [intOf];omega)
  ·have hie:i=s.size:=by omega
   have hge:¬ i < s.size:=hlt
   have H:Hid (isNmB s.data.toList=decide (1≤s.size∧s.size≤12)):=by
    have h4:=HA.out
    rw [hie,←HL.out,List.take_length] at h4
    unfold isNmB
    rw [h4,HL.out]
    exact Bool.and_true _
   clear hie hlt
   go_wp2_with fail
   all_goals
    go_ret
    refine ⟨ret_bool ?_,rfl⟩
    rw [←HX.out,H.out]
    clear HX HL HA H hi hge hs
    (try simp at *)
    first | done | (rw [Bool.eq_iff_iff];simp;omega) | omega
set_option maxHeartbeats 1000000
theorem isLess_any (t b t' b':Int) (w:World) :
  Calls Tryz.prog 89 #[stampV t b,stampV t' b'] w fun e w'=>e=.returned (.bool (decide (t < t'∨t=t'∧b < b')))∧Below w.heap.size w w':=by
 rcases Int.lt_trichotomy t t' with h1 | rfl | h1
 ·go_enter Tryz.func89,Tryz.ntmps89
  go_wp2
  go_ret
  exact ⟨by simp [h1],by go_grown⟩
 ·go_enter Tryz.func89,Tryz.ntmps89
  go_wp2
  go_ret
  exact ⟨by simp,by go_grown⟩
 ·have h2:¬ t < t':=by omega
  have h3:(t == t')=false:=by simp;omega
  go_enter Tryz.func89,Tryz.ntmps89
  go_wp2
  go_ret
  exact ⟨by simp [h2];omega,by go_grown⟩
theorem stampError_ok (t b:Int) (w:World) (h:StampOk t b) :
  Calls Tryz.prog 142 #[stampV t b] w fun e w'=>e=.returned (.int .i64 0)∧Below w.heap.size w w':=by
 obtain ⟨h1,h2,h3,h4⟩:=h
 go_enter Tryz.func142,Tryz.ntmps142
 go_wp2
 go_ret
 exact ⟨rfl,by go_grown⟩
theorem stampError_bad (t b:Int) (w:World) (h:¬ StampOk t b) :
  Calls Tryz.prog 142 #[stampV t b] w fun e w'=>e=.returned (.int .i64 2)∧Below w.heap.size w w':=by
 rcases stampOk_not h with h1 | ⟨h1,h2⟩ | ⟨h1,h2,h3⟩ | ⟨h1,h2,h3,h4⟩
 all_goals
  clear h
  go_enter Tryz.func142,Tryz.ntmps142
  go_wp2
  go_ret
  exact ⟨rfl,by go_grown⟩
theorem idOf_ok (t b:Int) (w:World) (h:StampOk t b) :
  Calls Tryz.prog 91 #[stampV t b] w fun e w'=>e=.returned (.int .i64 (t*4+b))∧Below w.heap.size w w':=by
 obtain ⟨h1,h2,h3,h4⟩:=h
 have e1:4*t+b=t*4+b:=by omega
 go_enter Tryz.func91,Tryz.ntmps91
 go_wp2
 go_ret
 exact ⟨by simp [e1],by go_grown⟩
set_option maxHeartbeats 4000000
theorem refSeen_any (x:Bool) (s:ByteArray) (w:World) (hs:s.size≤100000) (hx:isSnB s.data.toList=x) :
  Calls Tryz.prog 144 #[.string s] w fun e w'=>e=.returned (.bool x)∧w'=w:=by
 have HX:=κ30 hx
 have hsz:s.data.toList.length=s.size:=rfl
 have HL:=κ30 hsz
 clear hx hsz
 go_enter Tryz.func144,Tryz.ntmps144
 go_wp2_with fail
 go_loop [3] (fun v3=>∃ i:Nat,i≤s.size∧v3=.int .i64 i∧(s.data.toList.take i).all seenB=true) (fun v3=>s.size - (intOf v3).toNat)
 case atStart=>exact ⟨0,by omega,rfl,rfl⟩
 case round=>
  obtain ⟨i,hi,rfl,hall⟩:=hrel
  have HA:=κ30 hall
  clear hall
  by_cases hlt:i < s.size
  ·have HD:Hid (seenB s[i]=decide (32≤(s[i].toNat:Int)∧(s[i].toNat:Int)≤126)):=rfl
   have HS:Hid (seenB s[i]=true→(s.data.toList.take (i+1)).all seenB=true):=κ30 (take_all seenB s i hlt HA.out)
   have HF:Hid (seenB s[i]=false→s.data.toList.all seenB=false):=κ30 (all_not seenB s i hlt)
   have HN:Hid (seenB s[i]=false→isSnB s.data.toList=false):=κ30 fun h=>by unfold isSnB;rw [HF.out h]
   clear HF
   go_wp2_with fail
   all_goals first
    | (
      go_ret
      refine ⟨ret_bool ?_,rfl⟩
      rw [←HX.out,HN.out]
      rw [HD.out,decide_eq_false_iff_not]
      clear HX HL HA HD HS HN hi hs
      simp at *
      omega)
    | (
      go_round
      case rel=>
       refine ⟨i+1,by omega,by go_num,HS.out ?_⟩
       rw [HD.out,decide_eq_true_eq]
       clear HX HL HA HD HS HN hi hs
       simp at *
       omega
      case measure=>simp [intOf];omega)
  ·have hie:i=s.size:=by omega
   have hge:¬ i < s.size:=hlt
   have H:Hid (isSnB s.data.toList=true):=by
    have h4:=HA.out
    rw [hie,←HL.out,List.take_length] at h4
    exact h4
   clear hie hlt
   go_wp2_with fail
   go_ret
   exact ⟨ret_bool (by rw [←HX.out,H.out]),rfl⟩
instance (t b:Int):Decidable (StampOk t b):=by unfold StampOk;infer_instance
end Go.Proofs.YtjekalilfhnpmaaGreatDoor
namespace Go.Proofs.YtjekalilfhnpmaaGreatDoor
open Go Go.RowKit Go.Shelf Go.Lib Go.Sort
set_option linter.unusedVariables false
set_option linter.unusedSimpArgs false
set_option maxHeartbeats 4000000
set_option maxRecDepth 100000
theorem below_then {b:Nat} {w w' w'':World} (h:Below b w w') (h':Below w'.heap.size w' w'') (hb:b≤w'.heap.size):Below b w w'':=
 ⟨h'.os.trans h.os,h'.tape.trans h.tape,h'.output.trans h.output,Nat.le_trans h.size h'.size,fun k hk=>(h'.block k (by omega)).trans (h.block k hk)⟩
theorem laidIn_of {x:OpT} {O:List OpT} {k:Nat} (h:kOf opLt x O O.length=k):laidIn opLt O x=O.take k++x :: O.drop k:=by unfold laidIn;rw [h]
def LaidTo (L O:List OpT) (i:Nat):Prop:=O=(L.take i).foldl (laidIn opLt) []∧O.length=i
theorem LaidTo.start (L:List OpT):LaidTo L [] 0:=⟨by simp,rfl⟩
theorem LaidTo.step {L O:List OpT} {i:Nat} {x:OpT} (h:LaidTo L O i) (hx:L[i]?=some x):LaidTo L (laidIn opLt O x) (i+1):=by
 obtain ⟨hi,rfl⟩:=List.getElem?_eq_some_iff.1 hx
 refine ⟨?_,?_⟩
 ·rw [List.take_succ_eq_append_getElem hi,List.foldl_append,←h.1];rfl
 ·have:=(laidIn_perm (lt:=opLt) O L[i]).length_eq
  rw [this,List.length_cons,h.2]
theorem LaidTo.all {L O:List OpT} {i:Nat} (h:LaidTo L O i) (hi:i=L.length):O=sortOps L:=by rw [h.1,hi,List.take_length];rfl
def Four (b off:Nat) (g o2:Nat) (x y:OpT) (w:World):Prop:=w.cell? ⟨b,off,none⟩=some (.int .i64 x.t)∧w.cell? ⟨b,off+1,none⟩=some (.int .i64 x.b)∧w.cell? ⟨g,o2,none⟩=some (.int .i64 y.t)∧w.cell? ⟨g,o2+1,none⟩=some (.int .i64 y.b)
theorem Four.below {b off g o2:Nat} {x y:OpT} {w w':World} (hb:Below w.heap.size w w') (h:Four b off g o2 x y w):Four b off g o2 x y w':=by
 obtain ⟨h1,h2,h3,h4⟩:=h
 exact ⟨(hb.cell (World.block_lt_of_cell? w _ h1)).trans h1,(hb.cell (World.block_lt_of_cell? w _ h2)).trans h2,(hb.cell (World.block_lt_of_cell? w _ h3)).trans h3,(hb.cell (World.block_lt_of_cell? w _ h4)).trans h4⟩
theorem sortedOf_any (A:Option Addr) (n c:Nat) (L:List OpT) (w:World) (hs:SlV opE w (.slice A n c) L) (hn:L.length≤100000) :
  Calls Tryz.prog 81 #[.slice A n c] w fun e w'=>∃ v',e=.returned v'∧Rw opE 31 w.heap.size v' (sortOps L) w'∧Below w.heap.size w w':=by
 have hl:=hs.len
 rw [←hl] at hn
 have HN:=κ30 hl
 have HS:=κ30 hs
 clear hs hl
 go_enter Tryz.func81,Tryz.ntmps81
 go_wp2_with fail
 go_loopw [3,4] (fun v3 v4 wr=>∃ (i:Nat) (O:List OpT),i≤n∧v4=.int .i64 i∧Hid (LaidTo L O i)∧Hid (Rw opE 31 w.heap.size v3 O wr)∧Hid (Below w.heap.size w wr)) (fun _ v4 _=>n - (intOf v4).toNat)
 case atStart=>exact ⟨0,[],by omega,rfl,κ30 (LaidTo.start L),κ30 (Rw.nil _ _ _ _),κ30 (Below.refl _ _)⟩
 case round=>
  obtain ⟨i,O,hi,rfl,HO,HV,HB⟩:=hrel
  obtain ⟨wo,rfl⟩:∃ wo,wo=wr:=⟨_,rfl⟩
  rcases HV.out.form with ⟨rfl,hnil⟩ | ⟨g,c',rfl,hc,hcm,hbg,hgl⟩
  ·by_cases hlt:i < n
   ·obtain ⟨x,hx⟩:∃ x,L[i]?=some x:=⟨_,List.getElem?_eq_getElem (by have:=HN.out;omega)⟩
    obtain ⟨b,off,rfl,hbl,c0,c1,c2,c3,c4,c5,c6,c7⟩:=ops_at HS.out hx
    have HCx:Hid (∀ w',Below w.heap.size w w'→w'.cell? ⟨b,off+i*8,none⟩=some (.int .i64 x.t)∧w'.cell? ⟨b,off+i*8+1,none⟩=some (.int .i64 x.b)∧w'.cell? ⟨b,off+i*8+2,none⟩=some (.int .i64 x.n)∧w'.cell? ⟨b,off+i*8+3,none⟩=some (.int .u8 x.k)∧
      w'.cell? ⟨b,off+i*8+4,none⟩=some (.int .i64 x.nd)∧w'.cell? ⟨b,off+i*8+5,none⟩=some (.int .i64 x.ot)∧w'.cell? ⟨b,off+i*8+6,none⟩=some (.string x.nm)∧w'.cell? ⟨b,off+i*8+7,none⟩=some (.string x.vl)):=
     κ30 fun w' h=>⟨(h.cell hbl).trans c0,(h.cell hbl).trans c1,(h.cell hbl).trans c2,(h.cell hbl).trans c3,(h.cell hbl).trans c4,(h.cell hbl).trans c5,(h.cell hbl).trans c6,(h.cell hbl).trans c7⟩
    have HX:=κ30 hx
    clear hx c0 c1 c2 c3 c4 c5 c6 c7 hbl
    obtain ⟨m,hm⟩:∃ m,m=O.length:=⟨_,rfl⟩
    have hm0:m=0:=by rw [hm,hnil];rfl
    have HNil:=κ30 hnil
    have HM:=κ30 hm
    have hm5:m≤100000:=by omega
    clear hm hnil
    have i1:(0:Int)≤(i:Int):=by omega
    have i2:(i:Int) < (n:Int):=by omega
    have HK0:Hid (kOf opLt x O O.length=0):=κ30 (by rw [HNil.out];rfl)
    go_upto_block 2 with (fail)
    go_cut [5] (fun v5 wc=>∃ k:Nat,v5=.int .i64 k∧Hid (kOf opLt x O O.length=k)∧k≤m∧Hid (Below wo.heap.size wo wc))
    case first=>
     go_wp2_with fail
     go_loopw [5] (fun v5 wc=>v5=.int .i64 0∧Hid (Below wo.heap.size wo wc)) (fun v5 _=>(intOf v5).toNat)
     case atStart=>exact ⟨rfl,κ30 (Below.refl _ _)⟩
     case round=>
      obtain ⟨rfl,HBi⟩:=hrel
      go_wp2_with fail
      go_quiet (fail)
      rename_i nq
      have HB2:Hid (Below wo.heap.size wo (wr.drewN nq)):=κ30 (below_drawn HBi.out nq)
      go_wp2_with fail
      go_meet
      case rel=>exact ⟨0,rfl,HK0,by omega,HB2⟩
    case rest=>
     obtain ⟨k,rfl,HK,hk,HBi⟩:=hcut
     have hkO:k≤O.length:=by have:=HM.out;omega
     have hO5:O.length≤100000:=by have:=HM.out;omega
     obtain rfl:k=0:=by omega
     have HT1:Hid (SlV opE wc (.slice none 0 0) (O.take 0)):=κ30 (by rw [HNil.out];simp;exact SlV.nil)
     go_wp2_with (at_builtin;refine wpList_append_rows rfl _ _ 36 rfl opE wc.heap.size 31 (opV ⟨0,0,0,0,0,0,⟨#[]⟩,⟨#[]⟩⟩) 80 Tryz.underlying36 infoOp rfl (by decide) _ _ [] (O.take 0) rfl rfl (Rw.nil _ _ _ _) HT1.out ?za1 ?za2 ?za3 ?_)
     case za1=>unfold maxLen;rw [List.length_take];simp <;> omega
     case za2=>rw [List.length_take];simp <;> omega
     case za3=>exact Nat.le_refl _
     intro v1 w1 hr1 hg1
     have HB1:Hid (Below wc.heap.size wc w1):=κ30 ((Below.refl _ _).grown hg1 (Nat.le_refl _) (fun k hk=>by simp [Value.ownBlock] at hk))
     obtain ⟨c0,c1,c2,c3,c4,c5,c6,c7⟩:=HCx.out w1 (below_then (below_then HB.out HBi.out HB.out.size) HB1.out (by have:=HB.out.size;have:=HBi.out.size;omega))
     have HO1:Hid (SlV opE (w1.alloc (.cells x.cells 31)) (.slice (some ⟨w1.heap.size,0,none⟩) 1 1) [x]):=κ30 (SlV.one w1 x _ _ rfl)
     have HR1:=κ30 (hr1.below ((Below.refl _ _).alloc (Nat.le_refl _) (.cells x.cells 31)))
     have HV1:=κ30 hr1.lt
     clear hr1 hg1 HT1
     go_wp2_with (at_builtin;refine wpList_append_rows rfl _ _ 36 rfl opE wc.heap.size 31 (opV ⟨0,0,0,0,0,0,⟨#[]⟩,⟨#[]⟩⟩) 80 Tryz.underlying36 infoOp rfl (by decide) _ _ (O.take 0) [x] rfl rfl HR1.out HO1.out ?zb1 ?zb2 ?zb3 ?_)
     case zb1=>unfold maxLen;rw [List.length_take];simp <;> omega
     case zb2=>rw [List.length_take];simp <;> omega
     case zb3=>have:=HB1.out.size;simp;omega
     intro v2 w2 hr2 hg2
     have HB2:Hid (Below wc.heap.size wc w2):=κ30 ((HB1.out.alloc HB1.out.size _).grown hg2 (by have:=HB1.out.size;simp;omega) (fun k hk=>(HV1.out k hk).1))
     have HR2:=κ30 hr2
     have HV2:=κ30 hr2.lt
     clear hr2 hg2 HR1 HO1 HV1 HB1
     have HS2:Hid (SlV opE w2 (.slice none 0 0) (O.drop 0)):=κ30 (by rw [HNil.out];simp;exact SlV.nil)
     clear c0 c1 c2 c3 c4 c5 c6 c7
     go_wp2_with (at_builtin;refine wpList_append_rows rfl _ _ 36 rfl opE wc.heap.size 31 (opV ⟨0,0,0,0,0,0,⟨#[]⟩,⟨#[]⟩⟩) 80 Tryz.underlying36 infoOp rfl (by decide) _ _ (O.take 0++[x]) (O.drop 0) rfl rfl HR2.out HS2.out ?zxc1 ?zxc2 ?zxc3 ?_)
     case zxc1=>unfold maxLen;have:=HO.out.2;simp;omega
     case zxc2=>have:=HO.out.2;simp;omega
     case zxc3=>exact HB2.out.size
     intro v3 w3 hr3 hg3
     have HB3:Hid (Below w.heap.size w w3):=κ30 (below_then (below_then HB.out HBi.out HB.out.size) (HB2.out.grown hg3 HB2.out.size (fun k hk=>(HV2.out k hk).1)) (by have:=HB.out.size;have:=HBi.out.size;omega))
     have HR3:Hid (Rw opE 31 w.heap.size v3 (laidIn opLt O x) w3):=κ30 (by rw [laidIn_of HK.out];have:=hr3.lower (b:=w.heap.size) (by have:=HB.out.size;have:=HBi.out.size;omega);simpa using this)
     have HO3:=κ30 (HO.out.step HX.out)
     clear hr3 hg3 HR2 HS2 HV2 HB2
     go_wp2_with fail
     go_roundw
     case rel=>exact ⟨i+1,_,by omega,by go_num,HO3,HR3,HB3⟩
     case measure=>simp [intOf];omega
   ·have i2:¬ (i:Int) < (n:Int):=by omega
    go_wp2_with fail
    go_ret
    have:=HN.out
    have e:=HO.out.all (by omega)
    exact ⟨_,rfl,by rw [←e];exact HV.out,HB.out⟩
  ·by_cases hlt:i < n
   ·obtain ⟨x,hx⟩:∃ x,L[i]?=some x:=⟨_,List.getElem?_eq_getElem (by have:=HN.out;omega)⟩
    obtain ⟨b,off,rfl,hbl,c0,c1,c2,c3,c4,c5,c6,c7⟩:=ops_at HS.out hx
    have HCx:Hid (∀ w',Below w.heap.size w w'→w'.cell? ⟨b,off+i*8,none⟩=some (.int .i64 x.t)∧w'.cell? ⟨b,off+i*8+1,none⟩=some (.int .i64 x.b)∧w'.cell? ⟨b,off+i*8+2,none⟩=some (.int .i64 x.n)∧w'.cell? ⟨b,off+i*8+3,none⟩=some (.int .u8 x.k)∧
      w'.cell? ⟨b,off+i*8+4,none⟩=some (.int .i64 x.nd)∧w'.cell? ⟨b,off+i*8+5,none⟩=some (.int .i64 x.ot)∧w'.cell? ⟨b,off+i*8+6,none⟩=some (.string x.nm)∧w'.cell? ⟨b,off+i*8+7,none⟩=some (.string x.vl)):=
     κ30 fun w' h=>⟨(h.cell hbl).trans c0,(h.cell hbl).trans c1,(h.cell hbl).trans c2,(h.cell hbl).trans c3,(h.cell hbl).trans c4,(h.cell hbl).trans c5,(h.cell hbl).trans c6,(h.cell hbl).trans c7⟩
    have HX:=κ30 hx
    clear hx c0 c1 c2 c3 c4 c5 c6 c7 hbl
    obtain ⟨m,hm⟩:∃ m,m=O.length:=⟨_,rfl⟩
    rw [←hm] at hc HV ⊢
    have HM:=κ30 hm
    have hm5:m≤100000:=by have:=HO.out.2;omega
    clear hm
    have i1:(0:Int)≤(i:Int):=by omega
    have i2:(i:Int) < (n:Int):=by omega
    go_upto_block 2 with (fail)
    go_cut [5] (fun v5 wc=>∃ k:Nat,v5=.int .i64 k∧Hid (kOf opLt x O O.length=k)∧k≤m∧Hid (Below wo.heap.size wo wc))
    case first=>
     go_wp2_with fail
     go_loopw [5] (fun v5 wc=>∃ k:Nat,v5=.int .i64 k∧Hid (kOf opLt x O O.length=kOf opLt x O k)∧k≤m∧Hid (Below wo.heap.size wo wc)) (fun v5 _=>(intOf v5).toNat)
     case atStart=>exact ⟨m,rfl,κ30 (by rw [HM.out]),Nat.le_refl _,κ30 (Below.refl _ _)⟩
     case round=>
      obtain ⟨k,rfl,HK,hk,HBi⟩:=hrel
      by_cases hk0:k=0
      ·subst hk0
       go_wp2_with fail
       go_quiet (fail)
       rename_i nq
       have HB2:Hid (Below wo.heap.size wo (wr.drewN nq)):=κ30 (below_drawn HBi.out nq)
       go_wp2_with fail
       go_meet
       case rel=>exact ⟨0,rfl,HK,by omega,HB2⟩
      ·obtain ⟨kp,rfl⟩:∃ kp,k=kp+1:=⟨k - 1,by omega⟩
       obtain ⟨y,hy⟩:∃ y,O[kp]?=some y:=⟨_,List.getElem?_eq_getElem (by have:=HM.out;omega)⟩
       have f0:=HCx.out wr (below_then HB.out HBi.out HB.out.size)
       have HF:Hid (Four b (off+i*8) g (kp*8) x y wr.drew):=κ30 (by
        have r:=HV.out.below HBi.out
        exact ⟨f0.1,f0.2.1,by have:=r.at' rfl hy (j:=0) (u:=.int .i64 y.t) rfl;exact this,by have:=r.at' rfl hy (j:=1) (u:=.int .i64 y.b) rfl;exact this⟩)
       have HKs:=κ30 (kOf_succ (x:=x) hy)
       obtain ⟨lt,hlt2⟩:∃ lt,lt=opLt x y:=⟨_,rfl⟩
       have HL:Hid (∀ w,Calls Tryz.prog 89 #[stampV x.t x.b,stampV y.t y.b] w fun e w'=>e=.returned (.bool lt)∧Below w.heap.size w w'):=κ30 fun w=>by rw [hlt2];exact isLess_any _ _ _ _ w
       have HLT:=κ30 hlt2
       have HBd:Hid (Below wo.heap.size wo wr.drew):=κ30 (below_then HBi.out (Below.refl _ _).drew HBi.out.size)
       have k1:(0:Int) < (kp:Int)+1:=by omega
       have j0:(0:Int)≤(kp:Int):=by omega
       have j1:(kp:Int) < (m:Int):=by omega
       have hwp:IntKind.i64.wrap (kp:Int)=(kp:Int):=by rw [IntKind.wrap_i64];omega
       clear f0 hy hlt2 HBi hk0
       cases lt with
       | true=>
        go_wp2_with fail
        go_region_held3 (fun w'=>w'.cell? ⟨b,off+i*8,none⟩=some (.int .i64 x.t)∧w'.cell? ⟨b,off+i*8+1,none⟩=some (.int .i64 x.b)∧w'.cell? ⟨g,kp*8,none⟩=some (.int .i64 y.t)∧w'.cell? ⟨g,kp*8+1,none⟩=some (.int .i64 y.b)) ((first | exact HF.out | exact Four.below (by assumption) (by assumption)))
         ((go_at_call 89;refine (HL.out _).mono ?_;rintro e wA ⟨rfl,hbA⟩))
        have HB2:Hid (Below wo.heap.size wo wA):=κ30 (below_then HBd.out hbA HBd.out.size)
        clear hbA
        go_wp2_with fail
        go_roundw
        case rel=>exact ⟨kp,by first | rfl | go_num,κ30 (by rw [HK.out,HKs.out,←HLT.out];first | done | rfl),by omega,HB2⟩
        case measure=>simp [intOf] <;> omega
       | false=>
        go_wp2_with fail
        go_region_held3 (fun w'=>w'.cell? ⟨b,off+i*8,none⟩=some (.int .i64 x.t)∧w'.cell? ⟨b,off+i*8+1,none⟩=some (.int .i64 x.b)∧w'.cell? ⟨g,kp*8,none⟩=some (.int .i64 y.t)∧w'.cell? ⟨g,kp*8+1,none⟩=some (.int .i64 y.b)) ((first | exact HF.out | exact Four.below (by assumption) (by assumption)))
         ((go_at_call 89;refine (HL.out _).mono ?_;rintro e wA ⟨rfl,hbA⟩))
        have HB2:Hid (Below wo.heap.size wo wA):=κ30 (below_then HBd.out hbA HBd.out.size)
        clear hbA
        go_wp2_with fail
        go_meet
        case rel=>exact ⟨kp+1,by go_num,κ30 (by rw [HK.out,HKs.out,←HLT.out];first | done | rfl),by omega,HB2⟩
    case rest=>
     have HSv:=κ30 HV.out.sl
     obtain ⟨k,rfl,HK,hk,HBi⟩:=hcut
     have hkO:k≤O.length:=by have:=HM.out;omega
     have hO5:O.length≤100000:=by have:=HM.out;omega
     have hk2:(k:Int)≤(c':Int):=by omega
     have k0:(0:Int)≤(k:Int):=by omega
     have hkm:(k:Int)≤(m:Int):=by omega
     have HT1:Hid (SlV opE wc (.slice (some ⟨g,0,none⟩) k c') (O.take k)):=κ30 ((HSv.out.below HBi.out).take hk c' (by omega))
     go_wp2_with (at_builtin;refine wpList_append_rows rfl _ _ 36 rfl opE wc.heap.size 31 (opV ⟨0,0,0,0,0,0,⟨#[]⟩,⟨#[]⟩⟩) 80 Tryz.underlying36 infoOp rfl (by decide) _ _ [] (O.take k) rfl rfl (Rw.nil _ _ _ _) HT1.out ?qa1 ?qa2 ?qa3 ?_)
     case qa1=>unfold maxLen;rw [List.length_take];simp;omega
     case qa2=>rw [List.length_take];simp;omega
     case qa3=>exact Nat.le_refl _
     intro v1 w1 hr1 hg1
     have HB1:Hid (Below wc.heap.size wc w1):=κ30 ((Below.refl _ _).grown hg1 (Nat.le_refl _) (fun k hk=>by simp [Value.ownBlock] at hk))
     obtain ⟨c0,c1,c2,c3,c4,c5,c6,c7⟩:=HCx.out w1 (below_then (below_then HB.out HBi.out HB.out.size) HB1.out (by have:=HB.out.size;have:=HBi.out.size;omega))
     have HO1:Hid (SlV opE (w1.alloc (.cells x.cells 31)) (.slice (some ⟨w1.heap.size,0,none⟩) 1 1) [x]):=κ30 (SlV.one w1 x _ _ rfl)
     have HR1:=κ30 (hr1.below ((Below.refl _ _).alloc (Nat.le_refl _) (.cells x.cells 31)))
     have HV1:=κ30 hr1.lt
     clear hr1 hg1 HT1
     go_wp2_with (at_builtin;refine wpList_append_rows rfl _ _ 36 rfl opE wc.heap.size 31 (opV ⟨0,0,0,0,0,0,⟨#[]⟩,⟨#[]⟩⟩) 80 Tryz.underlying36 infoOp rfl (by decide) _ _ (O.take k) [x] rfl rfl HR1.out HO1.out ?qb1 ?qb2 ?qb3 ?_)
     case qb1=>unfold maxLen;rw [List.length_take];simp;omega
     case qb2=>rw [List.length_take];simp;omega
     case qb3=>have:=HB1.out.size;simp;omega
     intro v2 w2 hr2 hg2
     have HB2:Hid (Below wc.heap.size wc w2):=κ30 ((HB1.out.alloc HB1.out.size _).grown hg2 (by have:=HB1.out.size;simp;omega) (fun k hk=>(HV1.out k hk).1))
     have HR2:=κ30 hr2
     have HV2:=κ30 hr2.lt
     clear hr2 hg2 HR1 HO1 HV1 HB1
     by_cases hac:k=c'
     ·obtain rfl:k=m:=by omega
      obtain rfl:k=c':=by omega
      have HS2:Hid (SlV opE w2 (.slice (some ⟨g,0,none⟩) 0 0) (O.drop k)):=κ30 (by rw [List.drop_eq_nil_of_le (by have:=HM.out;omega)];exact SlV.empty _ _)
      clear c0 c1 c2 c3 c4 c5 c6 c7
      go_wp2_with (at_builtin;refine wpList_append_rows rfl _ _ 36 rfl opE wc.heap.size 31 (opV ⟨0,0,0,0,0,0,⟨#[]⟩,⟨#[]⟩⟩) 80 Tryz.underlying36 infoOp rfl (by decide) _ _ (O.take k++[x]) (O.drop k) rfl rfl HR2.out HS2.out ?qxc1 ?qxc2 ?qxc3 ?_)
      case qxc1=>unfold maxLen;have:=HO.out.2;simp;omega
      case qxc2=>have:=HO.out.2;simp;omega
      case qxc3=>exact HB2.out.size
      intro v3 w3 hr3 hg3
      have HB3:Hid (Below w.heap.size w w3):=κ30 (below_then (below_then HB.out HBi.out HB.out.size) (HB2.out.grown hg3 HB2.out.size (fun k hk=>(HV2.out k hk).1)) (by have:=HB.out.size;have:=HBi.out.size;omega))
      have HR3:Hid (Rw opE 31 w.heap.size v3 (laidIn opLt O x) w3):=κ30 (by rw [laidIn_of HK.out];have:=hr3.lower (b:=w.heap.size) (by have:=HB.out.size;have:=HBi.out.size;omega);simpa using this)
      have HO3:=κ30 (HO.out.step HX.out)
      clear hr3 hg3 HR2 HS2 HV2 HB2
      go_wp2_with fail
      go_roundw
      case rel=>exact ⟨i+1,_,by omega,by go_num,HO3,HR3,HB3⟩
      case measure=>simp [intOf];omega
     ·have hac2:k < c':=by omega
      have HS2:Hid (SlV opE w2 (.slice (some ⟨g,k*8,none⟩) (m - k) (c' - k)) (O.drop k)):=κ30 (by have h3:=((HSv.out.below HBi.out).drop (m:=k) (by omega) (c' - k) (by omega)).below HB2.out;rw [Nat.zero_add] at h3;exact h3)
      clear c0 c1 c2 c3 c4 c5 c6 c7
      go_wp2_with (at_builtin;refine wpList_append_rows rfl _ _ 36 rfl opE wc.heap.size 31 (opV ⟨0,0,0,0,0,0,⟨#[]⟩,⟨#[]⟩⟩) 80 Tryz.underlying36 infoOp rfl (by decide) _ _ (O.take k++[x]) (O.drop k) rfl rfl HR2.out HS2.out ?qyc1 ?qyc2 ?qyc3 ?_)
      case qyc1=>unfold maxLen;have:=HO.out.2;simp;omega
      case qyc2=>have:=HO.out.2;simp;omega
      case qyc3=>exact HB2.out.size
      intro v3 w3 hr3 hg3
      have HB3:Hid (Below w.heap.size w w3):=κ30 (below_then (below_then HB.out HBi.out HB.out.size) (HB2.out.grown hg3 HB2.out.size (fun k hk=>(HV2.out k hk).1)) (by have:=HB.out.size;have:=HBi.out.size;omega))
      have HR3:Hid (Rw opE 31 w.heap.size v3 (laidIn opLt O x) w3):=κ30 (by rw [laidIn_of HK.out];have:=hr3.lower (b:=w.heap.size) (by have:=HB.out.size;have:=HBi.out.size;omega);simpa using this)
      have HO3:=κ30 (HO.out.step HX.out)
      clear hr3 hg3 HR2 HS2 HV2 HB2
      go_wp2_with fail
      go_roundw
      case rel=>exact ⟨i+1,_,by omega,by go_num,HO3,HR3,HB3⟩
      case measure=>simp [intOf];omega
   ·have i2:¬ (i:Int) < (n:Int):=by omega
    go_wp2_with fail
    go_ret
    have:=HN.out
    have e:=HO.out.all (by omega)
    exact ⟨_,rfl,by rw [←e];exact HV.out,HB.out⟩
end Go.Proofs.YtjekalilfhnpmaaGreatDoor
namespace Go.Proofs.YtjekalilfhnpmaaGreatDoor
open Go Go.RowKit
set_option linter.unusedVariables false
set_option linter.unusedSimpArgs false
set_option maxHeartbeats 4000000
set_option maxRecDepth 100000
theorem opError_any (o:OpT) (w:World) (hw:o.Wf) :
  Calls Tryz.prog 87 #[opV o] w fun e w'=>e=.returned (.int .i64 (opErr o))∧Below w.heap.size w w':=by
 have hnm:=hw.nm1
 have hvl:=hw.vl1
 have hk1:=hw.k1
 have hk2:=hw.k2
 clear hw
 have HO:=κ30 (OpAt.start w o 31)
 by_cases h1:StampOk o.t o.b
 ·have HC:Hid (Calls Tryz.prog 142 #[stampV o.t o.b] (w.alloc (.cells o.cells 31)) fun e w'=>e=.returned (.int .i64 0)∧Below (w.alloc (.cells o.cells 31)).heap.size (w.alloc (.cells o.cells 31)) w'):=κ30 (stampError_ok _ _ _ h1)
  have HD:Hid (∀ w,Calls Tryz.prog 91 #[stampV o.t o.b] w fun e w'=>e=.returned (.int .i64 o.id)∧Below w.heap.size w w'):=κ30 fun w=>idOf_ok _ _ w h1
  by_cases hn:o.n < 1∨400 < o.n
  ·have H:Hid (opErr o=2):=by
    unfold opErr
    rw [if_pos (.inr hn)]
    exact rfl
   rw [H.out]
   clear h1 H HD
   rcases (show o.n < 1∨(1≤o.n∧400 < o.n) by omega) with hn1 | ⟨hn1,hn2⟩
   all_goals
    clear hn
    go_enter Tryz.func87,Tryz.ntmps87
    go_wp2_with fail
    refine HC.out.mono ?_
    rintro e w1 ⟨rfl,hb⟩
    obtain ⟨c0,c1,c2,c3,c4,c5,c6,c7⟩:=HO.out.below hb
    have HB:=κ30 (((Below.refl _ _).alloc (Nat.le_refl _) _).trans (hb.mono (by simp)))
    clear hb
    go_wp2_with fail
    go_ret
    exact ⟨rfl,HB.out⟩
  have n1:=(decide_lt hn).1
  have n2:=(decide_lt hn).2
  by_cases hk:o.k=109∨o.k=105∨o.k=100∨o.k=115
  ·have H:opErr o=(if numB o.k o.nd o.ot o.id=false then 3 else if nmB o=false then 4 else if vlB o.k o.vl=false then 3 else 0):=by
    unfold opErr
    rw [if_neg (fun h=>h.elim (fun h=>h h1) hn),if_neg (fun h=>h hk)]
   rw [H]
   clear h1 H hn
   generalize eN:numB o.k o.nd o.ot o.id=rN
   generalize eM:nmB o=rM
   generalize eV:vlB o.k o.vl=rV
   have HNam:Hid ((o.k=109∨o.k=115)→∀ w,Calls Tryz.prog 143 #[.string o.nm] w fun e w'=>e=.returned (.bool rM)∧w'=w):=κ30 fun h w=>refName_any rM o.nm w hnm (by rw [←eM];unfold nmB;rw [if_pos h])
   have HEmp:¬ (o.k=109∨o.k=115)→o.nm.toList.isEmpty=rM:=fun h=>by
    rw [←eM]
    unfold nmB
    rw [if_neg h]
    by_cases h0:o.nm.size=0
    ·rw [isEmpty_of h0,decide_eq_true h0]
    ·rw [isEmpty_not h0,decide_eq_false h0]
   have HSe:Hid (∀ w,Calls Tryz.prog 144 #[.string o.vl] w fun e w'=>e=.returned (.bool (isSnB o.vl.data.toList))∧w'=w):=κ30 fun w=>refSeen_any _ o.vl w hvl rfl
   have eN':decide (0≤o.nd∧o.nd≤o.id∧(o.nd=o.id→o.k=109)∧(o.k=109→o.nd≠0∧o.nd≠1∧0≤o.ot∧o.ot < o.id)∧(o.k=105→0≤o.ot∧o.ot < o.id)∧(o.k=100→0 < o.ot∧o.ot < o.id)∧(o.k≠109∧o.k≠105∧o.k≠100→o.ot=0))=rN:=eN
   have hE0:o.vl.toList.isEmpty=decide (o.vl.size=0):=by
    by_cases h0:o.vl.size=0
    ·rw [isEmpty_of h0,decide_eq_true h0]
    ·rw [isEmpty_not h0,decide_eq_false h0]
   unfold vlB at eV
   generalize o.id=id at HD eN'
   clear eN eM hnm hvl hk1 hk2
   obtain ⟨t,b,n,k,nd,ot,nm,vl⟩:=o
   simp only at n1 n2 hk HEmp eN' eV hE0
   rcases hk with rfl | rfl | rfl | rfl
   ·have HNa:=κ30 (HNam.out (.inl rfl))
    clear HNam HEmp
    cases rN
    ·clear eV
     have eN2:=of_decide_eq_false eN'
     clear eN'
     go_enter Tryz.func87,Tryz.ntmps87
     go_wp2_with fail
     refine HC.out.mono ?_
     rintro e w1 ⟨rfl,hb⟩
     have HB:=κ30 (((Below.refl _ w).alloc (Nat.le_refl _) _).trans (hb.mono (by simp)))
     have hO:=HO.out.below hb
     have HO1:=κ30 hO
     clear HO HC hb
     obtain ⟨c0,c1,c2,c3,c4,c5,c6,c7⟩:=hO
     go_wp2_with fail
     refine (HD.out _).mono ?_
     rintro e w2 ⟨rfl,hb⟩
     obtain ⟨c0,c1,c2,c3,c4,c5,c6,c7⟩:=HO1.out.below hb
     have HB:=κ30 (HB.out.trans (hb.mono HB.out.size))
     clear hb
     go_wp2_with fail
     all_goals first
      | (
        go_ret
        exact ⟨rfl,HB.out⟩)
      | (
        exfalso
        clear HB HO1 HD HSe c0 c1 c2 c3 c4 c5 c6 c7
        simp at *
        omega)
    have eN2:=of_decide_eq_true eN'
    clear eN'
    have f1:2≤nd:=by omega
    have f2:nd≤id:=by omega
    have f3:0≤ot:=by omega
    have f4:ot < id:=by omega
    clear eN2
    have eV2:vl.toList.isEmpty=rV:=hE0.trans eV
    clear eV hE0
    cases rM
    ·go_enter Tryz.func87,Tryz.ntmps87
     go_wp2_with fail
     refine HC.out.mono ?_
     rintro e w1 ⟨rfl,hb⟩
     have HB:=κ30 (((Below.refl _ w).alloc (Nat.le_refl _) _).trans (hb.mono (by simp)))
     have hO:=HO.out.below hb
     have HO1:=κ30 hO
     clear HO HC hb
     obtain ⟨c0,c1,c2,c3,c4,c5,c6,c7⟩:=hO
     go_wp2_with fail
     refine (HD.out _).mono ?_
     rintro e w2 ⟨rfl,hb⟩
     obtain ⟨c0,c1,c2,c3,c4,c5,c6,c7⟩:=HO1.out.below hb
     have HB:=κ30 (HB.out.trans (hb.mono HB.out.size))
     clear hb
     go_wp2_with fail
     refine (HNa.out _).mono ?_
     rintro e w4 ⟨rfl,rfl⟩
     go_wp2_with fail
     go_ret
     exact ⟨rfl,HB.out⟩
    cases rV
    ·go_enter Tryz.func87,Tryz.ntmps87
     go_wp2_with fail
     refine HC.out.mono ?_
     rintro e w1 ⟨rfl,hb⟩
     have HB:=κ30 (((Below.refl _ w).alloc (Nat.le_refl _) _).trans (hb.mono (by simp)))
     have hO:=HO.out.below hb
     have HO1:=κ30 hO
     clear HO HC hb
     obtain ⟨c0,c1,c2,c3,c4,c5,c6,c7⟩:=hO
     go_wp2_with fail
     refine (HD.out _).mono ?_
     rintro e w2 ⟨rfl,hb⟩
     obtain ⟨c0,c1,c2,c3,c4,c5,c6,c7⟩:=HO1.out.below hb
     have HB:=κ30 (HB.out.trans (hb.mono HB.out.size))
     clear hb
     go_wp2_with fail
     refine (HNa.out _).mono ?_
     rintro e w4 ⟨rfl,rfl⟩
     go_wp2_with fail
     go_ret
     exact ⟨rfl,HB.out⟩
    ·go_enter Tryz.func87,Tryz.ntmps87
     go_wp2_with fail
     refine HC.out.mono ?_
     rintro e w1 ⟨rfl,hb⟩
     have HB:=κ30 (((Below.refl _ w).alloc (Nat.le_refl _) _).trans (hb.mono (by simp)))
     have hO:=HO.out.below hb
     have HO1:=κ30 hO
     clear HO HC hb
     obtain ⟨c0,c1,c2,c3,c4,c5,c6,c7⟩:=hO
     go_wp2_with fail
     refine (HD.out _).mono ?_
     rintro e w2 ⟨rfl,hb⟩
     obtain ⟨c0,c1,c2,c3,c4,c5,c6,c7⟩:=HO1.out.below hb
     have HB:=κ30 (HB.out.trans (hb.mono HB.out.size))
     clear hb
     go_wp2_with fail
     refine (HNa.out _).mono ?_
     rintro e w4 ⟨rfl,rfl⟩
     go_wp2_with fail
     go_ret
     exact ⟨rfl,HB.out⟩
   ·have hE:=HEmp (by omega)
    clear HNam HEmp
    cases rN
    ·clear eV
     have eN2:=of_decide_eq_false eN'
     clear eN'
     go_enter Tryz.func87,Tryz.ntmps87
     go_wp2_with fail
     refine HC.out.mono ?_
     rintro e w1 ⟨rfl,hb⟩
     have HB:=κ30 (((Below.refl _ w).alloc (Nat.le_refl _) _).trans (hb.mono (by simp)))
     have hO:=HO.out.below hb
     have HO1:=κ30 hO
     clear HO HC hb
     obtain ⟨c0,c1,c2,c3,c4,c5,c6,c7⟩:=hO
     go_wp2_with fail
     refine (HD.out _).mono ?_
     rintro e w2 ⟨rfl,hb⟩
     obtain ⟨c0,c1,c2,c3,c4,c5,c6,c7⟩:=HO1.out.below hb
     have HB:=κ30 (HB.out.trans (hb.mono HB.out.size))
     clear hb
     go_wp2_with fail
     all_goals first
      | (
        go_ret
        exact ⟨rfl,HB.out⟩)
      | (
        exfalso
        clear HB HO1 HD HSe c0 c1 c2 c3 c4 c5 c6 c7
        simp at *
        omega)
    have eN2:=of_decide_eq_true eN'
    clear eN'
    have f1:0≤nd:=by omega
    have f2:nd < id:=by omega
    have f3:0≤ot:=by omega
    have f4:ot < id:=by omega
    clear eN2
    generalize isSnB vl.data.toList=sn at HSe eV
    have hz:((vl.size:Int) == 1)=decide (vl.size=1):=by rw [Bool.eq_iff_iff];simp;omega
    generalize decide (vl.size=1)=z at hz eV
    have eV2:rV=(z && sn):=eV.symm
    clear eV hE0
    cases rM
    ·go_enter Tryz.func87,Tryz.ntmps87
     go_wp2_with fail
     refine HC.out.mono ?_
     rintro e w1 ⟨rfl,hb⟩
     have HB:=κ30 (((Below.refl _ w).alloc (Nat.le_refl _) _).trans (hb.mono (by simp)))
     have hO:=HO.out.below hb
     have HO1:=κ30 hO
     clear HO HC hb
     obtain ⟨c0,c1,c2,c3,c4,c5,c6,c7⟩:=hO
     go_wp2_with fail
     refine (HD.out _).mono ?_
     rintro e w2 ⟨rfl,hb⟩
     obtain ⟨c0,c1,c2,c3,c4,c5,c6,c7⟩:=HO1.out.below hb
     have HB:=κ30 (HB.out.trans (hb.mono HB.out.size))
     clear hb
     go_wp2_with fail
     go_ret
     exact ⟨rfl,HB.out⟩
    subst eV2
    cases z
    ·have hz1:¬ (vl.size:Int)=1:=by simpa using hz
     clear hz
     go_enter Tryz.func87,Tryz.ntmps87
     go_wp2_with fail
     refine HC.out.mono ?_
     rintro e w1 ⟨rfl,hb⟩
     have HB:=κ30 (((Below.refl _ w).alloc (Nat.le_refl _) _).trans (hb.mono (by simp)))
     have hO:=HO.out.below hb
     have HO1:=κ30 hO
     clear HO HC hb
     obtain ⟨c0,c1,c2,c3,c4,c5,c6,c7⟩:=hO
     go_wp2_with fail
     refine (HD.out _).mono ?_
     rintro e w2 ⟨rfl,hb⟩
     obtain ⟨c0,c1,c2,c3,c4,c5,c6,c7⟩:=HO1.out.below hb
     have HB:=κ30 (HB.out.trans (hb.mono HB.out.size))
     clear hb
     go_wp2_with fail
     refine (HSe.out _).mono ?_
     rintro e w5 ⟨rfl,rfl⟩
     go_wp2_with fail
     go_ret
     exact ⟨rfl,HB.out⟩
    have hz1:(vl.size:Int)=1:=by simpa using hz
    clear hz
    cases sn
    ·go_enter Tryz.func87,Tryz.ntmps87
     go_wp2_with fail
     refine HC.out.mono ?_
     rintro e w1 ⟨rfl,hb⟩
     have HB:=κ30 (((Below.refl _ w).alloc (Nat.le_refl _) _).trans (hb.mono (by simp)))
     have hO:=HO.out.below hb
     have HO1:=κ30 hO
     clear HO HC hb
     obtain ⟨c0,c1,c2,c3,c4,c5,c6,c7⟩:=hO
     go_wp2_with fail
     refine (HD.out _).mono ?_
     rintro e w2 ⟨rfl,hb⟩
     obtain ⟨c0,c1,c2,c3,c4,c5,c6,c7⟩:=HO1.out.below hb
     have HB:=κ30 (HB.out.trans (hb.mono HB.out.size))
     clear hb
     go_wp2_with fail
     refine (HSe.out _).mono ?_
     rintro e w5 ⟨rfl,rfl⟩
     go_wp2_with fail
     go_ret
     exact ⟨rfl,HB.out⟩
    ·go_enter Tryz.func87,Tryz.ntmps87
     go_wp2_with fail
     refine HC.out.mono ?_
     rintro e w1 ⟨rfl,hb⟩
     have HB:=κ30 (((Below.refl _ w).alloc (Nat.le_refl _) _).trans (hb.mono (by simp)))
     have hO:=HO.out.below hb
     have HO1:=κ30 hO
     clear HO HC hb
     obtain ⟨c0,c1,c2,c3,c4,c5,c6,c7⟩:=hO
     go_wp2_with fail
     refine (HD.out _).mono ?_
     rintro e w2 ⟨rfl,hb⟩
     obtain ⟨c0,c1,c2,c3,c4,c5,c6,c7⟩:=HO1.out.below hb
     have HB:=κ30 (HB.out.trans (hb.mono HB.out.size))
     clear hb
     go_wp2_with fail
     refine (HSe.out _).mono ?_
     rintro e w5 ⟨rfl,rfl⟩
     go_wp2_with fail
     go_ret
     exact ⟨rfl,HB.out⟩
   ·have hE:=HEmp (by omega)
    clear HNam HEmp
    cases rN
    ·clear eV
     have eN2:=of_decide_eq_false eN'
     clear eN'
     go_enter Tryz.func87,Tryz.ntmps87
     go_wp2_with fail
     refine HC.out.mono ?_
     rintro e w1 ⟨rfl,hb⟩
     have HB:=κ30 (((Below.refl _ w).alloc (Nat.le_refl _) _).trans (hb.mono (by simp)))
     have hO:=HO.out.below hb
     have HO1:=κ30 hO
     clear HO HC hb
     obtain ⟨c0,c1,c2,c3,c4,c5,c6,c7⟩:=hO
     go_wp2_with fail
     refine (HD.out _).mono ?_
     rintro e w2 ⟨rfl,hb⟩
     obtain ⟨c0,c1,c2,c3,c4,c5,c6,c7⟩:=HO1.out.below hb
     have HB:=κ30 (HB.out.trans (hb.mono HB.out.size))
     clear hb
     go_wp2_with fail
     all_goals first
      | (
        go_ret
        exact ⟨rfl,HB.out⟩)
      | (
        exfalso
        clear HB HO1 HD HSe c0 c1 c2 c3 c4 c5 c6 c7
        simp at *
        omega)
    have eN2:=of_decide_eq_true eN'
    clear eN'
    have f1:0≤nd:=by omega
    have f2:nd < id:=by omega
    have f3:0≤ot:=by omega
    have f4:ot < id:=by omega
    have f5:(ot == 0)=false:=by simp;omega
    clear eN2
    have eV2:vl.toList.isEmpty=rV:=hE0.trans eV
    clear eV hE0
    cases rM
    ·go_enter Tryz.func87,Tryz.ntmps87
     go_wp2_with fail
     refine HC.out.mono ?_
     rintro e w1 ⟨rfl,hb⟩
     have HB:=κ30 (((Below.refl _ w).alloc (Nat.le_refl _) _).trans (hb.mono (by simp)))
     have hO:=HO.out.below hb
     have HO1:=κ30 hO
     clear HO HC hb
     obtain ⟨c0,c1,c2,c3,c4,c5,c6,c7⟩:=hO
     go_wp2_with fail
     refine (HD.out _).mono ?_
     rintro e w2 ⟨rfl,hb⟩
     obtain ⟨c0,c1,c2,c3,c4,c5,c6,c7⟩:=HO1.out.below hb
     have HB:=κ30 (HB.out.trans (hb.mono HB.out.size))
     clear hb
     go_wp2_with fail
     go_ret
     exact ⟨rfl,HB.out⟩
    cases rV
    ·go_enter Tryz.func87,Tryz.ntmps87
     go_wp2_with fail
     refine HC.out.mono ?_
     rintro e w1 ⟨rfl,hb⟩
     have HB:=κ30 (((Below.refl _ w).alloc (Nat.le_refl _) _).trans (hb.mono (by simp)))
     have hO:=HO.out.below hb
     have HO1:=κ30 hO
     clear HO HC hb
     obtain ⟨c0,c1,c2,c3,c4,c5,c6,c7⟩:=hO
     go_wp2_with fail
     refine (HD.out _).mono ?_
     rintro e w2 ⟨rfl,hb⟩
     obtain ⟨c0,c1,c2,c3,c4,c5,c6,c7⟩:=HO1.out.below hb
     have HB:=κ30 (HB.out.trans (hb.mono HB.out.size))
     clear hb
     go_wp2_with fail
     go_ret
     exact ⟨rfl,HB.out⟩
    ·go_enter Tryz.func87,Tryz.ntmps87
     go_wp2_with fail
     refine HC.out.mono ?_
     rintro e w1 ⟨rfl,hb⟩
     have HB:=κ30 (((Below.refl _ w).alloc (Nat.le_refl _) _).trans (hb.mono (by simp)))
     have hO:=HO.out.below hb
     have HO1:=κ30 hO
     clear HO HC hb
     obtain ⟨c0,c1,c2,c3,c4,c5,c6,c7⟩:=hO
     go_wp2_with fail
     refine (HD.out _).mono ?_
     rintro e w2 ⟨rfl,hb⟩
     obtain ⟨c0,c1,c2,c3,c4,c5,c6,c7⟩:=HO1.out.below hb
     have HB:=κ30 (HB.out.trans (hb.mono HB.out.size))
     clear hb
     go_wp2_with fail
     refine (HSe.out _).mono ?_
     rintro e w5 ⟨rfl,rfl⟩
     go_wp2_with fail
     go_ret
     exact ⟨rfl,HB.out⟩
   ·have HNa:=κ30 (HNam.out (.inr rfl))
    clear HNam HEmp
    cases rN
    ·clear eV
     have eN2:=of_decide_eq_false eN'
     clear eN'
     go_enter Tryz.func87,Tryz.ntmps87
     go_wp2_with fail
     refine HC.out.mono ?_
     rintro e w1 ⟨rfl,hb⟩
     have HB:=κ30 (((Below.refl _ w).alloc (Nat.le_refl _) _).trans (hb.mono (by simp)))
     have hO:=HO.out.below hb
     have HO1:=κ30 hO
     clear HO HC hb
     obtain ⟨c0,c1,c2,c3,c4,c5,c6,c7⟩:=hO
     go_wp2_with fail
     refine (HD.out _).mono ?_
     rintro e w2 ⟨rfl,hb⟩
     obtain ⟨c0,c1,c2,c3,c4,c5,c6,c7⟩:=HO1.out.below hb
     have HB:=κ30 (HB.out.trans (hb.mono HB.out.size))
     clear hb
     go_wp2_with fail
     all_goals first
      | (
        go_ret
        exact ⟨rfl,HB.out⟩)
      | (
        exfalso
        clear HB HO1 HD HSe c0 c1 c2 c3 c4 c5 c6 c7
        simp at *
        omega)
    have eN2:=of_decide_eq_true eN'
    clear eN'
    have f1:0≤nd:=by omega
    have f2:nd < id:=by omega
    have f3:ot=0:=by omega
    clear eN2
    subst f3
    generalize isSnB vl.data.toList=sn at HSe eV
    have hz:decide (12 < (vl.size:Int))=!decide (vl.size≤12):=by rw [Bool.eq_iff_iff];simp;omega
    generalize decide (vl.size≤12)=z at hz eV
    have eV2:rV=(z && sn):=eV.symm
    clear eV hE0
    cases rM
    ·go_enter Tryz.func87,Tryz.ntmps87
     go_wp2_with fail
     refine HC.out.mono ?_
     rintro e w1 ⟨rfl,hb⟩
     have HB:=κ30 (((Below.refl _ w).alloc (Nat.le_refl _) _).trans (hb.mono (by simp)))
     have hO:=HO.out.below hb
     have HO1:=κ30 hO
     clear HO HC hb
     obtain ⟨c0,c1,c2,c3,c4,c5,c6,c7⟩:=hO
     go_wp2_with fail
     refine (HD.out _).mono ?_
     rintro e w2 ⟨rfl,hb⟩
     obtain ⟨c0,c1,c2,c3,c4,c5,c6,c7⟩:=HO1.out.below hb
     have HB:=κ30 (HB.out.trans (hb.mono HB.out.size))
     clear hb
     go_wp2_with fail
     refine (HNa.out _).mono ?_
     rintro e w4 ⟨rfl,rfl⟩
     go_wp2_with fail
     go_ret
     exact ⟨rfl,HB.out⟩
    subst eV2
    cases z
    ·go_enter Tryz.func87,Tryz.ntmps87
     go_wp2_with fail
     refine HC.out.mono ?_
     rintro e w1 ⟨rfl,hb⟩
     have HB:=κ30 (((Below.refl _ w).alloc (Nat.le_refl _) _).trans (hb.mono (by simp)))
     have hO:=HO.out.below hb
     have HO1:=κ30 hO
     clear HO HC hb
     obtain ⟨c0,c1,c2,c3,c4,c5,c6,c7⟩:=hO
     go_wp2_with fail
     refine (HD.out _).mono ?_
     rintro e w2 ⟨rfl,hb⟩
     obtain ⟨c0,c1,c2,c3,c4,c5,c6,c7⟩:=HO1.out.below hb
     have HB:=κ30 (HB.out.trans (hb.mono HB.out.size))
     clear hb
     go_wp2_with fail
     refine (HNa.out _).mono ?_
     rintro e w4 ⟨rfl,rfl⟩
     go_wp2_with fail
     refine (HSe.out _).mono ?_
     rintro e w5 ⟨rfl,rfl⟩
     go_wp2_with fail
     go_ret
     exact ⟨rfl,HB.out⟩
    cases sn
    ·go_enter Tryz.func87,Tryz.ntmps87
     go_wp2_with fail
     refine HC.out.mono ?_
     rintro e w1 ⟨rfl,hb⟩
     have HB:=κ30 (((Below.refl _ w).alloc (Nat.le_refl _) _).trans (hb.mono (by simp)))
     have hO:=HO.out.below hb
     have HO1:=κ30 hO
     clear HO HC hb
     obtain ⟨c0,c1,c2,c3,c4,c5,c6,c7⟩:=hO
     go_wp2_with fail
     refine (HD.out _).mono ?_
     rintro e w2 ⟨rfl,hb⟩
     obtain ⟨c0,c1,c2,c3,c4,c5,c6,c7⟩:=HO1.out.below hb
     have HB:=κ30 (HB.out.trans (hb.mono HB.out.size))
     clear hb
     go_wp2_with fail
     refine (HNa.out _).mono ?_
     rintro e w4 ⟨rfl,rfl⟩
     go_wp2_with fail
     refine (HSe.out _).mono ?_
     rintro e w5 ⟨rfl,rfl⟩
     go_wp2_with fail
     go_ret
     exact ⟨rfl,HB.out⟩
    ·go_enter Tryz.func87,Tryz.ntmps87
     go_wp2_with fail
     refine HC.out.mono ?_
     rintro e w1 ⟨rfl,hb⟩
     have HB:=κ30 (((Below.refl _ w).alloc (Nat.le_refl _) _).trans (hb.mono (by simp)))
     have hO:=HO.out.below hb
     have HO1:=κ30 hO
     clear HO HC hb
     obtain ⟨c0,c1,c2,c3,c4,c5,c6,c7⟩:=hO
     go_wp2_with fail
     refine (HD.out _).mono ?_
     rintro e w2 ⟨rfl,hb⟩
     obtain ⟨c0,c1,c2,c3,c4,c5,c6,c7⟩:=HO1.out.below hb
     have HB:=κ30 (HB.out.trans (hb.mono HB.out.size))
     clear hb
     go_wp2_with fail
     refine (HNa.out _).mono ?_
     rintro e w4 ⟨rfl,rfl⟩
     go_wp2_with fail
     refine (HSe.out _).mono ?_
     rintro e w5 ⟨rfl,rfl⟩
     go_wp2_with fail
     go_ret
     exact ⟨rfl,HB.out⟩
  ·have H:Hid (opErr o=5):=by
    unfold opErr
    rw [if_neg (fun h=>h.elim (fun h=>h h1) hn),if_pos hk]
    exact rfl
   rw [H.out]
   have k1:(o.k == 109)=false:=by simp;omega
   have k2:(o.k == 115)=false:=by simp;omega
   have k3:(o.k == 105)=false:=by simp;omega
   have k4:(o.k == 100)=false:=by simp;omega
   clear h1 H hn hk
   go_enter Tryz.func87,Tryz.ntmps87
   go_wp2_with fail
   refine HC.out.mono ?_
   rintro e w1 ⟨rfl,hb⟩
   have hO:=HO.out.below hb
   have HO1:=κ30 hO
   obtain ⟨c0,c1,c2,c3,c4,c5,c6,c7⟩:=hO
   have HB:=κ30 (((Below.refl _ _).alloc (Nat.le_refl _) _).trans (hb.mono (by simp)))
   clear hb
   go_wp2_with fail
   refine (HD.out _).mono ?_
   rintro e w2 ⟨rfl,hb⟩
   obtain ⟨c0,c1,c2,c3,c4,c5,c6,c7⟩:=HO1.out.below hb
   have HB:=κ30 (HB.out.trans (hb.mono HB.out.size))
   clear hb
   go_wp2_with fail
   go_ret
   exact ⟨rfl,HB.out⟩
 ·have H:Hid (opErr o=2):=by
   unfold opErr
   rw [if_pos (.inl h1)]
   exact rfl
  have HC:Hid (Calls Tryz.prog 142 #[stampV o.t o.b] (w.alloc (.cells o.cells 31)) fun e w'=>e=.returned (.int .i64 2)∧Below (w.alloc (.cells o.cells 31)).heap.size (w.alloc (.cells o.cells 31)) w'):=κ30 (stampError_bad _ _ _ h1)
  rw [H.out]
  clear h1 H
  go_enter Tryz.func87,Tryz.ntmps87
  go_wp2_with fail
  refine HC.out.mono ?_
  rintro e w1 ⟨rfl,hb⟩
  have HB:=κ30 (((Below.refl _ _).alloc (Nat.le_refl _) _).trans (hb.mono (by simp)))
  clear hb
  go_wp2_with fail
  go_ret
  exact ⟨rfl,HB.out⟩
end Go.Proofs.YtjekalilfhnpmaaGreatDoor
