/- What is wanted besides: idOf_ok isLess_any refName_any refSeen_any sortedOf_any stampError_bad stampError_ok. The document's marks: a mark laid in, set. -/
import Derived.Deep.CutBlock
import Derived.Deep.DeepCutAuto
import Derived.Test.YtjekalilfhnpmaaGreatDoorV03
import Derived.Test.YtjekalilfhnpmaaGreatDoorV05
import Derived.Test.YtjekalilfhnpmaaGreatDoorV06
import Derived.Test.YtjekalilfhnpmaaGreatDoorV07
import Derived.Test.YtjekalilfhnpmaaGreatDoorV08
import Derived.Test.YtjekalilfhnpmaaGreatDoorV10
import Derived.Test.YtjekalilfhnpmaaGreatDoorV19
import Derived.Test.YtjekalilfhnpmaaGreatDoorV20
import Derived.Test.YtjekalilfhnpmaaGreatDoorV28
namespace Go.Proofs.YtjekalilfhnpmaaGreatDoor
open Go Go.RowKit
set_option linter.unusedVariables false
set_option linter.unusedSimpArgs false
set_option maxHeartbeats 4000000
set_option maxRecDepth 100000
set_option maxHeartbeats 1000000
theorem isLess_any (t b t' b':Int) (w:World) :
  Calls Tryz.prog 89 #[stampV t b,stampV t' b'] w fun e w'=>e=.returned (.bool (decide (t < t'∨t=t'∧b < b')))∧Below w.heap.size w w':=by
 rcases Int.lt_trichotomy t t' with h1 | rfl | h1
 ·go_enter Tryz.func89,Tryz.ntmps89
  go_wp2
  go_ret
  exact ⟨by simp [h1],by go_grown⟩
 ·go_enter Tryz.func89,Tryz.ntmps89
  go_wp2
  go_ret
  exact ⟨by simp,by go_grown⟩
 ·have h2:¬ t < t':=by omega
  have h3:(t == t')=false:=by simp;omega
  go_enter Tryz.func89,Tryz.ntmps89
  go_wp2
  go_ret
  exact ⟨by simp [h2];omega,by go_grown⟩
set_option maxHeartbeats 4000000
instance (t b:Int):Decidable (StampOk t b):=by unfold StampOk;infer_instance
end Go.Proofs.YtjekalilfhnpmaaGreatDoor
namespace Go.Proofs.YtjekalilfhnpmaaGreatDoor
open Go Go.RowKit Go.Shelf Go.Lib Go.Sort
set_option linter.unusedVariables false
set_option linter.unusedSimpArgs false
set_option maxHeartbeats 4000000
set_option maxRecDepth 100000
theorem below_then {b:Nat} {w w' w'':World} (h:Below b w w') (h':Below w'.heap.size w' w'') (hb:b≤w'.heap.size):Below b w w'':=
 ⟨h'.os.trans h.os,h'.tape.trans h.tape,h'.output.trans h.output,Nat.le_trans h.size h'.size,fun k hk=>(h'.block k (by omega)).trans (h.block k hk)⟩
theorem laidIn_of {x:OpT} {O:List OpT} {k:Nat} (h:kOf opLt x O O.length=k):laidIn opLt O x=O.take k++x :: O.drop k:=by unfold laidIn;rw [h]
def LaidTo (L O:List OpT) (i:Nat):Prop:=O=(L.take i).foldl (laidIn opLt) []∧O.length=i
theorem LaidTo.start (L:List OpT):LaidTo L [] 0:=⟨by simp,rfl⟩
theorem LaidTo.step {L O:List OpT} {i:Nat} {x:OpT} (h:LaidTo L O i) (hx:L[i]?=some x):LaidTo L (laidIn opLt O x) (i+1):=by
 obtain ⟨hi,rfl⟩:=List.getElem?_eq_some_iff.1 hx
 refine ⟨?_,?_⟩
 ·rw [List.take_succ_eq_append_getElem hi,List.foldl_append,←h.1];rfl
 ·have:=(laidIn_perm (lt:=opLt) O L[i]).length_eq
  rw [this,List.length_cons,h.2]
theorem LaidTo.all {L O:List OpT} {i:Nat} (h:LaidTo L O i) (hi:i=L.length):O=sortOps L:=by rw [h.1,hi,List.take_length];rfl
def Four (b off:Nat) (g o2:Nat) (x y:OpT) (w:World):Prop:=w.cell? ⟨b,off,none⟩=some (.int .i64 x.t)∧w.cell? ⟨b,off+1,none⟩=some (.int .i64 x.b)∧w.cell? ⟨g,o2,none⟩=some (.int .i64 y.t)∧w.cell? ⟨g,o2+1,none⟩=some (.int .i64 y.b)
theorem Four.below {b off g o2:Nat} {x y:OpT} {w w':World} (hb:Below w.heap.size w w') (h:Four b off g o2 x y w):Four b off g o2 x y w':=by
 obtain ⟨h1,h2,h3,h4⟩:=h
 exact ⟨(hb.cell (World.block_lt_of_cell? w _ h1)).trans h1,(hb.cell (World.block_lt_of_cell? w _ h2)).trans h2,(hb.cell (World.block_lt_of_cell? w _ h3)).trans h3,(hb.cell (World.block_lt_of_cell? w _ h4)).trans h4⟩
theorem sortedOf_any (A:Option Addr) (n c:Nat) (L:List OpT) (w:World) (hs:SlV opE w (.slice A n c) L) (hn:L.length≤100000) :
  Calls Tryz.prog 81 #[.slice A n c] w fun e w'=>∃ v',e=.returned v'∧Rw opE 31 w.heap.size v' (sortOps L) w'∧Below w.heap.size w w':=by
 have hl:=hs.len
 rw [←hl] at hn
 have HN:=Lib.hid hl
 have HS:=Lib.hid hs
 clear hs hl
 go_enter Tryz.func81,Tryz.ntmps81
 go_wp2_with fail
 go_loopw [3,4] (fun v3 v4 wr=>∃ (i:Nat) (O:List OpT),i≤n∧v4=.int .i64 i∧Hid (LaidTo L O i)∧Hid (Rw opE 31 w.heap.size v3 O wr)∧Hid (Below w.heap.size w wr)) (fun _ v4 _=>n - (intOf v4).toNat)
 case atStart=>exact ⟨0,[],by omega,rfl,Lib.hid (LaidTo.start L),Lib.hid (Rw.nil _ _ _ _),Lib.hid (Below.refl _ _)⟩
 case round=>
  obtain ⟨i,O,hi,rfl,HO,HV,HB⟩:=hrel
  obtain ⟨wo,rfl⟩:∃ wo,wo=wr:=⟨_,rfl⟩
  rcases HV.out.form with ⟨rfl,hnil⟩ | ⟨g,c',rfl,hc,hcm,hbg,hgl⟩
  ·by_cases hlt:i < n
   ·obtain ⟨x,hx⟩:∃ x,L[i]?=some x:=⟨_,List.getElem?_eq_getElem (by have:=HN.out;omega)⟩
    obtain ⟨b,off,rfl,hbl,c0,c1,c2,c3,c4,c5,c6,c7⟩:=ops_at HS.out hx
    have HCx:Hid (∀ w',Below w.heap.size w w'→w'.cell? ⟨b,off+i*8,none⟩=some (.int .i64 x.t)∧w'.cell? ⟨b,off+i*8+1,none⟩=some (.int .i64 x.b)∧w'.cell? ⟨b,off+i*8+2,none⟩=some (.int .i64 x.n)∧w'.cell? ⟨b,off+i*8+3,none⟩=some (.int .u8 x.k)∧
      w'.cell? ⟨b,off+i*8+4,none⟩=some (.int .i64 x.nd)∧w'.cell? ⟨b,off+i*8+5,none⟩=some (.int .i64 x.ot)∧w'.cell? ⟨b,off+i*8+6,none⟩=some (.string x.nm)∧w'.cell? ⟨b,off+i*8+7,none⟩=some (.string x.vl)):=
     Lib.hid fun w' h=>⟨(h.cell hbl).trans c0,(h.cell hbl).trans c1,(h.cell hbl).trans c2,(h.cell hbl).trans c3,(h.cell hbl).trans c4,(h.cell hbl).trans c5,(h.cell hbl).trans c6,(h.cell hbl).trans c7⟩
    have HX:=Lib.hid hx
    clear hx c0 c1 c2 c3 c4 c5 c6 c7 hbl
    obtain ⟨m,hm⟩:∃ m,m=O.length:=⟨_,rfl⟩
    have hm0:m=0:=by rw [hm,hnil];rfl
    have HNil:=Lib.hid hnil
    have HM:=Lib.hid hm
    have hm5:m≤100000:=by omega
    clear hm hnil
    have i1:(0:Int)≤(i:Int):=by omega
    have i2:(i:Int) < (n:Int):=by omega
    have HK0:Hid (kOf opLt x O O.length=0):=Lib.hid (by rw [HNil.out];rfl)
    go_upto_block 2 with (fail)
    go_cut [5] (fun v5 wc=>∃ k:Nat,v5=.int .i64 k∧Hid (kOf opLt x O O.length=k)∧k≤m∧Hid (Below wo.heap.size wo wc))
    case first=>
     go_wp2_with fail
     go_loopw [5] (fun v5 wc=>v5=.int .i64 0∧Hid (Below wo.heap.size wo wc)) (fun v5 _=>(intOf v5).toNat)
     case atStart=>exact ⟨rfl,Lib.hid (Below.refl _ _)⟩
     case round=>
      obtain ⟨rfl,HBi⟩:=hrel
      go_wp2_with fail
      go_quiet (fail)
      rename_i nq
      have HB2:Hid (Below wo.heap.size wo (wr.drewN nq)):=Lib.hid (below_drawn HBi.out nq)
      go_wp2_with fail
      go_meet
      case rel=>exact ⟨0,rfl,HK0,by omega,HB2⟩
    case rest=>
     obtain ⟨k,rfl,HK,hk,HBi⟩:=hcut
     have hkO:k≤O.length:=by have:=HM.out;omega
     have hO5:O.length≤100000:=by have:=HM.out;omega
     obtain rfl:k=0:=by omega
     have HT1:Hid (SlV opE wc (.slice none 0 0) (O.take 0)):=Lib.hid (by rw [HNil.out];simp;exact SlV.nil)
     go_wp2_with (at_builtin;refine wpList_append_rows rfl _ _ 36 rfl opE wc.heap.size 31 (opV ⟨0,0,0,0,0,0,⟨#[]⟩,⟨#[]⟩⟩) 80 Tryz.underlying36 infoOp rfl (by decide) _ _ [] (O.take 0) rfl rfl (Rw.nil _ _ _ _) HT1.out ?za1 ?za2 ?za3 ?_)
     case za1=>unfold maxLen;rw [List.length_take];simp <;> omega
     case za2=>rw [List.length_take];simp <;> omega
     case za3=>exact Nat.le_refl _
     intro v1 w1 hr1 hg1
     have HB1:Hid (Below wc.heap.size wc w1):=Lib.hid ((Below.refl _ _).grown hg1 (Nat.le_refl _) (fun k hk=>by simp [Value.ownBlock] at hk))
     obtain ⟨c0,c1,c2,c3,c4,c5,c6,c7⟩:=HCx.out w1 (below_then (below_then HB.out HBi.out HB.out.size) HB1.out (by have:=HB.out.size;have:=HBi.out.size;omega))
     have HO1:Hid (SlV opE (w1.alloc (.cells x.cells 31)) (.slice (some ⟨w1.heap.size,0,none⟩) 1 1) [x]):=Lib.hid (SlV.one w1 x _ _ rfl)
     have HR1:=Lib.hid (hr1.below ((Below.refl _ _).alloc (Nat.le_refl _) (.cells x.cells 31)))
     have HV1:=Lib.hid hr1.lt
     clear hr1 hg1 HT1
     go_wp2_with (at_builtin;refine wpList_append_rows rfl _ _ 36 rfl opE wc.heap.size 31 (opV ⟨0,0,0,0,0,0,⟨#[]⟩,⟨#[]⟩⟩) 80 Tryz.underlying36 infoOp rfl (by decide) _ _ (O.take 0) [x] rfl rfl HR1.out HO1.out ?zb1 ?zb2 ?zb3 ?_)
     case zb1=>unfold maxLen;rw [List.length_take];simp <;> omega
     case zb2=>rw [List.length_take];simp <;> omega
     case zb3=>have:=HB1.out.size;simp;omega
     intro v2 w2 hr2 hg2
     have HB2:Hid (Below wc.heap.size wc w2):=Lib.hid ((HB1.out.alloc HB1.out.size _).grown hg2 (by have:=HB1.out.size;simp;omega) (fun k hk=>(HV1.out k hk).1))
     have HR2:=Lib.hid hr2
     have HV2:=Lib.hid hr2.lt
     clear hr2 hg2 HR1 HO1 HV1 HB1
     have HS2:Hid (SlV opE w2 (.slice none 0 0) (O.drop 0)):=Lib.hid (by rw [HNil.out];simp;exact SlV.nil)
     clear c0 c1 c2 c3 c4 c5 c6 c7
     go_wp2_with (at_builtin;refine wpList_append_rows rfl _ _ 36 rfl opE wc.heap.size 31 (opV ⟨0,0,0,0,0,0,⟨#[]⟩,⟨#[]⟩⟩) 80 Tryz.underlying36 infoOp rfl (by decide) _ _ (O.take 0++[x]) (O.drop 0) rfl rfl HR2.out HS2.out ?zxc1 ?zxc2 ?zxc3 ?_)
     case zxc1=>unfold maxLen;have:=HO.out.2;simp;omega
     case zxc2=>have:=HO.out.2;simp;omega
     case zxc3=>exact HB2.out.size
     intro v3 w3 hr3 hg3
     have HB3:Hid (Below w.heap.size w w3):=Lib.hid (below_then (below_then HB.out HBi.out HB.out.size) (HB2.out.grown hg3 HB2.out.size (fun k hk=>(HV2.out k hk).1)) (by have:=HB.out.size;have:=HBi.out.size;omega))
     have HR3:Hid (Rw opE 31 w.heap.size v3 (laidIn opLt O x) w3):=Lib.hid (by rw [laidIn_of HK.out];have:=hr3.lower (b:=w.heap.size) (by have:=HB.out.size;have:=HBi.out.size;omega);simpa using this)
     have HO3:=Lib.hid (HO.out.step HX.out)
     clear hr3 hg3 HR2 HS2 HV2 HB2
     go_wp2_with fail
     go_roundw
     case rel=>exact ⟨i+1,_,by omega,by go_num,HO3,HR3,HB3⟩
     case measure=>simp [intOf];omega
   ·have i2:¬ (i:Int) < (n:Int):=by omega
    go_wp2_with fail
    go_ret
    have:=HN.out
    have e:=HO.out.all (by omega)
    exact ⟨_,rfl,by rw [←e];exact HV.out,HB.out⟩
  ·by_cases hlt:i < n
   ·obtain ⟨x,hx⟩:∃ x,L[i]?=some x:=⟨_,List.getElem?_eq_getElem (by have:=HN.out;omega)⟩
    obtain ⟨b,off,rfl,hbl,c0,c1,c2,c3,c4,c5,c6,c7⟩:=ops_at HS.out hx
    have HCx:Hid (∀ w',Below w.heap.size w w'→w'.cell? ⟨b,off+i*8,none⟩=some (.int .i64 x.t)∧w'.cell? ⟨b,off+i*8+1,none⟩=some (.int .i64 x.b)∧w'.cell? ⟨b,off+i*8+2,none⟩=some (.int .i64 x.n)∧w'.cell? ⟨b,off+i*8+3,none⟩=some (.int .u8 x.k)∧
      w'.cell? ⟨b,off+i*8+4,none⟩=some (.int .i64 x.nd)∧w'.cell? ⟨b,off+i*8+5,none⟩=some (.int .i64 x.ot)∧w'.cell? ⟨b,off+i*8+6,none⟩=some (.string x.nm)∧w'.cell? ⟨b,off+i*8+7,none⟩=some (.string x.vl)):=
     Lib.hid fun w' h=>⟨(h.cell hbl).trans c0,(h.cell hbl).trans c1,(h.cell hbl).trans c2,(h.cell hbl).trans c3,(h.cell hbl).trans c4,(h.cell hbl).trans c5,(h.cell hbl).trans c6,(h.cell hbl).trans c7⟩
    have HX:=Lib.hid hx
    clear hx c0 c1 c2 c3 c4 c5 c6 c7 hbl
    obtain ⟨m,hm⟩:∃ m,m=O.length:=⟨_,rfl⟩
    rw [←hm] at hc HV ⊢
    have HM:=Lib.hid hm
    have hm5:m≤100000:=by have:=HO.out.2;omega
    clear hm
    have i1:(0:Int)≤(i:Int):=by omega
    have i2:(i:Int) < (n:Int):=by omega
    go_upto_block 2 with (fail)
    go_cut [5] (fun v5 wc=>∃ k:Nat,v5=.int .i64 k∧Hid (kOf opLt x O O.length=k)∧k≤m∧Hid (Below wo.heap.size wo wc))
    case first=>
     go_wp2_with fail
     go_loopw [5] (fun v5 wc=>∃ k:Nat,v5=.int .i64 k∧Hid (kOf opLt x O O.length=kOf opLt x O k)∧k≤m∧Hid (Below wo.heap.size wo wc)) (fun v5 _=>(intOf v5).toNat)
     case atStart=>exact ⟨m,rfl,Lib.hid (by rw [HM.out]),Nat.le_refl _,Lib.hid (Below.refl _ _)⟩
     case round=>
      obtain ⟨k,rfl,HK,hk,HBi⟩:=hrel
      by_cases hk0:k=0
      ·subst hk0
       go_wp2_with fail
       go_quiet (fail)
       rename_i nq
       have HB2:Hid (Below wo.heap.size wo (wr.drewN nq)):=Lib.hid (below_drawn HBi.out nq)
       go_wp2_with fail
       go_meet
       case rel=>exact ⟨0,rfl,HK,by omega,HB2⟩
      ·obtain ⟨kp,rfl⟩:∃ kp,k=kp+1:=⟨k - 1,by omega⟩
       obtain ⟨y,hy⟩:∃ y,O[kp]?=some y:=⟨_,List.getElem?_eq_getElem (by have:=HM.out;omega)⟩
       have f0:=HCx.out wr (below_then HB.out HBi.out HB.out.size)
       have HF:Hid (Four b (off+i*8) g (kp*8) x y wr.drew):=Lib.hid (by
        have r:=HV.out.below HBi.out
        exact ⟨f0.1,f0.2.1,by have:=r.at' rfl hy (j:=0) (u:=.int .i64 y.t) rfl;exact this,by have:=r.at' rfl hy (j:=1) (u:=.int .i64 y.b) rfl;exact this⟩)
       have HKs:=Lib.hid (kOf_succ (x:=x) hy)
       obtain ⟨lt,hlt2⟩:∃ lt,lt=opLt x y:=⟨_,rfl⟩
       have HL:Hid (∀ w,Calls Tryz.prog 89 #[stampV x.t x.b,stampV y.t y.b] w fun e w'=>e=.returned (.bool lt)∧Below w.heap.size w w'):=Lib.hid fun w=>by rw [hlt2];exact isLess_any _ _ _ _ w
       have HLT:=Lib.hid hlt2
       have HBd:Hid (Below wo.heap.size wo wr.drew):=Lib.hid (below_then HBi.out (Below.refl _ _).drew HBi.out.size)
       have k1:(0:Int) < (kp:Int)+1:=by omega
       have j0:(0:Int)≤(kp:Int):=by omega
       have j1:(kp:Int) < (m:Int):=by omega
       have hwp:IntKind.i64.wrap (kp:Int)=(kp:Int):=by rw [IntKind.wrap_i64];omega
       clear f0 hy hlt2 HBi hk0
       cases lt with
       | true=>
        go_wp2_with fail
        go_region_held3 (fun w'=>w'.cell? ⟨b,off+i*8,none⟩=some (.int .i64 x.t)∧w'.cell? ⟨b,off+i*8+1,none⟩=some (.int .i64 x.b)∧w'.cell? ⟨g,kp*8,none⟩=some (.int .i64 y.t)∧w'.cell? ⟨g,kp*8+1,none⟩=some (.int .i64 y.b)) ((first | exact HF.out | exact Four.below (by assumption) (by assumption)))
         ((go_at_call 89;refine (HL.out _).mono ?_;rintro e wA ⟨rfl,hbA⟩))
        have HB2:Hid (Below wo.heap.size wo wA):=Lib.hid (below_then HBd.out hbA HBd.out.size)
        clear hbA
        go_wp2_with fail
        go_roundw
        case rel=>exact ⟨kp,by first | rfl | go_num,Lib.hid (by rw [HK.out,HKs.out,←HLT.out];first | done | rfl),by omega,HB2⟩
        case measure=>simp [intOf] <;> omega
       | false=>
        go_wp2_with fail
        go_region_held3 (fun w'=>w'.cell? ⟨b,off+i*8,none⟩=some (.int .i64 x.t)∧w'.cell? ⟨b,off+i*8+1,none⟩=some (.int .i64 x.b)∧w'.cell? ⟨g,kp*8,none⟩=some (.int .i64 y.t)∧w'.cell? ⟨g,kp*8+1,none⟩=some (.int .i64 y.b)) ((first | exact HF.out | exact Four.below (by assumption) (by assumption)))
         ((go_at_call 89;refine (HL.out _).mono ?_;rintro e wA ⟨rfl,hbA⟩))
        have HB2:Hid (Below wo.heap.size wo wA):=Lib.hid (below_then HBd.out hbA HBd.out.size)
        clear hbA
        go_wp2_with fail
        go_meet
        case rel=>exact ⟨kp+1,by go_num,Lib.hid (by rw [HK.out,HKs.out,←HLT.out];first | done | rfl),by omega,HB2⟩
    case rest=>
     have HSv:=Lib.hid HV.out.sl
     obtain ⟨k,rfl,HK,hk,HBi⟩:=hcut
     have hkO:k≤O.length:=by have:=HM.out;omega
     have hO5:O.length≤100000:=by have:=HM.out;omega
     have hk2:(k:Int)≤(c':Int):=by omega
     have k0:(0:Int)≤(k:Int):=by omega
     have hkm:(k:Int)≤(m:Int):=by omega
     have HT1:Hid (SlV opE wc (.slice (some ⟨g,0,none⟩) k c') (O.take k)):=Lib.hid ((HSv.out.below HBi.out).take hk c' (by omega))
     go_wp2_with (at_builtin;refine wpList_append_rows rfl _ _ 36 rfl opE wc.heap.size 31 (opV ⟨0,0,0,0,0,0,⟨#[]⟩,⟨#[]⟩⟩) 80 Tryz.underlying36 infoOp rfl (by decide) _ _ [] (O.take k) rfl rfl (Rw.nil _ _ _ _) HT1.out ?qa1 ?qa2 ?qa3 ?_)
     case qa1=>unfold maxLen;rw [List.length_take];simp;omega
     case qa2=>rw [List.length_take];simp;omega
     case qa3=>exact Nat.le_refl _
     intro v1 w1 hr1 hg1
     have HB1:Hid (Below wc.heap.size wc w1):=Lib.hid ((Below.refl _ _).grown hg1 (Nat.le_refl _) (fun k hk=>by simp [Value.ownBlock] at hk))
     obtain ⟨c0,c1,c2,c3,c4,c5,c6,c7⟩:=HCx.out w1 (below_then (below_then HB.out HBi.out HB.out.size) HB1.out (by have:=HB.out.size;have:=HBi.out.size;omega))
     have HO1:Hid (SlV opE (w1.alloc (.cells x.cells 31)) (.slice (some ⟨w1.heap.size,0,none⟩) 1 1) [x]):=Lib.hid (SlV.one w1 x _ _ rfl)
     have HR1:=Lib.hid (hr1.below ((Below.refl _ _).alloc (Nat.le_refl _) (.cells x.cells 31)))
     have HV1:=Lib.hid hr1.lt
     clear hr1 hg1 HT1
     go_wp2_with (at_builtin;refine wpList_append_rows rfl _ _ 36 rfl opE wc.heap.size 31 (opV ⟨0,0,0,0,0,0,⟨#[]⟩,⟨#[]⟩⟩) 80 Tryz.underlying36 infoOp rfl (by decide) _ _ (O.take k) [x] rfl rfl HR1.out HO1.out ?qb1 ?qb2 ?qb3 ?_)
     case qb1=>unfold maxLen;rw [List.length_take];simp;omega
     case qb2=>rw [List.length_take];simp;omega
     case qb3=>have:=HB1.out.size;simp;omega
     intro v2 w2 hr2 hg2
     have HB2:Hid (Below wc.heap.size wc w2):=Lib.hid ((HB1.out.alloc HB1.out.size _).grown hg2 (by have:=HB1.out.size;simp;omega) (fun k hk=>(HV1.out k hk).1))
     have HR2:=Lib.hid hr2
     have HV2:=Lib.hid hr2.lt
     clear hr2 hg2 HR1 HO1 HV1 HB1
     by_cases hac:k=c'
     ·obtain rfl:k=m:=by omega
      obtain rfl:k=c':=by omega
      have HS2:Hid (SlV opE w2 (.slice (some ⟨g,0,none⟩) 0 0) (O.drop k)):=Lib.hid (by rw [List.drop_eq_nil_of_le (by have:=HM.out;omega)];exact SlV.empty _ _)
      clear c0 c1 c2 c3 c4 c5 c6 c7
      go_wp2_with (at_builtin;refine wpList_append_rows rfl _ _ 36 rfl opE wc.heap.size 31 (opV ⟨0,0,0,0,0,0,⟨#[]⟩,⟨#[]⟩⟩) 80 Tryz.underlying36 infoOp rfl (by decide) _ _ (O.take k++[x]) (O.drop k) rfl rfl HR2.out HS2.out ?qxc1 ?qxc2 ?qxc3 ?_)
      case qxc1=>unfold maxLen;have:=HO.out.2;simp;omega
      case qxc2=>have:=HO.out.2;simp;omega
      case qxc3=>exact HB2.out.size
      intro v3 w3 hr3 hg3
      have HB3:Hid (Below w.heap.size w w3):=Lib.hid (below_then (below_then HB.out HBi.out HB.out.size) (HB2.out.grown hg3 HB2.out.size (fun k hk=>(HV2.out k hk).1)) (by have:=HB.out.size;have:=HBi.out.size;omega))
      have HR3:Hid (Rw opE 31 w.heap.size v3 (laidIn opLt O x) w3):=Lib.hid (by rw [laidIn_of HK.out];have:=hr3.lower (b:=w.heap.size) (by have:=HB.out.size;have:=HBi.out.size;omega);simpa using this)
      have HO3:=Lib.hid (HO.out.step HX.out)
      clear hr3 hg3 HR2 HS2 HV2 HB2
      go_wp2_with fail
      go_roundw
      case rel=>exact ⟨i+1,_,by omega,by go_num,HO3,HR3,HB3⟩
      case measure=>simp [intOf];omega
     ·have hac2:k < c':=by omega
      have HS2:Hid (SlV opE w2 (.slice (some ⟨g,k*8,none⟩) (m - k) (c' - k)) (O.drop k)):=Lib.hid (by have h3:=((HSv.out.below HBi.out).drop (m:=k) (by omega) (c' - k) (by omega)).below HB2.out;rw [Nat.zero_add] at h3;exact h3)
      clear c0 c1 c2 c3 c4 c5 c6 c7
      go_wp2_with (at_builtin;refine wpList_append_rows rfl _ _ 36 rfl opE wc.heap.size 31 (opV ⟨0,0,0,0,0,0,⟨#[]⟩,⟨#[]⟩⟩) 80 Tryz.underlying36 infoOp rfl (by decide) _ _ (O.take k++[x]) (O.drop k) rfl rfl HR2.out HS2.out ?qyc1 ?qyc2 ?qyc3 ?_)
      case qyc1=>unfold maxLen;have:=HO.out.2;simp;omega
      case qyc2=>have:=HO.out.2;simp;omega
      case qyc3=>exact HB2.out.size
      intro v3 w3 hr3 hg3
      have HB3:Hid (Below w.heap.size w w3):=Lib.hid (below_then (below_then HB.out HBi.out HB.out.size) (HB2.out.grown hg3 HB2.out.size (fun k hk=>(HV2.out k hk).1)) (by have:=HB.out.size;have:=HBi.out.size;omega))
      have HR3:Hid (Rw opE 31 w.heap.size v3 (laidIn opLt O x) w3):=Lib.hid (by rw [laidIn_of HK.out];have:=hr3.lower (b:=w.heap.size) (by have:=HB.out.size;have:=HBi.out.size;omega);simpa using this)
      have HO3:=Lib.hid (HO.out.step HX.out)
      clear hr3 hg3 HR2 HS2 HV2 HB2
      go_wp2_with fail
      go_roundw
      case rel=>exact ⟨i+1,_,by omega,by go_num,HO3,HR3,HB3⟩
      case measure=>simp [intOf];omega
   ·have i2:¬ (i:Int) < (n:Int):=by omega
    go_wp2_with fail
    go_ret
    have:=HN.out
    have e:=HO.out.all (by omega)
    exact ⟨_,rfl,by rw [←e];exact HV.out,HB.out⟩
end Go.Proofs.YtjekalilfhnpmaaGreatDoor
namespace Go.Proofs.YtjekalilfhnpmaaGreatDoor
open Go Go.RowKit Go.Maps
set_option linter.unusedVariables false
set_option linter.unusedSimpArgs false
set_option maxHeartbeats 4000000
set_option maxRecDepth 100000
abbrev MkC (B off:Nat) (x:DMk) (w:World):Prop:=w.cell? ⟨B,off,none⟩=some (.int .i64 x.nd)∧w.cell? ⟨B,off+1,none⟩=some (.string x.nm)∧w.cell? ⟨B,off+2,none⟩=some (.string x.vl)∧w.cell? ⟨B,off+3,none⟩=some (.int .i64 x.t)∧w.cell? ⟨B,off+4,none⟩=some (.int .i64 x.b)
theorem MkC.below {B off:Nat} {x:DMk} {w w':World} (h:MkC B off x w) (hb:Below w.heap.size w w'):MkC B off x w':=⟨cell_keep hb h.1,cell_keep hb h.2.1,cell_keep hb h.2.2.1,cell_keep hb h.2.2.2.1,cell_keep hb h.2.2.2.2⟩
theorem Rw.mk {base:Nat} {v:Value} {g n c:Nat} {L:List DMk} {w:World} (h:Rw dmkE 180 base v L w) (hv:v=.slice (some ⟨g,0,none⟩) n c) {i:Nat} {x:DMk} (hx:L[i]?=some x):MkC g (i*5) x w:=
 ⟨h.at' hv hx (j:=0) rfl,h.at' hv hx (j:=1) rfl,h.at' hv hx (j:=2) rfl,h.at' hv hx (j:=3) rfl,h.at' hv hx (j:=4) rfl⟩
theorem row_set1 {T:Type} {E:Enc T} {L:List T} {k i:Nat} {y z:T} {u:Value} (hy:L[k]?=some y) (hi:i < E.k) (hz:E.cells z=(E.cells y).set i u):E.row (L.set k z)=(E.row L).set (k*E.k+i) u:=by
 induction L generalizing k with
 | nil=>simp at hy
 | cons a r ih=>
  cases k with
  | zero=>
   simp at hy
   subst hy
   rw [List.set_cons_zero,Enc.row_cons,Enc.row_cons,hz,Nat.zero_mul,Nat.zero_add,List.set_append_left _ _ (by rw [E.len];exact hi)]
  | succ k=>
   rw [List.set_cons_succ,Enc.row_cons,Enc.row_cons,ih (by simpa using hy),List.set_append_right _ _ (by rw [E.len,Nat.add_mul];omega),E.len,show (k+1)*E.k+i - E.k=k*E.k+i by rw [Nat.add_mul];omega]
end Go.Proofs.YtjekalilfhnpmaaGreatDoor
