/- The document's places of moves: the walk of PlacesOf. -/
import Derived.BigQuiet
import Derived.Deep.CutBlock
import Derived.Test.YtjekalilfhnpmaaGreatDoorQ16
import Derived.Test.YtjekalilfhnpmaaGreatDoorQ17
import Derived.Test.YtjekalilfhnpmaaGreatDoorQ18
import Derived.Test.YtjekalilfhnpmaaGreatDoorQ30
theorem Go.Proofs.YtjekalilfhnpmaaGreatDoor.κ38 {p:Prop} (h:p):Go.RowKit.Hid p:=Go.Lib.hid h
namespace Go.Proofs.YtjekalilfhnpmaaGreatDoor
open Go Go.RowKit Go.Maps Tree
set_option linter.unusedVariables false
set_option linter.unusedSimpArgs false
set_option maxHeartbeats 4000000
set_option maxRecDepth 100000
def movesOf (L:List OpT):List OpT:=L.filter fun o=>o.k == 109
theorem movesOf_succ {S:List OpT} {i:Nat} {x:OpT} (h:S[i]?=some x):movesOf (S.take (i+1))=if x.k=109 then movesOf (S.take i)++[x] else movesOf (S.take i):=by
 obtain ⟨hi,he⟩:=List.getElem?_eq_some_iff.1 h
 unfold movesOf
 rw [←List.take_append_getElem hi,he,List.filter_append]
 by_cases hk:x.k=109
 ·simp [hk]
 ·simp [hk]
theorem run_skip {S:List OpT} {i:Nat} {x:OpT} (h:S[i]?=some x) (hk:x.k≠109∨goes (runO p00 (movesOf (S.take i))) (mvO x)=false):runO p00 (movesOf (S.take (i+1)))=runO p00 (movesOf (S.take i)):=by
 rw [movesOf_succ h]
 by_cases hx:x.k=109
 ·rw [if_pos hx,runO_snoc,move_not (hk.resolve_left (fun h=>h hx))]
 ·rw [if_neg hx]
theorem run_put {S:List OpT} {i:Nat} {x:OpT} (h:S[i]?=some x) (hk:x.k=109) (hg:goes (runO p00 (movesOf (S.take i))) (mvO x)=true):runO p00 (movesOf (S.take (i+1)))=put (runO p00 (movesOf (S.take i))) x.nd (some (x.ot,x.nm)):=by
 rw [movesOf_succ h,if_pos hk,runO_snoc]
 unfold Tree.move
 rw [if_pos hg]
 rfl
theorem row_set3 {T:Type} {E:Enc T} {L:List T} {k i:Nat} {y z:T} {u:Value} (hy:L[k]?=some y) (hi:i < E.k) (hz:E.cells z=(E.cells y).set i u):E.row (L.set k z)=(E.row L).set (k*E.k+i) u:=by
 induction L generalizing k with
 | nil=>simp at hy
 | cons a r ih=>
  cases k with
  | zero=>
   simp at hy
   subst hy
   rw [List.set_cons_zero,Enc.row_cons,Enc.row_cons,hz,Nat.zero_mul,Nat.zero_add,List.set_append_left _ _ (by rw [E.len];exact hi)]
  | succ k=>
   rw [List.set_cons_succ,Enc.row_cons,Enc.row_cons,ih (by simpa using hy),List.set_append_right _ _ (by rw [E.len,Nat.add_mul];omega),E.len,show (k+1)*E.k+i - E.k=k*E.k+i by rw [Nat.add_mul];omega]
theorem plset_end {base g n c k:Nat} {Q:List PlT} {z y:PlT} {w:World} (h:Rw plE 69 base (.slice (some ⟨g,0,none⟩) n c) Q w) (hy:Q[k]?=some y) :
  Rw plE 69 base (.slice (some ⟨g,0,none⟩) n c) (Q.set k z) (((w.setCell ⟨g,k*3,none⟩ (.int .i64 z.nd)).setCell ⟨g,k*3+1,none⟩ (.int .i64 z.into)).setCell ⟨g,k*3+2,none⟩ (.string z.nm))∧
  Fr (·=g) w (((w.setCell ⟨g,k*3,none⟩ (.int .i64 z.nd)).setCell ⟨g,k*3+1,none⟩ (.int .i64 z.into)).setCell ⟨g,k*3+2,none⟩ (.string z.nm)):=by
 have hkl:=(List.getElem?_eq_some_iff.1 hy).1
 have hl:∀ z:PlT,(Q.set k z).length=Q.length:=fun z=>List.length_set
 have hg:∀ z:PlT,(Q.set k z)[k]?=some z:=fun z=>by rw [List.getElem?_set_self hkl]
 obtain ⟨r1,g1⟩:=h.stored (L':=Q.set k ⟨z.nd,y.into,y.nm⟩) (k*3) (.int .i64 z.nd) (hl _) (row_set3 (i:=0) (E:=plE) hy (by decide) rfl)
 obtain ⟨r2,g2⟩:=r1.stored (L':=Q.set k ⟨z.nd,z.into,y.nm⟩) (k*3+1) (.int .i64 z.into) (by rw [hl,hl]) (by rw [←List.set_set (l:=Q) (a:=⟨z.nd,y.into,y.nm⟩)];exact row_set3 (i:=1) (E:=plE) (hg _) (by decide) rfl)
 obtain ⟨r3,g3⟩:=r2.stored (L':=Q.set k z) (k*3+2) (.string z.nm) (by rw [hl,hl]) (by rw [←List.set_set (l:=Q) (a:=⟨z.nd,z.into,y.nm⟩)];exact row_set3 (i:=2) (E:=plE) (hg _) (by decide) rfl)
 exact ⟨r3,((fr_of_grown (X:=(·=g)) g1 rfl).trans (fr_of_grown (X:=(·=g)) g2 rfl)).trans (fr_of_grown (X:=(·=g)) g3 rfl)⟩
open Classical in
theorem placesOf_any (A:Option Addr) (m c:Nat) (L:List OpT) (w:World) (hs:SlV opE w (.slice A m c) L) (hn:L.length≤1000) :
  Calls Tryz.prog 27 #[.slice A m c] w (PlEnds 69 (runO p00 (movesOf (sortOps L))) L.length w):=by
 have HSo:=κ38 (sortedOf_any A m c L w hs (by omega))
 have hSl:(sortOps L).length=L.length:=sortL_len swo_opLt L
 obtain ⟨S,hS⟩:∃ S,S=sortOps L:=⟨_,rfl⟩
 rw [←hS] at hSl HSo ⊢
 have HL:=κ38 hSl
 rw [←hSl] at hn
 clear hs hS hSl
 go_enter Tryz.func27,Tryz.ntmps27
 go_wp2_with fail
 refine HSo.out.mono ?_
 rintro e w1 ⟨v1,rfl,hr1,hb1⟩
 obtain ⟨A1,n,c1,rfl⟩:=hr1.slice
 have HN:Hid (n=S.length):=κ38 hr1.sl.len
 have HS:=κ38 hr1.sl
 have HB0:=κ38 hb1
 have hn1:n≤1000:=by have:=HN.out;omega
 clear hr1 hb1 HSo
 go_wp2_with fail
 go_loopw [3,5] (fun v3 v5 wr=>∃ (i:Nat) (Q:List PlT),i≤n∧v5=.int .i64 i∧Hid (Rw plE 69 w1.heap.size v3 Q wr)∧Hid (RepP Q (runO p00 (movesOf (S.take i))))∧Q.length≤i∧Hid (Below w1.heap.size w1 wr)) (fun _ v5 _=>n - (intOf v5).toNat)
 case atStart=>exact ⟨0,[],by omega,rfl,κ38 (Rw.nil _ _ _ _),κ38 (by simpa [movesOf,runO,replay] using RepP.nil),by simp,κ38 (Below.refl _ _)⟩
 case round=>
  obtain ⟨i,Q,hi,rfl,HR,HP,hQi,HB⟩:=hrel
  by_cases hlt:i < n
  ·obtain ⟨x,hx⟩:∃ x,S[i]?=some x:=⟨_,List.getElem?_eq_getElem (by have:=HN.out;omega)⟩
   have HSr:Hid (SlV opE wr (.slice A1 n c1) S):=κ38 (HS.out.below HB.out)
   obtain ⟨b,off,rfl,hbl,c0,c1',c2',c3,c4,c5,c6,c7⟩:=ops_at HSr.out hx
   have HX:=κ38 hx
   have i1:(0:Int)≤(i:Int):=by omega
   have i2:(i:Int) < (n:Int):=by omega
   obtain ⟨A2,n2,c2,rfl⟩:=HR.out.slice
   have hn2:n2=Q.length:=HR.out.sl.len
   have HN2:=κ38 hn2
   have HBox:∀ o',Hid (Rw plE 69 w1.heap.size (.slice A2 n2 c2) Q (wr.alloc o')∧Below w1.heap.size w1 (wr.alloc o')):=fun o'=>κ38 ⟨HR.out.below ((Below.refl _ _).alloc (Nat.le_refl _) _),HB.out.alloc HB.out.size _⟩
   clear hx hbl hn2 HSr
   by_cases hk:x.k=109
   ·have hkb:(x.k != 109)=false:=by simp [hk]
    have HK:=κ38 hk
    clear hk
    by_cases he:x.nd=x.ot
    ·have hb:(x.nd == x.ot)=true:=by simp [he]
     have HP2:=κ38 (show RepP Q (runO p00 (movesOf (S.take (i+1)))) by rw [run_skip HX.out (.inr (by simp [goes,mvO,he]))];exact HP.out)
     clear he
     go_wp2_with fail
     go_roundw
     case rel=>exact ⟨i+1,Q,by omega,by go_num,κ38 (HBox _).out.1,HP2,by omega,κ38 (HBox _).out.2⟩
     case measure=>simp [intOf] <;> omega
    ·have hb:(x.nd == x.ot)=false:=by simp [he]
     obtain ⟨R,hR⟩:∃ R,R=decide (Ins (runO p00 (movesOf (S.take i))) x.ot x.nd):=⟨_,rfl⟩
     have HG:Hid (goes (runO p00 (movesOf (S.take i))) (mvO x)=!R):=κ38 (by rw [hR];simp [goes,mvO,he])
     obtain ⟨W1,hW1⟩:∃ W1,W1=wr.alloc (.cells x.cells 31):=⟨_,rfl⟩
     have HR1:Hid (Rw plE 69 w1.heap.size (.slice A2 n2 c2) Q W1):=κ38 (by rw [hW1];exact (HBox _).out.1)
     have HB1:Hid (Below w1.heap.size w1 W1):=κ38 (by rw [hW1];exact (HBox _).out.2)
     have hO:OpAt W1 wr.heap.size x:=by rw [hW1];exact OpAt.start wr x _
     have HI:=κ38 (isInside_any A2 n2 c2 x.ot x.nd Q _ W1 HR1.out.sl (by have:=HN2.out;omega) HP.out (Acyc.replay Acyc.empty _))
     rw [←hR] at HI
     clear he hR HBox
     go_upto_region 8 with fail
     rw [←hW1]
     have q3:=hO.c4
     have q4:=hO.c5
     have q5:=hO.c6
     have HO:=κ38 hO
     clear c0 c1' c2' c3 c4 c5 c6 c7 hW1 hO hkb hb
     go_wp2_with fail
     refine HI.out.mono ?_
     rintro e w' ⟨rfl,rfl⟩
     cases R with
     | true=>
      have HP2:=κ38 (show RepP Q (runO p00 (movesOf (S.take (i+1)))) by rw [run_skip HX.out (.inr HG.out)];exact HP.out)
      go_wp2_with fail
      go_roundw
      case rel=>exact ⟨i+1,Q,by omega,by go_num,HR1,HP2,by omega,HB1⟩
      case measure=>simp [intOf] <;> omega
     | false=>
      obtain ⟨W2,hW2⟩:∃ W2,W2=w'.alloc (.cells #[.int .i64 x.nd,.int .i64 x.ot,.string x.nm] 69):=⟨_,rfl⟩
      have hb2:Below w'.heap.size w' W2:=by rw [hW2];exact (Below.refl _ _).alloc (Nat.le_refl _) _
      have hz:W2.cell? ⟨w'.heap.size,0,none⟩=some (.int .i64 x.nd)∧W2.cell? ⟨w'.heap.size,1,none⟩=some (.int .i64 x.ot)∧W2.cell? ⟨w'.heap.size,2,none⟩=some (.string x.nm):=by rw [hW2];exact ⟨by simp [go_sem],by simp [go_sem],by simp [go_sem]⟩
      have HR2:=κ38 (HR1.out.below hb2)
      have HB2:Hid (Below w1.heap.size w1 W2):=κ38 (below_then HB1.out hb2 HB1.out.size)
      have HO2:=κ38 (HO.out.below hb2)
      have HC2:=κ38 (placeOf_any A2 n2 c2 x.nd Q W2 HR2.out.sl (by have:=HN2.out;omega))
      have hzl:w'.heap.size < W2.heap.size:=by rw [hW2];simp
      have HZ:=κ38 hz
      have HG2:Hid (goes (runO p00 (movesOf (S.take i))) (mvO x)=true):=κ38 (by rw [HG.out];rfl)
      have HRun:=κ38 (run_put HX.out HK.out HG2.out)
      obtain ⟨PB,hPB⟩:∃ PB,PB=w'.heap.size:=⟨_,rfl⟩
      clear hb2 hz HI HO HG HG2
      go_upto_region 10 with fail
      rw [←hW2]
      rw [←hPB] at HZ hzl ⊢
      have o4:=HO2.out.c4
      clear hW2 hPB q3 q4 q5 HR1 HB1 HR HB
      go_wp2_with fail
      refine HC2.out.mono ?_
      rintro e w3 ⟨r,rfl,hr,rfl⟩
      rcases hr with ⟨k,y,rfl,hy,hyx⟩ | ⟨rfl,hno⟩
      ·obtain ⟨g,rfl⟩:∃ g,A2=some ⟨g,0,none⟩:=by
        rcases HR2.out.form with ⟨_,e⟩ | ⟨g,c',e,_⟩
        ·rw [e] at hy;simp at hy
        ·cases e;exact ⟨g,rfl⟩
       have hk2:k < n2:=by have:=HN2.out;have:=(List.getElem?_eq_some_iff.1 hy).1;omega
       obtain ⟨b9,o9,e9,_,y0,y1,y2⟩:=pl_at HR2.out.sl hy
       cases e9
       rw [Nat.zero_add] at y0 y1 y2
       have f0:=HR2.out.fz (k*3)
       have f1:=HR2.out.fz (k*3+1)
       have f2:=HR2.out.fz (k*3+2)
       obtain ⟨z0,z1,z2⟩:=HZ.out
       have k1:(0:Int)≤(k:Int):=by omega
       have k2:(k:Int) < (n2:Int):=by omega
       have hEnd:=plset_end (z:=⟨x.nd,x.ot,x.nm⟩) HR2.out hy
       have hge:=(HR2.out.lt g rfl).1
       have HE1:=κ38 hEnd.1
       have HE2:=κ38 (HB2.out.trans (hEnd.2.below HB2.out.size (fun j hj=>by rw [hj];exact hge)))
       have HP2:Hid (RepP (Q.set k ⟨x.nd,x.ot,x.nm⟩) (runO p00 (movesOf (S.take (i+1))))):=κ38 (by rw [HRun.out];exact HP.out.set hy hyx)
       clear hy hyx hEnd hge hk2 o4
       go_wp2_with fail
       go_roundw
       case rel=>exact ⟨i+1,Q.set k ⟨x.nd,x.ot,x.nm⟩,by omega,by go_num,HE1,HP2,by rw [List.length_set];omega,HE2⟩
       case measure=>simp [intOf] <;> omega
      ·have HNo:=κ38 hno
       have hn25:n2≤1001:=by have:=HN2.out;omega
       clear hno
       go_upto_block 2 with (fail)
       go_cut [8] (fun v8 wc=>∃ k:Nat,v8=.int .i64 k∧k≤n2∧Hid ((∀ j y,j < k→Q[j]?=some y→y.nd < x.nd)∧∀ y,Q[k]?=some y→¬ y.nd < x.nd)∧Hid (Below w3.heap.size w3 wc))
       case first=>
        go_wp2_with fail
        go_loopw [8] (fun v8 wc=>∃ k:Nat,v8=.int .i64 k∧k≤n2∧Hid (∀ j y,j < k→Q[j]?=some y→y.nd < x.nd)∧Hid (Below w3.heap.size w3 wc)) (fun v8 _=>n2 - (intOf v8).toNat)
        case atStart=>exact ⟨0,rfl,by omega,κ38 (fun j y h=>by omega),κ38 (Below.refl _ _)⟩
        case round=>
         obtain ⟨k,rfl,hk,HA,HBi⟩:=hrel
         have HBq:∀ nq,Hid (Below w3.heap.size w3 (wr.drewN nq)):=fun nq=>κ38 (below_drawn HBi.out nq)
         by_cases hkn:k < n2
         ·obtain ⟨y,hy⟩:∃ y,Q[k]?=some y:=⟨_,List.getElem?_eq_getElem (by have:=HN2.out;omega)⟩
          obtain ⟨b9,o9,rfl,_,y0,y1,y2⟩:=pl_at (HR2.out.below HBi.out).sl hy
          have q4:=(HO2.out.below HBi.out).c4
          have HY:=κ38 hy
          have k1:(0:Int)≤(k:Int):=by omega
          have k2:(k:Int) < (n2:Int):=by omega
          clear hy y1 y2
          by_cases hl:y.nd < x.nd
          ·have HA2:Hid (∀ j z,j < k+1→Q[j]?=some z→z.nd < x.nd):=κ38 (fun j z h1 h2=>by
            by_cases hj:j=k
            ·subst hj;rw [HY.out] at h2;cases h2;exact hl
            ·exact HA.out j z (by omega) h2)
           go_wp2_with fail
           go_quiet (fail)
           rename_i nq
           have HB3:=HBq nq
           clear HBq y0 q4
           generalize wr.drewN nq=wq at HB3 ⊢
           go_wp2_with fail
           go_roundw
           case rel=>exact ⟨k+1,by go_num,by omega,HA2,HB3⟩
           case measure=>simp [intOf] <;> omega
          ·have HA2:Hid (∀ z,Q[k]?=some z→¬ z.nd < x.nd):=κ38 (fun z h2=>by rw [HY.out] at h2;cases h2;exact hl)
           go_wp2_with fail
           go_quiet (fail)
           rename_i nq
           have HB3:=HBq nq
           clear HBq y0 q4
           generalize wr.drewN nq=wq at HB3 ⊢
           go_wp2_with fail
           go_meet
           case rel=>exact ⟨k,rfl,hk,κ38 ⟨HA.out,HA2.out⟩,HB3⟩
         ·have k2:decide (k < n2)=false:=by simp;omega
          go_wp2_with fail
          go_quiet (fail)
          rename_i nq
          have HB3:=HBq nq
          clear HBq
          generalize wr.drewN nq=wq at HB3 ⊢
          go_wp2_with fail
          go_meet
          case rel=>exact ⟨k,rfl,hk,κ38 ⟨HA.out,fun y hy=>by have:=(List.getElem?_eq_some_iff.1 hy).1;have:=HN2.out;omega⟩,HB3⟩
       case rest=>
        obtain ⟨k,rfl,hk,HA,HBi⟩:=hcut
        have hkQ:k≤Q.length:=by have:=HN2.out;omega
        have hQ5:Q.length≤1001:=by omega
        have HP2:Hid (RepP (Q.take k++⟨x.nd,x.ot,x.nm⟩ :: Q.drop k) (runO p00 (movesOf (S.take (i+1))))):=κ38 (by rw [HRun.out];exact HP.out.ins hkQ HA.out.1 HA.out.2 HNo.out)
        have HRc:=κ38 (HR2.out.below HBi.out)
        have HBc:Hid (Below w1.heap.size w1 wc):=κ38 (below_then HB2.out HBi.out HB2.out.size)
        have HZc:∀ w',Below wc.heap.size wc w'→w'.cell? ⟨PB,0,none⟩=some (.int .i64 x.nd)∧w'.cell? ⟨PB,1,none⟩=some (.int .i64 x.ot)∧w'.cell? ⟨PB,2,none⟩=some (.string x.nm):=fun w' hb=>by
         have h1:=below_then HBi.out hb HBi.out.size
         exact ⟨cell_keep' h1 HZ.out.1,cell_keep' h1 HZ.out.2.1,cell_keep' h1 HZ.out.2.2⟩
        replace HZc:=κ38 HZc
        have HAf:=κ38 HRc.out.form
        clear HR2 HB2 HO2 HC2 HNo HA hzl o4
        rcases HAf.out with ⟨ev,e0'⟩ | ⟨g,cc,ev,_⟩
        ·cases ev
         have e0:=κ38 e0'
         clear e0'
         obtain rfl:k=0:=by omega
         have HT1:Hid (SlV plE wc (.slice none 0 0) (Q.take 0)):=κ38 (by rw [e0.out];exact SlV.nil)
         go_wp2_with (at_builtin;refine wpList_append_rows rfl _ _ 66 rfl plE wc.heap.size 69 (.agg #[.int .i64 0,.int .i64 0,.string ⟨#[]⟩]) 32 Tryz.underlying66 infoPlR rfl (by decide) _ _ ([]) (Q.take 0) rfl rfl (Rw.nil _ _ _ _) HT1.out ?an1 ?an2 ?an3 ?_)
         first | (case an1=>unfold maxLen;rw [List.length_take];simp <;> omega) | skip
         first | (case an2=>rw [List.length_take];simp <;> omega) | skip
         first | (case an3=>exact Nat.le_refl _) | skip
         intro v1 u1 hr1 hg1
         have HB1:Hid (Below wc.heap.size wc u1):=κ38 ((Below.refl _ _).grown hg1 (Nat.le_refl _) (fun k hk=>by simp [Value.ownBlock] at hk))
         obtain ⟨z0,z1,z2⟩:=HZc.out u1 HB1.out
         have HO1:Hid (SlV plE (u1.alloc (.cells #[.int .i64 x.nd,.int .i64 x.ot,.string x.nm] 69)) (.slice (some ⟨u1.heap.size,0,none⟩) 1 1) [(⟨x.nd,x.ot,x.nm⟩:PlT)]):=κ38 (SlV.one u1 (⟨x.nd,x.ot,x.nm⟩:PlT) 69 #[.int .i64 x.nd,.int .i64 x.ot,.string x.nm] rfl)
         have HR1:=κ38 (hr1.below ((Below.refl _ _).alloc (Nat.le_refl _) (.cells #[.int .i64 x.nd,.int .i64 x.ot,.string x.nm] 69)))
         have HV1:=κ38 hr1.lt
         clear hr1 hg1 HT1
         go_wp2_with (at_builtin;refine wpList_append_rows rfl _ _ 66 rfl plE wc.heap.size 69 (.agg #[.int .i64 0,.int .i64 0,.string ⟨#[]⟩]) 32 Tryz.underlying66 infoPlR rfl (by decide) _ _ (Q.take 0) ([(⟨x.nd,x.ot,x.nm⟩:PlT)]) rfl rfl HR1.out HO1.out ?bn1 ?bn2 ?bn3 ?_)
         first | (case bn1=>unfold maxLen;rw [List.length_take];simp <;> omega) | skip
         first | (case bn2=>rw [List.length_take];simp <;> omega) | skip
         first | (case bn3=>have:=HB1.out.size;simp;omega) | skip
         intro v2 u2 hr2 hg2
         have HB2:Hid (Below wc.heap.size wc u2):=κ38 ((HB1.out.alloc HB1.out.size _).grown hg2 (by have:=HB1.out.size;simp;omega) (fun k hk=>(HV1.out k hk).1))
         have HR2:=κ38 hr2
         have HV2:=κ38 hr2.lt
         clear hr2 hg2 HR1 HO1 HV1 HB1 z0 z1 z2
         have HS2:Hid (SlV plE u2 (.slice none 0 0) (Q.drop 0)):=κ38 (by rw [e0.out];exact SlV.nil)
         go_wp2_with (at_builtin;refine wpList_append_rows rfl _ _ 66 rfl plE wc.heap.size 69 (.agg #[.int .i64 0,.int .i64 0,.string ⟨#[]⟩]) 32 Tryz.underlying66 infoPlR rfl (by decide) _ _ (Q.take 0++[(⟨x.nd,x.ot,x.nm⟩:PlT)]) (Q.drop 0) rfl rfl HR2.out HS2.out ?cn1 ?cn2 ?cn3 ?_)
         first | (case cn1=>unfold maxLen;simp <;> omega) | skip
         first | (case cn2=>simp <;> omega) | skip
         first | (case cn3=>exact HB2.out.size) | skip
         intro v3 u3 hr3 hg3
         have HB3:Hid (Below wc.heap.size wc u3):=κ38 (HB2.out.grown hg3 HB2.out.size (fun k hk=>(HV2.out k hk).1))
         have HR3:Hid (Rw plE 69 wc.heap.size v3 (Q.take 0++⟨x.nd,x.ot,x.nm⟩ :: Q.drop 0) u3):=κ38 (by simpa using hr3)
         clear hr3 hg3 HR2 HS2 HV2 HB2
         have HRz:=κ38 (HR3.out.lower HBc.out.size)
         have HBz:Hid (Below w1.heap.size w1 u3):=κ38 (below_then HBc.out HB3.out HBc.out.size)
         clear HR3 HB3
         go_wp2_with fail
         go_roundw
         case rel=>exact ⟨i+1,_,by omega,by go_num,HRz,HP2,by simp <;> omega,HBz⟩
         case measure=>simp [intOf] <;> omega
        ·obtain ⟨g,rfl⟩:∃ g,A2=some ⟨g,0,none⟩:=by cases ev;exact ⟨g,rfl⟩
         have hcap:=HRc.out.sl.cap
         have k0:(0:Int)≤(k:Int):=by omega
         have hkm:(k:Int)≤(n2:Int):=by omega
         have hk2:(k:Int)≤(c2:Int):=by omega
         clear ev
         by_cases hac:k=c2
         ·obtain rfl:k=c2:=hac
          obtain rfl:k=n2:=by omega
          have hkl:Q.length≤k:=by have:=HN2.out;omega
          have HT1:Hid (SlV plE wc (.slice (some ⟨g,0,none⟩) k k) (Q.take k)):=κ38 (HRc.out.sl.take (Nat.le_refl _) k (Nat.le_refl _))
          go_wp2_with (at_builtin;refine wpList_append_rows rfl _ _ 66 rfl plE wc.heap.size 69 (.agg #[.int .i64 0,.int .i64 0,.string ⟨#[]⟩]) 32 Tryz.underlying66 infoPlR rfl (by decide) _ _ ([]) (Q.take k) rfl rfl (Rw.nil _ _ _ _) HT1.out ?ae1 ?ae2 ?ae3 ?_)
          first | (case ae1=>unfold maxLen;rw [List.length_take];simp <;> omega) | skip
          first | (case ae2=>rw [List.length_take];simp <;> omega) | skip
          first | (case ae3=>exact Nat.le_refl _) | skip
          intro v1 u1 hr1 hg1
          have HB1:Hid (Below wc.heap.size wc u1):=κ38 ((Below.refl _ _).grown hg1 (Nat.le_refl _) (fun k hk=>by simp [Value.ownBlock] at hk))
          obtain ⟨z0,z1,z2⟩:=HZc.out u1 HB1.out
          have HO1:Hid (SlV plE (u1.alloc (.cells #[.int .i64 x.nd,.int .i64 x.ot,.string x.nm] 69)) (.slice (some ⟨u1.heap.size,0,none⟩) 1 1) [(⟨x.nd,x.ot,x.nm⟩:PlT)]):=κ38 (SlV.one u1 (⟨x.nd,x.ot,x.nm⟩:PlT) 69 #[.int .i64 x.nd,.int .i64 x.ot,.string x.nm] rfl)
          have HR1:=κ38 (hr1.below ((Below.refl _ _).alloc (Nat.le_refl _) (.cells #[.int .i64 x.nd,.int .i64 x.ot,.string x.nm] 69)))
          have HV1:=κ38 hr1.lt
          clear hr1 hg1 HT1
          go_wp2_with (at_builtin;refine wpList_append_rows rfl _ _ 66 rfl plE wc.heap.size 69 (.agg #[.int .i64 0,.int .i64 0,.string ⟨#[]⟩]) 32 Tryz.underlying66 infoPlR rfl (by decide) _ _ (Q.take k) ([(⟨x.nd,x.ot,x.nm⟩:PlT)]) rfl rfl HR1.out HO1.out ?be1 ?be2 ?be3 ?_)
          first | (case be1=>unfold maxLen;rw [List.length_take];simp <;> omega) | skip
          first | (case be2=>rw [List.length_take];simp <;> omega) | skip
          first | (case be3=>have:=HB1.out.size;simp;omega) | skip
          intro v2 u2 hr2 hg2
          have HB2:Hid (Below wc.heap.size wc u2):=κ38 ((HB1.out.alloc HB1.out.size _).grown hg2 (by have:=HB1.out.size;simp;omega) (fun k hk=>(HV1.out k hk).1))
          have HR2:=κ38 hr2
          have HV2:=κ38 hr2.lt
          clear hr2 hg2 HR1 HO1 HV1 HB1 z0 z1 z2
          have HS2:Hid (SlV plE u2 (.slice (some ⟨g,0,none⟩) 0 0) (Q.drop k)):=κ38 (by rw [List.drop_eq_nil_of_le hkl];exact SlV.empty _ _)
          go_wp2_with (at_builtin;refine wpList_append_rows rfl _ _ 66 rfl plE wc.heap.size 69 (.agg #[.int .i64 0,.int .i64 0,.string ⟨#[]⟩]) 32 Tryz.underlying66 infoPlR rfl (by decide) _ _ (Q.take k++[(⟨x.nd,x.ot,x.nm⟩:PlT)]) (Q.drop k) rfl rfl HR2.out HS2.out ?ce1 ?ce2 ?ce3 ?_)
          first | (case ce1=>unfold maxLen;simp <;> omega) | skip
          first | (case ce2=>simp <;> omega) | skip
          first | (case ce3=>exact HB2.out.size) | skip
          intro v3 u3 hr3 hg3
          have HB3:Hid (Below wc.heap.size wc u3):=κ38 (HB2.out.grown hg3 HB2.out.size (fun k hk=>(HV2.out k hk).1))
          have HR3:Hid (Rw plE 69 wc.heap.size v3 (Q.take k++⟨x.nd,x.ot,x.nm⟩ :: Q.drop k) u3):=κ38 (by simpa using hr3)
          clear hr3 hg3 HR2 HS2 HV2 HB2
          have HRz:=κ38 (HR3.out.lower HBc.out.size)
          have HBz:Hid (Below w1.heap.size w1 u3):=κ38 (below_then HBc.out HB3.out HBc.out.size)
          clear HR3 HB3
          go_wp2_with fail
          go_roundw
          case rel=>exact ⟨i+1,_,by omega,by go_num,HRz,HP2,by simp <;> omega,HBz⟩
          case measure=>simp [intOf] <;> omega
         ·have hac2:¬ (k:Int)=(c2:Int):=by omega
          have HT1:Hid (SlV plE wc (.slice (some ⟨g,0,none⟩) k c2) (Q.take k)):=κ38 (HRc.out.sl.take hk c2 (by omega))
          go_wp2_with (at_builtin;refine wpList_append_rows rfl _ _ 66 rfl plE wc.heap.size 69 (.agg #[.int .i64 0,.int .i64 0,.string ⟨#[]⟩]) 32 Tryz.underlying66 infoPlR rfl (by decide) _ _ ([]) (Q.take k) rfl rfl (Rw.nil _ _ _ _) HT1.out ?as1 ?as2 ?as3 ?_)
          first | (case as1=>unfold maxLen;rw [List.length_take];simp <;> omega) | skip
          first | (case as2=>rw [List.length_take];simp <;> omega) | skip
          first | (case as3=>exact Nat.le_refl _) | skip
          intro v1 u1 hr1 hg1
          have HB1:Hid (Below wc.heap.size wc u1):=κ38 ((Below.refl _ _).grown hg1 (Nat.le_refl _) (fun k hk=>by simp [Value.ownBlock] at hk))
          obtain ⟨z0,z1,z2⟩:=HZc.out u1 HB1.out
          have HO1:Hid (SlV plE (u1.alloc (.cells #[.int .i64 x.nd,.int .i64 x.ot,.string x.nm] 69)) (.slice (some ⟨u1.heap.size,0,none⟩) 1 1) [(⟨x.nd,x.ot,x.nm⟩:PlT)]):=κ38 (SlV.one u1 (⟨x.nd,x.ot,x.nm⟩:PlT) 69 #[.int .i64 x.nd,.int .i64 x.ot,.string x.nm] rfl)
          have HR1:=κ38 (hr1.below ((Below.refl _ _).alloc (Nat.le_refl _) (.cells #[.int .i64 x.nd,.int .i64 x.ot,.string x.nm] 69)))
          have HV1:=κ38 hr1.lt
          clear hr1 hg1 HT1
          go_wp2_with (at_builtin;refine wpList_append_rows rfl _ _ 66 rfl plE wc.heap.size 69 (.agg #[.int .i64 0,.int .i64 0,.string ⟨#[]⟩]) 32 Tryz.underlying66 infoPlR rfl (by decide) _ _ (Q.take k) ([(⟨x.nd,x.ot,x.nm⟩:PlT)]) rfl rfl HR1.out HO1.out ?bs1 ?bs2 ?bs3 ?_)
          first | (case bs1=>unfold maxLen;rw [List.length_take];simp <;> omega) | skip
          first | (case bs2=>rw [List.length_take];simp <;> omega) | skip
          first | (case bs3=>have:=HB1.out.size;simp;omega) | skip
          intro v2 u2 hr2 hg2
          have HB2:Hid (Below wc.heap.size wc u2):=κ38 ((HB1.out.alloc HB1.out.size _).grown hg2 (by have:=HB1.out.size;simp;omega) (fun k hk=>(HV1.out k hk).1))
          have HR2:=κ38 hr2
          have HV2:=κ38 hr2.lt
          clear hr2 hg2 HR1 HO1 HV1 HB1 z0 z1 z2
          have HS2:Hid (SlV plE u2 (.slice (some ⟨g,k*3,none⟩) (n2 - k) (c2 - k)) (Q.drop k)):=κ38 (by have h3:=(HRc.out.sl.drop (m:=k) hk (c2 - k) (by omega)).below HB2.out;rw [Nat.zero_add] at h3;exact h3)
          go_wp2_with (at_builtin;refine wpList_append_rows rfl _ _ 66 rfl plE wc.heap.size 69 (.agg #[.int .i64 0,.int .i64 0,.string ⟨#[]⟩]) 32 Tryz.underlying66 infoPlR rfl (by decide) _ _ (Q.take k++[(⟨x.nd,x.ot,x.nm⟩:PlT)]) (Q.drop k) rfl rfl HR2.out HS2.out ?cs1 ?cs2 ?cs3 ?_)
          first | (case cs1=>unfold maxLen;simp <;> omega) | skip
          first | (case cs2=>simp <;> omega) | skip
          first | (case cs3=>exact HB2.out.size) | skip
          intro v3 u3 hr3 hg3
          have HB3:Hid (Below wc.heap.size wc u3):=κ38 (HB2.out.grown hg3 HB2.out.size (fun k hk=>(HV2.out k hk).1))
          have HR3:Hid (Rw plE 69 wc.heap.size v3 (Q.take k++⟨x.nd,x.ot,x.nm⟩ :: Q.drop k) u3):=κ38 (by simpa using hr3)
          clear hr3 hg3 HR2 HS2 HV2 HB2
          have HRz:=κ38 (HR3.out.lower HBc.out.size)
          have HBz:Hid (Below w1.heap.size w1 u3):=κ38 (below_then HBc.out HB3.out HBc.out.size)
          clear HR3 HB3
          go_wp2_with fail
          go_roundw
          case rel=>exact ⟨i+1,_,by omega,by go_num,HRz,HP2,by simp <;> omega,HBz⟩
          case measure=>simp [intOf] <;> omega
   ·have hkb:(x.k != 109)=true:=by simp [hk]
    have HP2:=κ38 (show RepP Q (runO p00 (movesOf (S.take (i+1)))) by rw [run_skip HX.out (.inl hk)];exact HP.out)
    clear hk
    go_wp2_with fail
    go_roundw
    case rel=>exact ⟨i+1,Q,by omega,by go_num,κ38 (HBox _).out.1,HP2,by omega,κ38 (HBox _).out.2⟩
    case measure=>simp [intOf] <;> omega
  ·have i2:¬ (i:Int) < (n:Int):=by omega
   obtain rfl:i=n:=by omega
   go_wp2_with fail
   go_ret
   have e:S.take i=S:=List.take_of_length_le (by have:=HN.out;omega)
   exact ⟨_,Q,rfl,HR.out.lower HB0.out.size,by rw [←e];exact HP.out,by have:=HN.out;have:=HL.out;omega,below_then HB0.out HB.out HB0.out.size⟩
end Go.Proofs.YtjekalilfhnpmaaGreatDoor
