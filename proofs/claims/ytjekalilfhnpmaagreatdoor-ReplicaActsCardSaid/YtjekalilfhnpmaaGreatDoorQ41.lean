/- The document's replica: Make, a move. Written by gen_mmake.py. -/
import Derived.Test.YtjekalilfhnpmaaGreatDoorQ40
theorem Go.Proofs.YtjekalilfhnpmaaGreatDoor.κ41 {p:Prop} (h:p):Go.RowKit.Hid p:=Go.Lib.hid h
namespace Go.Proofs.YtjekalilfhnpmaaGreatDoor
open Go Go.RowKit Go.Maps Go.Shelf LineOrd Tree
set_option linter.unusedVariables false
set_option linter.unusedSimpArgs false
set_option maxHeartbeats 40000000
set_option maxRecDepth 100000
theorem mMakeMove1_any (MB:Nat) (b:Int) (A:Option Addr) (n c:Nat) (K:List OpT) (o:OpT) (w:World) (h:MRep MB b A n c K w) (hK:DOk K) (hup:Rising K) (hl:K.length≤1000) (hb0:0≤b) (hb4:b < 4) (hw:o.Wf) (k1:o.k=109) (n0:o.nd≠0) (hkn:Known K o.nd) :
  Calls Tryz.prog 41 #[ptrV MB,opV o] w (MmEnds b K o w):=by
 obtain ⟨kb,hkb⟩:∃ kb:Bool,kb=true↔Known K o.nd:=⟨@decide _ (Classical.propDecidable (Known K o.nd)),by simp⟩
 obtain ⟨pb,hpb⟩:∃ pb:Bool,pb=true↔o.ot=0∨o.ot=1∨Known K o.ot:=⟨@decide _ (Classical.propDecidable (o.ot=0∨o.ot=1∨Known K o.ot)),by simp⟩
 have inn:I64 o.nd:=⟨hw.nd1,hw.nd2⟩
 have ino:I64 o.ot:=⟨hw.ot1,hw.ot2⟩
 have hfi:∀ x∈K,OpFine x:=fun x hx=>hK.fine hx
 obtain ⟨W,hW⟩:∃ W,W=(w.alloc (.cells o.cells 31)).alloc (.cells zOp.cells 31):=⟨_,rfl⟩
 have hWM:MkW MB b A n c K o w W:=by rw [hW];exact MkW.start h o
 have HW:=κ41 hW.symm
 have HWM:=κ41 hWM
 obtain rfl:kb=true:=hkb.2 hkn
 have HPl:Hid (∀ w',Below W.heap.size W w'→Calls Tryz.prog 93 #[ptrV MB,.int .i64 o.ot] w' fun e w''=>e=.returned (.bool pb)∧Below w'.heap.size w' w''):=κ41 fun w' hb=>by
  refine (mPlace_any MB b A n c K o.ot w' (hWM.rep.below hb) hfi (by omega)).mono ?_
  rintro e w'' ⟨kb',rfl,h1,h2⟩
  refine ⟨?_,h2⟩
  rw [Bool.eq_iff_iff.2 (h1.trans hpb.symm)]
 have HKn:Hid (∀ w',Below W.heap.size W w'→Calls Tryz.prog 92 #[ptrV MB,.int .i64 o.nd] w' fun e w''=>e=.returned (.bool true)∧Below w'.heap.size w' w''):=κ41 fun w' hb=>by
  refine (mKnown_any MB b A n c K o.nd w' (hWM.rep.below hb) hfi (by omega)).mono ?_
  rintro e w'' ⟨kb',rfl,h1,h2⟩
  refine ⟨?_,h2⟩
  rw [Bool.eq_iff_iff.2 (h1.trans hkb.symm)]
 have HNx:Hid (∀ w',Below W.heap.size W w'→Calls Tryz.prog 99 #[ptrV MB,.bool pb,opV ⟨0,0,0,109,o.nd,o.ot,o.nm,⟨#[]⟩⟩] w' fun e w''=>e=.returned (.tuple #[opV (nextP b K pb ⟨0,0,0,109,o.nd,o.ot,o.nm,⟨#[]⟩⟩).1,.int .i64 (nextP b K pb ⟨0,0,0,109,o.nd,o.ot,o.nm,⟨#[]⟩⟩).2])∧Below w'.heap.size w' w''):=κ41 fun w' hb=>by
  exact mNext_any MB b A n c K pb _ w' (hWM.rep.below hb) hfi hup hl hb0 hb4 (nextO_wf hK hb0 hb4 (by simp) (by simp) inn ino hw.nm1 nil_le)
 obtain ⟨r,hr⟩:∃ r,nextP b K pb ⟨0,0,0,109,o.nd,o.ot,o.nm,⟨#[]⟩⟩=r:=⟨_,rfl⟩
 rw [hr] at HNx
 obtain ⟨R,hR⟩:∃ R,moveP b K pb ⟨0,0,0,109,o.nd,o.ot,o.nm,⟨#[]⟩⟩=R:=⟨_,rfl⟩
 have HMk:Hid (MakeIs b K o R):=κ41 (by rw [←hR];unfold MakeIs;rw [if_pos k1,if_neg n0];exact ⟨true,pb,hkb,hpb,rfl⟩)
 obtain ⟨p,hp⟩:∃ p,runO p00 (logOf K)=p:=⟨_,rfl⟩
 obtain ⟨cy,hcy⟩:∃ cy,@decide (Ins p o.ot o.nd) (Classical.propDecidable _)=cy:=⟨_,rfl⟩
 have HCy:Hid (cy=true↔Ins p o.ot o.nd):=κ41 (by rw [←hcy];exact @decide_eq_true_iff _ (Classical.propDecidable _))
 have hml:movesOf (sortOps K)=logOf K:=moves_log hup
 have HPs:Hid (∀ w',MRep MB b A n c K w'→Calls Tryz.prog 27 #[.slice A n c] w' fun e w''=>∃ v Q,e=.returned v∧Rw plE 69 w'.heap.size v Q w''∧RepP Q p∧Q.length≤1000∧Below w'.heap.size w' w''):=κ41 fun w' hm=>by
  refine (placesOf_any A n c K w' hm.sl hl).mono ?_
  rintro e w'' ⟨v,Q,rfl,h1,h2,h3,h4⟩
  rw [hml,hp] at h2
  exact ⟨v,Q,rfl,h1,h2,by omega,h4⟩
 have hac:Acyc p:=by rw [←hp];exact Acyc.replay Acyc.empty _
 have HIn:Hid (∀ AQ nQ cQ Q w',SlV plE w' (.slice AQ nQ cQ) Q→RepP Q p→nQ≤100000→Calls Tryz.prog 28 #[.slice AQ nQ cQ,.int .i64 o.ot,.int .i64 o.nd] w' fun e w''=>e=.returned (.bool cy)∧w''=w'):=κ41 fun AQ nQ cQ Q w' h1 h2 h3=>by
  have:=isInside_any AQ nQ cQ o.ot o.nd Q p w' h1 h3 h2 hac
  rwa [hcy] at this
 have HRr:Hid (R=if r.2=0∧(o.nd=o.ot∨cy=true) then (zOp,10) else r):=κ41 (by
  rw [←hR,moveP,hr,hp]
  have e:=HCy.out
  by_cases hc:r.2=0∧(o.nd=o.ot∨cy=true)
  ·rw [if_pos hc,if_pos ⟨hc.1,hc.2.imp_right e.1⟩]
  ·rw [if_neg hc,if_neg (fun h=>hc ⟨h.1,h.2.imp_right e.2⟩)])
 obtain ⟨nx,er⟩:=r
 simp only at HNx HRr
 have q1:(o.k == 109)=true:=by simpa using k1
 have q2:(o.nd == 0)=false:=by simpa using n0
 clear k1 n0 hr hR hp hcy hml hac hkn
 have HS:Hid (∀ w',Below W.heap.size W w'→Below W.heap.size W w'∧w'.cell? ⟨w.heap.size,4,none⟩=some (.int .i64 o.nd)∧w'.cell? ⟨w.heap.size,5,none⟩=some (.int .i64 o.ot)∧w'.cell? ⟨w.heap.size,6,none⟩=some (.string o.nm)∧w'.cell? ⟨w.heap.size,7,none⟩=some (.string o.vl)):=κ41 fun w' hb=>by
  have h8:=(HWM.out.below hb).box
  exact ⟨hb,h8.c4,h8.c5,h8.c6,h8.c7⟩
 unfold ptrV at *
 clear h hK hup hl hb0 hb4 hw hkb hpb inn ino hfi hW hWM
 go_enter Tryz.func41,Tryz.ntmps41
 go_upto_region 5 with (fail)
 rw [show (w.alloc (.cells #[.int .i64 o.t,.int .i64 o.b,.int .i64 o.n,.int .u8 o.k,.int .i64 o.nd,.int .i64 o.ot,.string o.nm,.string o.vl] 31)).alloc (.cells #[.int .i64 0,.int .i64 0,.int .i64 0,.int .u8 0,.int .i64 0,.int .i64 0,.string ⟨#[]⟩,.string ⟨#[]⟩] 31)=W from HW.out]
 clear HW
 obtain ⟨g4,g5,g6,g7⟩:=(HS.out _ (Below.refl _ _).drew).2
 obtain ⟨k4,k5,k6,k7⟩:=(HS.out _ (Below.refl _ W)).2
 go_cut [6,7] (fun v6 v7 wd=>∃ B:Nat,v6=.pointer (some ⟨B,0,none⟩)∧v7=.int .i64 er∧Hid (OpAt wd B nx∧MkW MB b A n c K o w wd))
 case first=>
  clear HPs HIn HRr HCy HMk
  go_region_held_law (fun w'=>w'.cell? ⟨w.heap.size,4,none⟩=some (.int .i64 o.nd)∧w'.cell? ⟨w.heap.size,5,none⟩=some (.int .i64 o.ot)∧w'.cell? ⟨w.heap.size,6,none⟩=some (.string o.nm)∧w'.cell? ⟨w.heap.size,7,none⟩=some (.string o.vl)) (exact (HS.out _ (by go_grown)).2)
   (first
    | (go_at_call 92;refine (HKn.out _ (by go_grown)).mono ?_;rintro e wA ⟨rfl,hbA⟩;have hA:=bel2 (w0:=W) (by go_grown) hbA;have sA:=hA.size;(first | (have hyK:Hid (∀ j,j < 8→(∃ u,wA.cell? ⟨W.heap.size,j,none⟩=some u)∧wA.frozen? ⟨W.heap.size,j,none⟩=false):=κ41 (box8_at (w:=W.drew) (o:=zOp) hbA)) | skip))
    | (go_at_call 93;refine (HPl.out _ (by go_grown)).mono ?_;rintro e wC ⟨rfl,hbC⟩;have hC:=bel2 (w0:=W) (by go_grown) hbC;have sC:=hC.size;(first | (have hyC:=κ41 (box8_below hyK.out hbC)) | (have hyC:=κ41 (box8_at (w:=wA) (o:=zOp) hbC)) | skip))
    | (go_at_call 99;refine (HNx.out _ (by go_grown)).mono ?_;rintro e wB ⟨rfl,hbB⟩;have hB:=bel2 (w0:=W) (by go_grown) hbB;have sB:=hB.size;(first | (have hyB:=box8_below hyC.out hbB;obtain ⟨⟨u0z,y0z⟩,x0z⟩:=hyB 0 (by omega);obtain ⟨⟨u1z,y1z⟩,x1z⟩:=hyB 1 (by omega);obtain ⟨⟨u2z,y2z⟩,x2z⟩:=hyB 2 (by omega);obtain ⟨⟨u3z,y3z⟩,x3z⟩:=hyB 3 (by omega);obtain ⟨⟨u4z,y4z⟩,x4z⟩:=hyB 4 (by omega);obtain ⟨⟨u5z,y5z⟩,x5z⟩:=hyB 5 (by omega);obtain ⟨⟨u6z,y6z⟩,x6z⟩:=hyB 6 (by omega);obtain ⟨⟨u7z,y7z⟩,x7z⟩:=hyB 7 (by omega)) | (have hyB:=box8_at (w:=wC) (o:=zOp) hbB;obtain ⟨⟨u0z,y0z⟩,x0z⟩:=hyB 0 (by omega);obtain ⟨⟨u1z,y1z⟩,x1z⟩:=hyB 1 (by omega);obtain ⟨⟨u2z,y2z⟩,x2z⟩:=hyB 2 (by omega);obtain ⟨⟨u3z,y3z⟩,x3z⟩:=hyB 3 (by omega);obtain ⟨⟨u4z,y4z⟩,x4z⟩:=hyB 4 (by omega);obtain ⟨⟨u5z,y5z⟩,x5z⟩:=hyB 5 (by omega);obtain ⟨⟨u6z,y6z⟩,x6z⟩:=hyB 6 (by omega);obtain ⟨⟨u7z,y7z⟩,x7z⟩:=hyB 7 (by omega)) | skip)))
  all_goals
   rename_i hH
   clear hH
   go_wp2_with fail
   go_meet
   case rel=>
    first
     | (with_reducible refine ⟨wB.heap.size,rfl,rfl,?_⟩;exact κ41 ⟨OpAt.start wB nx _,(HWM.out.below hB).below ((Below.refl _ _).alloc (Nat.le_refl _) _)⟩)
     | (with_reducible refine ⟨W.heap.size,rfl,rfl,?_⟩;exact κ41 ⟨(set8_at nx (fun j hj=>(hyB j hj).1) hB (Nat.le_refl _)).1,HWM.out.below (set8_at nx (fun j hj=>(hyB j hj).1) hB (Nat.le_refl _)).2⟩)
     | (with_reducible refine ⟨wA.heap.size,rfl,rfl,?_⟩;exact κ41 ⟨(set8_at nx (fun j hj=>(hyB j hj).1) hB sA).1,HWM.out.below (set8_at nx (fun j hj=>(hyB j hj).1) hB sA).2⟩)
     | (with_reducible refine ⟨wC.heap.size,rfl,rfl,?_⟩;exact κ41 ⟨(set8_at nx (fun j hj=>(hyB j hj).1) hB sC).1,HWM.out.below (set8_at nx (fun j hj=>(hyB j hj).1) hB sC).2⟩)
 case rest=>
  obtain ⟨B,rfl,rfl,HB⟩:=hcut
  have HM:=κ41 HB.out.2
  have HO:=κ41 HB.out.1
  clear HB HKn HPl HNx HWM HS g4 g5 g6 g7 k4 k5 k6 k7
  have HS2:Hid (∀ w',Below wc.heap.size wc w'→Below wc.heap.size wc w'∧w'.cell? ⟨w.heap.size,4,none⟩=some (.int .i64 o.nd)∧w'.cell? ⟨w.heap.size,5,none⟩=some (.int .i64 o.ot)∧w'.cell? ⟨w.heap.size,6,none⟩=some (.string o.nm)∧w'.cell? ⟨w.heap.size,7,none⟩=some (.string o.vl)):=κ41 fun w' hb=>by
   have h8:=(HM.out.below hb).box
   exact ⟨hb,h8.c4,h8.c5,h8.c6,h8.c7⟩
  obtain ⟨k4,k5,k6,k7⟩:=(HS2.out _ (Below.refl _ wc)).2
  by_cases her:er=0
  ·have e0:((er:Int) == 0)=true:=by simp [her]
   by_cases hin:o.nd=o.ot
   ·have e1:(o.nd == o.ot)=true:=by simpa using hin
    have HRv:Hid (R=(zOp,10)):=κ41 (by rw [HRr.out,if_pos ⟨her,.inl hin⟩])
    clear her hin HPs HIn
    have HWq:∀ nq,Hid (Below wc.heap.size wc (wc.drewN nq)):=fun nq=>κ41 (below_drawn (Below.refl _ _) nq)
    go_upto_region 6 with (fail)
    go_quiet (fail)
    rename_i nq
    have HH:=HWq nq
    generalize wc.drewN nq=wq at HH ⊢
    have HMq:=κ41 (HM.out.below HH.out)
    obtain ⟨b0,b1,b2,b3,b4,b5,b6,b7⟩:=HO.out.below HH.out
    have hyq:=HMq.out.res
    obtain ⟨⟨u0q,y0q⟩,x0q⟩:=hyq 0 (by omega)
    obtain ⟨⟨u1q,y1q⟩,x1q⟩:=hyq 1 (by omega)
    obtain ⟨⟨u2q,y2q⟩,x2q⟩:=hyq 2 (by omega)
    obtain ⟨⟨u3q,y3q⟩,x3q⟩:=hyq 3 (by omega)
    obtain ⟨⟨u4q,y4q⟩,x4q⟩:=hyq 4 (by omega)
    obtain ⟨⟨u5q,y5q⟩,x5q⟩:=hyq 5 (by omega)
    obtain ⟨⟨u6q,y6q⟩,x6q⟩:=hyq 6 (by omega)
    obtain ⟨⟨u7q,y7q⟩,x7q⟩:=hyq 7 (by omega)
    clear hyq k4 k5 k6 k7
    go_wp2_with fail
    have h8:=HMq.out.fin zOp
    obtain ⟨W8,hW8⟩:∃ W8,W8=((((((((wq.setCell ⟨w.heap.size+1,0,none⟩ (.int .i64 0)).setCell ⟨w.heap.size+1,1,none⟩ (.int .i64 0)).setCell ⟨w.heap.size+1,2,none⟩ (.int .i64 0)).setCell ⟨w.heap.size+1,3,none⟩ (.int .u8 0)).setCell ⟨w.heap.size+1,4,none⟩ (.int .i64 0)).setCell ⟨w.heap.size+1,5,none⟩ (.int .i64 0)).setCell ⟨w.heap.size+1,6,none⟩ (.string ⟨#[]⟩)).setCell ⟨w.heap.size+1,7,none⟩ (.string ⟨#[]⟩)):=⟨_,rfl⟩
    replace h8:OpAt W8 (w.heap.size+1) zOp∧Below w.heap.size w W8:=by rw [hW8];exact h8
    obtain ⟨⟨l0,l1,l2,l3,l4,l5,l6,l7⟩,hb8⟩:=h8
    first | rw [←hW8] | rw [show _=W8 from hW8.symm]
    refine bodyPost_ret (v:=.tuple #[opV zOp,.int .i64 10]) (by simp [results,Tryz.results41,go_sem,l0,l1,l2,l3,l4,l5,l6,l7]) rfl ⟨R,HMk.out,by rw [HRv.out] <;> rfl,hb8⟩
   ·have e1:(o.nd == o.ot)=false:=by simpa using hin
    have HS3:Hid (∀ w',Below wc.heap.size wc w'→w'.cell? ⟨MB,1,none⟩=some (.slice A n c)∧w'.cell? ⟨w.heap.size,4,none⟩=some (.int .i64 o.nd)∧w'.cell? ⟨w.heap.size,5,none⟩=some (.int .i64 o.ot)∧w'.cell? ⟨w.heap.size,6,none⟩=some (.string o.nm)∧w'.cell? ⟨w.heap.size,7,none⟩=some (.string o.vl)):=κ41 fun w' hb=>⟨(HM.out.rep.below hb).c1,(HS2.out w' hb).2⟩
    obtain ⟨g1,g4,g5,g6,g7⟩:=HS3.out _ (Below.refl _ _).drew
    replace HPs:Hid (∀ w',Below wc.heap.size wc w'→Calls Tryz.prog 27 #[.slice A n c] w' fun e w''=>∃ v Q,e=.returned v∧Rw plE 69 w'.heap.size v Q w''∧RepP Q p∧Q.length≤1000∧Below w'.heap.size w' w''):=κ41 fun w' hb=>HPs.out w' (HM.out.rep.below hb)
    cases cy with
    | true=>
     have HRv:Hid (R=(zOp,10)):=κ41 (by rw [HRr.out,if_pos ⟨her,.inr rfl⟩])
     clear her hin
     go_upto_region 6 with (fail)
     go_region_held_law (fun w'=>w'.cell? ⟨MB,1,none⟩=some (.slice A n c)∧w'.cell? ⟨w.heap.size,4,none⟩=some (.int .i64 o.nd)∧w'.cell? ⟨w.heap.size,5,none⟩=some (.int .i64 o.ot)∧w'.cell? ⟨w.heap.size,6,none⟩=some (.string o.nm)∧w'.cell? ⟨w.heap.size,7,none⟩=some (.string o.vl)) (exact HS3.out _ (by go_grown))
      (first
       | (go_at_call 27;refine (HPs.out _ (by go_grown)).mono ?_;rintro e wP ⟨v',Q,rfl,hrP,hQ,hQl,hbP⟩;obtain ⟨AQ,nQ,cQ,rfl⟩:=hrP.slice;have hP:=bel2 (w0:=wc) (by go_grown) hbP;have sP:=hP.size;have HQp:=κ41 (And.intro hrP.sl hQ);have hnQ:nQ≤1000:=(by have:=hrP.sl.len;omega);clear hrP hQ hQl)
       | (go_at_call 28;refine (HIn.out _ _ _ _ _ HQp.out.1 HQp.out.2 (by omega)).mono ?_;rintro e wI ⟨rfl,rfl⟩))
     all_goals
      rename_i hH
      clear hH
      have HMq:=κ41 (HM.out.below hP)
      obtain ⟨b0,b1,b2,b3,b4,b5,b6,b7⟩:=HO.out.below hP
      have hyq:=HMq.out.res
      obtain ⟨⟨u0q,y0q⟩,x0q⟩:=hyq 0 (by omega)
      obtain ⟨⟨u1q,y1q⟩,x1q⟩:=hyq 1 (by omega)
      obtain ⟨⟨u2q,y2q⟩,x2q⟩:=hyq 2 (by omega)
      obtain ⟨⟨u3q,y3q⟩,x3q⟩:=hyq 3 (by omega)
      obtain ⟨⟨u4q,y4q⟩,x4q⟩:=hyq 4 (by omega)
      obtain ⟨⟨u5q,y5q⟩,x5q⟩:=hyq 5 (by omega)
      obtain ⟨⟨u6q,y6q⟩,x6q⟩:=hyq 6 (by omega)
      obtain ⟨⟨u7q,y7q⟩,x7q⟩:=hyq 7 (by omega)
      clear hyq HQp
      go_wp2_with fail
      have h8:=HMq.out.fin zOp
      obtain ⟨W8,hW8⟩:∃ W8,W8=((((((((wI.setCell ⟨w.heap.size+1,0,none⟩ (.int .i64 0)).setCell ⟨w.heap.size+1,1,none⟩ (.int .i64 0)).setCell ⟨w.heap.size+1,2,none⟩ (.int .i64 0)).setCell ⟨w.heap.size+1,3,none⟩ (.int .u8 0)).setCell ⟨w.heap.size+1,4,none⟩ (.int .i64 0)).setCell ⟨w.heap.size+1,5,none⟩ (.int .i64 0)).setCell ⟨w.heap.size+1,6,none⟩ (.string ⟨#[]⟩)).setCell ⟨w.heap.size+1,7,none⟩ (.string ⟨#[]⟩)):=⟨_,rfl⟩
      replace h8:OpAt W8 (w.heap.size+1) zOp∧Below w.heap.size w W8:=by rw [hW8];exact h8
      obtain ⟨⟨l0,l1,l2,l3,l4,l5,l6,l7⟩,hb8⟩:=h8
      first | rw [←hW8] | rw [show _=W8 from hW8.symm]
      refine bodyPost_ret (v:=.tuple #[opV zOp,.int .i64 10]) (by simp [results,Tryz.results41,go_sem,l0,l1,l2,l3,l4,l5,l6,l7]) rfl ⟨R,HMk.out,by rw [HRv.out] <;> rfl,hb8⟩
    | false=>
     have HRv:Hid (R=(nx,er)):=κ41 (by rw [HRr.out,if_neg (fun h=>by rcases h.2 with h | h;exact hin h;cases h)])
     clear her hin
     go_upto_region 6 with (fail)
     go_region_held_law (fun w'=>w'.cell? ⟨MB,1,none⟩=some (.slice A n c)∧w'.cell? ⟨w.heap.size,4,none⟩=some (.int .i64 o.nd)∧w'.cell? ⟨w.heap.size,5,none⟩=some (.int .i64 o.ot)∧w'.cell? ⟨w.heap.size,6,none⟩=some (.string o.nm)∧w'.cell? ⟨w.heap.size,7,none⟩=some (.string o.vl)) (exact HS3.out _ (by go_grown))
      (first
       | (go_at_call 27;refine (HPs.out _ (by go_grown)).mono ?_;rintro e wP ⟨v',Q,rfl,hrP,hQ,hQl,hbP⟩;obtain ⟨AQ,nQ,cQ,rfl⟩:=hrP.slice;have hP:=bel2 (w0:=wc) (by go_grown) hbP;have sP:=hP.size;have HQp:=κ41 (And.intro hrP.sl hQ);have hnQ:nQ≤1000:=(by have:=hrP.sl.len;omega);clear hrP hQ hQl)
       | (go_at_call 28;refine (HIn.out _ _ _ _ _ HQp.out.1 HQp.out.2 (by omega)).mono ?_;rintro e wI ⟨rfl,rfl⟩))
     all_goals
      rename_i hH
      clear hH
      have HMq:=κ41 (HM.out.below hP)
      obtain ⟨b0,b1,b2,b3,b4,b5,b6,b7⟩:=HO.out.below hP
      have hyq:=HMq.out.res
      obtain ⟨⟨u0q,y0q⟩,x0q⟩:=hyq 0 (by omega)
      obtain ⟨⟨u1q,y1q⟩,x1q⟩:=hyq 1 (by omega)
      obtain ⟨⟨u2q,y2q⟩,x2q⟩:=hyq 2 (by omega)
      obtain ⟨⟨u3q,y3q⟩,x3q⟩:=hyq 3 (by omega)
      obtain ⟨⟨u4q,y4q⟩,x4q⟩:=hyq 4 (by omega)
      obtain ⟨⟨u5q,y5q⟩,x5q⟩:=hyq 5 (by omega)
      obtain ⟨⟨u6q,y6q⟩,x6q⟩:=hyq 6 (by omega)
      obtain ⟨⟨u7q,y7q⟩,x7q⟩:=hyq 7 (by omega)
      clear hyq HQp
      go_wp2_with fail
      have h8:=HMq.out.fin nx
      obtain ⟨W8,hW8⟩:∃ W8,W8=((((((((wI.setCell ⟨w.heap.size+1,0,none⟩ (.int .i64 nx.t)).setCell ⟨w.heap.size+1,1,none⟩ (.int .i64 nx.b)).setCell ⟨w.heap.size+1,2,none⟩ (.int .i64 nx.n)).setCell ⟨w.heap.size+1,3,none⟩ (.int .u8 nx.k)).setCell ⟨w.heap.size+1,4,none⟩ (.int .i64 nx.nd)).setCell ⟨w.heap.size+1,5,none⟩ (.int .i64 nx.ot)).setCell ⟨w.heap.size+1,6,none⟩ (.string nx.nm)).setCell ⟨w.heap.size+1,7,none⟩ (.string nx.vl)):=⟨_,rfl⟩
      replace h8:OpAt W8 (w.heap.size+1) nx∧Below w.heap.size w W8:=by rw [hW8];exact h8
      obtain ⟨⟨l0,l1,l2,l3,l4,l5,l6,l7⟩,hb8⟩:=h8
      first | rw [←hW8] | rw [show _=W8 from hW8.symm]
      refine bodyPost_ret (v:=.tuple #[opV nx,.int .i64 er]) (by simp [results,Tryz.results41,go_sem,l0,l1,l2,l3,l4,l5,l6,l7]) rfl ⟨R,HMk.out,by rw [HRv.out] <;> rfl,hb8⟩
  ·have e0:((er:Int) == 0)=false:=by simp only [beq_eq_false_iff_ne];omega
   have HRv:Hid (R=(nx,er)):=κ41 (by rw [HRr.out,if_neg (fun h=>her h.1)])
   clear her HPs HIn
   have HWq:∀ nq,Hid (Below wc.heap.size wc (wc.drewN nq)):=fun nq=>κ41 (below_drawn (Below.refl _ _) nq)
   go_upto_region 6 with (fail)
   go_quiet (fail)
   rename_i nq
   have HH:=HWq nq
   generalize wc.drewN nq=wq at HH ⊢
   have HMq:=κ41 (HM.out.below HH.out)
   obtain ⟨b0,b1,b2,b3,b4,b5,b6,b7⟩:=HO.out.below HH.out
   have hyq:=HMq.out.res
   obtain ⟨⟨u0q,y0q⟩,x0q⟩:=hyq 0 (by omega)
   obtain ⟨⟨u1q,y1q⟩,x1q⟩:=hyq 1 (by omega)
   obtain ⟨⟨u2q,y2q⟩,x2q⟩:=hyq 2 (by omega)
   obtain ⟨⟨u3q,y3q⟩,x3q⟩:=hyq 3 (by omega)
   obtain ⟨⟨u4q,y4q⟩,x4q⟩:=hyq 4 (by omega)
   obtain ⟨⟨u5q,y5q⟩,x5q⟩:=hyq 5 (by omega)
   obtain ⟨⟨u6q,y6q⟩,x6q⟩:=hyq 6 (by omega)
   obtain ⟨⟨u7q,y7q⟩,x7q⟩:=hyq 7 (by omega)
   clear hyq k4 k5 k6 k7
   go_wp2_with fail
   have h8:=HMq.out.fin nx
   obtain ⟨W8,hW8⟩:∃ W8,W8=((((((((wq.setCell ⟨w.heap.size+1,0,none⟩ (.int .i64 nx.t)).setCell ⟨w.heap.size+1,1,none⟩ (.int .i64 nx.b)).setCell ⟨w.heap.size+1,2,none⟩ (.int .i64 nx.n)).setCell ⟨w.heap.size+1,3,none⟩ (.int .u8 nx.k)).setCell ⟨w.heap.size+1,4,none⟩ (.int .i64 nx.nd)).setCell ⟨w.heap.size+1,5,none⟩ (.int .i64 nx.ot)).setCell ⟨w.heap.size+1,6,none⟩ (.string nx.nm)).setCell ⟨w.heap.size+1,7,none⟩ (.string nx.vl)):=⟨_,rfl⟩
   replace h8:OpAt W8 (w.heap.size+1) nx∧Below w.heap.size w W8:=by rw [hW8];exact h8
   obtain ⟨⟨l0,l1,l2,l3,l4,l5,l6,l7⟩,hb8⟩:=h8
   first | rw [←hW8] | rw [show _=W8 from hW8.symm]
   refine bodyPost_ret (v:=.tuple #[opV nx,.int .i64 er]) (by simp [results,Tryz.results41,go_sem,l0,l1,l2,l3,l4,l5,l6,l7]) rfl ⟨R,HMk.out,by rw [HRv.out] <;> rfl,hb8⟩
theorem mMakeMove_any (MB:Nat) (b:Int) (A:Option Addr) (n c:Nat) (K:List OpT) (o:OpT) (w:World) (h:MRep MB b A n c K w) (hK:DOk K) (hup:Rising K) (hl:K.length≤1000) (hb0:0≤b) (hb4:b < 4) (hw:o.Wf) (k1:o.k=109) (n0:o.nd≠0) :
  Calls Tryz.prog 41 #[ptrV MB,opV o] w (MmEnds b K o w):=by
 by_cases hk:Known K o.nd
 ·exact mMakeMove1_any MB b A n c K o w h hK hup hl hb0 hb4 hw k1 n0 hk
 ·exact mMakeMove0_any MB b A n c K o w h hK hup hl hb0 hb4 hw k1 n0 hk
end Go.Proofs.YtjekalilfhnpmaaGreatDoor
