/- A replica moves a node. Written by gen_repn.py. A replica, new. A replica's Diff: what another has not heard. -/
import Derived.Lib.SliceRun
import Derived.Test.YtjekalilfhnpmaaGreatDoorQ27
theorem Go.Proofs.YtjekalilfhnpmaaGreatDoor.κ28 {p:Prop} (h:p):Go.RowKit.Hid p:=Go.Lib.hid h
namespace Go.Proofs.YtjekalilfhnpmaaGreatDoor
open Go Go.RowKit Go.Maps Go.Shelf LineOrd Tree
set_option linter.unusedVariables false
set_option linter.unusedSimpArgs false
set_option maxHeartbeats 2000000
set_option maxRecDepth 100000
open Classical in
noncomputable def moveP (b:Int) (K:List OpT) (is:Bool) (o:OpT):OpT×Nat:=
 if (nextP b K is o).2=0∧(o.nd=o.ot∨Ins (runO p00 (logOf K)) o.ot o.nd) then (zOp,10) else nextP b K is o
theorem move_any {F0:Nat→Bool} (ea:Nat→Addr) (col:Nat→Int) (RB:Nat) (b:Int) (K:List OpT) (nd into:Int) (nm:ByteArray) (w:World) (h:RepD col RB b K w) (hG:Gd F0 ea w) (f2:F0 2=true) (f3:F0 3=true) (f4:F0 4=true) (f5:F0 5=true) (f6:F0 6=true) (f8:F0 8=true)
  (hK:DOk K) (hKl:K.length≤400) (hb0:0≤b) (hb4:b < 4) (f10:F0 10=true) (hn:I64 nd) (hi2:I64 into) (hnm:nm.size≤100000) (kb:Bool) (hp:kb=true↔Known K nd) (pb:Bool) (hpp:pb=true↔into=0∨into=1∨Known K into) :
  Calls Tryz.prog 96 #[ptrV RB,.int .i64 nd,.int .i64 into,.string nm] w (MkEnds ea (moveP b K (kb && pb) ⟨0,0,0,109,nd,into,nm,⟨#[]⟩⟩) w):=by
 have HKn:Hid (∀ w',Below w.heap.size w w'→Calls Tryz.prog 108 #[ptrV RB,.int .i64 nd] w' fun e w''=>e=.returned (.bool kb)∧Below w'.heap.size w' w''):=κ28 fun w' hb=>by
  obtain ⟨y,s,hR,hO⟩:=h
  exact repKnown_any (hR.below hb) nd hn kb (by rw [hp,hO.kn])
 have HPl:Hid (∀ w',Below w.heap.size w w'→Calls Tryz.prog 54 #[ptrV RB,.int .i64 into] w' fun e w''=>e=.returned (.bool pb)∧Below w'.heap.size w' w''):=κ28 fun w' hb=>by
  obtain ⟨y,s,hR,hO⟩:=h
  exact repPlace_any (hR.below hb) into hi2 pb (by rw [hpp,hO.kn])
 obtain ⟨is,his⟩:∃ is,(kb && pb)=is:=⟨_,rfl⟩
 have HIs:=κ28 his
 rw [his]
 have HNx:Hid (∀ w',Below w.heap.size w w'→Calls Tryz.prog 53 #[ptrV RB,.bool is,opV ⟨0,0,0,109,nd,into,nm,⟨#[]⟩⟩] w' fun e w''=>e=.returned (.tuple #[opV (nextP b K is ⟨0,0,0,109,nd,into,nm,⟨#[]⟩⟩).1,errW ea (nextP b K is ⟨0,0,0,109,nd,into,nm,⟨#[]⟩⟩).2])∧Below w'.heap.size w' w''):=κ28 fun w' hb=>
  next_any ea col RB b K is _ w' (h.below hb) (hG.below hb) f2 f3 f4 f5 f6 f8 hK hKl hb0 hb4 (nextO_wf hK hb0 hb4 (by simp) (by simp) hn hi2 hnm nil_le)
 obtain ⟨y0,s0,hR0,hO0⟩:=h
 have hTr:Hid (∀ w',Below w.heap.size w w'→TrS 0 y0.TB y0.tb y0.tn y0.tv (logOf K) w'∧w'.cell? ⟨RB,7,none⟩=some (.pointer (some ⟨y0.TB,0,none⟩))):=κ28 fun w' hb=>⟨by have:=(hR0.below hb).tr;rwa [hO0.g] at this,(hR0.below hb).a.c7⟩
 have hok:PlOk (runO p00 (logOf K)):=plOk_run (logOk_of hK).nd
 obtain ⟨cy,hcy⟩:∃ cy,@decide (Ins (runO p00 (logOf K)) into nd) (Classical.propDecidable _)=cy:=⟨_,rfl⟩
 have HIn:Hid (∀ w',Below w.heap.size w w'→Calls Tryz.prog 83 #[.pointer (some ⟨y0.TB,0,none⟩),.int .i64 into,.int .i64 nd] w' fun e w''=>e=.returned (.bool cy)∧Below w'.heap.size w' w''):=κ28 fun w' hb=>by
  rw [←hcy]
  exact inside_any y0.TB y0.tb y0.tn _ into nd w' (hTr.out w' hb).1.p0 (hTr.out w' hb).1.mp hok hi2
 have HCy:Hid (cy=true↔Ins (runO p00 (logOf K)) into nd):=κ28 (by rw [←hcy];exact @decide_eq_true_iff _ (Classical.propDecidable _))
 obtain ⟨R,hR⟩:∃ R,moveP b K is ⟨0,0,0,109,nd,into,nm,⟨#[]⟩⟩=R:=⟨_,rfl⟩
 rw [hR]
 have HR:=κ28 hR
 obtain ⟨r,hr⟩:∃ r,nextP b K is ⟨0,0,0,109,nd,into,nm,⟨#[]⟩⟩=r:=⟨_,rfl⟩
 have HRr:=κ28 hr
 rw [hr] at HNx
 have HG:=κ28 hG
 unfold ptrV at *
 clear hR hr hG hK hKl hn hi2 hnm hp hpp hR0 hO0 hok hcy his
 go_enter Tryz.func96,Tryz.ntmps96
 go_wp2_with fail
 refine (HKn.out _ ((Below.refl w.heap.size w).alloc (Nat.le_refl _) _)).mono ?_
 rintro e w1 ⟨rfl,hb1⟩
 have HB1:Hid (Below w.heap.size w w1):=κ28 (((Below.refl w.heap.size w).alloc (Nat.le_refl _) (.cells zOp.cells 31)).trans (hb1.mono (by simp)))
 have HR1:Hid (∀ j,j < 8→(∃ u,w1.cell? ⟨w.heap.size,j,none⟩=some u)∧w1.frozen? ⟨w.heap.size,j,none⟩=false):=κ28 (box8_at (o:=zOp) hb1)
 clear hb1
 clear HKn
 cases kb with
 | false=>
  obtain rfl:is=false:=HIs.out.symm
  go_wp2_with fail
  refine (HNx.out _ HB1.out).mono ?_
  rintro e w3 ⟨rfl,hb3⟩
  have HB3:=κ28 (HB1.out.trans (hb3.mono HB1.out.size))
  have HR3:=κ28 (box8_below HR1.out hb3)
  clear hb3 HNx
  obtain ⟨nx,er⟩:=r
  by_cases her:er=0
  ·subst her
   have he:errW ea 0=.nilIface:=rfl
   simp only [he]
   go_upto_region 2 with (fail)
   obtain ⟨W4,hW4⟩:∃ W4,W4=w3.alloc (.cells #[.int .i64 nx.t,.int .i64 nx.b,.int .i64 nx.n,.int .u8 nx.k,.int .i64 nx.nd,.int .i64 nx.ot,.string nx.nm,.string nx.vl] 31):=⟨_,rfl⟩
   have h8:OpAt W4 w3.heap.size nx∧Below w3.heap.size w3 W4:=by
    rw [hW4]
    exact ⟨OpAt.start w3 nx _,(Below.refl w3.heap.size w3).alloc (Nat.le_refl _) _⟩
   rw [show _=W4 from hW4.symm]
   have HO4:=κ28 h8.1
   have HB4:=κ28 (HB3.out.trans (h8.2.mono HB3.out.size))
   have HR4:=κ28 (box8_below HR3.out h8.2)
   have c7:=(hTr.out W4 HB4.out).2
   clear hW4 h8
   by_cases hin:nd=into
   ·subst hin
    have HRv:Hid (R=(zOp,10)):=κ28 (by rw [←HR.out,moveP,if_pos ⟨by rw [HRr.out],.inl rfl⟩])
    obtain ⟨⟨u0,y0'⟩,x0⟩:=HR4.out 0 (by omega)
    obtain ⟨⟨u1,y1'⟩,x1⟩:=HR4.out 1 (by omega)
    obtain ⟨⟨u2,y2'⟩,x2⟩:=HR4.out 2 (by omega)
    obtain ⟨⟨u3,y3'⟩,x3⟩:=HR4.out 3 (by omega)
    obtain ⟨⟨u4,y4'⟩,x4⟩:=HR4.out 4 (by omega)
    obtain ⟨⟨u5,y5'⟩,x5⟩:=HR4.out 5 (by omega)
    obtain ⟨⟨u6,y6'⟩,x6⟩:=HR4.out 6 (by omega)
    obtain ⟨⟨u7,y7'⟩,x7⟩:=HR4.out 7 (by omega)
    go_wp2_with fail
    have g10:=(HG.out.errs 10 (by omega) (by omega) f10).var
    simp only [errG] at g10
    have hg10:=World.block_lt_of_cell? _ _ g10
    simp only at hg10
    have g10':=(HB4.out.cell hg10).trans g10
    clear g10
    go_region
    all_goals
     go_wp2_with fail
     have h8:=set8_at (w5:=W4) zOp (fun j hj=>(HR4.out j hj).1) HB4.out (Nat.le_refl _)
     obtain ⟨W8,hW8⟩:∃ W8,W8=((((((((W4.setCell ⟨w.heap.size,0,none⟩ (.int .i64 0)).setCell ⟨w.heap.size,1,none⟩ (.int .i64 0)).setCell ⟨w.heap.size,2,none⟩ (.int .i64 0)).setCell ⟨w.heap.size,3,none⟩ (.int .u8 0)).setCell ⟨w.heap.size,4,none⟩ (.int .i64 0)).setCell ⟨w.heap.size,5,none⟩ (.int .i64 0)).setCell ⟨w.heap.size,6,none⟩ (.string ⟨#[]⟩)).setCell ⟨w.heap.size,7,none⟩ (.string ⟨#[]⟩)):=⟨_,rfl⟩
     replace h8:OpAt W8 w.heap.size zOp∧Below w.heap.size w W8:=by rw [hW8];exact h8
     obtain ⟨⟨l0,l1,l2,l3,l4,l5,l6,l7⟩,hb8⟩:=h8
     first | rw [show _=W8 from hW8.symm] | rw [show _=W8.drew from congrArg World.drew hW8.symm]
     refine bodyPost_ret (v:=.tuple #[opV zOp,errV (ea 10)]) (by simp [results,Tryz.results96,go_sem,l0,l1,l2,l3,l4,l5,l6,l7]) rfl ⟨?_,by first | exact hb8 | exact hb8.drew⟩
     rw [HRv.out]
     first | rfl | rw [←he]
   ·have hq:(nd == into)=false:=by simpa using hin
    cases cy with
    | true=>
     have HRv:Hid (R=(zOp,10)):=κ28 (by rw [←HR.out,moveP,if_pos ⟨by rw [HRr.out],.inr (HCy.out.1 rfl)⟩])
     go_wp2_with fail
     refine (HIn.out _ HB4.out).mono ?_
     rintro e W5 ⟨rfl,hb5⟩
     have HO4':=κ28 (HO4.out.below hb5)
     have HB4':=κ28 (HB4.out.trans (hb5.mono HB4.out.size))
     have HR4':=κ28 (box8_below HR4.out hb5)
     clear hb5 HO4 HB4 HR4
     have HO4:=HO4'
     have HB4:=HB4'
     have HR4:=HR4'
     clear HO4' HB4' HR4'
     obtain ⟨⟨u0,y0'⟩,x0⟩:=HR4.out 0 (by omega)
     obtain ⟨⟨u1,y1'⟩,x1⟩:=HR4.out 1 (by omega)
     obtain ⟨⟨u2,y2'⟩,x2⟩:=HR4.out 2 (by omega)
     obtain ⟨⟨u3,y3'⟩,x3⟩:=HR4.out 3 (by omega)
     obtain ⟨⟨u4,y4'⟩,x4⟩:=HR4.out 4 (by omega)
     obtain ⟨⟨u5,y5'⟩,x5⟩:=HR4.out 5 (by omega)
     obtain ⟨⟨u6,y6'⟩,x6⟩:=HR4.out 6 (by omega)
     obtain ⟨⟨u7,y7'⟩,x7⟩:=HR4.out 7 (by omega)
     go_wp2_with fail
     have g10:=(HG.out.errs 10 (by omega) (by omega) f10).var
     simp only [errG] at g10
     have hg10:=World.block_lt_of_cell? _ _ g10
     simp only at hg10
     have g10':=(HB4.out.cell hg10).trans g10
     clear g10
     go_region
     all_goals
      go_wp2_with fail
      have h8:=set8_at (w5:=W5) zOp (fun j hj=>(HR4.out j hj).1) HB4.out (Nat.le_refl _)
      obtain ⟨W8,hW8⟩:∃ W8,W8=((((((((W5.setCell ⟨w.heap.size,0,none⟩ (.int .i64 0)).setCell ⟨w.heap.size,1,none⟩ (.int .i64 0)).setCell ⟨w.heap.size,2,none⟩ (.int .i64 0)).setCell ⟨w.heap.size,3,none⟩ (.int .u8 0)).setCell ⟨w.heap.size,4,none⟩ (.int .i64 0)).setCell ⟨w.heap.size,5,none⟩ (.int .i64 0)).setCell ⟨w.heap.size,6,none⟩ (.string ⟨#[]⟩)).setCell ⟨w.heap.size,7,none⟩ (.string ⟨#[]⟩)):=⟨_,rfl⟩
      replace h8:OpAt W8 w.heap.size zOp∧Below w.heap.size w W8:=by rw [hW8];exact h8
      obtain ⟨⟨l0,l1,l2,l3,l4,l5,l6,l7⟩,hb8⟩:=h8
      first | rw [show _=W8 from hW8.symm] | rw [show _=W8.drew from congrArg World.drew hW8.symm]
      refine bodyPost_ret (v:=.tuple #[opV zOp,errV (ea 10)]) (by simp [results,Tryz.results96,go_sem,l0,l1,l2,l3,l4,l5,l6,l7]) rfl ⟨?_,by first | exact hb8 | exact hb8.drew⟩
      rw [HRv.out]
      first | rfl | rw [←he]
    | false=>
     have HRv:Hid (R=(nx,0)):=κ28 (by rw [←HR.out,moveP,if_neg (by rintro ⟨_,h | h⟩;exact hin h;exact absurd (HCy.out.2 h) (by simp)),HRr.out])
     go_wp2_with fail
     refine (HIn.out _ HB4.out).mono ?_
     rintro e W5 ⟨rfl,hb5⟩
     have HO4':=κ28 (HO4.out.below hb5)
     have HB4':=κ28 (HB4.out.trans (hb5.mono HB4.out.size))
     have HR4':=κ28 (box8_below HR4.out hb5)
     clear hb5 HO4 HB4 HR4
     have HO4:=HO4'
     have HB4:=HB4'
     have HR4:=HR4'
     clear HO4' HB4' HR4'
     obtain ⟨⟨u0,y0'⟩,x0⟩:=HR4.out 0 (by omega)
     obtain ⟨⟨u1,y1'⟩,x1⟩:=HR4.out 1 (by omega)
     obtain ⟨⟨u2,y2'⟩,x2⟩:=HR4.out 2 (by omega)
     obtain ⟨⟨u3,y3'⟩,x3⟩:=HR4.out 3 (by omega)
     obtain ⟨⟨u4,y4'⟩,x4⟩:=HR4.out 4 (by omega)
     obtain ⟨⟨u5,y5'⟩,x5⟩:=HR4.out 5 (by omega)
     obtain ⟨⟨u6,y6'⟩,x6⟩:=HR4.out 6 (by omega)
     obtain ⟨⟨u7,y7'⟩,x7⟩:=HR4.out 7 (by omega)
     obtain ⟨j0,j1,j2,j3,j4,j5,j6,j7⟩:=HO4.out
     go_wp2_with fail
     have h8:=set8_at (w5:=W5) nx (fun j hj=>(HR4.out j hj).1) HB4.out (Nat.le_refl _)
     obtain ⟨W8,hW8⟩:∃ W8,W8=((((((((W5.setCell ⟨w.heap.size,0,none⟩ (.int .i64 nx.t)).setCell ⟨w.heap.size,1,none⟩ (.int .i64 nx.b)).setCell ⟨w.heap.size,2,none⟩ (.int .i64 nx.n)).setCell ⟨w.heap.size,3,none⟩ (.int .u8 nx.k)).setCell ⟨w.heap.size,4,none⟩ (.int .i64 nx.nd)).setCell ⟨w.heap.size,5,none⟩ (.int .i64 nx.ot)).setCell ⟨w.heap.size,6,none⟩ (.string nx.nm)).setCell ⟨w.heap.size,7,none⟩ (.string nx.vl)):=⟨_,rfl⟩
     replace h8:OpAt W8 w.heap.size nx∧Below w.heap.size w W8:=by rw [hW8];exact h8
     obtain ⟨⟨l0,l1,l2,l3,l4,l5,l6,l7⟩,hb8⟩:=h8
     first | rw [show _=W8 from hW8.symm] | rw [show _=W8.drew from congrArg World.drew hW8.symm]
     refine bodyPost_ret (v:=.tuple #[opV nx,.nilIface]) (by simp [results,Tryz.results96,go_sem,l0,l1,l2,l3,l4,l5,l6,l7]) rfl ⟨?_,by first | exact hb8 | exact hb8.drew⟩
     rw [HRv.out]
     first | rfl | rw [←he]
  ·have he:errW ea er=errV (ea er):=by rw [errW,if_neg her]
   simp only [he]
   have HRv:Hid (R=(nx,er)):=κ28 (by rw [←HR.out,moveP,if_neg (by rw [HRr.out];exact fun h=>her h.1),HRr.out])
   go_upto_region 2 with (fail)
   obtain ⟨W4,hW4⟩:∃ W4,W4=w3.alloc (.cells #[.int .i64 nx.t,.int .i64 nx.b,.int .i64 nx.n,.int .u8 nx.k,.int .i64 nx.nd,.int .i64 nx.ot,.string nx.nm,.string nx.vl] 31):=⟨_,rfl⟩
   have h8:OpAt W4 w3.heap.size nx∧Below w3.heap.size w3 W4:=by
    rw [hW4]
    exact ⟨OpAt.start w3 nx _,(Below.refl w3.heap.size w3).alloc (Nat.le_refl _) _⟩
   rw [show _=W4 from hW4.symm]
   have HO4:=κ28 h8.1
   have HB4:=κ28 (HB3.out.trans (h8.2.mono HB3.out.size))
   have HR4:=κ28 (box8_below HR3.out h8.2)
   have c7:=(hTr.out W4 HB4.out).2
   clear hW4 h8
   obtain ⟨⟨u0,y0'⟩,x0⟩:=HR4.out 0 (by omega)
   obtain ⟨⟨u1,y1'⟩,x1⟩:=HR4.out 1 (by omega)
   obtain ⟨⟨u2,y2'⟩,x2⟩:=HR4.out 2 (by omega)
   obtain ⟨⟨u3,y3'⟩,x3⟩:=HR4.out 3 (by omega)
   obtain ⟨⟨u4,y4'⟩,x4⟩:=HR4.out 4 (by omega)
   obtain ⟨⟨u5,y5'⟩,x5⟩:=HR4.out 5 (by omega)
   obtain ⟨⟨u6,y6'⟩,x6⟩:=HR4.out 6 (by omega)
   obtain ⟨⟨u7,y7'⟩,x7⟩:=HR4.out 7 (by omega)
   obtain ⟨j0,j1,j2,j3,j4,j5,j6,j7⟩:=HO4.out
   go_wp2_with fail
   have h8:=set8_at (w5:=W4) nx (fun j hj=>(HR4.out j hj).1) HB4.out (Nat.le_refl _)
   obtain ⟨W8,hW8⟩:∃ W8,W8=((((((((W4.setCell ⟨w.heap.size,0,none⟩ (.int .i64 nx.t)).setCell ⟨w.heap.size,1,none⟩ (.int .i64 nx.b)).setCell ⟨w.heap.size,2,none⟩ (.int .i64 nx.n)).setCell ⟨w.heap.size,3,none⟩ (.int .u8 nx.k)).setCell ⟨w.heap.size,4,none⟩ (.int .i64 nx.nd)).setCell ⟨w.heap.size,5,none⟩ (.int .i64 nx.ot)).setCell ⟨w.heap.size,6,none⟩ (.string nx.nm)).setCell ⟨w.heap.size,7,none⟩ (.string nx.vl)):=⟨_,rfl⟩
   replace h8:OpAt W8 w.heap.size nx∧Below w.heap.size w W8:=by rw [hW8];exact h8
   obtain ⟨⟨l0,l1,l2,l3,l4,l5,l6,l7⟩,hb8⟩:=h8
   first | rw [show _=W8 from hW8.symm] | rw [show _=W8.drew from congrArg World.drew hW8.symm]
   refine bodyPost_ret (v:=.tuple #[opV nx,errV (ea er)]) (by simp [results,Tryz.results96,go_sem,l0,l1,l2,l3,l4,l5,l6,l7]) rfl ⟨?_,by first | exact hb8 | exact hb8.drew⟩
   rw [HRv.out]
   first | rfl | rw [←he]
 | true=>
  obtain rfl:pb=is:=by have:=HIs.out;simpa using this
  go_wp2_with fail
  refine (HPl.out _ HB1.out).mono ?_
  rintro e w2 ⟨rfl,hb2⟩
  have HB2:=κ28 (HB1.out.trans (hb2.mono HB1.out.size))
  have HR2:=κ28 (box8_below HR1.out hb2)
  clear hb2 HPl
  go_wp2_with fail
  refine (HNx.out _ HB2.out).mono ?_
  rintro e w3 ⟨rfl,hb3⟩
  have HB3:=κ28 (HB2.out.trans (hb3.mono HB2.out.size))
  have HR3:=κ28 (box8_below HR2.out hb3)
  clear hb3 HNx
  obtain ⟨nx,er⟩:=r
  by_cases her:er=0
  ·subst her
   have he:errW ea 0=.nilIface:=rfl
   simp only [he]
   go_upto_region 2 with (fail)
   obtain ⟨W4,hW4⟩:∃ W4,W4=w3.alloc (.cells #[.int .i64 nx.t,.int .i64 nx.b,.int .i64 nx.n,.int .u8 nx.k,.int .i64 nx.nd,.int .i64 nx.ot,.string nx.nm,.string nx.vl] 31):=⟨_,rfl⟩
   have h8:OpAt W4 w3.heap.size nx∧Below w3.heap.size w3 W4:=by
    rw [hW4]
    exact ⟨OpAt.start w3 nx _,(Below.refl w3.heap.size w3).alloc (Nat.le_refl _) _⟩
   rw [show _=W4 from hW4.symm]
   have HO4:=κ28 h8.1
   have HB4:=κ28 (HB3.out.trans (h8.2.mono HB3.out.size))
   have HR4:=κ28 (box8_below HR3.out h8.2)
   have c7:=(hTr.out W4 HB4.out).2
   clear hW4 h8
   by_cases hin:nd=into
   ·subst hin
    have HRv:Hid (R=(zOp,10)):=κ28 (by rw [←HR.out,moveP,if_pos ⟨by rw [HRr.out],.inl rfl⟩])
    obtain ⟨⟨u0,y0'⟩,x0⟩:=HR4.out 0 (by omega)
    obtain ⟨⟨u1,y1'⟩,x1⟩:=HR4.out 1 (by omega)
    obtain ⟨⟨u2,y2'⟩,x2⟩:=HR4.out 2 (by omega)
    obtain ⟨⟨u3,y3'⟩,x3⟩:=HR4.out 3 (by omega)
    obtain ⟨⟨u4,y4'⟩,x4⟩:=HR4.out 4 (by omega)
    obtain ⟨⟨u5,y5'⟩,x5⟩:=HR4.out 5 (by omega)
    obtain ⟨⟨u6,y6'⟩,x6⟩:=HR4.out 6 (by omega)
    obtain ⟨⟨u7,y7'⟩,x7⟩:=HR4.out 7 (by omega)
    go_wp2_with fail
    have g10:=(HG.out.errs 10 (by omega) (by omega) f10).var
    simp only [errG] at g10
    have hg10:=World.block_lt_of_cell? _ _ g10
    simp only at hg10
    have g10':=(HB4.out.cell hg10).trans g10
    clear g10
    go_region
    all_goals
     go_wp2_with fail
     have h8:=set8_at (w5:=W4) zOp (fun j hj=>(HR4.out j hj).1) HB4.out (Nat.le_refl _)
     obtain ⟨W8,hW8⟩:∃ W8,W8=((((((((W4.setCell ⟨w.heap.size,0,none⟩ (.int .i64 0)).setCell ⟨w.heap.size,1,none⟩ (.int .i64 0)).setCell ⟨w.heap.size,2,none⟩ (.int .i64 0)).setCell ⟨w.heap.size,3,none⟩ (.int .u8 0)).setCell ⟨w.heap.size,4,none⟩ (.int .i64 0)).setCell ⟨w.heap.size,5,none⟩ (.int .i64 0)).setCell ⟨w.heap.size,6,none⟩ (.string ⟨#[]⟩)).setCell ⟨w.heap.size,7,none⟩ (.string ⟨#[]⟩)):=⟨_,rfl⟩
     replace h8:OpAt W8 w.heap.size zOp∧Below w.heap.size w W8:=by rw [hW8];exact h8
     obtain ⟨⟨l0,l1,l2,l3,l4,l5,l6,l7⟩,hb8⟩:=h8
     first | rw [show _=W8 from hW8.symm] | rw [show _=W8.drew from congrArg World.drew hW8.symm]
     refine bodyPost_ret (v:=.tuple #[opV zOp,errV (ea 10)]) (by simp [results,Tryz.results96,go_sem,l0,l1,l2,l3,l4,l5,l6,l7]) rfl ⟨?_,by first | exact hb8 | exact hb8.drew⟩
     rw [HRv.out]
     first | rfl | rw [←he]
   ·have hq:(nd == into)=false:=by simpa using hin
    cases cy with
    | true=>
     have HRv:Hid (R=(zOp,10)):=κ28 (by rw [←HR.out,moveP,if_pos ⟨by rw [HRr.out],.inr (HCy.out.1 rfl)⟩])
     go_wp2_with fail
     refine (HIn.out _ HB4.out).mono ?_
     rintro e W5 ⟨rfl,hb5⟩
     have HO4':=κ28 (HO4.out.below hb5)
     have HB4':=κ28 (HB4.out.trans (hb5.mono HB4.out.size))
     have HR4':=κ28 (box8_below HR4.out hb5)
     clear hb5 HO4 HB4 HR4
     have HO4:=HO4'
     have HB4:=HB4'
     have HR4:=HR4'
     clear HO4' HB4' HR4'
     obtain ⟨⟨u0,y0'⟩,x0⟩:=HR4.out 0 (by omega)
     obtain ⟨⟨u1,y1'⟩,x1⟩:=HR4.out 1 (by omega)
     obtain ⟨⟨u2,y2'⟩,x2⟩:=HR4.out 2 (by omega)
     obtain ⟨⟨u3,y3'⟩,x3⟩:=HR4.out 3 (by omega)
     obtain ⟨⟨u4,y4'⟩,x4⟩:=HR4.out 4 (by omega)
     obtain ⟨⟨u5,y5'⟩,x5⟩:=HR4.out 5 (by omega)
     obtain ⟨⟨u6,y6'⟩,x6⟩:=HR4.out 6 (by omega)
     obtain ⟨⟨u7,y7'⟩,x7⟩:=HR4.out 7 (by omega)
     go_wp2_with fail
     have g10:=(HG.out.errs 10 (by omega) (by omega) f10).var
     simp only [errG] at g10
     have hg10:=World.block_lt_of_cell? _ _ g10
     simp only at hg10
     have g10':=(HB4.out.cell hg10).trans g10
     clear g10
     go_region
     all_goals
      go_wp2_with fail
      have h8:=set8_at (w5:=W5) zOp (fun j hj=>(HR4.out j hj).1) HB4.out (Nat.le_refl _)
      obtain ⟨W8,hW8⟩:∃ W8,W8=((((((((W5.setCell ⟨w.heap.size,0,none⟩ (.int .i64 0)).setCell ⟨w.heap.size,1,none⟩ (.int .i64 0)).setCell ⟨w.heap.size,2,none⟩ (.int .i64 0)).setCell ⟨w.heap.size,3,none⟩ (.int .u8 0)).setCell ⟨w.heap.size,4,none⟩ (.int .i64 0)).setCell ⟨w.heap.size,5,none⟩ (.int .i64 0)).setCell ⟨w.heap.size,6,none⟩ (.string ⟨#[]⟩)).setCell ⟨w.heap.size,7,none⟩ (.string ⟨#[]⟩)):=⟨_,rfl⟩
      replace h8:OpAt W8 w.heap.size zOp∧Below w.heap.size w W8:=by rw [hW8];exact h8
      obtain ⟨⟨l0,l1,l2,l3,l4,l5,l6,l7⟩,hb8⟩:=h8
      first | rw [show _=W8 from hW8.symm] | rw [show _=W8.drew from congrArg World.drew hW8.symm]
      refine bodyPost_ret (v:=.tuple #[opV zOp,errV (ea 10)]) (by simp [results,Tryz.results96,go_sem,l0,l1,l2,l3,l4,l5,l6,l7]) rfl ⟨?_,by first | exact hb8 | exact hb8.drew⟩
      rw [HRv.out]
      first | rfl | rw [←he]
    | false=>
     have HRv:Hid (R=(nx,0)):=κ28 (by rw [←HR.out,moveP,if_neg (by rintro ⟨_,h | h⟩;exact hin h;exact absurd (HCy.out.2 h) (by simp)),HRr.out])
     go_wp2_with fail
     refine (HIn.out _ HB4.out).mono ?_
     rintro e W5 ⟨rfl,hb5⟩
     have HO4':=κ28 (HO4.out.below hb5)
     have HB4':=κ28 (HB4.out.trans (hb5.mono HB4.out.size))
     have HR4':=κ28 (box8_below HR4.out hb5)
     clear hb5 HO4 HB4 HR4
     have HO4:=HO4'
     have HB4:=HB4'
     have HR4:=HR4'
     clear HO4' HB4' HR4'
     obtain ⟨⟨u0,y0'⟩,x0⟩:=HR4.out 0 (by omega)
     obtain ⟨⟨u1,y1'⟩,x1⟩:=HR4.out 1 (by omega)
     obtain ⟨⟨u2,y2'⟩,x2⟩:=HR4.out 2 (by omega)
     obtain ⟨⟨u3,y3'⟩,x3⟩:=HR4.out 3 (by omega)
     obtain ⟨⟨u4,y4'⟩,x4⟩:=HR4.out 4 (by omega)
     obtain ⟨⟨u5,y5'⟩,x5⟩:=HR4.out 5 (by omega)
     obtain ⟨⟨u6,y6'⟩,x6⟩:=HR4.out 6 (by omega)
     obtain ⟨⟨u7,y7'⟩,x7⟩:=HR4.out 7 (by omega)
     obtain ⟨j0,j1,j2,j3,j4,j5,j6,j7⟩:=HO4.out
     go_wp2_with fail
     have h8:=set8_at (w5:=W5) nx (fun j hj=>(HR4.out j hj).1) HB4.out (Nat.le_refl _)
     obtain ⟨W8,hW8⟩:∃ W8,W8=((((((((W5.setCell ⟨w.heap.size,0,none⟩ (.int .i64 nx.t)).setCell ⟨w.heap.size,1,none⟩ (.int .i64 nx.b)).setCell ⟨w.heap.size,2,none⟩ (.int .i64 nx.n)).setCell ⟨w.heap.size,3,none⟩ (.int .u8 nx.k)).setCell ⟨w.heap.size,4,none⟩ (.int .i64 nx.nd)).setCell ⟨w.heap.size,5,none⟩ (.int .i64 nx.ot)).setCell ⟨w.heap.size,6,none⟩ (.string nx.nm)).setCell ⟨w.heap.size,7,none⟩ (.string nx.vl)):=⟨_,rfl⟩
     replace h8:OpAt W8 w.heap.size nx∧Below w.heap.size w W8:=by rw [hW8];exact h8
     obtain ⟨⟨l0,l1,l2,l3,l4,l5,l6,l7⟩,hb8⟩:=h8
     first | rw [show _=W8 from hW8.symm] | rw [show _=W8.drew from congrArg World.drew hW8.symm]
     refine bodyPost_ret (v:=.tuple #[opV nx,.nilIface]) (by simp [results,Tryz.results96,go_sem,l0,l1,l2,l3,l4,l5,l6,l7]) rfl ⟨?_,by first | exact hb8 | exact hb8.drew⟩
     rw [HRv.out]
     first | rfl | rw [←he]
  ·have he:errW ea er=errV (ea er):=by rw [errW,if_neg her]
   simp only [he]
   have HRv:Hid (R=(nx,er)):=κ28 (by rw [←HR.out,moveP,if_neg (by rw [HRr.out];exact fun h=>her h.1),HRr.out])
   go_upto_region 2 with (fail)
   obtain ⟨W4,hW4⟩:∃ W4,W4=w3.alloc (.cells #[.int .i64 nx.t,.int .i64 nx.b,.int .i64 nx.n,.int .u8 nx.k,.int .i64 nx.nd,.int .i64 nx.ot,.string nx.nm,.string nx.vl] 31):=⟨_,rfl⟩
   have h8:OpAt W4 w3.heap.size nx∧Below w3.heap.size w3 W4:=by
    rw [hW4]
    exact ⟨OpAt.start w3 nx _,(Below.refl w3.heap.size w3).alloc (Nat.le_refl _) _⟩
   rw [show _=W4 from hW4.symm]
   have HO4:=κ28 h8.1
   have HB4:=κ28 (HB3.out.trans (h8.2.mono HB3.out.size))
   have HR4:=κ28 (box8_below HR3.out h8.2)
   have c7:=(hTr.out W4 HB4.out).2
   clear hW4 h8
   obtain ⟨⟨u0,y0'⟩,x0⟩:=HR4.out 0 (by omega)
   obtain ⟨⟨u1,y1'⟩,x1⟩:=HR4.out 1 (by omega)
   obtain ⟨⟨u2,y2'⟩,x2⟩:=HR4.out 2 (by omega)
   obtain ⟨⟨u3,y3'⟩,x3⟩:=HR4.out 3 (by omega)
   obtain ⟨⟨u4,y4'⟩,x4⟩:=HR4.out 4 (by omega)
   obtain ⟨⟨u5,y5'⟩,x5⟩:=HR4.out 5 (by omega)
   obtain ⟨⟨u6,y6'⟩,x6⟩:=HR4.out 6 (by omega)
   obtain ⟨⟨u7,y7'⟩,x7⟩:=HR4.out 7 (by omega)
   obtain ⟨j0,j1,j2,j3,j4,j5,j6,j7⟩:=HO4.out
   go_wp2_with fail
   have h8:=set8_at (w5:=W4) nx (fun j hj=>(HR4.out j hj).1) HB4.out (Nat.le_refl _)
   obtain ⟨W8,hW8⟩:∃ W8,W8=((((((((W4.setCell ⟨w.heap.size,0,none⟩ (.int .i64 nx.t)).setCell ⟨w.heap.size,1,none⟩ (.int .i64 nx.b)).setCell ⟨w.heap.size,2,none⟩ (.int .i64 nx.n)).setCell ⟨w.heap.size,3,none⟩ (.int .u8 nx.k)).setCell ⟨w.heap.size,4,none⟩ (.int .i64 nx.nd)).setCell ⟨w.heap.size,5,none⟩ (.int .i64 nx.ot)).setCell ⟨w.heap.size,6,none⟩ (.string nx.nm)).setCell ⟨w.heap.size,7,none⟩ (.string nx.vl)):=⟨_,rfl⟩
   replace h8:OpAt W8 w.heap.size nx∧Below w.heap.size w W8:=by rw [hW8];exact h8
   obtain ⟨⟨l0,l1,l2,l3,l4,l5,l6,l7⟩,hb8⟩:=h8
   first | rw [show _=W8 from hW8.symm] | rw [show _=W8.drew from congrArg World.drew hW8.symm]
   refine bodyPost_ret (v:=.tuple #[opV nx,errV (ea er)]) (by simp [results,Tryz.results96,go_sem,l0,l1,l2,l3,l4,l5,l6,l7]) rfl ⟨?_,by first | exact hb8 | exact hb8.drew⟩
   rw [HRv.out]
   first | rfl | rw [←he]
def NewEnds (ea:Nat→Addr) (b:Int) (w:World) (e:Ending) (w':World):Prop:=
 ((0≤b∧b < 4)∧∃ col RB,e=.returned (.tuple #[ptrV RB,.nilIface])∧RepD col RB b [] w'∧Below w.heap.size w w'∧∀ k,col k≠0→w.heap.size≤k)∨
 (¬ (0≤b∧b < 4)∧e=.returned (.tuple #[.pointer none,errV (ea 2)])∧Below w.heap.size w w')
theorem Rw.lower0 {T:Type} {E:Enc T} {ty:TypeId} {base:Nat} {v:Value} {L:List T} {w:World} (h:Rw E ty base v L w):Rw E ty 0 v L w:=by
 refine ⟨h.1,?_⟩
 rcases h.2 with hn | ⟨g,cap,cur,hv,hb,rest⟩
 ·exact .inl hn
 ·exact .inr ⟨g,cap,cur,hv,Nat.zero_le _,rest⟩
theorem new_lays (w w2 w3:World) (b:Int) (TB tb CC cb:Nat) (h2:TrS (w.alloc (.cells #[.int .i64 0,.int .i64 b] 182)).heap.size TB tb 0 (.slice none 0 0) [] w2) (hb2:Below (w.alloc (.cells #[.int .i64 0,.int .i64 b] 182)).heap.size (w.alloc (.cells #[.int .i64 0,.int .i64 b] 182)) w2)
  (h3:CSt w2.heap.size CC cb 0 (fun _=>none) w3) (hb3:Below w2.heap.size w2 w3) (W:World) (hW:W=(w3.alloc (.map #[] 0)).alloc (.cells #[ptrV w.heap.size,.int .i64 b,.int .i64 0,.int .i64 0,.int .i64 0,.int .i64 0,.slice none 0 0,ptrV TB,ptrV CC,.map (some w3.heap.size)] 103)) :
  ∃ col,RepD col (w3.heap.size+1) b [] W∧Below w.heap.size w W∧∀ k,col k≠0→w.heap.size≤k:=by
 have hs1:(w.alloc (.cells #[.int .i64 0,.int .i64 b] 182)).heap.size=w.heap.size+1:=by simp
 have hs2:=hb2.size
 have hs3:=hb3.size
 have hTB:=h2.lt
 have htb:=h2.mp.lt
 have hTB0:=h2.geT
 have htb0:=h2.geb
 have hCC:=h3.lt
 have hcb:=h3.mt.lt
 have hCC0:=h3.ge
 have hcb0:=h3.geb
 rw [hs1] at hs2 hTB0 htb0
 have hA:Below w3.heap.size w3 W:=by rw [hW];exact ((Below.refl _ _).alloc (Nat.le_refl _) _).alloc (by simp) _
 have hB:Below w2.heap.size w2 W:=hb3.trans (hA.mono hs3)
 have hC:Below (w.heap.size+1) (w.alloc (.cells #[.int .i64 0,.int .i64 b] 182)) W:=by
  have:=hb2.trans (hB.mono (by omega))
  rwa [hs1] at this
 have hD:Below w.heap.size w W:=((Below.refl w.heap.size w).alloc (Nat.le_refl _) _).trans (hC.mono (by omega))
 have hWs:W.heap.size=w3.heap.size+2:=by rw [hW];simp
 have cR:∀ j u,(#[ptrV w.heap.size,.int .i64 b,.int .i64 0,.int .i64 0,.int .i64 0,.int .i64 0,.slice none 0 0,ptrV TB,ptrV CC,.map (some w3.heap.size)]:Array Value)[j]?=some u→W.cell? ⟨w3.heap.size+1,j,none⟩=some u:=fun j u hj=>by
  rw [hW,show w3.heap.size+1=(w3.alloc (.map #[] 0)).heap.size by simp,World.cell?_alloc_new]
  exact hj
 have fR:∀ j,W.frozen? ⟨w3.heap.size+1,j,none⟩=false:=fun j=>by
  rw [hW,show w3.heap.size+1=(w3.alloc (.map #[] 0)).heap.size by simp,World.frozen?_alloc_new]
 have cK:∀ j u,(#[.int .i64 0,.int .i64 b]:Array Value)[j]?=some u→W.cell? ⟨w.heap.size,j,none⟩=some u:=fun j u hj=>by
  refine (hC.cell (p:=⟨w.heap.size,j,none⟩) (by show w.heap.size < w.heap.size+1;omega)).trans ?_
  rw [World.cell?_alloc_new]
  exact hj
 have fK:∀ j,W.frozen? ⟨w.heap.size,j,none⟩=false:=fun j=>by
  refine (hC.frozen (p:=⟨w.heap.size,j,none⟩) (by show w.heap.size < w.heap.size+1;omega)).trans ?_
  rw [World.frozen?_alloc_new]
 refine ⟨fun k=>if k < w.heap.size then 0 else if k=w.heap.size then 2 else if k < w2.heap.size then 4 else if k < w3.heap.size then 5 else if k=w3.heap.size then 6 else if k=w3.heap.size+1 then 1 else 0,⟨⟨w.heap.size,.slice none 0 0,TB,tb,0,.slice none 0 0,CC,cb,0,w3.heap.size,0,fun _=>0,fun _=>.slice none 0 0⟩,⟨fun _=>0,0,[],fun _=>none,fun _=>False,fun _=>[],[],0⟩,⟨⟨cR 0 _ rfl,cR 1 _ rfl,cR 2 _ rfl,cR 3 _ rfl,cR 4 _ rfl,cR 5 _ rfl,cR 6 _ rfl,cR 7 _ rfl,cR 8 _ rfl,cR 9 _ rfl,fR⟩,⟨cK 0 _ rfl,cK 1 _ rfl,fK⟩,Rw.nil _ _ _ _,?_,?_,?_,fun nd hn=>hn.elim,?_,fun k hk=>?_,Nat.le_refl _,Nat.le_refl _,Nat.le_refl _⟩,Of.start⟩,hD,fun k hk=>?_⟩
 ·have:=h2.below hB
  exact ⟨this.p0,this.p1,this.f1,this.mp,this.row.lower0,Nat.zero_le _,Nat.zero_le _,this.ne,this.ner⟩
 ·have:=h3.below hA
  exact ⟨this.ptr,this.mt,Nat.zero_le _,Nat.zero_le _,this.ne⟩
 ·have hm:=(MT.made w3 Tryz.prog 3 ekI ptrV).below ((Below.refl _ _).alloc (Nat.le_refl _) (.cells #[ptrV w.heap.size,.int .i64 b,.int .i64 0,.int .i64 0,.int .i64 0,.int .i64 0,.slice none 0 0,ptrV TB,ptrV CC,.map (some w3.heap.size)] 103))
  rw [←hW] at hm
  exact hm.of_eq fun x kl _=>by simp [txM]
 ·refine ⟨?_,?_,fun k hk=>by simp [Value.ownBlock] at hk,?_,?_,fun k hk=>by simp [Value.ownBlock] at hk,?_,?_,?_,fun nd hn=>hn.elim,fun nd hn=>hn.elim,fun nd hn=>hn.elim⟩
  ·simp only
   rw [if_neg (by omega),if_neg (by omega),if_neg (by omega),if_neg (by omega),if_neg (by omega),if_pos trivial]
  ·simp
  ·simp only
   rw [if_neg (by omega),if_neg (by omega),if_pos (by omega)]
  ·simp only
   rw [if_neg (by omega),if_neg (by omega),if_pos (by omega)]
  ·simp only
   rw [if_neg (by omega),if_neg (by omega),if_neg (by omega),if_pos (by omega)]
  ·simp only
   rw [if_neg (by omega),if_neg (by omega),if_neg (by omega),if_pos (by omega)]
  ·simp only
   rw [if_neg (by omega),if_neg (by omega),if_neg (by omega),if_neg (by omega),if_pos trivial]
 ·refine Classical.byContradiction fun hn=>hk ?_
  show (if _ then _ else _)=(0:Int)
  rw [if_neg (by omega),if_neg (by omega),if_neg (by omega),if_neg (by omega),if_neg (by omega),if_neg (by omega)]
 ·refine Classical.byContradiction fun hn=>hk ?_
  show (if _ then _ else _)=(0:Int)
  rw [if_pos (by omega)]
theorem newB_any {F0:Nat→Bool} (ea:Nat→Addr) (b:Int) (w:World) (hG:Gd F0 ea w) (f2:F0 2=true) (hb:I64 b) :
  Calls Tryz.prog 10 #[.int .i64 b] w (NewEnds ea b w):=by
 by_cases hr:0≤b∧b < 4
 ·suffices hh:Calls Tryz.prog 10 #[.int .i64 b] w fun e w'=>∃ col RB,e=.returned (.tuple #[ptrV RB,.nilIface])∧RepD col RB b [] w'∧Below w.heap.size w w'∧∀ k,col k≠0→w.heap.size≤k from hh.mono fun e w' h=>.inl ⟨hr,h⟩
  obtain ⟨W,hW⟩:∃ W,W=w.alloc (.cells #[.int .i64 0,.int .i64 b] 182):=⟨_,rfl⟩
  have HC:=κ28 (clockNew_ok b w hr.1 hr.2)
  rw [←hW] at HC
  have HT:=κ28 (treeNew_any W)
  have HS:=κ28 (fun w'=>cellsNew_any w')
  have HW:=κ28 hW
  have hmm:=@run_makeMap Tryz.prog
  clear hW hr
  go_enter Tryz.func10,Tryz.ntmps10
  go_wp2_with fail
  refine HC.out.mono ?_
  rintro e w1 ⟨rfl,rfl⟩
  go_wp2_with fail
  refine HT.out.mono ?_
  rintro e w2 ⟨TB,tb,rfl,h2,hb2⟩
  have H2:=κ28 h2
  have HB2:=κ28 hb2
  clear h2 hb2 HC HT
  go_wp2_with fail
  refine (HS.out _).mono ?_
  rintro e w3 ⟨CC,cb,rfl,h3,hb3⟩
  have H3:=κ28 h3
  have HB3:=κ28 hb3
  clear h3 hb3 HS
  go_wp2_with fail
  go_ret2
  have hw1:=HW.out
  subst hw1
  obtain ⟨col,h1,h2,h3⟩:=new_lays w w2 w3 b TB tb CC cb H2.out HB2.out H3.out HB3.out _ rfl
  exact ⟨col,w3.heap.size+1,rfl,h1,h2,h3⟩
 ·have hE:=hG.errs 2 (by omega) (by omega) f2
  have HC:=κ28 (clockNew_bad b w (ea 2) hE (by omega))
  suffices hh:Calls Tryz.prog 10 #[.int .i64 b] w fun e w'=>e=.returned (.tuple #[.pointer none,errV (ea 2)])∧Below w.heap.size w w' from hh.mono fun e w' h=>.inr ⟨hr,h⟩
  clear hE hr
  go_enter Tryz.func10,Tryz.ntmps10
  go_wp2_with fail
  refine HC.out.mono ?_
  rintro e w1 ⟨rfl,hb1⟩
  have HB:=κ28 hb1
  clear hb1
  go_wp2_with fail
  go_ret2
  exact ⟨rfl,HB.out⟩
theorem row_set1 {T:Type} {E:Enc T} {L:List T} {k i:Nat} {y z:T} {u:Value} (hy:L[k]?=some y) (hi:i < E.k) (hz:E.cells z=(E.cells y).set i u):E.row (L.set k z)=(E.row L).set (k*E.k+i) u:=by
 induction L generalizing k with
 | nil=>simp at hy
 | cons a r ih=>
  cases k with
  | zero=>
   simp at hy
   subst hy
   rw [List.set_cons_zero,Enc.row_cons,Enc.row_cons,hz,Nat.zero_mul,Nat.zero_add,List.set_append_left _ _ (by rw [E.len];exact hi)]
  | succ k=>
   rw [List.set_cons_succ,Enc.row_cons,Enc.row_cons,ih (by simpa using hy),List.set_append_right _ _ (by rw [E.len,Nat.add_mul];omega),E.len,show (k+1)*E.k+i - E.k=k*E.k+i by rw [Nat.add_mul];omega]
theorem Rw.setOp {base g n c k:Nat} {L:List OpT} {x y:OpT} {w:World} (h:Rw opE 31 base (.slice (some ⟨g,0,none⟩) n c) L w) (hy:L[k]?=some y) :
  Rw opE 31 base (.slice (some ⟨g,0,none⟩) n c) (L.set k x) ((((((((w.setCell ⟨g,k*8,none⟩ (.int .i64 x.t)).setCell ⟨g,k*8+1,none⟩ (.int .i64 x.b)).setCell ⟨g,k*8+2,none⟩ (.int .i64 x.n)).setCell ⟨g,k*8+3,none⟩ (.int .u8 x.k)).setCell ⟨g,k*8+4,none⟩ (.int .i64 x.nd)).setCell ⟨g,k*8+5,none⟩ (.int .i64 x.ot)).setCell ⟨g,k*8+6,none⟩ (.string x.nm)).setCell ⟨g,k*8+7,none⟩ (.string x.vl))∧
  Fr (fun j=>j=g) w ((((((((w.setCell ⟨g,k*8,none⟩ (.int .i64 x.t)).setCell ⟨g,k*8+1,none⟩ (.int .i64 x.b)).setCell ⟨g,k*8+2,none⟩ (.int .i64 x.n)).setCell ⟨g,k*8+3,none⟩ (.int .u8 x.k)).setCell ⟨g,k*8+4,none⟩ (.int .i64 x.nd)).setCell ⟨g,k*8+5,none⟩ (.int .i64 x.ot)).setCell ⟨g,k*8+6,none⟩ (.string x.nm)).setCell ⟨g,k*8+7,none⟩ (.string x.vl)):=by
 have hkl:=(List.getElem?_eq_some_iff.1 hy).1
 have hl:∀ z:OpT,(L.set k z).length=L.length:=fun z=>List.length_set
 have hg:∀ z:OpT,(L.set k z)[k]?=some z:=fun z=>by rw [List.getElem?_set_self hkl]
 obtain ⟨r1,g1⟩:=h.stored (L':=L.set k ⟨x.t,y.b,y.n,y.k,y.nd,y.ot,y.nm,y.vl⟩) (k*8) (.int .i64 x.t) (hl _) (row_set1 (i:=0) (E:=opE) hy (by decide) rfl)
 obtain ⟨r2,g2⟩:=r1.stored (L':=L.set k ⟨x.t,x.b,y.n,y.k,y.nd,y.ot,y.nm,y.vl⟩) (k*8+1) (.int .i64 x.b) (by rw [hl,hl]) (by rw [←List.set_set (l:=L) (a:=⟨x.t,y.b,y.n,y.k,y.nd,y.ot,y.nm,y.vl⟩)];exact row_set1 (i:=1) (E:=opE) (hg _) (by decide) rfl)
 obtain ⟨r3,g3⟩:=r2.stored (L':=L.set k ⟨x.t,x.b,x.n,y.k,y.nd,y.ot,y.nm,y.vl⟩) (k*8+2) (.int .i64 x.n) (by rw [hl,hl]) (by rw [←List.set_set (l:=L) (a:=⟨x.t,x.b,y.n,y.k,y.nd,y.ot,y.nm,y.vl⟩)];exact row_set1 (i:=2) (E:=opE) (hg _) (by decide) rfl)
 obtain ⟨r4,g4⟩:=r3.stored (L':=L.set k ⟨x.t,x.b,x.n,x.k,y.nd,y.ot,y.nm,y.vl⟩) (k*8+3) (.int .u8 x.k) (by rw [hl,hl]) (by rw [←List.set_set (l:=L) (a:=⟨x.t,x.b,x.n,y.k,y.nd,y.ot,y.nm,y.vl⟩)];exact row_set1 (i:=3) (E:=opE) (hg _) (by decide) rfl)
 obtain ⟨r5,g5⟩:=r4.stored (L':=L.set k ⟨x.t,x.b,x.n,x.k,x.nd,y.ot,y.nm,y.vl⟩) (k*8+4) (.int .i64 x.nd) (by rw [hl,hl]) (by rw [←List.set_set (l:=L) (a:=⟨x.t,x.b,x.n,x.k,y.nd,y.ot,y.nm,y.vl⟩)];exact row_set1 (i:=4) (E:=opE) (hg _) (by decide) rfl)
 obtain ⟨r6,g6⟩:=r5.stored (L':=L.set k ⟨x.t,x.b,x.n,x.k,x.nd,x.ot,y.nm,y.vl⟩) (k*8+5) (.int .i64 x.ot) (by rw [hl,hl]) (by rw [←List.set_set (l:=L) (a:=⟨x.t,x.b,x.n,x.k,x.nd,y.ot,y.nm,y.vl⟩)];exact row_set1 (i:=5) (E:=opE) (hg _) (by decide) rfl)
 obtain ⟨r7,g7⟩:=r6.stored (L':=L.set k ⟨x.t,x.b,x.n,x.k,x.nd,x.ot,x.nm,y.vl⟩) (k*8+6) (.string x.nm) (by rw [hl,hl]) (by rw [←List.set_set (l:=L) (a:=⟨x.t,x.b,x.n,x.k,x.nd,x.ot,y.nm,y.vl⟩)];exact row_set1 (i:=6) (E:=opE) (hg _) (by decide) rfl)
 obtain ⟨r8,g8⟩:=r7.stored (L':=L.set k x) (k*8+7) (.string x.vl) (by rw [hl,hl]) (by rw [←List.set_set (l:=L) (a:=⟨x.t,x.b,x.n,x.k,x.nd,x.ot,x.nm,y.vl⟩)];exact row_set1 (i:=7) (E:=opE) (hg _) (by decide) rfl)
 have f:=@fr_of_grown
 exact ⟨r8,(((((((fr_of_grown (X:=fun j=>j=g) g1 rfl).trans (fr_of_grown (X:=fun j=>j=g) g2 rfl)).trans (fr_of_grown (X:=fun j=>j=g) g3 rfl)).trans (fr_of_grown (X:=fun j=>j=g) g4 rfl)).trans (fr_of_grown (X:=fun j=>j=g) g5 rfl)).trans (fr_of_grown (X:=fun j=>j=g) g6 rfl)).trans (fr_of_grown (X:=fun j=>j=g) g7 rfl)).trans (fr_of_grown (X:=fun j=>j=g) g8 rfl)⟩
theorem Rw.cut {T:Type} {E:Enc T} {ty:TypeId} {base g n c:Nat} {L:List T} {w:World} (h:Rw E ty base (.slice (some ⟨g,0,none⟩) n c) L w) {i:Nat} (hi:i≤n):Rw E ty base (.slice (some ⟨g,0,none⟩) i c) (L.take i) w:=by
 have hn:n=L.length:=h.sl.len
 have hl:(L.take i).length=i:=by rw [List.length_take];omega
 unfold Rw at h ⊢
 rw [hl]
 refine ⟨by rw [E.row_len,hl],?_⟩
 rcases h.2 with ⟨e,_⟩ | ⟨g',cap,cur,e,hb,hh,h1,h2,h3,h4⟩
 ·cases e
 ·cases e
  refine .inr ⟨g,c,cur,rfl,hb,hh,by omega,h2,h3,?_⟩
  rw [←Enc.row_take,←h4,List.take_take]
  congr 1
  rw [←hn]
  exact (Nat.min_eq_left (Nat.mul_le_mul_right _ hi)).symm
theorem Rw.beyond {T:Type} {E:Enc T} {ty:TypeId} {base g n c:Nat} {L:List T}:∀ (vs:List Value) (o:Nat) (w:World),n*E.k≤o→Rw E ty base (.slice (some ⟨g,0,none⟩) n c) L w→Rw E ty base (.slice (some ⟨g,0,none⟩) n c) L (w.setCells g o vs)∧Fr (·=g) w (w.setCells g o vs)
 | [],o,w,_,h=>⟨h,Fr.of_below (Below.refl _ _)⟩
 | v :: r,o,w,ho,h=>by
  have hn:n=L.length:=h.sl.len
  obtain ⟨r1,g1⟩:=h.stored (L':=L) o v rfl (by rw [List.set_eq_of_length_le (by rw [E.row_len,←hn];exact ho)])
  obtain ⟨r2,g2⟩:=Rw.beyond r (o+1) _ (by omega) r1
  exact ⟨r2,(fr_of_grown (X:=(·=g)) g1 rfl).trans g2⟩
theorem run_clearOps (w:World) (ty:TypeId) (g o m c:Nat) (hm:0 < m) (hc:∀ j,j < m*8→(w.cell? ⟨g,o+j,none⟩).isSome=true) (hf:∀ j,w.frozen? ⟨g,j,none⟩=false) :
  (Builtin.clear_ #[36] ty #[.slice (some ⟨g,o,none⟩) m c]).run Tryz.prog w=.ok (.tuple #[]) (w.setCells g o (Builtin.zeroCells zOp.cells m).toList):=by
 have hl:(Builtin.zeroCells zOp.cells m).toList.length=m*8:=by simp [Builtin.zeroCells,zOp,OpT.cells]
 have h1:∀ v∈(Builtin.zeroCells zOp.cells m).toList,v.oneCell'=true:=fun v hv=>by
  simp only [Builtin.zeroCells,Array.toList_map,List.mem_map] at hv
  obtain ⟨i,_,rfl⟩:=hv
  have:i % zOp.cells.size < 8:=Nat.mod_lt _ (by decide)
  generalize i % zOp.cells.size=q at this
  rcases (show q=0∨q=1∨q=2∨q=3∨q=4∨q=5∨q=6∨q=7 by omega) with rfl | rfl | rfl | rfl | rfl | rfl | rfl | rfl <;> rfl
 have hst:=run_storeCells_cells (P:=Tryz.prog) g o (Builtin.zeroCells zOp.cells m).toList 0 w (by rw [hl];simpa using hc) (fun j _=>hf _) h1
 simp only [Nat.add_zero] at hst
 obtain ⟨m,rfl⟩:∃ m',m=m' + 1:=⟨m - 1,by omega⟩
 have hz:∀ w,(zeroValue 31).run Tryz.prog w=.ok (opV zOp) w:=fun w=>by simp [go_sem,opV,zOp]
 have hzz:(opV zOp).cells=zOp.cells:=rfl
 simp [Builtin.clear_,run_underlying Tryz.underlying36,hz,hzz,hst]
def VecAt (VB:Nat) (v:Int→Int) (w:World):Prop:=∀ a:Nat,a < 4→w.cell? ⟨VB,a,none⟩=some (.int .i64 (v a))
theorem VecAt.lt {VB:Nat} {v:Int→Int} {w:World} (h:VecAt VB v w):VB < w.heap.size:=World.block_lt_of_cell? _ _ (h 0 (by omega))
theorem VecAt.fr {X:Nat→Prop} {VB:Nat} {v:Int→Int} {w w':World} (h:VecAt VB v w) (hF:Fr X w w') (hx:¬ X VB):VecAt VB v w':=fun a ha=>(hF.cell h.lt hx).trans (h a ha)
def heardB (v:Int→Int) (o:OpT):Bool:=decide (o.n≤v o.b)
theorem heard_any (VB:Nat) (v:Int→Int) (o:OpT) (w:World) (hv:VecAt VB v w) (h0:0≤o.b) (h4:o.b < 4) :
  Calls Tryz.prog 104 #[opV o,.pointer (some ⟨VB,0,none⟩)] w fun e w'=>e=.returned (.bool (heardB v o))∧Below w.heap.size w w':=by
 obtain ⟨a,ha⟩:∃ a:Nat,o.b=a:=⟨o.b.toNat,by omega⟩
 have ha4:a < 4:=by omega
 have hc:=hv a ha4
 have hl:=hv.lt
 have hvv:heardB v o=decide (o.n≤v a):=by unfold heardB;rw [ha]
 rw [hvv]
 have a0:(0:Int)≤(a:Int):=by omega
 have a4:(a:Int) < 4:=by omega
 obtain ⟨t,b,n,k,nd,ot,nm,vl⟩:=o
 simp only at ha
 subst ha
 clear hv hvv h0 h4
 generalize v a=q at *
 have hc1:(w.alloc (.cells (⟨t,a,n,k,nd,ot,nm,vl⟩:OpT).cells 31)).cell? ⟨VB,a,none⟩=some (.int .i64 q):=cell_keep' ((Below.refl w.heap.size w).alloc (Nat.le_refl _) _) hc
 have hne:w.heap.size≠VB:=by omega
 have j1:(w.alloc (.cells (⟨t,a,n,k,nd,ot,nm,vl⟩:OpT).cells 31)).cell? ⟨w.heap.size,1,none⟩=some (.int .i64 a):=(OpAt.start w ⟨t,a,n,k,nd,ot,nm,vl⟩ _).c1
 have j2:(w.alloc (.cells (⟨t,a,n,k,nd,ot,nm,vl⟩:OpT).cells 31)).cell? ⟨w.heap.size,2,none⟩=some (.int .i64 n):=(OpAt.start w ⟨t,a,n,k,nd,ot,nm,vl⟩ _).c2
 clear hc
 simp only
 by_cases hle:n≤q
 ·rw [decide_eq_true hle]
  go_enter Tryz.func104,Tryz.ntmps104
  go_wp2_with fail
  go_region
  all_goals
   go_wp2_with fail
   go_ret
   exact ⟨by simp [hle],by go_grown⟩
 ·rw [decide_eq_false hle]
  go_enter Tryz.func104,Tryz.ntmps104
  go_wp2_with fail
  go_region
  all_goals
   go_wp2_with fail
   go_ret
   exact ⟨by simp [hle],by go_grown⟩
def firstH (v:Int→Int) (L:List OpT) (r:Int):Prop:=(r = -1∧∀ x,x∈L→heardB v x=false)∨∃ (k:Nat) (x:OpT),L[k]?=some x∧r=(k:Int)∧heardB v x=true∧∀ (j:Nat) (y:OpT),j < k→L[j]?=some y→heardB v y=false
abbrev clV (VB:Nat):Value:=.func (.func 104) #[] #[.pointer (some ⟨VB,0,none⟩)]
theorem indexOp_any (VB:Nat) (v:Int→Int) (A:Option Addr) (n c:Nat) (L:List OpT) (w:World) (hs:SlV opE w (.slice A n c) L) (hc:n≤maxLen) (hv:VecAt VB v w) (hb:∀ x,x∈L→0≤x.b∧x.b < 4) :
  Calls Tryz.prog 149 #[.slice A n c,clV VB] w fun e w'=>∃ r:Int,e=.returned (.int .i64 r)∧firstH v L r∧Below w.heap.size w w':=by
 have hn:=hs.len
 have HN:=κ28 hn
 have HS:=κ28 hs
 have HV:=κ28 hv
 have HB:=κ28 hb
 have hmx:n≤9223372036854775807:=by unfold maxLen at hc;omega
 clear hs hn hc hv hb
 go_enter Tryz.func149,Tryz.ntmps149
 go_wp2_with fail
 go_loopw [5,8] (fun v5 v8 wr=>∃ j:Nat,j≤n∧v8=.int .i64 j∧Hid (Below w.heap.size w wr)∧Hid (∀ i x,i < j→L[i]?=some x→heardB v x=false)) (fun v5 v8 _=>n - (RowKit.intOf v8).toNat)
 case atStart=>exact ⟨0,by omega,rfl,κ28 (Below.refl _ _),κ28 (fun i x h=>by omega)⟩
 case round=>
  obtain ⟨j,hj,rfl,HW,HA⟩:=hrel
  by_cases hlt:j < n
  ·obtain ⟨x,hx⟩:∃ x,L[j]?=some x:=⟨_,List.getElem?_eq_getElem (by have:=HN.out;omega)⟩
   obtain ⟨b,off,rfl,hbl,c0,c1,c2,c3,c4,c5,c6,c7⟩:=ops_at (HS.out.below HW.out) hx
   have HX:=κ28 hx
   have hxm:=HB.out x (List.mem_of_getElem? hx)
   have HC:=κ28 (heard_any VB v x wr (HV.out.fr (X:=fun _=>False) (Fr.of_below HW.out) (fun h=>h)) hxm.1 hxm.2)
   obtain ⟨q,hq⟩:∃ q,heardB v x=q:=⟨_,rfl⟩
   have HQ:=κ28 hq
   rw [hq] at HC
   have i1:(0:Int)≤(j:Int):=by omega
   have i2:(j:Int) < (n:Int):=by omega
   clear hx hxm hq hbl
   go_wp2_with fail
   refine HC.out.mono ?_
   rintro e w1 ⟨rfl,hb1⟩
   have HW1:=κ28 (HW.out.trans (hb1.mono HW.out.size))
   clear hb1 c0 c1 c2 c3 c4 c5 c6 c7
   cases q with
   | true=>
    go_wp2_with fail
    go_ret
    exact ⟨j,rfl,.inr ⟨j,x,HX.out,rfl,HQ.out,fun i y h1 h2=>HA.out i y h1 h2⟩,HW1.out⟩
   | false=>
    go_wp2_with fail
    go_roundw
    case rel=>exact ⟨j+1,by omega,by go_num,HW1,κ28 (fun i y h1 h2=>by
     by_cases he:i=j
     ·subst he
      rw [HX.out] at h2
      cases h2
      exact HQ.out
     ·exact HA.out i y (by omega) h2)⟩
    case measure=>simp [RowKit.intOf];omega
  ·obtain rfl:j=n:=by omega
   have i2:¬ (j:Int) < (j:Int):=by omega
   go_wp2_with fail
   go_ret
   exact ⟨_,rfl,.inl ⟨rfl,fun x hx=>by
    obtain ⟨i,hi,rfl⟩:=List.getElem_of_mem hx
    exact HA.out i _ (by have:=HN.out;omega) (List.getElem?_eq_getElem hi)⟩,HW.out⟩
structure SiftL (L:List OpT) (keep:OpT→Bool) (i j:Nat) (M:List OpT):Prop where
 len:M.length=L.length
 lt:i < j
 jle:j≤L.length
 done:M.take i=(L.take j).filter keep
 rest:∀ k,j≤k→M[k]?=L[k]?
theorem SiftL.start {L:List OpT} {v:Int→Int} {k:Nat} {x:OpT} (hx:L[k]?=some x) (hh:heardB v x=true) (ha:∀ (j:Nat) (y:OpT),j < k→L[j]?=some y→heardB v y=false):SiftL L (fun o=>!heardB v o) k (k+1) L:=by
 have hl:=(List.getElem?_eq_some_iff.1 hx).1
 refine ⟨rfl,by omega,by omega,?_,fun _ _=>rfl⟩
 rw [List.take_add_one,hx,List.filter_append]
 simp only [Option.toList_some]
 rw [List.filter_cons_of_neg (by simp [hh]),List.filter_nil,List.append_nil]
 refine (List.filter_eq_self.2 fun y hy=>?_).symm
 obtain ⟨j,hj,rfl⟩:=List.getElem_of_mem hy
 have hj':j < k:=by rw [List.length_take] at hj;omega
 rw [List.getElem_take]
 simp [ha j _ hj' (List.getElem?_eq_getElem (by omega))]
theorem SiftL.keep {L M:List OpT} {keep:OpT→Bool} {i j:Nat} {x:OpT} (h:SiftL L keep i j M) (hx:L[j]?=some x) (hk:keep x=true):SiftL L keep (i+1) (j+1) (M.set i x):=by
 have hl:=(List.getElem?_eq_some_iff.1 hx).1
 have h1:=h.len
 have h2:=h.lt
 refine ⟨by rw [List.length_set,h1],by omega,by omega,?_,fun k hk'=>?_⟩
 ·rw [List.take_add_one,List.take_set_of_le (Nat.le_refl _),List.getElem?_set_self (by omega),h.done,List.take_add_one,hx,List.filter_append]
  simp [hk]
 ·rw [List.getElem?_set_ne (by omega),h.rest k (by omega)]
theorem SiftL.skip {L M:List OpT} {keep:OpT→Bool} {i j:Nat} {x:OpT} (h:SiftL L keep i j M) (hx:L[j]?=some x) (hk:keep x=false):SiftL L keep i (j+1) M:=by
 have hl:=(List.getElem?_eq_some_iff.1 hx).1
 have h2:=h.lt
 refine ⟨h.len,by omega,by omega,?_,fun k hk'=>h.rest k (by omega)⟩
 rw [h.done,List.take_add_one,hx,List.filter_append]
 simp [hk]
abbrev OpC (B off:Nat) (x:OpT) (w:World):Prop:=w.cell? ⟨B,off,none⟩=some (.int .i64 x.t)∧w.cell? ⟨B,off+1,none⟩=some (.int .i64 x.b)∧w.cell? ⟨B,off+2,none⟩=some (.int .i64 x.n)∧w.cell? ⟨B,off+3,none⟩=some (.int .u8 x.k)∧w.cell? ⟨B,off+4,none⟩=some (.int .i64 x.nd)∧w.cell? ⟨B,off+5,none⟩=some (.int .i64 x.ot)∧w.cell? ⟨B,off+6,none⟩=some (.string x.nm)∧w.cell? ⟨B,off+7,none⟩=some (.string x.vl)
theorem Rw.op {base g n c:Nat} {L:List OpT} {w:World} (h:Rw opE 31 base (.slice (some ⟨g,0,none⟩) n c) L w) {i:Nat} {x:OpT} (hx:L[i]?=some x):OpC g (i*8) x w:=
 ⟨h.at' rfl hx (j:=0) rfl,h.at' rfl hx (j:=1) rfl,h.at' rfl hx (j:=2) rfl,h.at' rfl hx (j:=3) rfl,h.at' rfl hx (j:=4) rfl,h.at' rfl hx (j:=5) rfl,h.at' rfl hx (j:=6) rfl,h.at' rfl hx (j:=7) rfl⟩
theorem deleteOp_any (base VB:Nat) (v:Int→Int) (g n c:Nat) (L:List OpT) (w:World) (hr:Rw opE 31 base (.slice (some ⟨g,0,none⟩) n c) L w) (hv:VecAt VB v w) (hne:VB≠g) (hb:∀ x,x∈L→0≤x.b∧x.b < 4) :
  Calls Tryz.prog 103 #[.slice (some ⟨g,0,none⟩) n c,clV VB] w fun e w'=>∃ m:Nat,e=.returned (.slice (some ⟨g,0,none⟩) m c)∧Rw opE 31 base (.slice (some ⟨g,0,none⟩) m c) (L.filter fun o=>!heardB v o) w'∧Fr (·=g) w w':=by
 have hn:n=L.length:=hr.sl.len
 have hnc:n≤c∧c≤maxLen:=by
  rcases hr.form with ⟨e,_⟩ | ⟨g',cap,e,h1,h2,_⟩
  ·cases e
  ·cases e;exact ⟨by omega,h2⟩
 have HI:=κ28 (indexOp_any VB v (some ⟨g,0,none⟩) n c L w hr.sl (by omega) hv hb)
 have hmx:c≤9223372036854775807:=by have:=hnc.2;unfold maxLen at this;omega
 have hnc1:=hnc.1
 have HR:=κ28 hr
 have HV:=κ28 hv
 have HB:=κ28 hb
 have HN:=κ28 hn
 have HNe:=κ28 hne
 clear hr hv hb hn hne hnc
 go_enter Tryz.func103,Tryz.ntmps103
 go_wp2_with fail
 refine HI.out.mono ?_
 rintro e w1 ⟨r,rfl,hf,hb1⟩
 have HB1:=κ28 hb1
 clear hb1 HI
 rcases hf with ⟨rfl,hnone⟩ | ⟨k0,x0,hx0,rfl,hh0,ha0⟩
 ·have HNo:=κ28 hnone
  clear hnone
  go_wp2_with fail
  go_ret
  refine ⟨n,rfl,?_,Fr.of_below HB1.out⟩
  rw [List.filter_eq_self.2 fun x hx=>by simp [HNo.out x hx]]
  exact HR.out.below HB1.out
 ·have HS0:=κ28 (SiftL.start hx0 hh0 ha0)
  have hk0:k0 < n:=by have:=(List.getElem?_eq_some_iff.1 hx0).1;have:=HN.out;omega
  have hm1:((k0:Int) == -1)=false:=beq_eq_false_iff_ne.2 (by omega)
  clear hx0 hh0 ha0
  go_wp2_with fail
  go_loopw [5,6] (fun v5 v6 wr=>∃ (i j:Nat) (M:List OpT),v5=.int .i64 i∧v6=.int .i64 j∧i < j∧j≤n∧Hid (SiftL L (fun o=>!heardB v o) i j M∧Rw opE 31 base (.slice (some ⟨g,0,none⟩) n c) M wr∧Fr (·=g) w wr)) (fun v5 v6 _=>n - (RowKit.intOf v6).toNat)
  case atStart=>exact ⟨k0,k0+1,L,rfl,by go_num,by omega,by omega,κ28 ⟨HS0.out,HR.out.below HB1.out,Fr.of_below HB1.out⟩⟩
  case round=>
   obtain ⟨i,j,M,rfl,rfl,hij,hjn,HH⟩:=hrel
   by_cases hlt:j < n
   ·obtain ⟨x,hx⟩:∃ x,L[j]?=some x:=⟨_,List.getElem?_eq_getElem (by have:=HN.out;omega)⟩
    obtain ⟨y,hy⟩:∃ y,M[i]?=some y:=⟨_,List.getElem?_eq_getElem (by have:=HN.out;have:=HH.out.1.len;omega)⟩
    obtain ⟨c0,c1,c2,c3,c4,c5,c6,c7⟩:=HH.out.2.1.op ((HH.out.1.rest j (Nat.le_refl _)).trans hx)
    have HX:=κ28 hx
    have HY:=κ28 hy
    have hxm:=HB.out x (List.mem_of_getElem? hx)
    obtain ⟨q,hq⟩:∃ q,heardB v x=q:=⟨_,rfl⟩
    have HQ:=κ28 hq
    have HC:=κ28 (fun w' (hv':VecAt VB v w')=>by have:=heard_any VB v x w' hv' hxm.1 hxm.2;rw [hq] at this;exact this)
    have i1:(0:Int)≤(j:Int):=by omega
    have i2:(j:Int) < (n:Int):=by omega
    clear hx hxm hq hy
    go_wp2_with fail
    refine (HC.out _ ((HV.out.fr HH.out.2.2 HNe.out).fr (X:=fun _=>False) (Fr.of_below ((Below.refl _ _).alloc (Nat.le_refl _) _)) (fun h=>h))).mono ?_
    rintro e w2 ⟨rfl,hb2⟩
    have HW2:Hid (Below wr.heap.size wr w2):=κ28 (((Below.refl wr.heap.size wr).alloc (Nat.le_refl _) (.cells x.cells 31)).trans (hb2.mono (by simp)))
    have HA2:Hid (OpAt w2 wr.heap.size x):=κ28 ((OpAt.start wr x 31).below hb2)
    clear hb2 c0 c1 c2 c3 c4 c5 c6 c7 HC
    have HR2:=κ28 (HH.out.2.1.below HW2.out)
    cases q with
    | true=>
     go_wp2_with fail
     go_roundw
     case rel=>exact ⟨i,j+1,M,rfl,by go_num,by omega,by omega,κ28 ⟨HH.out.1.skip HX.out (by simp [HQ.out]),HR2.out,HH.out.2.2.trans (Fr.of_below HW2.out)⟩⟩
     case measure=>simp [RowKit.intOf];omega
    | false=>
     obtain ⟨a0,a1,a2,a3,a4,a5,a6,a7⟩:=HA2.out
     obtain ⟨r0,r1,r2,r3,r4,r5,r6,r7⟩:=HR2.out.op HY.out
     have z:=HR2.out.fz
     have z0:=z (i*8)
     have z1:=z (i*8+1)
     have z2:=z (i*8+2)
     have z3:=z (i*8+3)
     have z4:=z (i*8+4)
     have z5:=z (i*8+5)
     have z6:=z (i*8+6)
     have z7:=z (i*8+7)
     have i3:(0:Int)≤(i:Int):=by omega
     have i4:(i:Int) < (n:Int):=by omega
     have ng:wr.heap.size≠g:=by
      have:=(HR2.out.lt g rfl).2
      have:=(HH.out.2.1.lt g rfl).2
      omega
     clear z
     go_wp2_with fail
     go_roundw
     case rel=>exact ⟨i+1,j+1,M.set i x,by go_num,by go_num,by omega,by omega,κ28 ⟨HH.out.1.keep HX.out (by simp [HQ.out]),(HR2.out.setOp HY.out).1,(HH.out.2.2.trans (Fr.of_below HW2.out)).trans (HR2.out.setOp HY.out).2⟩⟩
     case measure=>simp [RowKit.intOf];omega
   ·obtain rfl:j=n:=by omega
    have i2:¬ (j:Int) < (j:Int):=by omega
    have i3:(0:Int)≤(i:Int):=by omega
    have i4:(i:Int)≤(j:Int):=by omega
    have hml:M.length=j:=by rw [HH.out.1.len,HN.out]
    have HCl:=fun ty=>run_clearOps wr ty g (i*8) (j - i) (c - i) (by omega) (fun q hq=>by
     obtain ⟨x,hx⟩:∃ x,M[i+q / 8]?=some x:=⟨_,List.getElem?_eq_getElem (by omega)⟩
     obtain ⟨u,hu⟩:∃ u,(opE.cells x)[q % 8]?=some u:=⟨_,List.getElem?_eq_getElem (by rw [opE.len];exact Nat.mod_lt _ (by decide))⟩
     have:=HH.out.2.1.at' rfl hx hu
     rw [show (i+q / 8)*opE.k+q % 8=i*8+q by show (i+q / 8)*8+q % 8=_;omega] at this
     rw [this];rfl) HH.out.2.1.fz
    have HBy:=κ28 ((HH.out.2.1.cut (i:=i) (by omega)).beyond (Builtin.zeroCells zOp.cells (j - i)).toList (i*8) wr (Nat.le_refl _))
    go_wp2_with fail
    go_ret
    refine ⟨i,rfl,?_,HH.out.2.2.trans HBy.out.2⟩
    have:=HBy.out.1
    rw [HH.out.1.done,List.take_of_length_le (by have:=HN.out;omega)] at this
    exact this
theorem deleteOp_nil (VB:Nat) (v:Int→Int) (w:World) (hv:VecAt VB v w) :
  Calls Tryz.prog 103 #[.slice none 0 0,clV VB] w fun e w'=>e=.returned (.slice none 0 0)∧Below w.heap.size w w':=by
 have HI:=κ28 (indexOp_any VB v none 0 0 [] w (.inl ⟨rfl,rfl⟩) (by decide) hv (fun x hx=>by simp at hx))
 clear hv
 go_enter Tryz.func103,Tryz.ntmps103
 go_wp2_with fail
 refine HI.out.mono ?_
 rintro e w1 ⟨r,rfl,hf,hb1⟩
 have HB1:=κ28 hb1
 clear hb1 HI
 obtain rfl:r = -1:=by
  rcases hf with h | ⟨k,x,h,_⟩
  ·exact h.1
  ·simp at h
 clear hf
 go_wp2_with fail
 go_ret
 exact ⟨rfl,HB1.out⟩
def vecI (v:Int→Int):Value:=.agg #[.int .i64 (v 0),.int .i64 (v 1),.int .i64 (v 2),.int .i64 (v 3)]
def diffI (v:Int→Int) (K:List OpT):List OpT:=K.filter fun o=>!heardB v o
theorem diffI_any (col:Nat→Int) (RB:Nat) (b:Int) (K:List OpT) (v:Int→Int) (w:World) (h:RepD col RB b K w) (hK:DOk K) (hKl:K.length≤400) :
  Calls Tryz.prog 46 #[ptrV RB,vecI v] w fun e w'=>∃ v',e=.returned v'∧Rw opE 31 w.heap.size v' (diffI v K) w'∧Below w.heap.size w w':=by
 obtain ⟨W,hW⟩:∃ W,W=w.alloc (.cells #[.int .i64 (v 0),.int .i64 (v 1),.int .i64 (v 2),.int .i64 (v 3)] 48):=⟨_,rfl⟩
 have hbW:Below w.heap.size w W:=by rw [hW];exact (Below.refl _ _).alloc (Nat.le_refl _) _
 have hs:W.heap.size=w.heap.size+1:=by rw [hW];simp
 have hVW:VecAt w.heap.size v W:=fun a ha=>by
  rw [hW,World.cell?_alloc_new]
  rcases (show a=0∨a=1∨a=2∨a=3 by omega) with rfl | rfl | rfl | rfl <;> rfl
 have HO:=κ28 (repOps_any col RB b K W (h.below hbW) (by omega))
 have HB:Hid (∀ x,x∈K→0≤x.b∧x.b < 4):=κ28 fun x hx=>⟨(hK.fine hx).b1,(hK.fine hx).b2⟩
 have HbW:=κ28 hbW
 have HVW:=κ28 hVW
 have Hs:=κ28 hs
 have HW:=κ28 hW.symm
 clear h hK hKl hbW hVW hs hW
 unfold ptrV vecI at *
 go_enter Tryz.func46,Tryz.ntmps46
 go_upto_region 1 with (fail)
 rw [HW.out]
 go_wp2_with fail
 refine HO.out.mono ?_
 rintro e w1 ⟨v1,rfl,hr1,hb1⟩
 have HV1:=κ28 (HVW.out.fr (X:=fun _=>False) (Fr.of_below hb1) (fun h=>h))
 have HB1:=κ28 (HbW.out.trans (hb1.mono HbW.out.size))
 have HR1:=κ28 hr1
 clear hb1 HO
 rcases hr1.form with ⟨rfl,hnil⟩ | ⟨g,cap,rfl,_,_,hg,_⟩
 ·have HD:=κ28 (deleteOp_nil w.heap.size _ w1 HV1.out)
  have HN:=κ28 hnil
  clear hr1 hnil
  go_wp2_with fail
  refine HD.out.mono ?_
  rintro e w2 ⟨rfl,hb2⟩
  have HB2:=κ28 (HB1.out.trans (hb2.mono HB1.out.size))
  clear hb2
  go_wp2_with fail
  go_ret
  refine ⟨_,rfl,?_,HB2.out⟩
  rw [HN.out]
  exact Rw.nil _ _ _ _
 ·have hgw:w.heap.size < g:=by have:=Hs.out;omega
  have HD:=κ28 (deleteOp_any W.heap.size w.heap.size _ g K.length cap K w1 hr1 HV1.out (by omega) HB.out)
  have Hg:=κ28 hgw
  clear hr1 hg hgw
  go_wp2_with fail
  refine HD.out.mono ?_
  rintro e w2 ⟨m,rfl,hr2,hF2⟩
  have HR2:=κ28 hr2
  have HF2:=κ28 hF2
  clear hr2 hF2
  go_wp2_with fail
  go_ret
  refine ⟨_,rfl,?_,HB1.out.trans (HF2.out.below HB1.out.size (fun k hk=>by have:=Hg.out;omega))⟩
  have:=HR2.out
  exact this.lower (by have:=Hs.out;omega)
end Go.Proofs.YtjekalilfhnpmaaGreatDoor
