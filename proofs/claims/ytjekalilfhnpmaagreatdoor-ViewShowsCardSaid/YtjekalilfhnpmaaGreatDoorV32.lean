/- A replica moves a node. Written by gen_repn.py. A replica, new. -/
import Derived.Test.YtjekalilfhnpmaaGreatDoorV31
namespace Go.Proofs.YtjekalilfhnpmaaGreatDoor
open Go Go.RowKit Go.Maps Go.Shelf LineOrd Tree
set_option linter.unusedVariables false
set_option linter.unusedSimpArgs false
set_option maxHeartbeats 2000000
set_option maxRecDepth 100000
open Classical in
noncomputable def moveP (b:Int) (K:List OpT) (is:Bool) (o:OpT):OpT×Nat:=
 if (nextP b K is o).2=0∧(o.nd=o.ot∨Ins (runO p00 (logOf K)) o.ot o.nd) then (zOp,10) else nextP b K is o
theorem move_any {F0:Nat→Bool} (ea:Nat→Addr) (col:Nat→Int) (RB:Nat) (b:Int) (K:List OpT) (nd into:Int) (nm:ByteArray) (w:World) (h:RepD col RB b K w) (hG:Gd F0 ea w) (f2:F0 2=true) (f3:F0 3=true) (f4:F0 4=true) (f5:F0 5=true) (f6:F0 6=true) (f8:F0 8=true)
  (hK:DOk K) (hKl:K.length≤400) (hb0:0≤b) (hb4:b < 4) (f10:F0 10=true) (hn:I64 nd) (hi2:I64 into) (hnm:nm.size≤100000) (kb:Bool) (hp:kb=true↔Known K nd) (pb:Bool) (hpp:pb=true↔into=0∨into=1∨Known K into) :
  Calls Tryz.prog 96 #[ptrV RB,.int .i64 nd,.int .i64 into,.string nm] w (MkEnds ea (moveP b K (kb && pb) ⟨0,0,0,109,nd,into,nm,⟨#[]⟩⟩) w):=by
 have HKn:Hid (∀ w',Below w.heap.size w w'→Calls Tryz.prog 108 #[ptrV RB,.int .i64 nd] w' fun e w''=>e=.returned (.bool kb)∧Below w'.heap.size w' w''):=Lib.hid fun w' hb=>by
  obtain ⟨y,s,hR,hO⟩:=h
  exact repKnown_any (hR.below hb) nd hn kb (by rw [hp,hO.kn])
 have HPl:Hid (∀ w',Below w.heap.size w w'→Calls Tryz.prog 54 #[ptrV RB,.int .i64 into] w' fun e w''=>e=.returned (.bool pb)∧Below w'.heap.size w' w''):=Lib.hid fun w' hb=>by
  obtain ⟨y,s,hR,hO⟩:=h
  exact repPlace_any (hR.below hb) into hi2 pb (by rw [hpp,hO.kn])
 obtain ⟨is,his⟩:∃ is,(kb && pb)=is:=⟨_,rfl⟩
 have HIs:=Lib.hid his
 rw [his]
 have HNx:Hid (∀ w',Below w.heap.size w w'→Calls Tryz.prog 53 #[ptrV RB,.bool is,opV ⟨0,0,0,109,nd,into,nm,⟨#[]⟩⟩] w' fun e w''=>e=.returned (.tuple #[opV (nextP b K is ⟨0,0,0,109,nd,into,nm,⟨#[]⟩⟩).1,errW ea (nextP b K is ⟨0,0,0,109,nd,into,nm,⟨#[]⟩⟩).2])∧Below w'.heap.size w' w''):=Lib.hid fun w' hb=>
  next_any ea col RB b K is _ w' (h.below hb) (hG.below hb) f2 f3 f4 f5 f6 f8 hK hKl hb0 hb4 (nextO_wf hK hb0 hb4 (by simp) (by simp) hn hi2 hnm nil_le)
 obtain ⟨y0,s0,hR0,hO0⟩:=h
 have hTr:Hid (∀ w',Below w.heap.size w w'→TrS 0 y0.TB y0.tb y0.tn y0.tv (logOf K) w'∧w'.cell? ⟨RB,7,none⟩=some (.pointer (some ⟨y0.TB,0,none⟩))):=Lib.hid fun w' hb=>⟨by have:=(hR0.below hb).tr;rwa [hO0.g] at this,(hR0.below hb).a.c7⟩
 have hok:PlOk (runO p00 (logOf K)):=plOk_run (logOk_of hK).nd
 obtain ⟨cy,hcy⟩:∃ cy,@decide (Ins (runO p00 (logOf K)) into nd) (Classical.propDecidable _)=cy:=⟨_,rfl⟩
 have HIn:Hid (∀ w',Below w.heap.size w w'→Calls Tryz.prog 83 #[.pointer (some ⟨y0.TB,0,none⟩),.int .i64 into,.int .i64 nd] w' fun e w''=>e=.returned (.bool cy)∧Below w'.heap.size w' w''):=Lib.hid fun w' hb=>by
  rw [←hcy]
  exact inside_any y0.TB y0.tb y0.tn _ into nd w' (hTr.out w' hb).1.p0 (hTr.out w' hb).1.mp hok hi2
 have HCy:Hid (cy=true↔Ins (runO p00 (logOf K)) into nd):=Lib.hid (by rw [←hcy];exact @decide_eq_true_iff _ (Classical.propDecidable _))
 obtain ⟨R,hR⟩:∃ R,moveP b K is ⟨0,0,0,109,nd,into,nm,⟨#[]⟩⟩=R:=⟨_,rfl⟩
 rw [hR]
 have HR:=Lib.hid hR
 obtain ⟨r,hr⟩:∃ r,nextP b K is ⟨0,0,0,109,nd,into,nm,⟨#[]⟩⟩=r:=⟨_,rfl⟩
 have HRr:=Lib.hid hr
 rw [hr] at HNx
 have HG:=Lib.hid hG
 unfold ptrV at *
 clear hR hr hG hK hKl hn hi2 hnm hp hpp hR0 hO0 hok hcy his
 go_enter Tryz.func96,Tryz.ntmps96
 go_wp2_with fail
 refine (HKn.out _ ((Below.refl w.heap.size w).alloc (Nat.le_refl _) _)).mono ?_
 rintro e w1 ⟨rfl,hb1⟩
 have HB1:Hid (Below w.heap.size w w1):=Lib.hid (((Below.refl w.heap.size w).alloc (Nat.le_refl _) (.cells zOp.cells 31)).trans (hb1.mono (by simp)))
 have HR1:Hid (∀ j,j < 8→(∃ u,w1.cell? ⟨w.heap.size,j,none⟩=some u)∧w1.frozen? ⟨w.heap.size,j,none⟩=false):=Lib.hid (box8_at (o:=zOp) hb1)
 clear hb1
 clear HKn
 cases kb with
 | false=>
  obtain rfl:is=false:=HIs.out.symm
  go_wp2_with fail
  refine (HNx.out _ HB1.out).mono ?_
  rintro e w3 ⟨rfl,hb3⟩
  have HB3:=Lib.hid (HB1.out.trans (hb3.mono HB1.out.size))
  have HR3:=Lib.hid (box8_below HR1.out hb3)
  clear hb3 HNx
  obtain ⟨nx,er⟩:=r
  by_cases her:er=0
  ·subst her
   have he:errW ea 0=.nilIface:=rfl
   simp only [he]
   go_upto_region 2 with (fail)
   obtain ⟨W4,hW4⟩:∃ W4,W4=w3.alloc (.cells #[.int .i64 nx.t,.int .i64 nx.b,.int .i64 nx.n,.int .u8 nx.k,.int .i64 nx.nd,.int .i64 nx.ot,.string nx.nm,.string nx.vl] 31):=⟨_,rfl⟩
   have h8:OpAt W4 w3.heap.size nx∧Below w3.heap.size w3 W4:=by
    rw [hW4]
    exact ⟨OpAt.start w3 nx _,(Below.refl w3.heap.size w3).alloc (Nat.le_refl _) _⟩
   rw [show _=W4 from hW4.symm]
   have HO4:=Lib.hid h8.1
   have HB4:=Lib.hid (HB3.out.trans (h8.2.mono HB3.out.size))
   have HR4:=Lib.hid (box8_below HR3.out h8.2)
   have c7:=(hTr.out W4 HB4.out).2
   clear hW4 h8
   by_cases hin:nd=into
   ·subst hin
    have HRv:Hid (R=(zOp,10)):=Lib.hid (by rw [←HR.out,moveP,if_pos ⟨by rw [HRr.out],.inl rfl⟩])
    obtain ⟨⟨u0,y0'⟩,x0⟩:=HR4.out 0 (by omega)
    obtain ⟨⟨u1,y1'⟩,x1⟩:=HR4.out 1 (by omega)
    obtain ⟨⟨u2,y2'⟩,x2⟩:=HR4.out 2 (by omega)
    obtain ⟨⟨u3,y3'⟩,x3⟩:=HR4.out 3 (by omega)
    obtain ⟨⟨u4,y4'⟩,x4⟩:=HR4.out 4 (by omega)
    obtain ⟨⟨u5,y5'⟩,x5⟩:=HR4.out 5 (by omega)
    obtain ⟨⟨u6,y6'⟩,x6⟩:=HR4.out 6 (by omega)
    obtain ⟨⟨u7,y7'⟩,x7⟩:=HR4.out 7 (by omega)
    go_wp2_with fail
    have g10:=(HG.out.errs 10 (by omega) (by omega) f10).var
    simp only [errG] at g10
    have hg10:=World.block_lt_of_cell? _ _ g10
    simp only at hg10
    have g10':=(HB4.out.cell hg10).trans g10
    clear g10
    go_region
    all_goals
     go_wp2_with fail
     have h8:=set8_at (w5:=W4) zOp (fun j hj=>(HR4.out j hj).1) HB4.out (Nat.le_refl _)
     obtain ⟨W8,hW8⟩:∃ W8,W8=((((((((W4.setCell ⟨w.heap.size,0,none⟩ (.int .i64 0)).setCell ⟨w.heap.size,1,none⟩ (.int .i64 0)).setCell ⟨w.heap.size,2,none⟩ (.int .i64 0)).setCell ⟨w.heap.size,3,none⟩ (.int .u8 0)).setCell ⟨w.heap.size,4,none⟩ (.int .i64 0)).setCell ⟨w.heap.size,5,none⟩ (.int .i64 0)).setCell ⟨w.heap.size,6,none⟩ (.string ⟨#[]⟩)).setCell ⟨w.heap.size,7,none⟩ (.string ⟨#[]⟩)):=⟨_,rfl⟩
     replace h8:OpAt W8 w.heap.size zOp∧Below w.heap.size w W8:=by rw [hW8];exact h8
     obtain ⟨⟨l0,l1,l2,l3,l4,l5,l6,l7⟩,hb8⟩:=h8
     first | rw [show _=W8 from hW8.symm] | rw [show _=W8.drew from congrArg World.drew hW8.symm]
     refine bodyPost_ret (v:=.tuple #[opV zOp,errV (ea 10)]) (by simp [results,Tryz.results96,go_sem,l0,l1,l2,l3,l4,l5,l6,l7]) rfl ⟨?_,by first | exact hb8 | exact hb8.drew⟩
     rw [HRv.out]
     first | rfl | rw [←he]
   ·have hq:(nd == into)=false:=by simpa using hin
    cases cy with
    | true=>
     have HRv:Hid (R=(zOp,10)):=Lib.hid (by rw [←HR.out,moveP,if_pos ⟨by rw [HRr.out],.inr (HCy.out.1 rfl)⟩])
     go_wp2_with fail
     refine (HIn.out _ HB4.out).mono ?_
     rintro e W5 ⟨rfl,hb5⟩
     have HO4':=Lib.hid (HO4.out.below hb5)
     have HB4':=Lib.hid (HB4.out.trans (hb5.mono HB4.out.size))
     have HR4':=Lib.hid (box8_below HR4.out hb5)
     clear hb5 HO4 HB4 HR4
     have HO4:=HO4'
     have HB4:=HB4'
     have HR4:=HR4'
     clear HO4' HB4' HR4'
     obtain ⟨⟨u0,y0'⟩,x0⟩:=HR4.out 0 (by omega)
     obtain ⟨⟨u1,y1'⟩,x1⟩:=HR4.out 1 (by omega)
     obtain ⟨⟨u2,y2'⟩,x2⟩:=HR4.out 2 (by omega)
     obtain ⟨⟨u3,y3'⟩,x3⟩:=HR4.out 3 (by omega)
     obtain ⟨⟨u4,y4'⟩,x4⟩:=HR4.out 4 (by omega)
     obtain ⟨⟨u5,y5'⟩,x5⟩:=HR4.out 5 (by omega)
     obtain ⟨⟨u6,y6'⟩,x6⟩:=HR4.out 6 (by omega)
     obtain ⟨⟨u7,y7'⟩,x7⟩:=HR4.out 7 (by omega)
     go_wp2_with fail
     have g10:=(HG.out.errs 10 (by omega) (by omega) f10).var
     simp only [errG] at g10
     have hg10:=World.block_lt_of_cell? _ _ g10
     simp only at hg10
     have g10':=(HB4.out.cell hg10).trans g10
     clear g10
     go_region
     all_goals
      go_wp2_with fail
      have h8:=set8_at (w5:=W5) zOp (fun j hj=>(HR4.out j hj).1) HB4.out (Nat.le_refl _)
      obtain ⟨W8,hW8⟩:∃ W8,W8=((((((((W5.setCell ⟨w.heap.size,0,none⟩ (.int .i64 0)).setCell ⟨w.heap.size,1,none⟩ (.int .i64 0)).setCell ⟨w.heap.size,2,none⟩ (.int .i64 0)).setCell ⟨w.heap.size,3,none⟩ (.int .u8 0)).setCell ⟨w.heap.size,4,none⟩ (.int .i64 0)).setCell ⟨w.heap.size,5,none⟩ (.int .i64 0)).setCell ⟨w.heap.size,6,none⟩ (.string ⟨#[]⟩)).setCell ⟨w.heap.size,7,none⟩ (.string ⟨#[]⟩)):=⟨_,rfl⟩
      replace h8:OpAt W8 w.heap.size zOp∧Below w.heap.size w W8:=by rw [hW8];exact h8
      obtain ⟨⟨l0,l1,l2,l3,l4,l5,l6,l7⟩,hb8⟩:=h8
      first | rw [show _=W8 from hW8.symm] | rw [show _=W8.drew from congrArg World.drew hW8.symm]
      refine bodyPost_ret (v:=.tuple #[opV zOp,errV (ea 10)]) (by simp [results,Tryz.results96,go_sem,l0,l1,l2,l3,l4,l5,l6,l7]) rfl ⟨?_,by first | exact hb8 | exact hb8.drew⟩
      rw [HRv.out]
      first | rfl | rw [←he]
    | false=>
     have HRv:Hid (R=(nx,0)):=Lib.hid (by rw [←HR.out,moveP,if_neg (by rintro ⟨_,h | h⟩;exact hin h;exact absurd (HCy.out.2 h) (by simp)),HRr.out])
     go_wp2_with fail
     refine (HIn.out _ HB4.out).mono ?_
     rintro e W5 ⟨rfl,hb5⟩
     have HO4':=Lib.hid (HO4.out.below hb5)
     have HB4':=Lib.hid (HB4.out.trans (hb5.mono HB4.out.size))
     have HR4':=Lib.hid (box8_below HR4.out hb5)
     clear hb5 HO4 HB4 HR4
     have HO4:=HO4'
     have HB4:=HB4'
     have HR4:=HR4'
     clear HO4' HB4' HR4'
     obtain ⟨⟨u0,y0'⟩,x0⟩:=HR4.out 0 (by omega)
     obtain ⟨⟨u1,y1'⟩,x1⟩:=HR4.out 1 (by omega)
     obtain ⟨⟨u2,y2'⟩,x2⟩:=HR4.out 2 (by omega)
     obtain ⟨⟨u3,y3'⟩,x3⟩:=HR4.out 3 (by omega)
     obtain ⟨⟨u4,y4'⟩,x4⟩:=HR4.out 4 (by omega)
     obtain ⟨⟨u5,y5'⟩,x5⟩:=HR4.out 5 (by omega)
     obtain ⟨⟨u6,y6'⟩,x6⟩:=HR4.out 6 (by omega)
     obtain ⟨⟨u7,y7'⟩,x7⟩:=HR4.out 7 (by omega)
     obtain ⟨j0,j1,j2,j3,j4,j5,j6,j7⟩:=HO4.out
     go_wp2_with fail
     have h8:=set8_at (w5:=W5) nx (fun j hj=>(HR4.out j hj).1) HB4.out (Nat.le_refl _)
     obtain ⟨W8,hW8⟩:∃ W8,W8=((((((((W5.setCell ⟨w.heap.size,0,none⟩ (.int .i64 nx.t)).setCell ⟨w.heap.size,1,none⟩ (.int .i64 nx.b)).setCell ⟨w.heap.size,2,none⟩ (.int .i64 nx.n)).setCell ⟨w.heap.size,3,none⟩ (.int .u8 nx.k)).setCell ⟨w.heap.size,4,none⟩ (.int .i64 nx.nd)).setCell ⟨w.heap.size,5,none⟩ (.int .i64 nx.ot)).setCell ⟨w.heap.size,6,none⟩ (.string nx.nm)).setCell ⟨w.heap.size,7,none⟩ (.string nx.vl)):=⟨_,rfl⟩
     replace h8:OpAt W8 w.heap.size nx∧Below w.heap.size w W8:=by rw [hW8];exact h8
     obtain ⟨⟨l0,l1,l2,l3,l4,l5,l6,l7⟩,hb8⟩:=h8
     first | rw [show _=W8 from hW8.symm] | rw [show _=W8.drew from congrArg World.drew hW8.symm]
     refine bodyPost_ret (v:=.tuple #[opV nx,.nilIface]) (by simp [results,Tryz.results96,go_sem,l0,l1,l2,l3,l4,l5,l6,l7]) rfl ⟨?_,by first | exact hb8 | exact hb8.drew⟩
     rw [HRv.out]
     first | rfl | rw [←he]
  ·have he:errW ea er=errV (ea er):=by rw [errW,if_neg her]
   simp only [he]
   have HRv:Hid (R=(nx,er)):=Lib.hid (by rw [←HR.out,moveP,if_neg (by rw [HRr.out];exact fun h=>her h.1),HRr.out])
   go_upto_region 2 with (fail)
   obtain ⟨W4,hW4⟩:∃ W4,W4=w3.alloc (.cells #[.int .i64 nx.t,.int .i64 nx.b,.int .i64 nx.n,.int .u8 nx.k,.int .i64 nx.nd,.int .i64 nx.ot,.string nx.nm,.string nx.vl] 31):=⟨_,rfl⟩
   have h8:OpAt W4 w3.heap.size nx∧Below w3.heap.size w3 W4:=by
    rw [hW4]
    exact ⟨OpAt.start w3 nx _,(Below.refl w3.heap.size w3).alloc (Nat.le_refl _) _⟩
   rw [show _=W4 from hW4.symm]
   have HO4:=Lib.hid h8.1
   have HB4:=Lib.hid (HB3.out.trans (h8.2.mono HB3.out.size))
   have HR4:=Lib.hid (box8_below HR3.out h8.2)
   have c7:=(hTr.out W4 HB4.out).2
   clear hW4 h8
   obtain ⟨⟨u0,y0'⟩,x0⟩:=HR4.out 0 (by omega)
   obtain ⟨⟨u1,y1'⟩,x1⟩:=HR4.out 1 (by omega)
   obtain ⟨⟨u2,y2'⟩,x2⟩:=HR4.out 2 (by omega)
   obtain ⟨⟨u3,y3'⟩,x3⟩:=HR4.out 3 (by omega)
   obtain ⟨⟨u4,y4'⟩,x4⟩:=HR4.out 4 (by omega)
   obtain ⟨⟨u5,y5'⟩,x5⟩:=HR4.out 5 (by omega)
   obtain ⟨⟨u6,y6'⟩,x6⟩:=HR4.out 6 (by omega)
   obtain ⟨⟨u7,y7'⟩,x7⟩:=HR4.out 7 (by omega)
   obtain ⟨j0,j1,j2,j3,j4,j5,j6,j7⟩:=HO4.out
   go_wp2_with fail
   have h8:=set8_at (w5:=W4) nx (fun j hj=>(HR4.out j hj).1) HB4.out (Nat.le_refl _)
   obtain ⟨W8,hW8⟩:∃ W8,W8=((((((((W4.setCell ⟨w.heap.size,0,none⟩ (.int .i64 nx.t)).setCell ⟨w.heap.size,1,none⟩ (.int .i64 nx.b)).setCell ⟨w.heap.size,2,none⟩ (.int .i64 nx.n)).setCell ⟨w.heap.size,3,none⟩ (.int .u8 nx.k)).setCell ⟨w.heap.size,4,none⟩ (.int .i64 nx.nd)).setCell ⟨w.heap.size,5,none⟩ (.int .i64 nx.ot)).setCell ⟨w.heap.size,6,none⟩ (.string nx.nm)).setCell ⟨w.heap.size,7,none⟩ (.string nx.vl)):=⟨_,rfl⟩
   replace h8:OpAt W8 w.heap.size nx∧Below w.heap.size w W8:=by rw [hW8];exact h8
   obtain ⟨⟨l0,l1,l2,l3,l4,l5,l6,l7⟩,hb8⟩:=h8
   first | rw [show _=W8 from hW8.symm] | rw [show _=W8.drew from congrArg World.drew hW8.symm]
   refine bodyPost_ret (v:=.tuple #[opV nx,errV (ea er)]) (by simp [results,Tryz.results96,go_sem,l0,l1,l2,l3,l4,l5,l6,l7]) rfl ⟨?_,by first | exact hb8 | exact hb8.drew⟩
   rw [HRv.out]
   first | rfl | rw [←he]
 | true=>
  obtain rfl:pb=is:=by have:=HIs.out;simpa using this
  go_wp2_with fail
  refine (HPl.out _ HB1.out).mono ?_
  rintro e w2 ⟨rfl,hb2⟩
  have HB2:=Lib.hid (HB1.out.trans (hb2.mono HB1.out.size))
  have HR2:=Lib.hid (box8_below HR1.out hb2)
  clear hb2 HPl
  go_wp2_with fail
  refine (HNx.out _ HB2.out).mono ?_
  rintro e w3 ⟨rfl,hb3⟩
  have HB3:=Lib.hid (HB2.out.trans (hb3.mono HB2.out.size))
  have HR3:=Lib.hid (box8_below HR2.out hb3)
  clear hb3 HNx
  obtain ⟨nx,er⟩:=r
  by_cases her:er=0
  ·subst her
   have he:errW ea 0=.nilIface:=rfl
   simp only [he]
   go_upto_region 2 with (fail)
   obtain ⟨W4,hW4⟩:∃ W4,W4=w3.alloc (.cells #[.int .i64 nx.t,.int .i64 nx.b,.int .i64 nx.n,.int .u8 nx.k,.int .i64 nx.nd,.int .i64 nx.ot,.string nx.nm,.string nx.vl] 31):=⟨_,rfl⟩
   have h8:OpAt W4 w3.heap.size nx∧Below w3.heap.size w3 W4:=by
    rw [hW4]
    exact ⟨OpAt.start w3 nx _,(Below.refl w3.heap.size w3).alloc (Nat.le_refl _) _⟩
   rw [show _=W4 from hW4.symm]
   have HO4:=Lib.hid h8.1
   have HB4:=Lib.hid (HB3.out.trans (h8.2.mono HB3.out.size))
   have HR4:=Lib.hid (box8_below HR3.out h8.2)
   have c7:=(hTr.out W4 HB4.out).2
   clear hW4 h8
   by_cases hin:nd=into
   ·subst hin
    have HRv:Hid (R=(zOp,10)):=Lib.hid (by rw [←HR.out,moveP,if_pos ⟨by rw [HRr.out],.inl rfl⟩])
    obtain ⟨⟨u0,y0'⟩,x0⟩:=HR4.out 0 (by omega)
    obtain ⟨⟨u1,y1'⟩,x1⟩:=HR4.out 1 (by omega)
    obtain ⟨⟨u2,y2'⟩,x2⟩:=HR4.out 2 (by omega)
    obtain ⟨⟨u3,y3'⟩,x3⟩:=HR4.out 3 (by omega)
    obtain ⟨⟨u4,y4'⟩,x4⟩:=HR4.out 4 (by omega)
    obtain ⟨⟨u5,y5'⟩,x5⟩:=HR4.out 5 (by omega)
    obtain ⟨⟨u6,y6'⟩,x6⟩:=HR4.out 6 (by omega)
    obtain ⟨⟨u7,y7'⟩,x7⟩:=HR4.out 7 (by omega)
    go_wp2_with fail
    have g10:=(HG.out.errs 10 (by omega) (by omega) f10).var
    simp only [errG] at g10
    have hg10:=World.block_lt_of_cell? _ _ g10
    simp only at hg10
    have g10':=(HB4.out.cell hg10).trans g10
    clear g10
    go_region
    all_goals
     go_wp2_with fail
     have h8:=set8_at (w5:=W4) zOp (fun j hj=>(HR4.out j hj).1) HB4.out (Nat.le_refl _)
     obtain ⟨W8,hW8⟩:∃ W8,W8=((((((((W4.setCell ⟨w.heap.size,0,none⟩ (.int .i64 0)).setCell ⟨w.heap.size,1,none⟩ (.int .i64 0)).setCell ⟨w.heap.size,2,none⟩ (.int .i64 0)).setCell ⟨w.heap.size,3,none⟩ (.int .u8 0)).setCell ⟨w.heap.size,4,none⟩ (.int .i64 0)).setCell ⟨w.heap.size,5,none⟩ (.int .i64 0)).setCell ⟨w.heap.size,6,none⟩ (.string ⟨#[]⟩)).setCell ⟨w.heap.size,7,none⟩ (.string ⟨#[]⟩)):=⟨_,rfl⟩
     replace h8:OpAt W8 w.heap.size zOp∧Below w.heap.size w W8:=by rw [hW8];exact h8
     obtain ⟨⟨l0,l1,l2,l3,l4,l5,l6,l7⟩,hb8⟩:=h8
     first | rw [show _=W8 from hW8.symm] | rw [show _=W8.drew from congrArg World.drew hW8.symm]
     refine bodyPost_ret (v:=.tuple #[opV zOp,errV (ea 10)]) (by simp [results,Tryz.results96,go_sem,l0,l1,l2,l3,l4,l5,l6,l7]) rfl ⟨?_,by first | exact hb8 | exact hb8.drew⟩
     rw [HRv.out]
     first | rfl | rw [←he]
   ·have hq:(nd == into)=false:=by simpa using hin
    cases cy with
    | true=>
     have HRv:Hid (R=(zOp,10)):=Lib.hid (by rw [←HR.out,moveP,if_pos ⟨by rw [HRr.out],.inr (HCy.out.1 rfl)⟩])
     go_wp2_with fail
     refine (HIn.out _ HB4.out).mono ?_
     rintro e W5 ⟨rfl,hb5⟩
     have HO4':=Lib.hid (HO4.out.below hb5)
     have HB4':=Lib.hid (HB4.out.trans (hb5.mono HB4.out.size))
     have HR4':=Lib.hid (box8_below HR4.out hb5)
     clear hb5 HO4 HB4 HR4
     have HO4:=HO4'
     have HB4:=HB4'
     have HR4:=HR4'
     clear HO4' HB4' HR4'
     obtain ⟨⟨u0,y0'⟩,x0⟩:=HR4.out 0 (by omega)
     obtain ⟨⟨u1,y1'⟩,x1⟩:=HR4.out 1 (by omega)
     obtain ⟨⟨u2,y2'⟩,x2⟩:=HR4.out 2 (by omega)
     obtain ⟨⟨u3,y3'⟩,x3⟩:=HR4.out 3 (by omega)
     obtain ⟨⟨u4,y4'⟩,x4⟩:=HR4.out 4 (by omega)
     obtain ⟨⟨u5,y5'⟩,x5⟩:=HR4.out 5 (by omega)
     obtain ⟨⟨u6,y6'⟩,x6⟩:=HR4.out 6 (by omega)
     obtain ⟨⟨u7,y7'⟩,x7⟩:=HR4.out 7 (by omega)
     go_wp2_with fail
     have g10:=(HG.out.errs 10 (by omega) (by omega) f10).var
     simp only [errG] at g10
     have hg10:=World.block_lt_of_cell? _ _ g10
     simp only at hg10
     have g10':=(HB4.out.cell hg10).trans g10
     clear g10
     go_region
     all_goals
      go_wp2_with fail
      have h8:=set8_at (w5:=W5) zOp (fun j hj=>(HR4.out j hj).1) HB4.out (Nat.le_refl _)
      obtain ⟨W8,hW8⟩:∃ W8,W8=((((((((W5.setCell ⟨w.heap.size,0,none⟩ (.int .i64 0)).setCell ⟨w.heap.size,1,none⟩ (.int .i64 0)).setCell ⟨w.heap.size,2,none⟩ (.int .i64 0)).setCell ⟨w.heap.size,3,none⟩ (.int .u8 0)).setCell ⟨w.heap.size,4,none⟩ (.int .i64 0)).setCell ⟨w.heap.size,5,none⟩ (.int .i64 0)).setCell ⟨w.heap.size,6,none⟩ (.string ⟨#[]⟩)).setCell ⟨w.heap.size,7,none⟩ (.string ⟨#[]⟩)):=⟨_,rfl⟩
      replace h8:OpAt W8 w.heap.size zOp∧Below w.heap.size w W8:=by rw [hW8];exact h8
      obtain ⟨⟨l0,l1,l2,l3,l4,l5,l6,l7⟩,hb8⟩:=h8
      first | rw [show _=W8 from hW8.symm] | rw [show _=W8.drew from congrArg World.drew hW8.symm]
      refine bodyPost_ret (v:=.tuple #[opV zOp,errV (ea 10)]) (by simp [results,Tryz.results96,go_sem,l0,l1,l2,l3,l4,l5,l6,l7]) rfl ⟨?_,by first | exact hb8 | exact hb8.drew⟩
      rw [HRv.out]
      first | rfl | rw [←he]
    | false=>
     have HRv:Hid (R=(nx,0)):=Lib.hid (by rw [←HR.out,moveP,if_neg (by rintro ⟨_,h | h⟩;exact hin h;exact absurd (HCy.out.2 h) (by simp)),HRr.out])
     go_wp2_with fail
     refine (HIn.out _ HB4.out).mono ?_
     rintro e W5 ⟨rfl,hb5⟩
     have HO4':=Lib.hid (HO4.out.below hb5)
     have HB4':=Lib.hid (HB4.out.trans (hb5.mono HB4.out.size))
     have HR4':=Lib.hid (box8_below HR4.out hb5)
     clear hb5 HO4 HB4 HR4
     have HO4:=HO4'
     have HB4:=HB4'
     have HR4:=HR4'
     clear HO4' HB4' HR4'
     obtain ⟨⟨u0,y0'⟩,x0⟩:=HR4.out 0 (by omega)
     obtain ⟨⟨u1,y1'⟩,x1⟩:=HR4.out 1 (by omega)
     obtain ⟨⟨u2,y2'⟩,x2⟩:=HR4.out 2 (by omega)
     obtain ⟨⟨u3,y3'⟩,x3⟩:=HR4.out 3 (by omega)
     obtain ⟨⟨u4,y4'⟩,x4⟩:=HR4.out 4 (by omega)
     obtain ⟨⟨u5,y5'⟩,x5⟩:=HR4.out 5 (by omega)
     obtain ⟨⟨u6,y6'⟩,x6⟩:=HR4.out 6 (by omega)
     obtain ⟨⟨u7,y7'⟩,x7⟩:=HR4.out 7 (by omega)
     obtain ⟨j0,j1,j2,j3,j4,j5,j6,j7⟩:=HO4.out
     go_wp2_with fail
     have h8:=set8_at (w5:=W5) nx (fun j hj=>(HR4.out j hj).1) HB4.out (Nat.le_refl _)
     obtain ⟨W8,hW8⟩:∃ W8,W8=((((((((W5.setCell ⟨w.heap.size,0,none⟩ (.int .i64 nx.t)).setCell ⟨w.heap.size,1,none⟩ (.int .i64 nx.b)).setCell ⟨w.heap.size,2,none⟩ (.int .i64 nx.n)).setCell ⟨w.heap.size,3,none⟩ (.int .u8 nx.k)).setCell ⟨w.heap.size,4,none⟩ (.int .i64 nx.nd)).setCell ⟨w.heap.size,5,none⟩ (.int .i64 nx.ot)).setCell ⟨w.heap.size,6,none⟩ (.string nx.nm)).setCell ⟨w.heap.size,7,none⟩ (.string nx.vl)):=⟨_,rfl⟩
     replace h8:OpAt W8 w.heap.size nx∧Below w.heap.size w W8:=by rw [hW8];exact h8
     obtain ⟨⟨l0,l1,l2,l3,l4,l5,l6,l7⟩,hb8⟩:=h8
     first | rw [show _=W8 from hW8.symm] | rw [show _=W8.drew from congrArg World.drew hW8.symm]
     refine bodyPost_ret (v:=.tuple #[opV nx,.nilIface]) (by simp [results,Tryz.results96,go_sem,l0,l1,l2,l3,l4,l5,l6,l7]) rfl ⟨?_,by first | exact hb8 | exact hb8.drew⟩
     rw [HRv.out]
     first | rfl | rw [←he]
  ·have he:errW ea er=errV (ea er):=by rw [errW,if_neg her]
   simp only [he]
   have HRv:Hid (R=(nx,er)):=Lib.hid (by rw [←HR.out,moveP,if_neg (by rw [HRr.out];exact fun h=>her h.1),HRr.out])
   go_upto_region 2 with (fail)
   obtain ⟨W4,hW4⟩:∃ W4,W4=w3.alloc (.cells #[.int .i64 nx.t,.int .i64 nx.b,.int .i64 nx.n,.int .u8 nx.k,.int .i64 nx.nd,.int .i64 nx.ot,.string nx.nm,.string nx.vl] 31):=⟨_,rfl⟩
   have h8:OpAt W4 w3.heap.size nx∧Below w3.heap.size w3 W4:=by
    rw [hW4]
    exact ⟨OpAt.start w3 nx _,(Below.refl w3.heap.size w3).alloc (Nat.le_refl _) _⟩
   rw [show _=W4 from hW4.symm]
   have HO4:=Lib.hid h8.1
   have HB4:=Lib.hid (HB3.out.trans (h8.2.mono HB3.out.size))
   have HR4:=Lib.hid (box8_below HR3.out h8.2)
   have c7:=(hTr.out W4 HB4.out).2
   clear hW4 h8
   obtain ⟨⟨u0,y0'⟩,x0⟩:=HR4.out 0 (by omega)
   obtain ⟨⟨u1,y1'⟩,x1⟩:=HR4.out 1 (by omega)
   obtain ⟨⟨u2,y2'⟩,x2⟩:=HR4.out 2 (by omega)
   obtain ⟨⟨u3,y3'⟩,x3⟩:=HR4.out 3 (by omega)
   obtain ⟨⟨u4,y4'⟩,x4⟩:=HR4.out 4 (by omega)
   obtain ⟨⟨u5,y5'⟩,x5⟩:=HR4.out 5 (by omega)
   obtain ⟨⟨u6,y6'⟩,x6⟩:=HR4.out 6 (by omega)
   obtain ⟨⟨u7,y7'⟩,x7⟩:=HR4.out 7 (by omega)
   obtain ⟨j0,j1,j2,j3,j4,j5,j6,j7⟩:=HO4.out
   go_wp2_with fail
   have h8:=set8_at (w5:=W4) nx (fun j hj=>(HR4.out j hj).1) HB4.out (Nat.le_refl _)
   obtain ⟨W8,hW8⟩:∃ W8,W8=((((((((W4.setCell ⟨w.heap.size,0,none⟩ (.int .i64 nx.t)).setCell ⟨w.heap.size,1,none⟩ (.int .i64 nx.b)).setCell ⟨w.heap.size,2,none⟩ (.int .i64 nx.n)).setCell ⟨w.heap.size,3,none⟩ (.int .u8 nx.k)).setCell ⟨w.heap.size,4,none⟩ (.int .i64 nx.nd)).setCell ⟨w.heap.size,5,none⟩ (.int .i64 nx.ot)).setCell ⟨w.heap.size,6,none⟩ (.string nx.nm)).setCell ⟨w.heap.size,7,none⟩ (.string nx.vl)):=⟨_,rfl⟩
   replace h8:OpAt W8 w.heap.size nx∧Below w.heap.size w W8:=by rw [hW8];exact h8
   obtain ⟨⟨l0,l1,l2,l3,l4,l5,l6,l7⟩,hb8⟩:=h8
   first | rw [show _=W8 from hW8.symm] | rw [show _=W8.drew from congrArg World.drew hW8.symm]
   refine bodyPost_ret (v:=.tuple #[opV nx,errV (ea er)]) (by simp [results,Tryz.results96,go_sem,l0,l1,l2,l3,l4,l5,l6,l7]) rfl ⟨?_,by first | exact hb8 | exact hb8.drew⟩
   rw [HRv.out]
   first | rfl | rw [←he]
def NewEnds (ea:Nat→Addr) (b:Int) (w:World) (e:Ending) (w':World):Prop:=
 ((0≤b∧b < 4)∧∃ col RB,e=.returned (.tuple #[ptrV RB,.nilIface])∧RepD col RB b [] w'∧Below w.heap.size w w'∧∀ k,col k≠0→w.heap.size≤k)∨
 (¬ (0≤b∧b < 4)∧e=.returned (.tuple #[.pointer none,errV (ea 2)])∧Below w.heap.size w w')
theorem Rw.lower0 {T:Type} {E:Enc T} {ty:TypeId} {base:Nat} {v:Value} {L:List T} {w:World} (h:Rw E ty base v L w):Rw E ty 0 v L w:=by
 refine ⟨h.1,?_⟩
 rcases h.2 with hn | ⟨g,cap,cur,hv,hb,rest⟩
 ·exact .inl hn
 ·exact .inr ⟨g,cap,cur,hv,Nat.zero_le _,rest⟩
theorem new_lays (w w2 w3:World) (b:Int) (TB tb CC cb:Nat) (h2:TrS (w.alloc (.cells #[.int .i64 0,.int .i64 b] 182)).heap.size TB tb 0 (.slice none 0 0) [] w2) (hb2:Below (w.alloc (.cells #[.int .i64 0,.int .i64 b] 182)).heap.size (w.alloc (.cells #[.int .i64 0,.int .i64 b] 182)) w2)
  (h3:CSt w2.heap.size CC cb 0 (fun _=>none) w3) (hb3:Below w2.heap.size w2 w3) (W:World) (hW:W=(w3.alloc (.map #[] 0)).alloc (.cells #[ptrV w.heap.size,.int .i64 b,.int .i64 0,.int .i64 0,.int .i64 0,.int .i64 0,.slice none 0 0,ptrV TB,ptrV CC,.map (some w3.heap.size)] 103)) :
  ∃ col,RepD col (w3.heap.size+1) b [] W∧Below w.heap.size w W∧∀ k,col k≠0→w.heap.size≤k:=by
 have hs1:(w.alloc (.cells #[.int .i64 0,.int .i64 b] 182)).heap.size=w.heap.size+1:=by simp
 have hs2:=hb2.size
 have hs3:=hb3.size
 have hTB:=h2.lt
 have htb:=h2.mp.lt
 have hTB0:=h2.geT
 have htb0:=h2.geb
 have hCC:=h3.lt
 have hcb:=h3.mt.lt
 have hCC0:=h3.ge
 have hcb0:=h3.geb
 rw [hs1] at hs2 hTB0 htb0
 have hA:Below w3.heap.size w3 W:=by rw [hW];exact ((Below.refl _ _).alloc (Nat.le_refl _) _).alloc (by simp) _
 have hB:Below w2.heap.size w2 W:=hb3.trans (hA.mono hs3)
 have hC:Below (w.heap.size+1) (w.alloc (.cells #[.int .i64 0,.int .i64 b] 182)) W:=by
  have:=hb2.trans (hB.mono (by omega))
  rwa [hs1] at this
 have hD:Below w.heap.size w W:=((Below.refl w.heap.size w).alloc (Nat.le_refl _) _).trans (hC.mono (by omega))
 have hWs:W.heap.size=w3.heap.size+2:=by rw [hW];simp
 have cR:∀ j u,(#[ptrV w.heap.size,.int .i64 b,.int .i64 0,.int .i64 0,.int .i64 0,.int .i64 0,.slice none 0 0,ptrV TB,ptrV CC,.map (some w3.heap.size)]:Array Value)[j]?=some u→W.cell? ⟨w3.heap.size+1,j,none⟩=some u:=fun j u hj=>by
  rw [hW,show w3.heap.size+1=(w3.alloc (.map #[] 0)).heap.size by simp,World.cell?_alloc_new]
  exact hj
 have fR:∀ j,W.frozen? ⟨w3.heap.size+1,j,none⟩=false:=fun j=>by
  rw [hW,show w3.heap.size+1=(w3.alloc (.map #[] 0)).heap.size by simp,World.frozen?_alloc_new]
 have cK:∀ j u,(#[.int .i64 0,.int .i64 b]:Array Value)[j]?=some u→W.cell? ⟨w.heap.size,j,none⟩=some u:=fun j u hj=>by
  refine (hC.cell (p:=⟨w.heap.size,j,none⟩) (by show w.heap.size < w.heap.size+1;omega)).trans ?_
  rw [World.cell?_alloc_new]
  exact hj
 have fK:∀ j,W.frozen? ⟨w.heap.size,j,none⟩=false:=fun j=>by
  refine (hC.frozen (p:=⟨w.heap.size,j,none⟩) (by show w.heap.size < w.heap.size+1;omega)).trans ?_
  rw [World.frozen?_alloc_new]
 refine ⟨fun k=>if k < w.heap.size then 0 else if k=w.heap.size then 2 else if k < w2.heap.size then 4 else if k < w3.heap.size then 5 else if k=w3.heap.size then 6 else if k=w3.heap.size+1 then 1 else 0,⟨⟨w.heap.size,.slice none 0 0,TB,tb,0,.slice none 0 0,CC,cb,0,w3.heap.size,0,fun _=>0,fun _=>.slice none 0 0⟩,⟨fun _=>0,0,[],fun _=>none,fun _=>False,fun _=>[],[],0⟩,⟨⟨cR 0 _ rfl,cR 1 _ rfl,cR 2 _ rfl,cR 3 _ rfl,cR 4 _ rfl,cR 5 _ rfl,cR 6 _ rfl,cR 7 _ rfl,cR 8 _ rfl,cR 9 _ rfl,fR⟩,⟨cK 0 _ rfl,cK 1 _ rfl,fK⟩,Rw.nil _ _ _ _,?_,?_,?_,fun nd hn=>hn.elim,?_,fun k hk=>?_,Nat.le_refl _,Nat.le_refl _,Nat.le_refl _⟩,Of.start⟩,hD,fun k hk=>?_⟩
 ·have:=h2.below hB
  exact ⟨this.p0,this.p1,this.f1,this.mp,this.row.lower0,Nat.zero_le _,Nat.zero_le _,this.ne,this.ner⟩
 ·have:=h3.below hA
  exact ⟨this.ptr,this.mt,Nat.zero_le _,Nat.zero_le _,this.ne⟩
 ·have hm:=(MT.made w3 Tryz.prog 3 ekI ptrV).below ((Below.refl _ _).alloc (Nat.le_refl _) (.cells #[ptrV w.heap.size,.int .i64 b,.int .i64 0,.int .i64 0,.int .i64 0,.int .i64 0,.slice none 0 0,ptrV TB,ptrV CC,.map (some w3.heap.size)] 103))
  rw [←hW] at hm
  exact hm.of_eq fun x kl _=>by simp [txM]
 ·refine ⟨?_,?_,fun k hk=>by simp [Value.ownBlock] at hk,?_,?_,fun k hk=>by simp [Value.ownBlock] at hk,?_,?_,?_,fun nd hn=>hn.elim,fun nd hn=>hn.elim,fun nd hn=>hn.elim⟩
  ·simp only
   rw [if_neg (by omega),if_neg (by omega),if_neg (by omega),if_neg (by omega),if_neg (by omega),if_pos trivial]
  ·simp
  ·simp only
   rw [if_neg (by omega),if_neg (by omega),if_pos (by omega)]
  ·simp only
   rw [if_neg (by omega),if_neg (by omega),if_pos (by omega)]
  ·simp only
   rw [if_neg (by omega),if_neg (by omega),if_neg (by omega),if_pos (by omega)]
  ·simp only
   rw [if_neg (by omega),if_neg (by omega),if_neg (by omega),if_pos (by omega)]
  ·simp only
   rw [if_neg (by omega),if_neg (by omega),if_neg (by omega),if_neg (by omega),if_pos trivial]
 ·refine Classical.byContradiction fun hn=>hk ?_
  show (if _ then _ else _)=(0:Int)
  rw [if_neg (by omega),if_neg (by omega),if_neg (by omega),if_neg (by omega),if_neg (by omega),if_neg (by omega)]
 ·refine Classical.byContradiction fun hn=>hk ?_
  show (if _ then _ else _)=(0:Int)
  rw [if_pos (by omega)]
theorem newB_any {F0:Nat→Bool} (ea:Nat→Addr) (b:Int) (w:World) (hG:Gd F0 ea w) (f2:F0 2=true) (hb:I64 b) :
  Calls Tryz.prog 10 #[.int .i64 b] w (NewEnds ea b w):=by
 by_cases hr:0≤b∧b < 4
 ·suffices hh:Calls Tryz.prog 10 #[.int .i64 b] w fun e w'=>∃ col RB,e=.returned (.tuple #[ptrV RB,.nilIface])∧RepD col RB b [] w'∧Below w.heap.size w w'∧∀ k,col k≠0→w.heap.size≤k from hh.mono fun e w' h=>.inl ⟨hr,h⟩
  obtain ⟨W,hW⟩:∃ W,W=w.alloc (.cells #[.int .i64 0,.int .i64 b] 182):=⟨_,rfl⟩
  have HC:=Lib.hid (clockNew_ok b w hr.1 hr.2)
  rw [←hW] at HC
  have HT:=Lib.hid (treeNew_any W)
  have HS:=Lib.hid (fun w'=>cellsNew_any w')
  have HW:=Lib.hid hW
  have hmm:=@run_makeMap Tryz.prog
  clear hW hr
  go_enter Tryz.func10,Tryz.ntmps10
  go_wp2_with fail
  refine HC.out.mono ?_
  rintro e w1 ⟨rfl,rfl⟩
  go_wp2_with fail
  refine HT.out.mono ?_
  rintro e w2 ⟨TB,tb,rfl,h2,hb2⟩
  have H2:=Lib.hid h2
  have HB2:=Lib.hid hb2
  clear h2 hb2 HC HT
  go_wp2_with fail
  refine (HS.out _).mono ?_
  rintro e w3 ⟨CC,cb,rfl,h3,hb3⟩
  have H3:=Lib.hid h3
  have HB3:=Lib.hid hb3
  clear h3 hb3 HS
  go_wp2_with fail
  go_ret2
  have hw1:=HW.out
  subst hw1
  obtain ⟨col,h1,h2,h3⟩:=new_lays w w2 w3 b TB tb CC cb H2.out HB2.out H3.out HB3.out _ rfl
  exact ⟨col,w3.heap.size+1,rfl,h1,h2,h3⟩
 ·have hE:=hG.errs 2 (by omega) (by omega) f2
  have HC:=Lib.hid (clockNew_bad b w (ea 2) hE (by omega))
  suffices hh:Calls Tryz.prog 10 #[.int .i64 b] w fun e w'=>e=.returned (.tuple #[.pointer none,errV (ea 2)])∧Below w.heap.size w w' from hh.mono fun e w' h=>.inr ⟨hr,h⟩
  clear hE hr
  go_enter Tryz.func10,Tryz.ntmps10
  go_wp2_with fail
  refine HC.out.mono ?_
  rintro e w1 ⟨rfl,hb1⟩
  have HB:=Lib.hid hb1
  clear hb1
  go_wp2_with fail
  go_ret2
  exact ⟨rfl,HB.out⟩
end Go.Proofs.YtjekalilfhnpmaaGreatDoor
