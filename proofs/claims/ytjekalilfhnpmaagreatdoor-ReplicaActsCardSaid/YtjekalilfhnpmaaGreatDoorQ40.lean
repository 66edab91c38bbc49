/- The document's replica: Make, all ways but a move. Written by gen_mmake.py. The document's replica: Make, a move of a node that is not known. Written by gen_mmake.py. -/
import Derived.Test.YtjekalilfhnpmaaGreatDoorQ17
import Derived.Test.YtjekalilfhnpmaaGreatDoorQ31
import Derived.Test.YtjekalilfhnpmaaGreatDoorQ32
import Derived.Test.YtjekalilfhnpmaaGreatDoorQ38
import Derived.Test.YtjekalilfhnpmaaGreatDoorQ39
theorem Go.Proofs.YtjekalilfhnpmaaGreatDoor.κ40 {p:Prop} (h:p):Go.RowKit.Hid p:=Go.Lib.hid h
namespace Go.Proofs.YtjekalilfhnpmaaGreatDoor
open Go Go.RowKit Go.Maps Go.Shelf LineOrd Tree
set_option linter.unusedVariables false
set_option linter.unusedSimpArgs false
set_option maxHeartbeats 40000000
set_option maxRecDepth 100000
def MmEnds (b:Int) (K:List OpT) (o:OpT) (w:World) (e:Ending) (w':World):Prop:=∃ r,MakeIs b K o r∧e=.returned (.tuple #[opV r.1,.int .i64 r.2])∧Below w.heap.size w w'
structure MkW (MB:Nat) (b:Int) (A:Option Addr) (n c:Nat) (K:List OpT) (o:OpT) (w W:World):Prop where
 rep:MRep MB b A n c K W
 bel:Below w.heap.size w W
 box:OpAt W w.heap.size o
 res:∀ j,j < 8→(∃ u,W.cell? ⟨w.heap.size+1,j,none⟩=some u)∧W.frozen? ⟨w.heap.size+1,j,none⟩=false
theorem MkW.below {MB:Nat} {b:Int} {A:Option Addr} {n c:Nat} {K:List OpT} {o:OpT} {w W w':World} (h:MkW MB b A n c K o w W) (hb:Below W.heap.size W w'):MkW MB b A n c K o w w':=
 ⟨h.rep.below hb,bel2 h.bel hb,h.box.below hb,box8_below h.res hb⟩
theorem MkW.start {MB:Nat} {b:Int} {A:Option Addr} {n c:Nat} {K:List OpT} {w:World} (h:MRep MB b A n c K w) (o:OpT):MkW MB b A n c K o w ((w.alloc (.cells o.cells 31)).alloc (.cells zOp.cells 31)):=by
 have b1:Below w.heap.size w (w.alloc (.cells o.cells 31)):=(Below.refl _ _).alloc (Nat.le_refl _) _
 have b2:Below (w.alloc (.cells o.cells 31)).heap.size (w.alloc (.cells o.cells 31)) ((w.alloc (.cells o.cells 31)).alloc (.cells zOp.cells 31)):=(Below.refl _ _).alloc (Nat.le_refl _) _
 refine ⟨(h.below b1).below b2,bel2 b1 b2,(OpAt.start w o _).below b2,?_⟩
 have:=box8_at (w:=w.alloc (.cells o.cells 31)) (o:=zOp) (ty:=31) (Below.refl _ _)
 rwa [World.size_alloc] at this
theorem MkW.fin {MB:Nat} {b:Int} {A:Option Addr} {n c:Nat} {K:List OpT} {o:OpT} {w W:World} (h:MkW MB b A n c K o w W) (x:OpT) :
  OpAt ((((((((W.setCell ⟨w.heap.size+1,0,none⟩ (.int .i64 x.t)).setCell ⟨w.heap.size+1,1,none⟩ (.int .i64 x.b)).setCell ⟨w.heap.size+1,2,none⟩ (.int .i64 x.n)).setCell ⟨w.heap.size+1,3,none⟩ (.int .u8 x.k)).setCell ⟨w.heap.size+1,4,none⟩ (.int .i64 x.nd)).setCell ⟨w.heap.size+1,5,none⟩ (.int .i64 x.ot)).setCell ⟨w.heap.size+1,6,none⟩ (.string x.nm)).setCell ⟨w.heap.size+1,7,none⟩ (.string x.vl)) (w.heap.size+1) x∧Below w.heap.size w ((((((((W.setCell ⟨w.heap.size+1,0,none⟩ (.int .i64 x.t)).setCell ⟨w.heap.size+1,1,none⟩ (.int .i64 x.b)).setCell ⟨w.heap.size+1,2,none⟩ (.int .i64 x.n)).setCell ⟨w.heap.size+1,3,none⟩ (.int .u8 x.k)).setCell ⟨w.heap.size+1,4,none⟩ (.int .i64 x.nd)).setCell ⟨w.heap.size+1,5,none⟩ (.int .i64 x.ot)).setCell ⟨w.heap.size+1,6,none⟩ (.string x.nm)).setCell ⟨w.heap.size+1,7,none⟩ (.string x.vl)):=
 set8_at x (fun j hj=>(h.res j hj).1) h.bel (by omega)
theorem MkW.st {MB:Nat} {b:Int} {A:Option Addr} {n c:Nat} {K:List OpT} {o:OpT} {w W:World} (h:MkW MB b A n c K o w W) (x:OpT) :
  ((((((((W.setCell ⟨w.heap.size+1,0,none⟩ (.int .i64 x.t)).setCell ⟨w.heap.size+1,1,none⟩ (.int .i64 x.b)).setCell ⟨w.heap.size+1,2,none⟩ (.int .i64 x.n)).setCell ⟨w.heap.size+1,3,none⟩ (.int .u8 x.k)).setCell ⟨w.heap.size+1,4,none⟩ (.int .i64 x.nd)).setCell ⟨w.heap.size+1,5,none⟩ (.int .i64 x.ot)).setCell ⟨w.heap.size+1,6,none⟩ (.string x.nm)).setCell ⟨w.heap.size+1,7,none⟩ (.string x.vl)).cell? ⟨w.heap.size,4,none⟩=some (.int .i64 o.nd)∧((((((((W.setCell ⟨w.heap.size+1,0,none⟩ (.int .i64 x.t)).setCell ⟨w.heap.size+1,1,none⟩ (.int .i64 x.b)).setCell ⟨w.heap.size+1,2,none⟩ (.int .i64 x.n)).setCell ⟨w.heap.size+1,3,none⟩ (.int .u8 x.k)).setCell ⟨w.heap.size+1,4,none⟩ (.int .i64 x.nd)).setCell ⟨w.heap.size+1,5,none⟩ (.int .i64 x.ot)).setCell ⟨w.heap.size+1,6,none⟩ (.string x.nm)).setCell ⟨w.heap.size+1,7,none⟩ (.string x.vl)).cell? ⟨w.heap.size,5,none⟩=some (.int .i64 o.ot)∧((((((((W.setCell ⟨w.heap.size+1,0,none⟩ (.int .i64 x.t)).setCell ⟨w.heap.size+1,1,none⟩ (.int .i64 x.b)).setCell ⟨w.heap.size+1,2,none⟩ (.int .i64 x.n)).setCell ⟨w.heap.size+1,3,none⟩ (.int .u8 x.k)).setCell ⟨w.heap.size+1,4,none⟩ (.int .i64 x.nd)).setCell ⟨w.heap.size+1,5,none⟩ (.int .i64 x.ot)).setCell ⟨w.heap.size+1,6,none⟩ (.string x.nm)).setCell ⟨w.heap.size+1,7,none⟩ (.string x.vl)).cell? ⟨w.heap.size,6,none⟩=some (.string o.nm)∧((((((((W.setCell ⟨w.heap.size+1,0,none⟩ (.int .i64 x.t)).setCell ⟨w.heap.size+1,1,none⟩ (.int .i64 x.b)).setCell ⟨w.heap.size+1,2,none⟩ (.int .i64 x.n)).setCell ⟨w.heap.size+1,3,none⟩ (.int .u8 x.k)).setCell ⟨w.heap.size+1,4,none⟩ (.int .i64 x.nd)).setCell ⟨w.heap.size+1,5,none⟩ (.int .i64 x.ot)).setCell ⟨w.heap.size+1,6,none⟩ (.string x.nm)).setCell ⟨w.heap.size+1,7,none⟩ (.string x.vl)).cell? ⟨w.heap.size,7,none⟩=some (.string o.vl):=by
 have hh:=h.box
 have g:∀ {w':World} {i j:Nat} {u v:Value},w'.cell? ⟨w.heap.size,j,none⟩=some u→(w'.setCell ⟨w.heap.size+1,i,none⟩ v).cell? ⟨w.heap.size,j,none⟩=some u:=fun hc=>by
  rw [World.cell?_setCell_other _ _ _ _ (by intro e;have:=congrArg Addr.block e;simp at this)];exact hc
 exact ⟨g (g (g (g (g (g (g (g hh.c4))))))),g (g (g (g (g (g (g (g hh.c5))))))),g (g (g (g (g (g (g (g hh.c6))))))),g (g (g (g (g (g (g (g hh.c7)))))))⟩
theorem mMakeNew_any (MB:Nat) (b:Int) (A:Option Addr) (n c:Nat) (K:List OpT) (o:OpT) (w:World) (h:MRep MB b A n c K w) (hK:DOk K) (hup:Rising K) (hl:K.length≤1000) (hb0:0≤b) (hb4:b < 4) (hw:o.Wf) (k1:o.k=109) (n0:o.nd=0) :
  Calls Tryz.prog 41 #[ptrV MB,opV o] w (MmEnds b K o w):=by
 obtain ⟨kb,hkb⟩:∃ kb:Bool,kb=true↔Known K o.nd:=⟨@decide _ (Classical.propDecidable (Known K o.nd)),by simp⟩
 obtain ⟨pb,hpb⟩:∃ pb:Bool,pb=true↔o.ot=0∨o.ot=1∨Known K o.ot:=⟨@decide _ (Classical.propDecidable (o.ot=0∨o.ot=1∨Known K o.ot)),by simp⟩
 have inn:I64 o.nd:=⟨hw.nd1,hw.nd2⟩
 have ino:I64 o.ot:=⟨hw.ot1,hw.ot2⟩
 have hfi:∀ x∈K,OpFine x:=fun x hx=>hK.fine hx
 obtain ⟨W,hW⟩:∃ W,W=(w.alloc (.cells o.cells 31)).alloc (.cells zOp.cells 31):=⟨_,rfl⟩
 have hWM:MkW MB b A n c K o w W:=by rw [hW];exact MkW.start h o
 have HW:=κ40 hW.symm
 have HWM:=κ40 hWM
 have HPl:Hid (∀ w',Below W.heap.size W w'→Calls Tryz.prog 93 #[ptrV MB,.int .i64 o.ot] w' fun e w''=>e=.returned (.bool pb)∧Below w'.heap.size w' w''):=κ40 fun w' hb=>by
  refine (mPlace_any MB b A n c K o.ot w' (hWM.rep.below hb) hfi (by omega)).mono ?_
  rintro e w'' ⟨kb',rfl,h1,h2⟩
  refine ⟨?_,h2⟩
  rw [Bool.eq_iff_iff.2 (h1.trans hpb.symm)]
 have HNx:Hid (∀ w',Below W.heap.size W w'→Calls Tryz.prog 99 #[ptrV MB,.bool pb,opV ⟨0,0,0,109,0,o.ot,o.nm,⟨#[]⟩⟩] w' fun e w''=>e=.returned (.tuple #[opV (nextP b K pb ⟨0,0,0,109,0,o.ot,o.nm,⟨#[]⟩⟩).1,.int .i64 (nextP b K pb ⟨0,0,0,109,0,o.ot,o.nm,⟨#[]⟩⟩).2])∧Below w'.heap.size w' w''):=κ40 fun w' hb=>by
  exact mNext_any MB b A n c K pb _ w' (hWM.rep.below hb) hfi hup hl hb0 hb4 (nextO_wf hK hb0 hb4 (by simp) (by simp) ⟨by simp,by simp⟩ ino hw.nm1 nil_le)
 obtain ⟨r,hr⟩:∃ r,nextP b K pb ⟨0,0,0,109,0,o.ot,o.nm,⟨#[]⟩⟩=r:=⟨_,rfl⟩
 rw [hr] at HNx
 have HMk:Hid (MakeIs b K o r):=κ40 (by rw [←hr];unfold MakeIs;rw [if_pos k1,if_pos n0];exact ⟨pb,hpb,rfl⟩)
 obtain ⟨nx,er⟩:=r
 simp only at HNx
 have q1:(o.k == 109)=true:=by simpa using k1
 have q2:(o.nd == 0)=true:=by simpa using n0
 clear k1 n0 hr
 have HS:Hid (∀ w',Below W.heap.size W w'→Below W.heap.size W w'∧w'.cell? ⟨w.heap.size,4,none⟩=some (.int .i64 o.nd)∧w'.cell? ⟨w.heap.size,5,none⟩=some (.int .i64 o.ot)∧w'.cell? ⟨w.heap.size,6,none⟩=some (.string o.nm)∧w'.cell? ⟨w.heap.size,7,none⟩=some (.string o.vl)):=κ40 fun w' hb=>by
  have h8:=(HWM.out.below hb).box
  exact ⟨hb,h8.c4,h8.c5,h8.c6,h8.c7⟩
 unfold ptrV at *
 clear h hK hup hl hb0 hb4 hw hkb hpb inn ino hfi hW hWM
 go_enter Tryz.func41,Tryz.ntmps41
 go_upto_region 4 with (fail)
 rw [show (w.alloc (.cells #[.int .i64 o.t,.int .i64 o.b,.int .i64 o.n,.int .u8 o.k,.int .i64 o.nd,.int .i64 o.ot,.string o.nm,.string o.vl] 31)).alloc (.cells #[.int .i64 0,.int .i64 0,.int .i64 0,.int .u8 0,.int .i64 0,.int .i64 0,.string ⟨#[]⟩,.string ⟨#[]⟩] 31)=W from HW.out]
 clear HW
 obtain ⟨g4,g5,g6,g7⟩:=(HS.out _ (Below.refl _ _).drew).2
 obtain ⟨k4,k5,k6,k7⟩:=(HS.out _ (Below.refl _ W)).2
 go_region_held_law (fun w'=>w'.cell? ⟨w.heap.size,4,none⟩=some (.int .i64 o.nd)∧w'.cell? ⟨w.heap.size,5,none⟩=some (.int .i64 o.ot)∧w'.cell? ⟨w.heap.size,6,none⟩=some (.string o.nm)∧w'.cell? ⟨w.heap.size,7,none⟩=some (.string o.vl)) (first | with_reducible exact hSt | exact (HS.out _ (by go_grown)).2)
  (first
   | (go_at_call 93;refine (HPl.out _ (by go_grown)).mono ?_;rintro e wA ⟨rfl,hbA⟩;have hA:=bel2 (w0:=W) (by go_grown) hbA;have sA:=hA.size)
   | (go_at_call 99;refine (HNx.out _ (by go_grown)).mono ?_;rintro e wB ⟨rfl,hbB⟩;have hB:=bel2 (w0:=W) (by go_grown) hbB;have sB:=hB.size;have hy:=(HWM.out.below hB).res;have hSt:=(HWM.out.below hB).st nx;obtain ⟨⟨u0z,y0z⟩,x0z⟩:=hy 0 (by omega);obtain ⟨⟨u1z,y1z⟩,x1z⟩:=hy 1 (by omega);obtain ⟨⟨u2z,y2z⟩,x2z⟩:=hy 2 (by omega);obtain ⟨⟨u3z,y3z⟩,x3z⟩:=hy 3 (by omega);obtain ⟨⟨u4z,y4z⟩,x4z⟩:=hy 4 (by omega);obtain ⟨⟨u5z,y5z⟩,x5z⟩:=hy 5 (by omega);obtain ⟨⟨u6z,y6z⟩,x6z⟩:=hy 6 (by omega);obtain ⟨⟨u7z,y7z⟩,x7z⟩:=hy 7 (by omega)))
 all_goals
  rename_i hH
  clear hH
  go_wp2_with fail
  have h8:=(HWM.out.below hB).fin nx
  obtain ⟨W8,hW8⟩:∃ W8,W8=((((((((wB.setCell ⟨w.heap.size+1,0,none⟩ (.int .i64 nx.t)).setCell ⟨w.heap.size+1,1,none⟩ (.int .i64 nx.b)).setCell ⟨w.heap.size+1,2,none⟩ (.int .i64 nx.n)).setCell ⟨w.heap.size+1,3,none⟩ (.int .u8 nx.k)).setCell ⟨w.heap.size+1,4,none⟩ (.int .i64 nx.nd)).setCell ⟨w.heap.size+1,5,none⟩ (.int .i64 nx.ot)).setCell ⟨w.heap.size+1,6,none⟩ (.string nx.nm)).setCell ⟨w.heap.size+1,7,none⟩ (.string nx.vl)):=⟨_,rfl⟩
  replace h8:OpAt W8 (w.heap.size+1) nx∧Below w.heap.size w W8:=by rw [hW8];exact h8
  obtain ⟨⟨l0,l1,l2,l3,l4,l5,l6,l7⟩,hb8⟩:=h8
  first | rw [←hW8] | rw [show _=W8 from hW8.symm]
  refine bodyPost_ret (v:=.tuple #[opV nx,.int .i64 er]) (by simp [results,Tryz.results41,go_sem,l0,l1,l2,l3,l4,l5,l6,l7]) rfl ⟨(nx,er),HMk.out,rfl,hb8⟩
theorem mMakeSet_any (MB:Nat) (b:Int) (A:Option Addr) (n c:Nat) (K:List OpT) (o:OpT) (w:World) (h:MRep MB b A n c K w) (hK:DOk K) (hup:Rising K) (hl:K.length≤1000) (hb0:0≤b) (hb4:b < 4) (hw:o.Wf) (k1:o.k=115) :
  Calls Tryz.prog 41 #[ptrV MB,opV o] w (MmEnds b K o w):=by
 obtain ⟨kb,hkb⟩:∃ kb:Bool,kb=true↔Known K o.nd:=⟨@decide _ (Classical.propDecidable (Known K o.nd)),by simp⟩
 obtain ⟨pb,hpb⟩:∃ pb:Bool,pb=true↔o.ot=0∨o.ot=1∨Known K o.ot:=⟨@decide _ (Classical.propDecidable (o.ot=0∨o.ot=1∨Known K o.ot)),by simp⟩
 have inn:I64 o.nd:=⟨hw.nd1,hw.nd2⟩
 have ino:I64 o.ot:=⟨hw.ot1,hw.ot2⟩
 have hfi:∀ x∈K,OpFine x:=fun x hx=>hK.fine hx
 obtain ⟨W,hW⟩:∃ W,W=(w.alloc (.cells o.cells 31)).alloc (.cells zOp.cells 31):=⟨_,rfl⟩
 have hWM:MkW MB b A n c K o w W:=by rw [hW];exact MkW.start h o
 have HW:=κ40 hW.symm
 have HWM:=κ40 hWM
 have HKn:Hid (∀ w',Below W.heap.size W w'→Calls Tryz.prog 92 #[ptrV MB,.int .i64 o.nd] w' fun e w''=>e=.returned (.bool kb)∧Below w'.heap.size w' w''):=κ40 fun w' hb=>by
  refine (mKnown_any MB b A n c K o.nd w' (hWM.rep.below hb) hfi (by omega)).mono ?_
  rintro e w'' ⟨kb',rfl,h1,h2⟩
  refine ⟨?_,h2⟩
  rw [Bool.eq_iff_iff.2 (h1.trans hkb.symm)]
 have HNx:Hid (∀ w',Below W.heap.size W w'→Calls Tryz.prog 99 #[ptrV MB,.bool kb,opV ⟨0,0,0,115,o.nd,0,o.nm,o.vl⟩] w' fun e w''=>e=.returned (.tuple #[opV (nextP b K kb ⟨0,0,0,115,o.nd,0,o.nm,o.vl⟩).1,.int .i64 (nextP b K kb ⟨0,0,0,115,o.nd,0,o.nm,o.vl⟩).2])∧Below w'.heap.size w' w''):=κ40 fun w' hb=>by
  exact mNext_any MB b A n c K kb _ w' (hWM.rep.below hb) hfi hup hl hb0 hb4 (nextO_wf hK hb0 hb4 (by simp) (by simp) inn ⟨by simp,by simp⟩ hw.nm1 hw.vl1)
 obtain ⟨r,hr⟩:∃ r,nextP b K kb ⟨0,0,0,115,o.nd,0,o.nm,o.vl⟩=r:=⟨_,rfl⟩
 rw [hr] at HNx
 have HMk:Hid (MakeIs b K o r):=κ40 (by rw [←hr];unfold MakeIs;rw [if_neg (by omega),if_neg (by omega),if_neg (by omega)];exact ⟨kb,hkb,rfl⟩)
 obtain ⟨nx,er⟩:=r
 simp only at HNx
 have q1:(o.k == 109)=false:=by rw [k1];rfl
 have q2:(o.k == 105)=false:=by rw [k1];rfl
 have q3:(o.k == 100)=false:=by rw [k1];rfl
 have q4:(o.k == 115)=true:=by rw [k1];rfl
 clear k1 hr
 have HS:Hid (∀ w',Below W.heap.size W w'→Below W.heap.size W w'∧w'.cell? ⟨w.heap.size,4,none⟩=some (.int .i64 o.nd)∧w'.cell? ⟨w.heap.size,5,none⟩=some (.int .i64 o.ot)∧w'.cell? ⟨w.heap.size,6,none⟩=some (.string o.nm)∧w'.cell? ⟨w.heap.size,7,none⟩=some (.string o.vl)):=κ40 fun w' hb=>by
  have h8:=(HWM.out.below hb).box
  exact ⟨hb,h8.c4,h8.c5,h8.c6,h8.c7⟩
 unfold ptrV at *
 clear h hK hup hl hb0 hb4 hw hkb hpb inn ino hfi hW hWM
 go_enter Tryz.func41,Tryz.ntmps41
 go_upto_region 27 with (fail)
 rw [show (w.alloc (.cells #[.int .i64 o.t,.int .i64 o.b,.int .i64 o.n,.int .u8 o.k,.int .i64 o.nd,.int .i64 o.ot,.string o.nm,.string o.vl] 31)).alloc (.cells #[.int .i64 0,.int .i64 0,.int .i64 0,.int .u8 0,.int .i64 0,.int .i64 0,.string ⟨#[]⟩,.string ⟨#[]⟩] 31)=W from HW.out]
 clear HW
 obtain ⟨g4,g5,g6,g7⟩:=(HS.out _ (Below.refl _ _).drew).2
 obtain ⟨k4,k5,k6,k7⟩:=(HS.out _ (Below.refl _ W)).2
 go_region_held_law (fun w'=>w'.cell? ⟨w.heap.size,4,none⟩=some (.int .i64 o.nd)∧w'.cell? ⟨w.heap.size,5,none⟩=some (.int .i64 o.ot)∧w'.cell? ⟨w.heap.size,6,none⟩=some (.string o.nm)∧w'.cell? ⟨w.heap.size,7,none⟩=some (.string o.vl)) (first | with_reducible exact hSt | exact (HS.out _ (by go_grown)).2)
  (first
   | (go_at_call 92;refine (HKn.out _ (by go_grown)).mono ?_;rintro e wA ⟨rfl,hbA⟩;have hA:=bel2 (w0:=W) (by go_grown) hbA;have sA:=hA.size)
   | (go_at_call 99;refine (HNx.out _ (by go_grown)).mono ?_;rintro e wB ⟨rfl,hbB⟩;have hB:=bel2 (w0:=W) (by go_grown) hbB;have sB:=hB.size;have hy:=(HWM.out.below hB).res;have hSt:=(HWM.out.below hB).st nx;obtain ⟨⟨u0z,y0z⟩,x0z⟩:=hy 0 (by omega);obtain ⟨⟨u1z,y1z⟩,x1z⟩:=hy 1 (by omega);obtain ⟨⟨u2z,y2z⟩,x2z⟩:=hy 2 (by omega);obtain ⟨⟨u3z,y3z⟩,x3z⟩:=hy 3 (by omega);obtain ⟨⟨u4z,y4z⟩,x4z⟩:=hy 4 (by omega);obtain ⟨⟨u5z,y5z⟩,x5z⟩:=hy 5 (by omega);obtain ⟨⟨u6z,y6z⟩,x6z⟩:=hy 6 (by omega);obtain ⟨⟨u7z,y7z⟩,x7z⟩:=hy 7 (by omega)))
 all_goals
  rename_i hH
  clear hH
  go_wp2_with fail
  have h8:=(HWM.out.below hB).fin nx
  obtain ⟨W8,hW8⟩:∃ W8,W8=((((((((wB.setCell ⟨w.heap.size+1,0,none⟩ (.int .i64 nx.t)).setCell ⟨w.heap.size+1,1,none⟩ (.int .i64 nx.b)).setCell ⟨w.heap.size+1,2,none⟩ (.int .i64 nx.n)).setCell ⟨w.heap.size+1,3,none⟩ (.int .u8 nx.k)).setCell ⟨w.heap.size+1,4,none⟩ (.int .i64 nx.nd)).setCell ⟨w.heap.size+1,5,none⟩ (.int .i64 nx.ot)).setCell ⟨w.heap.size+1,6,none⟩ (.string nx.nm)).setCell ⟨w.heap.size+1,7,none⟩ (.string nx.vl)):=⟨_,rfl⟩
  replace h8:OpAt W8 (w.heap.size+1) nx∧Below w.heap.size w W8:=by rw [hW8];exact h8
  obtain ⟨⟨l0,l1,l2,l3,l4,l5,l6,l7⟩,hb8⟩:=h8
  first | rw [←hW8] | rw [show _=W8 from hW8.symm]
  refine bodyPost_ret (v:=.tuple #[opV nx,.int .i64 er]) (by simp [results,Tryz.results41,go_sem,l0,l1,l2,l3,l4,l5,l6,l7]) rfl ⟨(nx,er),HMk.out,rfl,hb8⟩
def LtT (kb is:Bool) (ot lo:Int):Prop:=(is=true→kb=true∧0≤ot∧ot < lo)∧(is=false→kb=false∨ot < 0∨lo≤ot)
theorem lt_at {w:World} {A:Option Addr} {n c:Nat} {L:List Lt} (h:SlV letE w (.slice A n c) L) {i:Nat} {y:Lt} (hy:L[i]?=some y) :
  ∃ b off,A=some ⟨b,off,none⟩∧b < w.heap.size∧w.cell? ⟨b,off+i*3,none⟩=some (.int .i64 y.id):=by
 obtain ⟨b,off,e,hb,hc⟩:=h.at' (by decide) hy
 exact ⟨b,off,e,hb,by have:=hc 0 (.int .i64 y.id) rfl;rwa [Nat.add_zero] at this⟩
theorem vl_one {s:ByteArray} (h:(s.toList == [])=false):1≤s.size∧s.extract 0 1=⟨#[firstB s]⟩:=by
 rw [ByteArray.toList_eq] at h
 obtain ⟨⟨l⟩⟩:=s
 cases l with
 | nil=>simp at h
 | cons c r=>
  refine ⟨by show 1≤r.length+1;omega,?_⟩
  apply ByteArray.ext
  rw [ByteArray.data_extract]
  simp [firstB]
theorem vl_none {s:ByteArray} (h:(s.toList == [])=true):firstB s=0:=by
 rw [ByteArray.toList_eq,beq_iff_eq] at h
 unfold firstB
 rw [h]
theorem mMakeDel_any (MB:Nat) (b:Int) (A:Option Addr) (n c:Nat) (K:List OpT) (o:OpT) (w:World) (h:MRep MB b A n c K w) (hK:DOk K) (hup:Rising K) (hl:K.length≤1000) (hb0:0≤b) (hb4:b < 4) (hw:o.Wf) (k1:o.k=100) :
  Calls Tryz.prog 41 #[ptrV MB,opV o] w (MmEnds b K o w):=by
 obtain ⟨kb,hkb⟩:∃ kb:Bool,kb=true↔Known K o.nd:=⟨@decide _ (Classical.propDecidable (Known K o.nd)),by simp⟩
 obtain ⟨pb,hpb⟩:∃ pb:Bool,pb=true↔o.ot=0∨o.ot=1∨Known K o.ot:=⟨@decide _ (Classical.propDecidable (o.ot=0∨o.ot=1∨Known K o.ot)),by simp⟩
 have inn:I64 o.nd:=⟨hw.nd1,hw.nd2⟩
 have ino:I64 o.ot:=⟨hw.ot1,hw.ot2⟩
 have hfi:∀ x∈K,OpFine x:=fun x hx=>hK.fine hx
 obtain ⟨W,hW⟩:∃ W,W=(w.alloc (.cells o.cells 31)).alloc (.cells zOp.cells 31):=⟨_,rfl⟩
 have hWM:MkW MB b A n c K o w W:=by rw [hW];exact MkW.start h o
 have HW:=κ40 hW.symm
 have HWM:=κ40 hWM
 have HKn:Hid (∀ w',Below W.heap.size W w'→Calls Tryz.prog 92 #[ptrV MB,.int .i64 o.nd] w' fun e w''=>e=.returned (.bool kb)∧Below w'.heap.size w' w''):=κ40 fun w' hb=>by
  refine (mKnown_any MB b A n c K o.nd w' (hWM.rep.below hb) hfi (by omega)).mono ?_
  rintro e w'' ⟨kb',rfl,h1,h2⟩
  refine ⟨?_,h2⟩
  rw [Bool.eq_iff_iff.2 (h1.trans hkb.symm)]
 have HLn:Hid (∀ w',Below W.heap.size W w'→Calls Tryz.prog 100 #[.slice A n c,.int .i64 o.nd] w' (LnEnds K o.nd w')):=κ40 fun w' hb=>mLineOf_any A n c K o.nd w' (hWM.rep.below hb).sl hK hup hl
 have HNx:Hid (∀ id is w',LetAt K o.nd o.ot kb id is→Below W.heap.size W w'→Calls Tryz.prog 99 #[ptrV MB,.bool is,opV ⟨0,0,0,100,o.nd,id,⟨#[]⟩,⟨#[]⟩⟩] w' fun e w''=>∃ r,MakeIs b K o r∧e=.returned (.tuple #[opV r.1,.int .i64 r.2])∧Below w'.heap.size w' w''):=κ40 fun id is w' ha hb=>by
  have hx:=mNext_any MB b A n c K is ⟨0,0,0,100,o.nd,id,⟨#[]⟩,⟨#[]⟩⟩ w' (hWM.rep.below hb) hfi hup hl hb0 hb4 (nextO_wf hK hb0 hb4 (by simp) (by simp) inn (ha.rg hK) nil_le (by first | exact nil_le | (show (1:Nat)≤100000;omega)))
  obtain ⟨r,hr⟩:∃ r,nextP b K is ⟨0,0,0,100,o.nd,id,⟨#[]⟩,⟨#[]⟩⟩=r:=⟨_,rfl⟩
  rw [hr] at hx
  refine hx.mono ?_
  rintro e w'' ⟨rfl,h2⟩
  refine ⟨r,?_,rfl,h2⟩
  unfold MakeIs
  rw [if_neg (by omega),if_neg (by omega),if_pos k1]
  exact ⟨kb,id,is,hkb,ha,hr.symm⟩
 have HKl:=κ40 hl
 have q1:(o.k == 109)=false:=by rw [k1];rfl
 have q2:(o.k == 105)=false:=by rw [k1];rfl
 have q3:(o.k == 100)=true:=by rw [k1];rfl
 clear k1
 have HS1:Hid (∀ w',Below W.heap.size W w'→Below W.heap.size W w'∧w'.cell? ⟨MB,1,none⟩=some (.slice A n c)∧w'.cell? ⟨w.heap.size,4,none⟩=some (.int .i64 o.nd)∧w'.cell? ⟨w.heap.size,5,none⟩=some (.int .i64 o.ot)∧w'.cell? ⟨w.heap.size,6,none⟩=some (.string o.nm)∧w'.cell? ⟨w.heap.size,7,none⟩=some (.string o.vl)):=κ40 fun w' hb=>by
  have h8:=(HWM.out.below hb).box
  exact ⟨hb,(HWM.out.rep.below hb).c1,h8.c4,h8.c5,h8.c6,h8.c7⟩
 unfold ptrV at *
 clear h hK hup hl hb0 hb4 hw hkb hpb inn ino hfi hW hWM
 go_enter Tryz.func41,Tryz.ntmps41
 go_upto_region 20 with (fail)
 rw [show (w.alloc (.cells #[.int .i64 o.t,.int .i64 o.b,.int .i64 o.n,.int .u8 o.k,.int .i64 o.nd,.int .i64 o.ot,.string o.nm,.string o.vl] 31)).alloc (.cells #[.int .i64 0,.int .i64 0,.int .i64 0,.int .u8 0,.int .i64 0,.int .i64 0,.string ⟨#[]⟩,.string ⟨#[]⟩] 31)=W from HW.out]
 clear HW
 obtain ⟨g1,g4,g5,g6,g7⟩:=(HS1.out _ (Below.refl _ _).drew).2
 obtain ⟨k1,k4,k5,k6,k7⟩:=(HS1.out _ (Below.refl _ W)).2
 go_cut [12] (fun v wd=>∃ (A3:Option Addr) (n3 c3:Nat) (L:List Lt),v=.slice A3 n3 c3∧Hid (SlV letE wd (.slice A3 n3 c3) (seenL L)∧LineOf K o.nd L∧L.length≤1000∧Below W.heap.size W wd))
 case first=>
  go_region_held_law (fun w'=>Below W.heap.size W w'∧w'.cell? ⟨MB,1,none⟩=some (.slice A n c)∧w'.cell? ⟨w.heap.size,4,none⟩=some (.int .i64 o.nd)∧w'.cell? ⟨w.heap.size,5,none⟩=some (.int .i64 o.ot)∧w'.cell? ⟨w.heap.size,6,none⟩=some (.string o.nm)∧w'.cell? ⟨w.heap.size,7,none⟩=some (.string o.vl)) (exact HS1.out _ (by go_grown))
   (first
    | (go_at_call 100;refine (HLn.out _ (by go_grown)).mono ?_;rintro e wA ⟨LB,v,L,rfl,hm,hL,hLl,hbA⟩;have hA:=bel2 (w0:=W) (by go_grown) hbA;have sA:=hA.size;have HLL:=κ40 (And.intro hL hLl);have HSn:=κ40 (mseen_any _ LB v L wA (by have:=HKl.out;omega) hm);clear hm hL hLl)
    | (go_at_call 101;refine HSn.out.mono ?_;rintro e wC ⟨vS,rfl,hrC,hbC⟩;obtain ⟨A3,n3,c3,rfl⟩:=hrC.slice;have hC:=bel2 (w0:=W) (by go_grown) hbC;have sC:=hC.size;have HRC:=κ40 hrC.sl;clear hrC))
  all_goals
   rename_i hH
   clear hH
   go_wp2_with fail
   go_meet
   case rel=>exact ⟨A3,n3,c3,L,rfl,κ40 ⟨HRC.out,HLL.out.1,by have:=HLL.out.2;have:=HKl.out;omega,hC⟩⟩
 case rest=>
 obtain ⟨A3,n3,c3,L,rfl,HL⟩:=hcut
 obtain ⟨w1,rfl⟩:∃ w1,w1=wc:=⟨_,rfl⟩
 have hn3:n3=(seenL L).length:=HL.out.1.len
 have hn4:n3≤1000:=by have:=seenL_len L;have:=HL.out.2.2.1;omega
 have HN3:=κ40 hn3
 have HWc:=κ40 (HWM.out.below HL.out.2.2.2)
 have HKn':=κ40 (HKn.out w1 HL.out.2.2.2)
 obtain ⟨k4,k5,k6,k7⟩:=(show w1.cell? ⟨w.heap.size,4,none⟩=some (.int .i64 o.nd)∧w1.cell? ⟨w.heap.size,5,none⟩=some (.int .i64 o.ot)∧w1.cell? ⟨w.heap.size,6,none⟩=some (.string o.nm)∧w1.cell? ⟨w.heap.size,7,none⟩=some (.string o.vl) from ⟨HWc.out.box.c4,HWc.out.box.c5,HWc.out.box.c6,HWc.out.box.c7⟩)
 clear hn3 HKn HS1 HLn HKl HWM g1 g4 g5 g6 g7
 go_upto_region 21 with (fail)
 go_cut [13] (fun v wd=>∃ is:Bool,v=.bool is∧Hid (Below w1.heap.size w1 wd)∧Hid (LtT kb is o.ot (n3)))
 case first=>
  go_wp2_with fail
  refine HKn'.out.mono ?_
  rintro e wK ⟨rfl,hbK⟩
  have HBk:=κ40 hbK
  have HWk:=κ40 (HWc.out.below hbK)
  obtain ⟨k4',k5',k6',k7'⟩:=(show wK.cell? ⟨w.heap.size,4,none⟩=some (.int .i64 o.nd)∧wK.cell? ⟨w.heap.size,5,none⟩=some (.int .i64 o.ot)∧wK.cell? ⟨w.heap.size,6,none⟩=some (.string o.nm)∧wK.cell? ⟨w.heap.size,7,none⟩=some (.string o.vl) from ⟨HWk.out.box.c4,HWk.out.box.c5,HWk.out.box.c6,HWk.out.box.c7⟩)
  clear hbK HKn'
  cases kb with
  | false=>
   go_wp2_with fail
   go_meet
   case rel=>exact ⟨false,by simp,HBk,κ40 ⟨(fun h=>by cases h),fun _=>.inl rfl⟩⟩
  | true=>
   by_cases t0:0≤o.ot
   ·by_cases t1:o.ot < n3
    ·go_wp2_with fail
     go_meet
     case rel=>exact ⟨true,by simp [t1],HBk,κ40 ⟨fun _=>⟨rfl,t0,by omega⟩,fun h=>by cases h⟩⟩
    ·go_wp2_with fail
     go_meet
     case rel=>exact ⟨false,by simp [t1],HBk,κ40 ⟨(fun h=>by cases h),fun _=>.inr (.inr (by omega))⟩⟩
   ·go_wp2_with fail
    go_meet
    case rel=>exact ⟨false,by simp,HBk,κ40 ⟨(fun h=>by cases h),fun _=>.inr (.inl (by omega))⟩⟩
 case rest=>
  obtain ⟨is,rfl,HD,HT⟩:=hcut
  have HBc:=κ40 (HL.out.2.2.2.trans (HD.out.mono HL.out.2.2.2.size))
  have HWd:=κ40 (HWc.out.below HD.out)
  obtain ⟨k4',k5',k6',k7'⟩:=(show wc.cell? ⟨w.heap.size,4,none⟩=some (.int .i64 o.nd)∧wc.cell? ⟨w.heap.size,5,none⟩=some (.int .i64 o.ot)∧wc.cell? ⟨w.heap.size,6,none⟩=some (.string o.nm)∧wc.cell? ⟨w.heap.size,7,none⟩=some (.string o.vl) from ⟨HWd.out.box.c4,HWd.out.box.c5,HWd.out.box.c6,HWd.out.box.c7⟩)
  have HSd:=κ40 (HL.out.1.below HD.out)
  clear k4 k5 k6 k7 HKn' HWc
  cases is with
  | false=>
   have HLA:Hid (LetAt K o.nd o.ot kb 0 false):=κ40 (.inr ⟨(HT.out.2 rfl).imp_right (fun h=>⟨L,HL.out.2.1,h.imp_right (fun h=>by rw [←HN3.out];exact h)⟩),rfl,rfl⟩)
   clear HT
   go_wp2_with fail
   refine (HNx.out (0) false _ HLA.out HBc.out).mono ?_
   rintro e wB ⟨⟨nx,er⟩,hmk,rfl,hbB⟩
   have HMk:=κ40 hmk
   have HMq:=κ40 (HWd.out.below hbB)
   have hyq:=HMq.out.res
   obtain ⟨⟨u0q,y0q⟩,x0q⟩:=hyq 0 (by omega)
   obtain ⟨⟨u1q,y1q⟩,x1q⟩:=hyq 1 (by omega)
   obtain ⟨⟨u2q,y2q⟩,x2q⟩:=hyq 2 (by omega)
   obtain ⟨⟨u3q,y3q⟩,x3q⟩:=hyq 3 (by omega)
   obtain ⟨⟨u4q,y4q⟩,x4q⟩:=hyq 4 (by omega)
   obtain ⟨⟨u5q,y5q⟩,x5q⟩:=hyq 5 (by omega)
   obtain ⟨⟨u6q,y6q⟩,x6q⟩:=hyq 6 (by omega)
   obtain ⟨⟨u7q,y7q⟩,x7q⟩:=hyq 7 (by omega)
   clear hyq hmk hbB HNx
   go_wp2_with fail
   have h8:=HMq.out.fin nx
   obtain ⟨W8,hW8⟩:∃ W8,W8=((((((((wB.setCell ⟨w.heap.size+1,0,none⟩ (.int .i64 nx.t)).setCell ⟨w.heap.size+1,1,none⟩ (.int .i64 nx.b)).setCell ⟨w.heap.size+1,2,none⟩ (.int .i64 nx.n)).setCell ⟨w.heap.size+1,3,none⟩ (.int .u8 nx.k)).setCell ⟨w.heap.size+1,4,none⟩ (.int .i64 nx.nd)).setCell ⟨w.heap.size+1,5,none⟩ (.int .i64 nx.ot)).setCell ⟨w.heap.size+1,6,none⟩ (.string nx.nm)).setCell ⟨w.heap.size+1,7,none⟩ (.string nx.vl)):=⟨_,rfl⟩
   replace h8:OpAt W8 (w.heap.size+1) nx∧Below w.heap.size w W8:=by rw [hW8];exact h8
   obtain ⟨⟨l0,l1,l2,l3,l4,l5,l6,l7⟩,hb8⟩:=h8
   first | rw [←hW8] | rw [show _=W8 from hW8.symm]
   refine bodyPost_ret (v:=.tuple #[opV nx,.int .i64 er]) (by simp [results,Tryz.results41,go_sem,l0,l1,l2,l3,l4,l5,l6,l7]) rfl ⟨(nx,er),HMk.out,rfl,hb8⟩
  | true=>
   obtain ⟨t0,t1,t2⟩:=HT.out.1 rfl
   obtain ⟨at',hat⟩:∃ q:Nat,o.ot=q:=⟨o.ot.toNat,by omega⟩
   obtain ⟨x,hx⟩:∃ x,(seenL L)[at']?=some x:=⟨_,List.getElem?_eq_getElem (by have:=HN3.out;omega)⟩
   have HLA:Hid (LetAt K o.nd o.ot kb x.id true):=κ40 (.inl ⟨t0,t1,L,HL.out.2.1,x,by rw [hat];exact hx,rfl,rfl⟩)
   obtain ⟨bb,off,rfl,hbl,hq0⟩:=lt_at HSd.out hx
   rw [hat] at k5'
   have j0:(0:Int)≤(at':Int):=by omega
   have j1:(at':Int) < n3:=by omega
   clear HT t0 t1 t2 hx hbl hat
   go_wp2_with fail
   refine (HNx.out (x.id) true _ HLA.out HBc.out).mono ?_
   rintro e wB ⟨⟨nx,er⟩,hmk,rfl,hbB⟩
   have HMk:=κ40 hmk
   have HMq:=κ40 (HWd.out.below hbB)
   have hyq:=HMq.out.res
   obtain ⟨⟨u0q,y0q⟩,x0q⟩:=hyq 0 (by omega)
   obtain ⟨⟨u1q,y1q⟩,x1q⟩:=hyq 1 (by omega)
   obtain ⟨⟨u2q,y2q⟩,x2q⟩:=hyq 2 (by omega)
   obtain ⟨⟨u3q,y3q⟩,x3q⟩:=hyq 3 (by omega)
   obtain ⟨⟨u4q,y4q⟩,x4q⟩:=hyq 4 (by omega)
   obtain ⟨⟨u5q,y5q⟩,x5q⟩:=hyq 5 (by omega)
   obtain ⟨⟨u6q,y6q⟩,x6q⟩:=hyq 6 (by omega)
   obtain ⟨⟨u7q,y7q⟩,x7q⟩:=hyq 7 (by omega)
   clear hyq hmk hbB HNx
   go_wp2_with fail
   have h8:=HMq.out.fin nx
   obtain ⟨W8,hW8⟩:∃ W8,W8=((((((((wB.setCell ⟨w.heap.size+1,0,none⟩ (.int .i64 nx.t)).setCell ⟨w.heap.size+1,1,none⟩ (.int .i64 nx.b)).setCell ⟨w.heap.size+1,2,none⟩ (.int .i64 nx.n)).setCell ⟨w.heap.size+1,3,none⟩ (.int .u8 nx.k)).setCell ⟨w.heap.size+1,4,none⟩ (.int .i64 nx.nd)).setCell ⟨w.heap.size+1,5,none⟩ (.int .i64 nx.ot)).setCell ⟨w.heap.size+1,6,none⟩ (.string nx.nm)).setCell ⟨w.heap.size+1,7,none⟩ (.string nx.vl)):=⟨_,rfl⟩
   replace h8:OpAt W8 (w.heap.size+1) nx∧Below w.heap.size w W8:=by rw [hW8];exact h8
   obtain ⟨⟨l0,l1,l2,l3,l4,l5,l6,l7⟩,hb8⟩:=h8
   first | rw [←hW8] | rw [show _=W8 from hW8.symm]
   refine bodyPost_ret (v:=.tuple #[opV nx,.int .i64 er]) (by simp [results,Tryz.results41,go_sem,l0,l1,l2,l3,l4,l5,l6,l7]) rfl ⟨(nx,er),HMk.out,rfl,hb8⟩
theorem mMakeIns_any (MB:Nat) (b:Int) (A:Option Addr) (n c:Nat) (K:List OpT) (o:OpT) (w:World) (h:MRep MB b A n c K w) (hK:DOk K) (hup:Rising K) (hl:K.length≤1000) (hb0:0≤b) (hb4:b < 4) (hw:o.Wf) (k1:o.k=105) :
  Calls Tryz.prog 41 #[ptrV MB,opV o] w (MmEnds b K o w):=by
 obtain ⟨kb,hkb⟩:∃ kb:Bool,kb=true↔Known K o.nd:=⟨@decide _ (Classical.propDecidable (Known K o.nd)),by simp⟩
 obtain ⟨pb,hpb⟩:∃ pb:Bool,pb=true↔o.ot=0∨o.ot=1∨Known K o.ot:=⟨@decide _ (Classical.propDecidable (o.ot=0∨o.ot=1∨Known K o.ot)),by simp⟩
 have inn:I64 o.nd:=⟨hw.nd1,hw.nd2⟩
 have ino:I64 o.ot:=⟨hw.ot1,hw.ot2⟩
 have hfi:∀ x∈K,OpFine x:=fun x hx=>hK.fine hx
 obtain ⟨W,hW⟩:∃ W,W=(w.alloc (.cells o.cells 31)).alloc (.cells zOp.cells 31):=⟨_,rfl⟩
 have hWM:MkW MB b A n c K o w W:=by rw [hW];exact MkW.start h o
 have HW:=κ40 hW.symm
 have HWM:=κ40 hWM
 have HKn:Hid (∀ w',Below W.heap.size W w'→Calls Tryz.prog 92 #[ptrV MB,.int .i64 o.nd] w' fun e w''=>e=.returned (.bool kb)∧Below w'.heap.size w' w''):=κ40 fun w' hb=>by
  refine (mKnown_any MB b A n c K o.nd w' (hWM.rep.below hb) hfi (by omega)).mono ?_
  rintro e w'' ⟨kb',rfl,h1,h2⟩
  refine ⟨?_,h2⟩
  rw [Bool.eq_iff_iff.2 (h1.trans hkb.symm)]
 have HLn:Hid (∀ w',Below W.heap.size W w'→Calls Tryz.prog 100 #[.slice A n c,.int .i64 o.nd] w' (LnEnds K o.nd w')):=κ40 fun w' hb=>mLineOf_any A n c K o.nd w' (hWM.rep.below hb).sl hK hup hl
 have HNx:Hid (∀ id is w',WrAt K o.nd o.ot kb id is→Below W.heap.size W w'→Calls Tryz.prog 99 #[ptrV MB,.bool is,opV ⟨0,0,0,105,o.nd,id,⟨#[]⟩,⟨#[firstB o.vl]⟩⟩] w' fun e w''=>∃ r,MakeIs b K o r∧e=.returned (.tuple #[opV r.1,.int .i64 r.2])∧Below w'.heap.size w' w''):=κ40 fun id is w' ha hb=>by
  have hx:=mNext_any MB b A n c K is ⟨0,0,0,105,o.nd,id,⟨#[]⟩,⟨#[firstB o.vl]⟩⟩ w' (hWM.rep.below hb) hfi hup hl hb0 hb4 (nextO_wf hK hb0 hb4 (by simp) (by simp) inn (ha.rg hK) nil_le (by first | exact nil_le | (show (1:Nat)≤100000;omega)))
  obtain ⟨r,hr⟩:∃ r,nextP b K is ⟨0,0,0,105,o.nd,id,⟨#[]⟩,⟨#[firstB o.vl]⟩⟩=r:=⟨_,rfl⟩
  rw [hr] at hx
  refine hx.mono ?_
  rintro e w'' ⟨rfl,h2⟩
  refine ⟨r,?_,rfl,h2⟩
  unfold MakeIs
  rw [if_neg (by omega),if_pos k1]
  exact ⟨kb,id,is,hkb,ha,hr.symm⟩
 have HKl:=κ40 hl
 have q1:(o.k == 109)=false:=by rw [k1];rfl
 have q2:(o.k == 105)=true:=by rw [k1];rfl
 clear k1
 have HS1:Hid (∀ w',Below W.heap.size W w'→Below W.heap.size W w'∧w'.cell? ⟨MB,1,none⟩=some (.slice A n c)∧w'.cell? ⟨w.heap.size,4,none⟩=some (.int .i64 o.nd)∧w'.cell? ⟨w.heap.size,5,none⟩=some (.int .i64 o.ot)∧w'.cell? ⟨w.heap.size,6,none⟩=some (.string o.nm)∧w'.cell? ⟨w.heap.size,7,none⟩=some (.string o.vl)):=κ40 fun w' hb=>by
  have h8:=(HWM.out.below hb).box
  exact ⟨hb,(HWM.out.rep.below hb).c1,h8.c4,h8.c5,h8.c6,h8.c7⟩
 unfold ptrV at *
 clear h hK hup hl hb0 hb4 hw hkb hpb inn ino hfi hW hWM
 go_enter Tryz.func41,Tryz.ntmps41
 go_upto_region 11 with (fail)
 rw [show (w.alloc (.cells #[.int .i64 o.t,.int .i64 o.b,.int .i64 o.n,.int .u8 o.k,.int .i64 o.nd,.int .i64 o.ot,.string o.nm,.string o.vl] 31)).alloc (.cells #[.int .i64 0,.int .i64 0,.int .i64 0,.int .u8 0,.int .i64 0,.int .i64 0,.string ⟨#[]⟩,.string ⟨#[]⟩] 31)=W from HW.out]
 clear HW
 obtain ⟨k1,k4,k5,k6,k7⟩:=(HS1.out _ (Below.refl _ W)).2
 obtain ⟨tb,htb⟩:∃ tb,(o.vl.toList == [])=tb:=⟨_,rfl⟩
 go_upto_if 85 with (fail)
 go_cut [8] (fun v wd=>v=.string ⟨#[firstB o.vl]⟩∧wd=W)
 case first=>
  clear HNx HLn HKn
  cases tb with
  | true=>
   have hv:=vl_none htb
   go_wp2_with fail
   go_meet
   case rel=>exact ⟨by rw [hv],rfl⟩
  | false=>
   obtain ⟨hv1,hv2⟩:=vl_one htb
   have sl:∀ w,(Instr.slice 9 (.string o.vl) none (some (.int .i64 1)) none).run Tryz.prog w=.ok (.string ⟨#[firstB o.vl]⟩) w:=fun w=>by rw [←hv2];go_simp;intro h;omega
   clear hv2
   go_wp2_with fail
   go_meet
   case rel=>exact ⟨rfl,rfl⟩
 case rest=>
 obtain ⟨rfl,hwd⟩:=hcut
 subst wc
 clear htb k1 k4 k5 k6 k7
 go_upto_region 13 with (fail)
 obtain ⟨g1,g4,g5,g6,g7⟩:=(HS1.out _ (Below.refl _ _).drew).2
 obtain ⟨k1,k4,k5,k6,k7⟩:=(HS1.out _ (Below.refl _ W)).2
 go_cut [9] (fun v wd=>∃ (A3:Option Addr) (n3 c3:Nat) (L:List Lt),v=.slice A3 n3 c3∧Hid (SlV letE wd (.slice A3 n3 c3) (seenL L)∧LineOf K o.nd L∧L.length≤1000∧Below W.heap.size W wd))
 case first=>
  go_region_held_law (fun w'=>Below W.heap.size W w'∧w'.cell? ⟨MB,1,none⟩=some (.slice A n c)∧w'.cell? ⟨w.heap.size,4,none⟩=some (.int .i64 o.nd)∧w'.cell? ⟨w.heap.size,5,none⟩=some (.int .i64 o.ot)∧w'.cell? ⟨w.heap.size,6,none⟩=some (.string o.nm)∧w'.cell? ⟨w.heap.size,7,none⟩=some (.string o.vl)) (exact HS1.out _ (by go_grown))
   (first
    | (go_at_call 100;refine (HLn.out _ (by go_grown)).mono ?_;rintro e wA ⟨LB,v,L,rfl,hm,hL,hLl,hbA⟩;have hA:=bel2 (w0:=W) (by go_grown) hbA;have sA:=hA.size;have HLL:=κ40 (And.intro hL hLl);have HSn:=κ40 (mseen_any _ LB v L wA (by have:=HKl.out;omega) hm);clear hm hL hLl)
    | (go_at_call 101;refine HSn.out.mono ?_;rintro e wC ⟨vS,rfl,hrC,hbC⟩;obtain ⟨A3,n3,c3,rfl⟩:=hrC.slice;have hC:=bel2 (w0:=W) (by go_grown) hbC;have sC:=hC.size;have HRC:=κ40 hrC.sl;clear hrC))
  all_goals
   rename_i hH
   clear hH
   go_wp2_with fail
   go_meet
   case rel=>exact ⟨A3,n3,c3,L,rfl,κ40 ⟨HRC.out,HLL.out.1,by have:=HLL.out.2;have:=HKl.out;omega,hC⟩⟩
 case rest=>
 obtain ⟨A3,n3,c3,L,rfl,HL⟩:=hcut
 obtain ⟨w1,rfl⟩:∃ w1,w1=wc:=⟨_,rfl⟩
 have hn3:n3=(seenL L).length:=HL.out.1.len
 have hn4:n3≤1000:=by have:=seenL_len L;have:=HL.out.2.2.1;omega
 have HN3:=κ40 hn3
 have HWc:=κ40 (HWM.out.below HL.out.2.2.2)
 have HKn':=κ40 (HKn.out w1 HL.out.2.2.2)
 obtain ⟨k4,k5,k6,k7⟩:=(show w1.cell? ⟨w.heap.size,4,none⟩=some (.int .i64 o.nd)∧w1.cell? ⟨w.heap.size,5,none⟩=some (.int .i64 o.ot)∧w1.cell? ⟨w.heap.size,6,none⟩=some (.string o.nm)∧w1.cell? ⟨w.heap.size,7,none⟩=some (.string o.vl) from ⟨HWc.out.box.c4,HWc.out.box.c5,HWc.out.box.c6,HWc.out.box.c7⟩)
 clear hn3 HKn HS1 HLn HKl HWM g1 g4 g5 g6 g7
 go_upto_region 14 with (fail)
 go_cut [10] (fun v wd=>∃ is:Bool,v=.bool is∧Hid (Below w1.heap.size w1 wd)∧Hid (LtT kb is o.ot (n3+1)))
 case first=>
  go_wp2_with fail
  refine HKn'.out.mono ?_
  rintro e wK ⟨rfl,hbK⟩
  have HBk:=κ40 hbK
  have HWk:=κ40 (HWc.out.below hbK)
  obtain ⟨k4',k5',k6',k7'⟩:=(show wK.cell? ⟨w.heap.size,4,none⟩=some (.int .i64 o.nd)∧wK.cell? ⟨w.heap.size,5,none⟩=some (.int .i64 o.ot)∧wK.cell? ⟨w.heap.size,6,none⟩=some (.string o.nm)∧wK.cell? ⟨w.heap.size,7,none⟩=some (.string o.vl) from ⟨HWk.out.box.c4,HWk.out.box.c5,HWk.out.box.c6,HWk.out.box.c7⟩)
  clear hbK HKn'
  cases kb with
  | false=>
   go_wp2_with fail
   go_meet
   case rel=>exact ⟨false,by simp,HBk,κ40 ⟨(fun h=>by cases h),fun _=>.inl rfl⟩⟩
  | true=>
   by_cases t0:0≤o.ot
   ·by_cases t1:o.ot≤n3
    ·go_wp2_with fail
     go_meet
     case rel=>exact ⟨true,by simp [t1],HBk,κ40 ⟨fun _=>⟨rfl,t0,by omega⟩,fun h=>by cases h⟩⟩
    ·go_wp2_with fail
     go_meet
     case rel=>exact ⟨false,by simp [t1],HBk,κ40 ⟨(fun h=>by cases h),fun _=>.inr (.inr (by omega))⟩⟩
   ·go_wp2_with fail
    go_meet
    case rel=>exact ⟨false,by simp,HBk,κ40 ⟨(fun h=>by cases h),fun _=>.inr (.inl (by omega))⟩⟩
 case rest=>
  obtain ⟨is,rfl,HD,HT⟩:=hcut
  have HBc:=κ40 (HL.out.2.2.2.trans (HD.out.mono HL.out.2.2.2.size))
  have HWd:=κ40 (HWc.out.below HD.out)
  obtain ⟨k4',k5',k6',k7'⟩:=(show wc.cell? ⟨w.heap.size,4,none⟩=some (.int .i64 o.nd)∧wc.cell? ⟨w.heap.size,5,none⟩=some (.int .i64 o.ot)∧wc.cell? ⟨w.heap.size,6,none⟩=some (.string o.nm)∧wc.cell? ⟨w.heap.size,7,none⟩=some (.string o.vl) from ⟨HWd.out.box.c4,HWd.out.box.c5,HWd.out.box.c6,HWd.out.box.c7⟩)
  have HSd:=κ40 (HL.out.1.below HD.out)
  clear k4 k5 k6 k7 HKn' HWc
  cases is with
  | false=>
   have HLA:Hid (WrAt K o.nd o.ot kb 0 false):=κ40 (by
    by_cases h0:o.ot=0
    ·exact .inl ⟨h0,rfl,by rcases HT.out.2 rfl with h | h | h;exact h.symm;omega;omega⟩
    ·exact .inr ⟨h0,o.ot - 1,.inr ⟨(HT.out.2 rfl).imp_right (fun h=>⟨L,HL.out.2.1,by have:=HN3.out;omega⟩),rfl,rfl⟩,(fun h=>by cases h),.inl rfl⟩)
   clear HT
   go_wp2_with fail
   refine (HNx.out (0) false _ HLA.out HBc.out).mono ?_
   rintro e wB ⟨⟨nx,er⟩,hmk,rfl,hbB⟩
   have HMk:=κ40 hmk
   have HMq:=κ40 (HWd.out.below hbB)
   have hyq:=HMq.out.res
   obtain ⟨⟨u0q,y0q⟩,x0q⟩:=hyq 0 (by omega)
   obtain ⟨⟨u1q,y1q⟩,x1q⟩:=hyq 1 (by omega)
   obtain ⟨⟨u2q,y2q⟩,x2q⟩:=hyq 2 (by omega)
   obtain ⟨⟨u3q,y3q⟩,x3q⟩:=hyq 3 (by omega)
   obtain ⟨⟨u4q,y4q⟩,x4q⟩:=hyq 4 (by omega)
   obtain ⟨⟨u5q,y5q⟩,x5q⟩:=hyq 5 (by omega)
   obtain ⟨⟨u6q,y6q⟩,x6q⟩:=hyq 6 (by omega)
   obtain ⟨⟨u7q,y7q⟩,x7q⟩:=hyq 7 (by omega)
   clear hyq hmk hbB HNx
   go_wp2_with fail
   have h8:=HMq.out.fin nx
   obtain ⟨W8,hW8⟩:∃ W8,W8=((((((((wB.setCell ⟨w.heap.size+1,0,none⟩ (.int .i64 nx.t)).setCell ⟨w.heap.size+1,1,none⟩ (.int .i64 nx.b)).setCell ⟨w.heap.size+1,2,none⟩ (.int .i64 nx.n)).setCell ⟨w.heap.size+1,3,none⟩ (.int .u8 nx.k)).setCell ⟨w.heap.size+1,4,none⟩ (.int .i64 nx.nd)).setCell ⟨w.heap.size+1,5,none⟩ (.int .i64 nx.ot)).setCell ⟨w.heap.size+1,6,none⟩ (.string nx.nm)).setCell ⟨w.heap.size+1,7,none⟩ (.string nx.vl)):=⟨_,rfl⟩
   replace h8:OpAt W8 (w.heap.size+1) nx∧Below w.heap.size w W8:=by rw [hW8];exact h8
   obtain ⟨⟨l0,l1,l2,l3,l4,l5,l6,l7⟩,hb8⟩:=h8
   first | rw [←hW8] | rw [show _=W8 from hW8.symm]
   refine bodyPost_ret (v:=.tuple #[opV nx,.int .i64 er]) (by simp [results,Tryz.results41,go_sem,l0,l1,l2,l3,l4,l5,l6,l7]) rfl ⟨(nx,er),HMk.out,rfl,hb8⟩
  | true=>
   obtain ⟨t0,t1,t2⟩:=HT.out.1 rfl
   by_cases z0:o.ot=0
   ·have HLA:Hid (WrAt K o.nd o.ot kb 0 true):=κ40 (.inl ⟨z0,rfl,t0.symm⟩)
    have tz:¬ 0 < o.ot:=by omega
    clear HT t0 t1 t2 z0
    go_wp2_with fail
    refine (HNx.out (0) true _ HLA.out HBc.out).mono ?_
    rintro e wB ⟨⟨nx,er⟩,hmk,rfl,hbB⟩
    have HMk:=κ40 hmk
    have HMq:=κ40 (HWd.out.below hbB)
    have hyq:=HMq.out.res
    obtain ⟨⟨u0q,y0q⟩,x0q⟩:=hyq 0 (by omega)
    obtain ⟨⟨u1q,y1q⟩,x1q⟩:=hyq 1 (by omega)
    obtain ⟨⟨u2q,y2q⟩,x2q⟩:=hyq 2 (by omega)
    obtain ⟨⟨u3q,y3q⟩,x3q⟩:=hyq 3 (by omega)
    obtain ⟨⟨u4q,y4q⟩,x4q⟩:=hyq 4 (by omega)
    obtain ⟨⟨u5q,y5q⟩,x5q⟩:=hyq 5 (by omega)
    obtain ⟨⟨u6q,y6q⟩,x6q⟩:=hyq 6 (by omega)
    obtain ⟨⟨u7q,y7q⟩,x7q⟩:=hyq 7 (by omega)
    clear hyq hmk hbB HNx
    go_wp2_with fail
    have h8:=HMq.out.fin nx
    obtain ⟨W8,hW8⟩:∃ W8,W8=((((((((wB.setCell ⟨w.heap.size+1,0,none⟩ (.int .i64 nx.t)).setCell ⟨w.heap.size+1,1,none⟩ (.int .i64 nx.b)).setCell ⟨w.heap.size+1,2,none⟩ (.int .i64 nx.n)).setCell ⟨w.heap.size+1,3,none⟩ (.int .u8 nx.k)).setCell ⟨w.heap.size+1,4,none⟩ (.int .i64 nx.nd)).setCell ⟨w.heap.size+1,5,none⟩ (.int .i64 nx.ot)).setCell ⟨w.heap.size+1,6,none⟩ (.string nx.nm)).setCell ⟨w.heap.size+1,7,none⟩ (.string nx.vl)):=⟨_,rfl⟩
    replace h8:OpAt W8 (w.heap.size+1) nx∧Below w.heap.size w W8:=by rw [hW8];exact h8
    obtain ⟨⟨l0,l1,l2,l3,l4,l5,l6,l7⟩,hb8⟩:=h8
    first | rw [←hW8] | rw [show _=W8 from hW8.symm]
    refine bodyPost_ret (v:=.tuple #[opV nx,.int .i64 er]) (by simp [results,Tryz.results41,go_sem,l0,l1,l2,l3,l4,l5,l6,l7]) rfl ⟨(nx,er),HMk.out,rfl,hb8⟩
   ·obtain ⟨at',hat⟩:∃ q:Nat,o.ot=(q:Int)+1:=⟨(o.ot - 1).toNat,by omega⟩
    obtain ⟨x,hx⟩:∃ x,(seenL L)[at']?=some x:=⟨_,List.getElem?_eq_getElem (by have:=HN3.out;omega)⟩
    have HLA:Hid (WrAt K o.nd o.ot kb x.id true):=κ40 (.inr ⟨z0,o.ot - 1,.inl ⟨t0,by omega,L,HL.out.2.1,x,by rw [hat];simpa using hx,rfl,rfl⟩,fun _=>rfl,.inl rfl⟩)
    obtain ⟨bb,off,rfl,hbl,hq0⟩:=lt_at HSd.out hx
    have s1:IntKind.i64.wrap (o.ot - 1)=(at':Int):=by rw [IntKind.wrap_i64];omega
    have tz:0 < o.ot:=by omega
    have j0:(0:Int)≤(at':Int):=by omega
    have j1:(at':Int) < n3:=by omega
    clear HT t0 t1 t2 hx hbl hat z0
    go_wp2_with fail
    refine (HNx.out (x.id) true _ HLA.out HBc.out).mono ?_
    rintro e wB ⟨⟨nx,er⟩,hmk,rfl,hbB⟩
    have HMk:=κ40 hmk
    have HMq:=κ40 (HWd.out.below hbB)
    have hyq:=HMq.out.res
    obtain ⟨⟨u0q,y0q⟩,x0q⟩:=hyq 0 (by omega)
    obtain ⟨⟨u1q,y1q⟩,x1q⟩:=hyq 1 (by omega)
    obtain ⟨⟨u2q,y2q⟩,x2q⟩:=hyq 2 (by omega)
    obtain ⟨⟨u3q,y3q⟩,x3q⟩:=hyq 3 (by omega)
    obtain ⟨⟨u4q,y4q⟩,x4q⟩:=hyq 4 (by omega)
    obtain ⟨⟨u5q,y5q⟩,x5q⟩:=hyq 5 (by omega)
    obtain ⟨⟨u6q,y6q⟩,x6q⟩:=hyq 6 (by omega)
    obtain ⟨⟨u7q,y7q⟩,x7q⟩:=hyq 7 (by omega)
    clear hyq hmk hbB HNx
    go_wp2_with fail
    have h8:=HMq.out.fin nx
    obtain ⟨W8,hW8⟩:∃ W8,W8=((((((((wB.setCell ⟨w.heap.size+1,0,none⟩ (.int .i64 nx.t)).setCell ⟨w.heap.size+1,1,none⟩ (.int .i64 nx.b)).setCell ⟨w.heap.size+1,2,none⟩ (.int .i64 nx.n)).setCell ⟨w.heap.size+1,3,none⟩ (.int .u8 nx.k)).setCell ⟨w.heap.size+1,4,none⟩ (.int .i64 nx.nd)).setCell ⟨w.heap.size+1,5,none⟩ (.int .i64 nx.ot)).setCell ⟨w.heap.size+1,6,none⟩ (.string nx.nm)).setCell ⟨w.heap.size+1,7,none⟩ (.string nx.vl)):=⟨_,rfl⟩
    replace h8:OpAt W8 (w.heap.size+1) nx∧Below w.heap.size w W8:=by rw [hW8];exact h8
    obtain ⟨⟨l0,l1,l2,l3,l4,l5,l6,l7⟩,hb8⟩:=h8
    first | rw [←hW8] | rw [show _=W8 from hW8.symm]
    refine bodyPost_ret (v:=.tuple #[opV nx,.int .i64 er]) (by simp [results,Tryz.results41,go_sem,l0,l1,l2,l3,l4,l5,l6,l7]) rfl ⟨(nx,er),HMk.out,rfl,hb8⟩
theorem mMakeMove0_any (MB:Nat) (b:Int) (A:Option Addr) (n c:Nat) (K:List OpT) (o:OpT) (w:World) (h:MRep MB b A n c K w) (hK:DOk K) (hup:Rising K) (hl:K.length≤1000) (hb0:0≤b) (hb4:b < 4) (hw:o.Wf) (k1:o.k=109) (n0:o.nd≠0) (hnk:¬ Known K o.nd) :
  Calls Tryz.prog 41 #[ptrV MB,opV o] w (MmEnds b K o w):=by
 obtain ⟨kb,hkb⟩:∃ kb:Bool,kb=true↔Known K o.nd:=⟨@decide _ (Classical.propDecidable (Known K o.nd)),by simp⟩
 obtain ⟨pb,hpb⟩:∃ pb:Bool,pb=true↔o.ot=0∨o.ot=1∨Known K o.ot:=⟨@decide _ (Classical.propDecidable (o.ot=0∨o.ot=1∨Known K o.ot)),by simp⟩
 have inn:I64 o.nd:=⟨hw.nd1,hw.nd2⟩
 have ino:I64 o.ot:=⟨hw.ot1,hw.ot2⟩
 have hfi:∀ x∈K,OpFine x:=fun x hx=>hK.fine hx
 obtain ⟨W,hW⟩:∃ W,W=(w.alloc (.cells o.cells 31)).alloc (.cells zOp.cells 31):=⟨_,rfl⟩
 have hWM:MkW MB b A n c K o w W:=by rw [hW];exact MkW.start h o
 have HW:=κ40 hW.symm
 have HWM:=κ40 hWM
 obtain rfl:kb=false:=by cases kb with | false=>rfl | true=>exact absurd (hkb.1 rfl) hnk
 have HKn:Hid (∀ w',Below W.heap.size W w'→Calls Tryz.prog 92 #[ptrV MB,.int .i64 o.nd] w' fun e w''=>e=.returned (.bool false)∧Below w'.heap.size w' w''):=κ40 fun w' hb=>by
  refine (mKnown_any MB b A n c K o.nd w' (hWM.rep.below hb) hfi (by omega)).mono ?_
  rintro e w'' ⟨kb',rfl,h1,h2⟩
  refine ⟨?_,h2⟩
  rw [Bool.eq_iff_iff.2 (h1.trans hkb.symm)]
 have HNx:Hid (∀ w',Below W.heap.size W w'→Calls Tryz.prog 99 #[ptrV MB,.bool false,opV ⟨0,0,0,109,o.nd,o.ot,o.nm,⟨#[]⟩⟩] w' fun e w''=>e=.returned (.tuple #[opV (nextP b K false ⟨0,0,0,109,o.nd,o.ot,o.nm,⟨#[]⟩⟩).1,.int .i64 (nextP b K false ⟨0,0,0,109,o.nd,o.ot,o.nm,⟨#[]⟩⟩).2])∧Below w'.heap.size w' w''):=κ40 fun w' hb=>by
  exact mNext_any MB b A n c K false _ w' (hWM.rep.below hb) hfi hup hl hb0 hb4 (nextO_wf hK hb0 hb4 (by simp) (by simp) inn ino hw.nm1 nil_le)
 obtain ⟨r,hr⟩:∃ r,nextP b K false ⟨0,0,0,109,o.nd,o.ot,o.nm,⟨#[]⟩⟩=r:=⟨_,rfl⟩
 rw [hr] at HNx
 have her:r.2≠0:=by rw [←hr];simp [nextP]
 have HMk:Hid (MakeIs b K o r):=κ40 (by
  unfold MakeIs
  rw [if_pos k1,if_neg n0]
  refine ⟨false,pb,hkb,hpb,?_⟩
  rw [Bool.false_and,moveP,hr,if_neg (fun h=>her h.1)])
 obtain ⟨nx,er⟩:=r
 simp only at HNx her
 have q1:(o.k == 109)=true:=by simpa using k1
 have q2:(o.nd == 0)=false:=by simpa using n0
 clear k1 n0 hr hnk
 have HS:Hid (∀ w',Below W.heap.size W w'→Below W.heap.size W w'∧w'.cell? ⟨w.heap.size,4,none⟩=some (.int .i64 o.nd)∧w'.cell? ⟨w.heap.size,5,none⟩=some (.int .i64 o.ot)∧w'.cell? ⟨w.heap.size,6,none⟩=some (.string o.nm)∧w'.cell? ⟨w.heap.size,7,none⟩=some (.string o.vl)):=κ40 fun w' hb=>by
  have h8:=(HWM.out.below hb).box
  exact ⟨hb,h8.c4,h8.c5,h8.c6,h8.c7⟩
 unfold ptrV at *
 clear h hK hup hl hb0 hb4 hw hkb hpb inn ino hfi hW hWM
 go_enter Tryz.func41,Tryz.ntmps41
 go_upto_region 5 with (fail)
 rw [show (w.alloc (.cells #[.int .i64 o.t,.int .i64 o.b,.int .i64 o.n,.int .u8 o.k,.int .i64 o.nd,.int .i64 o.ot,.string o.nm,.string o.vl] 31)).alloc (.cells #[.int .i64 0,.int .i64 0,.int .i64 0,.int .u8 0,.int .i64 0,.int .i64 0,.string ⟨#[]⟩,.string ⟨#[]⟩] 31)=W from HW.out]
 clear HW
 obtain ⟨g4,g5,g6,g7⟩:=(HS.out _ (Below.refl _ _).drew).2
 obtain ⟨k4,k5,k6,k7⟩:=(HS.out _ (Below.refl _ W)).2
 go_cut [6,7] (fun v6 v7 wd=>∃ B:Nat,v6=.pointer (some ⟨B,0,none⟩)∧v7=.int .i64 er∧Hid (OpAt wd B nx∧MkW MB b A n c K o w wd))
 case first=>
  clear HMk her
  change Code.wp _ (Code.region _ #[_,_,_,_,_,_,lateOp _,lateOp _,lateOp _,lateOp _,_,_,_,_,_,_,_,_,_,_,_,_,_,_,_] _) _ _ _
  go_region_held_law (fun w'=>w'.cell? ⟨w.heap.size,4,none⟩=some (.int .i64 o.nd)∧w'.cell? ⟨w.heap.size,5,none⟩=some (.int .i64 o.ot)∧w'.cell? ⟨w.heap.size,6,none⟩=some (.string o.nm)∧w'.cell? ⟨w.heap.size,7,none⟩=some (.string o.vl)) (exact (HS.out _ (by go_grown)).2)
   (first
    | (go_at_call 92;refine (HKn.out _ (by go_grown)).mono ?_;rintro e wA ⟨rfl,hbA⟩;have hA:=bel2 (w0:=W) (by go_grown) hbA;have sA:=hA.size;(first | (have hyK:Hid (∀ j,j < 8→(∃ u,wA.cell? ⟨W.heap.size,j,none⟩=some u)∧wA.frozen? ⟨W.heap.size,j,none⟩=false):=κ40 (box8_at (w:=W.drew) (o:=zOp) hbA)) | skip))
    | (go_at_call 93;refine (HPl.out _ (by go_grown)).mono ?_;rintro e wC ⟨rfl,hbC⟩;have hC:=bel2 (w0:=W) (by go_grown) hbC;have sC:=hC.size;(first | (have hyC:=κ40 (box8_below hyK.out hbC)) | (have hyC:=κ40 (box8_at (w:=wA) (o:=zOp) hbC)) | skip))
    | (go_at_call 99;refine (HNx.out _ (by go_grown)).mono ?_;rintro e wB ⟨rfl,hbB⟩;have hB:=bel2 (w0:=W) (by go_grown) hbB;have sB:=hB.size;(first | (have hyB:=box8_below hyK.out hbB;obtain ⟨⟨u0z,y0z⟩,x0z⟩:=hyB 0 (by omega);obtain ⟨⟨u1z,y1z⟩,x1z⟩:=hyB 1 (by omega);obtain ⟨⟨u2z,y2z⟩,x2z⟩:=hyB 2 (by omega);obtain ⟨⟨u3z,y3z⟩,x3z⟩:=hyB 3 (by omega);obtain ⟨⟨u4z,y4z⟩,x4z⟩:=hyB 4 (by omega);obtain ⟨⟨u5z,y5z⟩,x5z⟩:=hyB 5 (by omega);obtain ⟨⟨u6z,y6z⟩,x6z⟩:=hyB 6 (by omega);obtain ⟨⟨u7z,y7z⟩,x7z⟩:=hyB 7 (by omega)) | (have hyB:=box8_at (w:=wA) (o:=zOp) hbB;obtain ⟨⟨u0z,y0z⟩,x0z⟩:=hyB 0 (by omega);obtain ⟨⟨u1z,y1z⟩,x1z⟩:=hyB 1 (by omega);obtain ⟨⟨u2z,y2z⟩,x2z⟩:=hyB 2 (by omega);obtain ⟨⟨u3z,y3z⟩,x3z⟩:=hyB 3 (by omega);obtain ⟨⟨u4z,y4z⟩,x4z⟩:=hyB 4 (by omega);obtain ⟨⟨u5z,y5z⟩,x5z⟩:=hyB 5 (by omega);obtain ⟨⟨u6z,y6z⟩,x6z⟩:=hyB 6 (by omega);obtain ⟨⟨u7z,y7z⟩,x7z⟩:=hyB 7 (by omega)) | skip)))
  all_goals
   rename_i hH
   clear hH
   go_wp2_with fail
   go_meet
   case rel=>
    first
     | (with_reducible refine ⟨wB.heap.size,rfl,rfl,?_⟩;exact κ40 ⟨OpAt.start wB nx _,(HWM.out.below hB).below ((Below.refl _ _).alloc (Nat.le_refl _) _)⟩)
     | (with_reducible refine ⟨W.heap.size,rfl,rfl,?_⟩;exact κ40 ⟨(set8_at nx (fun j hj=>(hyB j hj).1) hB (Nat.le_refl _)).1,HWM.out.below (set8_at nx (fun j hj=>(hyB j hj).1) hB (Nat.le_refl _)).2⟩)
     | (with_reducible refine ⟨wA.heap.size,rfl,rfl,?_⟩;exact κ40 ⟨(set8_at nx (fun j hj=>(hyB j hj).1) hB sA).1,HWM.out.below (set8_at nx (fun j hj=>(hyB j hj).1) hB sA).2⟩)
     | (with_reducible refine ⟨wC.heap.size,rfl,rfl,?_⟩;exact κ40 ⟨(set8_at nx (fun j hj=>(hyB j hj).1) hB sC).1,HWM.out.below (set8_at nx (fun j hj=>(hyB j hj).1) hB sC).2⟩)
 case rest=>
  obtain ⟨B,rfl,rfl,HB⟩:=hcut
  have HM:=κ40 HB.out.2
  have HO:=κ40 HB.out.1
  clear HB HKn HNx HWM HS g4 g5 g6 g7 k4 k5 k6 k7
  have HS2:Hid (∀ w',Below wc.heap.size wc w'→Below wc.heap.size wc w'∧w'.cell? ⟨w.heap.size,4,none⟩=some (.int .i64 o.nd)∧w'.cell? ⟨w.heap.size,5,none⟩=some (.int .i64 o.ot)∧w'.cell? ⟨w.heap.size,6,none⟩=some (.string o.nm)∧w'.cell? ⟨w.heap.size,7,none⟩=some (.string o.vl)):=κ40 fun w' hb=>by
   have h8:=(HM.out.below hb).box
   exact ⟨hb,h8.c4,h8.c5,h8.c6,h8.c7⟩
  obtain ⟨k4,k5,k6,k7⟩:=(HS2.out _ (Below.refl _ wc)).2
  have e0:((er:Int) == 0)=false:=by simp only [beq_eq_false_iff_ne];omega
  obtain ⟨R,HRv⟩:∃ R,Hid (R=(nx,er)):=⟨_,κ40 rfl⟩
  rw [←HRv.out] at HMk
  clear her
  have HWq:∀ nq,Hid (Below wc.heap.size wc (wc.drewN nq)):=fun nq=>κ40 (below_drawn (Below.refl _ _) nq)
  go_upto_region 6 with (fail)
  go_quiet (fail)
  rename_i nq
  have HH:=HWq nq
  generalize wc.drewN nq=wq at HH ⊢
  have HMq:=κ40 (HM.out.below HH.out)
  obtain ⟨b0,b1,b2,b3,b4,b5,b6,b7⟩:=HO.out.below HH.out
  have hyq:=HMq.out.res
  obtain ⟨⟨u0q,y0q⟩,x0q⟩:=hyq 0 (by omega)
  obtain ⟨⟨u1q,y1q⟩,x1q⟩:=hyq 1 (by omega)
  obtain ⟨⟨u2q,y2q⟩,x2q⟩:=hyq 2 (by omega)
  obtain ⟨⟨u3q,y3q⟩,x3q⟩:=hyq 3 (by omega)
  obtain ⟨⟨u4q,y4q⟩,x4q⟩:=hyq 4 (by omega)
  obtain ⟨⟨u5q,y5q⟩,x5q⟩:=hyq 5 (by omega)
  obtain ⟨⟨u6q,y6q⟩,x6q⟩:=hyq 6 (by omega)
  obtain ⟨⟨u7q,y7q⟩,x7q⟩:=hyq 7 (by omega)
  clear hyq k4 k5 k6 k7
  go_wp2_with fail
  have h8:=HMq.out.fin nx
  obtain ⟨W8,hW8⟩:∃ W8,W8=((((((((wq.setCell ⟨w.heap.size+1,0,none⟩ (.int .i64 nx.t)).setCell ⟨w.heap.size+1,1,none⟩ (.int .i64 nx.b)).setCell ⟨w.heap.size+1,2,none⟩ (.int .i64 nx.n)).setCell ⟨w.heap.size+1,3,none⟩ (.int .u8 nx.k)).setCell ⟨w.heap.size+1,4,none⟩ (.int .i64 nx.nd)).setCell ⟨w.heap.size+1,5,none⟩ (.int .i64 nx.ot)).setCell ⟨w.heap.size+1,6,none⟩ (.string nx.nm)).setCell ⟨w.heap.size+1,7,none⟩ (.string nx.vl)):=⟨_,rfl⟩
  replace h8:OpAt W8 (w.heap.size+1) nx∧Below w.heap.size w W8:=by rw [hW8];exact h8
  obtain ⟨⟨l0,l1,l2,l3,l4,l5,l6,l7⟩,hb8⟩:=h8
  first | rw [←hW8] | rw [show _=W8 from hW8.symm]
  refine bodyPost_ret (v:=.tuple #[opV nx,.int .i64 er]) (by simp [results,Tryz.results41,go_sem,l0,l1,l2,l3,l4,l5,l6,l7]) rfl ⟨R,HMk.out,by rw [HRv.out] <;> rfl,hb8⟩
end Go.Proofs.YtjekalilfhnpmaaGreatDoor
