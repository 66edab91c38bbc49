/- An operation is made, as a mesh does. Written by gen_repq.py. FourR replicas that make and join: what they hold. Plain. Some replicas side by side in memory. begun: a closed fact. The document's replica: what it holds, in memory; what it says that reads alone. -/
import Derived.Test.YtjekalilfhnpmaaGreatDoorQ28
import Derived.Test.YtjekalilfhnpmaaGreatDoorQ29
import Derived.Test.YtjekalilfhnpmaaGreatDoorQ30
theorem Go.Proofs.YtjekalilfhnpmaaGreatDoor.κ31 {p:Prop} (h:p):Go.RowKit.Hid p:=Go.Lib.hid h
namespace Go.Proofs.YtjekalilfhnpmaaGreatDoor
open Go Go.RowKit Go.Maps Go.Shelf LineOrd Tree
set_option linter.unusedVariables false
set_option linter.unusedSimpArgs false
set_option maxHeartbeats 2000000
set_option maxRecDepth 100000
def firstB (s:ByteArray):UInt8:=match s.data.toList with | []=>0 | c :: _=>c
open Classical in
def MakeIs (b:Int) (K:List OpT) (o:OpT) (r:OpT×Nat):Prop:=
 if o.k=109 then
  (if o.nd=0 then ∃ pb:Bool,(pb=true↔o.ot=0∨o.ot=1∨Known K o.ot)∧r=nextP b K pb ⟨0,0,0,109,0,o.ot,o.nm,⟨#[]⟩⟩
   else ∃ kb pb:Bool,(kb=true↔Known K o.nd)∧(pb=true↔o.ot=0∨o.ot=1∨Known K o.ot)∧r=moveP b K (kb && pb) ⟨0,0,0,109,o.nd,o.ot,o.nm,⟨#[]⟩⟩)
 else if o.k=105 then ∃ (kb:Bool) (id:Int) (is:Bool),(kb=true↔Known K o.nd)∧WrAt K o.nd o.ot kb id is∧r=nextP b K is ⟨0,0,0,105,o.nd,id,⟨#[]⟩,⟨#[firstB o.vl]⟩⟩
 else if o.k=100 then ∃ (kb:Bool) (id:Int) (is:Bool),(kb=true↔Known K o.nd)∧LetAt K o.nd o.ot kb id is∧r=nextP b K is ⟨0,0,0,100,o.nd,id,⟨#[]⟩,⟨#[]⟩⟩
 else ∃ kb:Bool,(kb=true↔Known K o.nd)∧r=nextP b K kb ⟨0,0,0,115,o.nd,0,o.nm,o.vl⟩
def M1Ends (ea:Nat→Addr) (b:Int) (K:List OpT) (o:OpT) (w:World) (e:Ending) (w':World):Prop:=∃ r,MakeIs b K o r∧e=.returned (.tuple #[opV r.1,errW ea r.2])∧Below w.heap.size w w'
theorem make1_any {F0:Nat→Bool} (ea:Nat→Addr) (col:Nat→Int) (RB:Nat) (b:Int) (K:List OpT) (o:OpT) (w:World) (h:RepD col RB b K w) (hG:Gd F0 ea w) (f2:F0 2=true) (f3:F0 3=true) (f4:F0 4=true) (f5:F0 5=true) (f6:F0 6=true) (f8:F0 8=true) (f10:F0 10=true)
  (hK:DOk K) (hKl:K.length≤400) (hb0:0≤b) (hb4:b < 4) (hw:o.Wf) :
  Calls Tryz.prog 40 #[ptrV RB,opV o] w (M1Ends ea b K o w):=by
 obtain ⟨kb,hkb⟩:∃ kb:Bool,kb=true↔Known K o.nd:=⟨@decide _ (Classical.propDecidable (Known K o.nd)),by simp⟩
 obtain ⟨pb,hpb⟩:∃ pb:Bool,pb=true↔o.ot=0∨o.ot=1∨Known K o.ot:=⟨@decide _ (Classical.propDecidable (o.ot=0∨o.ot=1∨Known K o.ot)),by simp⟩
 have inn:I64 o.nd:=⟨hw.nd1,hw.nd2⟩
 have ino:I64 o.ot:=⟨hw.ot1,hw.ot2⟩
 obtain ⟨W,hW⟩:∃ W,W=(w.alloc (.cells o.cells 31)).alloc (.cells zOp.cells 31):=⟨_,rfl⟩
 have hbW:Below w.heap.size w W:=by rw [hW];exact ((Below.refl _ _).alloc (Nat.le_refl _) _).alloc (by simp) _
 have HR1:Hid (∀ j,j < 8→(∃ u,W.cell? ⟨w.heap.size+1,j,none⟩=some u)∧W.frozen? ⟨w.heap.size+1,j,none⟩=false):=κ31 (by
  have:=box8_at (w:=w.alloc (.cells o.cells 31)) (o:=zOp) (ty:=31) (Below.refl _ _)
  rw [World.size_alloc,←hW] at this
  exact this)
 have HBW:=κ31 hbW
 have HW:=κ31 hW.symm
 by_cases k1:o.k=109
 ·have q1:(o.k == 109)=true:=by simpa using k1
  by_cases n0:o.nd=0
  ·have q2:(o.nd == 0)=true:=by simpa using n0
   have HC:Hid (∀ w',Below w.heap.size w w'→Calls Tryz.prog 11 #[ptrV RB,.int .i64 o.ot,.string o.nm] w' fun e w''=>∃ r,MakeIs b K o r∧e=.returned (.tuple #[opV r.1,errW ea r.2])∧Below w'.heap.size w' w''):=κ31 fun w' hb=>by
    refine (make_any ea col RB b K o.ot o.nm w' (h.below hb) (hG.below hb) f2 f3 f4 f5 f6 f8 hK hKl hb0 hb4 ino hw.nm1 pb hpb).mono ?_
    rintro e w'' ⟨rfl,hb2⟩
    exact ⟨_,by unfold MakeIs;rw [if_pos k1,if_pos n0];exact ⟨pb,hpb,rfl⟩,rfl,hb2⟩
   unfold ptrV at HC ⊢
   clear h hG hK hKl hw hkb hpb inn ino hW hbW
   have HK1:=κ31 (And.intro k1 n0)
   clear k1 n0
   go_enter Tryz.func40,Tryz.ntmps40
   go_wp2_with fail
   refine (HC.out _ (by rw [←HW.out] at HBW;exact HBW.out)).mono ?_
   rintro e w5 ⟨⟨nx,er⟩,hM,rfl,hb5⟩
   have hb5':Below W.heap.size W w5:=by rw [←HW.out];exact hb5
   have HB5:=κ31 (HBW.out.trans (hb5'.mono HBW.out.size))
   have HR5:=κ31 (box8_below HR1.out hb5')
   have HM:=κ31 hM
   obtain ⟨E,hE⟩:∃ E,errW ea er=E:=⟨_,rfl⟩
   have HE:=κ31 hE
   simp only [hE]
   clear hb5 hb5' HC hM hE
   obtain ⟨⟨u0,y0⟩,x0⟩:=HR5.out 0 (by omega)
   obtain ⟨⟨u1,y1⟩,x1⟩:=HR5.out 1 (by omega)
   obtain ⟨⟨u2,y2⟩,x2⟩:=HR5.out 2 (by omega)
   obtain ⟨⟨u3,y3⟩,x3⟩:=HR5.out 3 (by omega)
   obtain ⟨⟨u4,y4⟩,x4⟩:=HR5.out 4 (by omega)
   obtain ⟨⟨u5,y5⟩,x5⟩:=HR5.out 5 (by omega)
   obtain ⟨⟨u6,y6⟩,x6⟩:=HR5.out 6 (by omega)
   obtain ⟨⟨u7,y7⟩,x7⟩:=HR5.out 7 (by omega)
   go_wp2_with fail
   obtain ⟨W8,hW8⟩:∃ W8,W8=((((((((w5.setCell ⟨w.heap.size+1,0,none⟩ (.int .i64 nx.t)).setCell ⟨w.heap.size+1,1,none⟩ (.int .i64 nx.b)).setCell ⟨w.heap.size+1,2,none⟩ (.int .i64 nx.n)).setCell ⟨w.heap.size+1,3,none⟩ (.int .u8 nx.k)).setCell ⟨w.heap.size+1,4,none⟩ (.int .i64 nx.nd)).setCell ⟨w.heap.size+1,5,none⟩ (.int .i64 nx.ot)).setCell ⟨w.heap.size+1,6,none⟩ (.string nx.nm)).setCell ⟨w.heap.size+1,7,none⟩ (.string nx.vl)):=⟨_,rfl⟩
   have h8:OpAt W8 (w.heap.size+1) nx∧Below w.heap.size w W8:=by
    rw [hW8]
    exact set8_at nx (fun j hj=>(HR5.out j hj).1) HB5.out (by omega)
   obtain ⟨⟨l0,l1,l2,l3,l4,l5,l6,l7⟩,hb8⟩:=h8
   rw [←hW8]
   refine bodyPost_ret (v:=.tuple #[opV nx,E]) (by simp [results,Tryz.results40,go_sem,l0,l1,l2,l3,l4,l5,l6,l7]) rfl ⟨(nx,er),HM.out,?_,hb8⟩
   rw [←HE.out]
  ·have q2:(o.nd == 0)=false:=by simpa using n0
   have HC:Hid (∀ w',Below w.heap.size w w'→Calls Tryz.prog 96 #[ptrV RB,.int .i64 o.nd,.int .i64 o.ot,.string o.nm] w' fun e w''=>∃ r,MakeIs b K o r∧e=.returned (.tuple #[opV r.1,errW ea r.2])∧Below w'.heap.size w' w''):=κ31 fun w' hb=>by
    refine (move_any ea col RB b K o.nd o.ot o.nm w' (h.below hb) (hG.below hb) f2 f3 f4 f5 f6 f8 hK hKl hb0 hb4 f10 inn ino hw.nm1 kb hkb pb hpb).mono ?_
    rintro e w'' ⟨rfl,hb2⟩
    exact ⟨_,by unfold MakeIs;rw [if_pos k1,if_neg n0];exact ⟨kb,pb,hkb,hpb,rfl⟩,rfl,hb2⟩
   unfold ptrV at HC ⊢
   clear h hG hK hKl hw hkb hpb inn ino hW hbW
   clear k1 n0
   go_enter Tryz.func40,Tryz.ntmps40
   go_wp2_with fail
   refine (HC.out _ (by rw [←HW.out] at HBW;exact HBW.out)).mono ?_
   rintro e w5 ⟨⟨nx,er⟩,hM,rfl,hb5⟩
   have hb5':Below W.heap.size W w5:=by rw [←HW.out];exact hb5
   have HB5:=κ31 (HBW.out.trans (hb5'.mono HBW.out.size))
   have HR5:=κ31 (box8_below HR1.out hb5')
   have HM:=κ31 hM
   obtain ⟨E,hE⟩:∃ E,errW ea er=E:=⟨_,rfl⟩
   have HE:=κ31 hE
   simp only [hE]
   clear hb5 hb5' HC hM hE
   obtain ⟨⟨u0,y0⟩,x0⟩:=HR5.out 0 (by omega)
   obtain ⟨⟨u1,y1⟩,x1⟩:=HR5.out 1 (by omega)
   obtain ⟨⟨u2,y2⟩,x2⟩:=HR5.out 2 (by omega)
   obtain ⟨⟨u3,y3⟩,x3⟩:=HR5.out 3 (by omega)
   obtain ⟨⟨u4,y4⟩,x4⟩:=HR5.out 4 (by omega)
   obtain ⟨⟨u5,y5⟩,x5⟩:=HR5.out 5 (by omega)
   obtain ⟨⟨u6,y6⟩,x6⟩:=HR5.out 6 (by omega)
   obtain ⟨⟨u7,y7⟩,x7⟩:=HR5.out 7 (by omega)
   go_wp2_with fail
   obtain ⟨W8,hW8⟩:∃ W8,W8=((((((((w5.setCell ⟨w.heap.size+1,0,none⟩ (.int .i64 nx.t)).setCell ⟨w.heap.size+1,1,none⟩ (.int .i64 nx.b)).setCell ⟨w.heap.size+1,2,none⟩ (.int .i64 nx.n)).setCell ⟨w.heap.size+1,3,none⟩ (.int .u8 nx.k)).setCell ⟨w.heap.size+1,4,none⟩ (.int .i64 nx.nd)).setCell ⟨w.heap.size+1,5,none⟩ (.int .i64 nx.ot)).setCell ⟨w.heap.size+1,6,none⟩ (.string nx.nm)).setCell ⟨w.heap.size+1,7,none⟩ (.string nx.vl)):=⟨_,rfl⟩
   have h8:OpAt W8 (w.heap.size+1) nx∧Below w.heap.size w W8:=by
    rw [hW8]
    exact set8_at nx (fun j hj=>(HR5.out j hj).1) HB5.out (by omega)
   obtain ⟨⟨l0,l1,l2,l3,l4,l5,l6,l7⟩,hb8⟩:=h8
   rw [←hW8]
   refine bodyPost_ret (v:=.tuple #[opV nx,E]) (by simp [results,Tryz.results40,go_sem,l0,l1,l2,l3,l4,l5,l6,l7]) rfl ⟨(nx,er),HM.out,?_,hb8⟩
   rw [←HE.out]
 ·have q1:(o.k == 109)=false:=by simpa using k1
  by_cases k2:o.k=105
  ·have q2:(o.k == 105)=true:=by simpa using k2
   have HC:Hid (∀ w',Below w.heap.size w w'→Calls Tryz.prog 60 #[ptrV RB,.int .i64 o.nd,.int .i64 o.ot,.int .u8 (firstB o.vl).toNat] w' fun e w''=>∃ r,MakeIs b K o r∧e=.returned (.tuple #[opV r.1,errW ea r.2])∧Below w'.heap.size w' w''):=κ31 fun w' hb=>by
    refine (write_any ea col RB b K o.nd o.ot (firstB o.vl) w' (h.below hb) (hG.below hb) f2 f3 f4 f5 f6 f8 hK hKl hb0 hb4 inn ino kb hkb).mono ?_
    rintro e w'' ⟨id,is,hWA,rfl,hb2⟩
    exact ⟨_,by unfold MakeIs;rw [if_neg k1,if_pos k2];exact ⟨kb,id,is,hkb,hWA,rfl⟩,rfl,hb2⟩
   unfold ptrV at HC ⊢
   clear h hG hK hKl hw hkb hpb inn ino hW hbW
   clear k1 k2
   cases hv:o.vl.data.toList with
   | nil=>
    have hv0:o.vl=⟨#[]⟩:=by rw [←S_of o.vl,hv];rfl
    have hf:firstB o.vl=0:=by unfold firstB;rw [hv]
    rw [hf] at HC
    have e1:(o.vl.toList == [])=true:=by rw [ByteArray.toList_eq,hv];rfl
    clear hf hv0 hv
    go_enter Tryz.func40,Tryz.ntmps40
    go_wp2_with fail
    refine (HC.out _ (by rw [←HW.out] at HBW;exact HBW.out)).mono ?_
    rintro e w5 ⟨⟨nx,er⟩,hM,rfl,hb5⟩
    have hb5':Below W.heap.size W w5:=by rw [←HW.out];exact hb5
    have HB5:=κ31 (HBW.out.trans (hb5'.mono HBW.out.size))
    have HR5:=κ31 (box8_below HR1.out hb5')
    have HM:=κ31 hM
    obtain ⟨E,hE⟩:∃ E,errW ea er=E:=⟨_,rfl⟩
    have HE:=κ31 hE
    simp only [hE]
    clear hb5 hb5' HC hM hE
    obtain ⟨⟨u0,y0⟩,x0⟩:=HR5.out 0 (by omega)
    obtain ⟨⟨u1,y1⟩,x1⟩:=HR5.out 1 (by omega)
    obtain ⟨⟨u2,y2⟩,x2⟩:=HR5.out 2 (by omega)
    obtain ⟨⟨u3,y3⟩,x3⟩:=HR5.out 3 (by omega)
    obtain ⟨⟨u4,y4⟩,x4⟩:=HR5.out 4 (by omega)
    obtain ⟨⟨u5,y5⟩,x5⟩:=HR5.out 5 (by omega)
    obtain ⟨⟨u6,y6⟩,x6⟩:=HR5.out 6 (by omega)
    obtain ⟨⟨u7,y7⟩,x7⟩:=HR5.out 7 (by omega)
    go_wp2_with fail
    obtain ⟨W8,hW8⟩:∃ W8,W8=((((((((w5.setCell ⟨w.heap.size+1,0,none⟩ (.int .i64 nx.t)).setCell ⟨w.heap.size+1,1,none⟩ (.int .i64 nx.b)).setCell ⟨w.heap.size+1,2,none⟩ (.int .i64 nx.n)).setCell ⟨w.heap.size+1,3,none⟩ (.int .u8 nx.k)).setCell ⟨w.heap.size+1,4,none⟩ (.int .i64 nx.nd)).setCell ⟨w.heap.size+1,5,none⟩ (.int .i64 nx.ot)).setCell ⟨w.heap.size+1,6,none⟩ (.string nx.nm)).setCell ⟨w.heap.size+1,7,none⟩ (.string nx.vl)):=⟨_,rfl⟩
    have h8:OpAt W8 (w.heap.size+1) nx∧Below w.heap.size w W8:=by
     rw [hW8]
     exact set8_at nx (fun j hj=>(HR5.out j hj).1) HB5.out (by omega)
    obtain ⟨⟨l0,l1,l2,l3,l4,l5,l6,l7⟩,hb8⟩:=h8
    rw [←hW8]
    refine bodyPost_ret (v:=.tuple #[opV nx,E]) (by simp [results,Tryz.results40,go_sem,l0,l1,l2,l3,l4,l5,l6,l7]) rfl ⟨(nx,er),HM.out,?_,hb8⟩
    rw [←HE.out]
   | cons c r=>
    have hf:firstB o.vl=c:=by unfold firstB;rw [hv]
    rw [hf] at HC
    have e1:(o.vl.toList == [])=false:=by rw [beq_eq_false_iff_ne,ByteArray.toList_eq,hv];simp
    have e2:o.vl.size=r.length+1:=by show o.vl.data.size=_;rw [←Array.length_toList,hv];rfl
    have e3:o.vl[0]'(by omega)=c:=by
     have e4:0 < o.vl.data.size:=by show 0 < o.vl.size;omega
     show o.vl.data[0]'e4=c
     rw [←Array.getElem_toList]
     simp [hv]
    rw [←e3] at HC
    clear hf hv e3
    go_enter Tryz.func40,Tryz.ntmps40
    go_wp2_with fail
    refine (HC.out _ (by rw [←HW.out] at HBW;exact HBW.out)).mono ?_
    rintro e w5 ⟨⟨nx,er⟩,hM,rfl,hb5⟩
    have hb5':Below W.heap.size W w5:=by rw [←HW.out];exact hb5
    have HB5:=κ31 (HBW.out.trans (hb5'.mono HBW.out.size))
    have HR5:=κ31 (box8_below HR1.out hb5')
    have HM:=κ31 hM
    obtain ⟨E,hE⟩:∃ E,errW ea er=E:=⟨_,rfl⟩
    have HE:=κ31 hE
    simp only [hE]
    clear hb5 hb5' HC hM hE
    obtain ⟨⟨u0,y0⟩,x0⟩:=HR5.out 0 (by omega)
    obtain ⟨⟨u1,y1⟩,x1⟩:=HR5.out 1 (by omega)
    obtain ⟨⟨u2,y2⟩,x2⟩:=HR5.out 2 (by omega)
    obtain ⟨⟨u3,y3⟩,x3⟩:=HR5.out 3 (by omega)
    obtain ⟨⟨u4,y4⟩,x4⟩:=HR5.out 4 (by omega)
    obtain ⟨⟨u5,y5⟩,x5⟩:=HR5.out 5 (by omega)
    obtain ⟨⟨u6,y6⟩,x6⟩:=HR5.out 6 (by omega)
    obtain ⟨⟨u7,y7⟩,x7⟩:=HR5.out 7 (by omega)
    go_wp2_with fail
    obtain ⟨W8,hW8⟩:∃ W8,W8=((((((((w5.setCell ⟨w.heap.size+1,0,none⟩ (.int .i64 nx.t)).setCell ⟨w.heap.size+1,1,none⟩ (.int .i64 nx.b)).setCell ⟨w.heap.size+1,2,none⟩ (.int .i64 nx.n)).setCell ⟨w.heap.size+1,3,none⟩ (.int .u8 nx.k)).setCell ⟨w.heap.size+1,4,none⟩ (.int .i64 nx.nd)).setCell ⟨w.heap.size+1,5,none⟩ (.int .i64 nx.ot)).setCell ⟨w.heap.size+1,6,none⟩ (.string nx.nm)).setCell ⟨w.heap.size+1,7,none⟩ (.string nx.vl)):=⟨_,rfl⟩
    have h8:OpAt W8 (w.heap.size+1) nx∧Below w.heap.size w W8:=by
     rw [hW8]
     exact set8_at nx (fun j hj=>(HR5.out j hj).1) HB5.out (by omega)
    obtain ⟨⟨l0,l1,l2,l3,l4,l5,l6,l7⟩,hb8⟩:=h8
    rw [←hW8]
    refine bodyPost_ret (v:=.tuple #[opV nx,E]) (by simp [results,Tryz.results40,go_sem,l0,l1,l2,l3,l4,l5,l6,l7]) rfl ⟨(nx,er),HM.out,?_,hb8⟩
    rw [←HE.out]
  ·have q2:(o.k == 105)=false:=by simpa using k2
   by_cases k3:o.k=100
   ·have q3:(o.k == 100)=true:=by simpa using k3
    have HC:Hid (∀ w',Below w.heap.size w w'→Calls Tryz.prog 97 #[ptrV RB,.int .i64 o.nd,.int .i64 o.ot] w' fun e w''=>∃ r,MakeIs b K o r∧e=.returned (.tuple #[opV r.1,errW ea r.2])∧Below w'.heap.size w' w''):=κ31 fun w' hb=>by
     refine (erase_any ea col RB b K o.nd o.ot w' (h.below hb) (hG.below hb) f2 f3 f4 f5 f6 f8 hK hKl hb0 hb4 inn ino kb hkb).mono ?_
     rintro e w'' ⟨id,is,hLA,rfl,hb2⟩
     exact ⟨_,by unfold MakeIs;rw [if_neg k1,if_neg k2,if_pos k3];exact ⟨kb,id,is,hkb,hLA,rfl⟩,rfl,hb2⟩
    unfold ptrV at HC ⊢
    clear h hG hK hKl hw hkb hpb inn ino hW hbW
    clear k1 k2 k3
    go_enter Tryz.func40,Tryz.ntmps40
    go_wp2_with fail
    refine (HC.out _ (by rw [←HW.out] at HBW;exact HBW.out)).mono ?_
    rintro e w5 ⟨⟨nx,er⟩,hM,rfl,hb5⟩
    have hb5':Below W.heap.size W w5:=by rw [←HW.out];exact hb5
    have HB5:=κ31 (HBW.out.trans (hb5'.mono HBW.out.size))
    have HR5:=κ31 (box8_below HR1.out hb5')
    have HM:=κ31 hM
    obtain ⟨E,hE⟩:∃ E,errW ea er=E:=⟨_,rfl⟩
    have HE:=κ31 hE
    simp only [hE]
    clear hb5 hb5' HC hM hE
    obtain ⟨⟨u0,y0⟩,x0⟩:=HR5.out 0 (by omega)
    obtain ⟨⟨u1,y1⟩,x1⟩:=HR5.out 1 (by omega)
    obtain ⟨⟨u2,y2⟩,x2⟩:=HR5.out 2 (by omega)
    obtain ⟨⟨u3,y3⟩,x3⟩:=HR5.out 3 (by omega)
    obtain ⟨⟨u4,y4⟩,x4⟩:=HR5.out 4 (by omega)
    obtain ⟨⟨u5,y5⟩,x5⟩:=HR5.out 5 (by omega)
    obtain ⟨⟨u6,y6⟩,x6⟩:=HR5.out 6 (by omega)
    obtain ⟨⟨u7,y7⟩,x7⟩:=HR5.out 7 (by omega)
    go_wp2_with fail
    obtain ⟨W8,hW8⟩:∃ W8,W8=((((((((w5.setCell ⟨w.heap.size+1,0,none⟩ (.int .i64 nx.t)).setCell ⟨w.heap.size+1,1,none⟩ (.int .i64 nx.b)).setCell ⟨w.heap.size+1,2,none⟩ (.int .i64 nx.n)).setCell ⟨w.heap.size+1,3,none⟩ (.int .u8 nx.k)).setCell ⟨w.heap.size+1,4,none⟩ (.int .i64 nx.nd)).setCell ⟨w.heap.size+1,5,none⟩ (.int .i64 nx.ot)).setCell ⟨w.heap.size+1,6,none⟩ (.string nx.nm)).setCell ⟨w.heap.size+1,7,none⟩ (.string nx.vl)):=⟨_,rfl⟩
    have h8:OpAt W8 (w.heap.size+1) nx∧Below w.heap.size w W8:=by
     rw [hW8]
     exact set8_at nx (fun j hj=>(HR5.out j hj).1) HB5.out (by omega)
    obtain ⟨⟨l0,l1,l2,l3,l4,l5,l6,l7⟩,hb8⟩:=h8
    rw [←hW8]
    refine bodyPost_ret (v:=.tuple #[opV nx,E]) (by simp [results,Tryz.results40,go_sem,l0,l1,l2,l3,l4,l5,l6,l7]) rfl ⟨(nx,er),HM.out,?_,hb8⟩
    rw [←HE.out]
   ·have q3:(o.k == 100)=false:=by simpa using k3
    have HC:Hid (∀ w',Below w.heap.size w w'→Calls Tryz.prog 98 #[ptrV RB,.int .i64 o.nd,.string o.nm,.string o.vl] w' fun e w''=>∃ r,MakeIs b K o r∧e=.returned (.tuple #[opV r.1,errW ea r.2])∧Below w'.heap.size w' w''):=κ31 fun w' hb=>by
     refine (mark_any ea col RB b K o.nd o.nm o.vl w' (h.below hb) (hG.below hb) f2 f3 f4 f5 f6 f8 hK hKl hb0 hb4 inn hw.nm1 hw.vl1 kb hkb).mono ?_
     rintro e w'' ⟨rfl,hb2⟩
     exact ⟨_,by unfold MakeIs;rw [if_neg k1,if_neg k2,if_neg k3];exact ⟨kb,hkb,rfl⟩,rfl,hb2⟩
    unfold ptrV at HC ⊢
    clear h hG hK hKl hw hkb hpb inn ino hW hbW
    clear k1 k2 k3
    go_enter Tryz.func40,Tryz.ntmps40
    go_wp2_with fail
    refine (HC.out _ (by rw [←HW.out] at HBW;exact HBW.out)).mono ?_
    rintro e w5 ⟨⟨nx,er⟩,hM,rfl,hb5⟩
    have hb5':Below W.heap.size W w5:=by rw [←HW.out];exact hb5
    have HB5:=κ31 (HBW.out.trans (hb5'.mono HBW.out.size))
    have HR5:=κ31 (box8_below HR1.out hb5')
    have HM:=κ31 hM
    obtain ⟨E,hE⟩:∃ E,errW ea er=E:=⟨_,rfl⟩
    have HE:=κ31 hE
    simp only [hE]
    clear hb5 hb5' HC hM hE
    obtain ⟨⟨u0,y0⟩,x0⟩:=HR5.out 0 (by omega)
    obtain ⟨⟨u1,y1⟩,x1⟩:=HR5.out 1 (by omega)
    obtain ⟨⟨u2,y2⟩,x2⟩:=HR5.out 2 (by omega)
    obtain ⟨⟨u3,y3⟩,x3⟩:=HR5.out 3 (by omega)
    obtain ⟨⟨u4,y4⟩,x4⟩:=HR5.out 4 (by omega)
    obtain ⟨⟨u5,y5⟩,x5⟩:=HR5.out 5 (by omega)
    obtain ⟨⟨u6,y6⟩,x6⟩:=HR5.out 6 (by omega)
    obtain ⟨⟨u7,y7⟩,x7⟩:=HR5.out 7 (by omega)
    go_wp2_with fail
    obtain ⟨W8,hW8⟩:∃ W8,W8=((((((((w5.setCell ⟨w.heap.size+1,0,none⟩ (.int .i64 nx.t)).setCell ⟨w.heap.size+1,1,none⟩ (.int .i64 nx.b)).setCell ⟨w.heap.size+1,2,none⟩ (.int .i64 nx.n)).setCell ⟨w.heap.size+1,3,none⟩ (.int .u8 nx.k)).setCell ⟨w.heap.size+1,4,none⟩ (.int .i64 nx.nd)).setCell ⟨w.heap.size+1,5,none⟩ (.int .i64 nx.ot)).setCell ⟨w.heap.size+1,6,none⟩ (.string nx.nm)).setCell ⟨w.heap.size+1,7,none⟩ (.string nx.vl)):=⟨_,rfl⟩
    have h8:OpAt W8 (w.heap.size+1) nx∧Below w.heap.size w W8:=by
     rw [hW8]
     exact set8_at nx (fun j hj=>(HR5.out j hj).1) HB5.out (by omega)
    obtain ⟨⟨l0,l1,l2,l3,l4,l5,l6,l7⟩,hb8⟩:=h8
    rw [←hW8]
    refine bodyPost_ret (v:=.tuple #[opV nx,E]) (by simp [results,Tryz.results40,go_sem,l0,l1,l2,l3,l4,l5,l6,l7]) rfl ⟨(nx,er),HM.out,?_,hb8⟩
    rw [←HE.out]
structure MadeOk (b:Int) (K:List OpT) (x:OpT):Prop where
 ok:DOk (K++[x])
 by':x.b=b
 num:x.n=cntB K b+1
 time:timeOf K < x.t
 len:K.length < 400
theorem next_made {b:Int} {K:List OpT} {is:Bool} {o x:OpT} (h:nextP b K is o=(x,0)) (hK:DOk K) (hb0:0≤b) (hb4:b < 4) (k1:0≤o.k) (k2:o.k≤255) (hn:I64 o.nd) (ho:I64 o.ot) (hm:o.nm.size≤100000) (hv:o.vl.size≤100000)
  (hr:is=true→RefOk (K++[x]) x):MadeOk b K x:=by
 obtain ⟨h1,h2,h3,h4,h5⟩:=nextP_ok h
 have hw:x.Wf:=by rw [h5];exact nextO_wf hK hb0 hb4 k1 k2 hn ho hm hv
 have e1:x.b=b:=by rw [h5];rfl
 have e2:x.n=cntB K b+1:=by rw [h5];rfl
 have e3:timeOf K < x.t:=by rw [h5];show timeOf K < timeOf K+1;omega
 exact ⟨hK.snoc hw h4 e3 (by rw [e2,e1]) (hr h1),e1,e2,e3,h2⟩
theorem sub_snoc {K:List OpT} {x:OpT}:∀ o∈K,o∈K++[x]:=fun o ho=>by simp [ho]
theorem i64_0:I64 0:=by constructor <;> omega
theorem LetAt.let {K:List OpT} {nd k:Int} {kb:Bool} {id:Int} (h:LetAt K nd k kb id true):kb=true∧HasLet K nd id:=by
 rcases h with ⟨h1,_,L,hL,x,hx,rfl,_⟩ | ⟨_,_,h1⟩
 ·exact ⟨h1,hL.has (seenL_mem hx)⟩
 ·cases h1
theorem WrAt.rg {K:List OpT} (hK:DOk K) {nd k:Int} {kb:Bool} {id:Int} {is:Bool} (h:WrAt K nd k kb id is):I64 id:=by
 rcases h with ⟨_,rfl,_⟩ | ⟨_,k',h,_⟩
 ·exact i64_0
 ·exact h.rg hK
theorem made_ok {b:Int} {K:List OpT} {o x:OpT} (h:MakeIs b K o (x,0)) (hK:DOk K) (hb0:0≤b) (hb4:b < 4) (hw:o.Wf):MadeOk b K x:=by
 have inn:I64 o.nd:=⟨hw.nd1,hw.nd2⟩
 have ino:I64 o.ot:=⟨hw.ot1,hw.ot2⟩
 unfold MakeIs at h
 split at h
 ·split at h
  ·obtain ⟨pb,hpb,h⟩:=h
   refine next_made h.symm hK hb0 hb4 (by simp) (by simp) i64_0 ino hw.nm1 nil_le fun his=>?_
   obtain ⟨_,_,_,_,h5⟩:=nextP_ok h.symm
   have e1:x.k=109:=by rw [h5];rfl
   have e2:x.nd=x.id:=by rw [h5];rfl
   have e3:x.ot=o.ot:=by rw [h5];rfl
   refine ⟨fun _=>⟨.inl e2,?_⟩,fun hk=>by omega,fun hk=>by omega,fun hk=>by omega⟩
   rw [e3]
   exact (hpb.1 his).imp id (·.imp id fun hh=>hh.mono sub_snoc)
  ·rename_i hn0
   obtain ⟨kb,pb,hkb,hpb,h⟩:=h
   unfold moveP at h
   split at h
   ·have:=congrArg Prod.snd h;cases this
   ·refine next_made h.symm hK hb0 hb4 (by simp) (by simp) inn ino hw.nm1 nil_le fun his=>?_
    obtain ⟨_,_,_,_,h5⟩:=nextP_ok h.symm
    have hkp:kb=true∧pb=true:=by simpa using his
    have e1:x.k=109:=by rw [h5];rfl
    have e2:x.nd=o.nd:=by rw [h5];unfold nextO;simp [hn0]
    have e3:x.ot=o.ot:=by rw [h5];rfl
    refine ⟨fun _=>⟨.inr (by rw [e2];exact (hkb.1 hkp.1).mono sub_snoc),?_⟩,fun hk=>by omega,fun hk=>by omega,fun hk=>by omega⟩
    rw [e3]
    exact (hpb.1 hkp.2).imp id (·.imp id fun hh=>hh.mono sub_snoc)
 ·split at h
  ·obtain ⟨kb,id,is,hkb,hWA,h⟩:=h
   refine next_made h.symm hK hb0 hb4 (by simp) (by simp) inn (hWA.rg hK) nil_le (show (1:Nat)≤100000 by omega) fun his=>?_
   obtain ⟨_,_,_,_,h5⟩:=nextP_ok h.symm
   have e1:x.k=105:=by rw [h5];rfl
   have e2:x.nd=o.nd:=by rw [h5];unfold nextO;simp
   have e3:x.ot=id:=by rw [h5];rfl
   refine ⟨fun hk=>by omega,fun _=>?_,fun hk=>by omega,fun hk=>by omega⟩
   rw [e2,e3]
   rcases hWA with ⟨_,h0,h1⟩ | ⟨_,k',hLA,_⟩
   ·exact ⟨(hkb.1 (by rw [←h1];exact his)).mono sub_snoc,.inl h0⟩
   ·rw [his] at hLA
    exact ⟨(hkb.1 hLA.let.1).mono sub_snoc,.inr (hLA.let.2.mono sub_snoc)⟩
  ·split at h
   ·obtain ⟨kb,id,is,hkb,hLA,h⟩:=h
    refine next_made h.symm hK hb0 hb4 (by simp) (by simp) inn (hLA.rg hK) nil_le nil_le fun his=>?_
    obtain ⟨_,_,_,_,h5⟩:=nextP_ok h.symm
    have e1:x.k=100:=by rw [h5];rfl
    have e2:x.nd=o.nd:=by rw [h5];unfold nextO;simp
    have e3:x.ot=id:=by rw [h5];rfl
    refine ⟨fun hk=>by omega,fun hk=>by omega,fun _=>?_,fun hk=>by omega⟩
    rw [e2,e3]
    rw [his] at hLA
    exact ⟨(hkb.1 hLA.let.1).mono sub_snoc,hLA.let.2.mono sub_snoc⟩
   ·obtain ⟨kb,hkb,h⟩:=h
    refine next_made h.symm hK hb0 hb4 (by simp) (by simp) inn i64_0 hw.nm1 hw.vl1 fun his=>?_
    obtain ⟨_,_,_,_,h5⟩:=nextP_ok h.symm
    have e1:x.k=115:=by rw [h5];rfl
    have e2:x.nd=o.nd:=by rw [h5];unfold nextO;simp
    refine ⟨fun hk=>by omega,fun hk=>by omega,fun hk=>by omega,fun _=>?_⟩
    rw [e2]
    exact (hkb.1 his).mono sub_snoc
abbrev o6:OpT:=⟨1,2,1,109,6,0,⟨#[97]⟩,⟨#[]⟩⟩
theorem next6:nextP 2 [] true ⟨0,0,0,109,0,0,⟨#[97]⟩,⟨#[]⟩⟩=(o6,0):=by rfl
theorem made6:MadeOk 2 [] o6:=next_made next6 DOk.nil (by omega) (by omega) (by simp) (by simp) i64_0 i64_0 (show (1:Nat)≤100000 by omega) nil_le fun _=>
 ⟨fun _=>⟨.inl rfl,.inl rfl⟩,fun h=>(by cases h),fun h=>(by cases h),fun h=>(by cases h)⟩
theorem ins_p00 {x o:Int} (h:Ins p00 x o):False:=by
 induction h with
 | here h=>cases h
 | up h _ _=>cases h
theorem state6:StateOf [o6] ⟨#[54,32,105,110,32,48,32,97]⟩:=by
 refine ⟨[⟨6,0,⟨#[97]⟩⟩],[6],fun _=>[],[],fun _=>none,⟨by simp,fun y=>?_⟩,by simp,fun x=>?_,fun x hx=>?_,fun k hk=>⟨fun _ c h=>?_,fun c h=>(by cases h)⟩,List.Pairwise.nil,fun k=>⟨fun h=>by simp at h,fun ⟨_,c,h,_⟩=>(by cases h)⟩,?_⟩
 ·have e:runO p00 (logOf [o6])=Tree.move p00 (mvO o6):=by
   have:logOf [o6]=[o6]:=rfl
   rw [this]
   rfl
  rw [e]
  have hg:Tree.move p00 (mvO o6)=Tree.put p00 6 (some (0,⟨#[97]⟩)):=by
   unfold Tree.move
   rw [if_pos]
   ·rfl
   ·unfold Tree.goes
    have hh:(mvO o6).node≠(mvO o6).into∧¬ Tree.Ins p00 (mvO o6).into (mvO o6).node:=⟨by decide,fun h=>ins_p00 h⟩
    exact @decide_eq_true _ (_) hh
  rw [hg]
  unfold Tree.put
  constructor
  ·intro hy
   rw [List.mem_singleton.1 hy]
   rfl
  ·intro hy
   split at hy
   ·rename_i e
    cases y with | mk nd into nm=>
    simp only at e hy
    cases hy
    subst e
    simp
   ·cases hy
 ·constructor
  ·intro h
   rw [List.mem_singleton.1 h]
   exact ⟨o6,by simp,rfl,rfl,rfl⟩
  ·rintro ⟨o,ho,_,rfl,_⟩
   rw [List.mem_singleton.1 ho]
   simp
 ·refine ⟨[],LineOf.nil x fun z ⟨o,ho,hk,_⟩=>?_,rfl⟩
  rw [List.mem_singleton.1 ho] at hk
  cases hk
 ·obtain ⟨o,ho,_,hk,_⟩:=h
  rw [List.mem_singleton.1 ho] at hk
  cases hk
 ·decide +kernel
theorem begun_any {F0:Nat→Bool} (ea:Nat→Addr) (w:World) (hG:Gd F0 ea w) (f2:F0 2=true) (f3:F0 3=true) (f4:F0 4=true) (f5:F0 5=true) (f6:F0 6=true) (f7:F0 7=true) (f8:F0 8=true) (f9:F0 9=true) (f21:F0 21=true) :
  Calls Tryz.prog 9 #[] w fun e w'=>e=.returned (.bool true)∧Below w.heap.size w w':=by
 have HG:=κ31 hG
 have HN:=κ31 (newB_any ea 2 w hG f2 (by constructor <;> omega))
 clear hG
 go_enter Tryz.func9,Tryz.ntmps9
 go_wp2_with fail
 refine HN.out.mono ?_
 rintro e w1 hN
 obtain ⟨col,RB,rfl,hR,hb1,hge⟩:∃ col RB,e=.returned (.tuple #[ptrV RB,.nilIface])∧RepD col RB 2 [] w1∧Below w.heap.size w w1∧∀ k,col k≠0→w.heap.size≤k:=by
  rcases hN with ⟨_,h⟩ | ⟨h,_⟩
  ·exact h
  ·exact absurd ⟨by omega,by omega⟩ h
 have HR1:=κ31 hR
 have HB1:=κ31 hb1
 have HGe:=κ31 hge
 have HMk:=κ31 (make_any ea col RB 2 [] 0 ⟨#[97]⟩ w1 hR (HG.out.below hb1) f2 f3 f4 f5 f6 f8 DOk.nil (by simp) (by omega) (by omega) i64_0 (show (1:Nat)≤100000 by omega) true ⟨fun _=>.inl rfl,fun _=>rfl⟩)
 rw [next6] at HMk
 clear hR hb1 hge HN
 unfold ptrV at *
 go_wp2_with fail
 refine HMk.out.mono ?_
 rintro e w2 ⟨rfl,hb2⟩
 have HR2:=κ31 (HR1.out.below hb2)
 have HB2:=κ31 (HB1.out.trans (hb2.mono HB1.out.size))
 have he:errW ea (o6,0).2=.nilIface:=rfl
 rw [he]
 clear hb2 HMk HR1 HB1 he
 go_upto_region 5 with (fail)
 obtain ⟨W,hW⟩:∃ W,W=w2.alloc (.cells #[.int .i64 1,.int .i64 2,.int .i64 1,.int .u8 109,.int .i64 6,.int .i64 0,.string ⟨#[97]⟩,.string ⟨#[]⟩] 31):=⟨_,rfl⟩
 have hbW:Below w2.heap.size w2 W:=by rw [hW];exact (Below.refl _ _).alloc (Nat.le_refl _) _
 have hOW:OpAt W w2.heap.size o6:=by rw [hW];exact OpAt.start w2 o6 _
 rw [show _=W from hW.symm]
 have HOW:=κ31 hOW
 have HRW:=κ31 (HR2.out.below hbW)
 have HBW:=κ31 (HB2.out.trans (hbW.mono HB2.out.size))
 have HOp:=κ31 (repOps_any col RB 2 [] W (HR2.out.below hbW) (by simp))
 clear hW hbW hOW HR2 HB2
 unfold ptrV at HOp
 go_wp2_with fail
 refine HOp.out.mono ?_
 rintro e w3 ⟨v3,rfl,hr3,hb3⟩
 obtain ⟨A3,n3,c3,rfl⟩:=hr3.slice
 obtain rfl:n3=0:=hr3.sl.len
 have HR3:=κ31 (HRW.out.below hb3)
 have HB3:=κ31 (HBW.out.trans (hb3.mono HBW.out.size))
 have hO3:=HOW.out.below hb3
 clear hr3 hb3 HOp HRW HBW HOW
 obtain ⟨j0,j1,j2,j3,j4,j5,j6,j7⟩:=hO3
 simp only at j0 j1 j2 j3 j4 j5 j6 j7
 have HJn:=κ31 (fun W' (hb:Below w3.heap.size w3 W') A (hs:SlV opE W' (.slice A 1 1) [o6])=>join_any ea w col RB 2 [] [o6] A 1 1 W' (HR3.out.below hb) HG.out (HB3.out.trans (hb.mono HB3.out.size)) HGe.out f2 f3 f4 f5 f6 f7 f8 f9 DOk.nil List.Pairwise.nil (by simp) hs (by simp) (fun o ho=>by rw [List.mem_singleton.1 ho];exact made6.ok.wf o6 (by simp)))
 obtain ⟨jn1,jn2⟩:=join_one DOk.nil made6.ok (List.pairwise_singleton _ _) (by simp)
 rw [jn1] at HJn
 have HJe:=κ31 jn2
 unfold ptrV at HJn
 clear jn1 jn2
 go_wp2_with fail
 refine (HJn.out _ ((Below.refl _ _).alloc (Nat.le_refl _) _) _ (SlV.one w3 o6 _ _ rfl)).mono ?_
 rintro e w5 ⟨rfl,col',hR5,hgr,hF⟩
 have hB4:Below w.heap.size w (w3.alloc (.cells o6.cells 31)):=HB3.out.alloc HB3.out.size _
 have HB5:=κ31 (hB4.trans (hF.below hB4.size (fun k hk=>HGe.out k hk)))
 rw [HJe.out] at hR5
 have hR5':RepD col' RB 2 [o6] w5:=hR5
 have hdk:DOk [o6]:=made6.ok
 have HSt:=κ31 (state_any ea col' RB 2 [o6] w5 hR5' (HG.out.below HB5.out) f21 hdk (by simp))
 obtain ⟨y,s,hRL,hO⟩:=hR5'
 have HRL:=κ31 hRL
 have ht:s.t=1:=by rw [hO.t];rfl
 have HT:=κ31 ht
 have HD:=κ31 hdk
 clear hR5 hgr hF hB4 hRL hO hdk ht HJn HJe HR3 j0 j1 j2 j3 j4 j5 j6 j7 HGe
 unfold ptrV at HSt
 go_wp2_with fail
 refine HSt.out.mono ?_
 rintro e w6 ⟨str,rfl,hso,hb6⟩
 obtain rfl:=StateOf.unique HD.out hso state6
 have hR6:=HRL.out.below hb6
 have HBy:=κ31 (repBy_any hR6)
 have c0:=hR6.a.c0
 have k0:=hR6.b'.k0
 rw [HT.out] at k0
 have HTm:=κ31 (clockTime_any y.CB 1 w6 k0)
 have HB6:=κ31 (HB5.out.trans (hb6.mono HB5.out.size))
 unfold ptrV at HBy c0
 clear hb6 hR6 hso k0
 go_wp2_with fail
 refine HBy.out.mono ?_
 rintro e w7 ⟨rfl,rfl⟩
 go_wp2_with fail
 refine HTm.out.mono ?_
 rintro e w8 ⟨rfl,rfl⟩
 go_wp2_with fail
 go_ret
 exact ⟨rfl,HB6.out⟩
set_option maxHeartbeats 4000000
structure MRep (MB:Nat) (b:Int) (A:Option Addr) (n c:Nat) (K:List OpT) (w:World):Prop where
 c0:w.cell? ⟨MB,0,none⟩=some (.int .i64 b)
 c1:w.cell? ⟨MB,1,none⟩=some (.slice A n c)
 sl:SlV opE w (.slice A n c) K
 fz:∀ j,w.frozen? ⟨MB,j,none⟩=false
theorem MRep.below {MB:Nat} {b:Int} {A:Option Addr} {n c:Nat} {K:List OpT} {w w':World} (h:MRep MB b A n c K w) (hb:Below w.heap.size w w'):MRep MB b A n c K w':=
 ⟨(hb.cell (p:=⟨MB,0,none⟩) (World.block_lt_of_cell? w _ h.c0)).trans h.c0,(hb.cell (p:=⟨MB,1,none⟩) (World.block_lt_of_cell? w _ h.c1)).trans h.c1,h.sl.below hb,fun j=>(hb.frozen (p:=⟨MB,j,none⟩) (show MB < w.heap.size from World.block_lt_of_cell? w _ h.c0)).trans (h.fz j)⟩
theorem time_last {K:List OpT} {x:OpT} (hup:Rising (K++[x])) (h1:1≤x.t):timeOf (K++[x])=x.t:=by
 rw [timeOf_snoc]
 split
 ·rfl
 ·rename_i h
  rcases (timeOf_ge K).2.2 with h0 | ⟨o,ho,h0⟩
  ·omega
  ·have:=(List.pairwise_append.1 hup).2.2 o ho x (by simp)
   rw [opLt_iff] at this
   omega
theorem mTime_any (MB:Nat) (b:Int) (A:Option Addr) (n c:Nat) (K:List OpT) (w:World) (h:MRep MB b A n c K w) (hD:∀ o∈K,OpFine o) (hup:Rising K) (hl:K.length≤100000) :
  Calls Tryz.prog 45 #[ptrV MB] w fun e w'=>e=.returned (.int .i64 (timeOf K))∧Below w.heap.size w w':=by
 have hn:=h.sl.len
 have c1:=h.c1
 unfold ptrV
 rcases List.eq_nil_or_concat K with rfl | ⟨K',x,rfl⟩
 ·obtain rfl:n=0:=hn
  go_enter Tryz.func45,Tryz.ntmps45
  go_wp2_with fail
  go_ret
  exact ⟨rfl,Below.refl _ _⟩
 ·rw [List.concat_eq_append] at *
  have hn':n=K'.length+1:=by rw [hn];simp
  have hx:(K'++[x])[n - 1]?=some x:=by rw [hn'];simp
  have ht:=time_last hup (hD x (by simp)).t1
  obtain ⟨m,rfl⟩:∃ m,n=m+1:=⟨K'.length,hn'⟩
  rw [Nat.add_sub_cancel] at hx
  have hm:m≤100000:=by rw [List.length_append] at hl;simp at hl;omega
  obtain ⟨bb,off,rfl,_,q0,_⟩:=ops_at h.sl hx
  have n0:¬ ((m:Int)+1=0):=by omega
  have n2:(0:Int)≤(m:Int):=by omega
  have n3:(m:Int) < (m:Int)+1:=by omega
  have n4:IntKind.i64.wrap (m:Int)=(m:Int):=by simp [IntKind.wrap,IntKind.bits,IntKind.signed];omega
  have n5:IntKind.i64.wrap ((m:Int)+1 - 1)=(m:Int):=by rw [Int.add_sub_cancel];exact n4
  have HT:=κ31 ht
  clear h hD hup hl hn hx ht hn'
  have HSC:Hid (∀ w',Below w.heap.size w w'→Below w.heap.size w w'∧w'.cell? ⟨MB,1,none⟩=some (.slice (some ⟨bb,off,none⟩) (m+1) c)∧w'.cell? ⟨bb,off+m*8,none⟩=some (.int .i64 x.t)):=κ31 fun w' hb=>⟨hb,(hb.cell (p:=⟨MB,1,none⟩) (World.block_lt_of_cell? w _ c1)).trans c1,(hb.cell (p:=⟨bb,off+m*8,none⟩) (World.block_lt_of_cell? w _ q0)).trans q0⟩
  go_enter Tryz.func45,Tryz.ntmps45
  go_wp2_with fail
  go_region_held_law (fun w'=>Below w.heap.size w w'∧w'.cell? ⟨MB,1,none⟩=some (.slice (some ⟨bb,off,none⟩) (m+1) c)∧w'.cell? ⟨bb,off+m*8,none⟩=some (.int .i64 x.t)) (exact HSC.out _ (by go_grown)) (fail)
  all_goals
   rename_i hH
   have HH:=κ31 hH
   clear hH
   go_wp2_with fail
   go_ret
   exact ⟨by rw [HT.out];rfl,HH.out.1⟩
def madeB (nd:Int) (o:OpT):Bool:=decide (o.k=109∧o.nd=nd∧o.id=nd)
theorem known_iff {K:List OpT} {nd:Int}:K.any (madeB nd)=true↔Known K nd:=by
 rw [List.any_eq_true]
 constructor
 ·rintro ⟨o,ho,h⟩
  exact ⟨o,ho,(of_decide_eq_true h).1,(of_decide_eq_true h).2.1,(of_decide_eq_true h).2.2⟩
 ·rintro ⟨o,ho,h1,h2,h3⟩
  exact ⟨o,ho,decide_eq_true ⟨h1,h2,h3⟩⟩
def KnEnds (K:List OpT) (nd:Int) (w:World) (e:Ending) (w':World):Prop:=∃ kb,e=.returned (.bool kb)∧(kb=true↔Known K nd)∧Below w.heap.size w w'
theorem mKnown_any (MB:Nat) (b:Int) (A:Option Addr) (n c:Nat) (K:List OpT) (nd:Int) (w:World) (h:MRep MB b A n c K w) (hD:∀ o∈K,OpFine o) (hl:K.length≤100000) :
  Calls Tryz.prog 92 #[ptrV MB,.int .i64 nd] w (KnEnds K nd w):=by
 have HM:=κ31 h
 have HN:=κ31 h.sl.len
 have HD:=κ31 hD
 have hn5:n≤100000:=by have:=h.sl.len;omega
 clear h hD
 unfold ptrV
 go_enter Tryz.func92,Tryz.ntmps92
 go_wp2_with fail
 go_loopw [5] (fun v5 wr=>∃ j:Nat,j≤n∧v5=.int .i64 j∧Hid (∀ i x,i < j→K[i]?=some x→madeB nd x=false)∧Hid (Below w.heap.size w wr)) (fun v5 _=>n - (RowKit.intOf v5).toNat)
 case atStart=>exact ⟨0,by omega,rfl,κ31 (fun i x h=>by omega),κ31 (Below.refl _ _)⟩
 case round=>
  obtain ⟨j,hj,rfl,HA,HB⟩:=hrel
  have hM:=HM.out.below HB.out
  have c1:=hM.c1
  by_cases hlt:j < n
  ·obtain ⟨x,hx⟩:∃ x,K[j]?=some x:=⟨_,List.getElem?_eq_getElem (by have:=HN.out;omega)⟩
   have hxm:=List.mem_of_getElem? hx
   have hfi:=HD.out x hxm
   have HX:=κ31 hx
   obtain ⟨bb,off,rfl,_,q0,q1,q2,q3,q4,q5,_⟩:=ops_at hM.sl hx
   have j0:(0:Int)≤(j:Int):=by omega
   have j1:(j:Int) < (n:Int):=by omega
   have HI:=κ31 (idOf_ok x.t x.b wr ⟨by have:=hfi.t1;omega,hfi.t2,hfi.b1,hfi.b2⟩)
   unfold stampV at HI
   have HMem:=κ31 hxm
   clear hM hx hxm hfi
   have next:∀ (wz:World),Below wr.heap.size wr wz→madeB nd x=false→Hid (∀ i y,i < j+1→K[i]?=some y→madeB nd y=false)∧Hid (Below w.heap.size w wz):=fun wz hb hf=>⟨κ31 (fun i y h1 h2=>by
    by_cases he:i=j
    ·subst he;rw [HX.out] at h2;cases h2;exact hf
    ·exact HA.out i y (by omega) h2),κ31 (bel2 HB.out hb)⟩
   have HNx:=κ31 next
   clear next
   by_cases hk:x.k=109
   ·have hkb:(x.k == 109)=true:=by simpa using hk
    by_cases hn:x.nd=nd
    ·have hnb:(x.nd == nd)=true:=by simpa using hn
     have HK2:=κ31 (And.intro hk hn)
     clear hk hn
     go_wp2_with fail
     refine HI.out.mono ?_
     rintro e wi ⟨rfl,hbi⟩
     have HBi:=κ31 hbi
     clear hbi HI
     by_cases hid:x.t*4+x.b=nd
     ·have hib:(x.t*4+x.b == nd)=true:=by simpa using hid
      have HID:=κ31 hid
      clear hid
      go_wp2_with fail
      go_ret
      exact ⟨true,rfl,⟨fun _=>⟨x,HMem.out,HK2.out.1,HK2.out.2,HID.out⟩,fun _=>rfl⟩,bel2 HB.out HBi.out⟩
     ·have hib:(x.t*4+x.b == nd)=false:=by simpa using hid
      have HF:=κ31 (show madeB nd x=false from decide_eq_false fun h=>hid h.2.2)
      clear hid
      go_wp2_with fail
      go_roundw
      case rel=>exact ⟨j+1,by omega,by go_num,(HNx.out _ HBi.out HF.out).1,(HNx.out _ HBi.out HF.out).2⟩
      case measure=>simp [RowKit.intOf];omega
    ·have hnb:(x.nd == nd)=false:=by simpa using hn
     have HF:=κ31 (show madeB nd x=false from decide_eq_false fun h=>hn h.2.1)
     clear hk hn
     go_wp2_with fail
     go_roundw
     case rel=>exact ⟨j+1,by omega,by go_num,(HNx.out _ (Below.refl _ _) HF.out).1,(HNx.out _ (Below.refl _ _) HF.out).2⟩
     case measure=>simp [RowKit.intOf];omega
   ·have hkb:(x.k == 109)=false:=by simpa using hk
    have HF:=κ31 (show madeB nd x=false from decide_eq_false fun h=>hk h.1)
    clear hk
    go_wp2_with fail
    go_roundw
    case rel=>exact ⟨j+1,by omega,by go_num,(HNx.out _ (Below.refl _ _) HF.out).1,(HNx.out _ (Below.refl _ _) HF.out).2⟩
    case measure=>simp [RowKit.intOf];omega
  ·have j1:¬ (j:Int) < (n:Int):=by omega
   go_wp2_with fail
   go_ret
   refine ⟨false,rfl,?_,HB.out⟩
   rw [←known_iff]
   constructor
   ·intro h;cases h
   ·intro h
    obtain ⟨x,hx,hm⟩:=List.any_eq_true.1 h
    obtain ⟨i,hi,rfl⟩:=List.getElem_of_mem hx
    have:=HA.out i _ (by have:=HN.out;omega) (List.getElem?_eq_getElem hi)
    rw [this] at hm
    cases hm
theorem let_iff {K:List OpT} {nd id:Int}:K.any (insB nd id)=true↔HasLet K nd id:=by
 rw [List.any_eq_true]
 exact ⟨fun ⟨o,ho,h⟩=>⟨o,ho,insB_iff.1 h⟩,fun ⟨o,ho,h⟩=>⟨o,ho,insB_iff.2 h⟩⟩
def LtEnds (K:List OpT) (nd id:Int) (w:World) (e:Ending) (w':World):Prop:=∃ kb,e=.returned (.bool kb)∧(kb=true↔HasLet K nd id)∧Below w.heap.size w w'
theorem mLetter_any (MB:Nat) (b:Int) (A:Option Addr) (n c:Nat) (K:List OpT) (nd id:Int) (w:World) (h:MRep MB b A n c K w) (hD:∀ o∈K,OpFine o) (hl:K.length≤100000) :
  Calls Tryz.prog 94 #[ptrV MB,.int .i64 nd,.int .i64 id] w (LtEnds K nd id w):=by
 have HM:=κ31 h
 have HN:=κ31 h.sl.len
 have HD:=κ31 hD
 have hn5:n≤100000:=by have:=h.sl.len;omega
 clear h hD
 unfold ptrV
 go_enter Tryz.func94,Tryz.ntmps94
 go_wp2_with fail
 go_loopw [7,8] (fun v5 _ wr=>∃ j:Nat,j≤n∧v5=.int .i64 j∧Hid (∀ i x,i < j→K[i]?=some x→insB nd id x=false)∧Hid (Below w.heap.size w wr)) (fun v5 _ _=>n - (RowKit.intOf v5).toNat)
 case atStart=>exact ⟨0,by omega,rfl,κ31 (fun i x h=>by omega),κ31 (Below.refl _ _)⟩
 case round=>
  obtain ⟨j,hj,rfl,HA,HB⟩:=hrel
  have hM:=HM.out.below HB.out
  have c1:=hM.c1
  by_cases hlt:j < n
  ·obtain ⟨x,hx⟩:∃ x,K[j]?=some x:=⟨_,List.getElem?_eq_getElem (by have:=HN.out;omega)⟩
   have hxm:=List.mem_of_getElem? hx
   have hfi:=HD.out x hxm
   have HX:=κ31 hx
   obtain ⟨bb,off,rfl,_,q0,q1,q2,q3,q4,q5,q6,q7⟩:=ops_at hM.sl hx
   have j0:(0:Int)≤(j:Int):=by omega
   have j1:(j:Int) < (n:Int):=by omega
   have HI:=κ31 (fun w'=>idOf_ok x.t x.b w' ⟨by have:=hfi.t1;omega,hfi.t2,hfi.b1,hfi.b2⟩)
   unfold stampV at HI
   have HMem:=κ31 hxm
   clear hM hx hxm hfi
   have next:∀ (wz:World),Below wr.heap.size wr wz→insB nd id x=false→Hid (∀ i y,i < j+1→K[i]?=some y→insB nd id y=false)∧Hid (Below w.heap.size w wz):=fun wz hb hf=>⟨κ31 (fun i y h1 h2=>by
    by_cases he:i=j
    ·subst he;rw [HX.out] at h2;cases h2;exact hf
    ·exact HA.out i y (by omega) h2),κ31 (bel2 HB.out hb)⟩
   have HNx:=κ31 next
   clear next
   by_cases hk:x.k=105
   ·have hkb:(x.k == 105)=true:=by simpa using hk
    by_cases hn:x.nd=nd
    ·have hnb:(x.nd == nd)=true:=by simpa using hn
     have HK2:=κ31 (And.intro hk hn)
     clear hk hn
     go_wp2_with fail
     refine (HI.out _).mono ?_
     rintro e wi ⟨rfl,hbi⟩
     have HBi:=κ31 (bel2 ((Below.refl wr.heap.size wr).alloc (Nat.le_refl _) _) hbi)
     clear hbi HI
     by_cases hid:x.t*4+x.b=id
     ·have hib:(x.t*4+x.b == id)=true:=by simpa using hid
      have HID:=κ31 hid
      clear hid
      go_wp2_with fail
      go_ret
      exact ⟨true,rfl,⟨fun _=>⟨x,HMem.out,HK2.out.1,HK2.out.2,HID.out⟩,fun _=>rfl⟩,bel2 HB.out HBi.out⟩
     ·have hib:(x.t*4+x.b == id)=false:=by simpa using hid
      have HF:=κ31 (show insB nd id x=false from decide_eq_false fun h=>hid h.2.2)
      clear hid
      go_wp2_with fail
      go_roundw
      case rel=>exact ⟨j+1,by omega,by go_num,(HNx.out _ HBi.out HF.out).1,(HNx.out _ HBi.out HF.out).2⟩
      case measure=>simp [RowKit.intOf];omega
    ·have hnb:(x.nd == nd)=false:=by simpa using hn
     have HF:=κ31 (show insB nd id x=false from decide_eq_false fun h=>hn h.2.1)
     clear hk hn
     go_wp2_with fail
     go_roundw
     case rel=>exact ⟨j+1,by omega,by go_num,(HNx.out _ (Below.refl _ _) HF.out).1,κ31 (bel2 HB.out ((Below.refl _ _).alloc (Nat.le_refl _) _))⟩
     case measure=>simp [RowKit.intOf];omega
   ·have hkb:(x.k == 105)=false:=by simpa using hk
    have HF:=κ31 (show insB nd id x=false from decide_eq_false fun h=>hk h.1)
    clear hk
    go_wp2_with fail
    go_roundw
    case rel=>exact ⟨j+1,by omega,by go_num,(HNx.out _ (Below.refl _ _) HF.out).1,κ31 (bel2 HB.out ((Below.refl _ _).alloc (Nat.le_refl _) _))⟩
    case measure=>simp [RowKit.intOf];omega
  ·have j1:¬ (j:Int) < (n:Int):=by omega
   go_wp2_with fail
   go_ret
   refine ⟨false,rfl,?_,HB.out⟩
   rw [←let_iff]
   constructor
   ·intro h;cases h
   ·intro h
    obtain ⟨x,hx,hm⟩:=List.any_eq_true.1 h
    obtain ⟨i,hi,rfl⟩:=List.getElem_of_mem hx
    have:=HA.out i _ (by have:=HN.out;omega) (List.getElem?_eq_getElem hi)
    rw [this] at hm
    cases hm
end Go.Proofs.YtjekalilfhnpmaaGreatDoor
