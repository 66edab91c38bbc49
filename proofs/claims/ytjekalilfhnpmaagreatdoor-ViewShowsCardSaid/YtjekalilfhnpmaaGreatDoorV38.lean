/- An operation is made, as a mesh does. Written by gen_repq.py. FourR replicas that make and join: what they hold. Plain. Some replicas side by side in memory. begun: a closed fact. Four replicas of which some join what others have. Turns: what they are, whether they are long; a replica of operations that are joined in one. A slice of turns that comes in, opened. The document's replica: what it holds, in memory; what it says that reads alone. Plain: the text that the document's State makes is what StateOf says. The document's State: the walk. -/
import Derived.Lib.Join
import Derived.Test.YtjekalilfhnpmaaGreatDoorV06
import Derived.Test.YtjekalilfhnpmaaGreatDoorV10
import Derived.Test.YtjekalilfhnpmaaGreatDoorV29
import Derived.Test.YtjekalilfhnpmaaGreatDoorV32
import Derived.Test.YtjekalilfhnpmaaGreatDoorV33
import Derived.Test.YtjekalilfhnpmaaGreatDoorV36
import Derived.Test.YtjekalilfhnpmaaGreatDoorV37
namespace Go.Proofs.YtjekalilfhnpmaaGreatDoor
open Go Go.RowKit Go.Maps Go.Shelf LineOrd Tree
set_option linter.unusedVariables false
set_option linter.unusedSimpArgs false
set_option maxHeartbeats 2000000
set_option maxRecDepth 100000
def firstB (s:ByteArray):UInt8:=match s.data.toList with | []=>0 | c :: _=>c
open Classical in
def MakeIs (b:Int) (K:List OpT) (o:OpT) (r:OpT×Nat):Prop:=
 if o.k=109 then
  (if o.nd=0 then ∃ pb:Bool,(pb=true↔o.ot=0∨o.ot=1∨Known K o.ot)∧r=nextP b K pb ⟨0,0,0,109,0,o.ot,o.nm,⟨#[]⟩⟩
   else ∃ kb pb:Bool,(kb=true↔Known K o.nd)∧(pb=true↔o.ot=0∨o.ot=1∨Known K o.ot)∧r=moveP b K (kb && pb) ⟨0,0,0,109,o.nd,o.ot,o.nm,⟨#[]⟩⟩)
 else if o.k=105 then ∃ (kb:Bool) (id:Int) (is:Bool),(kb=true↔Known K o.nd)∧WrAt K o.nd o.ot kb id is∧r=nextP b K is ⟨0,0,0,105,o.nd,id,⟨#[]⟩,⟨#[firstB o.vl]⟩⟩
 else if o.k=100 then ∃ (kb:Bool) (id:Int) (is:Bool),(kb=true↔Known K o.nd)∧LetAt K o.nd o.ot kb id is∧r=nextP b K is ⟨0,0,0,100,o.nd,id,⟨#[]⟩,⟨#[]⟩⟩
 else ∃ kb:Bool,(kb=true↔Known K o.nd)∧r=nextP b K kb ⟨0,0,0,115,o.nd,0,o.nm,o.vl⟩
def M1Ends (ea:Nat→Addr) (b:Int) (K:List OpT) (o:OpT) (w:World) (e:Ending) (w':World):Prop:=∃ r,MakeIs b K o r∧e=.returned (.tuple #[opV r.1,errW ea r.2])∧Below w.heap.size w w'
theorem make1_any {F0:Nat→Bool} (ea:Nat→Addr) (col:Nat→Int) (RB:Nat) (b:Int) (K:List OpT) (o:OpT) (w:World) (h:RepD col RB b K w) (hG:Gd F0 ea w) (f2:F0 2=true) (f3:F0 3=true) (f4:F0 4=true) (f5:F0 5=true) (f6:F0 6=true) (f8:F0 8=true) (f10:F0 10=true)
  (hK:DOk K) (hKl:K.length≤400) (hb0:0≤b) (hb4:b < 4) (hw:o.Wf) :
  Calls Tryz.prog 40 #[ptrV RB,opV o] w (M1Ends ea b K o w):=by
 obtain ⟨kb,hkb⟩:∃ kb:Bool,kb=true↔Known K o.nd:=⟨@decide _ (Classical.propDecidable (Known K o.nd)),by simp⟩
 obtain ⟨pb,hpb⟩:∃ pb:Bool,pb=true↔o.ot=0∨o.ot=1∨Known K o.ot:=⟨@decide _ (Classical.propDecidable (o.ot=0∨o.ot=1∨Known K o.ot)),by simp⟩
 have inn:I64 o.nd:=⟨hw.nd1,hw.nd2⟩
 have ino:I64 o.ot:=⟨hw.ot1,hw.ot2⟩
 obtain ⟨W,hW⟩:∃ W,W=(w.alloc (.cells o.cells 31)).alloc (.cells zOp.cells 31):=⟨_,rfl⟩
 have hbW:Below w.heap.size w W:=by rw [hW];exact ((Below.refl _ _).alloc (Nat.le_refl _) _).alloc (by simp) _
 have HR1:Hid (∀ j,j < 8→(∃ u,W.cell? ⟨w.heap.size+1,j,none⟩=some u)∧W.frozen? ⟨w.heap.size+1,j,none⟩=false):=Lib.hid (by
  have:=box8_at (w:=w.alloc (.cells o.cells 31)) (o:=zOp) (ty:=31) (Below.refl _ _)
  rw [World.size_alloc,←hW] at this
  exact this)
 have HBW:=Lib.hid hbW
 have HW:=Lib.hid hW.symm
 by_cases k1:o.k=109
 ·have q1:(o.k == 109)=true:=by simpa using k1
  by_cases n0:o.nd=0
  ·have q2:(o.nd == 0)=true:=by simpa using n0
   have HC:Hid (∀ w',Below w.heap.size w w'→Calls Tryz.prog 11 #[ptrV RB,.int .i64 o.ot,.string o.nm] w' fun e w''=>∃ r,MakeIs b K o r∧e=.returned (.tuple #[opV r.1,errW ea r.2])∧Below w'.heap.size w' w''):=Lib.hid fun w' hb=>by
    refine (make_any ea col RB b K o.ot o.nm w' (h.below hb) (hG.below hb) f2 f3 f4 f5 f6 f8 hK hKl hb0 hb4 ino hw.nm1 pb hpb).mono ?_
    rintro e w'' ⟨rfl,hb2⟩
    exact ⟨_,by unfold MakeIs;rw [if_pos k1,if_pos n0];exact ⟨pb,hpb,rfl⟩,rfl,hb2⟩
   unfold ptrV at HC ⊢
   clear h hG hK hKl hw hkb hpb inn ino hW hbW
   have HK1:=Lib.hid (And.intro k1 n0)
   clear k1 n0
   go_enter Tryz.func40,Tryz.ntmps40
   go_wp2_with fail
   refine (HC.out _ (by rw [←HW.out] at HBW;exact HBW.out)).mono ?_
   rintro e w5 ⟨⟨nx,er⟩,hM,rfl,hb5⟩
   have hb5':Below W.heap.size W w5:=by rw [←HW.out];exact hb5
   have HB5:=Lib.hid (HBW.out.trans (hb5'.mono HBW.out.size))
   have HR5:=Lib.hid (box8_below HR1.out hb5')
   have HM:=Lib.hid hM
   obtain ⟨E,hE⟩:∃ E,errW ea er=E:=⟨_,rfl⟩
   have HE:=Lib.hid hE
   simp only [hE]
   clear hb5 hb5' HC hM hE
   obtain ⟨⟨u0,y0⟩,x0⟩:=HR5.out 0 (by omega)
   obtain ⟨⟨u1,y1⟩,x1⟩:=HR5.out 1 (by omega)
   obtain ⟨⟨u2,y2⟩,x2⟩:=HR5.out 2 (by omega)
   obtain ⟨⟨u3,y3⟩,x3⟩:=HR5.out 3 (by omega)
   obtain ⟨⟨u4,y4⟩,x4⟩:=HR5.out 4 (by omega)
   obtain ⟨⟨u5,y5⟩,x5⟩:=HR5.out 5 (by omega)
   obtain ⟨⟨u6,y6⟩,x6⟩:=HR5.out 6 (by omega)
   obtain ⟨⟨u7,y7⟩,x7⟩:=HR5.out 7 (by omega)
   go_wp2_with fail
   obtain ⟨W8,hW8⟩:∃ W8,W8=((((((((w5.setCell ⟨w.heap.size+1,0,none⟩ (.int .i64 nx.t)).setCell ⟨w.heap.size+1,1,none⟩ (.int .i64 nx.b)).setCell ⟨w.heap.size+1,2,none⟩ (.int .i64 nx.n)).setCell ⟨w.heap.size+1,3,none⟩ (.int .u8 nx.k)).setCell ⟨w.heap.size+1,4,none⟩ (.int .i64 nx.nd)).setCell ⟨w.heap.size+1,5,none⟩ (.int .i64 nx.ot)).setCell ⟨w.heap.size+1,6,none⟩ (.string nx.nm)).setCell ⟨w.heap.size+1,7,none⟩ (.string nx.vl)):=⟨_,rfl⟩
   have h8:OpAt W8 (w.heap.size+1) nx∧Below w.heap.size w W8:=by
    rw [hW8]
    exact set8_at nx (fun j hj=>(HR5.out j hj).1) HB5.out (by omega)
   obtain ⟨⟨l0,l1,l2,l3,l4,l5,l6,l7⟩,hb8⟩:=h8
   rw [←hW8]
   refine bodyPost_ret (v:=.tuple #[opV nx,E]) (by simp [results,Tryz.results40,go_sem,l0,l1,l2,l3,l4,l5,l6,l7]) rfl ⟨(nx,er),HM.out,?_,hb8⟩
   rw [←HE.out]
  ·have q2:(o.nd == 0)=false:=by simpa using n0
   have HC:Hid (∀ w',Below w.heap.size w w'→Calls Tryz.prog 96 #[ptrV RB,.int .i64 o.nd,.int .i64 o.ot,.string o.nm] w' fun e w''=>∃ r,MakeIs b K o r∧e=.returned (.tuple #[opV r.1,errW ea r.2])∧Below w'.heap.size w' w''):=Lib.hid fun w' hb=>by
    refine (move_any ea col RB b K o.nd o.ot o.nm w' (h.below hb) (hG.below hb) f2 f3 f4 f5 f6 f8 hK hKl hb0 hb4 f10 inn ino hw.nm1 kb hkb pb hpb).mono ?_
    rintro e w'' ⟨rfl,hb2⟩
    exact ⟨_,by unfold MakeIs;rw [if_pos k1,if_neg n0];exact ⟨kb,pb,hkb,hpb,rfl⟩,rfl,hb2⟩
   unfold ptrV at HC ⊢
   clear h hG hK hKl hw hkb hpb inn ino hW hbW
   clear k1 n0
   go_enter Tryz.func40,Tryz.ntmps40
   go_wp2_with fail
   refine (HC.out _ (by rw [←HW.out] at HBW;exact HBW.out)).mono ?_
   rintro e w5 ⟨⟨nx,er⟩,hM,rfl,hb5⟩
   have hb5':Below W.heap.size W w5:=by rw [←HW.out];exact hb5
   have HB5:=Lib.hid (HBW.out.trans (hb5'.mono HBW.out.size))
   have HR5:=Lib.hid (box8_below HR1.out hb5')
   have HM:=Lib.hid hM
   obtain ⟨E,hE⟩:∃ E,errW ea er=E:=⟨_,rfl⟩
   have HE:=Lib.hid hE
   simp only [hE]
   clear hb5 hb5' HC hM hE
   obtain ⟨⟨u0,y0⟩,x0⟩:=HR5.out 0 (by omega)
   obtain ⟨⟨u1,y1⟩,x1⟩:=HR5.out 1 (by omega)
   obtain ⟨⟨u2,y2⟩,x2⟩:=HR5.out 2 (by omega)
   obtain ⟨⟨u3,y3⟩,x3⟩:=HR5.out 3 (by omega)
   obtain ⟨⟨u4,y4⟩,x4⟩:=HR5.out 4 (by omega)
   obtain ⟨⟨u5,y5⟩,x5⟩:=HR5.out 5 (by omega)
   obtain ⟨⟨u6,y6⟩,x6⟩:=HR5.out 6 (by omega)
   obtain ⟨⟨u7,y7⟩,x7⟩:=HR5.out 7 (by omega)
   go_wp2_with fail
   obtain ⟨W8,hW8⟩:∃ W8,W8=((((((((w5.setCell ⟨w.heap.size+1,0,none⟩ (.int .i64 nx.t)).setCell ⟨w.heap.size+1,1,none⟩ (.int .i64 nx.b)).setCell ⟨w.heap.size+1,2,none⟩ (.int .i64 nx.n)).setCell ⟨w.heap.size+1,3,none⟩ (.int .u8 nx.k)).setCell ⟨w.heap.size+1,4,none⟩ (.int .i64 nx.nd)).setCell ⟨w.heap.size+1,5,none⟩ (.int .i64 nx.ot)).setCell ⟨w.heap.size+1,6,none⟩ (.string nx.nm)).setCell ⟨w.heap.size+1,7,none⟩ (.string nx.vl)):=⟨_,rfl⟩
   have h8:OpAt W8 (w.heap.size+1) nx∧Below w.heap.size w W8:=by
    rw [hW8]
    exact set8_at nx (fun j hj=>(HR5.out j hj).1) HB5.out (by omega)
   obtain ⟨⟨l0,l1,l2,l3,l4,l5,l6,l7⟩,hb8⟩:=h8
   rw [←hW8]
   refine bodyPost_ret (v:=.tuple #[opV nx,E]) (by simp [results,Tryz.results40,go_sem,l0,l1,l2,l3,l4,l5,l6,l7]) rfl ⟨(nx,er),HM.out,?_,hb8⟩
   rw [←HE.out]
 ·have q1:(o.k == 109)=false:=by simpa using k1
  by_cases k2:o.k=105
  ·have q2:(o.k == 105)=true:=by simpa using k2
   have HC:Hid (∀ w',Below w.heap.size w w'→Calls Tryz.prog 60 #[ptrV RB,.int .i64 o.nd,.int .i64 o.ot,.int .u8 (firstB o.vl).toNat] w' fun e w''=>∃ r,MakeIs b K o r∧e=.returned (.tuple #[opV r.1,errW ea r.2])∧Below w'.heap.size w' w''):=Lib.hid fun w' hb=>by
    refine (write_any ea col RB b K o.nd o.ot (firstB o.vl) w' (h.below hb) (hG.below hb) f2 f3 f4 f5 f6 f8 hK hKl hb0 hb4 inn ino kb hkb).mono ?_
    rintro e w'' ⟨id,is,hWA,rfl,hb2⟩
    exact ⟨_,by unfold MakeIs;rw [if_neg k1,if_pos k2];exact ⟨kb,id,is,hkb,hWA,rfl⟩,rfl,hb2⟩
   unfold ptrV at HC ⊢
   clear h hG hK hKl hw hkb hpb inn ino hW hbW
   clear k1 k2
   cases hv:o.vl.data.toList with
   | nil=>
    have hv0:o.vl=⟨#[]⟩:=by rw [←S_of o.vl,hv];rfl
    have hf:firstB o.vl=0:=by unfold firstB;rw [hv]
    rw [hf] at HC
    have e1:(o.vl.toList == [])=true:=by rw [ByteArray.toList_eq,hv];rfl
    clear hf hv0 hv
    go_enter Tryz.func40,Tryz.ntmps40
    go_wp2_with fail
    refine (HC.out _ (by rw [←HW.out] at HBW;exact HBW.out)).mono ?_
    rintro e w5 ⟨⟨nx,er⟩,hM,rfl,hb5⟩
    have hb5':Below W.heap.size W w5:=by rw [←HW.out];exact hb5
    have HB5:=Lib.hid (HBW.out.trans (hb5'.mono HBW.out.size))
    have HR5:=Lib.hid (box8_below HR1.out hb5')
    have HM:=Lib.hid hM
    obtain ⟨E,hE⟩:∃ E,errW ea er=E:=⟨_,rfl⟩
    have HE:=Lib.hid hE
    simp only [hE]
    clear hb5 hb5' HC hM hE
    obtain ⟨⟨u0,y0⟩,x0⟩:=HR5.out 0 (by omega)
    obtain ⟨⟨u1,y1⟩,x1⟩:=HR5.out 1 (by omega)
    obtain ⟨⟨u2,y2⟩,x2⟩:=HR5.out 2 (by omega)
    obtain ⟨⟨u3,y3⟩,x3⟩:=HR5.out 3 (by omega)
    obtain ⟨⟨u4,y4⟩,x4⟩:=HR5.out 4 (by omega)
    obtain ⟨⟨u5,y5⟩,x5⟩:=HR5.out 5 (by omega)
    obtain ⟨⟨u6,y6⟩,x6⟩:=HR5.out 6 (by omega)
    obtain ⟨⟨u7,y7⟩,x7⟩:=HR5.out 7 (by omega)
    go_wp2_with fail
    obtain ⟨W8,hW8⟩:∃ W8,W8=((((((((w5.setCell ⟨w.heap.size+1,0,none⟩ (.int .i64 nx.t)).setCell ⟨w.heap.size+1,1,none⟩ (.int .i64 nx.b)).setCell ⟨w.heap.size+1,2,none⟩ (.int .i64 nx.n)).setCell ⟨w.heap.size+1,3,none⟩ (.int .u8 nx.k)).setCell ⟨w.heap.size+1,4,none⟩ (.int .i64 nx.nd)).setCell ⟨w.heap.size+1,5,none⟩ (.int .i64 nx.ot)).setCell ⟨w.heap.size+1,6,none⟩ (.string nx.nm)).setCell ⟨w.heap.size+1,7,none⟩ (.string nx.vl)):=⟨_,rfl⟩
    have h8:OpAt W8 (w.heap.size+1) nx∧Below w.heap.size w W8:=by
     rw [hW8]
     exact set8_at nx (fun j hj=>(HR5.out j hj).1) HB5.out (by omega)
    obtain ⟨⟨l0,l1,l2,l3,l4,l5,l6,l7⟩,hb8⟩:=h8
    rw [←hW8]
    refine bodyPost_ret (v:=.tuple #[opV nx,E]) (by simp [results,Tryz.results40,go_sem,l0,l1,l2,l3,l4,l5,l6,l7]) rfl ⟨(nx,er),HM.out,?_,hb8⟩
    rw [←HE.out]
   | cons c r=>
    have hf:firstB o.vl=c:=by unfold firstB;rw [hv]
    rw [hf] at HC
    have e1:(o.vl.toList == [])=false:=by rw [beq_eq_false_iff_ne,ByteArray.toList_eq,hv];simp
    have e2:o.vl.size=r.length+1:=by show o.vl.data.size=_;rw [←Array.length_toList,hv];rfl
    have e3:o.vl[0]'(by omega)=c:=by
     have e4:0 < o.vl.data.size:=by show 0 < o.vl.size;omega
     show o.vl.data[0]'e4=c
     rw [←Array.getElem_toList]
     simp [hv]
    rw [←e3] at HC
    clear hf hv e3
    go_enter Tryz.func40,Tryz.ntmps40
    go_wp2_with fail
    refine (HC.out _ (by rw [←HW.out] at HBW;exact HBW.out)).mono ?_
    rintro e w5 ⟨⟨nx,er⟩,hM,rfl,hb5⟩
    have hb5':Below W.heap.size W w5:=by rw [←HW.out];exact hb5
    have HB5:=Lib.hid (HBW.out.trans (hb5'.mono HBW.out.size))
    have HR5:=Lib.hid (box8_below HR1.out hb5')
    have HM:=Lib.hid hM
    obtain ⟨E,hE⟩:∃ E,errW ea er=E:=⟨_,rfl⟩
    have HE:=Lib.hid hE
    simp only [hE]
    clear hb5 hb5' HC hM hE
    obtain ⟨⟨u0,y0⟩,x0⟩:=HR5.out 0 (by omega)
    obtain ⟨⟨u1,y1⟩,x1⟩:=HR5.out 1 (by omega)
    obtain ⟨⟨u2,y2⟩,x2⟩:=HR5.out 2 (by omega)
    obtain ⟨⟨u3,y3⟩,x3⟩:=HR5.out 3 (by omega)
    obtain ⟨⟨u4,y4⟩,x4⟩:=HR5.out 4 (by omega)
    obtain ⟨⟨u5,y5⟩,x5⟩:=HR5.out 5 (by omega)
    obtain ⟨⟨u6,y6⟩,x6⟩:=HR5.out 6 (by omega)
    obtain ⟨⟨u7,y7⟩,x7⟩:=HR5.out 7 (by omega)
    go_wp2_with fail
    obtain ⟨W8,hW8⟩:∃ W8,W8=((((((((w5.setCell ⟨w.heap.size+1,0,none⟩ (.int .i64 nx.t)).setCell ⟨w.heap.size+1,1,none⟩ (.int .i64 nx.b)).setCell ⟨w.heap.size+1,2,none⟩ (.int .i64 nx.n)).setCell ⟨w.heap.size+1,3,none⟩ (.int .u8 nx.k)).setCell ⟨w.heap.size+1,4,none⟩ (.int .i64 nx.nd)).setCell ⟨w.heap.size+1,5,none⟩ (.int .i64 nx.ot)).setCell ⟨w.heap.size+1,6,none⟩ (.string nx.nm)).setCell ⟨w.heap.size+1,7,none⟩ (.string nx.vl)):=⟨_,rfl⟩
    have h8:OpAt W8 (w.heap.size+1) nx∧Below w.heap.size w W8:=by
     rw [hW8]
     exact set8_at nx (fun j hj=>(HR5.out j hj).1) HB5.out (by omega)
    obtain ⟨⟨l0,l1,l2,l3,l4,l5,l6,l7⟩,hb8⟩:=h8
    rw [←hW8]
    refine bodyPost_ret (v:=.tuple #[opV nx,E]) (by simp [results,Tryz.results40,go_sem,l0,l1,l2,l3,l4,l5,l6,l7]) rfl ⟨(nx,er),HM.out,?_,hb8⟩
    rw [←HE.out]
  ·have q2:(o.k == 105)=false:=by simpa using k2
   by_cases k3:o.k=100
   ·have q3:(o.k == 100)=true:=by simpa using k3
    have HC:Hid (∀ w',Below w.heap.size w w'→Calls Tryz.prog 97 #[ptrV RB,.int .i64 o.nd,.int .i64 o.ot] w' fun e w''=>∃ r,MakeIs b K o r∧e=.returned (.tuple #[opV r.1,errW ea r.2])∧Below w'.heap.size w' w''):=Lib.hid fun w' hb=>by
     refine (erase_any ea col RB b K o.nd o.ot w' (h.below hb) (hG.below hb) f2 f3 f4 f5 f6 f8 hK hKl hb0 hb4 inn ino kb hkb).mono ?_
     rintro e w'' ⟨id,is,hLA,rfl,hb2⟩
     exact ⟨_,by unfold MakeIs;rw [if_neg k1,if_neg k2,if_pos k3];exact ⟨kb,id,is,hkb,hLA,rfl⟩,rfl,hb2⟩
    unfold ptrV at HC ⊢
    clear h hG hK hKl hw hkb hpb inn ino hW hbW
    clear k1 k2 k3
    go_enter Tryz.func40,Tryz.ntmps40
    go_wp2_with fail
    refine (HC.out _ (by rw [←HW.out] at HBW;exact HBW.out)).mono ?_
    rintro e w5 ⟨⟨nx,er⟩,hM,rfl,hb5⟩
    have hb5':Below W.heap.size W w5:=by rw [←HW.out];exact hb5
    have HB5:=Lib.hid (HBW.out.trans (hb5'.mono HBW.out.size))
    have HR5:=Lib.hid (box8_below HR1.out hb5')
    have HM:=Lib.hid hM
    obtain ⟨E,hE⟩:∃ E,errW ea er=E:=⟨_,rfl⟩
    have HE:=Lib.hid hE
    simp only [hE]
    clear hb5 hb5' HC hM hE
    obtain ⟨⟨u0,y0⟩,x0⟩:=HR5.out 0 (by omega)
    obtain ⟨⟨u1,y1⟩,x1⟩:=HR5.out 1 (by omega)
    obtain ⟨⟨u2,y2⟩,x2⟩:=HR5.out 2 (by omega)
    obtain ⟨⟨u3,y3⟩,x3⟩:=HR5.out 3 (by omega)
    obtain ⟨⟨u4,y4⟩,x4⟩:=HR5.out 4 (by omega)
    obtain ⟨⟨u5,y5⟩,x5⟩:=HR5.out 5 (by omega)
    obtain ⟨⟨u6,y6⟩,x6⟩:=HR5.out 6 (by omega)
    obtain ⟨⟨u7,y7⟩,x7⟩:=HR5.out 7 (by omega)
    go_wp2_with fail
    obtain ⟨W8,hW8⟩:∃ W8,W8=((((((((w5.setCell ⟨w.heap.size+1,0,none⟩ (.int .i64 nx.t)).setCell ⟨w.heap.size+1,1,none⟩ (.int .i64 nx.b)).setCell ⟨w.heap.size+1,2,none⟩ (.int .i64 nx.n)).setCell ⟨w.heap.size+1,3,none⟩ (.int .u8 nx.k)).setCell ⟨w.heap.size+1,4,none⟩ (.int .i64 nx.nd)).setCell ⟨w.heap.size+1,5,none⟩ (.int .i64 nx.ot)).setCell ⟨w.heap.size+1,6,none⟩ (.string nx.nm)).setCell ⟨w.heap.size+1,7,none⟩ (.string nx.vl)):=⟨_,rfl⟩
    have h8:OpAt W8 (w.heap.size+1) nx∧Below w.heap.size w W8:=by
     rw [hW8]
     exact set8_at nx (fun j hj=>(HR5.out j hj).1) HB5.out (by omega)
    obtain ⟨⟨l0,l1,l2,l3,l4,l5,l6,l7⟩,hb8⟩:=h8
    rw [←hW8]
    refine bodyPost_ret (v:=.tuple #[opV nx,E]) (by simp [results,Tryz.results40,go_sem,l0,l1,l2,l3,l4,l5,l6,l7]) rfl ⟨(nx,er),HM.out,?_,hb8⟩
    rw [←HE.out]
   ·have q3:(o.k == 100)=false:=by simpa using k3
    have HC:Hid (∀ w',Below w.heap.size w w'→Calls Tryz.prog 98 #[ptrV RB,.int .i64 o.nd,.string o.nm,.string o.vl] w' fun e w''=>∃ r,MakeIs b K o r∧e=.returned (.tuple #[opV r.1,errW ea r.2])∧Below w'.heap.size w' w''):=Lib.hid fun w' hb=>by
     refine (mark_any ea col RB b K o.nd o.nm o.vl w' (h.below hb) (hG.below hb) f2 f3 f4 f5 f6 f8 hK hKl hb0 hb4 inn hw.nm1 hw.vl1 kb hkb).mono ?_
     rintro e w'' ⟨rfl,hb2⟩
     exact ⟨_,by unfold MakeIs;rw [if_neg k1,if_neg k2,if_neg k3];exact ⟨kb,hkb,rfl⟩,rfl,hb2⟩
    unfold ptrV at HC ⊢
    clear h hG hK hKl hw hkb hpb inn ino hW hbW
    clear k1 k2 k3
    go_enter Tryz.func40,Tryz.ntmps40
    go_wp2_with fail
    refine (HC.out _ (by rw [←HW.out] at HBW;exact HBW.out)).mono ?_
    rintro e w5 ⟨⟨nx,er⟩,hM,rfl,hb5⟩
    have hb5':Below W.heap.size W w5:=by rw [←HW.out];exact hb5
    have HB5:=Lib.hid (HBW.out.trans (hb5'.mono HBW.out.size))
    have HR5:=Lib.hid (box8_below HR1.out hb5')
    have HM:=Lib.hid hM
    obtain ⟨E,hE⟩:∃ E,errW ea er=E:=⟨_,rfl⟩
    have HE:=Lib.hid hE
    simp only [hE]
    clear hb5 hb5' HC hM hE
    obtain ⟨⟨u0,y0⟩,x0⟩:=HR5.out 0 (by omega)
    obtain ⟨⟨u1,y1⟩,x1⟩:=HR5.out 1 (by omega)
    obtain ⟨⟨u2,y2⟩,x2⟩:=HR5.out 2 (by omega)
    obtain ⟨⟨u3,y3⟩,x3⟩:=HR5.out 3 (by omega)
    obtain ⟨⟨u4,y4⟩,x4⟩:=HR5.out 4 (by omega)
    obtain ⟨⟨u5,y5⟩,x5⟩:=HR5.out 5 (by omega)
    obtain ⟨⟨u6,y6⟩,x6⟩:=HR5.out 6 (by omega)
    obtain ⟨⟨u7,y7⟩,x7⟩:=HR5.out 7 (by omega)
    go_wp2_with fail
    obtain ⟨W8,hW8⟩:∃ W8,W8=((((((((w5.setCell ⟨w.heap.size+1,0,none⟩ (.int .i64 nx.t)).setCell ⟨w.heap.size+1,1,none⟩ (.int .i64 nx.b)).setCell ⟨w.heap.size+1,2,none⟩ (.int .i64 nx.n)).setCell ⟨w.heap.size+1,3,none⟩ (.int .u8 nx.k)).setCell ⟨w.heap.size+1,4,none⟩ (.int .i64 nx.nd)).setCell ⟨w.heap.size+1,5,none⟩ (.int .i64 nx.ot)).setCell ⟨w.heap.size+1,6,none⟩ (.string nx.nm)).setCell ⟨w.heap.size+1,7,none⟩ (.string nx.vl)):=⟨_,rfl⟩
    have h8:OpAt W8 (w.heap.size+1) nx∧Below w.heap.size w W8:=by
     rw [hW8]
     exact set8_at nx (fun j hj=>(HR5.out j hj).1) HB5.out (by omega)
    obtain ⟨⟨l0,l1,l2,l3,l4,l5,l6,l7⟩,hb8⟩:=h8
    rw [←hW8]
    refine bodyPost_ret (v:=.tuple #[opV nx,E]) (by simp [results,Tryz.results40,go_sem,l0,l1,l2,l3,l4,l5,l6,l7]) rfl ⟨(nx,er),HM.out,?_,hb8⟩
    rw [←HE.out]
structure MadeOk (b:Int) (K:List OpT) (x:OpT):Prop where
 ok:DOk (K++[x])
 by':x.b=b
 num:x.n=cntB K b+1
 time:timeOf K < x.t
 len:K.length < 400
theorem next_made {b:Int} {K:List OpT} {is:Bool} {o x:OpT} (h:nextP b K is o=(x,0)) (hK:DOk K) (hb0:0≤b) (hb4:b < 4) (k1:0≤o.k) (k2:o.k≤255) (hn:I64 o.nd) (ho:I64 o.ot) (hm:o.nm.size≤100000) (hv:o.vl.size≤100000)
  (hr:is=true→RefOk (K++[x]) x):MadeOk b K x:=by
 obtain ⟨h1,h2,h3,h4,h5⟩:=nextP_ok h
 have hw:x.Wf:=by rw [h5];exact nextO_wf hK hb0 hb4 k1 k2 hn ho hm hv
 have e1:x.b=b:=by rw [h5];rfl
 have e2:x.n=cntB K b+1:=by rw [h5];rfl
 have e3:timeOf K < x.t:=by rw [h5];show timeOf K < timeOf K+1;omega
 exact ⟨hK.snoc hw h4 e3 (by rw [e2,e1]) (hr h1),e1,e2,e3,h2⟩
theorem sub_snoc {K:List OpT} {x:OpT}:∀ o∈K,o∈K++[x]:=fun o ho=>by simp [ho]
theorem i64_0:I64 0:=by constructor <;> omega
theorem LetAt.let {K:List OpT} {nd k:Int} {kb:Bool} {id:Int} (h:LetAt K nd k kb id true):kb=true∧HasLet K nd id:=by
 rcases h with ⟨h1,_,L,hL,x,hx,rfl,_⟩ | ⟨_,_,h1⟩
 ·exact ⟨h1,hL.has (seenL_mem hx)⟩
 ·cases h1
theorem WrAt.rg {K:List OpT} (hK:DOk K) {nd k:Int} {kb:Bool} {id:Int} {is:Bool} (h:WrAt K nd k kb id is):I64 id:=by
 rcases h with ⟨_,rfl,_⟩ | ⟨_,k',h,_⟩
 ·exact i64_0
 ·exact h.rg hK
theorem made_ok {b:Int} {K:List OpT} {o x:OpT} (h:MakeIs b K o (x,0)) (hK:DOk K) (hb0:0≤b) (hb4:b < 4) (hw:o.Wf):MadeOk b K x:=by
 have inn:I64 o.nd:=⟨hw.nd1,hw.nd2⟩
 have ino:I64 o.ot:=⟨hw.ot1,hw.ot2⟩
 unfold MakeIs at h
 split at h
 ·split at h
  ·obtain ⟨pb,hpb,h⟩:=h
   refine next_made h.symm hK hb0 hb4 (by simp) (by simp) i64_0 ino hw.nm1 nil_le fun his=>?_
   obtain ⟨_,_,_,_,h5⟩:=nextP_ok h.symm
   have e1:x.k=109:=by rw [h5];rfl
   have e2:x.nd=x.id:=by rw [h5];rfl
   have e3:x.ot=o.ot:=by rw [h5];rfl
   refine ⟨fun _=>⟨.inl e2,?_⟩,fun hk=>by omega,fun hk=>by omega,fun hk=>by omega⟩
   rw [e3]
   exact (hpb.1 his).imp id (·.imp id fun hh=>hh.mono sub_snoc)
  ·rename_i hn0
   obtain ⟨kb,pb,hkb,hpb,h⟩:=h
   unfold moveP at h
   split at h
   ·have:=congrArg Prod.snd h;cases this
   ·refine next_made h.symm hK hb0 hb4 (by simp) (by simp) inn ino hw.nm1 nil_le fun his=>?_
    obtain ⟨_,_,_,_,h5⟩:=nextP_ok h.symm
    have hkp:kb=true∧pb=true:=by simpa using his
    have e1:x.k=109:=by rw [h5];rfl
    have e2:x.nd=o.nd:=by rw [h5];unfold nextO;simp [hn0]
    have e3:x.ot=o.ot:=by rw [h5];rfl
    refine ⟨fun _=>⟨.inr (by rw [e2];exact (hkb.1 hkp.1).mono sub_snoc),?_⟩,fun hk=>by omega,fun hk=>by omega,fun hk=>by omega⟩
    rw [e3]
    exact (hpb.1 hkp.2).imp id (·.imp id fun hh=>hh.mono sub_snoc)
 ·split at h
  ·obtain ⟨kb,id,is,hkb,hWA,h⟩:=h
   refine next_made h.symm hK hb0 hb4 (by simp) (by simp) inn (hWA.rg hK) nil_le (show (1:Nat)≤100000 by omega) fun his=>?_
   obtain ⟨_,_,_,_,h5⟩:=nextP_ok h.symm
   have e1:x.k=105:=by rw [h5];rfl
   have e2:x.nd=o.nd:=by rw [h5];unfold nextO;simp
   have e3:x.ot=id:=by rw [h5];rfl
   refine ⟨fun hk=>by omega,fun _=>?_,fun hk=>by omega,fun hk=>by omega⟩
   rw [e2,e3]
   rcases hWA with ⟨_,h0,h1⟩ | ⟨_,k',hLA,_⟩
   ·exact ⟨(hkb.1 (by rw [←h1];exact his)).mono sub_snoc,.inl h0⟩
   ·rw [his] at hLA
    exact ⟨(hkb.1 hLA.let.1).mono sub_snoc,.inr (hLA.let.2.mono sub_snoc)⟩
  ·split at h
   ·obtain ⟨kb,id,is,hkb,hLA,h⟩:=h
    refine next_made h.symm hK hb0 hb4 (by simp) (by simp) inn (hLA.rg hK) nil_le nil_le fun his=>?_
    obtain ⟨_,_,_,_,h5⟩:=nextP_ok h.symm
    have e1:x.k=100:=by rw [h5];rfl
    have e2:x.nd=o.nd:=by rw [h5];unfold nextO;simp
    have e3:x.ot=id:=by rw [h5];rfl
    refine ⟨fun hk=>by omega,fun hk=>by omega,fun _=>?_,fun hk=>by omega⟩
    rw [e2,e3]
    rw [his] at hLA
    exact ⟨(hkb.1 hLA.let.1).mono sub_snoc,hLA.let.2.mono sub_snoc⟩
   ·obtain ⟨kb,hkb,h⟩:=h
    refine next_made h.symm hK hb0 hb4 (by simp) (by simp) inn i64_0 hw.nm1 hw.vl1 fun his=>?_
    obtain ⟨_,_,_,_,h5⟩:=nextP_ok h.symm
    have e1:x.k=115:=by rw [h5];rfl
    have e2:x.nd=o.nd:=by rw [h5];unfold nextO;simp
    refine ⟨fun hk=>by omega,fun hk=>by omega,fun hk=>by omega,fun _=>?_⟩
    rw [e2]
    exact (hkb.1 his).mono sub_snoc
structure FourR (H:List OpT) (Ks:Nat→List OpT):Prop where
 all:All H
 ok:∀ b,b < 4→DOk (Ks b)
 rise:∀ b,b < 4→Rising (Ks b)
 sub:∀ b,b < 4→∀ o∈Ks b,o∈H
 own:∀ o∈H,∃ b:Nat,b < 4∧o.b=b∧o∈Ks b
def putK (Ks:Nat→List OpT) (b:Nat) (K:List OpT):Nat→List OpT:=fun a=>if a=b then K else Ks a
theorem putK_self (Ks:Nat→List OpT) (b:Nat) (K:List OpT):putK Ks b K b=K:=if_pos rfl
theorem putK_other {Ks:Nat→List OpT} {a b:Nat} {K:List OpT} (h:a≠b):putK Ks b K a=Ks a:=if_neg h
theorem FourR.start:FourR [] (fun _=>[]):=⟨⟨by simp⟩,fun _ _=>DOk.nil,fun _ _=>List.Pairwise.nil,fun _ _ _ h=>h,by simp⟩
theorem FourR.len {H:List OpT} {Ks:Nat→List OpT} (h:FourR H Ks) {b:Nat} (hb:b < 4):(Ks b).length≤H.length:=nodup_le (h.ok b hb).nod (h.sub b hb)
theorem FourR.join {H:List OpT} {Ks:Nat→List OpT} (h:FourR H Ks) {a b:Nat} (ha:a < 4) (hb:b < 4) {l:List OpT} (hl:∀ o,o∈Ks b∨o∈l↔o∈Ks b∨o∈Ks a) (hlen:H.length≤400) :
  ∃ G,joinP (Ks b) l=.inr G∧FourR H (putK Ks b (sortOps (Ks b++G)))∧∀ o,o∈sortOps (Ks b++G)↔o∈Ks b∨o∈Ks a:=by
 obtain ⟨G,h1,h2,h3,h4⟩:=join_union h.all (h.ok b hb) (h.ok a ha) (h.sub b hb) (h.sub a ha) hlen hl
 have hm:∀ o,o∈sortOps (Ks b++G)↔o∈Ks b∨o∈Ks a:=fun o=>by rw [sortOps_mem];exact h4 o
 refine ⟨G,h1,⟨h.all,fun c hc=>?_,fun c hc=>?_,fun c hc o ho=>?_,fun o ho=>?_⟩,hm⟩
 ·by_cases e:c=b
  ·rw [e,putK_self];exact h2.sorted
  ·rw [putK_other e];exact h.ok c hc
 ·by_cases e:c=b
  ·rw [e,putK_self];exact h2.rising
  ·rw [putK_other e];exact h.rise c hc
 ·by_cases e:c=b
  ·rw [e,putK_self] at ho
   exact ((hm o).1 ho).elim (h.sub b hb o) (h.sub a ha o)
  ·rw [putK_other e] at ho;exact h.sub c hc o ho
 ·obtain ⟨c,hc,h5,h6⟩:=h.own o ho
  refine ⟨c,hc,h5,?_⟩
  by_cases e:c=b
  ·rw [e,putK_self,hm];rw [e] at h6;exact .inl h6
  ·rw [putK_other e];exact h6
theorem FourR.make {H:List OpT} {Ks:Nat→List OpT} (h:FourR H Ks) {b:Nat} (hb:b < 4) {x:OpT} (hx:MadeOk b (Ks b) x) :
  joinP (Ks b) [x]=.inr [x]∧sortOps (Ks b++[x])=Ks b++[x]∧FourR (H++[x]) (putK Ks b (Ks b++[x])):=by
 have hup:=rising_snoc (h.rise b hb) hx.time
 obtain ⟨h1,h2⟩:=join_one (h.ok b hb) hx.ok hup hx.len
 have hnew:∀ o∈H,o.b=x.b→o.n=x.n→False:=fun o ho e1 e2=>by
  obtain ⟨c,hc,h5,h6⟩:=h.own o ho
  have hcb:c=b:=by have:=hx.by';omega
  rw [hcb] at h6
  have:=((nums_are (h.ok b hb) b o.n).1 ⟨o,h6,by rw [e1,hx.by'],rfl⟩).2
  have:=hx.num
  omega
 refine ⟨h1,h2,⟨⟨fun o ho p hp e1 e2=>?_⟩,fun c hc=>?_,fun c hc=>?_,fun c hc o ho=>?_,fun o ho=>?_⟩⟩
 ·rcases List.mem_append.1 ho with ho | ho <;> rcases List.mem_append.1 hp with hp | hp
  ·exact h.all.num o ho p hp e1 e2
  ·rw [List.mem_singleton.1 hp] at e1 e2;exact (hnew o ho e1 e2).elim
  ·rw [List.mem_singleton.1 ho] at e1 e2;exact (hnew p hp e1.symm e2.symm).elim
  ·rw [List.mem_singleton.1 ho,List.mem_singleton.1 hp]
 ·by_cases e:c=b
  ·rw [e,putK_self];exact hx.ok
  ·rw [putK_other e];exact h.ok c hc
 ·by_cases e:c=b
  ·rw [e,putK_self];exact hup
  ·rw [putK_other e];exact h.rise c hc
 ·by_cases e:c=b
  ·rw [e,putK_self] at ho
   rcases List.mem_append.1 ho with ho | ho
   ·exact List.mem_append.2 (.inl (h.sub b hb o ho))
   ·exact List.mem_append.2 (.inr ho)
  ·rw [putK_other e] at ho;exact List.mem_append.2 (.inl (h.sub c hc o ho))
 ·rcases List.mem_append.1 ho with ho | ho
  ·obtain ⟨c,hc,h5,h6⟩:=h.own o ho
   refine ⟨c,hc,h5,?_⟩
   by_cases e:c=b
   ·rw [e,putK_self];rw [e] at h6;exact List.mem_append.2 (.inl h6)
   ·rw [putK_other e];exact h6
  ·rw [List.mem_singleton.1 ho]
   exact ⟨b,hb,hx.by',by rw [putK_self];simp⟩
theorem FourR.same {H:List OpT} {Ks:Nat→List OpT} (h:FourR H Ks) {a b:Nat} (ha:a < 4) (hb:b < 4) (h1:∀ o∈H,o∈Ks a) (h2:∀ o∈H,o∈Ks b):Ks a=Ks b:=by
 have e:=sort_eq (h.ok a ha) (h.ok b hb) fun o=>⟨fun ho=>h2 o (h.sub a ha o ho),fun ho=>h1 o (h.sub b hb o ho)⟩
 rwa [sort_self (h.rise a ha),sort_self (h.rise b hb)] at e
def putT {T:Type} (f:Nat→T) (b:Nat) (x:T):Nat→T:=fun a=>if a=b then x else f a
theorem putT_self {T:Type} (f:Nat→T) (b:Nat) (x:T):putT f b x b=x:=if_pos rfl
theorem putT_other {T:Type} {f:Nat→T} {a b:Nat} {x:T} (h:a≠b):putT f b x a=f a:=if_neg h
structure RepsW (m:Nat) (ids:Nat→Int) (cs:Nat→Nat→Int) (RBs:Nat→Nat) (Ks:Nat→List OpT) (w0 w:World):Prop where
 rep:∀ b,b < m→RepD (cs b) (RBs b) (ids b) (Ks b) w
 apart:∀ a b k,a < m→b < m→a≠b→cs a k≠0→cs b k=0
 ge:∀ b k,b < m→cs b k≠0→w0.heap.size≤k
 bel:Below w0.heap.size w0 w
theorem RepsW.start (ids:Nat→Int) (cs:Nat→Nat→Int) (RBs:Nat→Nat) (Ks:Nat→List OpT) (w:World):RepsW 0 ids cs RBs Ks w w:=⟨fun b h=>by omega,fun a b k h=>by omega,fun b k h=>by omega,Below.refl _ _⟩
theorem RepsW.below {m:Nat} {ids:Nat→Int} {cs:Nat→Nat→Int} {RBs:Nat→Nat} {Ks:Nat→List OpT} {w0 w w':World} (h:RepsW m ids cs RBs Ks w0 w) (hb:Below w.heap.size w w'):RepsW m ids cs RBs Ks w0 w':=
 ⟨fun b hbm=>(h.rep b hbm).below hb,h.apart,h.ge,h.bel.trans (hb.mono h.bel.size)⟩
theorem RepsW.fr {X:Nat→Prop} {m:Nat} {ids:Nat→Int} {cs:Nat→Nat→Int} {RBs:Nat→Nat} {Ks:Nat→List OpT} {w0 w w':World} (h:RepsW m ids cs RBs Ks w0 w) (hF:Fr X w w') (hx:∀ b,b < m→∀ k,X k→cs b k=0) (hg:∀ k,X k→w0.heap.size≤k):RepsW m ids cs RBs Ks w0 w':=
 ⟨fun b hbm=>(h.rep b hbm).fr hF (hx b hbm),h.apart,h.ge,hF.below h.bel.size hg |> h.bel.trans⟩
theorem RepsW.join {m:Nat} {ids:Nat→Int} {cs:Nat→Nat→Int} {RBs:Nat→Nat} {Ks:Nat→List OpT} {w0 w w':World} (h:RepsW m ids cs RBs Ks w0 w) {b:Nat} (hb:b < m) {K:List OpT} (hR:RepDTo (cs b) (RBs b) (ids b) K w w') :
  ∃ c',RepsW m ids (putT cs b c') RBs (putT Ks b K) w0 w'∧Grew (cs b) c' w∧Fr (InC (cs b)) w w':=by
 obtain ⟨c',h1,h2,h3⟩:=hR
 have hold:∀ a k,a < m→a≠b→cs a k≠0→c' k=0:=fun a k ha hab hk=>by
  refine Classical.byContradiction fun hn=>?_
  have hl:=(h.rep a ha).lt k hk
  have:=h2.old k hl hn
  exact this (h.apart a b k ha hb hab hk)
 refine ⟨c',⟨fun a ha=>?_,fun a d k ha hd had hk=>?_,fun a k ha hk=>?_,h.bel.trans (h3.below h.bel.size fun k hk=>h.ge b k hb hk)⟩,h2,h3⟩
 ·by_cases e:a=b
  ·subst e
   rw [putT_self,putT_self]
   exact h1
  ·rw [putT_other e,putT_other e]
   exact (h.rep a ha).fr h3 fun k hk=>h.apart b a k hb ha (fun e'=>e e'.symm) hk
 ·by_cases e:a=b
  ·subst e
   rw [putT_self] at hk
   rw [putT_other (fun e'=>had e'.symm)]
   refine Classical.byContradiction fun hn=>hk (hold d k hd (fun e'=>had e'.symm) hn)
  ·rw [putT_other e] at hk
   by_cases e2:d=b
   ·subst e2
    rw [putT_self]
    exact hold a k ha e hk
   ·rw [putT_other e2]
    exact h.apart a d k ha hd had hk
 ·by_cases e:a=b
  ·subst e
   rw [putT_self] at hk
   rcases Nat.lt_or_ge k w.heap.size with hl | hl
   ·exact h.ge a k ha (h2.old k hl hk)
   ·exact Nat.le_trans h.bel.size hl
  ·rw [putT_other e] at hk
   exact h.ge a k ha hk
theorem RepsW.more {m:Nat} {ids:Nat→Int} {cs:Nat→Nat→Int} {RBs:Nat→Nat} {Ks:Nat→List OpT} {w0 w w':World} (h:RepsW m ids cs RBs Ks w0 w) {c:Nat→Int} {RB:Nat} {i:Int} {K:List OpT} (hR:RepD c RB i K w') (hb:Below w.heap.size w w') (hc:∀ k,c k≠0→w.heap.size≤k) :
  RepsW (m+1) (putT ids m i) (putT cs m c) (putT RBs m RB) (putT Ks m K) w0 w':=by
 refine ⟨fun a ha=>?_,fun a d k ha hd had hk=>?_,fun a k ha hk=>?_,h.bel.trans (hb.mono h.bel.size)⟩
 ·by_cases e:a=m
  ·subst e
   rw [putT_self,putT_self,putT_self,putT_self]
   exact hR
  ·rw [putT_other e,putT_other e,putT_other e,putT_other e]
   exact (h.rep a (by omega)).below hb
 ·by_cases e:a=m
  ·subst e
   rw [putT_self] at hk
   rw [putT_other (fun e'=>had e'.symm)]
   refine Classical.byContradiction fun hn=>?_
   have:=(h.rep d (by omega)).lt k hn
   have:=hc k hk
   omega
  ·rw [putT_other e] at hk
   by_cases e2:d=m
   ·subst e2
    rw [putT_self]
    refine Classical.byContradiction fun hn=>?_
    have:=(h.rep a (by omega)).lt k hk
    have:=hc k hn
    omega
   ·rw [putT_other e2]
    exact h.apart a d k (by omega) (by omega) had hk
 ·by_cases e:a=m
  ·subst e
   rw [putT_self] at hk
   exact Nat.le_trans h.bel.size (hc k hk)
  ·rw [putT_other e] at hk
   exact h.ge a k (by omega) hk
structure RowW {T:Type} (E:Enc T) (ty:TypeId) (m:Nat) (cs:Nat→Nat→Int) (base:Nat) (v:Value) (L:List T) (w:World):Prop where
 row:Rw E ty base v L w
 free:∀ b,b < m→∀ k,v.ownBlock=some k→cs b k=0
theorem RowW.below {T:Type} {E:Enc T} {ty:TypeId} {m:Nat} {cs:Nat→Nat→Int} {base:Nat} {v:Value} {L:List T} {w w':World} (h:RowW E ty m cs base v L w) (hb:Below w.heap.size w w'):RowW E ty m cs base v L w':=⟨h.row.below hb,h.free⟩
theorem RowW.join {T:Type} {E:Enc T} {ty:TypeId} {m:Nat} {cs:Nat→Nat→Int} {base:Nat} {v:Value} {L:List T} {w w':World} (h:RowW E ty m cs base v L w) {b:Nat} (hb:b < m) {c':Nat→Int} (hG:Grew (cs b) c' w) (hF:Fr (InC (cs b)) w w'):RowW E ty m (putT cs b c') base v L w':=by
 refine ⟨h.row.fr (X:=InC (cs b)) (fun k h1 h2=>hF.block k h1 h2) (fun k hk hn=>hn (h.free b hb k hk)),fun a ha k hk=>?_⟩
 by_cases e:a=b
 ·subst e
  rw [putT_self]
  refine Classical.byContradiction fun hn=>hG.old k (h.row.lt k hk).2 hn (h.free a ha k hk)
 ·rw [putT_other e]
  exact h.free a ha k hk
theorem RepsW.row {T:Type} {E:Enc T} {ty:TypeId} {m:Nat} {ids:Nat→Int} {cs:Nat→Nat→Int} {RBs:Nat→Nat} {Ks:Nat→List OpT} {w0 w w':World} {v:Value} {L:List T} (h:RepsW m ids cs RBs Ks w0 w) (hr:Rw E ty w.heap.size v L w'):RowW E ty m cs w.heap.size v L w':=
 ⟨hr,fun b hb k hk=>Classical.byContradiction fun hn=>by
  have:=(h.rep b hb).lt k hn
  have:=(hr.lt k hk).1
  omega⟩
def repE:Enc Nat:=⟨fun x=>[ptrV x],1,fun _=>rfl,fun x v hv=>by simp at hv;subst hv;rfl⟩
theorem infoRep:(Tryz.prog.info? 23).map (fun i=>(i.zero,i.size,i.bytes))=some (some (.pointer none),1,8):=by kernel_rfl
abbrev o6:OpT:=⟨1,2,1,109,6,0,⟨#[97]⟩,⟨#[]⟩⟩
theorem ins_p00 {x o:Int} (h:Ins p00 x o):False:=by
 induction h with
 | here h=>cases h
 | up h _ _=>cases h
theorem RowW.ptr {cs:Nat→Nat→Int} {base g c:Nat} {RBs:Nat→Nat} {w:World} (h:RowW repE 23 4 cs base (.slice (some ⟨g,0,none⟩) 4 c) ((List.range 4).map RBs) w) {a:Nat} (ha:a < 4):w.cell? ⟨g,a,none⟩=some (.pointer (some ⟨RBs a,0,none⟩)):=by
 have:=h.row.at' rfl (i:=a) (x:=RBs a) (by rcases (show a=0∨a=1∨a=2∨a=3 by omega) with rfl | rfl | rfl | rfl <;> rfl) (j:=0) (u:=ptrV (RBs a)) rfl
 simpa [repE,ptrV] using this
theorem vecD_any (col:Nat→Int) (RB:Nat) (b:Int) (K:List OpT) (w:World) (h:RepD col RB b K w):Calls Tryz.prog 19 #[ptrV RB] w fun e w'=>e=.returned (vecV (cntB K))∧Below w.heap.size w w':=by
 obtain ⟨y,s,hR,hO⟩:=h
 have hv:s.v=cntB K:=funext hO.v
 have:=repVector_any hR
 rwa [hv] at this
structure TurnT where
 b:Int
 f:Int
 o:OpT
def TurnT.cells (x:TurnT):Array Value:=#[.int .i64 x.b,.int .i64 x.f,.int .i64 x.o.t,.int .i64 x.o.b,.int .i64 x.o.n,.int .u8 x.o.k,.int .i64 x.o.nd,.int .i64 x.o.ot,.string x.o.nm,.string x.o.vl]
def turnE:Enc TurnT:=⟨fun x=>x.cells.toList,10,fun _=>rfl,fun x v hv=>by
 simp [TurnT.cells] at hv
 rcases hv with rfl | rfl | rfl | rfl | rfl | rfl | rfl | rfl | rfl | rfl <;> rfl⟩
structure TurnT.Wf (x:TurnT):Prop where
 b1:I64 x.b
 f1:I64 x.f
 o1:x.o.Wf
theorem turns_at {w:World} {A:Option Addr} {n c:Nat} {L:List TurnT} (h:SlV turnE w (.slice A n c) L) {i:Nat} {x:TurnT} (hx:L[i]?=some x) :
  ∃ b off,A=some ⟨b,off,none⟩∧∀ q u,(turnE.cells x)[q]?=some u→w.cell? ⟨b,off+i*10+q,none⟩=some u:=by
 obtain ⟨b,off,e,hb,hc⟩:=h.at' (by decide) hx
 exact ⟨b,off,e,fun q u hu=>by rw [Nat.add_assoc];exact hc q u hu⟩
def shortTurn (x:TurnT):Prop:=x.o.nm.size≤60∧x.o.vl.size≤60
def LongEnds (n:Nat) (L:List TurnT) (w:World) (e:Ending) (w':World):Prop:=∃ b,e=.returned (.bool b)∧w'=w∧(b=false→n≤60∧∀ x∈L,shortTurn x)
theorem longTurns_any (A:Option Addr) (n c:Nat) (L:List TurnT) (w:World) (hs:SlV turnE w (.slice A n c) L) (hc:n≤maxLen) :
  Calls Tryz.prog 16 #[.slice A n c] w (LongEnds n L w):=by
 have HN:=Lib.hid hs.len
 have HS:=Lib.hid hs
 have hmx:n≤9223372036854775807:=by unfold maxLen at hc;omega
 clear hs hc
 by_cases hlong:60 < n
 ·have i0:(60:Int) < (n:Int):=by omega
  go_enter Tryz.func16,Tryz.ntmps16
  go_wp2_with fail
  go_ret
  exact ⟨true,rfl,rfl,fun h=>(by cases h)⟩
 ·have i0:¬ (60:Int) < (n:Int):=by omega
  go_enter Tryz.func16,Tryz.ntmps16
  go_wp2_with fail
  go_loopw [3] (fun v3 wr=>∃ j:Nat,j≤n∧v3=.int .i64 j∧wr=w∧Hid (∀ i x,i < j→L[i]?=some x→shortTurn x)) (fun v3 _=>n - (RowKit.intOf v3).toNat)
  case atStart=>exact ⟨0,by omega,rfl,rfl,Lib.hid (fun i x h=>by omega)⟩
  case round=>
   obtain ⟨j,hj,rfl,rfl,HA⟩:=hrel
   by_cases hlt:j < n
   ·obtain ⟨x,hx⟩:∃ x,L[j]?=some x:=⟨_,List.getElem?_eq_getElem (by have:=HN.out;omega)⟩
    obtain ⟨b,off,rfl,hc⟩:=turns_at HS.out hx
    have c8:wr.cell? ⟨b,off+j*10+8,none⟩=some (.string x.o.nm):=hc 8 _ rfl
    have c9:wr.cell? ⟨b,off+j*10+9,none⟩=some (.string x.o.vl):=hc 9 _ rfl
    have HX:=Lib.hid hx
    clear hx hc
    have i1:(0:Int)≤(j:Int):=by omega
    have i2:(j:Int) < (n:Int):=by omega
    by_cases h6:60 < x.o.nm.size
    ·have k6:(60:Int) < (x.o.nm.size:Int):=by omega
     go_wp2_with fail
     go_ret
     exact ⟨true,rfl,rfl,fun h=>(by cases h)⟩
    ·have k6:¬ (60:Int) < (x.o.nm.size:Int):=by omega
     by_cases h7:60 < x.o.vl.size
     ·have k7:(60:Int) < (x.o.vl.size:Int):=by omega
      go_wp2_with fail
      go_ret
      exact ⟨true,rfl,rfl,fun h=>(by cases h)⟩
     ·have k7:¬ (60:Int) < (x.o.vl.size:Int):=by omega
      have HL:Hid (shortTurn x):=Lib.hid ⟨by omega,by omega⟩
      go_wp2_with fail
      go_roundw
      case rel=>exact ⟨j+1,by omega,by go_num,trivial,Lib.hid (fun i y h1 h2=>by
       by_cases he:i=j
       ·subst he;rw [HX.out] at h2;cases h2;exact HL.out
       ·exact HA.out i y (by omega) h2)⟩
      case measure=>simp [RowKit.intOf];omega
   ·have i2:¬ (j:Int) < (n:Int):=by omega
    go_wp2_with fail
    go_ret
    refine ⟨false,rfl,rfl,fun _=>⟨by omega,fun x hx=>?_⟩⟩
    obtain ⟨i,hi,rfl⟩:=List.getElem_of_mem hx
    exact HA.out i _ (by have:=HN.out;omega) (List.getElem?_eq_getElem hi)
def OfEnds (i:Int) (R:(Nat×Int) ⊕ List OpT) (w:World) (e:Ending) (w':World):Prop:=
 match R with
 | .inl _=>e=.returned (.pointer none)∧Below w.heap.size w w'
 | .inr G=>∃ col RB,e=.returned (ptrV RB)∧RepD col RB i (sortOps G) w'∧Below w.heap.size w w'
theorem replicaOf_any {F0:Nat→Bool} (ea:Nat→Addr) (i:Int) (l:List OpT) (A:Option Addr) (n c:Nat) (w:World) (hG:Gd F0 ea w) (f2:F0 2=true) (f3:F0 3=true) (f4:F0 4=true) (f5:F0 5=true) (f6:F0 6=true) (f7:F0 7=true) (f8:F0 8=true) (f9:F0 9=true)
  (i0:0≤i) (i4:i < 4) (hs:SlV opE w (.slice A n c) l) (hln:l.length≤90000) (hw:∀ o∈l,o.Wf) :
  Calls Tryz.prog 21 #[.int .i64 i,.slice A n c] w (OfEnds i (joinP [] l) w):=by
 have HG:=Lib.hid hG
 have HS:=Lib.hid hs
 have HL:=Lib.hid hln
 have HW:=Lib.hid hw
 have HNw:=Lib.hid (newB_any ea i w hG f2 (by constructor <;> omega))
 obtain ⟨R,hR⟩:∃ R,joinP [] l=R:=⟨_,rfl⟩
 rw [hR]
 have HR:=Lib.hid hR
 clear hG hs hln hw hR
 go_enter Tryz.func21,Tryz.ntmps21
 go_wp2_with fail
 refine HNw.out.mono ?_
 rintro e w1 hN
 obtain ⟨col,RB,rfl,hR1,hb1,hge⟩:∃ col RB,e=.returned (.tuple #[ptrV RB,.nilIface])∧RepD col RB i [] w1∧Below w.heap.size w w1∧∀ k,col k≠0→w.heap.size≤k:=by
  rcases hN with ⟨_,h⟩ | ⟨h,_⟩
  ·exact h
  ·exact absurd ⟨by omega,by omega⟩ h
 have HR1:=Lib.hid hR1
 have HB1:=Lib.hid hb1
 have HGe:=Lib.hid hge
 have HO:=Lib.hid (ownOps_any A n c l w1 (HS.out.below hb1) (by have:=HL.out;omega))
 clear hR1 hb1 hge hN HNw
 unfold ptrV
 go_wp2_with fail
 refine HO.out.mono ?_
 rintro e w2 ⟨v2,rfl,hr2,hb2⟩
 obtain ⟨A2,n2,c2,rfl⟩:=hr2.slice
 have hB2:=HB1.out.trans (hb2.mono HB1.out.size)
 have HB2:=Lib.hid hB2
 have HJ:=Lib.hid (join_any ea w col RB i [] l A2 n2 c2 w2 (HR1.out.below hb2) HG.out hB2 (fun k hk=>HGe.out k hk) f2 f3 f4 f5 f6 f7 f8 f9 DOk.nil List.Pairwise.nil (by simp) hr2.sl HL.out HW.out)
 rw [HR.out] at HJ
 unfold ptrV at HJ
 clear hr2 hb2 hB2 HO
 cases R with
 | inl p=>
  go_wp2_with fail
  refine HJ.out.mono ?_
  rintro e w3 ⟨ev,rfl,hev,hp0,hb3⟩
  obtain ⟨t,u,rfl⟩:=errVal_ne hev hp0
  have HB3:=Lib.hid (HB2.out.trans (hb3.mono HB2.out.size))
  clear hev hb3 HJ
  go_wp2_with fail
  go_ret
  exact ⟨rfl,HB3.out⟩
 | inr G=>
  go_wp2_with fail
  refine HJ.out.mono ?_
  rintro e w3 ⟨rfl,col',hR3,hgr,hF⟩
  have HR3:=Lib.hid hR3
  have HB3:=Lib.hid (HB2.out.trans (hF.below HB2.out.size (fun k hk=>HGe.out k hk)))
  clear hR3 hgr hF HJ
  go_wp2_with fail
  go_ret
  exact ⟨col',RB,rfl,HR3.out,HB3.out⟩
end Go.Proofs.YtjekalilfhnpmaaGreatDoor
namespace Go.Proofs.YtjekalilfhnpmaaGreatDoor
open Go Go.RowKit Go.Joins Go.ChangeShapes Go.WideShapes Go.Deep
set_option linter.unusedVariables false
set_option linter.unusedSimpArgs false
set_option maxHeartbeats 1000000
set_option maxRecDepth 100000
theorem open_turns {H:Type} {enc:TypeId×Value→H} {W:World} {r:Reach} {b0 base:Nat} {v:Value} {d:DataW H} {p:List MemPlace}
  (o:Value.okWide Tryz.prog W r b0 41 v) (h:DataW.Trod enc Tryz.prog W base (fun _=>true) true 41 v d p) :
  ∃ A n c L,v=.slice A n c∧L.length=n∧SlV turnE W (.slice A n c) L∧c≤maxLen∧∀ x∈L,(x.o.nm.size≤100000→x.o.vl.size≤100000→x.Wf):=
 open_rowsP turnE _ Tryz.underlying41 (by kernel_rfl) (fun fuel cs y hl ht=>by
  match cs,hl with
  | [c0,c1,c2,c3,c4,c5,c6,c7,c8,c9],_=>
   have k3:Tryz.prog.cellsOf 3=1:=by kernel_rfl
   have k8:Tryz.prog.cellsOf 31=8:=by kernel_rfl
   obtain ⟨xs,n,_,hx,_,hlen,hg⟩:=DataW.trod_struct Tryz.underlying121 ht
   have g0:DataW.trod enc Tryz.prog W base (fun _=>true) true n 3 (([c0,c1,c2,c3,c4,c5,c6,c7,c8,c9].drop 0).take (Tryz.prog.cellsOf 3))=xs[0]?:=hg 0 _ rfl
   have g1:DataW.trod enc Tryz.prog W base (fun _=>true) true n 3 (([c0,c1,c2,c3,c4,c5,c6,c7,c8,c9].drop 1).take (Tryz.prog.cellsOf 3))=xs[1]?:=hg 1 _ rfl
   have g2:DataW.trod enc Tryz.prog W base (fun _=>true) true n 31 (([c0,c1,c2,c3,c4,c5,c6,c7,c8,c9].drop 2).take (Tryz.prog.cellsOf 31))=xs[2]?:=hg 2 _ rfl
   rw [k3] at g0 g1
   rw [k8] at g2
   match xs,hlen with
   | [y0,y1,y2],_=>
    obtain ⟨z0,q0,_,w0⟩:=DataW.trod_int Tryz.underlying3 g0
    obtain ⟨z1,q1,_,w1⟩:=DataW.trod_int Tryz.underlying3 g1
    obtain ⟨x2,q2,w2⟩:=open_op_cells (c0:=c2) (c1:=c3) (c2:=c4) (c3:=c5) (c4:=c6) (c5:=c7) (c6:=c8) (c7:=c9) g2
    simp at q0 q1
    simp only [OpT.cells,List.cons.injEq,and_true] at q2
    obtain ⟨rfl,rfl,rfl,rfl,rfl,rfl,rfl,rfl⟩:=q2
    subst q0 q1
    exact ⟨⟨z0,z1,x2⟩,rfl,fun h1 h2=>⟨wf_i64 w0,wf_i64 w1,w2 h1 h2⟩⟩) o h
end Go.Proofs.YtjekalilfhnpmaaGreatDoor
namespace Go.Proofs.YtjekalilfhnpmaaGreatDoor
open Go Go.RowKit Go.Maps Go.Shelf LineOrd Tree
set_option linter.unusedVariables false
set_option linter.unusedSimpArgs false
set_option maxHeartbeats 4000000
set_option maxRecDepth 100000
structure MRep (MB:Nat) (b:Int) (A:Option Addr) (n c:Nat) (K:List OpT) (w:World):Prop where
 c0:w.cell? ⟨MB,0,none⟩=some (.int .i64 b)
 c1:w.cell? ⟨MB,1,none⟩=some (.slice A n c)
 sl:SlV opE w (.slice A n c) K
 fz:∀ j,w.frozen? ⟨MB,j,none⟩=false
theorem MRep.below {MB:Nat} {b:Int} {A:Option Addr} {n c:Nat} {K:List OpT} {w w':World} (h:MRep MB b A n c K w) (hb:Below w.heap.size w w'):MRep MB b A n c K w':=
 ⟨(hb.cell (p:=⟨MB,0,none⟩) (World.block_lt_of_cell? w _ h.c0)).trans h.c0,(hb.cell (p:=⟨MB,1,none⟩) (World.block_lt_of_cell? w _ h.c1)).trans h.c1,h.sl.below hb,fun j=>(hb.frozen (p:=⟨MB,j,none⟩) (show MB < w.heap.size from World.block_lt_of_cell? w _ h.c0)).trans (h.fz j)⟩
theorem let_iff {K:List OpT} {nd id:Int}:K.any (insB nd id)=true↔HasLet K nd id:=by
 rw [List.any_eq_true]
 exact ⟨fun ⟨o,ho,h⟩=>⟨o,ho,insB_iff.1 h⟩,fun ⟨o,ho,h⟩=>⟨o,ho,insB_iff.2 h⟩⟩
theorem moves_log {K:List OpT} (hup:Rising K):movesOf (sortOps K)=logOf K:=by
 rw [sort_self hup]
 unfold logOf movesOf
 have h2:Rising (K.filter movB):=List.Pairwise.sublist List.filter_sublist hup
 rw [sort_self h2]
 refine List.filter_congr fun o _=>?_
 unfold movB
 by_cases h:o.k=109 <;> simp [h]
set_option maxHeartbeats 20000000
theorem plc_ok {K:List OpT} (hK:DOk K) {Q:List PlT} (hQ:RepP Q (runO p00 (movesOf (sortOps K)))):∀ y∈Q,I64 y.nd∧I64 y.into∧y.nm.size≤100000:=fun y hy=>by
 have h:=(hQ.is y).1 hy
 rcases run_from _ h with h0 | ⟨o,ho,h1,h2⟩
 ·cases h0
 ·have hw:=hK.wf o (sortOps_mem.1 (List.mem_filter.1 ho).1)
  have e1:=congrArg Prod.fst h2
  have e2:=congrArg Prod.snd h2
  simp only at e1 e2
  rw [←h1,e1,e2]
  exact ⟨⟨hw.nd1,hw.nd2⟩,⟨hw.ot1,hw.ot2⟩,hw.nm1⟩
end Go.Proofs.YtjekalilfhnpmaaGreatDoor
