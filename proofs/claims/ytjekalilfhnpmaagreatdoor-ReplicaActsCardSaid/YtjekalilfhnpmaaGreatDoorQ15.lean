/- A tree's log: a move done. -/
import Derived.Great.BuildSlice
import Derived.Great.Walk
import Derived.Deep.RegionHeld3
import Derived.Test.YtjekalilfhnpmaaGreatDoorQ05
theorem Go.Proofs.YtjekalilfhnpmaaGreatDoor.κ15 {p:Prop} (h:p):Go.RowKit.Hid p:=Go.Lib.hid h
namespace Go.Proofs.YtjekalilfhnpmaaGreatDoor
open Go Go.RowKit Go.Maps Tree
set_option linter.unusedVariables false
set_option linter.unusedSimpArgs false
set_option maxHeartbeats 4000000
set_option maxRecDepth 100000
def wasP:Option PlT→PlT
 | none=>⟨0,0,⟨#[]⟩⟩
 | some y=>y
def mvO (o:OpT):Mv ByteArray:=⟨o.nd,o.ot,o.nm⟩
theorem look_pl {b n:Nat} {m:Int→Option PlT} {w:World} (hm:MT Tryz.prog 3 ekI evP b n m w) {x:Int} (hx:I64 x) (w':World) (hw:w'.heap[b]?=w.heap[b]?) :
  (Instr.lookup 151 (.map (some b)) (.int .i64 x) true).run Tryz.prog w'=.ok (.tuple #[.agg #[.int .i64 (wasP (m x)).nd,.int .i64 (wasP (m x)).into,.string (wasP (m x)).nm],.bool (m x).isSome]) w':=by
 obtain ⟨f,hf,e⟩:=hm
 obtain ⟨kl,hkl⟩:=ekI_reads hx
 have:=((hf.block (w':=w') hw).look treeK Tryz.underlying151 (zeroPl w') hkl).1
 rw [e x kl hkl] at this
 rw [show (Value.int .i64 x)=ekI x from rfl,this]
 cases m x <;> rfl
theorem Fr.setRow {X:Nat→Prop} {w w':World} (h:Fr X w w') {g:Nat} (hg:w.heap.size≤g) (cs:Array Value):Fr X w (w'.setRow g cs):=
 ⟨h.os,h.tape,h.output,by rw [setRow_size];exact h.size,fun k hk hx=>(setRow_other _ _ _ _ (by omega)).trans (h.block k hk hx)⟩
theorem plM_move {p:PlB} {o:OpT} (h:goes p (mvO o)=true):updT (plM p) o.nd (some ⟨o.nd,o.ot,o.nm⟩)=plM (Tree.move p (mvO o)):=by
 funext x
 unfold updT plM Tree.move
 rw [if_pos h]
 unfold put
 by_cases hx:x=o.nd
 ·subst hx;simp [mvO]
 ·simp [hx,mvO]
theorem move_not {p:PlB} {o:OpT} (h:goes p (mvO o)=false):Tree.move p (mvO o)=p:=by unfold Tree.move;rw [if_neg (by rw [h];simp)]
structure DoneT where
 o:OpT
 y:PlT
 is:Bool
 by':Bool
abbrev DoneT.cells (d:DoneT):Array Value:=doneCells d.o d.y d.is d.by'
def DnC (B off:Nat) (d:DoneT) (w:World):Prop:=∀ j u,d.cells[j]?=some u→w.cell? ⟨B,off+j,none⟩=some u
theorem DnC.below {B off:Nat} {d:DoneT} {w w':World} (h:DnC B off d w) (hb:Below w.heap.size w w'):DnC B off d w':=fun j u hu=>cell_keep' hb (h j u hu)
theorem DnC.fr {X:Nat→Prop} {B off:Nat} {d:DoneT} {w w':World} (h:DnC B off d w) (hF:Fr X w w') (hB:¬ X B):DnC B off d w':=fun j u hu=>(hF.cell (World.block_lt_of_cell? w _ (h j u hu)) hB).trans (h j u hu)
theorem DnC.made (w:World) (d:DoneT) (ty:TypeId):DnC w.heap.size 0 d (w.alloc (.cells d.cells ty)):=fun j u hu=>by
 simp only [World.cell?,World.alloc,Nat.zero_add]
 simp [Array.getElem?_push,hu]
theorem DnC.all {B off:Nat} {d:DoneT} {w:World} (h:DnC B off d w) :
  w.cell? ⟨B,off,none⟩=some (.int .i64 d.o.t)∧w.cell? ⟨B,off+1,none⟩=some (.int .i64 d.o.b)∧w.cell? ⟨B,off+2,none⟩=some (.int .i64 d.o.n)∧w.cell? ⟨B,off+3,none⟩=some (.int .u8 d.o.k)∧w.cell? ⟨B,off+4,none⟩=some (.int .i64 d.o.nd)∧w.cell? ⟨B,off+5,none⟩=some (.int .i64 d.o.ot)∧w.cell? ⟨B,off+6,none⟩=some (.string d.o.nm)∧w.cell? ⟨B,off+7,none⟩=some (.string d.o.vl)∧
   w.cell? ⟨B,off+8,none⟩=some (.int .i64 d.y.nd)∧w.cell? ⟨B,off+9,none⟩=some (.int .i64 d.y.into)∧w.cell? ⟨B,off+10,none⟩=some (.string d.y.nm)∧w.cell? ⟨B,off+11,none⟩=some (.bool d.is)∧w.cell? ⟨B,off+12,none⟩=some (.bool d.by'):=
 ⟨h 0 _ rfl,h 1 _ rfl,h 2 _ rfl,h 3 _ rfl,h 4 _ rfl,h 5 _ rfl,h 6 _ rfl,h 7 _ rfl,h 8 _ rfl,h 9 _ rfl,h 10 _ rfl,h 11 _ rfl,h 12 _ rfl⟩
theorem DnC.of0 {B:Nat} {d:DoneT} {w:World} (h0:w.cell? ⟨B,0,none⟩=some (.int .i64 d.o.t)) (h1:w.cell? ⟨B,1,none⟩=some (.int .i64 d.o.b)) (h2:w.cell? ⟨B,2,none⟩=some (.int .i64 d.o.n)) (h3:w.cell? ⟨B,3,none⟩=some (.int .u8 d.o.k)) (h4:w.cell? ⟨B,4,none⟩=some (.int .i64 d.o.nd)) (h5:w.cell? ⟨B,5,none⟩=some (.int .i64 d.o.ot)) (h6:w.cell? ⟨B,6,none⟩=some (.string d.o.nm)) (h7:w.cell? ⟨B,7,none⟩=some (.string d.o.vl)) (h8:w.cell? ⟨B,8,none⟩=some (.int .i64 d.y.nd)) (h9:w.cell? ⟨B,9,none⟩=some (.int .i64 d.y.into)) (h10:w.cell? ⟨B,10,none⟩=some (.string d.y.nm)) (h11:w.cell? ⟨B,11,none⟩=some (.bool d.is)) (h12:w.cell? ⟨B,12,none⟩=some (.bool d.by')):DnC B 0 d w:=fun j u hu=>by
 have hj:j < 13:=(Array.getElem?_eq_some_iff.1 hu).1
 rw [Nat.zero_add]
 match j,hj,hu with
 | 0,_,hu=>exact h0.trans hu
 | 1,_,hu=>exact h1.trans hu
 | 2,_,hu=>exact h2.trans hu
 | 3,_,hu=>exact h3.trans hu
 | 4,_,hu=>exact h4.trans hu
 | 5,_,hu=>exact h5.trans hu
 | 6,_,hu=>exact h6.trans hu
 | 7,_,hu=>exact h7.trans hu
 | 8,_,hu=>exact h8.trans hu
 | 9,_,hu=>exact h9.trans hu
 | 10,_,hu=>exact h10.trans hu
 | 11,_,hu=>exact h11.trans hu
 | 12,_,hu=>exact h12.trans hu
theorem newDone (W wA:World) (hb:Below (W.heap.size+1) (W.alloc (.cells (doneCells ⟨0,0,0,0,0,0,⟨#[]⟩,⟨#[]⟩⟩ ⟨0,0,⟨#[]⟩⟩ false false) 251)).drew wA):wA.cell? ⟨W.heap.size,0,none⟩=some (.int .i64 0)∧wA.cell? ⟨W.heap.size,1,none⟩=some (.int .i64 0)∧wA.cell? ⟨W.heap.size,2,none⟩=some (.int .i64 0)∧wA.cell? ⟨W.heap.size,3,none⟩=some (.int .u8 0)∧wA.cell? ⟨W.heap.size,4,none⟩=some (.int .i64 0)∧wA.cell? ⟨W.heap.size,5,none⟩=some (.int .i64 0)∧wA.cell? ⟨W.heap.size,6,none⟩=some (.string ⟨#[]⟩)∧wA.cell? ⟨W.heap.size,7,none⟩=some (.string ⟨#[]⟩)∧wA.cell? ⟨W.heap.size,8,none⟩=some (.int .i64 0)∧wA.cell? ⟨W.heap.size,9,none⟩=some (.int .i64 0)∧wA.cell? ⟨W.heap.size,10,none⟩=some (.string ⟨#[]⟩)∧wA.cell? ⟨W.heap.size,11,none⟩=some (.bool false)∧wA.cell? ⟨W.heap.size,12,none⟩=some (.bool false)∧wA.frozen? ⟨W.heap.size,0,none⟩=false∧wA.frozen? ⟨W.heap.size,1,none⟩=false∧wA.frozen? ⟨W.heap.size,2,none⟩=false∧wA.frozen? ⟨W.heap.size,3,none⟩=false∧wA.frozen? ⟨W.heap.size,4,none⟩=false∧wA.frozen? ⟨W.heap.size,5,none⟩=false∧wA.frozen? ⟨W.heap.size,6,none⟩=false∧wA.frozen? ⟨W.heap.size,7,none⟩=false∧wA.frozen? ⟨W.heap.size,8,none⟩=false∧wA.frozen? ⟨W.heap.size,9,none⟩=false∧wA.frozen? ⟨W.heap.size,10,none⟩=false∧wA.frozen? ⟨W.heap.size,11,none⟩=false∧wA.frozen? ⟨W.heap.size,12,none⟩=false:=by
 have g:∀ j,wA.cell? ⟨W.heap.size,j,none⟩=(W.alloc (.cells (doneCells ⟨0,0,0,0,0,0,⟨#[]⟩,⟨#[]⟩⟩ ⟨0,0,⟨#[]⟩⟩ false false) 251)).drew.cell? ⟨W.heap.size,j,none⟩:=fun j=>hb.cell (by simp)
 have f:∀ j,wA.frozen? ⟨W.heap.size,j,none⟩=(W.alloc (.cells (doneCells ⟨0,0,0,0,0,0,⟨#[]⟩,⟨#[]⟩⟩ ⟨0,0,⟨#[]⟩⟩ false false) 251)).drew.frozen? ⟨W.heap.size,j,none⟩:=fun j=>World.frozen?_of_block (hb.block _ (by simp))
 simp only [g,f]
 simp [go_sem]
theorem below13 {B:Nat} {a w:World} (h:Below B a w) (u0 u1 u2 u3 u4 u5 u6 u7 u8 u9 u10 u11 u12:Value):Below B a (((((((((((((w.setCell ⟨B,0,none⟩ u0).setCell ⟨B,1,none⟩ u1).setCell ⟨B,2,none⟩ u2).setCell ⟨B,3,none⟩ u3).setCell ⟨B,4,none⟩ u4).setCell ⟨B,5,none⟩ u5).setCell ⟨B,6,none⟩ u6).setCell ⟨B,7,none⟩ u7).setCell ⟨B,8,none⟩ u8).setCell ⟨B,9,none⟩ u9).setCell ⟨B,10,none⟩ u10).setCell ⟨B,11,none⟩ u11).setCell ⟨B,12,none⟩ u12):=
 ((((((((((((h.setCell (p:=⟨B,0,none⟩) (Nat.le_refl _) _).setCell (p:=⟨B,1,none⟩) (Nat.le_refl _) _).setCell (p:=⟨B,2,none⟩) (Nat.le_refl _) _).setCell (p:=⟨B,3,none⟩) (Nat.le_refl _) _).setCell (p:=⟨B,4,none⟩) (Nat.le_refl _) _).setCell (p:=⟨B,5,none⟩) (Nat.le_refl _) _).setCell (p:=⟨B,6,none⟩) (Nat.le_refl _) _).setCell (p:=⟨B,7,none⟩) (Nat.le_refl _) _).setCell (p:=⟨B,8,none⟩) (Nat.le_refl _) _).setCell (p:=⟨B,9,none⟩) (Nat.le_refl _) _).setCell (p:=⟨B,10,none⟩) (Nat.le_refl _) _).setCell (p:=⟨B,11,none⟩) (Nat.le_refl _) _).setCell (p:=⟨B,12,none⟩) (Nat.le_refl _) _
theorem cells13 {B:Nat} {w:World} {z0:Value} (h0:w.cell? ⟨B,0,none⟩=some z0) {z1:Value} (h1:w.cell? ⟨B,1,none⟩=some z1) {z2:Value} (h2:w.cell? ⟨B,2,none⟩=some z2) {z3:Value} (h3:w.cell? ⟨B,3,none⟩=some z3) {z4:Value} (h4:w.cell? ⟨B,4,none⟩=some z4) {z5:Value} (h5:w.cell? ⟨B,5,none⟩=some z5) {z6:Value} (h6:w.cell? ⟨B,6,none⟩=some z6) {z7:Value} (h7:w.cell? ⟨B,7,none⟩=some z7) {z8:Value} (h8:w.cell? ⟨B,8,none⟩=some z8) {z9:Value} (h9:w.cell? ⟨B,9,none⟩=some z9) {z10:Value} (h10:w.cell? ⟨B,10,none⟩=some z10) {z11:Value} (h11:w.cell? ⟨B,11,none⟩=some z11) {z12:Value} (h12:w.cell? ⟨B,12,none⟩=some z12) (u0 u1 u2 u3 u4 u5 u6 u7 u8 u9 u10 u11 u12:Value):((((((((((((((w.setCell ⟨B,0,none⟩ u0).setCell ⟨B,1,none⟩ u1).setCell ⟨B,2,none⟩ u2).setCell ⟨B,3,none⟩ u3).setCell ⟨B,4,none⟩ u4).setCell ⟨B,5,none⟩ u5).setCell ⟨B,6,none⟩ u6).setCell ⟨B,7,none⟩ u7).setCell ⟨B,8,none⟩ u8).setCell ⟨B,9,none⟩ u9).setCell ⟨B,10,none⟩ u10).setCell ⟨B,11,none⟩ u11).setCell ⟨B,12,none⟩ u12)).cell? ⟨B,0,none⟩=some u0∧((((((((((((((w.setCell ⟨B,0,none⟩ u0).setCell ⟨B,1,none⟩ u1).setCell ⟨B,2,none⟩ u2).setCell ⟨B,3,none⟩ u3).setCell ⟨B,4,none⟩ u4).setCell ⟨B,5,none⟩ u5).setCell ⟨B,6,none⟩ u6).setCell ⟨B,7,none⟩ u7).setCell ⟨B,8,none⟩ u8).setCell ⟨B,9,none⟩ u9).setCell ⟨B,10,none⟩ u10).setCell ⟨B,11,none⟩ u11).setCell ⟨B,12,none⟩ u12)).cell? ⟨B,1,none⟩=some u1∧((((((((((((((w.setCell ⟨B,0,none⟩ u0).setCell ⟨B,1,none⟩ u1).setCell ⟨B,2,none⟩ u2).setCell ⟨B,3,none⟩ u3).setCell ⟨B,4,none⟩ u4).setCell ⟨B,5,none⟩ u5).setCell ⟨B,6,none⟩ u6).setCell ⟨B,7,none⟩ u7).setCell ⟨B,8,none⟩ u8).setCell ⟨B,9,none⟩ u9).setCell ⟨B,10,none⟩ u10).setCell ⟨B,11,none⟩ u11).setCell ⟨B,12,none⟩ u12)).cell? ⟨B,2,none⟩=some u2∧((((((((((((((w.setCell ⟨B,0,none⟩ u0).setCell ⟨B,1,none⟩ u1).setCell ⟨B,2,none⟩ u2).setCell ⟨B,3,none⟩ u3).setCell ⟨B,4,none⟩ u4).setCell ⟨B,5,none⟩ u5).setCell ⟨B,6,none⟩ u6).setCell ⟨B,7,none⟩ u7).setCell ⟨B,8,none⟩ u8).setCell ⟨B,9,none⟩ u9).setCell ⟨B,10,none⟩ u10).setCell ⟨B,11,none⟩ u11).setCell ⟨B,12,none⟩ u12)).cell? ⟨B,3,none⟩=some u3∧((((((((((((((w.setCell ⟨B,0,none⟩ u0).setCell ⟨B,1,none⟩ u1).setCell ⟨B,2,none⟩ u2).setCell ⟨B,3,none⟩ u3).setCell ⟨B,4,none⟩ u4).setCell ⟨B,5,none⟩ u5).setCell ⟨B,6,none⟩ u6).setCell ⟨B,7,none⟩ u7).setCell ⟨B,8,none⟩ u8).setCell ⟨B,9,none⟩ u9).setCell ⟨B,10,none⟩ u10).setCell ⟨B,11,none⟩ u11).setCell ⟨B,12,none⟩ u12)).cell? ⟨B,4,none⟩=some u4∧((((((((((((((w.setCell ⟨B,0,none⟩ u0).setCell ⟨B,1,none⟩ u1).setCell ⟨B,2,none⟩ u2).setCell ⟨B,3,none⟩ u3).setCell ⟨B,4,none⟩ u4).setCell ⟨B,5,none⟩ u5).setCell ⟨B,6,none⟩ u6).setCell ⟨B,7,none⟩ u7).setCell ⟨B,8,none⟩ u8).setCell ⟨B,9,none⟩ u9).setCell ⟨B,10,none⟩ u10).setCell ⟨B,11,none⟩ u11).setCell ⟨B,12,none⟩ u12)).cell? ⟨B,5,none⟩=some u5∧((((((((((((((w.setCell ⟨B,0,none⟩ u0).setCell ⟨B,1,none⟩ u1).setCell ⟨B,2,none⟩ u2).setCell ⟨B,3,none⟩ u3).setCell ⟨B,4,none⟩ u4).setCell ⟨B,5,none⟩ u5).setCell ⟨B,6,none⟩ u6).setCell ⟨B,7,none⟩ u7).setCell ⟨B,8,none⟩ u8).setCell ⟨B,9,none⟩ u9).setCell ⟨B,10,none⟩ u10).setCell ⟨B,11,none⟩ u11).setCell ⟨B,12,none⟩ u12)).cell? ⟨B,6,none⟩=some u6∧((((((((((((((w.setCell ⟨B,0,none⟩ u0).setCell ⟨B,1,none⟩ u1).setCell ⟨B,2,none⟩ u2).setCell ⟨B,3,none⟩ u3).setCell ⟨B,4,none⟩ u4).setCell ⟨B,5,none⟩ u5).setCell ⟨B,6,none⟩ u6).setCell ⟨B,7,none⟩ u7).setCell ⟨B,8,none⟩ u8).setCell ⟨B,9,none⟩ u9).setCell ⟨B,10,none⟩ u10).setCell ⟨B,11,none⟩ u11).setCell ⟨B,12,none⟩ u12)).cell? ⟨B,7,none⟩=some u7∧((((((((((((((w.setCell ⟨B,0,none⟩ u0).setCell ⟨B,1,none⟩ u1).setCell ⟨B,2,none⟩ u2).setCell ⟨B,3,none⟩ u3).setCell ⟨B,4,none⟩ u4).setCell ⟨B,5,none⟩ u5).setCell ⟨B,6,none⟩ u6).setCell ⟨B,7,none⟩ u7).setCell ⟨B,8,none⟩ u8).setCell ⟨B,9,none⟩ u9).setCell ⟨B,10,none⟩ u10).setCell ⟨B,11,none⟩ u11).setCell ⟨B,12,none⟩ u12)).cell? ⟨B,8,none⟩=some u8∧((((((((((((((w.setCell ⟨B,0,none⟩ u0).setCell ⟨B,1,none⟩ u1).setCell ⟨B,2,none⟩ u2).setCell ⟨B,3,none⟩ u3).setCell ⟨B,4,none⟩ u4).setCell ⟨B,5,none⟩ u5).setCell ⟨B,6,none⟩ u6).setCell ⟨B,7,none⟩ u7).setCell ⟨B,8,none⟩ u8).setCell ⟨B,9,none⟩ u9).setCell ⟨B,10,none⟩ u10).setCell ⟨B,11,none⟩ u11).setCell ⟨B,12,none⟩ u12)).cell? ⟨B,9,none⟩=some u9∧((((((((((((((w.setCell ⟨B,0,none⟩ u0).setCell ⟨B,1,none⟩ u1).setCell ⟨B,2,none⟩ u2).setCell ⟨B,3,none⟩ u3).setCell ⟨B,4,none⟩ u4).setCell ⟨B,5,none⟩ u5).setCell ⟨B,6,none⟩ u6).setCell ⟨B,7,none⟩ u7).setCell ⟨B,8,none⟩ u8).setCell ⟨B,9,none⟩ u9).setCell ⟨B,10,none⟩ u10).setCell ⟨B,11,none⟩ u11).setCell ⟨B,12,none⟩ u12)).cell? ⟨B,10,none⟩=some u10∧((((((((((((((w.setCell ⟨B,0,none⟩ u0).setCell ⟨B,1,none⟩ u1).setCell ⟨B,2,none⟩ u2).setCell ⟨B,3,none⟩ u3).setCell ⟨B,4,none⟩ u4).setCell ⟨B,5,none⟩ u5).setCell ⟨B,6,none⟩ u6).setCell ⟨B,7,none⟩ u7).setCell ⟨B,8,none⟩ u8).setCell ⟨B,9,none⟩ u9).setCell ⟨B,10,none⟩ u10).setCell ⟨B,11,none⟩ u11).setCell ⟨B,12,none⟩ u12)).cell? ⟨B,11,none⟩=some u11∧((((((((((((((w.setCell ⟨B,0,none⟩ u0).setCell ⟨B,1,none⟩ u1).setCell ⟨B,2,none⟩ u2).setCell ⟨B,3,none⟩ u3).setCell ⟨B,4,none⟩ u4).setCell ⟨B,5,none⟩ u5).setCell ⟨B,6,none⟩ u6).setCell ⟨B,7,none⟩ u7).setCell ⟨B,8,none⟩ u8).setCell ⟨B,9,none⟩ u9).setCell ⟨B,10,none⟩ u10).setCell ⟨B,11,none⟩ u11).setCell ⟨B,12,none⟩ u12)).cell? ⟨B,12,none⟩=some u12:=by
 refine ⟨?_,?_,?_,?_,?_,?_,?_,?_,?_,?_,?_,?_,?_⟩ <;> simp [go_sem,h0,h1,h2,h3,h4,h5,h6,h7,h8,h9,h10,h11,h12]
structure DoSt (w:World) (TB b n OB PA D:Nat) (p:PlB) (o:OpT) (y:PlT) (w':World):Prop where
 o0:w'.cell? ⟨OB,0,none⟩=some (.int .i64 o.t)
 o1:w'.cell? ⟨OB,1,none⟩=some (.int .i64 o.b)
 o2:w'.cell? ⟨OB,2,none⟩=some (.int .i64 o.n)
 o3:w'.cell? ⟨OB,3,none⟩=some (.int .u8 o.k)
 o4:w'.cell? ⟨OB,4,none⟩=some (.int .i64 o.nd)
 o5:w'.cell? ⟨OB,5,none⟩=some (.int .i64 o.ot)
 o6:w'.cell? ⟨OB,6,none⟩=some (.string o.nm)
 o7:w'.cell? ⟨OB,7,none⟩=some (.string o.vl)
 y0:w'.cell? ⟨PA,0,none⟩=some (.int .i64 y.nd)
 y1:w'.cell? ⟨PA,1,none⟩=some (.int .i64 y.into)
 y2:w'.cell? ⟨PA,2,none⟩=some (.string y.nm)
 q0:w'.cell? ⟨TB,0,none⟩=some (.map (some b))
 mp:MP b n p w'
 bl:Below w.heap.size w w'
 rw':w'.heap[D]?=some (.cells (doneCells ⟨0,0,0,0,0,0,⟨#[]⟩,⟨#[]⟩⟩ ⟨0,0,⟨#[]⟩⟩ false false) 251 (0,0))
theorem DoSt.below {w:World} {TB b n OB PA D:Nat} {p:PlB} {o:OpT} {y:PlT} {w' w'':World} (h:DoSt w TB b n OB PA D p o y w') (hb:Below w'.heap.size w' w''):DoSt w TB b n OB PA D p o y w'':=
 ⟨cell_keep' hb h.o0,cell_keep' hb h.o1,cell_keep' hb h.o2,cell_keep' hb h.o3,cell_keep' hb h.o4,cell_keep' hb h.o5,cell_keep' hb h.o6,cell_keep' hb h.o7,cell_keep' hb h.y0,cell_keep' hb h.y1,cell_keep' hb h.y2,cell_keep' hb h.q0,h.mp.below hb,h.bl.trans (hb.mono h.bl.size),(hb.block _ (Array.getElem?_eq_some_iff.1 h.rw').1).trans h.rw'⟩
theorem DoSt.all {w:World} {TB b n OB PA D:Nat} {p:PlB} {o:OpT} {y:PlT} {w':World} (h:DoSt w TB b n OB PA D p o y w') :
  w'.cell? ⟨OB,0,none⟩=some (.int .i64 o.t)∧w'.cell? ⟨OB,1,none⟩=some (.int .i64 o.b)∧w'.cell? ⟨OB,2,none⟩=some (.int .i64 o.n)∧w'.cell? ⟨OB,3,none⟩=some (.int .u8 o.k)∧w'.cell? ⟨OB,4,none⟩=some (.int .i64 o.nd)∧w'.cell? ⟨OB,5,none⟩=some (.int .i64 o.ot)∧w'.cell? ⟨OB,6,none⟩=some (.string o.nm)∧w'.cell? ⟨OB,7,none⟩=some (.string o.vl)∧
   w'.cell? ⟨PA,0,none⟩=some (.int .i64 y.nd)∧w'.cell? ⟨PA,1,none⟩=some (.int .i64 y.into)∧w'.cell? ⟨PA,2,none⟩=some (.string y.nm)∧DoSt w TB b n OB PA D p o y w':=
 ⟨h.o0,h.o1,h.o2,h.o3,h.o4,h.o5,h.o6,h.o7,h.y0,h.y1,h.y2,h⟩
theorem DoSt.keep {w:World} {TB b n OB PA D:Nat} {p:PlB} {o:OpT} {y:PlT} {w' w'':World} (hb:Below w'.heap.size w' w'') (h:w'.cell? ⟨OB,0,none⟩=some (.int .i64 o.t)∧w'.cell? ⟨OB,1,none⟩=some (.int .i64 o.b)∧w'.cell? ⟨OB,2,none⟩=some (.int .i64 o.n)∧w'.cell? ⟨OB,3,none⟩=some (.int .u8 o.k)∧w'.cell? ⟨OB,4,none⟩=some (.int .i64 o.nd)∧w'.cell? ⟨OB,5,none⟩=some (.int .i64 o.ot)∧w'.cell? ⟨OB,6,none⟩=some (.string o.nm)∧w'.cell? ⟨OB,7,none⟩=some (.string o.vl)∧w'.cell? ⟨PA,0,none⟩=some (.int .i64 y.nd)∧w'.cell? ⟨PA,1,none⟩=some (.int .i64 y.into)∧w'.cell? ⟨PA,2,none⟩=some (.string y.nm)∧DoSt w TB b n OB PA D p o y w') :
   w''.cell? ⟨OB,0,none⟩=some (.int .i64 o.t)∧w''.cell? ⟨OB,1,none⟩=some (.int .i64 o.b)∧w''.cell? ⟨OB,2,none⟩=some (.int .i64 o.n)∧w''.cell? ⟨OB,3,none⟩=some (.int .u8 o.k)∧w''.cell? ⟨OB,4,none⟩=some (.int .i64 o.nd)∧w''.cell? ⟨OB,5,none⟩=some (.int .i64 o.ot)∧w''.cell? ⟨OB,6,none⟩=some (.string o.nm)∧w''.cell? ⟨OB,7,none⟩=some (.string o.vl)∧w''.cell? ⟨PA,0,none⟩=some (.int .i64 y.nd)∧w''.cell? ⟨PA,1,none⟩=some (.int .i64 y.into)∧w''.cell? ⟨PA,2,none⟩=some (.string y.nm)∧DoSt w TB b n OB PA D p o y w'':=(h.2.2.2.2.2.2.2.2.2.2.2.below hb).all
theorem DoSt.of {w:World} {TB b n OB PA D:Nat} {p:PlB} {o:OpT} {y:PlT} {w':World} (h:w'.cell? ⟨OB,0,none⟩=some (.int .i64 o.t)∧w'.cell? ⟨OB,1,none⟩=some (.int .i64 o.b)∧w'.cell? ⟨OB,2,none⟩=some (.int .i64 o.n)∧w'.cell? ⟨OB,3,none⟩=some (.int .u8 o.k)∧w'.cell? ⟨OB,4,none⟩=some (.int .i64 o.nd)∧w'.cell? ⟨OB,5,none⟩=some (.int .i64 o.ot)∧w'.cell? ⟨OB,6,none⟩=some (.string o.nm)∧w'.cell? ⟨OB,7,none⟩=some (.string o.vl)∧w'.cell? ⟨PA,0,none⟩=some (.int .i64 y.nd)∧w'.cell? ⟨PA,1,none⟩=some (.int .i64 y.into)∧w'.cell? ⟨PA,2,none⟩=some (.string y.nm)∧DoSt w TB b n OB PA D p o y w'):DoSt w TB b n OB PA D p o y w':=h.2.2.2.2.2.2.2.2.2.2.2
open Classical in
theorem do_any (TB b n:Nat) (p:PlB) (o:OpT) (w:World) (hp:w.cell? ⟨TB,0,none⟩=some (.map (some b))) (hm:MP b n p w) (hok:PlOk p) (hnd:I64 o.nd) (hot:I64 o.ot) (hn:n < maxLen) :
  Calls Tryz.prog 159 #[.pointer (some ⟨TB,0,none⟩),opV o] w fun e w'=>
   e=.returned (.agg (doneCells o (wasP (plM p o.nd)) (plM p o.nd).isSome (goes p (mvO o))))∧MP b (n+1) (Tree.move p (mvO o)) w'∧Fr (·=b) w w':=by
 obtain ⟨W,hW⟩:∃ W,W=(w.alloc (.cells o.cells 31)).alloc (.cells (doneCells ⟨0,0,0,0,0,0,⟨#[]⟩,⟨#[]⟩⟩ ⟨0,0,⟨#[]⟩⟩ false false) 251):=⟨_,rfl⟩
 have hbw:Below w.heap.size w W:=by rw [hW];exact ((Below.refl _ w).alloc (Nat.le_refl _) _).alloc (by simp) _
 have hmW:MP b n p W:=hm.below hbw
 have p0:=cell_keep' hbw hp
 have HO:Hid (W.cell? ⟨w.heap.size,0,none⟩=some (.int .i64 o.t)∧W.cell? ⟨w.heap.size,1,none⟩=some (.int .i64 o.b)∧W.cell? ⟨w.heap.size,2,none⟩=some (.int .i64 o.n)∧W.cell? ⟨w.heap.size,3,none⟩=some (.int .u8 o.k)∧W.cell? ⟨w.heap.size,4,none⟩=some (.int .i64 o.nd)∧W.cell? ⟨w.heap.size,5,none⟩=some (.int .i64 o.ot)∧W.cell? ⟨w.heap.size,6,none⟩=some (.string o.nm)∧W.cell? ⟨w.heap.size,7,none⟩=some (.string o.vl)):=κ15 (by
  rw [hW]
  exact ⟨by simp [go_sem],by simp [go_sem],by simp [go_sem],by simp [go_sem],by simp [go_sem],by simp [go_sem],by simp [go_sem],by simp [go_sem]⟩)
 have hlt:w.heap.size+1 < W.heap.size:=by rw [hW];simp
 have hrw:W.heap[w.heap.size+1]?=some (.cells (doneCells ⟨0,0,0,0,0,0,⟨#[]⟩,⟨#[]⟩⟩ ⟨0,0,⟨#[]⟩⟩ false false) 251 (0,0)):=by rw [hW];exact (Array.getElem?_push_size (xs:=(w.alloc (.cells o.cells 31)).heap))▸(by simp;rfl)
 obtain ⟨y,hy⟩:∃ y,y=wasP (plM p o.nd):=⟨_,rfl⟩
 obtain ⟨is,his⟩:∃ is,is=(plM p o.nd).isSome:=⟨_,rfl⟩
 have hL:∀ w',w'.heap[b]?=W.heap[b]?→(Instr.lookup 151 (.map (some b)) (.int .i64 o.nd) true).run Tryz.prog w'=.ok (.tuple #[.agg #[.int .i64 y.nd,.int .i64 y.into,.string y.nm],.bool is]) w':=fun w' h=>by rw [hy,his];exact look_pl hmW hnd w' h
 obtain ⟨g,hg⟩:∃ g,g=goes p (mvO o):=⟨_,rfl⟩
 obtain ⟨M2,hM2⟩:∃ M2,M2=Tree.move p (mvO o):=⟨_,rfl⟩
 rw [←hy,←his,←hg,←hM2]
 have HG:=κ15 hg
 have HM2:=κ15 hM2
 clear hg hM2
 have HB:=κ15 hbw
 have HM:=κ15 hmW
 have HK:=κ15 (ekI_reads hnd)
 have HBl:Hid (b < w.heap.size):=κ15 hm.lt
 have HI:Hid (∀ w',w'.cell? ⟨TB,0,none⟩=some (.map (some b))→MP b n p w'→Calls Tryz.prog 83 #[.pointer (some ⟨TB,0,none⟩),.int .i64 o.ot,.int .i64 o.nd] w' fun e w''=>e=.returned (.bool (decide (Ins p o.ot o.nd)))∧Below w'.heap.size w' w''):=κ15 fun w' h1 h2=>inside_any TB b n p o.ot o.nd w' h1 h2 hok hot
 have hbl:b < W.heap.size:=hmW.lt
 have hz:(zeroValue 251).run Tryz.prog (w.alloc (.cells o.cells 31))=.ok (.agg (doneCells ⟨0,0,0,0,0,0,⟨#[]⟩,⟨#[]⟩⟩ ⟨0,0,⟨#[]⟩⟩ false false)) (w.alloc (.cells o.cells 31)):=by kernel_rfl
 have l1:=hL W.drew rfl
 have l2:=hL (W.alloc (.cells #[.int .i64 0,.int .i64 0,.string ⟨#[]⟩] 81)).drew (Below.heap_alloc _ _ b hbl)
 have hb2:Below W.heap.size W (W.alloc (.cells #[.int .i64 0,.int .i64 0,.string ⟨#[]⟩] 81)):=(Below.refl _ _).alloc (Nat.le_refl _) _
 have p1:=cell_keep' hb2 p0
 have c1:=HO.out.2.2.2.2.1
 have c2:=cell_keep' hb2 c1
 clear hL hbw hmW hp hm hnd hot hok hy his hbl hb2
 go_enter Tryz.func159,Tryz.ntmps159
 go_upto_region 1 with fail
 rw [←hW]
 clear hW
 go_cut [5,6] (fun v5 v6 wc=>∃ PA:Nat,v5=.pointer (some ⟨PA,0,none⟩)∧v6=.bool is∧Hid (DoSt w TB b n w.heap.size PA (w.heap.size+1) p o y wc))
 case first=>
  go_region
  all_goals
   have hb2:Below W.heap.size W (W.alloc (.cells #[.int .i64 y.nd,.int .i64 y.into,.string y.nm] 81)).drew:=((Below.refl _ _).alloc (Nat.le_refl _) _).drew
   obtain ⟨o0,o1,o2,o3,o4,o5,o6,o7⟩:=HO.out
   have HD:Hid (DoSt w TB b n w.heap.size W.heap.size (w.heap.size+1) p o y (W.alloc (.cells #[.int .i64 y.nd,.int .i64 y.into,.string y.nm] 81)).drew):=Lib.hid
    ⟨cell_keep' hb2 o0,cell_keep' hb2 o1,cell_keep' hb2 o2,cell_keep' hb2 o3,cell_keep' hb2 o4,cell_keep' hb2 o5,cell_keep' hb2 o6,cell_keep' hb2 o7,by simp [go_sem],by simp [go_sem],by simp [go_sem],cell_keep' hb2 p0,HM.out.below hb2,HB.out.trans (hb2.mono HB.out.size),(hb2.block _ hlt).trans hrw⟩
   clear hb2 c1 c2 p0 p1 l1 l2 hz o0 o1 o2 o3 o4 o5 o6 o7 hrw hlt HO HM HB HI HK
   go_wp2_with fail
   go_meet
   case rel=>exact ⟨_,rfl,rfl,HD⟩
 case rest=>
  obtain ⟨PA,rfl,rfl,HD⟩:=hcut
  obtain ⟨W2,rfl⟩:∃ W2,W2=wc:=⟨_,rfl⟩
  clear c1 c2 p0 p1 l1 l2 hz hrw hlt HO HM HB
  have HK0:Hid (W2.drew.cell? ⟨w.heap.size,0,none⟩=some (.int .i64 o.t)∧W2.drew.cell? ⟨w.heap.size,1,none⟩=some (.int .i64 o.b)∧W2.drew.cell? ⟨w.heap.size,2,none⟩=some (.int .i64 o.n)∧W2.drew.cell? ⟨w.heap.size,3,none⟩=some (.int .u8 o.k)∧W2.drew.cell? ⟨w.heap.size,4,none⟩=some (.int .i64 o.nd)∧W2.drew.cell? ⟨w.heap.size,5,none⟩=some (.int .i64 o.ot)∧W2.drew.cell? ⟨w.heap.size,6,none⟩=some (.string o.nm)∧W2.drew.cell? ⟨w.heap.size,7,none⟩=some (.string o.vl)∧
   W2.drew.cell? ⟨PA,0,none⟩=some (.int .i64 y.nd)∧W2.drew.cell? ⟨PA,1,none⟩=some (.int .i64 y.into)∧W2.drew.cell? ⟨PA,2,none⟩=some (.string y.nm)∧DoSt w TB b n w.heap.size PA (w.heap.size+1) p o y W2.drew):=κ15 (HD.out.below (Below.refl _ _).drew).all
  go_upto_region 2 with fail
  go_cut [7] (fun v7 wc=>∃ DB:Nat,v7=.pointer (some ⟨DB,0,none⟩)∧Hid (w.heap.size≤DB)∧Hid (DoSt w TB b n w.heap.size PA (w.heap.size+1) p o y wc)∧Hid (DnC DB 0 ⟨o,y,is,g⟩ wc))
  case first=>
   by_cases he:o.nd=o.ot
   ·have hb:(o.nd == o.ot)=true:=by simp [he]
    have bb:(!(o.nd == o.ot))=false:=by simp [he]
    obtain rfl:g=false:=HG.out.trans (by simp [goes,mvO,he])
    have hd0:=HD.out
    have hd1:=HD.out.below (w'':=W2.alloc (.cells (doneCells ⟨0,0,0,0,0,0,⟨#[]⟩,⟨#[]⟩⟩ ⟨0,0,⟨#[]⟩⟩ false false) 251)) ((Below.refl _ _).alloc (Nat.le_refl _) _)
    have o0:=hd0.o0
    have o1:=hd0.o1
    have o2:=hd0.o2
    have o3:=hd0.o3
    have o4:=hd0.o4
    have o5:=hd0.o5
    have o6:=hd0.o6
    have o7:=hd0.o7
    have y0:=hd0.y0
    have y1:=hd0.y1
    have y2:=hd0.y2
    have o0':=hd1.o0
    have o1':=hd1.o1
    have o2':=hd1.o2
    have o3':=hd1.o3
    have o4':=hd1.o4
    have o5':=hd1.o5
    have o6':=hd1.o6
    have o7':=hd1.o7
    have y0':=hd1.y0
    have y1':=hd1.y1
    have y2':=hd1.y2
    simp only [doneCells] at o0' o1' o2' o3' o4' o5' o6' o7' y0' y1' y2'
    have HZ:=κ15 hd0
    clear hd0 hd1 HK0
    go_wp2_with fail
    go_region
    all_goals
     have e13:doneCells o y is false=#[.int .i64 o.t,.int .i64 o.b,.int .i64 o.n,.int .u8 o.k,.int .i64 o.ot,.int .i64 o.ot,.string o.nm,.string o.vl,.int .i64 y.nd,.int .i64 y.into,.string y.nm,.bool is,.bool false]:=by simp only [doneCells,he]
     have HNw:Hid (DnC W2.heap.size 0 ⟨o,y,is,false⟩ (W2.alloc (.cells (doneCells o y is false) 251)).drew):=κ15 ((DnC.made W2 ⟨o,y,is,false⟩ 251).below (Below.refl _ _).drew)
     have HDw:=κ15 (HZ.out.below (((Below.refl _ _).alloc (Nat.le_refl _) (.cells (doneCells o y is false) 251)).drew))
     rw [e13] at HNw HDw
     have hs:=κ15 HZ.out.bl.size
     clear o0 o1 o2 o3 o4 o5 o6 o7 y0 y1 y2 o0' o1' o2' o3' o4' o5' o6' o7' y0' y1' y2' hb bb e13 HI
     go_wp2_with fail
     go_meet
     case rel=>exact ⟨_,rfl,κ15 (by have:=hs.out;omega),HDw,HNw⟩
   ·have hb:(o.nd == o.ot)=false:=by simp [he]
    have bb:(!(o.nd == o.ot))=true:=by simp [he]
    have bn:(o.nd != o.ot)=true:=by simp [he]
    obtain ⟨R,hR⟩:∃ R,R=decide (Ins p o.ot o.nd):=⟨_,rfl⟩
    rw [←hR] at HI
    have HG2:Hid (g=!R):=κ15 (by rw [HG.out,hR];simp [goes,mvO,he])
    clear hR
    cases R with
    | true=>
     obtain rfl:g=false:=HG2.out
     go_wp2_with fail
     go_region_held3 (fun w'=>w'.cell? ⟨w.heap.size,0,none⟩=some (.int .i64 o.t)∧w'.cell? ⟨w.heap.size,1,none⟩=some (.int .i64 o.b)∧w'.cell? ⟨w.heap.size,2,none⟩=some (.int .i64 o.n)∧w'.cell? ⟨w.heap.size,3,none⟩=some (.int .u8 o.k)∧w'.cell? ⟨w.heap.size,4,none⟩=some (.int .i64 o.nd)∧w'.cell? ⟨w.heap.size,5,none⟩=some (.int .i64 o.ot)∧w'.cell? ⟨w.heap.size,6,none⟩=some (.string o.nm)∧w'.cell? ⟨w.heap.size,7,none⟩=some (.string o.vl)∧
        w'.cell? ⟨PA,0,none⟩=some (.int .i64 y.nd)∧w'.cell? ⟨PA,1,none⟩=some (.int .i64 y.into)∧w'.cell? ⟨PA,2,none⟩=some (.string y.nm)∧DoSt w TB b n w.heap.size PA (w.heap.size+1) p o y w')
      (first | (with_reducible exact hDA.all) | (with_reducible exact (DoSt.below hDA ((Below.refl _ _).alloc (Nat.le_refl _) _)).all) | (with_reducible exact HK0.out) | (with_reducible exact (HD.out.below ((Below.refl _ _).alloc (Nat.le_refl _) _).drew).all) | (with_reducible exact DoSt.keep (by assumption) (by assumption)) | (with_reducible exact (HD.out.below (below13 hB2A.out _ _ _ _ _ _ _ _ _ _ _ _ _)).all))
      (first
       | (go_at_call 83;refine (HI.out _ (DoSt.of (by assumption)).q0 (DoSt.of (by assumption)).mp).mono ?_;rintro e wA ⟨rfl,hbA⟩;obtain ⟨z0,z1,z2,z3,z4,z5,z6,z7,z8,z9,z10,z11,z12,f0,f1,f2,f3,f4,f5,f6,f7,f8,f9,f10,f11,f12⟩:=newDone W2 wA (by simpa using hbA);have hB2A:Hid (Below W2.heap.size W2 wA):=κ15 ((((Below.refl _ _).alloc (Nat.le_refl _) _).drew).trans (hbA.mono (by simp)));have hDA:=HD.out.below hB2A.out)
       | (go_at_call 83;refine (HI.out _ (DoSt.of (by assumption)).q0 (DoSt.of (by assumption)).mp).mono ?_;rintro e wA ⟨rfl,hbA⟩;have hDA:=DoSt.below (DoSt.of (by assumption)) hbA))
     ·have hs:=κ15 hDA.bl.size
      have HNw:=κ15 (DnC.made wA ⟨o,y,is,false⟩ 251)
      have HDw:=κ15 (DoSt.below hDA ((Below.refl _ _).alloc (Nat.le_refl _) (.cells (doneCells o y is false) 251)))
      rename_i hH
      clear hH hDA hbA HK0 HI HD hb bb bn he
      go_wp2_with fail
      go_meet
      case rel=>exact ⟨_,rfl,κ15 (by have:=hs.out;omega),HDw,HNw⟩
     ·have hs:=κ15 HD.out.bl.size
      obtain ⟨e0,e1,e2,e3,e4,e5,e6,e7,e8,e9,e10,e11,e12⟩:=cells13 z0 z1 z2 z3 z4 z5 z6 z7 z8 z9 z10 z11 z12 (.int .i64 o.t) (.int .i64 o.b) (.int .i64 o.n) (.int .u8 o.k) (.int .i64 o.nd) (.int .i64 o.ot) (.string o.nm) (.string o.vl) (.int .i64 y.nd) (.int .i64 y.into) (.string y.nm) (.bool is) (.bool false)
      have HNw:=κ15 (DnC.of0 (d:=⟨o,y,is,false⟩) e0 e1 e2 e3 e4 e5 e6 e7 e8 e9 e10 e11 e12)
      clear e0 e1 e2 e3 e4 e5 e6 e7 e8 e9 e10 e11 e12 z0 z1 z2 z3 z4 z5 z6 z7 z8 z9 z10 z11 z12 f0 f1 f2 f3 f4 f5 f6 f7 f8 f9 f10 f11 f12
      rename_i hH
      have HDw:=κ15 (DoSt.of hH)
      clear hH hDA hbA HK0 HI HD hb bb bn he hB2A
      go_wp2_with fail
      go_meet
      case rel=>exact ⟨_,rfl,κ15 (by have:=hs.out;omega),HDw,HNw⟩
    | false=>
     obtain rfl:g=true:=HG2.out
     go_wp2_with fail
     go_region_held3 (fun w'=>w'.cell? ⟨w.heap.size,0,none⟩=some (.int .i64 o.t)∧w'.cell? ⟨w.heap.size,1,none⟩=some (.int .i64 o.b)∧w'.cell? ⟨w.heap.size,2,none⟩=some (.int .i64 o.n)∧w'.cell? ⟨w.heap.size,3,none⟩=some (.int .u8 o.k)∧w'.cell? ⟨w.heap.size,4,none⟩=some (.int .i64 o.nd)∧w'.cell? ⟨w.heap.size,5,none⟩=some (.int .i64 o.ot)∧w'.cell? ⟨w.heap.size,6,none⟩=some (.string o.nm)∧w'.cell? ⟨w.heap.size,7,none⟩=some (.string o.vl)∧
        w'.cell? ⟨PA,0,none⟩=some (.int .i64 y.nd)∧w'.cell? ⟨PA,1,none⟩=some (.int .i64 y.into)∧w'.cell? ⟨PA,2,none⟩=some (.string y.nm)∧DoSt w TB b n w.heap.size PA (w.heap.size+1) p o y w')
      (first | (with_reducible exact hDA.all) | (with_reducible exact (DoSt.below hDA ((Below.refl _ _).alloc (Nat.le_refl _) _)).all) | (with_reducible exact HK0.out) | (with_reducible exact (HD.out.below ((Below.refl _ _).alloc (Nat.le_refl _) _).drew).all) | (with_reducible exact DoSt.keep (by assumption) (by assumption)) | (with_reducible exact (HD.out.below (below13 hB2A.out _ _ _ _ _ _ _ _ _ _ _ _ _)).all))
      (first
       | (go_at_call 83;refine (HI.out _ (DoSt.of (by assumption)).q0 (DoSt.of (by assumption)).mp).mono ?_;rintro e wA ⟨rfl,hbA⟩;obtain ⟨z0,z1,z2,z3,z4,z5,z6,z7,z8,z9,z10,z11,z12,f0,f1,f2,f3,f4,f5,f6,f7,f8,f9,f10,f11,f12⟩:=newDone W2 wA (by simpa using hbA);have hB2A:Hid (Below W2.heap.size W2 wA):=κ15 ((((Below.refl _ _).alloc (Nat.le_refl _) _).drew).trans (hbA.mono (by simp)));have hDA:=HD.out.below hB2A.out)
       | (go_at_call 83;refine (HI.out _ (DoSt.of (by assumption)).q0 (DoSt.of (by assumption)).mp).mono ?_;rintro e wA ⟨rfl,hbA⟩;have hDA:=DoSt.below (DoSt.of (by assumption)) hbA))
     ·have hs:=κ15 hDA.bl.size
      have HNw:=κ15 (DnC.made wA ⟨o,y,is,true⟩ 251)
      have HDw:=κ15 (DoSt.below hDA ((Below.refl _ _).alloc (Nat.le_refl _) (.cells (doneCells o y is true) 251)))
      rename_i hH
      clear hH hDA hbA HK0 HI HD hb bb bn he
      go_wp2_with fail
      go_meet
      case rel=>exact ⟨_,rfl,κ15 (by have:=hs.out;omega),HDw,HNw⟩
     ·have hs:=κ15 HD.out.bl.size
      obtain ⟨e0,e1,e2,e3,e4,e5,e6,e7,e8,e9,e10,e11,e12⟩:=cells13 z0 z1 z2 z3 z4 z5 z6 z7 z8 z9 z10 z11 z12 (.int .i64 o.t) (.int .i64 o.b) (.int .i64 o.n) (.int .u8 o.k) (.int .i64 o.nd) (.int .i64 o.ot) (.string o.nm) (.string o.vl) (.int .i64 y.nd) (.int .i64 y.into) (.string y.nm) (.bool is) (.bool true)
      have HNw:=κ15 (DnC.of0 (d:=⟨o,y,is,true⟩) e0 e1 e2 e3 e4 e5 e6 e7 e8 e9 e10 e11 e12)
      clear e0 e1 e2 e3 e4 e5 e6 e7 e8 e9 e10 e11 e12 z0 z1 z2 z3 z4 z5 z6 z7 z8 z9 z10 z11 z12 f0 f1 f2 f3 f4 f5 f6 f7 f8 f9 f10 f11 f12
      rename_i hH
      have HDw:=κ15 (DoSt.of hH)
      clear hH hDA hbA HK0 HI HD hb bb bn he hB2A
      go_wp2_with fail
      go_meet
      case rel=>exact ⟨_,rfl,κ15 (by have:=hs.out;omega),HDw,HNw⟩
  case rest=>
   obtain ⟨DB,rfl,HDB,HD4,HN4⟩:=hcut
   obtain ⟨n0,n1,n2,n3,n4,n5,n6,n7,n8,n9,n10,n11,n12⟩:=HN4.out.all
   simp only [Nat.zero_add] at n0 n1 n2 n3 n4 n5 n6 n7 n8 n9 n10 n11 n12
   clear HD HK0 HI
   cases g with
   | false=>
    have HM3:Hid (M2=p):=κ15 (HM2.out.trans (move_not HG.out.symm))
    go_upto_region 5 with fail
    refine wp_region_list ?_
    refine Go.Great.wpList_readTo rfl (some 51) rfl (.agg (doneCells o y is false)) (by simp [go_sem,execOp,n0,n1,n2,n3,n4,n5,n6,n7,n8,n9,n10,n11,n12]) ?_
    refine wpList_store_rowTo rfl 251 (.tmp 4) (.tmp 51) rfl rfl (w.heap.size+1) (doneCells o y is false) rfl rfl 251 _ HD4.out.rw' rfl rfl (by kernel_rfl) ?_
    have HS:Hid (MP b n p (wc.setRow (w.heap.size+1) (doneCells o y is false))∧Fr (·=b) w (wc.setRow (w.heap.size+1) (doneCells o y is false))):=κ15 ⟨HD4.out.mp.block (setRow_other _ _ _ _ (by have:=HBl.out;omega)),(Fr.of_below HD4.out.bl).setRow (by omega) _⟩
    have hrr:∀ j,(wc.setRow (w.heap.size+1) (doneCells o y is false)).cell? ⟨w.heap.size+1,j,none⟩=(doneCells o y is false)[j]?:=fun j=>cell_setRow_same _ _ j _ _ _ _ HD4.out.rw'
    have HRR:=κ15 hrr
    clear hrr n0 n1 n2 n3 n4 n5 n6 n7 n8 n9 n10 n11 n12 HD4 HN4
    generalize wc.setRow (w.heap.size+1) (doneCells o y is false)=W5 at *
    go_wp2_with fail
    have r0:=HRR.out 0
    have r1:=HRR.out 1
    have r2:=HRR.out 2
    have r3:=HRR.out 3
    have r4:=HRR.out 4
    have r5:=HRR.out 5
    have r6:=HRR.out 6
    have r7:=HRR.out 7
    have r8:=HRR.out 8
    have r9:=HRR.out 9
    have r10:=HRR.out 10
    have r11:=HRR.out 11
    have r12:=HRR.out 12
    refine bodyPost_ret (v:=.agg (doneCells o y is false)) (by simp [results,Tryz.results159,go_sem,r0,r1,r2,r3,r4,r5,r6,r7,r8,r9,r10,r11,r12]) rfl ⟨rfl,?_⟩
    rw [HM3.out]
    exact ⟨HS.out.1.mono (by omega),HS.out.2⟩
   | true=>
    have HM3:Hid (updT (plM p) o.nd (some ⟨o.nd,o.ot,o.nm⟩)=plM M2):=κ15 (by rw [HM2.out];exact plM_move HG.out.symm)
    have o4:=HD4.out.o4
    have o5:=HD4.out.o5
    have o6:=HD4.out.o6
    have q0:=HD4.out.q0
    go_upto_region 4 with fail
    go_still_tail 13,(by kernel_rfl)
    change wpList _ _ _ _ _ wc.drew
    have HDd:=κ15 (HD4.out.below (Below.refl _ wc).drew)
    have HNd:=κ15 (HN4.out.below (Below.refl _ wc).drew)
    clear n0 n1 n2 n3 n4 n5 n6 n7 n8 n9 n10 n11 n12 o4 o5 o6 q0 HD4 HN4
    generalize wc.drew=W6 at *
    go_upto_region 5 with (at_mapUpdate;refine wpList_putT _ rfl _ _ _ 151 rfl 3 81 treeK Tryz.underlying151 ekI evP ekI_inj b n (plM p) rfl HDd.out.mp hn o.nd ⟨o.nd,o.ot,o.nm⟩ rfl rfl HK.out ?_;intro w7 hm7 hg7)
    rw [HM3.out] at hm7
    have hF7:Fr (·=b) W6 w7:=fr_of_grown hg7 rfl
    have hrow:w7.heap[w.heap.size+1]?=some (.cells (doneCells ⟨0,0,0,0,0,0,⟨#[]⟩,⟨#[]⟩⟩ ⟨0,0,⟨#[]⟩⟩ false false) 251 (0,0)):=(hF7.block _ (Array.getElem?_eq_some_iff.1 HDd.out.rw').1 (by have:=HBl.out;omega)).trans HDd.out.rw'
    obtain ⟨n0,n1,n2,n3,n4,n5,n6,n7,n8,n9,n10,n11,n12⟩:=(HNd.out.fr hF7 (by have:=HBl.out;have:=HDB.out;omega)).all
    simp only [Nat.zero_add] at n0 n1 n2 n3 n4 n5 n6 n7 n8 n9 n10 n11 n12
    refine wp_region_list ?_
    refine Go.Great.wpList_readTo rfl (some 51) rfl (.agg (doneCells o y is true)) (by simp [go_sem,execOp,n0,n1,n2,n3,n4,n5,n6,n7,n8,n9,n10,n11,n12]) ?_
    refine wpList_store_rowTo rfl 251 (.tmp 4) (.tmp 51) rfl rfl (w.heap.size+1) (doneCells o y is true) rfl rfl 251 _ hrow rfl rfl (by kernel_rfl) ?_
    have HS:Hid (MP b (n+1) M2 (w7.setRow (w.heap.size+1) (doneCells o y is true))∧Fr (·=b) w (w7.setRow (w.heap.size+1) (doneCells o y is true))):=κ15 ⟨MT.block hm7 (setRow_other _ _ _ _ (by have:=HBl.out;omega)),((Fr.of_below HDd.out.bl).trans hF7).setRow (by omega) _⟩
    have hrr:∀ j,(w7.setRow (w.heap.size+1) (doneCells o y is true)).cell? ⟨w.heap.size+1,j,none⟩=(doneCells o y is true)[j]?:=fun j=>cell_setRow_same _ _ j _ _ _ _ hrow
    have HRR:=κ15 hrr
    clear hrr n0 n1 n2 n3 n4 n5 n6 n7 n8 n9 n10 n11 n12 HDd HNd hrow hm7 hg7 hF7
    generalize w7.setRow (w.heap.size+1) (doneCells o y is true)=W5 at *
    go_wp2_with fail
    have r0:=HRR.out 0
    have r1:=HRR.out 1
    have r2:=HRR.out 2
    have r3:=HRR.out 3
    have r4:=HRR.out 4
    have r5:=HRR.out 5
    have r6:=HRR.out 6
    have r7:=HRR.out 7
    have r8:=HRR.out 8
    have r9:=HRR.out 9
    have r10:=HRR.out 10
    have r11:=HRR.out 11
    have r12:=HRR.out 12
    refine bodyPost_ret (v:=.agg (doneCells o y is true)) (by simp [results,Tryz.results159,go_sem,r0,r1,r2,r3,r4,r5,r6,r7,r8,r9,r10,r11,r12]) rfl ⟨rfl,?_⟩
    exact HS.out
end Go.Proofs.YtjekalilfhnpmaaGreatDoor
