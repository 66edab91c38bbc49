/- JournalActs: acts on a disk; the disk and the document's disk beside each other. -/
import Derived.Test.YtbncfpljiihmnaaGreatDoorMDisk
import Derived.Test.YtbncfpljiihmnaaGreatDoorJTwiceW
import Derived.Test.YtbncfpljiihmnaaGreatDoorRowAt
import Derived.Test.YtbncfpljiihmnaaGreatDoorOpOpen
namespace Go.Proofs.YtbncfpljiihmnaaGreatDoor
open Go Go.RowKit Go.Joins Go.ChangeShapes Go.WideShapes Go.Deep
set_option linter.unusedVariables false
set_option linter.unusedSimpArgs false
set_option maxHeartbeats 4000000
set_option maxRecDepth 100000

structure DActT where
  kind : ByteArray
  o : OpT
  n : Int
def DActT.cells (x : DActT) : Array Value := #[.string x.kind, .int .i64 x.o.t, .int .i64 x.o.b, .int .i64 x.o.n, .int .u8 x.o.k, .int .i64 x.o.nd, .int .i64 x.o.ot, .string x.o.nm, .string x.o.vl, .int .i64 x.n]
def dactE : Enc DActT := ⟨fun x => x.cells.toList, 10, fun _ => rfl, fun x v hv => by
  simp [DActT.cells] at hv
  rcases hv with rfl | rfl | rfl | rfl | rfl | rfl | rfl | rfl | rfl | rfl <;> rfl⟩
theorem dacts_at {w : World} {A : Option Addr} {n c : Nat} {L : List DActT} (h : SlV dactE w (.slice A n c) L) {i : Nat} {x : DActT} (hx : L[i]? = some x) :
    ∃ b off, A = some ⟨b, off, none⟩ ∧ b < w.heap.size ∧ ∀ j u, x.cells[j]? = some u → w.cell? ⟨b, off + i * 10 + j, none⟩ = some u := by
  obtain ⟨b, off, e, hb, hc⟩ := h.at' (by decide) hx
  refine ⟨b, off, e, hb, fun j u hu => ?_⟩
  have := hc j u (by rw [show dactE.cells x = x.cells.toList from rfl, Array.getElem?_toList]; exact hu)
  rwa [show off + (i * dactE.k + j) = off + i * 10 + j by rw [Nat.add_assoc]; rfl] at this
theorem open_dacts {H : Type} {enc : TypeId × Value → H} {W : World} {r : Reach} {b0 base : Nat} {v : Value} {d : DataW H} {p : List MemPlace}
    (o : Value.okWide Tryz.prog W r b0 46 v) (h : DataW.Trod enc Tryz.prog W base (fun _ => true) true 46 v d p) :
    ∃ A n c L, v = .slice A n c ∧ L.length = n ∧ SlV dactE W (.slice A n c) L ∧ c ≤ maxLen ∧ ∀ x ∈ L, (x.o.nm.size ≤ 100000 → x.o.vl.size ≤ 100000 → x.o.Wf) ∧ x.n ≤ 9223372036854775807 :=
  open_rowsP dactE _ Tryz.underlying46 (by kernel_rfl) (fun fuel cs y hl ht => by
    match cs, hl with
    | [c0, c1, c2, c3, c4, c5, c6, c7, c8, c9], _ =>
      have k3 : Tryz.prog.cellsOf 3 = 1 := by kernel_rfl
      have k8 : Tryz.prog.cellsOf 38 = 8 := by kernel_rfl
      have k9 : Tryz.prog.cellsOf 9 = 1 := by kernel_rfl
      obtain ⟨xs, n, _, hx, _, hlen, hg⟩ := DataW.trod_struct Tryz.underlying51 ht
      have g0 : DataW.trod enc Tryz.prog W base (fun _ => true) true n 9 (([c0, c1, c2, c3, c4, c5, c6, c7, c8, c9].drop 0).take (Tryz.prog.cellsOf 9)) = xs[0]? := hg 0 _ rfl
      have g1 : DataW.trod enc Tryz.prog W base (fun _ => true) true n 38 (([c0, c1, c2, c3, c4, c5, c6, c7, c8, c9].drop 1).take (Tryz.prog.cellsOf 38)) = xs[1]? := hg 1 _ rfl
      have g2 : DataW.trod enc Tryz.prog W base (fun _ => true) true n 3 (([c0, c1, c2, c3, c4, c5, c6, c7, c8, c9].drop 9).take (Tryz.prog.cellsOf 3)) = xs[2]? := hg 2 _ rfl
      rw [k9] at g0
      rw [k8] at g1
      rw [k3] at g2
      match xs, hlen with
      | [y0, y1, y2], _ =>
        obtain ⟨s0, q0, _⟩ := DataW.trod_string Tryz.underlying9 g0
        obtain ⟨x1, q1, w1⟩ := open_op_cells (c0 := c1) (c1 := c2) (c2 := c3) (c3 := c4) (c4 := c5) (c5 := c6) (c6 := c7) (c7 := c8) g1
        obtain ⟨z2, q2, _, w2⟩ := DataW.trod_int Tryz.underlying3 g2
        simp at q0 q2
        simp only [OpT.cells, List.cons.injEq, and_true] at q1
        obtain ⟨rfl, rfl, rfl, rfl, rfl, rfl, rfl, rfl⟩ := q1
        subst q0 q2
        exact ⟨⟨s0, x1, z2⟩, rfl, w1, (wf_i64 w2).2⟩) o h

theorem DSt.fr {X : Nat → Prop} {base D : Nat} {v : Value} {bs : List UInt8} {off : Bool} {cut : Int} {w w' : World} (h : DSt base D v bs off cut w) (hF : Fr X w w') (hD : ¬ X D) (hv : ∀ k, v.ownBlock = some k → ¬ X k) : DSt base D v bs off cut w' := by
  refine ⟨(hF.cell h.lt hD).trans h.c0, (hF.cell (p := ⟨D, 1, none⟩) h.lt hD).trans h.c1, (hF.cell (p := ⟨D, 2, none⟩) h.lt hD).trans h.c2, fun o => (hF.frozen (p := ⟨D, o, none⟩) h.lt hD).trans (h.fz o), ?_, h.ne, h.ge, h.lo, h.hi⟩
  obtain ⟨g, cap, cur, fz, rfl, hb, hgg, rest⟩ := h.row
  exact ⟨g, cap, cur, fz, rfl, hb, (hF.block g (Array.getElem?_eq_some_iff.1 hgg).1 (hv g rfl)).trans hgg, rest⟩

/-- both disks -/
structure JA (w0 : World) (D M : Nat) (v : Value) (bs : List UInt8) (off : Bool) (cut mcut : Int) (w : World) : Prop where
  d : DSt w0.heap.size D v bs off cut w
  m : MSt w0.heap.size M bs off mcut w
  ne : ¬ Own D v M
  bel : Below w0.heap.size w0 w
theorem JA.below {w0 w w' : World} {D M : Nat} {v : Value} {bs : List UInt8} {off : Bool} {cut mcut : Int} (h : JA w0 D M v bs off cut mcut w) (hb : Below w.heap.size w w') : JA w0 D M v bs off cut mcut w' :=
  ⟨h.d.below hb, h.m.below hb, h.ne, h.bel.trans (hb.mono h.bel.size)⟩
theorem JA.mid {w0 w w' : World} {D M : Nat} {v : Value} {bs : List UInt8} {off : Bool} {cut mcut : Int} (h : JA w0 D M v bs off cut mcut w) (hF : Fr (Own D v) w w') : MSt w0.heap.size M bs off mcut w' := h.m.fr hF h.ne
theorem JA.step {w0 w w1 w2 : World} {D M : Nat} {v v' : Value} {bs bs' : List UInt8} {off off' : Bool} {cut cut' mcut mcut' : Int} (h : JA w0 D M v bs off cut mcut w) (hD : DSt w0.heap.size D v' bs' off' cut' w1) (hF : Fr (Own D v) w w1) (hN : NewRow v v' w.heap.size)
    (hM : MSt w0.heap.size M bs' off' mcut' w2) (hG : Fr (· = M) w1 w2) : JA w0 D M v' bs' off' cut' mcut' w2 := by
  have hlt := h.m.lt
  have hn : ¬ Own D v' M := fun ho => by
    rcases hN.own M ho with h1 | h1
    · exact h.ne h1
    · omega
  exact ⟨hD.fr hG (fun e => h.ne (.inl e.symm)) (fun k hk e => hn (.inr (by rw [hk, e]))), hM, hn, (h.d.fb hF h.bel).trans (hG.below (h.d.fb hF h.bel).size (fun k e => by rw [e]; exact h.m.ge))⟩

theorem opErr_le12 (o : OpT) : opErr o ≤ 12 := by
  unfold opErr
  repeat' split
  all_goals omega
/-- an operation appended to both: the same -/
theorem ap_same {bs : List UInt8} {off : Bool} {cut mcut : Int} (o : OpT) (h : off = false → cut = mcut) (lo : -1 ≤ mcut) (hi : mcut ≤ 9223372036854775807) (hl : bs.length ≤ 65536) :
    ∃ b' off' c' mc' k, apD bs off cut o = (b', off', c', k) ∧ mAp bs off mcut o = (b', off', mc', k) ∧ (off' = false → c' = mc') ∧ -1 ≤ mc' ∧ mc' ≤ 9223372036854775807 ∧ b'.length ≤ 65536 ∧ k ≤ 12 := by
  by_cases he : opErr o ≠ 0
  · exact ⟨bs, off, cut, mcut, opErr o, apD_bad he, by rw [mAp, if_pos he], h, lo, hi, hl, opErr_le12 o⟩
  · have he0 : opErr o = 0 := by omega
    by_cases hf : 65536 < bs.length + (recO o).length
    · exact ⟨bs, off, cut, mcut, 8, apD_full he0 hf, by rw [mAp, if_neg he, if_pos hf], h, lo, hi, hl, by omega⟩
    · have hf2 : bs.length + (recO o).length ≤ 65536 := by omega
      cases off with
      | true => exact ⟨bs, true, cut, mcut, 11, apD_off he0 hf2, by rw [mAp, if_neg he, if_neg hf, if_pos rfl], by simp, lo, hi, hl, by omega⟩
      | false =>
        have hc := h rfl
        subst hc
        by_cases h0 : 0 ≤ cut
        · obtain ⟨c, rfl⟩ : ∃ c : Nat, cut = c := ⟨cut.toNat, by omega⟩
          by_cases hlc : (recO o).length ≤ c
          · refine ⟨_, _, _, _, 0, apD_in he0 hf2 hlc, by rw [mAp, if_neg he, if_neg hf, if_neg (by simp), if_neg (by omega), if_pos h0], fun _ => ?_, by omega, by omega, by rw [List.length_append]; exact hf2, by omega⟩
            omega
          · refine ⟨_, _, _, c, 11, apD_cut he0 hf2 (by omega), by rw [mAp, if_neg he, if_neg hf, if_neg (by simp), if_pos ⟨h0, by omega⟩, Int.toNat_natCast], by simp, lo, hi, ?_, by omega⟩
            rw [List.length_append, List.length_take]
            omega
        · have hc : cut = -1 := by omega
          subst hc
          refine ⟨_, _, _, -1, 0, apD_pos he0 hf2, by rw [mAp, if_neg he, if_neg hf, if_neg (by simp), if_neg (by omega), if_neg (by omega)], by simp, by omega, by omega, by rw [List.length_append]; exact hf2, by omega⟩

theorem codedW2 {F : Nat → Bool} (ea : Nat → Addr) (k : Nat) (w : World) (hk : k ≤ 12) (hG : Gd F ea w) (hF : ∀ k, 1 ≤ k → k ≤ 12 → F k = true) (f20 : F 20 = true) :
    Calls Tryz.prog 18 #[errW ea k, .int .i64 k] w fun e w' => e = .returned (.bool true) ∧ Below w.heap.size w w' :=
  (coded2_any ea (errW ea k) k (-1) k w (errW_val ea k hk w) (hG.all hF) (hG.tv f20)).mono fun _ _ ⟨he, hb⟩ => ⟨by rw [he]; simp, hb⟩
end Go.Proofs.YtbncfpljiihmnaaGreatDoor
