/- Names and what is seen: by the document, by the program. -/
import Derived.Test.YtneggbhjekklhaaDoorTexts
namespace Go.Proofs.YtneggbhjekklhaaDoor
open Go Go.RowKit
set_option linter.unusedVariables false
set_option linter.unusedSimpArgs false
set_option maxHeartbeats 4000000
set_option maxRecDepth 100000

def nameB (c : UInt8) : Bool := decide ((97 ≤ (c.toNat : Int) ∧ (c.toNat : Int) ≤ 122) ∨ (48 ≤ (c.toNat : Int) ∧ (c.toNat : Int) ≤ 57) ∨ (c.toNat : Int) = 45 ∨ (c.toNat : Int) = 46)
def seenB (c : UInt8) : Bool := decide (32 ≤ (c.toNat : Int) ∧ (c.toNat : Int) ≤ 126)

theorem name1_any (c : UInt8) (w : World) :
    Calls Tryd.prog 95 #[.int .u8 c.toNat] w fun e w' => e = .returned (.bool (!nameB c)) ∧ w' = w := by
  have H : Hid (nameB c = decide ((97 ≤ (c.toNat : Int) ∧ (c.toNat : Int) ≤ 122) ∨ (48 ≤ (c.toNat : Int) ∧ (c.toNat : Int) ≤ 57) ∨ (c.toNat : Int) = 45 ∨ (c.toNat : Int) = 46)) := rfl
  generalize nameB c = nb at H ⊢
  obtain ⟨x, hx⟩ : ∃ x : Int, x = (c.toNat : Int) := ⟨_, rfl⟩
  have hb : 0 ≤ x ∧ x < 256 := by have := c.toNat_lt; omega
  rw [← hx] at H ⊢
  have hb1 := hb.1
  have hb2 := hb.2
  clear hx hb
  go_enter Tryd.func95, Tryd.ntmps95
  go_wp2_with fail
  all_goals
    go_ret
    refine ⟨ret_bool ?_, rfl⟩
    rw [H.out, Bool.eq_iff_iff]
    (try simp)
    (try omega)

theorem seen1_any (c : UInt8) (w : World) :
    Calls Tryd.prog 130 #[.int .u8 c.toNat] w fun e w' => e = .returned (.bool (!seenB c)) ∧ w' = w := by
  have H : Hid (seenB c = decide (32 ≤ (c.toNat : Int) ∧ (c.toNat : Int) ≤ 126)) := rfl
  generalize seenB c = nb at H ⊢
  obtain ⟨x, hx⟩ : ∃ x : Int, x = (c.toNat : Int) := ⟨_, rfl⟩
  have hb : 0 ≤ x ∧ x < 256 := by have := c.toNat_lt; omega
  rw [← hx] at H ⊢
  have hb1 := hb.1
  have hb2 := hb.2
  clear hx hb
  go_enter Tryd.func130, Tryd.ntmps130
  go_wp2_with fail
  all_goals
    go_ret
    refine ⟨ret_bool ?_, rfl⟩
    rw [H.out, Bool.eq_iff_iff]
    (try simp)
    (try omega)

abbrev FV (k : FuncId) : Value := .func (Fn.func k) #[] #[]
/-- what IndexFunc answers, as far as ContainsFunc asks -/
def IdxEnds (b : Bool) (w : World) (e : Ending) (w' : World) : Prop := ∃ r : Int, e = .returned (.int .i64 r) ∧ decide (0 ≤ r) = b ∧ w' = w
/-- none of the first so many -/
def NoneOf (p : UInt8 → Bool) (l : List UInt8) (j : Nat) : Prop := ∀ i c, i < j → l[i]? = some c → p c = false

theorem indexFunc_b (k : FuncId) (he : ∀ (args : Array Value) (w : World), Sem.run Tryd.prog (callFunc k args) w = .ok (.enter k args) w) (p : UInt8 → Bool) (hp : ∀ c w, Calls Tryd.prog k #[.int .u8 c.toNat] w fun e w' => e = .returned (.bool (p c)) ∧ w' = w) (g n cap : Nat) (l : List UInt8) (hl : l.length = n) (hn : n ≤ 1000) (w : World)
    (hc : ∀ j c, l[j]? = some c → w.cell? ⟨g, j, none⟩ = some (.int .u8 c.toNat)) :
    Calls Tryd.prog 129 #[.slice (some ⟨g, 0, none⟩) n cap, FV k] w (IdxEnds (l.any p) w) := by
  have HP := Lib.hid hp
  have HC := Lib.hid hc
  have HL := Lib.hid hl
  clear hp hc hl
  go_enter Tryd.func129, Tryd.ntmps129
  go_wp2_with fail
  go_loop [8] (fun v8 => ∃ j : Nat, j ≤ n ∧ v8 = .int .i64 j ∧ NoneOf p l j) (fun v8 => n - (intOf v8).toNat)
  case atStart => exact ⟨0, by omega, rfl, fun i c hi => by omega⟩
  case round =>
    obtain ⟨j, hj, rfl, hno⟩ := hrel
    have HN := Lib.hid hno
    clear hno
    by_cases hlt : j < n
    · have hjl : j < l.length := by have := HL.out; omega
      obtain ⟨c, hx⟩ : ∃ c, l[j]? = some c := ⟨_, List.getElem?_eq_getElem hjl⟩
      have HX := Lib.hid hx
      have q0 := HC.out j c hx
      have i0 : (0 : Int) ≤ (j : Int) := by omega
      have i1 : (j : Int) < (n : Int) := by omega
      clear hx hjl
      cases hpc : p c with
      | true =>
        have HPC : Hid (∀ w, Calls Tryd.prog k #[.int .u8 c.toNat] w fun e w' => e = .returned (.bool true) ∧ w' = w) := fun w => by have := HP.out c w; rwa [hpc] at this
        have HQ := Lib.hid hpc
        clear hpc
        go_wp2_with fail
        refine (HPC.out _).mono ?_
        rintro e w' ⟨rfl, rfl⟩
        go_wp2_with fail
        go_ret
        exact ⟨j, rfl, by
          rw [show decide ((0 : Int) ≤ (j : Int)) = true by simp]
          symm
          rw [List.any_eq_true]
          exact ⟨c, List.mem_of_getElem? HX.out, HQ.out⟩, rfl⟩
      | false =>
        have HPC : Hid (∀ w, Calls Tryd.prog k #[.int .u8 c.toNat] w fun e w' => e = .returned (.bool false) ∧ w' = w) := fun w => by have := HP.out c w; rwa [hpc] at this
        have HQ := Lib.hid hpc
        clear hpc
        go_wp2_with fail
        refine (HPC.out _).mono ?_
        rintro e w' ⟨rfl, rfl⟩
        go_wp2_with fail
        go_round
        case rel => exact ⟨j + 1, by omega, by go_num, fun i d hi hd => by
          by_cases e : i = j
          · subst e
            rw [HX.out] at hd
            cases hd
            exact HQ.out
          · exact HN.out i d (by omega) hd⟩
        case measure => simp [intOf]; omega
    · have hge : ¬ (j : Int) < (n : Int) := by omega
      have hjn : n ≤ j := by omega
      clear hlt
      go_wp2_with fail
      go_ret
      exact ⟨-1, rfl, by
        rw [show decide ((0 : Int) ≤ -1) = false by decide]
        symm
        rw [List.any_eq_false]
        intro c hc
        obtain ⟨i, hi⟩ := List.mem_iff_getElem?.1 hc
        have hlt : i < l.length := (List.getElem?_eq_some_iff.1 hi).1
        have := HN.out i c (by have := HL.out; omega) hi
        simp [this], rfl⟩

theorem containsFunc_b (x : Bool) (k : FuncId) (he : ∀ (args : Array Value) (w : World), Sem.run Tryd.prog (callFunc k args) w = .ok (.enter k args) w) (p : UInt8 → Bool) (hp : ∀ c w, Calls Tryd.prog k #[.int .u8 c.toNat] w fun e w' => e = .returned (.bool (p c)) ∧ w' = w) (g n cap : Nat) (l : List UInt8) (hl : l.length = n) (hn : n ≤ 1000) (w : World)
    (hc : ∀ j c, l[j]? = some c → w.cell? ⟨g, j, none⟩ = some (.int .u8 c.toNat)) (hx : l.any p = x) :
    Calls Tryd.prog 94 #[.slice (some ⟨g, 0, none⟩) n cap, FV k] w fun e w' => e = .returned (.bool x) ∧ w' = w := by
  have H := Lib.hid (indexFunc_b k he p hp g n cap l hl hn w hc)
  rw [hx] at H
  clear hp hc hx
  go_enter Tryd.func94, Tryd.ntmps94
  go_wp2_with fail
  refine H.out.mono ?_
  rintro e w' ⟨r, rfl, hr, rfl⟩
  have HR := Lib.hid hr
  clear hr
  go_wp2_with fail
  go_ret
  exact ⟨ret_bool HR.out, rfl⟩

theorem ent1 : ∀ (args : Array Value) (w : World), Sem.run Tryd.prog (callFunc 95 args) w = .ok (.enter 95 args) w := fun args w => enters_of Tryd.func95 (by kernel_rfl) rfl args w
theorem ent2 : ∀ (args : Array Value) (w : World), Sem.run Tryd.prog (callFunc 130 args) w = .ok (.enter 130 args) w := fun args w => enters_of Tryd.func130 (by kernel_rfl) rfl args w

theorem bytes_cells (s : ByteArray) (w : World) (e : TypeId) : ∀ j c, s.data.toList[j]? = some c → (Lib.bytesWorld w e s).cell? ⟨w.heap.size, j, none⟩ = some (.int .u8 c.toNat) := by
  intro j c hc
  have hj : j < s.size := (List.getElem?_eq_some_iff.1 hc).1
  rw [Lib.bytesWorld_cell w e s j hj]
  simp [List.getD, hc]

def isNmB (l : List UInt8) : Bool := decide (1 ≤ l.length ∧ l.length ≤ 12) && l.all nameB
def isSnB (l : List UInt8) : Bool := l.all seenB

theorem any_not (p : UInt8 → Bool) (l : List UInt8) : l.any (fun c => !p c) = !l.all p := by
  induction l with
  | nil => rfl
  | cons c r ih => simp [ih]

theorem opName_any (x : Bool) (s : ByteArray) (w : World) (hs : s.size ≤ 100000) (hx : isNmB s.data.toList = x) :
    Calls Tryd.prog 72 #[.string s] w fun e w' => e = .returned (.bool x) ∧ Below w.heap.size w w' := by
  have hsz : s.data.toList.length = s.size := rfl
  by_cases h0 : s.size = 0
  · have h3 : s.toList.isEmpty = true := by
      rw [ByteArray.toList_eq, List.isEmpty_iff]
      exact List.eq_nil_of_length_eq_zero (by omega)
    have hxf : x = false := by rw [← hx]; unfold isNmB; rw [decide_eq_false (by omega)]; rfl
    subst hxf
    clear hx hsz h0
    go_enter Tryd.func72, Tryd.ntmps72
    go_wp2_with fail
    go_ret
    exact ⟨rfl, Below.refl _ _⟩
  · have h3 : s.toList.isEmpty = false := by
      rw [ByteArray.toList_eq]
      cases hl : s.data.toList with
      | nil => rw [hl] at hsz; simp at hsz; omega
      | cons _ _ => rfl
    by_cases h12 : 12 < s.size
    · have hxf : x = false := by rw [← hx]; unfold isNmB; rw [decide_eq_false (by omega)]; rfl
      subst hxf
      clear hx hsz h0
      go_enter Tryd.func72, Tryd.ntmps72
      go_wp2_with fail
      go_ret
      exact ⟨by simp, Below.refl _ _⟩
    · have HC : Hid (∀ w cap, Calls Tryd.prog 94 #[.slice (some ⟨w.heap.size, 0, none⟩) s.size cap, FV 95] (Lib.bytesWorld w 5 s) fun e w' => e = .returned (.bool (!x)) ∧ w' = Lib.bytesWorld w 5 s) := fun w cap =>
        containsFunc_b (!x) _ ent1 (fun c => !nameB c) name1_any _ _ cap s.data.toList hsz (by omega) _ (bytes_cells s w _) (by
          rw [any_not, ← hx]
          unfold isNmB
          rw [decide_eq_true (by omega)]
          simp)
      have kc := fun w => Lib.run_convert_string_bytes (P := Tryd.prog) w 9 152 5 s Tryd.underlying9 Tryd.underlying152 Tryd.underlying5
      have h12' : s.size ≤ 12 := by omega
      clear hx hsz h0 h12
      go_enter Tryd.func72, Tryd.ntmps72
      go_wp2_with fail
      refine (HC.out _ _).mono ?_
      rintro e w' ⟨rfl, rfl⟩
      go_wp2_with fail
      go_ret
      exact ⟨rfl, below_bytesWorld w _ s⟩

theorem opSeen_any (x : Bool) (s : ByteArray) (m : Nat) (w : World) (hs : s.size ≤ 100000) (hm : m ≤ 1000) (hx : (decide (s.size ≤ m) && isSnB s.data.toList) = x) :
    Calls Tryd.prog 96 #[.string s, .int .i64 m] w fun e w' => e = .returned (.bool x) ∧ Below w.heap.size w w' := by
  have hsz : s.data.toList.length = s.size := rfl
  by_cases h12 : m < s.size
  · have hxf : x = false := by rw [← hx, decide_eq_false (by omega)]; rfl
    subst hxf
    clear hx hsz
    go_enter Tryd.func96, Tryd.ntmps96
    go_wp2_with fail
    go_ret
    exact ⟨by simp, Below.refl _ _⟩
  · have HC : Hid (∀ w cap, Calls Tryd.prog 94 #[.slice (some ⟨w.heap.size, 0, none⟩) s.size cap, FV 130] (Lib.bytesWorld w 5 s) fun e w' => e = .returned (.bool (!x)) ∧ w' = Lib.bytesWorld w 5 s) := fun w cap =>
      containsFunc_b (!x) _ ent2 (fun c => !seenB c) seen1_any _ _ cap s.data.toList hsz (by omega) _ (bytes_cells s w _) (by
        rw [any_not, ← hx]
        rw [decide_eq_true (by omega)]
        simp [isSnB])
    have kc := fun w => Lib.run_convert_string_bytes (P := Tryd.prog) w 9 152 5 s Tryd.underlying9 Tryd.underlying152 Tryd.underlying5
    have h12' : s.size ≤ m := by omega
    clear hx hsz h12
    go_enter Tryd.func96, Tryd.ntmps96
    go_wp2_with fail
    refine (HC.out _ _).mono ?_
    rintro e w' ⟨rfl, rfl⟩
    go_wp2_with fail
    go_ret
    exact ⟨by simp, below_bytesWorld w _ s⟩
theorem take_all (p : UInt8 → Bool) (s : ByteArray) (i : Nat) (hi : i < s.size) (h : (s.data.toList.take i).all p = true) (hp : p s[i] = true) : (s.data.toList.take (i + 1)).all p = true := by
  rw [List.take_add_one, byte_at s i hi, List.all_append, h]
  simp [hp]
theorem all_not (p : UInt8 → Bool) (s : ByteArray) (i : Nat) (hi : i < s.size) (hp : p s[i] = false) : s.data.toList.all p = false := by
  rw [List.all_eq_false]
  exact ⟨s[i], List.mem_of_getElem? (byte_at s i hi), by simp [hp]⟩

theorem refName_any (x : Bool) (s : ByteArray) (w : World) (hs : s.size ≤ 100000) (hx : isNmB s.data.toList = x) :
    Calls Tryd.prog 52 #[.string s] w fun e w' => e = .returned (.bool x) ∧ w' = w := by
  have HX := Lib.hid hx
  have hsz : s.data.toList.length = s.size := rfl
  have HL := Lib.hid hsz
  clear hx hsz
  go_enter Tryd.func52, Tryd.ntmps52
  go_wp2_with fail
  go_loop [3] (fun v3 => ∃ i : Nat, i ≤ s.size ∧ v3 = .int .i64 i ∧ (s.data.toList.take i).all nameB = true) (fun v3 => s.size - (intOf v3).toNat)
  case atStart => exact ⟨0, by omega, rfl, rfl⟩
  case round =>
    obtain ⟨i, hi, rfl, hall⟩ := hrel
    have HA := Lib.hid hall
    clear hall
    by_cases hlt : i < s.size
    · have HD : Hid (nameB s[i] = decide ((97 ≤ (s[i].toNat : Int) ∧ (s[i].toNat : Int) ≤ 122) ∨ (48 ≤ (s[i].toNat : Int) ∧ (s[i].toNat : Int) ≤ 57) ∨ (s[i].toNat : Int) = 45 ∨ (s[i].toNat : Int) = 46)) := rfl
      have HS : Hid (nameB s[i] = true → (s.data.toList.take (i + 1)).all nameB = true) := Lib.hid (take_all nameB s i hlt HA.out)
      have HF : Hid (nameB s[i] = false → s.data.toList.all nameB = false) := Lib.hid (all_not nameB s i hlt)
      have HN : Hid (nameB s[i] = false → isNmB s.data.toList = false) := Lib.hid fun h => by unfold isNmB; rw [HF.out h]; simp
      clear HF
      go_wp2_with fail
      all_goals first
        | (go_ret
           refine ⟨ret_bool ?_, rfl⟩
           rw [← HX.out, HN.out]
           rw [HD.out, decide_eq_false_iff_not]
           clear HX HL HA HD HS HN hi hs
           simp at *
           omega)
        | (go_round
           case rel =>
             refine ⟨i + 1, by omega, by go_num, HS.out ?_⟩
             rw [HD.out, decide_eq_true_eq]
             clear HX HL HA HD HS HN hi hs
             simp at *
             omega
           case measure => simp [intOf]; omega)
    · have hie : i = s.size := by omega
      have hge : ¬ i < s.size := hlt
      have H : Hid (isNmB s.data.toList = decide (1 ≤ s.size ∧ s.size ≤ 12)) := by
        have h4 := HA.out
        rw [hie, ← HL.out, List.take_length] at h4
        unfold isNmB
        rw [h4, HL.out]
        exact Bool.and_true _
      clear hie hlt
      go_wp2_with fail
      all_goals
        go_ret
        refine ⟨ret_bool ?_, rfl⟩
        rw [← HX.out, H.out]
        clear HX HL HA H hi hge hs
        (try simp at *)
        first | done | (rw [Bool.eq_iff_iff]; simp; omega) | omega
end Go.Proofs.YtneggbhjekklhaaDoor
