/- The walk of value.name, object.isName: what they answer. -/
import Derived.Test.YtgmdbpplfjkjmaaBase
namespace Go.Proofs.Ytgmdbpplfjkjmaa
open Go.RowKit
set_option linter.unusedVariables false
set_option linter.unusedSimpArgs false

/-- A sign that may stand in a name. -/
def nameCh (c : UInt8) : Bool := decide ((97 ≤ c.toNat ∧ c.toNat ≤ 122) ∨ (48 ≤ c.toNat ∧ c.toNat ≤ 57) ∨ c.toNat = 95)
/-- A text that is a name. -/
def nameOk (s : ByteArray) : Bool := decide (0 < s.size ∧ s.size ≤ 32 ∧ 97 ≤ (s.data.toList.getD 0 0).toNat ∧ (s.data.toList.getD 0 0).toNat ≤ 122) && s.data.toList.all nameCh
theorem getD_at (l : List UInt8) (j : Nat) (h : j < l.length) : l.getD j 0 = l[j] := by simp [List.getD, h]
theorem nameOk_bad {s : ByteArray} {k : Nat} (hk : k < s.size) (h : nameCh (s.data.toList.getD k 0) = false) : nameOk s = false := by
  unfold nameOk
  have hk' : k < s.data.toList.length := by simpa using hk
  have : s.data.toList.all nameCh = false := by
    rw [List.all_eq_false]
    refine ⟨s.data.toList[k], List.getElem_mem _, ?_⟩
    rw [← getD_at _ _ hk', h]; decide
  rw [this]; simp
theorem nameOk_all {s : ByteArray} (h0 : 0 < s.size) (h1 : s.size ≤ 32) (h2 : 97 ≤ (s.data.toList.getD 0 0).toNat) (h3 : (s.data.toList.getD 0 0).toNat ≤ 122)
    (h : ∀ j, j < s.size → nameCh (s.data.toList.getD j 0) = true) : nameOk s = true := by
  unfold nameOk
  have : s.data.toList.all nameCh = true := by
    rw [List.all_eq_true]
    intro x hx
    obtain ⟨j, hj, rfl⟩ := List.mem_iff_getElem.1 hx
    rw [← getD_at _ _ hj]
    exact h j (by simpa using hj)
  rw [this, decide_eq_true ⟨h0, h1, h2, h3⟩]; rfl
theorem nameOk_head {s : ByteArray} (h : ¬ (0 < s.size ∧ s.size ≤ 32 ∧ 97 ≤ (s.data.toList.getD 0 0).toNat ∧ (s.data.toList.getD 0 0).toNat ≤ 122)) : nameOk s = false := by
  unfold nameOk; rw [decide_eq_false h, Bool.false_and]
theorem first_getD {s : ByteArray} (h : 0 < s.size) : s[0] = s.data.toList.getD 0 0 := by
  rw [getD_at _ _ (by simpa using h)]; rfl
theorem toList_data (s : ByteArray) : s.toList = s.data.toList := ByteArray.toList_eq s
theorem toList_nil {s : ByteArray} (h : s.size = 0) : s.toList = [] := by
  rw [toList_data]; exact List.eq_nil_of_length_eq_zero (by simpa using h)
theorem toList_cons {s : ByteArray} (h : ¬ s.size = 0) : s.toList.isEmpty = false := by
  rw [toList_data, List.isEmpty_eq_false_iff]; intro e; apply h; have := congrArg List.length e; simpa using this

theorem pre_snoc {s : ByteArray} {k : Nat} {c : UInt8} (hpre : Hid (∀ j, j < k → nameCh (s.data.toList.getD j 0) = true)) (hcv : Hid (s.data.toList.getD k 0 = c)) (h : nameCh c = true) :
    ∀ j, j < k + 1 → nameCh (s.data.toList.getD j 0) = true := by
  intro j hj
  rcases Nat.lt_or_ge j k with h1 | h1
  · exact hpre.out j h1
  · obtain rfl : j = k := by omega
    rw [hcv.out]; exact h

set_option maxRecDepth 100000 in
theorem name_any (s : ByteArray) (w : World) : Calls Try.prog 261 #[.string s] w fun e w' => e = .returned (.bool (nameOk s)) ∧ Below w.heap.size w w' := by
  by_cases h0 : s.size = 0
  · have hn := Lib.hid (nameOk_head (s := s) (by omega))
    have hz := toList_nil h0
    clear h0
    go_enter Try.func261, Try.ntmps261
    go_wp2
    go_ret
    exact ⟨ret_bool hn.out.symm, Below.refl _ _⟩
  · have hz := toList_cons h0
    have hf := Lib.hid (first_getD (s := s) (by omega))
    obtain ⟨w1, cap, hconv, hcell, hb, hsz⟩ := bytes_of s w
    have hcelL := Lib.hid hcell
    clear hsz hcell
    by_cases h1 : 32 < s.size
    · have hn := Lib.hid (nameOk_head (s := s) (by omega))
      go_enter Try.func261, Try.ntmps261
      go_wp2
      go_ret
      exact ⟨ret_bool hn.out.symm, Below.refl _ _⟩
    · by_cases h2 : 97 ≤ (s[0]'(by omega)).toNat ∧ (s[0]'(by omega)).toNat ≤ 122
      · obtain ⟨h2, h3⟩ := h2
        have hall := Lib.hid (nameOk_all (s := s) (by omega) (by omega) (by rw [← hf.out]; exact h2) (by rw [← hf.out]; exact h3))
        have g1 : ((s.size : Nat) : Int) ≤ 32 := by omega
        have g2 : (97 : Int) ≤ ((s[0]'(by omega)).toNat : Int) := by omega
        have g3 : ((s[0]'(by omega)).toNat : Int) ≤ 122 := by omega
        have d1 : decide (32 < (s.size : Int)) = false := by simp; omega
        have d2 : decide (((s[0]'(by omega)).toNat : Int) < 97) = false := by simp; omega
        have d3 : decide (122 < ((s[0]'(by omega)).toNat : Int)) = false := by simp; omega
        clear h2 h3 hf
        go_enter Try.func261, Try.ntmps261
        go_wp2
        clear d1 d2 d3 hconv hz
        go_loop [25] (fun i => ∃ k : Nat, k ≤ s.size ∧ i = .int .i64 k ∧ ∀ j, j < k → nameCh (s.data.toList.getD j 0) = true) (fun i => s.size - (intOf i).toNat)
        case atStart => exact ⟨0, Nat.zero_le _, rfl, fun j hj => absurd hj (Nat.not_lt_zero _)⟩
        case round =>
          obtain ⟨k, hk, rfl, hpre⟩ := hrel
          have hprE := Lib.hid hpre
          clear hpre
          by_cases hlt : k < s.size
          · have hc := hcelL.out k hlt
            have hbad0 := nameOk_bad (s := s) hlt
            generalize hcv : s.data.toList.getD k 0 = c at hc hbad0
            have hcV := Lib.hid hcv
            have hbad := Lib.hid hbad0
            clear hcv hbad0
            have hc2 : (c.toNat : Int) < 256 := by have := c.toNat_lt; omega
            go_wp2
            all_goals first
              | (go_round
                 case rel => exact ⟨k + 1, by omega, by go_num, pre_snoc hprE hcV (by unfold nameCh; rw [decide_eq_true_eq]; simp at *; omega)⟩
                 case measure => simp [intOf]; omega)
              | (go_ret; exact ⟨ret_bool (hbad.out (by unfold nameCh; rw [decide_eq_false_iff_not]; simp at *; omega)).symm, hb⟩)
          · obtain rfl : k = s.size := by omega
            go_wp2
            go_ret
            exact ⟨ret_bool (hall.out hprE.out).symm, hb⟩
      · have hn := Lib.hid (nameOk_head (s := s) (fun ⟨_, _, a, b⟩ => h2 (by rw [hf.out]; exact ⟨a, b⟩)))
        clear hf
        go_enter Try.func261, Try.ntmps261
        go_wp2
        all_goals go_ret
        all_goals exact ⟨ret_bool hn.out.symm, Below.refl _ _⟩
end Go.Proofs.Ytgmdbpplfjkjmaa
