/- tenonref01.Name: what it answers. -/
import Derived.Test.YtgmdbpplfjkjmaaValName
namespace Go.Proofs.Ytgmdbpplfjkjmaa
open Go.RowKit
set_option linter.unusedVariables false
set_option linter.unusedSimpArgs false

set_option maxRecDepth 100000 in
set_option maxHeartbeats 800000 in
theorem refName_any (s : ByteArray) (w : World) : Calls Try.prog 126 #[.string s] w fun e w' => e = .returned (.bool (nameOk s)) ∧ Below w.heap.size w w' := by
  by_cases h0 : s.size = 0
  · have hn := Lib.hid (nameOk_head (s := s) (by omega))
    have hlt : ((s.size : Nat) : Int) < 1 := by omega
    clear h0
    go_enter Try.func126, Try.ntmps126
    go_wp2
    go_ret
    exact ⟨ret_bool hn.out.symm, Below.refl _ _⟩
  · by_cases h1 : 32 < s.size
    · have hn := Lib.hid (nameOk_head (s := s) (by omega))
      have hlt : ¬ ((s.size : Nat) : Int) < 1 := by omega
      have hgt : (32 : Int) < (s.size : Int) := by omega
      go_enter Try.func126, Try.ntmps126
      go_wp2
      go_ret
      exact ⟨ret_bool hn.out.symm, Below.refl _ _⟩
    · have hlt : ¬ ((s.size : Nat) : Int) < 1 := by omega
      have hgt : ¬ (32 : Int) < (s.size : Int) := by omega
      go_enter Try.func126, Try.ntmps126
      go_wp2
      go_loop [3] (fun i => ∃ k : Nat, k ≤ s.size ∧ i = .int .i64 k ∧ (∀ j, j < k → nameCh (s.data.toList.getD j 0) = true) ∧ (0 < k → 97 ≤ (s.data.toList.getD 0 0).toNat ∧ (s.data.toList.getD 0 0).toNat ≤ 122)) (fun i => s.size - (intOf i).toNat)
      case atStart => exact ⟨0, Nat.zero_le _, rfl, fun j hj => absurd hj (Nat.not_lt_zero _), fun h => absurd h (Nat.lt_irrefl _)⟩
      case round =>
        obtain ⟨k, hk, rfl, hpre, hfst⟩ := hrel
        have hprE := Lib.hid hpre
        have hfsE := Lib.hid hfst
        clear hpre hfst
        by_cases hl : k < s.size
        · have hbad0 := nameOk_bad (s := s) hl
          have hck : (s[k]'hl) = s.data.toList.getD k 0 := by rw [getD_at _ _ (by simpa using hl)]; rfl
          have hckH := Lib.hid hck
          have hbad := Lib.hid hbad0
          clear hck hbad0
          by_cases hk0 : k = 0
          · subst hk0
            go_wp2
            all_goals first
              | (go_round
                 case rel => exact ⟨1, by omega, by go_num, fun j hj => by
                   obtain rfl : j = 0 := by omega
                   rw [← hckH.out]; unfold nameCh; rw [decide_eq_true_eq]; simp at *; omega, fun _ => by rw [← hckH.out]; simp at *; omega⟩
                 case measure => simp [intOf]; omega)
              | (go_ret; exact ⟨ret_bool (nameOk_head (s := s) (fun ⟨_, _, a, b⟩ => by rw [← hckH.out] at a b; simp at *; omega)).symm, Below.refl _ _⟩)
          · go_wp2
            all_goals first
              | (go_round
                 case rel => exact ⟨k + 1, by omega, by go_num, fun j hj => by
                   rcases Nat.lt_or_ge j k with h | h
                   · exact hprE.out j h
                   · obtain rfl : j = k := by omega
                     rw [← hckH.out]; unfold nameCh; rw [decide_eq_true_eq]; simp at *; omega, fun _ => hfsE.out (by omega)⟩
                 case measure => simp [intOf]; omega)
              | (go_ret; exact ⟨ret_bool (hbad.out (by rw [← hckH.out]; unfold nameCh; rw [decide_eq_false_iff_not]; simp at *; omega)).symm, Below.refl _ _⟩)
        · obtain rfl : k = s.size := by omega
          go_wp2
          go_ret
          exact ⟨ret_bool (nameOk_all (by omega) (by omega) (hfsE.out (by omega)).1 (hfsE.out (by omega)).2 hprE.out).symm, Below.refl _ _⟩
end Go.Proofs.Ytgmdbpplfjkjmaa
