/- tenonref01.Name: what it answers. -/
import Derived.Test.YtgmdbpplfjkjmaaValName
import Derived.Test.YtgmdbpplfjkjmaaBuilt
namespace Go.Proofs.Ytgmdbpplfjkjmaa
open Go.RowKit
set_option linter.unusedVariables false
set_option linter.unusedSimpArgs false

set_option maxRecDepth 100000 in
set_option maxHeartbeats 800000 in
theorem refName_any (s : ByteArray) (w : World) : Calls Try.prog 126 #[.string s] w fun e w' => e = .returned (.bool (nameOk s)) ∧ Below w.heap.size w w' := by
  by_cases h0 : s.size = 0
  · have hn := Lib.hid (nameOk_head (s := s) (by omega))
    have hlt : ((s.size : Nat) : Int) < 1 := by omega
    clear h0
    go_enter Try.func126, Try.ntmps126
    go_wp2
    go_ret
    exact ⟨ret_bool hn.out.symm, Below.refl _ _⟩
  · by_cases h1 : 32 < s.size
    · have hn := Lib.hid (nameOk_head (s := s) (by omega))
      have hlt : ¬ ((s.size : Nat) : Int) < 1 := by omega
      have hgt : (32 : Int) < (s.size : Int) := by omega
      go_enter Try.func126, Try.ntmps126
      go_wp2
      go_ret
      exact ⟨ret_bool hn.out.symm, Below.refl _ _⟩
    · have hlt : ¬ ((s.size : Nat) : Int) < 1 := by omega
      have hgt : ¬ (32 : Int) < (s.size : Int) := by omega
      go_enter Try.func126, Try.ntmps126
      go_wp2
      go_loop [3] (fun i => ∃ k : Nat, k ≤ s.size ∧ i = .int .i64 k ∧ (∀ j, j < k → nameCh (s.data.toList.getD j 0) = true) ∧ (0 < k → 97 ≤ (s.data.toList.getD 0 0).toNat ∧ (s.data.toList.getD 0 0).toNat ≤ 122)) (fun i => s.size - (intOf i).toNat)
      case atStart => exact ⟨0, Nat.zero_le _, rfl, fun j hj => absurd hj (Nat.not_lt_zero _), fun h => absurd h (Nat.lt_irrefl _)⟩
      case round =>
        obtain ⟨k, hk, rfl, hpre, hfst⟩ := hrel
        have hprE := Lib.hid hpre
        have hfsE := Lib.hid hfst
        clear hpre hfst
        by_cases hl : k < s.size
        · have hbad0 := nameOk_bad (s := s) hl
          have hck : (s[k]'hl) = s.data.toList.getD k 0 := by rw [getD_at _ _ (by simpa using hl)]; rfl
          have hckH := Lib.hid hck
          have hbad := Lib.hid hbad0
          clear hck hbad0
          by_cases hk0 : k = 0
          · subst hk0
            go_wp2
            all_goals first
              | (go_round
                 case rel => exact ⟨1, by omega, by go_num, fun j hj => by
                   obtain rfl : j = 0 := by omega
                   rw [← hckH.out]; unfold nameCh; rw [decide_eq_true_eq]; simp at *; omega, fun _ => by rw [← hckH.out]; simp at *; omega⟩
                 case measure => simp [intOf]; omega)
              | (go_ret; exact ⟨ret_bool (nameOk_head (s := s) (fun ⟨_, _, a, b⟩ => by rw [← hckH.out] at a b; simp at *; omega)).symm, Below.refl _ _⟩)
          · go_wp2
            all_goals first
              | (go_round
                 case rel => exact ⟨k + 1, by omega, by go_num, fun j hj => by
                   rcases Nat.lt_or_ge j k with h | h
                   · exact hprE.out j h
                   · obtain rfl : j = k := by omega
                     rw [← hckH.out]; unfold nameCh; rw [decide_eq_true_eq]; simp at *; omega, fun _ => hfsE.out (by omega)⟩
                 case measure => simp [intOf]; omega)
              | (go_ret; exact ⟨ret_bool (hbad.out (by rw [← hckH.out]; unfold nameCh; rw [decide_eq_false_iff_not]; simp at *; omega)).symm, Below.refl _ _⟩)
        · obtain rfl : k = s.size := by omega
          go_wp2
          go_ret
          exact ⟨ret_bool (nameOk_all (by omega) (by omega) (hfsE.out (by omega)).1 (hfsE.out (by omega)).2 hprE.out).symm, Below.refl _ _⟩
end Go.Proofs.Ytgmdbpplfjkjmaa

/-! tenonref01.own of terms without entries. -/
namespace Go.Proofs.Ytgmdbpplfjkjmaa
open Go.RowKit
set_option linter.unusedVariables false
set_option linter.unusedSimpArgs false

section
variable (b : Bool) (n : Int) (fl : Nat) (tx : ByteArray) (bs : List UInt8) (rf : Int) (ls : List Term) (es : List (ByteArray × Term)) (cl : ByteArray) (ver : Int)
set_option maxRecDepth 100000 in
set_option maxHeartbeats 1600000 in
theorem refOwn_plain (k : Int) (hk : k = 1 ∨ k = 2 ∨ k = 3 ∨ k = 4 ∨ k = 7 ∨ k = 11) (cs : List Value) (w : World) (num deep : Int) (h : TRep w (.mk k b n fl tx bs rf ls es cl ver) cs) :
    Calls Try.prog 188 #[.agg cs.toArray, .int .i64 num, .int .i64 deep] w fun e w' => e = .returned (.int .i64 (ownF (builtV (.mk k b n fl tx bs rf ls es cl ver)) num deep)) ∧ Below w.heap.size w w' := by
  simp only [TRep] at h
  obtain ⟨sb, sl, se, xl, xe, rfl, -⟩ := h
  obtain ⟨r, hr⟩ : ∃ r, r = ownF (builtV (.mk k b n fl tx bs rf ls es cl ver)) num deep := ⟨_, rfl⟩
  have hrr := Lib.hid hr
  rw [← hr]
  clear hr
  have hbel : ∀ cs : Array Value, Below w.heap.size w (w.alloc (.cells cs 31)) := fun cs => (Below.refl _ _).alloc (Nat.le_refl _) _
  by_cases h1 : 16384 ≤ num ∨ 64 < deep
  · have hf : r = if k = 11 then 7 else 2 := by
      rw [hrr.out]; unfold ownF; rw [if_pos h1]
      rcases hk with rfl | rfl | rfl | rfl | rfl | rfl <;> rfl
    rcases h1 with h1 | h1
    · rcases hk with rfl | rfl | rfl | rfl | rfl | rfl
      all_goals go_enter Try.func188, Try.ntmps188
      all_goals go_wp2
      all_goals go_ret
      all_goals first | exact ⟨rfl, hbel _⟩ | exact ⟨by rw [hf]; rfl, hbel _⟩
    · by_cases h2 : 16384 ≤ num
      · rcases hk with rfl | rfl | rfl | rfl | rfl | rfl
        all_goals go_enter Try.func188, Try.ntmps188
        all_goals go_wp2
        all_goals go_ret
        all_goals first | exact ⟨rfl, hbel _⟩ | exact ⟨by rw [hf]; rfl, hbel _⟩
      · rcases hk with rfl | rfl | rfl | rfl | rfl | rfl
        all_goals go_enter Try.func188, Try.ntmps188
        all_goals go_wp2
        all_goals go_ret
        all_goals first | exact ⟨rfl, hbel _⟩ | exact ⟨by rw [hf]; rfl, hbel _⟩
  · have hf : r = if k = 11 then 7 else 0 := by
      rw [hrr.out]; unfold ownF; rw [if_neg h1]
      rcases hk with rfl | rfl | rfl | rfl | rfl | rfl <;> rfl
    have h2 : ¬ 16384 ≤ num := fun h => h1 (.inl h)
    have h3 : ¬ 64 < deep := fun h => h1 (.inr h)
    clear h1
    rcases hk with rfl | rfl | rfl | rfl | rfl | rfl
    all_goals go_enter Try.func188, Try.ntmps188
    all_goals go_wp2
    all_goals go_ret
    all_goals first | exact ⟨rfl, hbel _⟩ | exact ⟨by rw [hf]; rfl, hbel _⟩
end
end Go.Proofs.Ytgmdbpplfjkjmaa

/-! tenonref01.own of texts, bytes, lists, and of terms of no kind. -/
namespace Go.Proofs.Ytgmdbpplfjkjmaa
open Go.RowKit
set_option linter.unusedVariables false
set_option linter.unusedSimpArgs false

section
variable (b : Bool) (n : Int) (fl : Nat) (tx : ByteArray) (bs : List UInt8) (rf : Int) (ls : List Term) (es : List (ByteArray × Term)) (cl : ByteArray) (ver : Int)
set_option maxRecDepth 100000 in
set_option maxHeartbeats 1600000 in
theorem refOwn_text (cs : List Value) (w : World) (num deep : Int) (h : TRep w (.mk 5 b n fl tx bs rf ls es cl ver) cs) :
    Calls Try.prog 188 #[.agg cs.toArray, .int .i64 num, .int .i64 deep] w fun e w' => e = .returned (.int .i64 (ownF (builtV (.mk 5 b n fl tx bs rf ls es cl ver)) num deep)) ∧ Below w.heap.size w w' := by
  simp only [TRep] at h
  obtain ⟨sb, sl, se, xl, xe, rfl, -⟩ := h
  obtain ⟨r, hr⟩ : ∃ r, r = ownF (builtV (.mk 5 b n fl tx bs rf ls es cl ver)) num deep := ⟨_, rfl⟩
  have hrr := Lib.hid hr
  rw [← hr]
  clear hr
  have hbel : ∀ cs : Array Value, Below w.heap.size w (w.alloc (.cells cs 31)) := fun cs => (Below.refl _ _).alloc (Nat.le_refl _) _
  by_cases h1 : 16384 ≤ num ∨ 64 < deep
  · have hf : r = 2 := by
      rw [hrr.out]; unfold ownF; rw [if_pos h1]; rw [builtV]; rfl
    by_cases h2 : 16384 ≤ num
    · clear h1
      go_enter Try.func188, Try.ntmps188
      go_wp2
      go_ret
      first | exact ⟨rfl, hbel _⟩ | exact ⟨by rw [hf]; rfl, hbel _⟩ | exact ⟨by rw [hf], hbel _⟩
    · have h3 : 64 < deep := by omega
      clear h1
      go_enter Try.func188, Try.ntmps188
      go_wp2
      go_ret
      first | exact ⟨rfl, hbel _⟩ | exact ⟨by rw [hf]; rfl, hbel _⟩ | exact ⟨by rw [hf], hbel _⟩
  · have h2 : ¬ 16384 ≤ num := fun h => h1 (.inl h)
    have h3 : ¬ 64 < deep := fun h => h1 (.inr h)
    by_cases h4 : 65536 < tx.size
    · have hf : r = 2 := by
        rw [hrr.out]; unfold ownF; rw [if_neg h1, builtV]; simp only [Int.reduceBEq, cond_true, cond_false, ownIn]; rw [if_pos h4]
      have h5 : (65536 : Int) < ((tx.size : Nat) : Int) := by omega
      clear h1
      go_enter Try.func188, Try.ntmps188
      go_wp2
      go_ret
      first | exact ⟨rfl, hbel _⟩ | exact ⟨by rw [hf]; rfl, hbel _⟩ | exact ⟨by rw [hf], hbel _⟩
    · have hf : r = 0 := by
        rw [hrr.out]; unfold ownF; rw [if_neg h1, builtV]; simp only [Int.reduceBEq, cond_true, cond_false, ownIn]; rw [if_neg h4]
      have h5 : ¬ (65536 : Int) < ((tx.size : Nat) : Int) := by omega
      clear h1
      go_enter Try.func188, Try.ntmps188
      go_wp2
      go_ret
      first | exact ⟨rfl, hbel _⟩ | exact ⟨by rw [hf]; rfl, hbel _⟩ | exact ⟨by rw [hf], hbel _⟩

set_option maxRecDepth 100000 in
set_option maxHeartbeats 1600000 in
theorem refOwn_bytes (cs : List Value) (w : World) (num deep : Int) (h : TRep w (.mk 6 b n fl tx bs rf ls es cl ver) cs) :
    Calls Try.prog 188 #[.agg cs.toArray, .int .i64 num, .int .i64 deep] w fun e w' => e = .returned (.int .i64 (ownF (builtV (.mk 6 b n fl tx bs rf ls es cl ver)) num deep)) ∧ Below w.heap.size w w' := by
  simp only [TRep] at h
  obtain ⟨sb, sl, se, xl, xe, rfl, -, ⟨oa, cap, rfl, -⟩, -⟩ := h
  obtain ⟨r, hr⟩ : ∃ r, r = ownF (builtV (.mk 6 b n fl tx bs rf ls es cl ver)) num deep := ⟨_, rfl⟩
  have hrr := Lib.hid hr
  rw [← hr]
  clear hr
  have hbel : ∀ cs : Array Value, Below w.heap.size w (w.alloc (.cells cs 31)) := fun cs => (Below.refl _ _).alloc (Nat.le_refl _) _
  by_cases h1 : 16384 ≤ num ∨ 64 < deep
  · have hf : r = 2 := by
      rw [hrr.out]; unfold ownF; rw [if_pos h1]; rw [builtV]; rfl
    by_cases h2 : 16384 ≤ num
    · clear h1
      go_enter Try.func188, Try.ntmps188
      go_wp2
      go_ret
      first | exact ⟨rfl, hbel _⟩ | exact ⟨by rw [hf]; rfl, hbel _⟩ | exact ⟨by rw [hf], hbel _⟩
    · have h3 : 64 < deep := by omega
      clear h1
      go_enter Try.func188, Try.ntmps188
      go_wp2
      go_ret
      first | exact ⟨rfl, hbel _⟩ | exact ⟨by rw [hf]; rfl, hbel _⟩ | exact ⟨by rw [hf], hbel _⟩
  · have h2 : ¬ 16384 ≤ num := fun h => h1 (.inl h)
    have h3 : ¬ 64 < deep := fun h => h1 (.inr h)
    by_cases h4 : 65536 < bs.length
    · have hf : r = 2 := by
        rw [hrr.out]; unfold ownF; rw [if_neg h1, builtV]; simp only [Int.reduceBEq, cond_true, cond_false, ownIn]; rw [if_pos h4]
      have h5 : (65536 : Int) < ((bs.length : Nat) : Int) := by omega
      clear h1
      go_enter Try.func188, Try.ntmps188
      go_wp2
      go_ret
      first | exact ⟨rfl, hbel _⟩ | exact ⟨by rw [hf]; rfl, hbel _⟩ | exact ⟨by rw [hf], hbel _⟩
    · have hf : r = 0 := by
        rw [hrr.out]; unfold ownF; rw [if_neg h1, builtV]; simp only [Int.reduceBEq, cond_true, cond_false, ownIn]; rw [if_neg h4]
      have h5 : ¬ (65536 : Int) < ((bs.length : Nat) : Int) := by omega
      clear h1
      go_enter Try.func188, Try.ntmps188
      go_wp2
      go_ret
      first | exact ⟨rfl, hbel _⟩ | exact ⟨by rw [hf]; rfl, hbel _⟩ | exact ⟨by rw [hf], hbel _⟩

set_option maxRecDepth 100000 in
set_option maxHeartbeats 1600000 in
theorem refOwn_list (cs : List Value) (w : World) (num deep : Int) (h : TRep w (.mk 8 b n fl tx bs rf ls es cl ver) cs) :
    Calls Try.prog 188 #[.agg cs.toArray, .int .i64 num, .int .i64 deep] w fun e w' => e = .returned (.int .i64 (ownF (builtV (.mk 8 b n fl tx bs rf ls es cl ver)) num deep)) ∧ Below w.heap.size w w' := by
  simp only [TRep] at h
  obtain ⟨sb, sl, se, xl, xe, rfl, -, -, ⟨oa, cap, rfl, -⟩, -⟩ := h
  obtain ⟨r, hr⟩ : ∃ r, r = ownF (builtV (.mk 8 b n fl tx bs rf ls es cl ver)) num deep := ⟨_, rfl⟩
  have hrr := Lib.hid hr
  rw [← hr]
  clear hr
  have hbel : ∀ cs : Array Value, Below w.heap.size w (w.alloc (.cells cs 31)) := fun cs => (Below.refl _ _).alloc (Nat.le_refl _) _
  by_cases h1 : 16384 ≤ num ∨ 64 < deep
  · have hf : r = 2 := by
      rw [hrr.out]; unfold ownF; rw [if_pos h1]; rw [builtV]; rfl
    by_cases h2 : 16384 ≤ num
    · clear h1
      go_enter Try.func188, Try.ntmps188
      go_wp2
      go_ret
      first | exact ⟨rfl, hbel _⟩ | exact ⟨by rw [hf]; rfl, hbel _⟩ | exact ⟨by rw [hf], hbel _⟩
    · have h3 : 64 < deep := by omega
      clear h1
      go_enter Try.func188, Try.ntmps188
      go_wp2
      go_ret
      first | exact ⟨rfl, hbel _⟩ | exact ⟨by rw [hf]; rfl, hbel _⟩ | exact ⟨by rw [hf], hbel _⟩
  · have h2 : ¬ 16384 ≤ num := fun h => h1 (.inl h)
    have h3 : ¬ 64 < deep := fun h => h1 (.inr h)
    by_cases h4 : 4096 < ls.length
    · have hf : r = 2 := by
        rw [hrr.out]; unfold ownF; rw [if_neg h1, builtV]; simp only [Int.reduceBEq, cond_true, cond_false, ownIn]; rw [builtVs_eq, List.length_map]; rw [if_pos h4]
      have h5 : (4096 : Int) < ((ls.length : Nat) : Int) := by omega
      clear h1
      go_enter Try.func188, Try.ntmps188
      go_wp2
      go_ret
      first | exact ⟨rfl, hbel _⟩ | exact ⟨by rw [hf]; rfl, hbel _⟩ | exact ⟨by rw [hf], hbel _⟩
    · have hf : r = 0 := by
        rw [hrr.out]; unfold ownF; rw [if_neg h1, builtV]; simp only [Int.reduceBEq, cond_true, cond_false, ownIn]; rw [builtVs_eq, List.length_map]; rw [if_neg h4]
      have h5 : ¬ (4096 : Int) < ((ls.length : Nat) : Int) := by omega
      clear h1
      go_enter Try.func188, Try.ntmps188
      go_wp2
      go_ret
      first | exact ⟨rfl, hbel _⟩ | exact ⟨by rw [hf]; rfl, hbel _⟩ | exact ⟨by rw [hf], hbel _⟩

set_option maxRecDepth 100000 in
set_option maxHeartbeats 1600000 in
theorem refOwn_alien (k : Int) (hk : k < 1 ∨ 11 < k) (cs : List Value) (w : World) (num deep : Int) (h : TRep w (.mk k b n fl tx bs rf ls es cl ver) cs) :
    Calls Try.prog 188 #[.agg cs.toArray, .int .i64 num, .int .i64 deep] w fun e w' => e = .returned (.int .i64 (ownF (builtV (.mk k b n fl tx bs rf ls es cl ver)) num deep)) ∧ Below w.heap.size w w' := by
  simp only [TRep] at h
  obtain ⟨sb, sl, se, xl, xe, rfl, -⟩ := h
  have hv : builtV (.mk k b n fl tx bs rf ls es cl ver) = .alien (alienT n) := by
    rw [builtV, show (k == 1) = false by simp; omega, show (k == 2) = false by simp; omega, show (k == 3) = false by simp; omega, show (k == 4) = false by simp; omega, show (k == 5) = false by simp; omega, show (k == 6) = false by simp; omega, show (k == 7) = false by simp; omega, show (k == 8) = false by simp; omega, show (k == 9) = false by simp; omega, show (k == 10) = false by simp; omega, show (k == 11) = false by simp; omega]; rfl
  have hf : ownF (builtV (.mk k b n fl tx bs rf ls es cl ver)) num deep = 6 := by
    rw [hv]; unfold ownF; split <;> rfl
  rw [hf]
  have hbel : ∀ cs : Array Value, Below w.heap.size w (w.alloc (.cells cs 31)) := fun cs => (Below.refl _ _).alloc (Nat.le_refl _) _
  have h11 : (k == 11) = false := by simp; omega
  clear hf hv
  by_cases h1 : k < 1
  · go_enter Try.func188, Try.ntmps188
    go_wp2
    go_ret
    exact ⟨rfl, hbel _⟩
  · have h2 : 10 < k := by omega
    go_enter Try.func188, Try.ntmps188
    go_wp2
    go_ret
    exact ⟨rfl, hbel _⟩
end
end Go.Proofs.Ytgmdbpplfjkjmaa

/-! tenonref01.own of dicts and records. -/
namespace Go.Proofs.Ytgmdbpplfjkjmaa
open Go.RowKit
set_option linter.unusedVariables false
set_option linter.unusedSimpArgs false

section
variable (b : Bool) (n : Int) (fl : Nat) (tx : ByteArray) (bs : List UInt8) (rf : Int) (ls : List Term) (es : List (ByteArray × Term)) (cl : ByteArray) (ver : Int)

set_option maxRecDepth 100000 in
set_option maxHeartbeats 1600000 in
theorem refOwn_dict (cs : List Value) (w : World) (num deep : Int) (h : TRep w (.mk 9 b n fl tx bs rf ls es cl ver) cs) :
    Calls Try.prog 188 #[.agg cs.toArray, .int .i64 num, .int .i64 deep] w fun e w' => e = .returned (.int .i64 (ownF (builtV (.mk 9 b n fl tx bs rf ls es cl ver)) num deep)) ∧ Below w.heap.size w w' := by
  simp only [TRep] at h
  obtain ⟨sb, sl, se, xl, xe, rfl, -, -, -, -, ⟨oa, cap, rfl, hcap, hmax, hsm, -, -, hform⟩, hes⟩ := h
  unfold maxLen at hmax
  have hdat := Lib.hid (EsRep.at es xe hes)
  have hformH := Lib.hid hform
  clear hform hes
  obtain ⟨r, hr⟩ : ∃ r, r = ownF (builtV (.mk 9 b n fl tx bs rf ls es cl ver)) num deep := ⟨_, rfl⟩
  have hrr := Lib.hid hr
  rw [← hr]
  clear hr
  have hbel : ∀ cs : Array Value, Below w.heap.size w (w.alloc (.cells cs 31)) := fun cs => (Below.refl _ _).alloc (Nat.le_refl _) _
  by_cases h1 : 16384 ≤ num ∨ 64 < deep
  · have hf : r = 2 := by
      rw [hrr.out]; unfold ownF; rw [if_pos h1]; rw [builtV]; rfl
    by_cases h2 : 16384 ≤ num
    · clear h1
      go_enter Try.func188, Try.ntmps188
      go_wp2
      go_ret
      first | exact ⟨rfl, hbel _⟩ | exact ⟨by rw [hf]; rfl, hbel _⟩ | exact ⟨by rw [hf], hbel _⟩
    · have h3 : 64 < deep := by omega
      clear h1
      go_enter Try.func188, Try.ntmps188
      go_wp2
      go_ret
      first | exact ⟨rfl, hbel _⟩ | exact ⟨by rw [hf]; rfl, hbel _⟩ | exact ⟨by rw [hf], hbel _⟩
  have h2 : ¬ 16384 ≤ num := fun h => h1 (.inl h)
  have h3 : ¬ 64 < deep := fun h => h1 (.inr h)
  have hf := Lib.hid (show ownF (builtV (.mk 9 b n fl tx bs rf ls es cl ver)) num deep = fieldsF (es.map fun p => (p.1, builtV p.2)) by
    unfold ownF; rw [if_neg h1, builtV]; simp only [Int.reduceBEq, cond_true, cond_false, ownIn]; rw [builtEs_eq])
  by_cases h4 : 4096 < es.length
  · have hfin := Lib.hid (fieldsF_long (d := es.map fun p => (p.1, builtV p.2)) (by rw [List.length_map]; exact h4))
    have h5 : (4096 : Int) < ((es.length : Nat) : Int) := by omega
    clear h1
    go_enter Try.func188, Try.ntmps188
    go_wp2
    go_ret
    exact ⟨ret_int (hrr.out.trans (hf.out.trans hfin.out)).symm, hbel _⟩
  · skip
    have hbadF := Lib.hid (fun k => fieldsF_bad (d := es.map fun p => (p.1, builtV p.2)) (by rw [List.length_map]; omega) (k := k))
    have hokF := Lib.hid (fieldsF_ok (d := es.map fun p => (p.1, builtV p.2)) (by rw [List.length_map]; omega))
    have h5 : ¬ (4096 : Int) < ((es.length : Nat) : Int) := by omega
    clear h1
    go_enter Try.func188, Try.ntmps188
    go_wp2_with fail
    go_loopw [7] (fun i wr => ∃ k : Nat, k ≤ es.length ∧ i = .int .i64 k ∧ (∀ j, j < k → badName (es.map fun p => (p.1, builtV p.2)) j = false) ∧ Below w.heap.size w wr ∧ w.heap.size < wr.heap.size ∧ wr.cell? ⟨w.heap.size, 8, none⟩ = some (.slice oa es.length cap)) (fun i _ => es.length - (intOf i).toNat)
    case atStart => exact ⟨0, Nat.zero_le _, rfl, fun j hj => absurd hj (Nat.not_lt_zero _), hbel _, by simp, by simp [go_sem]⟩
    case round =>
      obtain ⟨k, hk, rfl, hpre, hb, hbs, hc8⟩ := hrel
      have hpreH := Lib.hid hpre
      clear hpre
      by_cases hlt : k < es.length
      · obtain ⟨b, o, rfl, hcells⟩ := hformH.out (by omega)
        obtain ⟨⟨s, t⟩, hp⟩ : ∃ p, es[k]? = some p := ⟨_, List.getElem?_eq_getElem hlt⟩
        obtain ⟨-, -, -, e0, -⟩ := hdat.out k _ hp
        have hpH : Hid ((es.map fun p => (p.1, builtV p.2))[k]? = some (s, builtV t)) := Lib.hid (by rw [List.getElem?_map, hp]; rfl)
        have hck := keeps_of_below hb _ _ ((hcells (k * 12) (by omega)).trans e0)
        have hname := refName_any s
        clear hp e0
        go_wp2_with fail
        cases hno : nameOk s with
        | false =>
          have hfin := Lib.hid (hbadF.out k (by rw [List.length_map]; exact hlt) (badName_name hpH.out hno))
          simp only [hno] at hname
          have hnameH := Lib.hid hname
          have hSk : ∀ w', Below wr.heap.size wr w' → w'.cell? ⟨w.heap.size, 8, none⟩ = some (.slice (some ⟨b, o, none⟩) es.length cap) ∧ w'.cell? ⟨b, o + k * 12, none⟩ = some (.string s) := fun w' hb' => ⟨keeps_of_below hb' _ _ hc8, keeps_of_below hb' _ _ hck⟩
          clear hname hno
          refine wp_region_held_drew (S := (fun w' => w'.cell? ⟨w.heap.size, 8, none⟩ = some (.slice (some ⟨b, o, none⟩) es.length cap) ∧ w'.cell? ⟨b, o + k * 12, none⟩ = some (.string s))) (by kernel_rfl) ?_ (fun hHeld => ?_)
          · exact hSk _ (Below.refl _ _).drew
          refine wpAnyH_take (i := 0) (v := ?vf0) rfl (by kernel_rfl) (by kernel_rfl) (by kernel_rfl) (fun _ _ _ h => h) (.inl ⟨by rfl, ?hyf0⟩) (by assumption) ?restf0
          case hyf0 => (intro w hSw; (try dsimp only at hSw); go_simp; first | done | with_reducible rfl)
          (try simp only [Act.put, pu1, pu2, pu3, pu4, pu5, pu6])
          refine wpAnyH_take (i := 1) (v := ?vf1) rfl (by kernel_rfl) (by kernel_rfl) (by kernel_rfl) (fun _ _ _ h => h) (.inl ⟨by rfl, ?hyf1⟩) (by assumption) ?restf1
          case hyf1 => (intro w hSw; (try dsimp only at hSw); go_simp; first | done | with_reducible rfl)
          (try simp only [Act.put, pu1, pu2, pu3, pu4, pu5, pu6])
          refine wpAnyH_take (i := 2) (v := ?vf2) rfl (by kernel_rfl) (by kernel_rfl) (by kernel_rfl) (fun _ _ _ h => h) (.inl ⟨by rfl, ?hyf2⟩) (by assumption) ?restf2
          case hyf2 => (intro w hSw; (try dsimp only at hSw); go_simp; first | done | with_reducible rfl)
          (try simp only [Act.put, pu1, pu2, pu3, pu4, pu5, pu6])
          refine wpAnyH_take (i := 3) (v := ?vf3) rfl (by kernel_rfl) (by kernel_rfl) (by kernel_rfl) (fun _ _ _ h => h) (.inl ⟨by rfl, ?hyf3⟩) (by assumption) ?restf3
          case hyf3 => (intro w hSw; (try dsimp only at hSw); go_simp; first | done | with_reducible rfl)
          (try simp only [Act.put, pu1, pu2, pu3, pu4, pu5, pu6])
          refine wpAnyH_take (i := 4) (v := ?vf4) rfl (by kernel_rfl) (by kernel_rfl) (by kernel_rfl) (fun _ _ _ h => h) (.inl ⟨by rfl, ?hyf4⟩) (by assumption) ?restf4
          case hyf4 => (intro w hSw; (try dsimp only at hSw); go_simp; first | done | with_reducible rfl)
          (try simp only [Act.put, pu1, pu2, pu3, pu4, pu5, pu6])
          refine wpAnyH_take (i := 5) (v := ?vf5) rfl (by kernel_rfl) (by kernel_rfl) (by kernel_rfl) (fun _ _ _ h => h) (.inl ⟨by rfl, ?hyf5⟩) (by assumption) ?restf5
          case hyf5 => (intro w hSw; (try dsimp only at hSw); go_simp; first | done | with_reducible rfl)
          (try simp only [Act.put, pu1, pu2, pu3, pu4, pu5, pu6])
          refine wpAnyH_ready (rs := [6]) (by kernel_rfl) (by simp) ?_
          refine AllReadyH.cons rfl (fun K hK => ?_) AllReadyH.nil
          rw [if_pos (by rfl)]
          go_simp
          refine (hnameH.out _).mono ?_
          rintro e w1 ⟨rfl, hb1⟩
          refine hK.out _ _ ?_ (fun hHeld2 => ?_)
          · exact hSk _ ((Below.refl _ _).drew.trans hb1)
          clear hK K
          (try simp only [Act.put, pu1, pu2, pu3, pu4, pu5, pu6])
          refine wpAnyH_take (i := 7) (v := ?vf7) rfl (by kernel_rfl) (by kernel_rfl) (by kernel_rfl) (fun _ _ _ h => h) (.inl ⟨by rfl, ?hyf7⟩) (by assumption) ?restf7
          case hyf7 => (intro w hSw; (try dsimp only at hSw); go_simp; first | done | with_reducible rfl)
          (try simp only [Act.put, pu1, pu2, pu3, pu4, pu5, pu6])
          refine wpAnyH_take (i := 8) (v := ?vf8) rfl (by kernel_rfl) (by kernel_rfl) (by kernel_rfl) (fun _ _ _ h => h) (.inl ⟨by rfl, ?hyf8⟩) (by assumption) ?restf8
          case hyf8 => (intro w hSw; (try dsimp only at hSw); go_simp; first | done | with_reducible rfl)
          (try simp only [Act.put, pu1, pu2, pu3, pu4, pu5, pu6])
          refine wpAnyH_take (i := 9) (v := undef) rfl (by kernel_rfl) (by kernel_rfl) (by kernel_rfl) (fun _ _ _ h => h) (.inr ⟨by rfl, rfl⟩) (by assumption) ?_
          (try simp only [Act.put, pu1, pu2, pu3, pu4, pu5, pu6])
          refine wpAnyH_take (i := 10) (v := undef) rfl (by kernel_rfl) (by kernel_rfl) (by kernel_rfl) (fun _ _ _ h => h) (.inr ⟨by rfl, rfl⟩) (by assumption) ?_
          (try simp only [Act.put, pu1, pu2, pu3, pu4, pu5, pu6])
          refine wpAnyH_take (i := 11) (v := undef) rfl (by kernel_rfl) (by kernel_rfl) (by kernel_rfl) (fun _ _ _ h => h) (.inr ⟨by rfl, rfl⟩) (by assumption) ?_
          (try simp only [Act.put, pu1, pu2, pu3, pu4, pu5, pu6])
          refine wpAnyH_take (i := 12) (v := undef) rfl (by kernel_rfl) (by kernel_rfl) (by kernel_rfl) (fun _ _ _ h => h) (.inr ⟨by rfl, rfl⟩) (by assumption) ?_
          (try simp only [Act.put, pu1, pu2, pu3, pu4, pu5, pu6])
          refine wpAnyH_take (i := 13) (v := undef) rfl (by kernel_rfl) (by kernel_rfl) (by kernel_rfl) (fun _ _ _ h => h) (.inr ⟨by rfl, rfl⟩) (by assumption) ?_
          (try simp only [Act.put, pu1, pu2, pu3, pu4, pu5, pu6])
          refine wpAnyH_take (i := 14) (v := undef) rfl (by kernel_rfl) (by kernel_rfl) (by kernel_rfl) (fun _ _ _ h => h) (.inr ⟨by rfl, rfl⟩) (by assumption) ?_
          (try simp only [Act.put, pu1, pu2, pu3, pu4, pu5, pu6])
          refine wpAnyH_take (i := 15) (v := undef) rfl (by kernel_rfl) (by kernel_rfl) (by kernel_rfl) (fun _ _ _ h => h) (.inr ⟨by rfl, rfl⟩) (by assumption) ?_
          (try simp only [Act.put, pu1, pu2, pu3, pu4, pu5, pu6])
          refine wpAnyH_take (i := 16) (v := undef) rfl (by kernel_rfl) (by kernel_rfl) (by kernel_rfl) (fun _ _ _ h => h) (.inr ⟨by rfl, rfl⟩) (by assumption) ?_
          (try simp only [Act.put, pu1, pu2, pu3, pu4, pu5, pu6])
          refine wpAnyH_take (i := 17) (v := undef) rfl (by kernel_rfl) (by kernel_rfl) (by kernel_rfl) (fun _ _ _ h => h) (.inr ⟨by rfl, rfl⟩) (by assumption) ?_
          (try simp only [Act.put, pu1, pu2, pu3, pu4, pu5, pu6])
          refine wpAnyH_take (i := 18) (v := undef) rfl (by kernel_rfl) (by kernel_rfl) (by kernel_rfl) (fun _ _ _ h => h) (.inr ⟨by rfl, rfl⟩) (by assumption) ?_
          (try simp only [Act.put, pu1, pu2, pu3, pu4, pu5, pu6])
          refine wpAnyH_take (i := 19) (v := undef) rfl (by kernel_rfl) (by kernel_rfl) (by kernel_rfl) (fun _ _ _ h => h) (.inr ⟨by rfl, rfl⟩) (by assumption) ?_
          (try simp only [Act.put, pu1, pu2, pu3, pu4, pu5, pu6])
          refine wpAnyH_take (i := 20) (v := undef) rfl (by kernel_rfl) (by kernel_rfl) (by kernel_rfl) (fun _ _ _ h => h) (.inr ⟨by rfl, rfl⟩) (by assumption) ?_
          (try simp only [Act.put, pu1, pu2, pu3, pu4, pu5, pu6])
          refine wpAnyH_take (i := 21) (v := undef) rfl (by kernel_rfl) (by kernel_rfl) (by kernel_rfl) (fun _ _ _ h => h) (.inr ⟨by rfl, rfl⟩) (by assumption) ?_
          (try simp only [Act.put, pu1, pu2, pu3, pu4, pu5, pu6])
          refine wpAnyH_take (i := 22) (v := undef) rfl (by kernel_rfl) (by kernel_rfl) (by kernel_rfl) (fun _ _ _ h => h) (.inr ⟨by rfl, rfl⟩) (by assumption) ?_
          (try simp only [Act.put, pu1, pu2, pu3, pu4, pu5, pu6])
          refine wpAnyH_take (i := 23) (v := undef) rfl (by kernel_rfl) (by kernel_rfl) (by kernel_rfl) (fun _ _ _ h => h) (.inr ⟨by rfl, rfl⟩) (by assumption) ?_
          (try simp only [Act.put, pu1, pu2, pu3, pu4, pu5, pu6])
          refine wpAnyH_take (i := 24) (v := undef) rfl (by kernel_rfl) (by kernel_rfl) (by kernel_rfl) (fun _ _ _ h => h) (.inr ⟨by rfl, rfl⟩) (by assumption) ?_
          (try simp only [Act.put, pu1, pu2, pu3, pu4, pu5, pu6])
          refine wpAnyH_take (i := 25) (v := undef) rfl (by kernel_rfl) (by kernel_rfl) (by kernel_rfl) (fun _ _ _ h => h) (.inr ⟨by rfl, rfl⟩) (by assumption) ?_
          (try simp only [Act.put, pu1, pu2, pu3, pu4, pu5, pu6])
          refine wpAnyH_take (i := 26) (v := undef) rfl (by kernel_rfl) (by kernel_rfl) (by kernel_rfl) (fun _ _ _ h => h) (.inr ⟨by rfl, rfl⟩) (by assumption) ?_
          (try simp only [Act.put, pu1, pu2, pu3, pu4, pu5, pu6])
          refine wpAnyH_take (i := 27) (v := ?vf27) rfl (by kernel_rfl) (by kernel_rfl) (by kernel_rfl) (fun _ _ _ h => h) (.inl ⟨by rfl, ?hyf27⟩) (by assumption) ?restf27
          case hyf27 => (intro w hSw; (try dsimp only at hSw); go_simp; first | done | with_reducible rfl)
          (try simp only [Act.put, pu1, pu2, pu3, pu4, pu5, pu6])
          refine wpAnyH_done (by kernel_rfl) ?_ _
          go_wp2_with fail
          go_ret
          exact ⟨ret_int (hrr.out.trans (hf.out.trans hfin.out)).symm, hb.drew.trans (hb1.mono hb.size)⟩
        | true =>
          simp only [hno] at hname
          have hnameH := Lib.hid hname
          clear hname
          by_cases hk0 : k = 0
          · have hbad := Lib.hid (badName_zero hk0 hpH.out hno)
            have hkz : ((k : Nat) : Int) ≤ 0 := by omega
            have hkd : decide ((0 : Nat) < k) = false := by simp; omega
            have hSk : ∀ w', Below wr.heap.size wr w' → w'.cell? ⟨w.heap.size, 8, none⟩ = some (.slice (some ⟨b, o, none⟩) es.length cap) ∧ w'.cell? ⟨b, o + k * 12, none⟩ = some (.string s) := fun w' hb' => ⟨keeps_of_below hb' _ _ hc8, keeps_of_below hb' _ _ hck⟩
            have hc8H := Lib.hid hc8
            clear hk0 hno
            refine wp_region_held_drew (S := (fun w' => w'.cell? ⟨w.heap.size, 8, none⟩ = some (.slice (some ⟨b, o, none⟩) es.length cap) ∧ w'.cell? ⟨b, o + k * 12, none⟩ = some (.string s))) (by kernel_rfl) ?_ (fun hHeld => ?_)
            · exact hSk _ (Below.refl _ _).drew
            refine wpAnyH_take (i := 0) (v := ?vz0) rfl (by kernel_rfl) (by kernel_rfl) (by kernel_rfl) (fun _ _ _ h => h) (.inl ⟨by rfl, ?hyz0⟩) (by assumption) ?restz0
            case hyz0 => (intro w hSw; (try dsimp only at hSw); go_simp; first | done | with_reducible rfl)
            (try simp only [Act.put, pu1, pu2, pu3, pu4, pu5, pu6])
            refine wpAnyH_take (i := 1) (v := ?vz1) rfl (by kernel_rfl) (by kernel_rfl) (by kernel_rfl) (fun _ _ _ h => h) (.inl ⟨by rfl, ?hyz1⟩) (by assumption) ?restz1
            case hyz1 => (intro w hSw; (try dsimp only at hSw); go_simp; first | done | with_reducible rfl)
            (try simp only [Act.put, pu1, pu2, pu3, pu4, pu5, pu6])
            refine wpAnyH_take (i := 2) (v := ?vz2) rfl (by kernel_rfl) (by kernel_rfl) (by kernel_rfl) (fun _ _ _ h => h) (.inl ⟨by rfl, ?hyz2⟩) (by assumption) ?restz2
            case hyz2 => (intro w hSw; (try dsimp only at hSw); go_simp; first | done | with_reducible rfl)
            (try simp only [Act.put, pu1, pu2, pu3, pu4, pu5, pu6])
            refine wpAnyH_take (i := 3) (v := ?vz3) rfl (by kernel_rfl) (by kernel_rfl) (by kernel_rfl) (fun _ _ _ h => h) (.inl ⟨by rfl, ?hyz3⟩) (by assumption) ?restz3
            case hyz3 => (intro w hSw; (try dsimp only at hSw); go_simp; first | done | with_reducible rfl)
            (try simp only [Act.put, pu1, pu2, pu3, pu4, pu5, pu6])
            refine wpAnyH_take (i := 4) (v := ?vz4) rfl (by kernel_rfl) (by kernel_rfl) (by kernel_rfl) (fun _ _ _ h => h) (.inl ⟨by rfl, ?hyz4⟩) (by assumption) ?restz4
            case hyz4 => (intro w hSw; (try dsimp only at hSw); go_simp; first | done | with_reducible rfl)
            (try simp only [Act.put, pu1, pu2, pu3, pu4, pu5, pu6])
            refine wpAnyH_take (i := 5) (v := ?vz5) rfl (by kernel_rfl) (by kernel_rfl) (by kernel_rfl) (fun _ _ _ h => h) (.inl ⟨by rfl, ?hyz5⟩) (by assumption) ?restz5
            case hyz5 => (intro w hSw; (try dsimp only at hSw); go_simp; first | done | with_reducible rfl)
            (try simp only [Act.put, pu1, pu2, pu3, pu4, pu5, pu6])
            refine wpAnyH_ready (rs := [6]) (by kernel_rfl) (by simp) ?_
            refine AllReadyH.cons rfl (fun K hK => ?_) AllReadyH.nil
            rw [if_pos (by rfl)]
            go_simp
            refine (hnameH.out _).mono ?_
            rintro e w1 ⟨rfl, hb1⟩
            refine hK.out _ _ ?_ (fun hHeld2 => ?_)
            · exact hSk _ ((Below.refl _ _).drew.trans hb1)
            clear hK K
            (try simp only [Act.put, pu1, pu2, pu3, pu4, pu5, pu6])
            refine wpAnyH_take (i := 7) (v := ?vz7) rfl (by kernel_rfl) (by kernel_rfl) (by kernel_rfl) (fun _ _ _ h => h) (.inl ⟨by rfl, ?hyz7⟩) (by assumption) ?restz7
            case hyz7 => (intro w hSw; (try dsimp only at hSw); go_simp; first | done | with_reducible rfl)
            (try simp only [Act.put, pu1, pu2, pu3, pu4, pu5, pu6])
            refine wpAnyH_take (i := 8) (v := ?vz8) rfl (by kernel_rfl) (by kernel_rfl) (by kernel_rfl) (fun _ _ _ h => h) (.inl ⟨by rfl, ?hyz8⟩) (by assumption) ?restz8
            case hyz8 => (intro w hSw; (try dsimp only at hSw); go_simp; first | done | with_reducible rfl)
            (try simp only [Act.put, pu1, pu2, pu3, pu4, pu5, pu6])
            refine wpAnyH_take (i := 9) (v := ?vz9) rfl (by kernel_rfl) (by kernel_rfl) (by kernel_rfl) (fun _ _ _ h => h) (.inl ⟨by rfl, ?hyz9⟩) (by assumption) ?restz9
            case hyz9 => (intro w hSw; (try dsimp only at hSw); go_simp; first | done | with_reducible rfl)
            (try simp only [Act.put, pu1, pu2, pu3, pu4, pu5, pu6])
            refine wpAnyH_take (i := 10) (v := ?vz10) rfl (by kernel_rfl) (by kernel_rfl) (by kernel_rfl) (fun _ _ _ h => h) (.inl ⟨by rfl, ?hyz10⟩) (by assumption) ?restz10
            case hyz10 => (intro w hSw; (try dsimp only at hSw); go_simp; first | done | with_reducible rfl)
            (try simp only [Act.put, pu1, pu2, pu3, pu4, pu5, pu6])
            refine wpAnyH_take (i := 11) (v := ?vz11) rfl (by kernel_rfl) (by kernel_rfl) (by kernel_rfl) (fun _ _ _ h => h) (.inl ⟨by rfl, ?hyz11⟩) (by assumption) ?restz11
            case hyz11 => (intro w hSw; (try dsimp only at hSw); go_simp; first | done | with_reducible rfl)
            (try simp only [Act.put, pu1, pu2, pu3, pu4, pu5, pu6])
            refine wpAnyH_take (i := 12) (v := undef) rfl (by kernel_rfl) (by kernel_rfl) (by kernel_rfl) (fun _ _ _ h => h) (.inr ⟨by rfl, rfl⟩) (by assumption) ?_
            (try simp only [Act.put, pu1, pu2, pu3, pu4, pu5, pu6])
            refine wpAnyH_take (i := 13) (v := undef) rfl (by kernel_rfl) (by kernel_rfl) (by kernel_rfl) (fun _ _ _ h => h) (.inr ⟨by rfl, rfl⟩) (by assumption) ?_
            (try simp only [Act.put, pu1, pu2, pu3, pu4, pu5, pu6])
            refine wpAnyH_take (i := 14) (v := undef) rfl (by kernel_rfl) (by kernel_rfl) (by kernel_rfl) (fun _ _ _ h => h) (.inr ⟨by rfl, rfl⟩) (by assumption) ?_
            (try simp only [Act.put, pu1, pu2, pu3, pu4, pu5, pu6])
            refine wpAnyH_take (i := 15) (v := undef) rfl (by kernel_rfl) (by kernel_rfl) (by kernel_rfl) (fun _ _ _ h => h) (.inr ⟨by rfl, rfl⟩) (by assumption) ?_
            (try simp only [Act.put, pu1, pu2, pu3, pu4, pu5, pu6])
            refine wpAnyH_take (i := 16) (v := undef) rfl (by kernel_rfl) (by kernel_rfl) (by kernel_rfl) (fun _ _ _ h => h) (.inr ⟨by rfl, rfl⟩) (by assumption) ?_
            (try simp only [Act.put, pu1, pu2, pu3, pu4, pu5, pu6])
            refine wpAnyH_take (i := 17) (v := undef) rfl (by kernel_rfl) (by kernel_rfl) (by kernel_rfl) (fun _ _ _ h => h) (.inr ⟨by rfl, rfl⟩) (by assumption) ?_
            (try simp only [Act.put, pu1, pu2, pu3, pu4, pu5, pu6])
            refine wpAnyH_take (i := 18) (v := undef) rfl (by kernel_rfl) (by kernel_rfl) (by kernel_rfl) (fun _ _ _ h => h) (.inr ⟨by rfl, rfl⟩) (by assumption) ?_
            (try simp only [Act.put, pu1, pu2, pu3, pu4, pu5, pu6])
            refine wpAnyH_take (i := 19) (v := undef) rfl (by kernel_rfl) (by kernel_rfl) (by kernel_rfl) (fun _ _ _ h => h) (.inr ⟨by rfl, rfl⟩) (by assumption) ?_
            (try simp only [Act.put, pu1, pu2, pu3, pu4, pu5, pu6])
            refine wpAnyH_take (i := 20) (v := undef) rfl (by kernel_rfl) (by kernel_rfl) (by kernel_rfl) (fun _ _ _ h => h) (.inr ⟨by rfl, rfl⟩) (by assumption) ?_
            (try simp only [Act.put, pu1, pu2, pu3, pu4, pu5, pu6])
            refine wpAnyH_take (i := 21) (v := undef) rfl (by kernel_rfl) (by kernel_rfl) (by kernel_rfl) (fun _ _ _ h => h) (.inr ⟨by rfl, rfl⟩) (by assumption) ?_
            (try simp only [Act.put, pu1, pu2, pu3, pu4, pu5, pu6])
            refine wpAnyH_take (i := 22) (v := undef) rfl (by kernel_rfl) (by kernel_rfl) (by kernel_rfl) (fun _ _ _ h => h) (.inr ⟨by rfl, rfl⟩) (by assumption) ?_
            (try simp only [Act.put, pu1, pu2, pu3, pu4, pu5, pu6])
            refine wpAnyH_take (i := 23) (v := undef) rfl (by kernel_rfl) (by kernel_rfl) (by kernel_rfl) (fun _ _ _ h => h) (.inr ⟨by rfl, rfl⟩) (by assumption) ?_
            (try simp only [Act.put, pu1, pu2, pu3, pu4, pu5, pu6])
            refine wpAnyH_take (i := 24) (v := undef) rfl (by kernel_rfl) (by kernel_rfl) (by kernel_rfl) (fun _ _ _ h => h) (.inr ⟨by rfl, rfl⟩) (by assumption) ?_
            (try simp only [Act.put, pu1, pu2, pu3, pu4, pu5, pu6])
            refine wpAnyH_take (i := 25) (v := undef) rfl (by kernel_rfl) (by kernel_rfl) (by kernel_rfl) (fun _ _ _ h => h) (.inr ⟨by rfl, rfl⟩) (by assumption) ?_
            (try simp only [Act.put, pu1, pu2, pu3, pu4, pu5, pu6])
            refine wpAnyH_take (i := 26) (v := ?vz26) rfl (by kernel_rfl) (by kernel_rfl) (by kernel_rfl) (fun _ _ _ h => h) (.inl ⟨by rfl, ?hyz26⟩) (by assumption) ?restz26
            case hyz26 => (intro w hSw; (try dsimp only at hSw); go_simp; first | done | with_reducible rfl)
            (try simp only [Act.put, pu1, pu2, pu3, pu4, pu5, pu6])
            refine wpAnyH_take (i := 27) (v := ?vz27) rfl (by kernel_rfl) (by kernel_rfl) (by kernel_rfl) (fun _ _ _ h => h) (.inl ⟨by rfl, ?hyz27⟩) (by assumption) ?restz27
            case hyz27 => (intro w hSw; (try dsimp only at hSw); go_simp; first | done | with_reducible rfl)
            (try simp only [Act.put, pu1, pu2, pu3, pu4, pu5, pu6])
            refine wpAnyH_done (by kernel_rfl) ?_ _
            go_wp2_with fail
            go_roundw
            case rel => exact ⟨k + 1, by omega, by go_num, all_snoc hpreH hbad.out, hb.drew.trans (hb1.mono hb.size), Nat.lt_of_lt_of_le hbs hb1.size, (hSk _ ((Below.refl _ _).drew.trans hb1)).1⟩
            case measure => simp [intOf]; omega
          · obtain ⟨j, hj⟩ : ∃ j, k = j + 1 := ⟨k - 1, by omega⟩
            obtain ⟨⟨q, vq⟩, hq⟩ : ∃ p, es[j]? = some p := ⟨_, List.getElem?_eq_getElem (by omega)⟩
            obtain ⟨-, -, -, eq0, -⟩ := hdat.out j _ hq
            have hqH : (es.map fun p => (p.1, builtV p.2))[j]? = some (q, builtV vq) := by rw [List.getElem?_map, hq]; rfl
            have hbad := Lib.hid (badName_succ hj hpH.out hqH hno)
            have hcj := keeps_of_below hb _ _ ((hcells (j * 12) (by omega)).trans eq0)
            obtain ⟨B, hB⟩ : ∃ B, B = leS s q := ⟨_, rfl⟩
            have hBl := Lib.hid hB
            have hle : (Op.bytesLess s.toList q.toList || s.toList == q.toList) = B := hB.symm
            clear hB
            have hw1 : IntKind.i64.wrap ((k : Int) - 1) = (j : Int) := by rw [IntWalk.i64_in _ (by omega)]; omega
            have hj0 : (0 : Int) ≤ (j : Int) := by omega
            have hj1 : (j : Int) < ((es.length : Nat) : Int) := by omega
            have hkd : decide ((0 : Nat) < k) = true := by simp; omega
            have hSk : ∀ w', Below wr.heap.size wr w' → w'.cell? ⟨w.heap.size, 8, none⟩ = some (.slice (some ⟨b, o, none⟩) es.length cap) ∧ w'.cell? ⟨b, o + k * 12, none⟩ = some (.string s) ∧ w'.cell? ⟨b, o + j * 12, none⟩ = some (.string q) := fun w' hb' => ⟨keeps_of_below hb' _ _ hc8, keeps_of_below hb' _ _ hck, keeps_of_below hb' _ _ hcj⟩
            clear hk0 hno hq eq0 hj hqH
            refine wp_region_held_drew (S := (fun w' => w'.cell? ⟨w.heap.size, 8, none⟩ = some (.slice (some ⟨b, o, none⟩) es.length cap) ∧ w'.cell? ⟨b, o + k * 12, none⟩ = some (.string s) ∧ w'.cell? ⟨b, o + j * 12, none⟩ = some (.string q))) (by kernel_rfl) ?_ (fun hHeld => ?_)
            · exact hSk _ (Below.refl _ _).drew
            refine wpAnyH_take (i := 0) (v := ?vq0) rfl (by kernel_rfl) (by kernel_rfl) (by kernel_rfl) (fun _ _ _ h => h) (.inl ⟨by rfl, ?hyq0⟩) (by assumption) ?restq0
            case hyq0 => (intro w hSw; (try dsimp only at hSw); go_simp; first | done | with_reducible rfl)
            (try simp only [Act.put, pu1, pu2, pu3, pu4, pu5, pu6])
            refine wpAnyH_take (i := 1) (v := ?vq1) rfl (by kernel_rfl) (by kernel_rfl) (by kernel_rfl) (fun _ _ _ h => h) (.inl ⟨by rfl, ?hyq1⟩) (by assumption) ?restq1
            case hyq1 => (intro w hSw; (try dsimp only at hSw); go_simp; first | done | with_reducible rfl)
            (try simp only [Act.put, pu1, pu2, pu3, pu4, pu5, pu6])
            refine wpAnyH_take (i := 2) (v := ?vq2) rfl (by kernel_rfl) (by kernel_rfl) (by kernel_rfl) (fun _ _ _ h => h) (.inl ⟨by rfl, ?hyq2⟩) (by assumption) ?restq2
            case hyq2 => (intro w hSw; (try dsimp only at hSw); go_simp; first | done | with_reducible rfl)
            (try simp only [Act.put, pu1, pu2, pu3, pu4, pu5, pu6])
            refine wpAnyH_take (i := 3) (v := ?vq3) rfl (by kernel_rfl) (by kernel_rfl) (by kernel_rfl) (fun _ _ _ h => h) (.inl ⟨by rfl, ?hyq3⟩) (by assumption) ?restq3
            case hyq3 => (intro w hSw; (try dsimp only at hSw); go_simp; first | done | with_reducible rfl)
            (try simp only [Act.put, pu1, pu2, pu3, pu4, pu5, pu6])
            refine wpAnyH_take (i := 4) (v := ?vq4) rfl (by kernel_rfl) (by kernel_rfl) (by kernel_rfl) (fun _ _ _ h => h) (.inl ⟨by rfl, ?hyq4⟩) (by assumption) ?restq4
            case hyq4 => (intro w hSw; (try dsimp only at hSw); go_simp; first | done | with_reducible rfl)
            (try simp only [Act.put, pu1, pu2, pu3, pu4, pu5, pu6])
            refine wpAnyH_take (i := 5) (v := ?vq5) rfl (by kernel_rfl) (by kernel_rfl) (by kernel_rfl) (fun _ _ _ h => h) (.inl ⟨by rfl, ?hyq5⟩) (by assumption) ?restq5
            case hyq5 => (intro w hSw; (try dsimp only at hSw); go_simp; first | done | with_reducible rfl)
            (try simp only [Act.put, pu1, pu2, pu3, pu4, pu5, pu6])
            refine wpAnyH_ready (rs := [6]) (by kernel_rfl) (by simp) ?_
            refine AllReadyH.cons rfl (fun K hK => ?_) AllReadyH.nil
            rw [if_pos (by rfl)]
            go_simp
            refine (hnameH.out _).mono ?_
            rintro e w1 ⟨rfl, hb1⟩
            refine hK.out _ _ ?_ (fun hHeld2 => ?_)
            · exact hSk _ ((Below.refl _ _).drew.trans hb1)
            clear hK K
            (try simp only [Act.put, pu1, pu2, pu3, pu4, pu5, pu6])
            refine wpAnyH_take (i := 7) (v := ?vq7) rfl (by kernel_rfl) (by kernel_rfl) (by kernel_rfl) (fun _ _ _ h => h) (.inl ⟨by rfl, ?hyq7⟩) (by assumption) ?restq7
            case hyq7 => (intro w hSw; (try dsimp only at hSw); go_simp; first | done | with_reducible rfl)
            (try simp only [Act.put, pu1, pu2, pu3, pu4, pu5, pu6])
            refine wpAnyH_take (i := 8) (v := ?vq8) rfl (by kernel_rfl) (by kernel_rfl) (by kernel_rfl) (fun _ _ _ h => h) (.inl ⟨by rfl, ?hyq8⟩) (by assumption) ?restq8
            case hyq8 => (intro w hSw; (try dsimp only at hSw); go_simp; first | done | with_reducible rfl)
            (try simp only [Act.put, pu1, pu2, pu3, pu4, pu5, pu6])
            refine wpAnyH_take (i := 9) (v := ?vq9) rfl (by kernel_rfl) (by kernel_rfl) (by kernel_rfl) (fun _ _ _ h => h) (.inl ⟨by rfl, ?hyq9⟩) (by assumption) ?restq9
            case hyq9 => (intro w hSw; (try dsimp only at hSw); go_simp; first | done | with_reducible rfl)
            (try simp only [Act.put, pu1, pu2, pu3, pu4, pu5, pu6])
            refine wpAnyH_take (i := 10) (v := ?vq10) rfl (by kernel_rfl) (by kernel_rfl) (by kernel_rfl) (fun _ _ _ h => h) (.inl ⟨by rfl, ?hyq10⟩) (by assumption) ?restq10
            case hyq10 => (intro w hSw; (try dsimp only at hSw); go_simp; first | done | with_reducible rfl)
            (try simp only [Act.put, pu1, pu2, pu3, pu4, pu5, pu6])
            refine wpAnyH_take (i := 11) (v := ?vq11) rfl (by kernel_rfl) (by kernel_rfl) (by kernel_rfl) (fun _ _ _ h => h) (.inl ⟨by rfl, ?hyq11⟩) (by assumption) ?restq11
            case hyq11 => (intro w hSw; (try dsimp only at hSw); go_simp; first | done | with_reducible rfl)
            (try simp only [Act.put, pu1, pu2, pu3, pu4, pu5, pu6])
            refine wpAnyH_take (i := 12) (v := ?vq12) rfl (by kernel_rfl) (by kernel_rfl) (by kernel_rfl) (fun _ _ _ h => h) (.inl ⟨by rfl, ?hyq12⟩) (by assumption) ?restq12
            case hyq12 => (intro w hSw; (try dsimp only at hSw); go_simp; first | done | with_reducible rfl)
            (try simp only [Act.put, pu1, pu2, pu3, pu4, pu5, pu6])
            refine wpAnyH_take (i := 13) (v := ?vq13) rfl (by kernel_rfl) (by kernel_rfl) (by kernel_rfl) (fun _ _ _ h => h) (.inl ⟨by rfl, ?hyq13⟩) (by assumption) ?restq13
            case hyq13 => (intro w hSw; (try dsimp only at hSw); go_simp; first | done | with_reducible rfl)
            (try simp only [Act.put, pu1, pu2, pu3, pu4, pu5, pu6])
            refine wpAnyH_take (i := 14) (v := ?vq14) rfl (by kernel_rfl) (by kernel_rfl) (by kernel_rfl) (fun _ _ _ h => h) (.inl ⟨by rfl, ?hyq14⟩) (by assumption) ?restq14
            case hyq14 => (intro w hSw; (try dsimp only at hSw); go_simp; first | done | with_reducible rfl)
            (try simp only [Act.put, pu1, pu2, pu3, pu4, pu5, pu6])
            refine wpAnyH_take (i := 15) (v := ?vq15) rfl (by kernel_rfl) (by kernel_rfl) (by kernel_rfl) (fun _ _ _ h => h) (.inl ⟨by rfl, ?hyq15⟩) (by assumption) ?restq15
            case hyq15 => (intro w hSw; (try dsimp only at hSw); go_simp; first | done | with_reducible rfl)
            (try simp only [Act.put, pu1, pu2, pu3, pu4, pu5, pu6])
            refine wpAnyH_take (i := 16) (v := ?vq16) rfl (by kernel_rfl) (by kernel_rfl) (by kernel_rfl) (fun _ _ _ h => h) (.inl ⟨by rfl, ?hyq16⟩) (by assumption) ?restq16
            case hyq16 => (intro w hSw; (try dsimp only at hSw); go_simp; first | done | with_reducible rfl)
            (try simp only [Act.put, pu1, pu2, pu3, pu4, pu5, pu6])
            refine wpAnyH_take (i := 17) (v := ?vq17) rfl (by kernel_rfl) (by kernel_rfl) (by kernel_rfl) (fun _ _ _ h => h) (.inl ⟨by rfl, ?hyq17⟩) (by assumption) ?restq17
            case hyq17 => (intro w hSw; (try dsimp only at hSw); go_simp; first | done | with_reducible rfl)
            (try simp only [Act.put, pu1, pu2, pu3, pu4, pu5, pu6])
            refine wpAnyH_take (i := 18) (v := ?vq18) rfl (by kernel_rfl) (by kernel_rfl) (by kernel_rfl) (fun _ _ _ h => h) (.inl ⟨by rfl, ?hyq18⟩) (by assumption) ?restq18
            case hyq18 => (intro w hSw; (try dsimp only at hSw); go_simp; first | done | with_reducible rfl)
            (try simp only [Act.put, pu1, pu2, pu3, pu4, pu5, pu6])
            refine wpAnyH_take (i := 19) (v := ?vq19) rfl (by kernel_rfl) (by kernel_rfl) (by kernel_rfl) (fun _ _ _ h => h) (.inl ⟨by rfl, ?hyq19⟩) (by assumption) ?restq19
            case hyq19 => (intro w hSw; (try dsimp only at hSw); go_simp; first | done | with_reducible rfl)
            (try simp only [Act.put, pu1, pu2, pu3, pu4, pu5, pu6])
            refine wpAnyH_take (i := 20) (v := ?vq20) rfl (by kernel_rfl) (by kernel_rfl) (by kernel_rfl) (fun _ _ _ h => h) (.inl ⟨by rfl, ?hyq20⟩) (by assumption) ?restq20
            case hyq20 => (intro w hSw; (try dsimp only at hSw); go_simp; first | done | with_reducible rfl)
            (try simp only [Act.put, pu1, pu2, pu3, pu4, pu5, pu6])
            refine wpAnyH_take (i := 21) (v := ?vq21) rfl (by kernel_rfl) (by kernel_rfl) (by kernel_rfl) (fun _ _ _ h => h) (.inl ⟨by rfl, ?hyq21⟩) (by assumption) ?restq21
            case hyq21 => (intro w hSw; (try dsimp only at hSw); go_simp; first | done | with_reducible rfl)
            (try simp only [Act.put, pu1, pu2, pu3, pu4, pu5, pu6])
            refine wpAnyH_take (i := 22) (v := ?vq22) rfl (by kernel_rfl) (by kernel_rfl) (by kernel_rfl) (fun _ _ _ h => h) (.inl ⟨by rfl, ?hyq22⟩) (by assumption) ?restq22
            case hyq22 => (intro w hSw; (try dsimp only at hSw); go_simp; first | done | with_reducible rfl)
            (try simp only [Act.put, pu1, pu2, pu3, pu4, pu5, pu6])
            refine wpAnyH_take (i := 23) (v := ?vq23) rfl (by kernel_rfl) (by kernel_rfl) (by kernel_rfl) (fun _ _ _ h => h) (.inl ⟨by rfl, ?hyq23⟩) (by assumption) ?restq23
            case hyq23 => (intro w hSw; (try dsimp only at hSw); go_simp; first | done | with_reducible rfl)
            (try simp only [Act.put, pu1, pu2, pu3, pu4, pu5, pu6])
            refine wpAnyH_take (i := 24) (v := ?vq24) rfl (by kernel_rfl) (by kernel_rfl) (by kernel_rfl) (fun _ _ _ h => h) (.inl ⟨by rfl, ?hyq24⟩) (by assumption) ?restq24
            case hyq24 => (intro w hSw; (try dsimp only at hSw); go_simp; first | done | with_reducible rfl)
            (try simp only [Act.put, pu1, pu2, pu3, pu4, pu5, pu6])
            refine wpAnyH_take (i := 25) (v := ?vq25) rfl (by kernel_rfl) (by kernel_rfl) (by kernel_rfl) (fun _ _ _ h => h) (.inl ⟨by rfl, ?hyq25⟩) (by assumption) ?restq25
            case hyq25 => (intro w hSw; (try dsimp only at hSw); go_simp; first | done | with_reducible rfl)
            (try simp only [Act.put, pu1, pu2, pu3, pu4, pu5, pu6])
            refine wpAnyH_take (i := 26) (v := ?vq26) rfl (by kernel_rfl) (by kernel_rfl) (by kernel_rfl) (fun _ _ _ h => h) (.inl ⟨by rfl, ?hyq26⟩) (by assumption) ?restq26
            case hyq26 => (intro w hSw; (try dsimp only at hSw); go_simp; first | done | with_reducible rfl)
            (try simp only [Act.put, pu1, pu2, pu3, pu4, pu5, pu6])
            refine wpAnyH_take (i := 27) (v := ?vq27) rfl (by kernel_rfl) (by kernel_rfl) (by kernel_rfl) (fun _ _ _ h => h) (.inl ⟨by rfl, ?hyq27⟩) (by assumption) ?restq27
            case hyq27 => (intro w hSw; (try dsimp only at hSw); go_simp; first | done | with_reducible rfl)
            (try simp only [Act.put, pu1, pu2, pu3, pu4, pu5, pu6])
            refine wpAnyH_done (by kernel_rfl) ?_ _
            go_wp2_with fail
            · rename_i hB
              go_ret
              exact ⟨ret_int (hrr.out.trans (hf.out.trans (hbadF.out k (by rw [List.length_map]; exact hlt) (hbad.out.trans (hBl.out.symm.trans hB))))).symm, hb.drew.trans (hb1.mono hb.size)⟩
            · rename_i hB
              go_roundw
              case rel => exact ⟨k + 1, by omega, by go_num, all_snoc hpreH (hbad.out.trans (hBl.out.symm.trans hB)), hb.drew.trans (hb1.mono hb.size), Nat.lt_of_lt_of_le hbs hb1.size, (hSk _ ((Below.refl _ _).drew.trans hb1)).1⟩
              case measure => simp [intOf]; omega
      · obtain rfl : k = es.length := by omega
        go_wp2_with fail
        go_ret
        exact ⟨ret_int (hrr.out.trans (hf.out.trans (hokF.out (by rw [List.length_map]; exact hpreH.out)))).symm, hb⟩

end
end Go.Proofs.Ytgmdbpplfjkjmaa

/-! tenonref01.own of records. -/
namespace Go.Proofs.Ytgmdbpplfjkjmaa
open Go.RowKit
set_option linter.unusedVariables false
set_option linter.unusedSimpArgs false

section
variable (b : Bool) (n : Int) (fl : Nat) (tx : ByteArray) (bs : List UInt8) (rf : Int) (ls : List Term) (es : List (ByteArray × Term)) (cl : ByteArray) (ver : Int)

set_option maxRecDepth 100000 in
set_option maxHeartbeats 1600000 in
theorem refOwn_record (cs : List Value) (w : World) (num deep : Int) (h : TRep w (.mk 10 b n fl tx bs rf ls es cl ver) cs) :
    Calls Try.prog 188 #[.agg cs.toArray, .int .i64 num, .int .i64 deep] w fun e w' => e = .returned (.int .i64 (ownF (builtV (.mk 10 b n fl tx bs rf ls es cl ver)) num deep)) ∧ Below w.heap.size w w' := by
  simp only [TRep] at h
  obtain ⟨sb, sl, se, xl, xe, rfl, -, -, -, -, ⟨oa, cap, rfl, hcap, hmax, hsm, -, -, hform⟩, hes⟩ := h
  unfold maxLen at hmax
  have hdat := Lib.hid (EsRep.at es xe hes)
  have hformH := Lib.hid hform
  clear hform hes
  obtain ⟨r, hr⟩ : ∃ r, r = ownF (builtV (.mk 10 b n fl tx bs rf ls es cl ver)) num deep := ⟨_, rfl⟩
  have hrr := Lib.hid hr
  rw [← hr]
  clear hr
  have hbel : ∀ cs : Array Value, Below w.heap.size w (w.alloc (.cells cs 31)) := fun cs => (Below.refl _ _).alloc (Nat.le_refl _) _
  by_cases h1 : 16384 ≤ num ∨ 64 < deep
  · have hf : r = 2 := by
      rw [hrr.out]; unfold ownF; rw [if_pos h1]; rw [builtV]; rfl
    by_cases h2 : 16384 ≤ num
    · clear h1
      go_enter Try.func188, Try.ntmps188
      go_wp2
      go_ret
      first | exact ⟨rfl, hbel _⟩ | exact ⟨by rw [hf]; rfl, hbel _⟩ | exact ⟨by rw [hf], hbel _⟩
    · have h3 : 64 < deep := by omega
      clear h1
      go_enter Try.func188, Try.ntmps188
      go_wp2
      go_ret
      first | exact ⟨rfl, hbel _⟩ | exact ⟨by rw [hf]; rfl, hbel _⟩ | exact ⟨by rw [hf], hbel _⟩
  have h2 : ¬ 16384 ≤ num := fun h => h1 (.inl h)
  have h3 : ¬ 64 < deep := fun h => h1 (.inr h)
  cases hno0 : nameOk cl with
  | false =>
    have hf := Lib.hid (show ownF (builtV (.mk 10 b n fl tx bs rf ls es cl ver)) num deep = 8 from by
    unfold ownF; rw [if_neg h1, builtV]; simp only [Int.reduceBEq, cond_true, cond_false, ownIn]; rw [if_pos hno0])
    have hnm := fun W => refName_any cl W
    simp only [hno0] at hnm
    have hnmH := Lib.hid hnm
    clear hnm hno0 h1
    go_enter Try.func188, Try.ntmps188
    go_wp2_with fail
    refine (hnmH.out _).mono ?_
    rintro e w1 ⟨rfl, hbn⟩
    have q0 : w1.cell? ⟨w.heap.size, 0, none⟩ = some (.int .i64 10) := (hbn.cell (p := ⟨w.heap.size, 0, none⟩) (by simp)).trans (by simp [go_sem])
    have q8 : w1.cell? ⟨w.heap.size, 8, none⟩ = some (.slice oa es.length cap) := (hbn.cell (p := ⟨w.heap.size, 8, none⟩) (by simp)).trans (by simp [go_sem])
    have q10 : w1.cell? ⟨w.heap.size, 10, none⟩ = some (.int .i64 ver) := (hbn.cell (p := ⟨w.heap.size, 10, none⟩) (by simp)).trans (by simp [go_sem])
    have hbw : Below w.heap.size w w1 := (hbel _).trans (below_le hbn (by simp))
    have hsw : w.heap.size < w1.heap.size := by have := hbn.size; simp at this; omega
    clear hbn
    go_wp2
    go_ret
    exact ⟨ret_int (hrr.out.trans hf.out).symm, hbw⟩
  | true =>
  have hnm := fun W => refName_any cl W
  simp only [hno0] at hnm
  have hnmH := Lib.hid hnm
  clear hnm
  have hnt : ¬ (nameOk cl = false) := by simp [hno0]
  by_cases hv : ver < 1 ∨ 1000 < ver
  · have hf := Lib.hid (show ownF (builtV (.mk 10 b n fl tx bs rf ls es cl ver)) num deep = 1 from by
    unfold ownF; rw [if_neg h1, builtV]; simp only [Int.reduceBEq, cond_true, cond_false, ownIn]; rw [if_neg hnt, if_pos hv])
    clear hno0 hnt h1
    by_cases hv1 : ver < 1
    · clear hv
      go_enter Try.func188, Try.ntmps188
      go_wp2_with fail
      refine (hnmH.out _).mono ?_
      rintro e w1 ⟨rfl, hbn⟩
      have q0 : w1.cell? ⟨w.heap.size, 0, none⟩ = some (.int .i64 10) := (hbn.cell (p := ⟨w.heap.size, 0, none⟩) (by simp)).trans (by simp [go_sem])
      have q8 : w1.cell? ⟨w.heap.size, 8, none⟩ = some (.slice oa es.length cap) := (hbn.cell (p := ⟨w.heap.size, 8, none⟩) (by simp)).trans (by simp [go_sem])
      have q10 : w1.cell? ⟨w.heap.size, 10, none⟩ = some (.int .i64 ver) := (hbn.cell (p := ⟨w.heap.size, 10, none⟩) (by simp)).trans (by simp [go_sem])
      have hbw : Below w.heap.size w w1 := (hbel _).trans (below_le hbn (by simp))
      have hsw : w.heap.size < w1.heap.size := by have := hbn.size; simp at this; omega
      clear hbn
      go_wp2
      go_ret
      exact ⟨ret_int (hrr.out.trans hf.out).symm, hbw⟩
    · have hv2 : 1000 < ver := by omega
      clear hv
      go_enter Try.func188, Try.ntmps188
      go_wp2_with fail
      refine (hnmH.out _).mono ?_
      rintro e w1 ⟨rfl, hbn⟩
      have q0 : w1.cell? ⟨w.heap.size, 0, none⟩ = some (.int .i64 10) := (hbn.cell (p := ⟨w.heap.size, 0, none⟩) (by simp)).trans (by simp [go_sem])
      have q8 : w1.cell? ⟨w.heap.size, 8, none⟩ = some (.slice oa es.length cap) := (hbn.cell (p := ⟨w.heap.size, 8, none⟩) (by simp)).trans (by simp [go_sem])
      have q10 : w1.cell? ⟨w.heap.size, 10, none⟩ = some (.int .i64 ver) := (hbn.cell (p := ⟨w.heap.size, 10, none⟩) (by simp)).trans (by simp [go_sem])
      have hbw : Below w.heap.size w w1 := (hbel _).trans (below_le hbn (by simp))
      have hsw : w.heap.size < w1.heap.size := by have := hbn.size; simp at this; omega
      clear hbn
      go_wp2
      go_ret
      exact ⟨ret_int (hrr.out.trans hf.out).symm, hbw⟩
  have hf := Lib.hid (show ownF (builtV (.mk 10 b n fl tx bs rf ls es cl ver)) num deep = fieldsF (es.map fun p => (p.1, builtV p.2)) from by
    unfold ownF; rw [if_neg h1, builtV]; simp only [Int.reduceBEq, cond_true, cond_false, ownIn]; rw [if_neg hnt, if_neg hv, builtEs_eq])
  have hv1 : ¬ ver < 1 := by omega
  have hv2 : ¬ 1000 < ver := by omega
  clear hno0 hnt hv
  by_cases h4 : 4096 < es.length
  · have hfin := Lib.hid (fieldsF_long (d := es.map fun p => (p.1, builtV p.2)) (by rw [List.length_map]; exact h4))
    have h5 : (4096 : Int) < ((es.length : Nat) : Int) := by omega
    clear h1
    go_enter Try.func188, Try.ntmps188
    go_wp2_with fail
    refine (hnmH.out _).mono ?_
    rintro e w1 ⟨rfl, hbn⟩
    have q0 : w1.cell? ⟨w.heap.size, 0, none⟩ = some (.int .i64 10) := (hbn.cell (p := ⟨w.heap.size, 0, none⟩) (by simp)).trans (by simp [go_sem])
    have q8 : w1.cell? ⟨w.heap.size, 8, none⟩ = some (.slice oa es.length cap) := (hbn.cell (p := ⟨w.heap.size, 8, none⟩) (by simp)).trans (by simp [go_sem])
    have q10 : w1.cell? ⟨w.heap.size, 10, none⟩ = some (.int .i64 ver) := (hbn.cell (p := ⟨w.heap.size, 10, none⟩) (by simp)).trans (by simp [go_sem])
    have hbw : Below w.heap.size w w1 := (hbel _).trans (below_le hbn (by simp))
    have hsw : w.heap.size < w1.heap.size := by have := hbn.size; simp at this; omega
    clear hbn
    go_wp2
    go_ret
    exact ⟨ret_int (hrr.out.trans (hf.out.trans hfin.out)).symm, hbw⟩
  · skip
    have hbadF := Lib.hid (fun k => fieldsF_bad (d := es.map fun p => (p.1, builtV p.2)) (by rw [List.length_map]; omega) (k := k))
    have hokF := Lib.hid (fieldsF_ok (d := es.map fun p => (p.1, builtV p.2)) (by rw [List.length_map]; omega))
    have h5 : ¬ (4096 : Int) < ((es.length : Nat) : Int) := by omega
    clear h1
    go_enter Try.func188, Try.ntmps188
    go_wp2_with fail
    refine (hnmH.out _).mono ?_
    rintro e w1 ⟨rfl, hbn⟩
    have q0 : w1.cell? ⟨w.heap.size, 0, none⟩ = some (.int .i64 10) := (hbn.cell (p := ⟨w.heap.size, 0, none⟩) (by simp)).trans (by simp [go_sem])
    have q8 : w1.cell? ⟨w.heap.size, 8, none⟩ = some (.slice oa es.length cap) := (hbn.cell (p := ⟨w.heap.size, 8, none⟩) (by simp)).trans (by simp [go_sem])
    have q10 : w1.cell? ⟨w.heap.size, 10, none⟩ = some (.int .i64 ver) := (hbn.cell (p := ⟨w.heap.size, 10, none⟩) (by simp)).trans (by simp [go_sem])
    have hbw : Below w.heap.size w w1 := (hbel _).trans (below_le hbn (by simp))
    have hsw : w.heap.size < w1.heap.size := by have := hbn.size; simp at this; omega
    clear hbn
    go_wp2_with fail
    go_loopw [7] (fun i wr => ∃ k : Nat, k ≤ es.length ∧ i = .int .i64 k ∧ (∀ j, j < k → badName (es.map fun p => (p.1, builtV p.2)) j = false) ∧ Below w.heap.size w wr ∧ w.heap.size < wr.heap.size ∧ wr.cell? ⟨w.heap.size, 8, none⟩ = some (.slice oa es.length cap)) (fun i _ => es.length - (intOf i).toNat)
    case atStart => exact ⟨0, Nat.zero_le _, rfl, fun j hj => absurd hj (Nat.not_lt_zero _), hbw, hsw, q8⟩
    case round =>
      obtain ⟨k, hk, rfl, hpre, hb, hbs, hc8⟩ := hrel
      have hpreH := Lib.hid hpre
      clear hpre
      by_cases hlt : k < es.length
      · obtain ⟨b, o, rfl, hcells⟩ := hformH.out (by omega)
        obtain ⟨⟨s, t⟩, hp⟩ : ∃ p, es[k]? = some p := ⟨_, List.getElem?_eq_getElem hlt⟩
        obtain ⟨-, -, -, e0, -⟩ := hdat.out k _ hp
        have hpH : Hid ((es.map fun p => (p.1, builtV p.2))[k]? = some (s, builtV t)) := Lib.hid (by rw [List.getElem?_map, hp]; rfl)
        have hck := keeps_of_below hb _ _ ((hcells (k * 12) (by omega)).trans e0)
        have hname := refName_any s
        clear hp e0
        go_wp2_with fail
        cases hno : nameOk s with
        | false =>
          have hfin := Lib.hid (hbadF.out k (by rw [List.length_map]; exact hlt) (badName_name hpH.out hno))
          simp only [hno] at hname
          have hnameH := Lib.hid hname
          have hSk : ∀ w', Below wr.heap.size wr w' → w'.cell? ⟨w.heap.size, 8, none⟩ = some (.slice (some ⟨b, o, none⟩) es.length cap) ∧ w'.cell? ⟨b, o + k * 12, none⟩ = some (.string s) := fun w' hb' => ⟨keeps_of_below hb' _ _ hc8, keeps_of_below hb' _ _ hck⟩
          clear hname hno
          refine wp_region_held_drew (S := (fun w' => w'.cell? ⟨w.heap.size, 8, none⟩ = some (.slice (some ⟨b, o, none⟩) es.length cap) ∧ w'.cell? ⟨b, o + k * 12, none⟩ = some (.string s))) (by kernel_rfl) ?_ (fun hHeld => ?_)
          · exact hSk _ (Below.refl _ _).drew
          refine wpAnyH_take (i := 0) (v := ?vf0) rfl (by kernel_rfl) (by kernel_rfl) (by kernel_rfl) (fun _ _ _ h => h) (.inl ⟨by rfl, ?hyf0⟩) (by assumption) ?restf0
          case hyf0 => (intro w hSw; (try dsimp only at hSw); go_simp; first | done | with_reducible rfl)
          (try simp only [Act.put, pu1, pu2, pu3, pu4, pu5, pu6])
          refine wpAnyH_take (i := 1) (v := ?vf1) rfl (by kernel_rfl) (by kernel_rfl) (by kernel_rfl) (fun _ _ _ h => h) (.inl ⟨by rfl, ?hyf1⟩) (by assumption) ?restf1
          case hyf1 => (intro w hSw; (try dsimp only at hSw); go_simp; first | done | with_reducible rfl)
          (try simp only [Act.put, pu1, pu2, pu3, pu4, pu5, pu6])
          refine wpAnyH_take (i := 2) (v := ?vf2) rfl (by kernel_rfl) (by kernel_rfl) (by kernel_rfl) (fun _ _ _ h => h) (.inl ⟨by rfl, ?hyf2⟩) (by assumption) ?restf2
          case hyf2 => (intro w hSw; (try dsimp only at hSw); go_simp; first | done | with_reducible rfl)
          (try simp only [Act.put, pu1, pu2, pu3, pu4, pu5, pu6])
          refine wpAnyH_take (i := 3) (v := ?vf3) rfl (by kernel_rfl) (by kernel_rfl) (by kernel_rfl) (fun _ _ _ h => h) (.inl ⟨by rfl, ?hyf3⟩) (by assumption) ?restf3
          case hyf3 => (intro w hSw; (try dsimp only at hSw); go_simp; first | done | with_reducible rfl)
          (try simp only [Act.put, pu1, pu2, pu3, pu4, pu5, pu6])
          refine wpAnyH_take (i := 4) (v := ?vf4) rfl (by kernel_rfl) (by kernel_rfl) (by kernel_rfl) (fun _ _ _ h => h) (.inl ⟨by rfl, ?hyf4⟩) (by assumption) ?restf4
          case hyf4 => (intro w hSw; (try dsimp only at hSw); go_simp; first | done | with_reducible rfl)
          (try simp only [Act.put, pu1, pu2, pu3, pu4, pu5, pu6])
          refine wpAnyH_take (i := 5) (v := ?vf5) rfl (by kernel_rfl) (by kernel_rfl) (by kernel_rfl) (fun _ _ _ h => h) (.inl ⟨by rfl, ?hyf5⟩) (by assumption) ?restf5
          case hyf5 => (intro w hSw; (try dsimp only at hSw); go_simp; first | done | with_reducible rfl)
          (try simp only [Act.put, pu1, pu2, pu3, pu4, pu5, pu6])
          refine wpAnyH_ready (rs := [6]) (by kernel_rfl) (by simp) ?_
          refine AllReadyH.cons rfl (fun K hK => ?_) AllReadyH.nil
          rw [if_pos (by rfl)]
          go_simp
          refine (hnameH.out _).mono ?_
          rintro e w1 ⟨rfl, hb1⟩
          refine hK.out _ _ ?_ (fun hHeld2 => ?_)
          · exact hSk _ ((Below.refl _ _).drew.trans hb1)
          clear hK K
          (try simp only [Act.put, pu1, pu2, pu3, pu4, pu5, pu6])
          refine wpAnyH_take (i := 7) (v := ?vf7) rfl (by kernel_rfl) (by kernel_rfl) (by kernel_rfl) (fun _ _ _ h => h) (.inl ⟨by rfl, ?hyf7⟩) (by assumption) ?restf7
          case hyf7 => (intro w hSw; (try dsimp only at hSw); go_simp; first | done | with_reducible rfl)
          (try simp only [Act.put, pu1, pu2, pu3, pu4, pu5, pu6])
          refine wpAnyH_take (i := 8) (v := ?vf8) rfl (by kernel_rfl) (by kernel_rfl) (by kernel_rfl) (fun _ _ _ h => h) (.inl ⟨by rfl, ?hyf8⟩) (by assumption) ?restf8
          case hyf8 => (intro w hSw; (try dsimp only at hSw); go_simp; first | done | with_reducible rfl)
          (try simp only [Act.put, pu1, pu2, pu3, pu4, pu5, pu6])
          refine wpAnyH_take (i := 9) (v := undef) rfl (by kernel_rfl) (by kernel_rfl) (by kernel_rfl) (fun _ _ _ h => h) (.inr ⟨by rfl, rfl⟩) (by assumption) ?_
          (try simp only [Act.put, pu1, pu2, pu3, pu4, pu5, pu6])
          refine wpAnyH_take (i := 10) (v := undef) rfl (by kernel_rfl) (by kernel_rfl) (by kernel_rfl) (fun _ _ _ h => h) (.inr ⟨by rfl, rfl⟩) (by assumption) ?_
          (try simp only [Act.put, pu1, pu2, pu3, pu4, pu5, pu6])
          refine wpAnyH_take (i := 11) (v := undef) rfl (by kernel_rfl) (by kernel_rfl) (by kernel_rfl) (fun _ _ _ h => h) (.inr ⟨by rfl, rfl⟩) (by assumption) ?_
          (try simp only [Act.put, pu1, pu2, pu3, pu4, pu5, pu6])
          refine wpAnyH_take (i := 12) (v := undef) rfl (by kernel_rfl) (by kernel_rfl) (by kernel_rfl) (fun _ _ _ h => h) (.inr ⟨by rfl, rfl⟩) (by assumption) ?_
          (try simp only [Act.put, pu1, pu2, pu3, pu4, pu5, pu6])
          refine wpAnyH_take (i := 13) (v := undef) rfl (by kernel_rfl) (by kernel_rfl) (by kernel_rfl) (fun _ _ _ h => h) (.inr ⟨by rfl, rfl⟩) (by assumption) ?_
          (try simp only [Act.put, pu1, pu2, pu3, pu4, pu5, pu6])
          refine wpAnyH_take (i := 14) (v := undef) rfl (by kernel_rfl) (by kernel_rfl) (by kernel_rfl) (fun _ _ _ h => h) (.inr ⟨by rfl, rfl⟩) (by assumption) ?_
          (try simp only [Act.put, pu1, pu2, pu3, pu4, pu5, pu6])
          refine wpAnyH_take (i := 15) (v := undef) rfl (by kernel_rfl) (by kernel_rfl) (by kernel_rfl) (fun _ _ _ h => h) (.inr ⟨by rfl, rfl⟩) (by assumption) ?_
          (try simp only [Act.put, pu1, pu2, pu3, pu4, pu5, pu6])
          refine wpAnyH_take (i := 16) (v := undef) rfl (by kernel_rfl) (by kernel_rfl) (by kernel_rfl) (fun _ _ _ h => h) (.inr ⟨by rfl, rfl⟩) (by assumption) ?_
          (try simp only [Act.put, pu1, pu2, pu3, pu4, pu5, pu6])
          refine wpAnyH_take (i := 17) (v := undef) rfl (by kernel_rfl) (by kernel_rfl) (by kernel_rfl) (fun _ _ _ h => h) (.inr ⟨by rfl, rfl⟩) (by assumption) ?_
          (try simp only [Act.put, pu1, pu2, pu3, pu4, pu5, pu6])
          refine wpAnyH_take (i := 18) (v := undef) rfl (by kernel_rfl) (by kernel_rfl) (by kernel_rfl) (fun _ _ _ h => h) (.inr ⟨by rfl, rfl⟩) (by assumption) ?_
          (try simp only [Act.put, pu1, pu2, pu3, pu4, pu5, pu6])
          refine wpAnyH_take (i := 19) (v := undef) rfl (by kernel_rfl) (by kernel_rfl) (by kernel_rfl) (fun _ _ _ h => h) (.inr ⟨by rfl, rfl⟩) (by assumption) ?_
          (try simp only [Act.put, pu1, pu2, pu3, pu4, pu5, pu6])
          refine wpAnyH_take (i := 20) (v := undef) rfl (by kernel_rfl) (by kernel_rfl) (by kernel_rfl) (fun _ _ _ h => h) (.inr ⟨by rfl, rfl⟩) (by assumption) ?_
          (try simp only [Act.put, pu1, pu2, pu3, pu4, pu5, pu6])
          refine wpAnyH_take (i := 21) (v := undef) rfl (by kernel_rfl) (by kernel_rfl) (by kernel_rfl) (fun _ _ _ h => h) (.inr ⟨by rfl, rfl⟩) (by assumption) ?_
          (try simp only [Act.put, pu1, pu2, pu3, pu4, pu5, pu6])
          refine wpAnyH_take (i := 22) (v := undef) rfl (by kernel_rfl) (by kernel_rfl) (by kernel_rfl) (fun _ _ _ h => h) (.inr ⟨by rfl, rfl⟩) (by assumption) ?_
          (try simp only [Act.put, pu1, pu2, pu3, pu4, pu5, pu6])
          refine wpAnyH_take (i := 23) (v := undef) rfl (by kernel_rfl) (by kernel_rfl) (by kernel_rfl) (fun _ _ _ h => h) (.inr ⟨by rfl, rfl⟩) (by assumption) ?_
          (try simp only [Act.put, pu1, pu2, pu3, pu4, pu5, pu6])
          refine wpAnyH_take (i := 24) (v := undef) rfl (by kernel_rfl) (by kernel_rfl) (by kernel_rfl) (fun _ _ _ h => h) (.inr ⟨by rfl, rfl⟩) (by assumption) ?_
          (try simp only [Act.put, pu1, pu2, pu3, pu4, pu5, pu6])
          refine wpAnyH_take (i := 25) (v := undef) rfl (by kernel_rfl) (by kernel_rfl) (by kernel_rfl) (fun _ _ _ h => h) (.inr ⟨by rfl, rfl⟩) (by assumption) ?_
          (try simp only [Act.put, pu1, pu2, pu3, pu4, pu5, pu6])
          refine wpAnyH_take (i := 26) (v := undef) rfl (by kernel_rfl) (by kernel_rfl) (by kernel_rfl) (fun _ _ _ h => h) (.inr ⟨by rfl, rfl⟩) (by assumption) ?_
          (try simp only [Act.put, pu1, pu2, pu3, pu4, pu5, pu6])
          refine wpAnyH_take (i := 27) (v := ?vf27) rfl (by kernel_rfl) (by kernel_rfl) (by kernel_rfl) (fun _ _ _ h => h) (.inl ⟨by rfl, ?hyf27⟩) (by assumption) ?restf27
          case hyf27 => (intro w hSw; (try dsimp only at hSw); go_simp; first | done | with_reducible rfl)
          (try simp only [Act.put, pu1, pu2, pu3, pu4, pu5, pu6])
          refine wpAnyH_done (by kernel_rfl) ?_ _
          go_wp2_with fail
          go_ret
          exact ⟨ret_int (hrr.out.trans (hf.out.trans hfin.out)).symm, hb.drew.trans (hb1.mono hb.size)⟩
        | true =>
          simp only [hno] at hname
          have hnameH := Lib.hid hname
          clear hname
          by_cases hk0 : k = 0
          · have hbad := Lib.hid (badName_zero hk0 hpH.out hno)
            have hkz : ((k : Nat) : Int) ≤ 0 := by omega
            have hkd : decide ((0 : Nat) < k) = false := by simp; omega
            have hSk : ∀ w', Below wr.heap.size wr w' → w'.cell? ⟨w.heap.size, 8, none⟩ = some (.slice (some ⟨b, o, none⟩) es.length cap) ∧ w'.cell? ⟨b, o + k * 12, none⟩ = some (.string s) := fun w' hb' => ⟨keeps_of_below hb' _ _ hc8, keeps_of_below hb' _ _ hck⟩
            have hc8H := Lib.hid hc8
            clear hk0 hno
            refine wp_region_held_drew (S := (fun w' => w'.cell? ⟨w.heap.size, 8, none⟩ = some (.slice (some ⟨b, o, none⟩) es.length cap) ∧ w'.cell? ⟨b, o + k * 12, none⟩ = some (.string s))) (by kernel_rfl) ?_ (fun hHeld => ?_)
            · exact hSk _ (Below.refl _ _).drew
            refine wpAnyH_take (i := 0) (v := ?vz0) rfl (by kernel_rfl) (by kernel_rfl) (by kernel_rfl) (fun _ _ _ h => h) (.inl ⟨by rfl, ?hyz0⟩) (by assumption) ?restz0
            case hyz0 => (intro w hSw; (try dsimp only at hSw); go_simp; first | done | with_reducible rfl)
            (try simp only [Act.put, pu1, pu2, pu3, pu4, pu5, pu6])
            refine wpAnyH_take (i := 1) (v := ?vz1) rfl (by kernel_rfl) (by kernel_rfl) (by kernel_rfl) (fun _ _ _ h => h) (.inl ⟨by rfl, ?hyz1⟩) (by assumption) ?restz1
            case hyz1 => (intro w hSw; (try dsimp only at hSw); go_simp; first | done | with_reducible rfl)
            (try simp only [Act.put, pu1, pu2, pu3, pu4, pu5, pu6])
            refine wpAnyH_take (i := 2) (v := ?vz2) rfl (by kernel_rfl) (by kernel_rfl) (by kernel_rfl) (fun _ _ _ h => h) (.inl ⟨by rfl, ?hyz2⟩) (by assumption) ?restz2
            case hyz2 => (intro w hSw; (try dsimp only at hSw); go_simp; first | done | with_reducible rfl)
            (try simp only [Act.put, pu1, pu2, pu3, pu4, pu5, pu6])
            refine wpAnyH_take (i := 3) (v := ?vz3) rfl (by kernel_rfl) (by kernel_rfl) (by kernel_rfl) (fun _ _ _ h => h) (.inl ⟨by rfl, ?hyz3⟩) (by assumption) ?restz3
            case hyz3 => (intro w hSw; (try dsimp only at hSw); go_simp; first | done | with_reducible rfl)
            (try simp only [Act.put, pu1, pu2, pu3, pu4, pu5, pu6])
            refine wpAnyH_take (i := 4) (v := ?vz4) rfl (by kernel_rfl) (by kernel_rfl) (by kernel_rfl) (fun _ _ _ h => h) (.inl ⟨by rfl, ?hyz4⟩) (by assumption) ?restz4
            case hyz4 => (intro w hSw; (try dsimp only at hSw); go_simp; first | done | with_reducible rfl)
            (try simp only [Act.put, pu1, pu2, pu3, pu4, pu5, pu6])
            refine wpAnyH_take (i := 5) (v := ?vz5) rfl (by kernel_rfl) (by kernel_rfl) (by kernel_rfl) (fun _ _ _ h => h) (.inl ⟨by rfl, ?hyz5⟩) (by assumption) ?restz5
            case hyz5 => (intro w hSw; (try dsimp only at hSw); go_simp; first | done | with_reducible rfl)
            (try simp only [Act.put, pu1, pu2, pu3, pu4, pu5, pu6])
            refine wpAnyH_ready (rs := [6]) (by kernel_rfl) (by simp) ?_
            refine AllReadyH.cons rfl (fun K hK => ?_) AllReadyH.nil
            rw [if_pos (by rfl)]
            go_simp
            refine (hnameH.out _).mono ?_
            rintro e w1 ⟨rfl, hb1⟩
            refine hK.out _ _ ?_ (fun hHeld2 => ?_)
            · exact hSk _ ((Below.refl _ _).drew.trans hb1)
            clear hK K
            (try simp only [Act.put, pu1, pu2, pu3, pu4, pu5, pu6])
            refine wpAnyH_take (i := 7) (v := ?vz7) rfl (by kernel_rfl) (by kernel_rfl) (by kernel_rfl) (fun _ _ _ h => h) (.inl ⟨by rfl, ?hyz7⟩) (by assumption) ?restz7
            case hyz7 => (intro w hSw; (try dsimp only at hSw); go_simp; first | done | with_reducible rfl)
            (try simp only [Act.put, pu1, pu2, pu3, pu4, pu5, pu6])
            refine wpAnyH_take (i := 8) (v := ?vz8) rfl (by kernel_rfl) (by kernel_rfl) (by kernel_rfl) (fun _ _ _ h => h) (.inl ⟨by rfl, ?hyz8⟩) (by assumption) ?restz8
            case hyz8 => (intro w hSw; (try dsimp only at hSw); go_simp; first | done | with_reducible rfl)
            (try simp only [Act.put, pu1, pu2, pu3, pu4, pu5, pu6])
            refine wpAnyH_take (i := 9) (v := ?vz9) rfl (by kernel_rfl) (by kernel_rfl) (by kernel_rfl) (fun _ _ _ h => h) (.inl ⟨by rfl, ?hyz9⟩) (by assumption) ?restz9
            case hyz9 => (intro w hSw; (try dsimp only at hSw); go_simp; first | done | with_reducible rfl)
            (try simp only [Act.put, pu1, pu2, pu3, pu4, pu5, pu6])
            refine wpAnyH_take (i := 10) (v := ?vz10) rfl (by kernel_rfl) (by kernel_rfl) (by kernel_rfl) (fun _ _ _ h => h) (.inl ⟨by rfl, ?hyz10⟩) (by assumption) ?restz10
            case hyz10 => (intro w hSw; (try dsimp only at hSw); go_simp; first | done | with_reducible rfl)
            (try simp only [Act.put, pu1, pu2, pu3, pu4, pu5, pu6])
            refine wpAnyH_take (i := 11) (v := ?vz11) rfl (by kernel_rfl) (by kernel_rfl) (by kernel_rfl) (fun _ _ _ h => h) (.inl ⟨by rfl, ?hyz11⟩) (by assumption) ?restz11
            case hyz11 => (intro w hSw; (try dsimp only at hSw); go_simp; first | done | with_reducible rfl)
            (try simp only [Act.put, pu1, pu2, pu3, pu4, pu5, pu6])
            refine wpAnyH_take (i := 12) (v := undef) rfl (by kernel_rfl) (by kernel_rfl) (by kernel_rfl) (fun _ _ _ h => h) (.inr ⟨by rfl, rfl⟩) (by assumption) ?_
            (try simp only [Act.put, pu1, pu2, pu3, pu4, pu5, pu6])
            refine wpAnyH_take (i := 13) (v := undef) rfl (by kernel_rfl) (by kernel_rfl) (by kernel_rfl) (fun _ _ _ h => h) (.inr ⟨by rfl, rfl⟩) (by assumption) ?_
            (try simp only [Act.put, pu1, pu2, pu3, pu4, pu5, pu6])
            refine wpAnyH_take (i := 14) (v := undef) rfl (by kernel_rfl) (by kernel_rfl) (by kernel_rfl) (fun _ _ _ h => h) (.inr ⟨by rfl, rfl⟩) (by assumption) ?_
            (try simp only [Act.put, pu1, pu2, pu3, pu4, pu5, pu6])
            refine wpAnyH_take (i := 15) (v := undef) rfl (by kernel_rfl) (by kernel_rfl) (by kernel_rfl) (fun _ _ _ h => h) (.inr ⟨by rfl, rfl⟩) (by assumption) ?_
            (try simp only [Act.put, pu1, pu2, pu3, pu4, pu5, pu6])
            refine wpAnyH_take (i := 16) (v := undef) rfl (by kernel_rfl) (by kernel_rfl) (by kernel_rfl) (fun _ _ _ h => h) (.inr ⟨by rfl, rfl⟩) (by assumption) ?_
            (try simp only [Act.put, pu1, pu2, pu3, pu4, pu5, pu6])
            refine wpAnyH_take (i := 17) (v := undef) rfl (by kernel_rfl) (by kernel_rfl) (by kernel_rfl) (fun _ _ _ h => h) (.inr ⟨by rfl, rfl⟩) (by assumption) ?_
            (try simp only [Act.put, pu1, pu2, pu3, pu4, pu5, pu6])
            refine wpAnyH_take (i := 18) (v := undef) rfl (by kernel_rfl) (by kernel_rfl) (by kernel_rfl) (fun _ _ _ h => h) (.inr ⟨by rfl, rfl⟩) (by assumption) ?_
            (try simp only [Act.put, pu1, pu2, pu3, pu4, pu5, pu6])
            refine wpAnyH_take (i := 19) (v := undef) rfl (by kernel_rfl) (by kernel_rfl) (by kernel_rfl) (fun _ _ _ h => h) (.inr ⟨by rfl, rfl⟩) (by assumption) ?_
            (try simp only [Act.put, pu1, pu2, pu3, pu4, pu5, pu6])
            refine wpAnyH_take (i := 20) (v := undef) rfl (by kernel_rfl) (by kernel_rfl) (by kernel_rfl) (fun _ _ _ h => h) (.inr ⟨by rfl, rfl⟩) (by assumption) ?_
            (try simp only [Act.put, pu1, pu2, pu3, pu4, pu5, pu6])
            refine wpAnyH_take (i := 21) (v := undef) rfl (by kernel_rfl) (by kernel_rfl) (by kernel_rfl) (fun _ _ _ h => h) (.inr ⟨by rfl, rfl⟩) (by assumption) ?_
            (try simp only [Act.put, pu1, pu2, pu3, pu4, pu5, pu6])
            refine wpAnyH_take (i := 22) (v := undef) rfl (by kernel_rfl) (by kernel_rfl) (by kernel_rfl) (fun _ _ _ h => h) (.inr ⟨by rfl, rfl⟩) (by assumption) ?_
            (try simp only [Act.put, pu1, pu2, pu3, pu4, pu5, pu6])
            refine wpAnyH_take (i := 23) (v := undef) rfl (by kernel_rfl) (by kernel_rfl) (by kernel_rfl) (fun _ _ _ h => h) (.inr ⟨by rfl, rfl⟩) (by assumption) ?_
            (try simp only [Act.put, pu1, pu2, pu3, pu4, pu5, pu6])
            refine wpAnyH_take (i := 24) (v := undef) rfl (by kernel_rfl) (by kernel_rfl) (by kernel_rfl) (fun _ _ _ h => h) (.inr ⟨by rfl, rfl⟩) (by assumption) ?_
            (try simp only [Act.put, pu1, pu2, pu3, pu4, pu5, pu6])
            refine wpAnyH_take (i := 25) (v := undef) rfl (by kernel_rfl) (by kernel_rfl) (by kernel_rfl) (fun _ _ _ h => h) (.inr ⟨by rfl, rfl⟩) (by assumption) ?_
            (try simp only [Act.put, pu1, pu2, pu3, pu4, pu5, pu6])
            refine wpAnyH_take (i := 26) (v := ?vz26) rfl (by kernel_rfl) (by kernel_rfl) (by kernel_rfl) (fun _ _ _ h => h) (.inl ⟨by rfl, ?hyz26⟩) (by assumption) ?restz26
            case hyz26 => (intro w hSw; (try dsimp only at hSw); go_simp; first | done | with_reducible rfl)
            (try simp only [Act.put, pu1, pu2, pu3, pu4, pu5, pu6])
            refine wpAnyH_take (i := 27) (v := ?vz27) rfl (by kernel_rfl) (by kernel_rfl) (by kernel_rfl) (fun _ _ _ h => h) (.inl ⟨by rfl, ?hyz27⟩) (by assumption) ?restz27
            case hyz27 => (intro w hSw; (try dsimp only at hSw); go_simp; first | done | with_reducible rfl)
            (try simp only [Act.put, pu1, pu2, pu3, pu4, pu5, pu6])
            refine wpAnyH_done (by kernel_rfl) ?_ _
            go_wp2_with fail
            go_roundw
            case rel => exact ⟨k + 1, by omega, by go_num, all_snoc hpreH hbad.out, hb.drew.trans (hb1.mono hb.size), Nat.lt_of_lt_of_le hbs hb1.size, (hSk _ ((Below.refl _ _).drew.trans hb1)).1⟩
            case measure => simp [intOf]; omega
          · obtain ⟨j, hj⟩ : ∃ j, k = j + 1 := ⟨k - 1, by omega⟩
            obtain ⟨⟨q, vq⟩, hq⟩ : ∃ p, es[j]? = some p := ⟨_, List.getElem?_eq_getElem (by omega)⟩
            obtain ⟨-, -, -, eq0, -⟩ := hdat.out j _ hq
            have hqH : (es.map fun p => (p.1, builtV p.2))[j]? = some (q, builtV vq) := by rw [List.getElem?_map, hq]; rfl
            have hbad := Lib.hid (badName_succ hj hpH.out hqH hno)
            have hcj := keeps_of_below hb _ _ ((hcells (j * 12) (by omega)).trans eq0)
            obtain ⟨B, hB⟩ : ∃ B, B = leS s q := ⟨_, rfl⟩
            have hBl := Lib.hid hB
            have hle : (Op.bytesLess s.toList q.toList || s.toList == q.toList) = B := hB.symm
            clear hB
            have hw1 : IntKind.i64.wrap ((k : Int) - 1) = (j : Int) := by rw [IntWalk.i64_in _ (by omega)]; omega
            have hj0 : (0 : Int) ≤ (j : Int) := by omega
            have hj1 : (j : Int) < ((es.length : Nat) : Int) := by omega
            have hkd : decide ((0 : Nat) < k) = true := by simp; omega
            have hSk : ∀ w', Below wr.heap.size wr w' → w'.cell? ⟨w.heap.size, 8, none⟩ = some (.slice (some ⟨b, o, none⟩) es.length cap) ∧ w'.cell? ⟨b, o + k * 12, none⟩ = some (.string s) ∧ w'.cell? ⟨b, o + j * 12, none⟩ = some (.string q) := fun w' hb' => ⟨keeps_of_below hb' _ _ hc8, keeps_of_below hb' _ _ hck, keeps_of_below hb' _ _ hcj⟩
            clear hk0 hno hq eq0 hj hqH
            refine wp_region_held_drew (S := (fun w' => w'.cell? ⟨w.heap.size, 8, none⟩ = some (.slice (some ⟨b, o, none⟩) es.length cap) ∧ w'.cell? ⟨b, o + k * 12, none⟩ = some (.string s) ∧ w'.cell? ⟨b, o + j * 12, none⟩ = some (.string q))) (by kernel_rfl) ?_ (fun hHeld => ?_)
            · exact hSk _ (Below.refl _ _).drew
            refine wpAnyH_take (i := 0) (v := ?vq0) rfl (by kernel_rfl) (by kernel_rfl) (by kernel_rfl) (fun _ _ _ h => h) (.inl ⟨by rfl, ?hyq0⟩) (by assumption) ?restq0
            case hyq0 => (intro w hSw; (try dsimp only at hSw); go_simp; first | done | with_reducible rfl)
            (try simp only [Act.put, pu1, pu2, pu3, pu4, pu5, pu6])
            refine wpAnyH_take (i := 1) (v := ?vq1) rfl (by kernel_rfl) (by kernel_rfl) (by kernel_rfl) (fun _ _ _ h => h) (.inl ⟨by rfl, ?hyq1⟩) (by assumption) ?restq1
            case hyq1 => (intro w hSw; (try dsimp only at hSw); go_simp; first | done | with_reducible rfl)
            (try simp only [Act.put, pu1, pu2, pu3, pu4, pu5, pu6])
            refine wpAnyH_take (i := 2) (v := ?vq2) rfl (by kernel_rfl) (by kernel_rfl) (by kernel_rfl) (fun _ _ _ h => h) (.inl ⟨by rfl, ?hyq2⟩) (by assumption) ?restq2
            case hyq2 => (intro w hSw; (try dsimp only at hSw); go_simp; first | done | with_reducible rfl)
            (try simp only [Act.put, pu1, pu2, pu3, pu4, pu5, pu6])
            refine wpAnyH_take (i := 3) (v := ?vq3) rfl (by kernel_rfl) (by kernel_rfl) (by kernel_rfl) (fun _ _ _ h => h) (.inl ⟨by rfl, ?hyq3⟩) (by assumption) ?restq3
            case hyq3 => (intro w hSw; (try dsimp only at hSw); go_simp; first | done | with_reducible rfl)
            (try simp only [Act.put, pu1, pu2, pu3, pu4, pu5, pu6])
            refine wpAnyH_take (i := 4) (v := ?vq4) rfl (by kernel_rfl) (by kernel_rfl) (by kernel_rfl) (fun _ _ _ h => h) (.inl ⟨by rfl, ?hyq4⟩) (by assumption) ?restq4
            case hyq4 => (intro w hSw; (try dsimp only at hSw); go_simp; first | done | with_reducible rfl)
            (try simp only [Act.put, pu1, pu2, pu3, pu4, pu5, pu6])
            refine wpAnyH_take (i := 5) (v := ?vq5) rfl (by kernel_rfl) (by kernel_rfl) (by kernel_rfl) (fun _ _ _ h => h) (.inl ⟨by rfl, ?hyq5⟩) (by assumption) ?restq5
            case hyq5 => (intro w hSw; (try dsimp only at hSw); go_simp; first | done | with_reducible rfl)
            (try simp only [Act.put, pu1, pu2, pu3, pu4, pu5, pu6])
            refine wpAnyH_ready (rs := [6]) (by kernel_rfl) (by simp) ?_
            refine AllReadyH.cons rfl (fun K hK => ?_) AllReadyH.nil
            rw [if_pos (by rfl)]
            go_simp
            refine (hnameH.out _).mono ?_
            rintro e w1 ⟨rfl, hb1⟩
            refine hK.out _ _ ?_ (fun hHeld2 => ?_)
            · exact hSk _ ((Below.refl _ _).drew.trans hb1)
            clear hK K
            (try simp only [Act.put, pu1, pu2, pu3, pu4, pu5, pu6])
            refine wpAnyH_take (i := 7) (v := ?vq7) rfl (by kernel_rfl) (by kernel_rfl) (by kernel_rfl) (fun _ _ _ h => h) (.inl ⟨by rfl, ?hyq7⟩) (by assumption) ?restq7
            case hyq7 => (intro w hSw; (try dsimp only at hSw); go_simp; first | done | with_reducible rfl)
            (try simp only [Act.put, pu1, pu2, pu3, pu4, pu5, pu6])
            refine wpAnyH_take (i := 8) (v := ?vq8) rfl (by kernel_rfl) (by kernel_rfl) (by kernel_rfl) (fun _ _ _ h => h) (.inl ⟨by rfl, ?hyq8⟩) (by assumption) ?restq8
            case hyq8 => (intro w hSw; (try dsimp only at hSw); go_simp; first | done | with_reducible rfl)
            (try simp only [Act.put, pu1, pu2, pu3, pu4, pu5, pu6])
            refine wpAnyH_take (i := 9) (v := ?vq9) rfl (by kernel_rfl) (by kernel_rfl) (by kernel_rfl) (fun _ _ _ h => h) (.inl ⟨by rfl, ?hyq9⟩) (by assumption) ?restq9
            case hyq9 => (intro w hSw; (try dsimp only at hSw); go_simp; first | done | with_reducible rfl)
            (try simp only [Act.put, pu1, pu2, pu3, pu4, pu5, pu6])
            refine wpAnyH_take (i := 10) (v := ?vq10) rfl (by kernel_rfl) (by kernel_rfl) (by kernel_rfl) (fun _ _ _ h => h) (.inl ⟨by rfl, ?hyq10⟩) (by assumption) ?restq10
            case hyq10 => (intro w hSw; (try dsimp only at hSw); go_simp; first | done | with_reducible rfl)
            (try simp only [Act.put, pu1, pu2, pu3, pu4, pu5, pu6])
            refine wpAnyH_take (i := 11) (v := ?vq11) rfl (by kernel_rfl) (by kernel_rfl) (by kernel_rfl) (fun _ _ _ h => h) (.inl ⟨by rfl, ?hyq11⟩) (by assumption) ?restq11
            case hyq11 => (intro w hSw; (try dsimp only at hSw); go_simp; first | done | with_reducible rfl)
            (try simp only [Act.put, pu1, pu2, pu3, pu4, pu5, pu6])
            refine wpAnyH_take (i := 12) (v := ?vq12) rfl (by kernel_rfl) (by kernel_rfl) (by kernel_rfl) (fun _ _ _ h => h) (.inl ⟨by rfl, ?hyq12⟩) (by assumption) ?restq12
            case hyq12 => (intro w hSw; (try dsimp only at hSw); go_simp; first | done | with_reducible rfl)
            (try simp only [Act.put, pu1, pu2, pu3, pu4, pu5, pu6])
            refine wpAnyH_take (i := 13) (v := ?vq13) rfl (by kernel_rfl) (by kernel_rfl) (by kernel_rfl) (fun _ _ _ h => h) (.inl ⟨by rfl, ?hyq13⟩) (by assumption) ?restq13
            case hyq13 => (intro w hSw; (try dsimp only at hSw); go_simp; first | done | with_reducible rfl)
            (try simp only [Act.put, pu1, pu2, pu3, pu4, pu5, pu6])
            refine wpAnyH_take (i := 14) (v := ?vq14) rfl (by kernel_rfl) (by kernel_rfl) (by kernel_rfl) (fun _ _ _ h => h) (.inl ⟨by rfl, ?hyq14⟩) (by assumption) ?restq14
            case hyq14 => (intro w hSw; (try dsimp only at hSw); go_simp; first | done | with_reducible rfl)
            (try simp only [Act.put, pu1, pu2, pu3, pu4, pu5, pu6])
            refine wpAnyH_take (i := 15) (v := ?vq15) rfl (by kernel_rfl) (by kernel_rfl) (by kernel_rfl) (fun _ _ _ h => h) (.inl ⟨by rfl, ?hyq15⟩) (by assumption) ?restq15
            case hyq15 => (intro w hSw; (try dsimp only at hSw); go_simp; first | done | with_reducible rfl)
            (try simp only [Act.put, pu1, pu2, pu3, pu4, pu5, pu6])
            refine wpAnyH_take (i := 16) (v := ?vq16) rfl (by kernel_rfl) (by kernel_rfl) (by kernel_rfl) (fun _ _ _ h => h) (.inl ⟨by rfl, ?hyq16⟩) (by assumption) ?restq16
            case hyq16 => (intro w hSw; (try dsimp only at hSw); go_simp; first | done | with_reducible rfl)
            (try simp only [Act.put, pu1, pu2, pu3, pu4, pu5, pu6])
            refine wpAnyH_take (i := 17) (v := ?vq17) rfl (by kernel_rfl) (by kernel_rfl) (by kernel_rfl) (fun _ _ _ h => h) (.inl ⟨by rfl, ?hyq17⟩) (by assumption) ?restq17
            case hyq17 => (intro w hSw; (try dsimp only at hSw); go_simp; first | done | with_reducible rfl)
            (try simp only [Act.put, pu1, pu2, pu3, pu4, pu5, pu6])
            refine wpAnyH_take (i := 18) (v := ?vq18) rfl (by kernel_rfl) (by kernel_rfl) (by kernel_rfl) (fun _ _ _ h => h) (.inl ⟨by rfl, ?hyq18⟩) (by assumption) ?restq18
            case hyq18 => (intro w hSw; (try dsimp only at hSw); go_simp; first | done | with_reducible rfl)
            (try simp only [Act.put, pu1, pu2, pu3, pu4, pu5, pu6])
            refine wpAnyH_take (i := 19) (v := ?vq19) rfl (by kernel_rfl) (by kernel_rfl) (by kernel_rfl) (fun _ _ _ h => h) (.inl ⟨by rfl, ?hyq19⟩) (by assumption) ?restq19
            case hyq19 => (intro w hSw; (try dsimp only at hSw); go_simp; first | done | with_reducible rfl)
            (try simp only [Act.put, pu1, pu2, pu3, pu4, pu5, pu6])
            refine wpAnyH_take (i := 20) (v := ?vq20) rfl (by kernel_rfl) (by kernel_rfl) (by kernel_rfl) (fun _ _ _ h => h) (.inl ⟨by rfl, ?hyq20⟩) (by assumption) ?restq20
            case hyq20 => (intro w hSw; (try dsimp only at hSw); go_simp; first | done | with_reducible rfl)
            (try simp only [Act.put, pu1, pu2, pu3, pu4, pu5, pu6])
            refine wpAnyH_take (i := 21) (v := ?vq21) rfl (by kernel_rfl) (by kernel_rfl) (by kernel_rfl) (fun _ _ _ h => h) (.inl ⟨by rfl, ?hyq21⟩) (by assumption) ?restq21
            case hyq21 => (intro w hSw; (try dsimp only at hSw); go_simp; first | done | with_reducible rfl)
            (try simp only [Act.put, pu1, pu2, pu3, pu4, pu5, pu6])
            refine wpAnyH_take (i := 22) (v := ?vq22) rfl (by kernel_rfl) (by kernel_rfl) (by kernel_rfl) (fun _ _ _ h => h) (.inl ⟨by rfl, ?hyq22⟩) (by assumption) ?restq22
            case hyq22 => (intro w hSw; (try dsimp only at hSw); go_simp; first | done | with_reducible rfl)
            (try simp only [Act.put, pu1, pu2, pu3, pu4, pu5, pu6])
            refine wpAnyH_take (i := 23) (v := ?vq23) rfl (by kernel_rfl) (by kernel_rfl) (by kernel_rfl) (fun _ _ _ h => h) (.inl ⟨by rfl, ?hyq23⟩) (by assumption) ?restq23
            case hyq23 => (intro w hSw; (try dsimp only at hSw); go_simp; first | done | with_reducible rfl)
            (try simp only [Act.put, pu1, pu2, pu3, pu4, pu5, pu6])
            refine wpAnyH_take (i := 24) (v := ?vq24) rfl (by kernel_rfl) (by kernel_rfl) (by kernel_rfl) (fun _ _ _ h => h) (.inl ⟨by rfl, ?hyq24⟩) (by assumption) ?restq24
            case hyq24 => (intro w hSw; (try dsimp only at hSw); go_simp; first | done | with_reducible rfl)
            (try simp only [Act.put, pu1, pu2, pu3, pu4, pu5, pu6])
            refine wpAnyH_take (i := 25) (v := ?vq25) rfl (by kernel_rfl) (by kernel_rfl) (by kernel_rfl) (fun _ _ _ h => h) (.inl ⟨by rfl, ?hyq25⟩) (by assumption) ?restq25
            case hyq25 => (intro w hSw; (try dsimp only at hSw); go_simp; first | done | with_reducible rfl)
            (try simp only [Act.put, pu1, pu2, pu3, pu4, pu5, pu6])
            refine wpAnyH_take (i := 26) (v := ?vq26) rfl (by kernel_rfl) (by kernel_rfl) (by kernel_rfl) (fun _ _ _ h => h) (.inl ⟨by rfl, ?hyq26⟩) (by assumption) ?restq26
            case hyq26 => (intro w hSw; (try dsimp only at hSw); go_simp; first | done | with_reducible rfl)
            (try simp only [Act.put, pu1, pu2, pu3, pu4, pu5, pu6])
            refine wpAnyH_take (i := 27) (v := ?vq27) rfl (by kernel_rfl) (by kernel_rfl) (by kernel_rfl) (fun _ _ _ h => h) (.inl ⟨by rfl, ?hyq27⟩) (by assumption) ?restq27
            case hyq27 => (intro w hSw; (try dsimp only at hSw); go_simp; first | done | with_reducible rfl)
            (try simp only [Act.put, pu1, pu2, pu3, pu4, pu5, pu6])
            refine wpAnyH_done (by kernel_rfl) ?_ _
            go_wp2_with fail
            · rename_i hB
              go_ret
              exact ⟨ret_int (hrr.out.trans (hf.out.trans (hbadF.out k (by rw [List.length_map]; exact hlt) (hbad.out.trans (hBl.out.symm.trans hB))))).symm, hb.drew.trans (hb1.mono hb.size)⟩
            · rename_i hB
              go_roundw
              case rel => exact ⟨k + 1, by omega, by go_num, all_snoc hpreH (hbad.out.trans (hBl.out.symm.trans hB)), hb.drew.trans (hb1.mono hb.size), Nat.lt_of_lt_of_le hbs hb1.size, (hSk _ ((Below.refl _ _).drew.trans hb1)).1⟩
              case measure => simp [intOf]; omega
      · obtain rfl : k = es.length := by omega
        go_wp2_with fail
        go_ret
        exact ⟨ret_int (hrr.out.trans (hf.out.trans (hokF.out (by rw [List.length_map]; exact hpreH.out)))).symm, hb⟩

end
theorem refOwn_any (t : Term) (cs : List Value) (w : World) (num deep : Int) (h : TRep w t cs) :
    Calls Try.prog 188 #[.agg cs.toArray, .int .i64 num, .int .i64 deep] w fun e w' => e = .returned (.int .i64 (ownF (builtV t) num deep)) ∧ Below w.heap.size w w' := by
  obtain ⟨k, b, n, fl, tx, bs, rf, ls, es, cl, ver⟩ := t
  by_cases h5 : k = 5
  · subst h5; exact refOwn_text _ _ _ _ _ _ _ _ _ _ cs w num deep h
  by_cases h6 : k = 6
  · subst h6; exact refOwn_bytes _ _ _ _ _ _ _ _ _ _ cs w num deep h
  by_cases h8 : k = 8
  · subst h8; exact refOwn_list _ _ _ _ _ _ _ _ _ _ cs w num deep h
  by_cases h9 : k = 9
  · subst h9; exact refOwn_dict _ _ _ _ _ _ _ _ _ _ cs w num deep h
  by_cases h10 : k = 10
  · subst h10; exact refOwn_record _ _ _ _ _ _ _ _ _ _ cs w num deep h
  by_cases hk : k = 1 ∨ k = 2 ∨ k = 3 ∨ k = 4 ∨ k = 7 ∨ k = 11
  · exact refOwn_plain _ _ _ _ _ _ _ _ _ _ k hk cs w num deep h
  · exact refOwn_alien _ _ _ _ _ _ _ _ _ _ k (by omega) cs w num deep h
end Go.Proofs.Ytgmdbpplfjkjmaa
