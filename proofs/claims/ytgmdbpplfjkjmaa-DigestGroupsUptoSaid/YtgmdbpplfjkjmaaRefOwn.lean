/- tenonref01.own of terms without entries. -/
import Derived.Test.YtgmdbpplfjkjmaaBuilt
import Derived.Test.YtgmdbpplfjkjmaaRefName
namespace Go.Proofs.Ytgmdbpplfjkjmaa
open Go.RowKit
set_option linter.unusedVariables false
set_option linter.unusedSimpArgs false

section
variable (b : Bool) (n : Int) (fl : Nat) (tx : ByteArray) (bs : List UInt8) (rf : Int) (ls : List Term) (es : List (ByteArray × Term)) (cl : ByteArray) (ver : Int)
set_option maxRecDepth 100000 in
set_option maxHeartbeats 1600000 in
theorem refOwn_plain (k : Int) (hk : k = 1 ∨ k = 2 ∨ k = 3 ∨ k = 4 ∨ k = 7 ∨ k = 11) (cs : List Value) (w : World) (num deep : Int) (h : TRep w (.mk k b n fl tx bs rf ls es cl ver) cs) :
    Calls Try.prog 188 #[.agg cs.toArray, .int .i64 num, .int .i64 deep] w fun e w' => e = .returned (.int .i64 (ownF (builtV (.mk k b n fl tx bs rf ls es cl ver)) num deep)) ∧ Below w.heap.size w w' := by
  simp only [TRep] at h
  obtain ⟨sb, sl, se, xl, xe, rfl, -⟩ := h
  obtain ⟨r, hr⟩ : ∃ r, r = ownF (builtV (.mk k b n fl tx bs rf ls es cl ver)) num deep := ⟨_, rfl⟩
  have hrr := Lib.hid hr
  rw [← hr]
  clear hr
  have hbel : ∀ cs : Array Value, Below w.heap.size w (w.alloc (.cells cs 31)) := fun cs => (Below.refl _ _).alloc (Nat.le_refl _) _
  by_cases h1 : 16384 ≤ num ∨ 64 < deep
  · have hf : r = if k = 11 then 7 else 2 := by
      rw [hrr.out]; unfold ownF; rw [if_pos h1]
      rcases hk with rfl | rfl | rfl | rfl | rfl | rfl <;> rfl
    rcases h1 with h1 | h1
    · rcases hk with rfl | rfl | rfl | rfl | rfl | rfl
      all_goals go_enter Try.func188, Try.ntmps188
      all_goals go_wp2
      all_goals go_ret
      all_goals first | exact ⟨rfl, hbel _⟩ | exact ⟨by rw [hf]; rfl, hbel _⟩
    · by_cases h2 : 16384 ≤ num
      · rcases hk with rfl | rfl | rfl | rfl | rfl | rfl
        all_goals go_enter Try.func188, Try.ntmps188
        all_goals go_wp2
        all_goals go_ret
        all_goals first | exact ⟨rfl, hbel _⟩ | exact ⟨by rw [hf]; rfl, hbel _⟩
      · rcases hk with rfl | rfl | rfl | rfl | rfl | rfl
        all_goals go_enter Try.func188, Try.ntmps188
        all_goals go_wp2
        all_goals go_ret
        all_goals first | exact ⟨rfl, hbel _⟩ | exact ⟨by rw [hf]; rfl, hbel _⟩
  · have hf : r = if k = 11 then 7 else 0 := by
      rw [hrr.out]; unfold ownF; rw [if_neg h1]
      rcases hk with rfl | rfl | rfl | rfl | rfl | rfl <;> rfl
    have h2 : ¬ 16384 ≤ num := fun h => h1 (.inl h)
    have h3 : ¬ 64 < deep := fun h => h1 (.inr h)
    clear h1
    rcases hk with rfl | rfl | rfl | rfl | rfl | rfl
    all_goals go_enter Try.func188, Try.ntmps188
    all_goals go_wp2
    all_goals go_ret
    all_goals first | exact ⟨rfl, hbel _⟩ | exact ⟨by rw [hf]; rfl, hbel _⟩
end
end Go.Proofs.Ytgmdbpplfjkjmaa

/-! tenonref01.own of texts, bytes, lists, and of terms of no kind. -/
namespace Go.Proofs.Ytgmdbpplfjkjmaa
open Go.RowKit
set_option linter.unusedVariables false
set_option linter.unusedSimpArgs false

section
variable (b : Bool) (n : Int) (fl : Nat) (tx : ByteArray) (bs : List UInt8) (rf : Int) (ls : List Term) (es : List (ByteArray × Term)) (cl : ByteArray) (ver : Int)
set_option maxRecDepth 100000 in
set_option maxHeartbeats 1600000 in
theorem refOwn_text (cs : List Value) (w : World) (num deep : Int) (h : TRep w (.mk 5 b n fl tx bs rf ls es cl ver) cs) :
    Calls Try.prog 188 #[.agg cs.toArray, .int .i64 num, .int .i64 deep] w fun e w' => e = .returned (.int .i64 (ownF (builtV (.mk 5 b n fl tx bs rf ls es cl ver)) num deep)) ∧ Below w.heap.size w w' := by
  simp only [TRep] at h
  obtain ⟨sb, sl, se, xl, xe, rfl, -⟩ := h
  obtain ⟨r, hr⟩ : ∃ r, r = ownF (builtV (.mk 5 b n fl tx bs rf ls es cl ver)) num deep := ⟨_, rfl⟩
  have hrr := Lib.hid hr
  rw [← hr]
  clear hr
  have hbel : ∀ cs : Array Value, Below w.heap.size w (w.alloc (.cells cs 31)) := fun cs => (Below.refl _ _).alloc (Nat.le_refl _) _
  by_cases h1 : 16384 ≤ num ∨ 64 < deep
  · have hf : r = 2 := by
      rw [hrr.out]; unfold ownF; rw [if_pos h1]; rw [builtV]; rfl
    by_cases h2 : 16384 ≤ num
    · clear h1
      go_enter Try.func188, Try.ntmps188
      go_wp2
      go_ret
      first | exact ⟨rfl, hbel _⟩ | exact ⟨by rw [hf]; rfl, hbel _⟩ | exact ⟨by rw [hf], hbel _⟩
    · have h3 : 64 < deep := by omega
      clear h1
      go_enter Try.func188, Try.ntmps188
      go_wp2
      go_ret
      first | exact ⟨rfl, hbel _⟩ | exact ⟨by rw [hf]; rfl, hbel _⟩ | exact ⟨by rw [hf], hbel _⟩
  · have h2 : ¬ 16384 ≤ num := fun h => h1 (.inl h)
    have h3 : ¬ 64 < deep := fun h => h1 (.inr h)
    by_cases h4 : 65536 < tx.size
    · have hf : r = 2 := by
        rw [hrr.out]; unfold ownF; rw [if_neg h1, builtV]; simp only [Int.reduceBEq, cond_true, cond_false, ownIn]; rw [if_pos h4]
      have h5 : (65536 : Int) < ((tx.size : Nat) : Int) := by omega
      clear h1
      go_enter Try.func188, Try.ntmps188
      go_wp2
      go_ret
      first | exact ⟨rfl, hbel _⟩ | exact ⟨by rw [hf]; rfl, hbel _⟩ | exact ⟨by rw [hf], hbel _⟩
    · have hf : r = 0 := by
        rw [hrr.out]; unfold ownF; rw [if_neg h1, builtV]; simp only [Int.reduceBEq, cond_true, cond_false, ownIn]; rw [if_neg h4]
      have h5 : ¬ (65536 : Int) < ((tx.size : Nat) : Int) := by omega
      clear h1
      go_enter Try.func188, Try.ntmps188
      go_wp2
      go_ret
      first | exact ⟨rfl, hbel _⟩ | exact ⟨by rw [hf]; rfl, hbel _⟩ | exact ⟨by rw [hf], hbel _⟩

set_option maxRecDepth 100000 in
set_option maxHeartbeats 1600000 in
theorem refOwn_bytes (cs : List Value) (w : World) (num deep : Int) (h : TRep w (.mk 6 b n fl tx bs rf ls es cl ver) cs) :
    Calls Try.prog 188 #[.agg cs.toArray, .int .i64 num, .int .i64 deep] w fun e w' => e = .returned (.int .i64 (ownF (builtV (.mk 6 b n fl tx bs rf ls es cl ver)) num deep)) ∧ Below w.heap.size w w' := by
  simp only [TRep] at h
  obtain ⟨sb, sl, se, xl, xe, rfl, -, ⟨oa, cap, rfl, -⟩, -⟩ := h
  obtain ⟨r, hr⟩ : ∃ r, r = ownF (builtV (.mk 6 b n fl tx bs rf ls es cl ver)) num deep := ⟨_, rfl⟩
  have hrr := Lib.hid hr
  rw [← hr]
  clear hr
  have hbel : ∀ cs : Array Value, Below w.heap.size w (w.alloc (.cells cs 31)) := fun cs => (Below.refl _ _).alloc (Nat.le_refl _) _
  by_cases h1 : 16384 ≤ num ∨ 64 < deep
  · have hf : r = 2 := by
      rw [hrr.out]; unfold ownF; rw [if_pos h1]; rw [builtV]; rfl
    by_cases h2 : 16384 ≤ num
    · clear h1
      go_enter Try.func188, Try.ntmps188
      go_wp2
      go_ret
      first | exact ⟨rfl, hbel _⟩ | exact ⟨by rw [hf]; rfl, hbel _⟩ | exact ⟨by rw [hf], hbel _⟩
    · have h3 : 64 < deep := by omega
      clear h1
      go_enter Try.func188, Try.ntmps188
      go_wp2
      go_ret
      first | exact ⟨rfl, hbel _⟩ | exact ⟨by rw [hf]; rfl, hbel _⟩ | exact ⟨by rw [hf], hbel _⟩
  · have h2 : ¬ 16384 ≤ num := fun h => h1 (.inl h)
    have h3 : ¬ 64 < deep := fun h => h1 (.inr h)
    by_cases h4 : 65536 < bs.length
    · have hf : r = 2 := by
        rw [hrr.out]; unfold ownF; rw [if_neg h1, builtV]; simp only [Int.reduceBEq, cond_true, cond_false, ownIn]; rw [if_pos h4]
      have h5 : (65536 : Int) < ((bs.length : Nat) : Int) := by omega
      clear h1
      go_enter Try.func188, Try.ntmps188
      go_wp2
      go_ret
      first | exact ⟨rfl, hbel _⟩ | exact ⟨by rw [hf]; rfl, hbel _⟩ | exact ⟨by rw [hf], hbel _⟩
    · have hf : r = 0 := by
        rw [hrr.out]; unfold ownF; rw [if_neg h1, builtV]; simp only [Int.reduceBEq, cond_true, cond_false, ownIn]; rw [if_neg h4]
      have h5 : ¬ (65536 : Int) < ((bs.length : Nat) : Int) := by omega
      clear h1
      go_enter Try.func188, Try.ntmps188
      go_wp2
      go_ret
      first | exact ⟨rfl, hbel _⟩ | exact ⟨by rw [hf]; rfl, hbel _⟩ | exact ⟨by rw [hf], hbel _⟩

set_option maxRecDepth 100000 in
set_option maxHeartbeats 1600000 in
theorem refOwn_list (cs : List Value) (w : World) (num deep : Int) (h : TRep w (.mk 8 b n fl tx bs rf ls es cl ver) cs) :
    Calls Try.prog 188 #[.agg cs.toArray, .int .i64 num, .int .i64 deep] w fun e w' => e = .returned (.int .i64 (ownF (builtV (.mk 8 b n fl tx bs rf ls es cl ver)) num deep)) ∧ Below w.heap.size w w' := by
  simp only [TRep] at h
  obtain ⟨sb, sl, se, xl, xe, rfl, -, -, ⟨oa, cap, rfl, -⟩, -⟩ := h
  obtain ⟨r, hr⟩ : ∃ r, r = ownF (builtV (.mk 8 b n fl tx bs rf ls es cl ver)) num deep := ⟨_, rfl⟩
  have hrr := Lib.hid hr
  rw [← hr]
  clear hr
  have hbel : ∀ cs : Array Value, Below w.heap.size w (w.alloc (.cells cs 31)) := fun cs => (Below.refl _ _).alloc (Nat.le_refl _) _
  by_cases h1 : 16384 ≤ num ∨ 64 < deep
  · have hf : r = 2 := by
      rw [hrr.out]; unfold ownF; rw [if_pos h1]; rw [builtV]; rfl
    by_cases h2 : 16384 ≤ num
    · clear h1
      go_enter Try.func188, Try.ntmps188
      go_wp2
      go_ret
      first | exact ⟨rfl, hbel _⟩ | exact ⟨by rw [hf]; rfl, hbel _⟩ | exact ⟨by rw [hf], hbel _⟩
    · have h3 : 64 < deep := by omega
      clear h1
      go_enter Try.func188, Try.ntmps188
      go_wp2
      go_ret
      first | exact ⟨rfl, hbel _⟩ | exact ⟨by rw [hf]; rfl, hbel _⟩ | exact ⟨by rw [hf], hbel _⟩
  · have h2 : ¬ 16384 ≤ num := fun h => h1 (.inl h)
    have h3 : ¬ 64 < deep := fun h => h1 (.inr h)
    by_cases h4 : 4096 < ls.length
    · have hf : r = 2 := by
        rw [hrr.out]; unfold ownF; rw [if_neg h1, builtV]; simp only [Int.reduceBEq, cond_true, cond_false, ownIn]; rw [builtVs_eq, List.length_map]; rw [if_pos h4]
      have h5 : (4096 : Int) < ((ls.length : Nat) : Int) := by omega
      clear h1
      go_enter Try.func188, Try.ntmps188
      go_wp2
      go_ret
      first | exact ⟨rfl, hbel _⟩ | exact ⟨by rw [hf]; rfl, hbel _⟩ | exact ⟨by rw [hf], hbel _⟩
    · have hf : r = 0 := by
        rw [hrr.out]; unfold ownF; rw [if_neg h1, builtV]; simp only [Int.reduceBEq, cond_true, cond_false, ownIn]; rw [builtVs_eq, List.length_map]; rw [if_neg h4]
      have h5 : ¬ (4096 : Int) < ((ls.length : Nat) : Int) := by omega
      clear h1
      go_enter Try.func188, Try.ntmps188
      go_wp2
      go_ret
      first | exact ⟨rfl, hbel _⟩ | exact ⟨by rw [hf]; rfl, hbel _⟩ | exact ⟨by rw [hf], hbel _⟩

set_option maxRecDepth 100000 in
set_option maxHeartbeats 1600000 in
theorem refOwn_alien (k : Int) (hk : k < 1 ∨ 11 < k) (cs : List Value) (w : World) (num deep : Int) (h : TRep w (.mk k b n fl tx bs rf ls es cl ver) cs) :
    Calls Try.prog 188 #[.agg cs.toArray, .int .i64 num, .int .i64 deep] w fun e w' => e = .returned (.int .i64 (ownF (builtV (.mk k b n fl tx bs rf ls es cl ver)) num deep)) ∧ Below w.heap.size w w' := by
  simp only [TRep] at h
  obtain ⟨sb, sl, se, xl, xe, rfl, -⟩ := h
  have hv : builtV (.mk k b n fl tx bs rf ls es cl ver) = .alien (alienT n) := by
    rw [builtV, show (k == 1) = false by simp; omega, show (k == 2) = false by simp; omega, show (k == 3) = false by simp; omega, show (k == 4) = false by simp; omega, show (k == 5) = false by simp; omega, show (k == 6) = false by simp; omega, show (k == 7) = false by simp; omega, show (k == 8) = false by simp; omega, show (k == 9) = false by simp; omega, show (k == 10) = false by simp; omega, show (k == 11) = false by simp; omega]; rfl
  have hf : ownF (builtV (.mk k b n fl tx bs rf ls es cl ver)) num deep = 6 := by
    rw [hv]; unfold ownF; split <;> rfl
  rw [hf]
  have hbel : ∀ cs : Array Value, Below w.heap.size w (w.alloc (.cells cs 31)) := fun cs => (Below.refl _ _).alloc (Nat.le_refl _) _
  have h11 : (k == 11) = false := by simp; omega
  clear hf hv
  by_cases h1 : k < 1
  · go_enter Try.func188, Try.ntmps188
    go_wp2
    go_ret
    exact ⟨rfl, hbel _⟩
  · have h2 : 10 < k := by omega
    go_enter Try.func188, Try.ntmps188
    go_wp2
    go_ret
    exact ⟨rfl, hbel _⟩
end
end Go.Proofs.Ytgmdbpplfjkjmaa
