/- tenonmake.plain of values without parts. -/
import Derived.Test.YtgmdbpplfjkjmaaPlain
import Derived.Laws.Tables
import Derived.Deep.WholeRow
namespace Go.Proofs.Ytgmdbpplfjkjmaa
open Go.RowKit
set_option linter.unusedVariables false
set_option linter.unusedSimpArgs false

/-- A term's cells before anything was stored. -/
def zeroCells : Array Value := #[.int .i64 0, .bool false, .int .i64 0, .float .f64 0, .string ⟨#[]⟩, .slice none 0 0, .int .u64 0, .slice none 0 0, .slice none 0 0, .string ⟨#[]⟩, .int .i64 0]
theorem zeroB (w : World) : (w.alloc (.cells zeroCells 31)).heap[w.heap.size]? = some (.cells zeroCells 31 (0, 0)) := heap_alloc_new w _
theorem termSize : (Try.prog.info? 31).map (·.size) = some 11 := by kernel_rfl
theorem nilRow {w : World} {size : Nat} : AtRow w (.slice none 0 0) 0 size [] := ⟨none, 0, rfl, Nat.le_refl _, Nat.zero_le _, by omega, fun _ => rfl, by simp, fun h => absurd h (by omega)⟩
theorem all_one {cs : List Value} (h : ∀ u ∈ cs, u.oneCell' = true) : cs.toArray.all (·.oneCell') = true := by simpa using h
/-- A term without parts, in its cells. -/
theorem leaf_rep (w : World) (k : Int) (b : Bool) (n : Int) (fl : Nat) (tx : ByteArray) (rf : Int) (hk : (Lit.int .i64 k).wf = true) (hn : (Lit.int .i64 n).wf = true) (hf : (Lit.float .f64 fl).wf = true) (ht : tx.size ≤ maxLen) (hr : (Lit.int .u64 rf).wf = true) :
    TRep w (.mk k b n fl tx [] rf [] [] ⟨#[]⟩ 0) [.int .i64 k, .bool b, .int .i64 n, .float .f64 fl, .string tx, .slice none 0 0, .int .u64 rf, .slice none 0 0, .slice none 0 0, .string ⟨#[]⟩, .int .i64 0] := by
  simp only [TRep]
  exact ⟨_, _, _, [], [], rfl, ⟨hk, hn, hf, ht, hr, by simp [maxLen, ByteArray.size], by rfl⟩, nilRow, nilRow, rfl, nilRow, rfl⟩
set_option maxRecDepth 100000 in
set_option maxHeartbeats 1600000 in
theorem plain_nil  : PlainSaid (.nil) := by
  intro deep x fs w h hs h0 h1
  simp only [VRep] at h
  obtain ⟨rfl, rfl⟩ := h
  by_cases hd : 400 < deep
  · have hd' : decide (400 < deep) = true := by simpa using hd
    have hT := fun W => leaf_rep W 0 false 0 0 ⟨#[]⟩ 0 (by rfl) (by rfl) (by rfl) (by simp [maxLen, ByteArray.size]) (by rfl)
    go_enter Try.func87, Try.ntmps87
    go_wp2_with (refine wpList_store_row rfl 31 (.tmp 4) _ rfl w.heap.size #[.int .i64 0, .bool false, .int .i64 0, .float .f64 0, .string ⟨#[]⟩, .slice none 0 0, .int .u64 0, .slice none 0 0, .slice none 0 0, .string ⟨#[]⟩, .int .i64 0] rfl rfl 31 zeroCells (zeroB w) termSize rfl (all_one (TRep.ones (hT w))) ?_)
    all_goals rw [World.setRow_alloc_new]
    all_goals go_wp2
    all_goals refine ⟨rfl, _, results_cell_row rfl _ _ w.heap.size 31 #[.int .i64 0, .bool false, .int .i64 0, .float .f64 0, .string ⟨#[]⟩, .slice none 0 0, .int .u64 0, .slice none 0 0, .slice none 0 0, .string ⟨#[]⟩, .int .i64 0] (0, 0) _ rfl (heap_alloc_new w _) Try.underlying31 rfl termSize, _, rfl, ?_, (Below.refl _ _).alloc (Nat.le_refl _) _⟩
    all_goals (rw [plainT, hd']; exact hT _)
  · have hd' : decide (400 < deep) = false := by simpa using hd
    have hT := fun W => leaf_rep W 1 false 0 0 ⟨#[]⟩ 0 (by rfl) (by rfl) (by rfl) (by simp [maxLen, ByteArray.size]) (by rfl)
    go_enter Try.func87, Try.ntmps87
    go_wp2_with (refine wpList_store_row rfl 31 (.tmp 4) _ rfl w.heap.size #[.int .i64 1, .bool false, .int .i64 0, .float .f64 0, .string ⟨#[]⟩, .slice none 0 0, .int .u64 0, .slice none 0 0, .slice none 0 0, .string ⟨#[]⟩, .int .i64 0] rfl rfl 31 zeroCells (zeroB w) termSize rfl (all_one (TRep.ones (hT w))) ?_)
    all_goals rw [World.setRow_alloc_new]
    all_goals go_wp2
    all_goals refine ⟨rfl, _, results_cell_row rfl _ _ w.heap.size 31 #[.int .i64 1, .bool false, .int .i64 0, .float .f64 0, .string ⟨#[]⟩, .slice none 0 0, .int .u64 0, .slice none 0 0, .slice none 0 0, .string ⟨#[]⟩, .int .i64 0] (0, 0) _ rfl (heap_alloc_new w _) Try.underlying31 rfl termSize, _, rfl, ?_, (Below.refl _ _).alloc (Nat.le_refl _) _⟩
    all_goals (rw [plainT, hd']; exact hT _)
set_option maxRecDepth 100000 in
set_option maxHeartbeats 1600000 in
theorem plain_bool (b : Bool) : PlainSaid (.bool b) := by
  intro deep x fs w h hs h0 h1
  simp only [VRep] at h
  obtain ⟨rfl, rfl⟩ := h
  by_cases hd : 400 < deep
  · have hd' : decide (400 < deep) = true := by simpa using hd
    have hT := fun W => leaf_rep W 0 false 0 0 ⟨#[]⟩ 0 (by rfl) (by rfl) (by rfl) (by simp [maxLen, ByteArray.size]) (by rfl)
    go_enter Try.func87, Try.ntmps87
    go_wp2_with (refine wpList_store_row rfl 31 (.tmp 4) _ rfl w.heap.size #[.int .i64 0, .bool false, .int .i64 0, .float .f64 0, .string ⟨#[]⟩, .slice none 0 0, .int .u64 0, .slice none 0 0, .slice none 0 0, .string ⟨#[]⟩, .int .i64 0] rfl rfl 31 zeroCells (zeroB w) termSize rfl (all_one (TRep.ones (hT w))) ?_)
    all_goals rw [World.setRow_alloc_new]
    all_goals go_wp2
    all_goals refine ⟨rfl, _, results_cell_row rfl _ _ w.heap.size 31 #[.int .i64 0, .bool false, .int .i64 0, .float .f64 0, .string ⟨#[]⟩, .slice none 0 0, .int .u64 0, .slice none 0 0, .slice none 0 0, .string ⟨#[]⟩, .int .i64 0] (0, 0) _ rfl (heap_alloc_new w _) Try.underlying31 rfl termSize, _, rfl, ?_, (Below.refl _ _).alloc (Nat.le_refl _) _⟩
    all_goals (rw [plainT, hd']; exact hT _)
  · have hd' : decide (400 < deep) = false := by simpa using hd
    have hT := fun W => leaf_rep W 2 b 0 0 ⟨#[]⟩ 0 (by rfl) (by rfl) (by rfl) (by simp [maxLen, ByteArray.size]) (by rfl)
    go_enter Try.func87, Try.ntmps87
    go_wp2_with (refine wpList_store_row rfl 31 (.tmp 4) _ rfl w.heap.size #[.int .i64 2, .bool b, .int .i64 0, .float .f64 0, .string ⟨#[]⟩, .slice none 0 0, .int .u64 0, .slice none 0 0, .slice none 0 0, .string ⟨#[]⟩, .int .i64 0] rfl rfl 31 zeroCells (zeroB w) termSize rfl (all_one (TRep.ones (hT w))) ?_)
    all_goals rw [World.setRow_alloc_new]
    all_goals go_wp2
    all_goals refine ⟨rfl, _, results_cell_row rfl _ _ w.heap.size 31 #[.int .i64 2, .bool b, .int .i64 0, .float .f64 0, .string ⟨#[]⟩, .slice none 0 0, .int .u64 0, .slice none 0 0, .slice none 0 0, .string ⟨#[]⟩, .int .i64 0] (0, 0) _ rfl (heap_alloc_new w _) Try.underlying31 rfl termSize, _, rfl, ?_, (Below.refl _ _).alloc (Nat.le_refl _) _⟩
    all_goals (rw [plainT, hd']; exact hT _)
set_option maxRecDepth 100000 in
set_option maxHeartbeats 1600000 in
theorem plain_int (n : Int) : PlainSaid (.int n) := by
  intro deep x fs w h hs h0 h1
  simp only [VRep] at h
  obtain ⟨rfl, wn, rfl⟩ := h
  by_cases hd : 400 < deep
  · have hd' : decide (400 < deep) = true := by simpa using hd
    have hT := fun W => leaf_rep W 0 false 0 0 ⟨#[]⟩ 0 (by rfl) (by rfl) (by rfl) (by simp [maxLen, ByteArray.size]) (by rfl)
    go_enter Try.func87, Try.ntmps87
    go_wp2_with (refine wpList_store_row rfl 31 (.tmp 4) _ rfl w.heap.size #[.int .i64 0, .bool false, .int .i64 0, .float .f64 0, .string ⟨#[]⟩, .slice none 0 0, .int .u64 0, .slice none 0 0, .slice none 0 0, .string ⟨#[]⟩, .int .i64 0] rfl rfl 31 zeroCells (zeroB w) termSize rfl (all_one (TRep.ones (hT w))) ?_)
    all_goals rw [World.setRow_alloc_new]
    all_goals go_wp2
    all_goals refine ⟨rfl, _, results_cell_row rfl _ _ w.heap.size 31 #[.int .i64 0, .bool false, .int .i64 0, .float .f64 0, .string ⟨#[]⟩, .slice none 0 0, .int .u64 0, .slice none 0 0, .slice none 0 0, .string ⟨#[]⟩, .int .i64 0] (0, 0) _ rfl (heap_alloc_new w _) Try.underlying31 rfl termSize, _, rfl, ?_, (Below.refl _ _).alloc (Nat.le_refl _) _⟩
    all_goals (rw [plainT, hd']; exact hT _)
  · have hd' : decide (400 < deep) = false := by simpa using hd
    have hT := fun W => leaf_rep W 3 false n 0 ⟨#[]⟩ 0 (by rfl) wn (by rfl) (by simp [maxLen, ByteArray.size]) (by rfl)
    go_enter Try.func87, Try.ntmps87
    go_wp2_with (refine wpList_store_row rfl 31 (.tmp 4) _ rfl w.heap.size #[.int .i64 3, .bool false, .int .i64 n, .float .f64 0, .string ⟨#[]⟩, .slice none 0 0, .int .u64 0, .slice none 0 0, .slice none 0 0, .string ⟨#[]⟩, .int .i64 0] rfl rfl 31 zeroCells (zeroB w) termSize rfl (all_one (TRep.ones (hT w))) ?_)
    all_goals rw [World.setRow_alloc_new]
    all_goals go_wp2
    all_goals refine ⟨rfl, _, results_cell_row rfl _ _ w.heap.size 31 #[.int .i64 3, .bool false, .int .i64 n, .float .f64 0, .string ⟨#[]⟩, .slice none 0 0, .int .u64 0, .slice none 0 0, .slice none 0 0, .string ⟨#[]⟩, .int .i64 0] (0, 0) _ rfl (heap_alloc_new w _) Try.underlying31 rfl termSize, _, rfl, ?_, (Below.refl _ _).alloc (Nat.le_refl _) _⟩
    all_goals (rw [plainT, hd']; exact hT _)
set_option maxRecDepth 100000 in
set_option maxHeartbeats 1600000 in
theorem plain_float (n : Nat) : PlainSaid (.float n) := by
  intro deep x fs w h hs h0 h1
  simp only [VRep] at h
  obtain ⟨rfl, wn, rfl⟩ := h
  by_cases hd : 400 < deep
  · have hd' : decide (400 < deep) = true := by simpa using hd
    have hT := fun W => leaf_rep W 0 false 0 0 ⟨#[]⟩ 0 (by rfl) (by rfl) (by rfl) (by simp [maxLen, ByteArray.size]) (by rfl)
    go_enter Try.func87, Try.ntmps87
    go_wp2_with (refine wpList_store_row rfl 31 (.tmp 4) _ rfl w.heap.size #[.int .i64 0, .bool false, .int .i64 0, .float .f64 0, .string ⟨#[]⟩, .slice none 0 0, .int .u64 0, .slice none 0 0, .slice none 0 0, .string ⟨#[]⟩, .int .i64 0] rfl rfl 31 zeroCells (zeroB w) termSize rfl (all_one (TRep.ones (hT w))) ?_)
    all_goals rw [World.setRow_alloc_new]
    all_goals go_wp2
    all_goals refine ⟨rfl, _, results_cell_row rfl _ _ w.heap.size 31 #[.int .i64 0, .bool false, .int .i64 0, .float .f64 0, .string ⟨#[]⟩, .slice none 0 0, .int .u64 0, .slice none 0 0, .slice none 0 0, .string ⟨#[]⟩, .int .i64 0] (0, 0) _ rfl (heap_alloc_new w _) Try.underlying31 rfl termSize, _, rfl, ?_, (Below.refl _ _).alloc (Nat.le_refl _) _⟩
    all_goals (rw [plainT, hd']; exact hT _)
  · have hd' : decide (400 < deep) = false := by simpa using hd
    have hT := fun W => leaf_rep W 4 false 0 n ⟨#[]⟩ 0 (by rfl) (by rfl) wn (by simp [maxLen, ByteArray.size]) (by rfl)
    go_enter Try.func87, Try.ntmps87
    go_wp2_with (refine wpList_store_row rfl 31 (.tmp 4) _ rfl w.heap.size #[.int .i64 4, .bool false, .int .i64 0, .float .f64 n, .string ⟨#[]⟩, .slice none 0 0, .int .u64 0, .slice none 0 0, .slice none 0 0, .string ⟨#[]⟩, .int .i64 0] rfl rfl 31 zeroCells (zeroB w) termSize rfl (all_one (TRep.ones (hT w))) ?_)
    all_goals rw [World.setRow_alloc_new]
    all_goals go_wp2
    all_goals refine ⟨rfl, _, results_cell_row rfl _ _ w.heap.size 31 #[.int .i64 4, .bool false, .int .i64 0, .float .f64 n, .string ⟨#[]⟩, .slice none 0 0, .int .u64 0, .slice none 0 0, .slice none 0 0, .string ⟨#[]⟩, .int .i64 0] (0, 0) _ rfl (heap_alloc_new w _) Try.underlying31 rfl termSize, _, rfl, ?_, (Below.refl _ _).alloc (Nat.le_refl _) _⟩
    all_goals (rw [plainT, hd']; exact hT _)
set_option maxRecDepth 100000 in
set_option maxHeartbeats 1600000 in
theorem plain_text (s : ByteArray) : PlainSaid (.text s) := by
  intro deep x fs w h hs h0 h1
  simp only [VRep] at h
  obtain ⟨rfl, wn, rfl⟩ := h
  by_cases hd : 400 < deep
  · have hd' : decide (400 < deep) = true := by simpa using hd
    have hT := fun W => leaf_rep W 0 false 0 0 ⟨#[]⟩ 0 (by rfl) (by rfl) (by rfl) (by simp [maxLen, ByteArray.size]) (by rfl)
    go_enter Try.func87, Try.ntmps87
    go_wp2_with (refine wpList_store_row rfl 31 (.tmp 4) _ rfl w.heap.size #[.int .i64 0, .bool false, .int .i64 0, .float .f64 0, .string ⟨#[]⟩, .slice none 0 0, .int .u64 0, .slice none 0 0, .slice none 0 0, .string ⟨#[]⟩, .int .i64 0] rfl rfl 31 zeroCells (zeroB w) termSize rfl (all_one (TRep.ones (hT w))) ?_)
    all_goals rw [World.setRow_alloc_new]
    all_goals go_wp2
    all_goals refine ⟨rfl, _, results_cell_row rfl _ _ w.heap.size 31 #[.int .i64 0, .bool false, .int .i64 0, .float .f64 0, .string ⟨#[]⟩, .slice none 0 0, .int .u64 0, .slice none 0 0, .slice none 0 0, .string ⟨#[]⟩, .int .i64 0] (0, 0) _ rfl (heap_alloc_new w _) Try.underlying31 rfl termSize, _, rfl, ?_, (Below.refl _ _).alloc (Nat.le_refl _) _⟩
    all_goals (rw [plainT, hd']; exact hT _)
  · have hd' : decide (400 < deep) = false := by simpa using hd
    have hT := fun W => leaf_rep W 5 false 0 0 s 0 (by rfl) (by rfl) (by rfl) wn (by rfl)
    go_enter Try.func87, Try.ntmps87
    go_wp2_with (refine wpList_store_row rfl 31 (.tmp 4) _ rfl w.heap.size #[.int .i64 5, .bool false, .int .i64 0, .float .f64 0, .string s, .slice none 0 0, .int .u64 0, .slice none 0 0, .slice none 0 0, .string ⟨#[]⟩, .int .i64 0] rfl rfl 31 zeroCells (zeroB w) termSize rfl (all_one (TRep.ones (hT w))) ?_)
    all_goals rw [World.setRow_alloc_new]
    all_goals go_wp2
    all_goals refine ⟨rfl, _, results_cell_row rfl _ _ w.heap.size 31 #[.int .i64 5, .bool false, .int .i64 0, .float .f64 0, .string s, .slice none 0 0, .int .u64 0, .slice none 0 0, .slice none 0 0, .string ⟨#[]⟩, .int .i64 0] (0, 0) _ rfl (heap_alloc_new w _) Try.underlying31 rfl termSize, _, rfl, ?_, (Below.refl _ _).alloc (Nat.le_refl _) _⟩
    all_goals (rw [plainT, hd']; exact hT _)
set_option maxRecDepth 100000 in
set_option maxHeartbeats 1600000 in
theorem plain_ref (n : Int) : PlainSaid (.ref n) := by
  intro deep x fs w h hs h0 h1
  simp only [VRep] at h
  obtain ⟨rfl, wn, rfl⟩ := h
  by_cases hd : 400 < deep
  · have hd' : decide (400 < deep) = true := by simpa using hd
    have hT := fun W => leaf_rep W 0 false 0 0 ⟨#[]⟩ 0 (by rfl) (by rfl) (by rfl) (by simp [maxLen, ByteArray.size]) (by rfl)
    go_enter Try.func87, Try.ntmps87
    go_wp2_with (refine wpList_store_row rfl 31 (.tmp 4) _ rfl w.heap.size #[.int .i64 0, .bool false, .int .i64 0, .float .f64 0, .string ⟨#[]⟩, .slice none 0 0, .int .u64 0, .slice none 0 0, .slice none 0 0, .string ⟨#[]⟩, .int .i64 0] rfl rfl 31 zeroCells (zeroB w) termSize rfl (all_one (TRep.ones (hT w))) ?_)
    all_goals rw [World.setRow_alloc_new]
    all_goals go_wp2
    all_goals refine ⟨rfl, _, results_cell_row rfl _ _ w.heap.size 31 #[.int .i64 0, .bool false, .int .i64 0, .float .f64 0, .string ⟨#[]⟩, .slice none 0 0, .int .u64 0, .slice none 0 0, .slice none 0 0, .string ⟨#[]⟩, .int .i64 0] (0, 0) _ rfl (heap_alloc_new w _) Try.underlying31 rfl termSize, _, rfl, ?_, (Below.refl _ _).alloc (Nat.le_refl _) _⟩
    all_goals (rw [plainT, hd']; exact hT _)
  · have hd' : decide (400 < deep) = false := by simpa using hd
    have hT := fun W => leaf_rep W 7 false 0 0 ⟨#[]⟩ n (by rfl) (by rfl) (by rfl) (by simp [maxLen, ByteArray.size]) wn
    go_enter Try.func87, Try.ntmps87
    go_wp2_with (refine wpList_store_row rfl 31 (.tmp 4) _ rfl w.heap.size #[.int .i64 7, .bool false, .int .i64 0, .float .f64 0, .string ⟨#[]⟩, .slice none 0 0, .int .u64 n, .slice none 0 0, .slice none 0 0, .string ⟨#[]⟩, .int .i64 0] rfl rfl 31 zeroCells (zeroB w) termSize rfl (all_one (TRep.ones (hT w))) ?_)
    all_goals rw [World.setRow_alloc_new]
    all_goals go_wp2
    all_goals refine ⟨rfl, _, results_cell_row rfl _ _ w.heap.size 31 #[.int .i64 7, .bool false, .int .i64 0, .float .f64 0, .string ⟨#[]⟩, .slice none 0 0, .int .u64 n, .slice none 0 0, .slice none 0 0, .string ⟨#[]⟩, .int .i64 0] (0, 0) _ rfl (heap_alloc_new w _) Try.underlying31 rfl termSize, _, rfl, ?_, (Below.refl _ _).alloc (Nat.le_refl _) _⟩
    all_goals (rw [plainT, hd']; exact hT _)
set_option maxRecDepth 100000 in
set_option maxHeartbeats 1600000 in
theorem plain_nothing  : PlainSaid (.nothing) := by
  intro deep x fs w h hs h0 h1
  simp only [VRep] at h
  obtain ⟨rfl, rfl⟩ := h
  by_cases hd : 400 < deep
  · have hd' : decide (400 < deep) = true := by simpa using hd
    have hT := fun W => leaf_rep W 0 false 0 0 ⟨#[]⟩ 0 (by rfl) (by rfl) (by rfl) (by simp [maxLen, ByteArray.size]) (by rfl)
    go_enter Try.func87, Try.ntmps87
    go_wp2_with (refine wpList_store_row rfl 31 (.tmp 4) _ rfl w.heap.size #[.int .i64 0, .bool false, .int .i64 0, .float .f64 0, .string ⟨#[]⟩, .slice none 0 0, .int .u64 0, .slice none 0 0, .slice none 0 0, .string ⟨#[]⟩, .int .i64 0] rfl rfl 31 zeroCells (zeroB w) termSize rfl (all_one (TRep.ones (hT w))) ?_)
    all_goals rw [World.setRow_alloc_new]
    all_goals go_wp2
    all_goals refine ⟨rfl, _, results_cell_row rfl _ _ w.heap.size 31 #[.int .i64 0, .bool false, .int .i64 0, .float .f64 0, .string ⟨#[]⟩, .slice none 0 0, .int .u64 0, .slice none 0 0, .slice none 0 0, .string ⟨#[]⟩, .int .i64 0] (0, 0) _ rfl (heap_alloc_new w _) Try.underlying31 rfl termSize, _, rfl, ?_, (Below.refl _ _).alloc (Nat.le_refl _) _⟩
    all_goals (rw [plainT, hd']; exact hT _)
  · have hd' : decide (400 < deep) = false := by simpa using hd
    have hT := fun W => leaf_rep W 11 false 0 0 ⟨#[]⟩ 0 (by rfl) (by rfl) (by rfl) (by simp [maxLen, ByteArray.size]) (by rfl)
    go_enter Try.func87, Try.ntmps87
    go_wp2_with (refine wpList_store_row rfl 31 (.tmp 4) _ rfl w.heap.size #[.int .i64 11, .bool false, .int .i64 0, .float .f64 0, .string ⟨#[]⟩, .slice none 0 0, .int .u64 0, .slice none 0 0, .slice none 0 0, .string ⟨#[]⟩, .int .i64 0] rfl rfl 31 zeroCells (zeroB w) termSize rfl (all_one (TRep.ones (hT w))) ?_)
    all_goals rw [World.setRow_alloc_new]
    all_goals go_wp2
    all_goals refine ⟨rfl, _, results_cell_row rfl _ _ w.heap.size 31 #[.int .i64 11, .bool false, .int .i64 0, .float .f64 0, .string ⟨#[]⟩, .slice none 0 0, .int .u64 0, .slice none 0 0, .slice none 0 0, .string ⟨#[]⟩, .int .i64 0] (0, 0) _ rfl (heap_alloc_new w _) Try.underlying31 rfl termSize, _, rfl, ?_, (Below.refl _ _).alloc (Nat.le_refl _) _⟩
    all_goals (rw [plainT, hd']; exact hT _)
set_option maxRecDepth 100000 in
set_option maxHeartbeats 1600000 in
theorem plain_alien (u : TypeId) : PlainSaid (.alien u) := by
  intro deep x fs w h hs h0 h1
  simp only [VRep] at h
  obtain ⟨y, rfl, hk, rfl⟩ := h
  obtain ⟨k1, k2, k3, k4, k5, k6, k7, k8, k9⟩ := kinded_no hk
  clear hk
  by_cases hd : 400 < deep
  · have hd' : decide (400 < deep) = true := by simpa using hd
    have hT := fun W => leaf_rep W 0 false 0 0 ⟨#[]⟩ 0 (by rfl) (by rfl) (by rfl) (by simp [maxLen, ByteArray.size]) (by rfl)
    go_enter Try.func87, Try.ntmps87
    go_wp2_with (refine wpList_store_row rfl 31 (.tmp 4) _ rfl w.heap.size #[.int .i64 0, .bool false, .int .i64 0, .float .f64 0, .string ⟨#[]⟩, .slice none 0 0, .int .u64 0, .slice none 0 0, .slice none 0 0, .string ⟨#[]⟩, .int .i64 0] rfl rfl 31 zeroCells (zeroB w) termSize rfl (all_one (TRep.ones (hT w))) ?_)
    all_goals rw [World.setRow_alloc_new]
    all_goals go_wp2
    all_goals refine ⟨rfl, _, results_cell_row rfl _ _ w.heap.size 31 #[.int .i64 0, .bool false, .int .i64 0, .float .f64 0, .string ⟨#[]⟩, .slice none 0 0, .int .u64 0, .slice none 0 0, .slice none 0 0, .string ⟨#[]⟩, .int .i64 0] (0, 0) _ rfl (heap_alloc_new w _) Try.underlying31 rfl termSize, _, rfl, ?_, (Below.refl _ _).alloc (Nat.le_refl _) _⟩
    all_goals (rw [plainT]; exact hT _)
  · have hd' : decide (400 < deep) = false := by simpa using hd
    have hT := fun W => leaf_rep W 0 false 0 0 ⟨#[]⟩ 0 (by rfl) (by rfl) (by rfl) (by simp [maxLen, ByteArray.size]) (by rfl)
    go_enter Try.func87, Try.ntmps87
    go_wp2_with (refine wpList_store_row rfl 31 (.tmp 4) _ rfl w.heap.size #[.int .i64 0, .bool false, .int .i64 0, .float .f64 0, .string ⟨#[]⟩, .slice none 0 0, .int .u64 0, .slice none 0 0, .slice none 0 0, .string ⟨#[]⟩, .int .i64 0] rfl rfl 31 zeroCells (zeroB w) termSize rfl (all_one (TRep.ones (hT w))) ?_)
    all_goals rw [World.setRow_alloc_new]
    all_goals go_wp2
    all_goals refine ⟨rfl, _, results_cell_row rfl _ _ w.heap.size 31 #[.int .i64 0, .bool false, .int .i64 0, .float .f64 0, .string ⟨#[]⟩, .slice none 0 0, .int .u64 0, .slice none 0 0, .slice none 0 0, .string ⟨#[]⟩, .int .i64 0] (0, 0) _ rfl (heap_alloc_new w _) Try.underlying31 rfl termSize, _, rfl, ?_, (Below.refl _ _).alloc (Nat.le_refl _) _⟩
    all_goals (rw [plainT]; exact hT _)
end Go.Proofs.Ytgmdbpplfjkjmaa
