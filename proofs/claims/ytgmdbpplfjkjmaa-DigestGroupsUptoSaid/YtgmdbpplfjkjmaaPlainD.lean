/- tenonmake.plain of dicts. -/
import Derived.Test.YtgmdbpplfjkjmaaPlainT
namespace Go.Proofs.Ytgmdbpplfjkjmaa
open Go.RowKit
set_option linter.unusedVariables false
set_option linter.unusedSimpArgs false

/-- What is stored last. -/
theorem plain_close {w w1 : World} {cells : List Value} {t : Term} (hB : w1.heap[w.heap.size]? = some (.cells zeroCells 31 (0, 0))) (hb : Below w.heap.size w w1) (ht : TRep (only w1 (fun b => w.heap.size < b)) t cells) :
    (w1.setRow w.heap.size cells.toArray).heap[w.heap.size]? = some (.cells cells.toArray 31 (0, 0)) ∧ TRep (only (w1.setRow w.heap.size cells.toArray) (fun b => w.heap.size ≤ b)) t cells ∧ Below w.heap.size w (w1.setRow w.heap.size cells.toArray) := by
  refine ⟨setRow_heap _ _ _ _ _ _ hB, TRep.keep (only_keep fun b hb hs => ⟨Nat.le_of_lt hs, setRow_other _ _ _ _ (by omega)⟩) _ _ ht, ?_⟩
  exact ⟨hb.os, hb.tape, hb.output, by rw [size_setRow]; exact hb.size, fun k hk => (setRow_other _ _ _ _ (by omega)).trans (hb.block k hk)⟩
/-- Entries that a call made, as a term's field. -/
theorem entries_field {w w1 : World} {n B : Nat} {es : List (ByteArray × Term)} {se : Value} {xe : List Value} (hlt : w.heap.size < B) (ho : w1.ownsRow B 218 12 se n xe) (hn : n ≤ 1048576) (hes : EsRep (only w1 (NotOwn B se)) es xe) :
    AtRow (only w1 (fun b => w.heap.size < b)) se n 12 xe ∧ EsRep (only w1 (fun b => w.heap.size < b)) es xe :=
  ⟨(AtRow.of_own ho hn).only (fun _ b hb => by have := (ownsRow_lt ho b (ownL_some.2 hb)).1; omega) (by omega), EsRep.keep (only_keep fun b _ hs => ⟨by have := hs.1; omega, rfl⟩) _ _ hes⟩

set_option maxRecDepth 100000 in
set_option maxHeartbeats 1600000 in
theorem plain_dict (d : List (ByteArray × Val)) (ih : ∀ u ∈ d.map (·.2), PlainSaid u) : PlainSaid (.dict d) := by
  intro deep x fs w h hs h0 h1
  simp only [VRep] at h
  obtain ⟨sv, xs, gs, rfl, ho, hd, rfl⟩ := h
  simp only [smallV] at hs
  by_cases hd4 : 400 < deep
  · have hd' : decide (400 < deep) = true := by simpa using hd4
    have hT := fun W => leaf_rep W 0 false 0 0 ⟨#[]⟩ 0 (by rfl) (by rfl) (by rfl) (by simp [maxLen, ByteArray.size]) (by rfl)
    go_enter Try.func87, Try.ntmps87
    go_wp2_with (refine wpList_store_row rfl 31 (.tmp 4) _ rfl w.heap.size zeroCells rfl rfl 31 zeroCells (zeroB w) termSize rfl (all_one (TRep.ones (hT w))) ?_)
    all_goals rw [World.setRow_alloc_new]
    all_goals go_wp2
    all_goals refine ⟨rfl, _, results_cell_row rfl _ _ w.heap.size 31 zeroCells (0, 0) _ rfl (heap_alloc_new w _) Try.underlying31 rfl termSize, _, rfl, ?_, (Below.refl _ _).alloc (Nat.le_refl _) _⟩
    all_goals (rw [plainT, hd']; exact hT _)
  · have hd' : decide (400 < deep) = false := by simpa using hd4
    have hal : Below w.heap.size w (w.alloc (.cells zeroCells 31)) := (Below.refl _ _).alloc (Nat.le_refl _) _
    have hen := Lib.hid (entries_plain d ih sv xs gs (w.alloc (.cells zeroCells 31)) deep (ownsRow_keep ho (fun b hb => hal.block b (ownsRow_lt ho b hb).2)) (DsRep.but hd (below_but0 hal) (fun _ _ f => f)) hs.1 hs.2 h0 (by omega))
    have hsz : (w.alloc (.cells zeroCells 31)).heap.size = w.heap.size + 1 := size_alloc _ _
    rw [hsz] at hen
    have hpl : plainT (.dict d) deep = .mk 9 false 0 0 ⟨#[]⟩ [] 0 [] (plainEs d (deep + 1)) ⟨#[]⟩ 0 := by rw [plainT, hd']; rfl
    unfold PlainEnd
    rw [hpl]
    have hsm := Lib.hid hs.1
    clear hs ho hd ih hpl
    go_enter Try.func87, Try.ntmps87
    go_wp2_with fail
    refine hen.out.mono ?_
    rintro e w1 ⟨se, xe, rfl, ho1, hes, hb1⟩
    have hB := (hb1.block w.heap.size (by omega)).trans (zeroB w)
    have hbw : Below w.heap.size w w1 := hal.trans (below_le hb1 (by omega))
    obtain ⟨hrow, hes'⟩ := entries_field (w := w) (by omega) ho1 hsm.out hes
    obtain ⟨oa, cap, rfl, -⟩ := ownsRow_form ho1
    have hT : TRep (only w1 (fun b => w.heap.size < b)) (.mk 9 false 0 0 ⟨#[]⟩ [] 0 [] (plainEs d (deep + 1)) ⟨#[]⟩ 0) [.int .i64 9, .bool false, .int .i64 0, .float .f64 0, .string ⟨#[]⟩, .slice none 0 0, .int .u64 0, .slice none 0 0, .slice oa d.length cap, .string ⟨#[]⟩, .int .i64 0] := by
      simp only [TRep]
      refine ⟨_, _, _, [], xe, rfl, ⟨by rfl, by rfl, by rfl, by simp [maxLen, ByteArray.size], by rfl, by simp [maxLen, ByteArray.size], by rfl⟩, nilRow, nilRow, rfl, ?_, hes'⟩
      rw [plainEs_eq, List.length_map]
      exact hrow
    have hcl := Lib.hid (plain_close hB hbw hT)
    have hone := TRep.ones hT
    clear hrow hes' hT hes ho1
    go_wp2_with (refine wpList_store_row rfl 31 (.tmp 4) _ rfl w.heap.size #[.int .i64 9, .bool false, .int .i64 0, .float .f64 0, .string ⟨#[]⟩, .slice none 0 0, .int .u64 0, .slice none 0 0, .slice oa d.length cap, .string ⟨#[]⟩, .int .i64 0] rfl rfl 31 zeroCells hB termSize rfl (all_one hone) ?_)
    all_goals go_wp2
    all_goals exact ⟨rfl, _, results_cell_row rfl _ _ w.heap.size 31 _ (0, 0) _ rfl hcl.out.1 Try.underlying31 rfl termSize, _, rfl, hcl.out.2.1, hcl.out.2.2⟩
end Go.Proofs.Ytgmdbpplfjkjmaa
