/- tenonmake.plain of bytes. -/
import Derived.Test.YtpcbdjfonmohaaaPlainD
namespace Go.Proofs.Ytpcbdjfonmohaaa
open Go.RowKit
set_option linter.unusedVariables false
set_option linter.unusedSimpArgs false

/-- Bytes of the call's own, as a term's field. -/
theorem bytes_term {w w1 : World} {B cap : Nat} {a : Option Addr} {l : List UInt8} (hlt : w.heap.size < B) (ho : w1.ownsRow B 5 1 (.slice a l.length cap) l.length (byteCells l)) (hn : l.length ≤ 1048576) :
    TRep (only w1 (fun b => w.heap.size < b)) (.mk 6 false 0 0 ⟨#[]⟩ l 0 [] [] ⟨#[]⟩ 0) [.int .i64 6, .bool false, .int .i64 0, .float .f64 0, .string ⟨#[]⟩, .slice a l.length cap, .int .u64 0, .slice none 0 0, .slice none 0 0, .string ⟨#[]⟩, .int .i64 0] := by
  simp only [TRep]
  refine ⟨_, _, _, [], [], rfl, ⟨by rfl, by rfl, by rfl, by simp [maxLen, ByteArray.size], by rfl, by simp [maxLen, ByteArray.size], by rfl⟩, ?_, nilRow, rfl, nilRow, rfl⟩
  exact (AtRow.of_own ho hn).only (fun _ b hb => by have := (ownsRow_lt ho b (ownL_some.2 hb)).1; omega) (by omega)
set_option maxRecDepth 100000 in
set_option maxHeartbeats 1600000 in
theorem plain_bytes (l : List UInt8) : PlainSaid (.bytes l) := by
  intro deep x fs w h hs h0 h1
  simp only [VRep] at h
  obtain ⟨sv, rfl, ho, rfl⟩ := h
  simp only [smallV] at hs
  obtain ⟨i0, hi0, hz0, hz1, hz2⟩ := info_parts Try.infoU8
  by_cases hd4 : 400 < deep
  · have hd' : decide (400 < deep) = true := by simpa using hd4
    have hT := fun W => leaf_rep W 0 false 0 0 ⟨#[]⟩ 0 (by rfl) (by rfl) (by rfl) (by simp [maxLen, ByteArray.size]) (by rfl)
    clear ho
    go_enter Try.func93, Try.ntmps93
    go_wp2_with (refine wpList_store_row rfl 34 (.tmp 4) _ rfl w.heap.size zeroCells rfl rfl 34 zeroCells (zeroB w) termSize rfl (all_one (TRep.ones (hT w))) ?_)
    all_goals rw [World.setRow_alloc_new]
    all_goals go_wp2
    all_goals refine ⟨rfl, _, results_cell_row rfl _ _ w.heap.size 34 zeroCells (0, 0) _ rfl (heap_alloc_new w _) Try.underlying34 rfl termSize, _, rfl, ?_, (Below.refl _ _).alloc (Nat.le_refl _) _⟩
    all_goals (rw [plainT, hd']; exact hT _)
  · have hd' : decide (400 < deep) = false := by simpa using hd4
    have hal : Below w.heap.size w (w.alloc (.cells zeroCells 34)) := (Below.refl _ _).alloc (Nat.le_refl _) _
    have hsz : (w.alloc (.cells zeroCells 34)).heap.size = w.heap.size + 1 := size_alloc _ _
    have hown0 := ownsRow_new (w.alloc (.cells zeroCells 34)) 5 1 (w.heap.size + 1) (by omega)
    have hb0 : Below w.heap.size w ((w.alloc (.cells zeroCells 34)).alloc (.cells #[] 5)) := hal.alloc (by omega) _
    have hB0 : ((w.alloc (.cells zeroCells 34)).alloc (.cells #[] 5)).heap[w.heap.size]? = some (.cells zeroCells 34 (0, 0)) := (Below.heap_alloc _ _ _ (by omega)).trans (zeroB w)
    rw [hsz] at hown0
    have hpl : plainT (.bytes l) deep = .mk 6 false 0 0 ⟨#[]⟩ l 0 [] [] ⟨#[]⟩ 0 := by rw [plainT, hd']; rfl
    unfold PlainEnd
    rw [hpl]
    obtain ⟨a, cap, rfl, hcap, hmax, -, hform⟩ := ownsRow_form ho
    unfold maxLen at hmax
    clear ho hpl
    rcases hform with ⟨rfl, hl0, rfl⟩ | ⟨g, rfl, -, hg, -, hcells⟩
    · obtain rfl : l = [] := List.eq_nil_of_length_eq_zero hl0
      have hT := bytes_term (w := w) (l := []) (by omega) hown0 (by omega)
      have hcl := Lib.hid (plain_close hB0 hb0 hT)
      have hone := TRep.ones hT
      clear hl0 hmax hcap hT
      go_enter Try.func93, Try.ntmps93
      go_wp2_with (first | (at_builtin; refine wpList_append_own_none rfl _ _ 28 rfl (w.heap.size + 1) 5 i0 1 Try.underlying28 hi0 _ 0 [] rfl hown0 rfl ?_) | (refine wpList_store_row rfl 34 (.tmp 4) _ rfl w.heap.size #[.int .i64 6, .bool false, .int .i64 0, .float .f64 0, .string ⟨#[]⟩, .slice (some ⟨w.heap.size + 1, 0, none⟩) 0 0, .int .u64 0, .slice none 0 0, .slice none 0 0, .string ⟨#[]⟩, .int .i64 0] rfl rfl 34 zeroCells hB0 termSize rfl (all_one hone) ?_))
      all_goals go_wp2
      all_goals exact ⟨rfl, _, results_cell_row rfl _ _ w.heap.size 34 _ (0, 0) _ rfl hcl.out.1 Try.underlying34 rfl termSize, _, rfl, hcl.out.2.1, hcl.out.2.2⟩
    · have hcl : ∀ j u, (byteCells l)[j]? = some u → ((w.alloc (.cells zeroCells 34)).alloc (.cells #[] 5)).cell? ((⟨g, 0, none⟩ : Addr).add j) = some u := by
        intro j u hu
        have hj : j < l.length := by have := (List.getElem?_eq_some_iff.1 hu).1; simpa [byteCells] using this
        rw [Addr.add_mid, Nat.zero_add]
        exact keeps_of_below hb0 _ _ ((hcells j (by omega)).trans hu)
      have hclH := Lib.hid hcl
      clear hcells hcl
      go_enter Try.func93, Try.ntmps93
      go_wp2_with (first | (at_builtin; refine wpList_append_own _ rfl _ _ 28 rfl (w.heap.size + 1) 5 i0 _ 1 1 Try.underlying28 hi0 hz0 hz1 hz2 rfl (by omega) _ 0 [] rfl hown0 ⟨g, 0, none⟩ l.length cap (byteCells l) rfl (by simp [byteCells]) ?c1 (byteCells_one l) (by unfold maxLen; omega) (by omega) (by simp) ?_; (case c1 => exact hclH.out); intro v' w' hown' hgr' _; clear hclH; simp only [Nat.zero_add, List.nil_append] at hown'; obtain ⟨a', cap', rfl, -⟩ := ownsRow_form hown'; have hB := (hgr'.block w.heap.size (by simp; omega) (by intro e; have := (Option.some.inj e); simp at this)).trans hB0; have hbw : Below w.heap.size w w' := hb0.grown hgr' (by simp; omega) (fun k hk => by injection hk with hk; rw [← hk]; simp); have hT := bytes_term (w := w) (l := l) (by omega) hown' hs; have hcl := Lib.hid (plain_close hB hbw hT); have hone := TRep.ones hT; clear hT hown' hgr') | (refine wpList_store_row rfl 34 (.tmp 4) _ rfl w.heap.size #[.int .i64 6, .bool false, .int .i64 0, .float .f64 0, .string ⟨#[]⟩, .slice a' l.length cap', .int .u64 0, .slice none 0 0, .slice none 0 0, .string ⟨#[]⟩, .int .i64 0] rfl rfl 34 zeroCells hB termSize rfl (all_one hone) ?_))
      all_goals go_wp2
      all_goals exact ⟨rfl, _, results_cell_row rfl _ _ w.heap.size 34 _ (0, 0) _ rfl hcl.out.1 Try.underlying34 rfl termSize, _, rfl, hcl.out.2.1, hcl.out.2.2⟩
end Go.Proofs.Ytpcbdjfonmohaaa
