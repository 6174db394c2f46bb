/- A world with some blocks only: where terms that a call made lie. -/
import Derived.Test.YtgmdbpplfjkjmaaSame
import Derived.Test.YtgmdbpplfjkjmaaList
namespace Go.Proofs.Ytgmdbpplfjkjmaa
open Go.RowKit
set_option linter.unusedVariables false
set_option linter.unusedSimpArgs false

/-- The world with the blocks of S alone. -/
noncomputable def only (w : World) (S : Nat → Prop) : World := { w with heap := w.heap.mapIdx fun i o => @ite _ (S i) (Classical.propDecidable _) o (.cells #[] 0 (0, 0)) }
theorem only_cell {w : World} {S : Nat → Prop} {a : Addr} {u : Value} : (only w S).cell? a = some u ↔ S a.block ∧ w.cell? a = some u := by
  unfold World.cell? only
  simp only [Array.getElem?_mapIdx]
  cases h : w.heap[a.block]? with
  | none => simp
  | some o =>
    simp only [Option.map_some]
    by_cases hs : S a.block
    · rw [if_pos hs]; simp [hs]
    · rw [if_neg hs]; simp [hs]
/-- What lies in S is kept where the blocks of S are. -/
theorem only_keep {w w' : World} {S S' : Nat → Prop} (h : ∀ b, b < w.heap.size → S b → S' b ∧ w'.heap[b]? = w.heap[b]?) : ∀ a u, (only w S).cell? a = some u → (only w' S').cell? a = some u := fun a u hc => by
  obtain ⟨hs, hu⟩ := only_cell.1 hc
  obtain ⟨h1, h2⟩ := h a.block (World.block_lt_of_cell? _ _ hu) hs
  exact only_cell.2 ⟨h1, (World.cell?_of_block (w := w) (a := a) h2).trans hu⟩
theorem only_all {w : World} {S : Nat → Prop} : ∀ a u, (only w S).cell? a = some u → w.cell? a = some u := fun a u hc => (only_cell.1 hc).2
theorem TRep.ones {w : World} {t : Term} {cs : List Value} (ht : TRep w t cs) : ∀ u ∈ cs, u.oneCell' = true := by
  obtain ⟨k, b, n, fl, tx, bs, rf, ls, es, cl, ver⟩ := t
  simp only [TRep] at ht
  obtain ⟨sb, sl, se, xl, xe, e, -, ⟨_, _, rfl, -⟩, ⟨_, _, rfl, -⟩, -, ⟨_, _, rfl, -⟩, -⟩ := ht
  rw [e]
  intro u hu
  simp only [List.mem_cons, List.not_mem_nil, or_false] at hu
  rcases hu with rfl | rfl | rfl | rfl | rfl | rfl | rfl | rfl | rfl | rfl | rfl <;> rfl
theorem TsRep.snoc {w : World} {t : Term} {cs : List Value} (ht : TRep w t cs) : ∀ (l : List Term) (xs : List Value), TsRep w l xs → TsRep w (l ++ [t]) (xs ++ cs)
  | [], _, h => by
    have : _ = [] := h
    subst this
    exact ⟨cs, [], by simp, ht, rfl⟩
  | u :: l, _, ⟨ds, ys, e, h1, h2⟩ => ⟨ds, ys ++ cs, by rw [e, List.append_assoc], h1, TsRep.snoc ht l ys h2⟩
theorem EsRep.snoc {w : World} {s : ByteArray} {t : Term} {cs : List Value} (hs : s.size ≤ maxLen) (ht : TRep w t cs) : ∀ (l : List (ByteArray × Term)) (xs : List Value), EsRep w l xs → EsRep w (l ++ [(s, t)]) (xs ++ .string s :: cs)
  | [], _, h => by
    have : _ = [] := h
    subst this
    exact ⟨cs, [], by simp, hs, ht, rfl⟩
  | u :: l, _, ⟨ds, ys, e, h0, h1, h2⟩ => ⟨ds, ys ++ .string s :: cs, by rw [e]; simp, h0, h1, EsRep.snoc hs ht l ys h2⟩
/-- A row of the call's own is a row. -/
theorem AtRow.of_own {w : World} {B : Nat} {e : TypeId} {size : Nat} {sv : Value} {n : Nat} {xs : List Value} (h : w.ownsRow B e size sv n xs) (hn : n ≤ 1048576) : AtRow w sv n size xs := by
  obtain ⟨a, cap, rfl, hc, hm, hl, hf⟩ := ownsRow_form h
  refine ⟨a, cap, rfl, hc, hm, hn, fun h0 => ?_, hl, fun hp => ?_⟩
  · rcases hf with ⟨-, -, e⟩ | ⟨g, e, -⟩
    · exact e
    · rw [h0] at e; cases e
  · rcases hf with ⟨-, e, -⟩ | ⟨g, e, -, -, -, hc⟩
    · omega
    · exact ⟨g, 0, e, fun j hj => by rw [Nat.zero_add]; exact hc j hj⟩
/-- The same, in S. -/
theorem AtRow.only {w : World} {S : Nat → Prop} {v : Value} {n size : Nat} {xs : List Value} (h : AtRow w v n size xs) (hs : 0 < n → ∀ b, v.ownBlock = some b → S b) (h0 : 0 < size) : AtRow (only w S) v n size xs := by
  obtain ⟨oa, cap, rfl, hc, hm, hn, hz, hl, hf⟩ := h
  refine ⟨oa, cap, rfl, hc, hm, hn, hz, hl, fun hp => ?_⟩
  obtain ⟨b, o, rfl, hc⟩ := hf hp
  refine ⟨b, o, rfl, fun j hj => ?_⟩
  have hx := hc j hj
  rw [List.getElem?_eq_getElem (by omega)] at hx ⊢
  exact only_cell.2 ⟨hs hp b rfl, hx⟩
/-- Where the earlier elements of a growing row lie: new to the call, and not in the row itself. -/
def NotOwn (B : Nat) (sv : Value) (b : Nat) : Prop := B ≤ b ∧ sv.ownBlock ≠ some b
/-- A round of a loop that appends an element with memory of its own: what was there stays. -/
theorem round_old {B : Nat} {wr w1 w2 : World} {o : Obj} {sv : Value} {g cap n : Nat} (hb1 : Below wr.heap.size wr w1) (hgr : (w1.alloc o).grownBy w2 sv.ownBlock) (hat : sv.ownBlock = some g ∨ g = (w1.alloc o).heap.size) :
    ∀ a u, (only wr (NotOwn B sv)).cell? a = some u → (only w2 (NotOwn B (.slice (some ⟨g, 0, none⟩) n cap))).cell? a = some u := by
  have hsz := hb1.size
  refine only_keep fun b hb hs => ⟨⟨hs.1, fun e => ?_⟩, ?_⟩
  · have e' : b = g := by simpa [Value.ownBlock, eq_comm] using e
    rcases hat with h | h
    · exact hs.2 (by rw [h, e'])
    · simp at h; omega
  · have h1 := hgr.block b (by simp; omega) (fun e => hs.2 e.symm)
    have h2 : (w1.alloc o).heap[b]? = w1.heap[b]? := Below.heap_alloc _ _ _ (by omega)
    exact (h1.trans h2).trans (hb1.block b hb)
theorem round_new {B : Nat} {wr w1 w2 : World} {o : Obj} {sv : Value} {g cap n : Nat} (hB : B ≤ wr.heap.size) (hb1 : Below wr.heap.size wr w1) (hgr : (w1.alloc o).grownBy w2 sv.ownBlock) (hat : sv.ownBlock = some g ∨ g = (w1.alloc o).heap.size) (hlt : ∀ b, sv.ownBlock = some b → b < wr.heap.size) :
    ∀ a u, (only w1 (fun b => wr.heap.size ≤ b)).cell? a = some u → (only w2 (NotOwn B (.slice (some ⟨g, 0, none⟩) n cap))).cell? a = some u := by
  refine only_keep fun b hb hs => ⟨⟨by omega, fun e => ?_⟩, ?_⟩
  · have e' : b = g := by simpa [Value.ownBlock, eq_comm] using e
    rcases hat with h | h
    · have := hlt g h; omega
    · simp at h; omega
  · have h1 := hgr.block b (by simp; omega) (fun e => by have := hlt b e.symm; omega)
    exact h1.trans (Below.heap_alloc _ _ _ hb)
end Go.Proofs.Ytgmdbpplfjkjmaa
