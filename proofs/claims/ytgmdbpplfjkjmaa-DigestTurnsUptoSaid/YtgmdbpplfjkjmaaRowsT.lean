/- Rows of whatever width put together out of pieces: append([]T{}, l[:k]...), append(.., x), append(.., l[k:]...). Over any program. -/
import Derived.Test.YtgmdbpplfjkjmaaValEnd
import Derived.Test.YtgmdbpplfjkjmaaTerm
import Derived.Maps.AppendAt
import Derived.Deep.Onto
import Derived.Deep.AppendLies
namespace Go.Proofs.Ytgmdbpplfjkjmaa
open Go.RowKit
set_option linter.unusedVariables false
set_option linter.unusedSimpArgs false

/-- Elements of a type, their width and their bytes. -/
structure RowT (P : Program) (T sT : TypeId) (size bytes : Nat) : Prop where
  under : P.underlying sT = some (.slice T)
  info : (P.info? T).map (fun i => (i.zero.map (·.cells.size), i.size, i.bytes)) = some (some size, size, bytes)
  pos : 0 < size
  small : bytes ≤ 1000
/-- What is appended: m elements whose cells are these. -/
def Piece (w : World) (size : Nat) (x : Value) (m : Nat) (news : List Value) : Prop :=
  news.length = m * size ∧ ((x = .slice none 0 0 ∧ m = 0) ∨ ∃ ad c, x = .slice (some ad) m c ∧ ∀ j u, news[j]? = some u → w.cell? (ad.add j) = some u)
theorem Piece.keep {w w' : World} {size : Nat} {x : Value} {m : Nat} {news : List Value} (h : Piece w size x m news) (hk : ∀ a u, w.cell? a = some u → w'.cell? a = some u) : Piece w' size x m news := by
  obtain ⟨h1, h2 | ⟨ad, c, h2, h3⟩⟩ := h
  · exact ⟨h1, .inl h2⟩
  · exact ⟨h1, .inr ⟨ad, c, h2, fun j u hu => hk _ _ (h3 j u hu)⟩⟩
theorem Piece.nought (w : World) (size : Nat) : Piece w size (.slice none 0 0) 0 [] := ⟨by simp, .inl ⟨rfl, rfl⟩⟩
theorem Piece.block (W : World) (T : TypeId) {size : Nat} (cs : List Value) (hcs : cs.length = size) : Piece (W.alloc (.cells cs.toArray T)) size (.slice (some ⟨W.heap.size, 0, none⟩) 1 1) 1 cs :=
  ⟨by omega, .inr ⟨_, _, rfl, fun j u hj => World.news_of_block (heap_alloc_new W (.cells cs.toArray T)) j u (by simpa using hj)⟩⟩
theorem Piece.front {w : World} {B : Nat} {T : TypeId} {size n k cap : Nat} {a : Option Addr} {xs : List Value} (h : w.ownsRow B T size (.slice a n cap) n xs) (hk : k ≤ n) : Piece w size (.slice a k cap) k (xs.take (k * size)) := by
  have hl : xs.length = n * size := h.1
  have hks : k * size ≤ n * size := Nat.mul_le_mul_right _ hk
  refine ⟨by rw [List.length_take, hl]; omega, ?_⟩
  rcases h.2 with ⟨h1, h2⟩ | ⟨g, cap', cur, h1, -⟩
  · injection h1 with h3 h4 h5
    exact .inl ⟨by rw [h3, h5, show k = 0 by omega], by omega⟩
  · injection h1 with h3 h4 h5
    subst h3
    refine .inr ⟨_, _, rfl, fun j u hj => ?_⟩
    rw [List.getElem?_take] at hj
    split at hj
    · exact h.cells (g := g) rfl j u hj
    · cases hj
theorem Piece.back {w : World} {B : Nat} {T : TypeId} {size n k cap g : Nat} {xs : List Value} (h : w.ownsRow B T size (.slice (some ⟨g, 0, none⟩) n cap) n xs) (hk : k ≤ n) :
    Piece w size (.slice (some ⟨g, if cap = k then 0 else k * size, none⟩) (n - k) (cap - k)) (n - k) (xs.drop (k * size)) := by
  have hl : xs.length = n * size := h.1
  refine ⟨by rw [List.length_drop, hl, Nat.sub_mul], .inr ⟨_, _, rfl, fun j u hj => ?_⟩⟩
  rw [List.getElem?_drop] at hj
  have hj' := (List.getElem?_eq_some_iff.1 hj).1
  have hck : ¬ cap = k := by
    rintro rfl
    obtain ⟨a', c', e, hc', -⟩ := ownsRow_form h
    injection e with e1 e2 e3
    have : n * size ≤ cap * size := Nat.mul_le_mul_right _ (by omega)
    omega
  rw [Addr.add_lit, if_neg hck]
  have h2 := h.cells (g := g) rfl (k * size + j) u hj
  rwa [Addr.add_lit, Nat.zero_add] at h2
section
variable {P : Program} {T sT : TypeId} {size bytes : Nat}
theorem RowT.append (R : RowT P T sT size bytes) {w : World} {B : Nat} {v : Value} {n : Nat} {xs : List Value} (hown : w.ownsRow B T size v n xs) {x : Value} {m : Nat} {news : List Value} (hx : Piece w size x m news) (h1 : ∀ u ∈ news, u.oneCell' = true) (hn : n + m ≤ 4194304) (hB : B ≤ w.heap.size) :
    ∃ v' w', (Builtin.append_ #[sT, sT] sT #[v, x]).run P w = .ok v' w' ∧ w'.ownsRow B T size v' (n + m) (xs ++ news) ∧ w.grownBy w' v.ownBlock ∧ (0 < n + m ∨ v ≠ .slice none 0 0 → v' ≠ .slice none 0 0) := by
  have hinf := R.info
  cases hi : P.info? T with
  | none => rw [hi] at hinf; simp at hinf
  | some i =>
  rw [hi] at hinf
  simp only [Option.map_some, Option.some.injEq, Prod.mk.injEq] at hinf
  obtain ⟨hz, hsz, hby⟩ := hinf
  cases hz0 : i.zero with
  | none => rw [hz0] at hz; simp at hz
  | some z =>
  rw [hz0] at hz
  have hzs : z.cells.size = size := by simpa using hz
  obtain ⟨hl, ⟨rfl, rfl⟩ | ⟨ad, c, rfl, hc⟩⟩ := hx
  · obtain rfl : news = [] := List.length_eq_zero_iff.1 (by rw [hl]; omega)
    refine ⟨v, w, run_append_owned_none (P := P) w B sT sT T i size R.under hi v n xs hown, by simpa using hown, ⟨rfl, rfl, rfl, Nat.le_refl _, fun _ _ _ => rfl⟩, fun h => ?_⟩
    rcases h with h | h
    · obtain ⟨g, cap, rfl, -⟩ := hown.form (by omega)
      exact fun e => by cases e
    · exact h
  · have hb : (n + m) * bytes ≤ 140737488355328 := by
      have h2 : (n + m) * bytes ≤ 4194304 * 1000 := Nat.mul_le_mul hn R.small
      omega
    obtain ⟨v', w', r1, r2, r3, r4, -⟩ := run_append_own_at (P := P) w B sT sT T i z size bytes R.under hi hz0 hsz hby hzs R.pos v n xs hown ad m c news hl hc h1 (by unfold maxLen; omega) hb hB
    refine ⟨v', w', r1, r2, r3, fun h e => ?_⟩
    obtain ⟨e1, e2⟩ := r4.1 e
    rcases h with h | h
    · subst e1
      obtain ⟨g, cap, e3, -⟩ := r2.form h
      rw [e] at e3; cases e3
    · exact h e1
theorem RowT.append_none (R : RowT P T sT size bytes) {w : World} {B : Nat} {v : Value} {n : Nat} {xs : List Value} (hown : w.ownsRow B T size v n xs) : (Builtin.append_ #[sT, sT] sT #[v, .slice none 0 0]).run P w = .ok v w := by
  have hinf := R.info
  cases hi : P.info? T with
  | none => rw [hi] at hinf; simp at hinf
  | some i => exact run_append_owned_none (P := P) w B sT sT T i size R.under hi v n xs hown
theorem below_grown {W w w' : World} {row : Option Nat} {B : Nat} (h : Below B W w) (hg : w.grownBy w' row) (hB : B ≤ w.heap.size) (hr : ∀ b, row = some b → B ≤ b) : Below B W w' := h.grown hg hB hr
theorem row_ones {w : World} {B : Nat} {v : Value} {n : Nat} {xs : List Value} (h : w.ownsRow B T size v n xs) : v.oneCell' = true := by obtain ⟨_, _, rfl, -⟩ := ownsRow_form h; rfl
theorem row_form {w : World} {B : Nat} {v : Value} {n : Nat} {xs : List Value} (h : w.ownsRow B T size v n xs) (hv : v ≠ .slice none 0 0) : ∃ g cap, v = .slice (some ⟨g, 0, none⟩) n cap ∧ B ≤ g ∧ g < w.heap.size := by
  rcases h.2 with ⟨h1, -⟩ | ⟨g, cap, cur, h1, h2, h3, -⟩
  · exact absurd h1 hv
  · exact ⟨g, cap, h1, h2, (Array.getElem?_eq_some_iff.1 h3).1⟩
/-- One more between. -/
theorem rows_put (R : RowT P T sT size bytes) {W : World} {B : Nat} {a : Option Addr} {n cap k : Nat} {xs : List Value} (hrow : W.ownsRow B T size (.slice a n cap) n xs) (h1 : ∀ u ∈ xs, u.oneCell' = true) (hk : k ≤ n) (hn : n ≤ 1048576)
    (cs : List Value) (hcs : cs.length = size) (hc1 : ∀ u ∈ cs, u.oneCell' = true) {y : Value} (hy : Piece W size y (n - k) (xs.drop (k * size))) :
    ∃ v1 W1 v2 W2 v3 W3, (Builtin.append_ #[sT, sT] sT #[.slice (some ⟨W.heap.size, 0, none⟩) 0 0, .slice a k cap]).run P (W.alloc (.cells #[] T)) = .ok v1 W1 ∧
      (Builtin.append_ #[sT, sT] sT #[v1, .slice (some ⟨W1.heap.size, 0, none⟩) 1 1]).run P (W1.alloc (.cells cs.toArray T)) = .ok v2 W2 ∧
      (Builtin.append_ #[sT, sT] sT #[v2, y]).run P W2 = .ok v3 W3 ∧ Below W.heap.size W W1 ∧ Below W.heap.size W W2 ∧ Below W.heap.size W W3 ∧ v1.oneCell' = true ∧ v2.oneCell' = true ∧ v3.oneCell' = true ∧ v3 ≠ .slice none 0 0 ∧
      W3.ownsRow W.heap.size T size v3 (n + 1) (xs.take (k * size) ++ cs ++ xs.drop (k * size)) := by
  have own0 := ownsRow_new W T size W.heap.size (Nat.le_refl _)
  have bel0 : Below W.heap.size W (W.alloc (.cells #[] T)) := (Below.refl _ _).alloc (Nat.le_refl _) _
  obtain ⟨v1, W1, r1, own1, gr1, nn1⟩ := R.append own0 ((Piece.front hrow hk).keep (keeps_of_below bel0)) (fun u hu => h1 u (List.mem_of_mem_take hu)) (by omega) bel0.size
  have own1' : W1.ownsRow W.heap.size T size v1 k (xs.take (k * size)) := by simpa using own1
  have bel1 : Below W.heap.size W W1 := below_grown bel0 gr1 bel0.size (fun b hb => by simp [Value.ownBlock] at hb; omega)
  have bel1a : Below W.heap.size W (W1.alloc (.cells cs.toArray T)) := bel1.alloc bel1.size _
  obtain ⟨v2, W2, r2, own2, gr2, nn2⟩ := R.append (own1'.alloc (.cells cs.toArray T)) (Piece.block W1 T cs hcs) hc1 (by omega) bel1a.size
  have bel2 : Below W.heap.size W W2 := below_grown bel1a gr2 bel1a.size (fun b hb => (own1'.lt b hb).1)
  obtain ⟨v3, W3, r3, own3, gr3, nn3⟩ := R.append own2 (hy.keep (keeps_of_below bel2)) (fun u hu => h1 u (List.mem_of_mem_drop hu)) (by omega) bel2.size
  have bel3 : Below W.heap.size W W3 := below_grown bel2 gr3 bel2.size (fun b hb => (own2.lt b hb).1)
  rw [show k + 1 + (n - k) = n + 1 by omega] at own3
  exact ⟨v1, W1, v2, W2, v3, W3, r1, r2, r3, bel1, bel2, bel3, row_ones own1, row_ones own2, row_ones own3, nn3 (.inl (by omega)), own3⟩
/-- One taken out. -/
theorem rows_del (R : RowT P T sT size bytes) {W : World} {B : Nat} {a : Option Addr} {n cap k : Nat} {xs : List Value} (hrow : W.ownsRow B T size (.slice a n cap) n xs) (h1 : ∀ u ∈ xs, u.oneCell' = true) (hk : k < n) (hn : n ≤ 1048576)
    {y : Value} (hy : Piece W size y (n - (k + 1)) (xs.drop ((k + 1) * size))) :
    ∃ v1 W1 v3 W3, (Builtin.append_ #[sT, sT] sT #[.slice (some ⟨W.heap.size, 0, none⟩) 0 0, .slice a k cap]).run P (W.alloc (.cells #[] T)) = .ok v1 W1 ∧
      (Builtin.append_ #[sT, sT] sT #[v1, y]).run P W1 = .ok v3 W3 ∧ Below W.heap.size W W1 ∧ Below W.heap.size W W3 ∧ v1.oneCell' = true ∧ v3.oneCell' = true ∧ v3 ≠ .slice none 0 0 ∧
      W3.ownsRow W.heap.size T size v3 (n - 1) (xs.take (k * size) ++ xs.drop ((k + 1) * size)) := by
  have own0 := ownsRow_new W T size W.heap.size (Nat.le_refl _)
  have bel0 : Below W.heap.size W (W.alloc (.cells #[] T)) := (Below.refl _ _).alloc (Nat.le_refl _) _
  obtain ⟨v1, W1, r1, own1, gr1, nn1⟩ := R.append own0 ((Piece.front hrow (k := k) (by omega)).keep (keeps_of_below bel0)) (fun u hu => h1 u (List.mem_of_mem_take hu)) (by omega) bel0.size
  have own1' : W1.ownsRow W.heap.size T size v1 k (xs.take (k * size)) := by simpa using own1
  have bel1 : Below W.heap.size W W1 := below_grown bel0 gr1 bel0.size (fun b hb => by simp [Value.ownBlock] at hb; omega)
  obtain ⟨v3, W3, r3, own3, gr3, nn3⟩ := R.append own1' (hy.keep (keeps_of_below bel1)) (fun u hu => h1 u (List.mem_of_mem_drop hu)) (by omega) bel1.size
  have bel3 : Below W.heap.size W W3 := below_grown bel1 gr3 bel1.size (fun b hb => (own1'.lt b hb).1)
  rw [show k + (n - (k + 1)) = n - 1 by omega] at own3
  exact ⟨v1, W1, v3, W3, r1, r3, bel1, bel3, row_ones own1, row_ones own3, nn3 (.inr (nn1 (.inr (fun e => by cases e)))), own3⟩
end
end Go.Proofs.Ytgmdbpplfjkjmaa
