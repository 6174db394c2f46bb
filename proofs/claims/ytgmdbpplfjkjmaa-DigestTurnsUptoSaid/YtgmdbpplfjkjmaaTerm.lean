/- Terms as plain data, how they lie in memory, and how they are read out of an argument. -/
import Derived.Test.YtgmdbpplfjkjmaaVal
import Derived.Test.YtgmdbpplfjkjmaaRows
import Derived.OpenShut
import Derived.ChangeAt2
import Derived.Deep.Slices
import Derived.Deep.MidRow
namespace Go.Proofs.Ytgmdbpplfjkjmaa
open Go.ChangeShapes Go.WideShapes Go.ChangeAt Go.RowKit
set_option linter.unusedVariables false
set_option linter.unusedSimpArgs false

/-- api.Term. -/
inductive Term where
  | mk (kind : Int) (b : Bool) (n : Int) (fl : Nat) (tx : ByteArray) (bs : List UInt8) (rf : Int) (ls : List Term) (es : List (ByteArray × Term)) (cl : ByteArray) (ver : Int)

/-- A slice that came in: n elements of so many cells, wherever they lie. -/
def AtRow (w : World) (v : Value) (n size : Nat) (xs : List Value) : Prop :=
  ∃ oa cap, v = .slice oa n cap ∧ n ≤ cap ∧ cap ≤ maxLen ∧ n ≤ 1048576 ∧ (oa = none → cap = 0) ∧ xs.length = n * size ∧ (0 < n → ∃ b o, oa = some ⟨b, o, none⟩ ∧ ∀ j, j < n * size → w.cell? ⟨b, o + j, none⟩ = xs[j]?)
/-- The literals of a term are what their types bear. -/
def TermOk (k n : Int) (fl : Nat) (tx : ByteArray) (rf : Int) (cl : ByteArray) (ver : Int) : Prop :=
  (Lit.int .i64 k).wf = true ∧ (Lit.int .i64 n).wf = true ∧ (Lit.float .f64 fl).wf = true ∧ tx.size ≤ maxLen ∧ (Lit.int .u64 rf).wf = true ∧ cl.size ≤ maxLen ∧ (Lit.int .i64 ver).wf = true

mutual
/-- A term's eleven cells. -/
def TRep (w : World) : Term → List Value → Prop
  | .mk k b n fl tx bs rf ls es cl ver, cs => ∃ sb sl se xl xe, cs = [.int .i64 k, .bool b, .int .i64 n, .float .f64 fl, .string tx, sb, .int .u64 rf, sl, se, .string cl, .int .i64 ver] ∧ TermOk k n fl tx rf cl ver ∧
      AtRow w sb bs.length 1 (byteCells bs) ∧ AtRow w sl ls.length 11 xl ∧ TsRep w ls xl ∧ AtRow w se es.length 12 xe ∧ EsRep w es xe
def TsRep (w : World) : List Term → List Value → Prop
  | [], xs => xs = []
  | t :: l, xs => ∃ cs ys, xs = cs ++ ys ∧ TRep w t cs ∧ TsRep w l ys
def EsRep (w : World) : List (ByteArray × Term) → List Value → Prop
  | [], xs => xs = []
  | p :: l, xs => ∃ cs ys, xs = .string p.1 :: (cs ++ ys) ∧ p.1.size ≤ maxLen ∧ EpRep w p cs ∧ EsRep w l ys
def EpRep (w : World) : ByteArray × Term → List Value → Prop
  | (_, t), cs => TRep w t cs
end
theorem TRep.len {w : World} {t : Term} {cs : List Value} (h : TRep w t cs) : cs.length = 11 := by
  cases t
  simp only [TRep] at h
  obtain ⟨_, _, _, _, _, rfl, _⟩ := h
  rfl
theorem AtRow.keep {w w' : World} {v : Value} {n size : Nat} {xs : List Value} (h : AtRow w v n size xs) (hk : ∀ a u, w.cell? a = some u → w'.cell? a = some u) : AtRow w' v n size xs := by
  obtain ⟨oa, cap, h1, h2, h3, h5, h6, h4, h⟩ := h
  refine ⟨oa, cap, h1, h2, h3, h5, h6, h4, fun hn => ?_⟩
  obtain ⟨b, o, e, hc⟩ := h hn
  refine ⟨b, o, e, fun j hj => ?_⟩
  have hx := hc j hj
  rw [List.getElem?_eq_getElem (by omega)] at hx ⊢
  exact hk _ _ hx
mutual
theorem TRep.keep {w w' : World} (hk : ∀ a u, w.cell? a = some u → w'.cell? a = some u) : ∀ (t : Term) (cs : List Value), TRep w t cs → TRep w' t cs
  | .mk k b n fl tx bs rf ls es cl ver, cs, h => by
    simp only [TRep] at h ⊢
    obtain ⟨sb, sl, se, xl, xe, h1, h2, h3, h4, h5, h6, h7⟩ := h
    exact ⟨sb, sl, se, xl, xe, h1, h2, h3.keep hk, h4.keep hk, TsRep.keep hk ls xl h5, h6.keep hk, EsRep.keep hk es xe h7⟩
theorem TsRep.keep {w w' : World} (hk : ∀ a u, w.cell? a = some u → w'.cell? a = some u) : ∀ (l : List Term) (xs : List Value), TsRep w l xs → TsRep w' l xs
  | [], _, h => h
  | t :: l, _, ⟨cs, ys, h1, h2, h3⟩ => ⟨cs, ys, h1, TRep.keep hk t cs h2, TsRep.keep hk l ys h3⟩
theorem EsRep.keep {w w' : World} (hk : ∀ a u, w.cell? a = some u → w'.cell? a = some u) : ∀ (l : List (ByteArray × Term)) (xs : List Value), EsRep w l xs → EsRep w' l xs
  | [], _, h => h
  | p :: l, _, ⟨cs, ys, h1, h2, h3, h4⟩ => ⟨cs, ys, h1, h2, EpRep.keep hk p cs h3, EsRep.keep hk l ys h4⟩
theorem EpRep.keep {w w' : World} (hk : ∀ a u, w.cell? a = some u → w'.cell? a = some u) : ∀ (p : ByteArray × Term) (cs : List Value), EpRep w p cs → EpRep w' p cs
  | (_, t), cs, h => TRep.keep hk t cs h
end
theorem keeps_of_but {S : Nat → Prop} {w w' : World} (hb : But S w w') (hs : ∀ k, k < w.heap.size → ¬ S k) : ∀ a u, w.cell? a = some u → w'.cell? a = some u := fun a u h =>
  (hb.cell (World.block_lt_of_cell? _ _ h) (hs _ (World.block_lt_of_cell? _ _ h))).trans h
theorem keeps_of_below {w w' : World} (hb : Below w.heap.size w w') : ∀ a u, w.cell? a = some u → w'.cell? a = some u := fun a u h =>
  (hb.cell (World.block_lt_of_cell? _ _ h)).trans h
theorem TsRep.at {w : World} : ∀ (l : List Term) (xs : List Value), TsRep w l xs → ∀ (k : Nat) (t : Term), l[k]? = some t → ∃ cs, TRep w t cs ∧ ∀ j, j < 11 → xs[k * 11 + j]? = cs[j]?
  | [], _, _, k, t, h => by simp at h
  | u :: l, _, ⟨cs, ys, e, h1, h2⟩, k, t, h => by
    subst e
    have hl := h1.len
    cases k with
    | zero =>
      simp at h; subst h
      exact ⟨cs, h1, fun j hj => by rw [Nat.zero_mul, Nat.zero_add, List.getElem?_append_left (by omega)]⟩
    | succ k =>
      obtain ⟨cs', h3, h4⟩ := TsRep.at l ys h2 k t (by simpa using h)
      exact ⟨cs', h3, fun j hj => by rw [List.getElem?_append_right (by omega), hl, show (k + 1) * 11 + j - 11 = k * 11 + j from by omega]; exact h4 j hj⟩
theorem EsRep.at {w : World} : ∀ (l : List (ByteArray × Term)) (xs : List Value), EsRep w l xs → ∀ (k : Nat) (p : ByteArray × Term), l[k]? = some p → ∃ cs, TRep w p.2 cs ∧ p.1.size ≤ maxLen ∧ xs[k * 12]? = some (.string p.1) ∧ ∀ j, j < 11 → xs[k * 12 + (1 + j)]? = cs[j]?
  | [], _, _, k, t, h => by simp at h
  | (s, u) :: l, _, ⟨cs, ys, e, h0, h1, h2⟩, k, t, h => by
    subst e
    have h1' : TRep w u cs := h1
    have hl := h1'.len
    cases k with
    | zero =>
      simp at h; subst h
      exact ⟨cs, h1, h0, rfl, fun j hj => by rw [show 0 * 12 + (1 + j) = j + 1 from by omega, List.getElem?_cons_succ, List.getElem?_append_left (by omega)]⟩
    | succ k =>
      obtain ⟨cs', h3, h3', h5, h4⟩ := EsRep.at l ys h2 k t (by simpa using h)
      refine ⟨cs', h3, h3', ?_, fun j hj => ?_⟩
      · rw [show (k + 1) * 12 = k * 12 + 11 + 1 from by omega, List.getElem?_cons_succ, List.getElem?_append_right (by omega), hl, show k * 12 + 11 - 11 = k * 12 from by omega]; exact h5
      · rw [show (k + 1) * 12 + (1 + j) = k * 12 + (1 + j) + 11 + 1 from by omega, List.getElem?_cons_succ, List.getElem?_append_right (by omega), hl, show k * 12 + (1 + j) + 11 - 11 = k * 12 + (1 + j) from by omega]; exact h4 j hj

/-- The terms of a term. -/
def Term.parts : Term → List Term
  | .mk _ _ _ _ _ _ _ ls es _ _ => ls ++ es.map (·.2)
mutual
theorem term_all {P : Term → Prop} (h : ∀ t, (∀ u ∈ t.parts, P u) → P t) : ∀ t : Term, P t
  | .mk k b n fl tx bs rf ls es cl ver => h _ (by
      have h1 := terms_all h ls
      have h2 := entries_all h es
      intro u hu
      rcases List.mem_append.1 hu with hu | hu
      · exact h1 u hu
      · exact h2 u hu)
theorem terms_all {P : Term → Prop} (h : ∀ t, (∀ u ∈ t.parts, P u) → P t) : ∀ (l : List Term), ∀ u ∈ l, P u
  | [] => by simp
  | t :: l => by
    have h1 := term_all h t
    have h2 := terms_all h l
    intro u hu
    rcases List.mem_cons.1 hu with rfl | hu
    · exact h1
    · exact h2 u hu
theorem entries_all {P : Term → Prop} (h : ∀ t, (∀ u ∈ t.parts, P u) → P t) : ∀ (l : List (ByteArray × Term)), ∀ u ∈ l.map (·.2), P u
  | [] => by simp
  | p :: l => by
    have h1 := entry_all h p
    have h2 := entries_all h l
    intro u hu
    rcases List.mem_cons.1 hu with rfl | hu
    · exact h1
    · exact h2 u hu
theorem entry_all {P : Term → Prop} (h : ∀ t, (∀ u ∈ t.parts, P u) → P t) : ∀ (p : ByteArray × Term), P p.2
  | (_, t) => term_all h t
end
end Go.Proofs.Ytgmdbpplfjkjmaa
