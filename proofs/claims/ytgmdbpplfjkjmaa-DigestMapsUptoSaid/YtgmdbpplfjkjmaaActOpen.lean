/- A []tenonlaw05.Act that was read. -/
import Derived.Test.YtgmdbpplfjkjmaaTermOpen
import Derived.Deep.MidRow
namespace Go.Proofs.Ytgmdbpplfjkjmaa
open Go.ChangeShapes Go.WideShapes Go.ChangeAt Go.RowKit Go.Deep
set_option linter.unusedVariables false
set_option linter.unusedSimpArgs false

theorem cells_Act : Try.prog.cellsOf 64 = 24 := by kernel_rfl
/-- An act that stands at a place. -/
def ActAt (w : World) (b o : Nat) (kd : Int) (t : Term) (cs : List Value) (u : Term) (es : List Value) (st : Int) : Prop :=
  TRep w t cs ∧ TRep w u es ∧ w.rangeAt b o (.int .i64 kd :: (cs ++ (es ++ [.int .i64 st])))
def ActsAt (w : World) (sv : Value) (n : Nat) : Prop :=
  ∃ oa cap, sv = .slice oa n cap ∧ n ≤ cap ∧ cap ≤ maxLen ∧ n ≤ 1048576 ∧ ∀ k, k < n → ∃ b o kd t cs u es st, oa = some ⟨b, o, none⟩ ∧ ActAt w b (o + k * 24) kd t cs u es st
section
variable {H : Type} {enc : TypeId × Value → H} {w : World} {base : Nat} {sp : Nat → Bool} {hd : Bool}
set_option maxRecDepth 100000 in
theorem open_act {fuel : Nat} {cs : List Value} {x : DataW H × List MemPlace} (hx : DataW.trod enc Try.prog w base sp hd fuel 64 cs = some x) (hs : Rows.uptoBulk x.1 ≤ 1048576) :
    ∃ kd t ds u es st, cs = .int .i64 kd :: (ds ++ (es ++ [.int .i64 st])) ∧ TRep w t ds ∧ TRep w u es := by
  obtain ⟨xs, n, -, rfl, hl, hlen, hf⟩ := DataW.trod_struct Try.underlying64 hx
  rw [cells_Act] at hl
  obtain ⟨k0, -⟩ := cells_one
  match cs, hl, xs, hlen with
  | [c0, c1, c2, c3, c4, c5, c6, c7, c8, c9, c10, c11, c12, c13, c14, c15, c16, c17, c18, c19, c20, c21, c22, c23], _, [y0, y1, y2, y3], _ =>
    have f0 : DataW.trod enc Try.prog w base sp hd n 3 [c0] = some y0 := by simpa [k0] using hf 0 _ rfl
    have f1 : DataW.trod enc Try.prog w base sp hd n 31 [c1, c2, c3, c4, c5, c6, c7, c8, c9, c10, c11] = some y1 := by simpa [k0, cells_Term] using hf 1 _ rfl
    have f2 : DataW.trod enc Try.prog w base sp hd n 31 [c12, c13, c14, c15, c16, c17, c18, c19, c20, c21, c22] = some y2 := by simpa [k0, cells_Term] using hf 2 _ rfl
    have f3 : DataW.trod enc Try.prog w base sp hd n 3 [c23] = some y3 := by simpa [k0, cells_Term] using hf 3 _ rfl
    simp only [List.map_cons, List.map_nil] at hs
    obtain ⟨z0, e0, -⟩ := DataW.trod_int Try.underlying3 f0
    obtain ⟨z3, e3, -⟩ := DataW.trod_int Try.underlying3 f3
    have b1 : Rows.uptoBulk y1.1 < Rows.uptoBulk (DataW.agg [y0.1, y1.1, y2.1, y3.1]) := bulk_agg (by simp)
    have b2 : Rows.uptoBulk y2.1 < Rows.uptoBulk (DataW.agg [y0.1, y1.1, y2.1, y3.1]) := bulk_agg (by simp)
    obtain ⟨t, ht⟩ := open_term _ _ _ _ (Nat.le_refl _) (by omega) f1
    obtain ⟨u, hu⟩ := open_term _ _ _ _ (Nat.le_refl _) (by omega) f2
    cases e0; cases e3
    exact ⟨_, t, _, u, _, _, rfl, ht, hu⟩
theorem open_acts {fuel : Nat} {cs : List Value} {x : DataW H × List MemPlace} (h : DataW.trod enc Try.prog w base sp hd fuel 62 cs = some x) (hs : Rows.uptoBulk x.1 ≤ 1048576) :
    ∃ sv n, cs = [sv] ∧ ActsAt w sv n := by
  obtain ⟨oe, ne, ce, rfl, l8, m8, s8, d8, r8⟩ := open_row cells_Act (by omega) Try.underlying62 h hs
  refine ⟨_, ne, rfl, oe, ce, rfl, l8, m8, s8, fun k hk => ?_⟩
  obtain ⟨b, o, rfl, hr⟩ := r8 (by omega)
  obtain ⟨cs', y, m, hl, hc, ht, hb⟩ := hr k hk
  obtain ⟨kd, t, ds, u, es, st, rfl, h1, h2⟩ := open_act ht (by omega)
  have hd := TRep.len h1
  have he := TRep.len h2
  refine ⟨b, o, kd, t, ds, u, es, st, rfl, h1, h2, fun j v hj => ?_⟩
  have hj' := (List.getElem?_eq_some_iff.1 hj).1
  rw [hl] at hj'
  have := hc j hj'
  rw [← Nat.add_assoc] at this
  exact this.trans hj
end
end Go.Proofs.Ytgmdbpplfjkjmaa
