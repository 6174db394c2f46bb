/- Identities that were read out of an argument. -/
import Derived.Test.YtpcbdjfonmohaaaLaw
import Derived.Test.YtpcbdjfonmohaaaPoolHeld
namespace Go.Proofs.Ytpcbdjfonmohaaa
open Go.ChangeShapes Go.WideShapes Go.ChangeAt Go.RowKit Go.Deep
set_option linter.unusedVariables false
set_option linter.unusedSimpArgs false

section
variable {H : Type} {enc : TypeId × Value → H} {w : World} {base : Nat} {sp : Nat → Bool} {hd : Bool}
theorem wf_u64 {v : Int} (h : (Lit.int .u64 v).wf = true) : 0 ≤ v ∧ v < 18446744073709551616 := by
  simp [Lit.wf, IntKind.min, IntKind.max, IntKind.signed, IntKind.bits] at h
  omega
theorem wf_u8 {v : Int} (h : (Lit.int .u8 v).wf = true) : 0 ≤ v ∧ v < 256 := by
  simp [Lit.wf, IntKind.min, IntKind.max, IntKind.signed, IntKind.bits] at h
  omega
theorem refs_laid (n : Nat) : ∀ (b o : Nat), (∀ i, i < n → ∃ v, w.cell? ⟨b, o + i, none⟩ = some (refV v) ∧ 0 ≤ v ∧ v < 18446744073709551616) → ∃ vs : List Int, vs.length = n ∧ (∀ v ∈ vs, 0 ≤ v ∧ v < 18446744073709551616) ∧ ∀ j, j < n → w.cell? ⟨b, o + j, none⟩ = (vs.map refV)[j]? := by
  induction n with
  | zero => exact fun b o _ => ⟨[], rfl, by simp, fun j hj => absurd hj (by omega)⟩
  | succ n ih =>
    intro b o h
    obtain ⟨u, hu, hu1⟩ := h 0 (by omega)
    obtain ⟨vs, h1, h3, h2⟩ := ih b (o + 1) (fun i hi => by
      obtain ⟨u, hu⟩ := h (i + 1) (by omega)
      exact ⟨u, by rw [show o + 1 + i = o + (i + 1) from by omega]; exact hu⟩)
    refine ⟨u :: vs, by simp [h1], fun v hv => ?_, fun j hj => ?_⟩
    · rcases List.mem_cons.1 hv with rfl | hv
      · exact hu1
      · exact h3 v hv
    · cases j with
      | zero => simpa using hu
      | succ j => rw [show o + (j + 1) = o + 1 + j from by omega, h2 j (by omega)]; simp
/-- Identities that were read. -/
theorem open_refs {fuel : Nat} {cs : List Value} {x : DataW H × List MemPlace} (h : DataW.trod enc Try.prog w base sp hd fuel 56 cs = some x) (hs : Rows.uptoBulk x.1 ≤ 1048576) : ∃ (sv : Value) (vs : List Int), cs = [sv] ∧ (∀ v ∈ vs, 0 ≤ v ∧ v < 18446744073709551616) ∧ AtRow w sv vs.length 1 (vs.map refV) := by
  obtain ⟨-, -, -, -, -, -, k6, -⟩ := cells_one
  obtain ⟨oe, ne, ce, rfl, l8, m8, s8, d8, r8⟩ := open_row k6 (by omega) Try.underlying56 h hs
  by_cases hn : 0 < ne
  · obtain ⟨b, o, rfl, hr⟩ := r8 hn
    obtain ⟨vs, h1, h3, h2⟩ := refs_laid (w := w) ne b o (fun i hi => by
      obtain ⟨cs', y, m, hl, hc, ht, hb⟩ := hr i hi
      obtain ⟨s, e, -, hw⟩ := DataW.trod_int Try.underlying30 ht
      have hc0 := hc 0 (by omega)
      rw [Nat.add_zero, Nat.mul_one, e] at hc0
      exact ⟨s, hc0, wf_u64 hw⟩)
    exact ⟨_, vs, rfl, h3, by rw [h1]; exact ⟨some ⟨b, o, none⟩, ce, rfl, l8, m8, s8, d8, by simp [h1], fun _ => ⟨b, o, rfl, fun j hj => h2 j (by omega)⟩⟩⟩
  · obtain rfl : ne = 0 := by omega
    exact ⟨_, [], rfl, by simp, oe, ce, rfl, l8, m8, s8, d8, rfl, fun h => absurd h (by simp)⟩
end

end Go.Proofs.Ytpcbdjfonmohaaa
