/- What the frames of the laws share: arguments opened, the witness' term. -/
import Derived.Test.YtpcbdjfonmohaaaOnce
import Derived.Test.YtpcbdjfonmohaaaTermOpen
import Derived.ProofKit
import Derived.OpenShut
import Derived.ShutString
import Derived.ChangeOld
import Derived.Below
import Derived.Carry
import Derived.JoinedCond
namespace Go.Proofs.Ytpcbdjfonmohaaa
open Go.ChangeShapes Go.WideShapes Go.ChangeAt Go.RowKit Go.Deep
set_option linter.unusedVariables false
set_option linter.unusedSimpArgs false

theorem lawOwn : ownKnob Try.prog.godebug = none := by kernel_rfl
theorem lawLaid : laidOutB Try.prog = true := by kernel_rfl

section
variable {H : Type} {enc : TypeId × Value → H} {w : World} {base : Nat} {sp : Nat → Bool} {hd : Bool}
theorem cells_Op : Try.prog.cellsOf 45 = 4 := by kernel_rfl
set_option maxRecDepth 100000 in
theorem open_op {fuel : Nat} {cs : List Value} {x : DataW H × List MemPlace} (h : DataW.trod enc Try.prog w base sp hd fuel 45 cs = some x) : ∃ k on nm r, cs = [.int .i64 k, .int .i64 on, .string nm, .int .u64 r] := by
  obtain ⟨xs, n, -, rfl, hl, hlen, hf⟩ := DataW.trod_struct Try.underlying45 h
  rw [cells_Op] at hl
  obtain ⟨k0, k1, k2, k3, k4, k5, k6, k7, k8, -⟩ := cells_one
  match cs, hl, xs, hlen with
  | [c0, c1, c2, c3], _, [y0, y1, y2, y3], _ =>
    obtain ⟨z0, e0, -⟩ := DataW.trod_int Try.underlying3 (show DataW.trod enc Try.prog w base sp hd n 3 [c0] = some y0 by simpa [k0] using hf 0 _ rfl)
    obtain ⟨z1, e1, -⟩ := DataW.trod_int Try.underlying3 (show DataW.trod enc Try.prog w base sp hd n 3 [c1] = some y1 by simpa [k0] using hf 1 _ rfl)
    obtain ⟨z2, e2, -⟩ := DataW.trod_string Try.underlying9 (show DataW.trod enc Try.prog w base sp hd n 9 [c2] = some y2 by simpa [k4] using hf 2 _ rfl)
    obtain ⟨z3, e3, -⟩ := DataW.trod_int Try.underlying30 (show DataW.trod enc Try.prog w base sp hd n 30 [c3] = some y3 by simpa [k6] using hf 3 _ rfl)
    cases e0; cases e1; cases e2; cases e3
    exact ⟨z0, z1, z2, z3, rfl⟩
theorem open_asks {fuel : Nat} {cs : List Value} {x : DataW H × List MemPlace} (h : DataW.trod enc Try.prog w base sp hd fuel 35 cs = some x) (hs : Rows.uptoBulk x.1 ≤ 1048576) : ∃ sv n, cs = [sv] ∧ AsksAt w sv n := by
  obtain ⟨oa, len, cap, rfl, hlc, hcm, -, -, hel⟩ := open_row cells_Op (by omega) Try.underlying35 h hs
  refine ⟨_, len, rfl, oa, cap, rfl, hlc, hcm, fun hp => ?_⟩
  obtain ⟨b, o, e, hc⟩ := hel hp
  refine ⟨b, o, e, fun i hi => ?_⟩
  obtain ⟨cs', y, n, hl, hcell, ht, -⟩ := hc i hi
  obtain ⟨k, on, nm, r, rfl⟩ := open_op ht
  have h0 := hcell 0 (by omega)
  have h1 := hcell 1 (by omega)
  have h2 := hcell 2 (by omega)
  have h3 := hcell 3 (by omega)
  rw [← Nat.add_assoc] at h0 h1 h2 h3
  exact ⟨k, on, nm, r, h0, h1, h2, h3⟩
end

/-- The witness' term. -/
def zeroTerm : Value := .agg #[.int .i64 0, .bool false, .int .i64 0, .float .f64 0, .string ⟨#[]⟩, .slice none 0 0, .int .u64 0, .slice none 0 0, .slice none 0 0, .string ⟨#[]⟩, .int .i64 0]
def zeroTermD {H : Type} : DataW H := .agg [.lit (.int .i64 0), .lit (.bool false), .lit (.int .i64 0), .lit (.float .f64 0), .lit (.string []), .nil, .lit (.int .u64 0), .nil, .nil, .lit (.string []), .lit (.int .i64 0)]
end Go.Proofs.Ytpcbdjfonmohaaa
