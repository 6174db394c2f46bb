/- A tenonref10.Spec that was read. -/
import Derived.Test.YtpcbdjfonmohaaaTermOpen
namespace Go.Proofs.Ytpcbdjfonmohaaa
open Go.ChangeShapes Go.WideShapes Go.ChangeAt Go.RowKit Go.Deep
set_option linter.unusedVariables false
set_option linter.unusedSimpArgs false

theorem cells_Spec : Try.prog.cellsOf 72 = 14 := by kernel_rfl
theorem cells_Errno : Try.prog.cellsOf 22 = 1 := by kernel_rfl
section
variable {H : Type} {enc : TypeId × Value → H} {w : World} {base : Nat} {sp : Nat → Bool} {hd : Bool}
set_option maxRecDepth 100000 in
theorem open_spec {fuel : Nat} {cs : List Value} {x : DataW H × List MemPlace} (hx : DataW.trod enc Try.prog w base sp hd fuel 72 cs = some x) (hs : Rows.uptoBulk x.1 ≤ 1048576) :
    ∃ (hs h sh id ve gv ld pn wi : Int) (fo ko : Option Addr) (fl fc kl kc : Nat) (cl ow : ByteArray) (lo : Bool), cs = [.int .i64 hs, .int .i64 h, .int .i64 sh, .int .u64 id, .slice fo fl fc, .string cl, .int .i64 ve, .slice ko kl kc, .string ow, .int .i64 gv, .bool lo, .int .i64 ld, .int .i64 pn, .int .i64 wi] := by
  obtain ⟨xs, n, -, rfl, hl, hlen, hf⟩ := DataW.trod_struct Try.underlying72 hx
  rw [cells_Spec] at hl
  obtain ⟨k0, k1, k2, k3, k4, k5, k6, k7, k8, -⟩ := cells_one
  have k9 := cells_Errno
  match cs, hl, xs, hlen with
  | [c0, c1, c2, c3, c4, c5, c6, c7, c8, c9, c10, c11, c12, c13], _, [y0, y1, y2, y3, y4, y5, y6, y7, y8, y9, y10, y11, y12, y13], _ =>
    have f0 : DataW.trod enc Try.prog w base sp hd n 3 [c0] = some y0 := by simpa [k0] using hf 0 _ rfl
    have f1 : DataW.trod enc Try.prog w base sp hd n 3 [c1] = some y1 := by simpa [k0] using hf 1 _ rfl
    have f2 : DataW.trod enc Try.prog w base sp hd n 3 [c2] = some y2 := by simpa [k0] using hf 2 _ rfl
    have f3 : DataW.trod enc Try.prog w base sp hd n 30 [c3] = some y3 := by simpa [k6] using hf 3 _ rfl
    have f4 : DataW.trod enc Try.prog w base sp hd n 32 [c4] = some y4 := by simpa [k8] using hf 4 _ rfl
    have f5 : DataW.trod enc Try.prog w base sp hd n 9 [c5] = some y5 := by simpa [k4] using hf 5 _ rfl
    have f6 : DataW.trod enc Try.prog w base sp hd n 3 [c6] = some y6 := by simpa [k0] using hf 6 _ rfl
    have f7 : DataW.trod enc Try.prog w base sp hd n 31 [c7] = some y7 := by simpa [k7] using hf 7 _ rfl
    have f8 : DataW.trod enc Try.prog w base sp hd n 9 [c8] = some y8 := by simpa [k4] using hf 8 _ rfl
    have f9 : DataW.trod enc Try.prog w base sp hd n 22 [c9] = some y9 := by simpa [k9] using hf 9 _ rfl
    have f10 : DataW.trod enc Try.prog w base sp hd n 4 [c10] = some y10 := by simpa [k1] using hf 10 _ rfl
    have f11 : DataW.trod enc Try.prog w base sp hd n 22 [c11] = some y11 := by simpa [k9] using hf 11 _ rfl
    have f12 : DataW.trod enc Try.prog w base sp hd n 3 [c12] = some y12 := by simpa [k0] using hf 12 _ rfl
    have f13 : DataW.trod enc Try.prog w base sp hd n 3 [c13] = some y13 := by simpa [k0] using hf 13 _ rfl
    simp only [List.map_cons, List.map_nil] at hs
    obtain ⟨z0, e0, -⟩ := DataW.trod_int Try.underlying3 f0
    obtain ⟨z1, e1, -⟩ := DataW.trod_int Try.underlying3 f1
    obtain ⟨z2, e2, -⟩ := DataW.trod_int Try.underlying3 f2
    obtain ⟨z3, e3, -⟩ := DataW.trod_int Try.underlying30 f3
    have b4 : Rows.uptoBulk y4.1 < Rows.uptoBulk (DataW.agg [y0.1, y1.1, y2.1, y3.1, y4.1, y5.1, y6.1, y7.1, y8.1, y9.1, y10.1, y11.1, y12.1, y13.1]) := bulk_agg (by simp)
    obtain ⟨o4, n4, m4, e4, -⟩ := open_row cells_Entry (by omega) Try.underlying32 f4 (by omega)
    obtain ⟨z5, e5, -⟩ := DataW.trod_string Try.underlying9 f5
    obtain ⟨z6, e6, -⟩ := DataW.trod_int Try.underlying3 f6
    have b7 : Rows.uptoBulk y7.1 < Rows.uptoBulk (DataW.agg [y0.1, y1.1, y2.1, y3.1, y4.1, y5.1, y6.1, y7.1, y8.1, y9.1, y10.1, y11.1, y12.1, y13.1]) := bulk_agg (by simp)
    obtain ⟨o7, n7, m7, e7, -⟩ := open_row cells_Term (by omega) Try.underlying31 f7 (by omega)
    obtain ⟨z8, e8, -⟩ := DataW.trod_string Try.underlying9 f8
    obtain ⟨z9, e9, -⟩ := DataW.trod_int Try.underlying22 f9
    obtain ⟨z10, e10, -⟩ := DataW.trod_bool Try.underlying4 f10
    obtain ⟨z11, e11, -⟩ := DataW.trod_int Try.underlying22 f11
    obtain ⟨z12, e12, -⟩ := DataW.trod_int Try.underlying3 f12
    obtain ⟨z13, e13, -⟩ := DataW.trod_int Try.underlying3 f13
    cases e0; cases e1; cases e2; cases e3; cases e4; cases e5; cases e6; cases e7; cases e8; cases e9; cases e10; cases e11; cases e12; cases e13
    exact ⟨_, _, _, _, _, _, _, _, _, _, _, _, _, _, _, _, _, _, rfl⟩
end
end Go.Proofs.Ytpcbdjfonmohaaa
