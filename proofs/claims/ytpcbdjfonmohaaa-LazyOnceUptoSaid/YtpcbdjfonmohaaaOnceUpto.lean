/- tenonlaw12.LazyOnce returns true, and the arguments read as they read before, wherever what it reads is of bulk at most 1048576. -/
import Derived.Test.YtpcbdjfonmohaaaOnce
import Derived.Test.YtpcbdjfonmohaaaTermOpen
import Derived.ProofKit
import Derived.OpenShut
import Derived.ShutString
import Derived.ChangeOld
import Derived.Below
import Derived.Carry
import Derived.JoinedCond
namespace Go.Proofs.Ytpcbdjfonmohaaa
open Go.ChangeShapes Go.WideShapes Go.ChangeAt Go.RowKit Go.Deep
set_option linter.unusedVariables false
set_option linter.unusedSimpArgs false

theorem lawOwn : ownKnob Try.prog.godebug = none := by kernel_rfl
theorem lawLaid : laidOutB Try.prog = true := by kernel_rfl

section
variable {H : Type} {enc : TypeId × Value → H} {w : World} {base : Nat} {sp : Nat → Bool} {hd : Bool}
theorem cells_Op : Try.prog.cellsOf 45 = 4 := by kernel_rfl
set_option maxRecDepth 100000 in
theorem open_op {fuel : Nat} {cs : List Value} {x : DataW H × List MemPlace} (h : DataW.trod enc Try.prog w base sp hd fuel 45 cs = some x) : ∃ k on nm r, cs = [.int .i64 k, .int .i64 on, .string nm, .int .u64 r] := by
  obtain ⟨xs, n, -, rfl, hl, hlen, hf⟩ := DataW.trod_struct Try.underlying45 h
  rw [cells_Op] at hl
  obtain ⟨k0, k1, k2, k3, k4, k5, k6, k7, k8, -⟩ := cells_one
  match cs, hl, xs, hlen with
  | [c0, c1, c2, c3], _, [y0, y1, y2, y3], _ =>
    obtain ⟨z0, e0, -⟩ := DataW.trod_int Try.underlying3 (show DataW.trod enc Try.prog w base sp hd n 3 [c0] = some y0 by simpa [k0] using hf 0 _ rfl)
    obtain ⟨z1, e1, -⟩ := DataW.trod_int Try.underlying3 (show DataW.trod enc Try.prog w base sp hd n 3 [c1] = some y1 by simpa [k0] using hf 1 _ rfl)
    obtain ⟨z2, e2, -⟩ := DataW.trod_string Try.underlying9 (show DataW.trod enc Try.prog w base sp hd n 9 [c2] = some y2 by simpa [k4] using hf 2 _ rfl)
    obtain ⟨z3, e3, -⟩ := DataW.trod_int Try.underlying30 (show DataW.trod enc Try.prog w base sp hd n 30 [c3] = some y3 by simpa [k6] using hf 3 _ rfl)
    cases e0; cases e1; cases e2; cases e3
    exact ⟨z0, z1, z2, z3, rfl⟩
theorem open_asks {fuel : Nat} {cs : List Value} {x : DataW H × List MemPlace} (h : DataW.trod enc Try.prog w base sp hd fuel 35 cs = some x) (hs : Rows.uptoBulk x.1 ≤ 1048576) : ∃ sv n, cs = [sv] ∧ AsksAt w sv n := by
  obtain ⟨oa, len, cap, rfl, hlc, hcm, -, -, hel⟩ := open_row cells_Op (by omega) Try.underlying35 h hs
  refine ⟨_, len, rfl, oa, cap, rfl, hlc, hcm, fun hp => ?_⟩
  obtain ⟨b, o, e, hc⟩ := hel hp
  refine ⟨b, o, e, fun i hi => ?_⟩
  obtain ⟨cs', y, n, hl, hcell, ht, -⟩ := hc i hi
  obtain ⟨k, on, nm, r, rfl⟩ := open_op ht
  have h0 := hcell 0 (by omega)
  have h1 := hcell 1 (by omega)
  have h2 := hcell 2 (by omega)
  have h3 := hcell 3 (by omega)
  rw [← Nat.add_assoc] at h0 h1 h2 h3
  exact ⟨k, on, nm, r, h0, h1, h2, h3⟩
end

set_option maxRecDepth 100000 in
theorem once_contract (H : Type) (enc : TypeId × Value → H) (W : World) (base : Nat) (args : Array Value) (ds gs : List (DataW H)) (before : List MemPlace)
    (hval : ∀ (j : Nat) t v, Try.f4.params[j]? = some t → args[j]? = some v → Value.okWide Try.prog W .any base t v)
    (hW : DataW.Whole enc Try.prog Try.f4.params.toList Rows.lazyOnceSpec.vars false W args.toList ds gs before) (hk : Rows.uptoSmall H (ds ++ gs) = true) :
    Calls Try.prog 4 args W fun e W' => ∃ v, e = .returned v ∧ Rows.lazyOnceSpec.post enc Try.prog Try.f4 false true false false W args v W' := by
  have hW' := hW
  obtain ⟨p, q, hA0, hV, rfl, hfz, hnd⟩ := hW
  have hA : DataW.TrodAll enc Try.prog W 0 (fun _ => true) true Try.f4.params.toList args.toList ds p := hA0
  rw [Try.params4] at hA hval
  obtain ⟨v0, vs0, d0, ds0, p0, q0, hargs, rfl, rfl, h0, r0⟩ := trodAll_cons hA
  obtain ⟨v1, vs1, d1, ds1, p1, q1, rfl, rfl, rfl, h1, r1⟩ := trodAll_cons r0
  obtain ⟨rfl, rfl, rfl⟩ := trodAll_nil r1
  obtain rfl : args = #[v0, v1] := by cases args; simp_all
  obtain ⟨rfl, rfl⟩ := trodVars_none hV
  have hbulk : Rows.uptoBulk d0 + Rows.uptoBulk d1 ≤ 1048576 := by
    have h := of_decide_eq_true hk
    simp only [List.append_nil, Rows.uptoBulkAll] at h
    omega
  have k0 := h0
  have k1 := h1
  have lt0 : ∀ x ∈ p0, x.block < W.heap.size := by obtain ⟨m, hm⟩ := k0; exact DataW.trod_lt m _ _ _ hm
  have lt1 : ∀ x ∈ p1, x.block < W.heap.size := by obtain ⟨m, hm⟩ := k1; exact DataW.trod_lt m _ _ _ hm
  obtain ⟨c0, rfl, hsz⟩ := okWide_struct Try.underlying34 (hval 0 34 v0 rfl rfl)
  obtain ⟨m0, t0⟩ := h0
  obtain ⟨m1, t1⟩ := h1
  obtain ⟨t, ht⟩ := open_term (Rows.uptoBulk d0) m0 _ (d0, p0) (Nat.le_refl _) (show Rows.uptoBulk d0 ≤ 1048576 by omega) t0
  obtain ⟨oa, len, cap, rfl⟩ := okWide_slice Try.underlying35 (hval 1 35 v1 rfl rfl)
  obtain ⟨sv, n, e, ha⟩ := open_asks t1 (show Rows.uptoBulk d1 ≤ 1048576 by omega)
  obtain rfl : Value.slice oa len cap = sv := by simpa [Value.cells] using e
  have hw := once_walk t c0.toList (.slice oa len cap) n W ht ha
  simp only [Array.toArray_toList] at hw
  refine hw.mono fun e W' ⟨he, bel⟩ => ?_
  subst he
  exact ⟨_, rfl, _, _, _, [], _, [], hW', trodAll_mk1 (shut_bool Try.underlying4 _), (trodAll_cons_mk (Below.trod lawLaid (by kernel_rfl) (of_decide_eq_true (by kernel_rfl)) k0 bel lt0) (trodAll_cons_mk (Below.trod lawLaid (by kernel_rfl) (of_decide_eq_true (by kernel_rfl)) k1 bel lt1) trodAll_mk0)), rfl, bel.frame _, fun h => by cases h⟩

/-- The witness' term. -/
def zeroTerm : Value := .agg #[.int .i64 0, .bool false, .int .i64 0, .float .f64 0, .string ⟨#[]⟩, .slice none 0 0, .int .u64 0, .slice none 0 0, .slice none 0 0, .string ⟨#[]⟩, .int .i64 0]
def zeroTermD {H : Type} : DataW H := .agg [.lit (.int .i64 0), .lit (.bool false), .lit (.int .i64 0), .lit (.float .f64 0), .lit (.string []), .nil, .lit (.int .u64 0), .nil, .nil, .lit (.string []), .lit (.int .i64 0)]
set_option maxRecDepth 100000 in
theorem once_lifted (os : Os) (started : os.Started) (H : Type) (enc : TypeId × Value → H) (F : Stop.Interp) :
    ReturnsInHanded {} Try.checked os 4 .any ((Rows.OpenSpec.upto Rows.lazyOnceSpec).pre6 enc Try.prog Try.f4 Rows.lazyOnceUptoRow.domain false) (((Rows.OpenSpec.upto Rows.lazyOnceSpec).at F).post enc Try.prog Try.f4 false true false false) := by
  refine returnsInHanded_of_cond (C := Try.checked) (s := Rows.OpenSpec.upto Rows.lazyOnceSpec) (k := Rows.uptoSmall) rfl lawOwn started (by kernel_rfl) Try.func4
    (OpenSpec.witness (enc := enc) (C := Try.checked) (s := Rows.OpenSpec.upto Rows.lazyOnceSpec) (k := Rows.uptoSmall) rfl false ⟨#[], #[zeroTerm, .slice none 0 0], []⟩ 8 (by kernel_rfl) (by kernel_rfl) (by kernel_rfl)
      (x := ([zeroTermD, .nil], [], [])) (by kernel_rfl) rfl (by kernel_rfl)) ?_
  intro W base args ds gs before hval hW _ hk _
  exact once_contract H enc W base args ds gs before hval hW hk
theorem once_over : Rows.lazyOnceUptoRow.holds Try.pinned (Rows.OpenSpec.upto Rows.lazyOnceSpec) :=
  OpenClaim.holds_of_cond 4 Try.f4 rfl rfl rfl rfl rfl rfl rfl ⟨rfl, rfl, rfl, rfl, rfl⟩ rfl rfl rfl rfl rfl (by kernel_rfl) Try.func4 (by kernel_rfl)
    (of_decide_eq_true (by kernel_rfl)) (by unfold Func.isWrapper; first | (rw [if_pos (by decide +kernel)]; kernel_rfl) | (rw [if_neg (by decide +kernel)]; exact ⟨rfl, rfl⟩))
    (fun os started H enc _ F => once_lifted os started H enc F)
theorem lazyOnce_proved : Rows.LazyOnceUptoSaid := once_over
end Go.Proofs.Ytpcbdjfonmohaaa
