/- tenonlaw12.LazyStack returns true, and the arguments read as they read before, wherever what it reads is of bulk at most 1048576. -/
import Derived.Test.YtpcbdjfonmohaaaLaw
import Derived.Test.YtpcbdjfonmohaaaStack
namespace Go.Proofs.Ytpcbdjfonmohaaa
open Go.ChangeShapes Go.WideShapes Go.ChangeAt Go.RowKit Go.Deep
set_option linter.unusedVariables false
set_option linter.unusedSimpArgs false

section
variable {H : Type} {enc : TypeId × Value → H} {w : World} {base : Nat} {sp : Nat → Bool} {hd : Bool}
theorem wf_u64 {v : Int} (h : (Lit.int .u64 v).wf = true) : 0 ≤ v ∧ v < 18446744073709551616 := by
  simp [Lit.wf, IntKind.min, IntKind.max, IntKind.signed, IntKind.bits] at h
  omega
theorem wf_u8 {v : Int} (h : (Lit.int .u8 v).wf = true) : 0 ≤ v ∧ v < 256 := by
  simp [Lit.wf, IntKind.min, IntKind.max, IntKind.signed, IntKind.bits] at h
  omega
theorem refs_laid (n : Nat) : ∀ (b o : Nat), (∀ i, i < n → ∃ v, w.cell? ⟨b, o + i, none⟩ = some (refV v) ∧ 0 ≤ v ∧ v < 18446744073709551616) → ∃ vs : List Int, vs.length = n ∧ (∀ v ∈ vs, 0 ≤ v ∧ v < 18446744073709551616) ∧ ∀ j, j < n → w.cell? ⟨b, o + j, none⟩ = (vs.map refV)[j]? := by
  induction n with
  | zero => exact fun b o _ => ⟨[], rfl, by simp, fun j hj => absurd hj (by omega)⟩
  | succ n ih =>
    intro b o h
    obtain ⟨u, hu, hu1⟩ := h 0 (by omega)
    obtain ⟨vs, h1, h3, h2⟩ := ih b (o + 1) (fun i hi => by
      obtain ⟨u, hu⟩ := h (i + 1) (by omega)
      exact ⟨u, by rw [show o + 1 + i = o + (i + 1) from by omega]; exact hu⟩)
    refine ⟨u :: vs, by simp [h1], fun v hv => ?_, fun j hj => ?_⟩
    · rcases List.mem_cons.1 hv with rfl | hv
      · exact hu1
      · exact h3 v hv
    · cases j with
      | zero => simpa using hu
      | succ j => rw [show o + (j + 1) = o + 1 + j from by omega, h2 j (by omega)]; simp
/-- Identities that were read. -/
theorem open_refs {fuel : Nat} {cs : List Value} {x : DataW H × List MemPlace} (h : DataW.trod enc Try.prog w base sp hd fuel 56 cs = some x) (hs : Rows.uptoBulk x.1 ≤ 1048576) : ∃ (sv : Value) (vs : List Int), cs = [sv] ∧ (∀ v ∈ vs, 0 ≤ v ∧ v < 18446744073709551616) ∧ AtRow w sv vs.length 1 (vs.map refV) := by
  obtain ⟨-, -, -, -, -, -, k6, -⟩ := cells_one
  obtain ⟨oe, ne, ce, rfl, l8, m8, s8, d8, r8⟩ := open_row k6 (by omega) Try.underlying56 h hs
  by_cases hn : 0 < ne
  · obtain ⟨b, o, rfl, hr⟩ := r8 hn
    obtain ⟨vs, h1, h3, h2⟩ := refs_laid (w := w) ne b o (fun i hi => by
      obtain ⟨cs', y, m, hl, hc, ht, hb⟩ := hr i hi
      obtain ⟨s, e, -, hw⟩ := DataW.trod_int Try.underlying30 ht
      have hc0 := hc 0 (by omega)
      rw [Nat.add_zero, Nat.mul_one, e] at hc0
      exact ⟨s, hc0, wf_u64 hw⟩)
    exact ⟨_, vs, rfl, h3, by rw [h1]; exact ⟨some ⟨b, o, none⟩, ce, rfl, l8, m8, s8, d8, by simp [h1], fun _ => ⟨b, o, rfl, fun j hj => h2 j (by omega)⟩⟩⟩
  · obtain rfl : ne = 0 := by omega
    exact ⟨_, [], rfl, by simp, oe, ce, rfl, l8, m8, s8, d8, rfl, fun h => absurd h (by simp)⟩
end

set_option maxRecDepth 100000 in
theorem stack_contract (H : Type) (enc : TypeId × Value → H) (W : World) (base : Nat) (args : Array Value) (ds gs : List (DataW H)) (before : List MemPlace)
    (hval : ∀ (j : Nat) t v, Try.f7.params[j]? = some t → args[j]? = some v → Value.okWide Try.prog W .any base t v)
    (hW : DataW.Whole enc Try.prog Try.f7.params.toList Rows.lazyStackSpec.vars false W args.toList ds gs before) (hk : Rows.uptoSmall H (ds ++ gs) = true) :
    Calls Try.prog 7 args W fun e W' => ∃ v, e = .returned v ∧ Rows.lazyStackSpec.post enc Try.prog Try.f7 false true false false W args v W' := by
  have hW' := hW
  obtain ⟨p, q, hA0, hV, rfl, hfz, hnd⟩ := hW
  have hA : DataW.TrodAll enc Try.prog W 0 (fun _ => true) true Try.f7.params.toList args.toList ds p := hA0
  rw [Try.params7] at hA hval
  obtain ⟨v0, vs0, d0, ds0, p0, q0, hargs, rfl, rfl, h0, r0⟩ := trodAll_cons hA
  obtain ⟨v1, vs1, d1, ds1, p1, q1, rfl, rfl, rfl, h1, r1⟩ := trodAll_cons r0
  obtain ⟨v2, vs2, d2, ds2, p2, q2, rfl, rfl, rfl, h2, r2⟩ := trodAll_cons r1
  obtain ⟨rfl, rfl, rfl⟩ := trodAll_nil r2
  obtain rfl : args = #[v0, v1, v2] := by cases args; simp_all
  obtain ⟨rfl, rfl⟩ := trodVars_none hV
  have hbulk : Rows.uptoBulk d0 + (Rows.uptoBulk d1 + Rows.uptoBulk d2) ≤ 1048576 := by
    have h := of_decide_eq_true hk
    simp only [List.append_nil, Rows.uptoBulkAll] at h
    omega
  have k0 := h0
  have k1 := h1
  have k2 := h2
  have lt0 : ∀ x ∈ p0, x.block < W.heap.size := by obtain ⟨m, hm⟩ := k0; exact DataW.trod_lt m _ _ _ hm
  have lt1 : ∀ x ∈ p1, x.block < W.heap.size := by obtain ⟨m, hm⟩ := k1; exact DataW.trod_lt m _ _ _ hm
  have lt2 : ∀ x ∈ p2, x.block < W.heap.size := by obtain ⟨m, hm⟩ := k2; exact DataW.trod_lt m _ _ _ hm
  obtain ⟨m0, t0⟩ := h0
  obtain ⟨m1, t1⟩ := h1
  obtain ⟨m2, t2⟩ := h2
  obtain ⟨less, rfl⟩ := okWide_int Try.underlying5 (hval 0 5 v0 rfl rfl)
  obtain ⟨more, rfl⟩ := okWide_int Try.underlying5 (hval 1 5 v1 rfl rfl)
  obtain ⟨oa2, len2, cap2, rfl⟩ := okWide_slice Try.underlying56 (hval 2 56 v2 rfl rfl)
  obtain ⟨z0, e0, -, w0⟩ := DataW.trod_int Try.underlying5 t0
  obtain ⟨z1, e1, -, w1⟩ := DataW.trod_int Try.underlying5 t1
  obtain rfl : less = z0 := by simpa [Value.cells] using e0
  obtain rfl : more = z1 := by simpa [Value.cells] using e1
  obtain ⟨nv, vs, e2, hvs, hn⟩ := open_refs t2 (show Rows.uptoBulk d2 ≤ 1048576 by omega)
  obtain rfl : Value.slice oa2 len2 cap2 = nv := by simpa [Value.cells] using e2
  have hw := stack_walk less more (wf_u8 w0) (wf_u8 w1) vs hvs _ W hn
  refine hw.mono fun e W' ⟨he, bel⟩ => ?_
  subst he
  exact ⟨_, rfl, _, _, _, [], _, [], hW', trodAll_mk1 (shut_bool Try.underlying4 _), (trodAll_cons_mk (Below.trod lawLaid (by kernel_rfl) (of_decide_eq_true (by kernel_rfl)) k0 bel lt0) (trodAll_cons_mk (Below.trod lawLaid (by kernel_rfl) (of_decide_eq_true (by kernel_rfl)) k1 bel lt1) (trodAll_cons_mk (Below.trod lawLaid (by kernel_rfl) (of_decide_eq_true (by kernel_rfl)) k2 bel lt2) trodAll_mk0))), rfl, bel.frame _, fun h => by cases h⟩

set_option maxRecDepth 100000 in
theorem stack_lifted (os : Os) (started : os.Started) (H : Type) (enc : TypeId × Value → H) (F : Stop.Interp) :
    ReturnsInHanded {} Try.checked os 7 .any ((Rows.OpenSpec.upto Rows.lazyStackSpec).pre6 enc Try.prog Try.f7 Rows.lazyStackUptoRow.domain false) (((Rows.OpenSpec.upto Rows.lazyStackSpec).at F).post enc Try.prog Try.f7 false true false false) := by
  refine returnsInHanded_of_cond (C := Try.checked) (s := Rows.OpenSpec.upto Rows.lazyStackSpec) (k := Rows.uptoSmall) rfl lawOwn started (by kernel_rfl) Try.func7
    (OpenSpec.witness (enc := enc) (C := Try.checked) (s := Rows.OpenSpec.upto Rows.lazyStackSpec) (k := Rows.uptoSmall) rfl false ⟨#[], #[.int .u8 0, .int .u8 0, .slice none 0 0], []⟩ 8 (by kernel_rfl) (by kernel_rfl) (by kernel_rfl)
      (x := ([.lit (.int .u8 0), .lit (.int .u8 0), .nil], [], [])) (by kernel_rfl) rfl (by kernel_rfl)) ?_
  intro W base args ds gs before hval hW _ hk _
  exact stack_contract H enc W base args ds gs before hval hW hk
theorem stack_over : Rows.lazyStackUptoRow.holds Try.pinned (Rows.OpenSpec.upto Rows.lazyStackSpec) :=
  OpenClaim.holds_of_cond 7 Try.f7 rfl rfl rfl rfl rfl rfl rfl ⟨rfl, rfl, rfl, rfl, rfl⟩ rfl rfl rfl rfl rfl (by kernel_rfl) Try.func7 (by kernel_rfl)
    (of_decide_eq_true (by kernel_rfl)) (by unfold Func.isWrapper; first | (rw [if_pos (by decide +kernel)]; kernel_rfl) | (rw [if_neg (by decide +kernel)]; exact ⟨rfl, rfl⟩))
    (fun os started H enc _ F => stack_lifted os started H enc F)
theorem lazyStack_proved : Rows.LazyStackUptoSaid := stack_over
end Go.Proofs.Ytpcbdjfonmohaaa
