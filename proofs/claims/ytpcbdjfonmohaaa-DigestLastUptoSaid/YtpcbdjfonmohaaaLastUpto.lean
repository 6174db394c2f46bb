/- tenonlaw05.DigestLast returns true, and the arguments read as they read before, wherever what it reads is of bulk at most 1048576. -/
import Derived.Test.YtpcbdjfonmohaaaTermOpen
import Derived.Test.YtpcbdjfonmohaaaLast
import Derived.ProofKit
import Derived.OpenShut
import Derived.ShutString
import Derived.ChangeOld
import Derived.Below
import Derived.Carry
import Derived.JoinedCond
namespace Go.Proofs.Ytpcbdjfonmohaaa
open Go.ChangeShapes Go.WideShapes Go.ChangeAt Go.RowKit Go.Deep
set_option linter.unusedVariables false
set_option linter.unusedSimpArgs false

theorem lastOwn : ownKnob Try.prog.godebug = none := by kernel_rfl
theorem lastLaid : laidOutB Try.prog = true := by kernel_rfl
/-- The witness' cells of a term. -/
def lastCells : List Value := [.int .i64 0, .bool false, .int .i64 0, .float .f64 0, .string ⟨#[]⟩, .slice none 0 0, .int .u64 0, .slice none 0 0, .slice none 0 0, .string ⟨#[]⟩, .int .i64 0]
def lastTermD {H : Type} : DataW H := .agg [.lit (.int .i64 0), .lit (.bool false), .lit (.int .i64 0), .lit (.float .f64 0), .lit (.string []), .nil, .lit (.int .u64 0), .nil, .nil, .lit (.string []), .lit (.int .i64 0)]
section
variable {H : Type} {enc : TypeId × Value → H} {w : World} {base : Nat} {sp : Nat → Bool} {hd : Bool}
/-- Terms that were read. -/
theorem open_terms {fuel : Nat} {cs : List Value} {x : DataW H × List MemPlace} (h : DataW.trod enc Try.prog w base sp hd fuel 31 cs = some x) (hs : Rows.uptoBulk x.1 ≤ 1048576) : ∃ sv ls xs, cs = [sv] ∧ AtRow w sv ls.length 11 xs ∧ TsRep w ls xs := by
  obtain ⟨oe, ne, ce, rfl, l8, m8, s8, d8, r8⟩ := open_row cells_Term (by omega) Try.underlying31 h hs
  by_cases hn : 0 < ne
  · obtain ⟨b, o, rfl, hr⟩ := r8 hn
    obtain ⟨ls, xs, h1, h2, h3, h4⟩ := terms_laid (w := w) ne b o (fun i hi => by
      obtain ⟨cs', y, m, hl, hc, ht, hb⟩ := hr i hi
      obtain ⟨t, ht'⟩ := open_term (Rows.uptoBulk y.1) m _ y (Nat.le_refl _) (by omega) ht
      exact ⟨cs', t, hc, ht'⟩)
    exact ⟨_, ls, xs, rfl, by rw [h1]; exact ⟨some ⟨b, o, none⟩, ce, rfl, l8, m8, s8, d8, h3, fun _ => ⟨b, o, rfl, h4⟩⟩, h2⟩
  · obtain rfl : ne = 0 := by omega
    exact ⟨_, [], [], rfl, ⟨oe, ce, rfl, l8, m8, s8, d8, rfl, fun h => absurd h (by simp)⟩, rfl⟩
/-- Two terms side by side. -/
theorem open_pair {fuel : Nat} {cs : List Value} {x : DataW H × List MemPlace} (h : DataW.trod enc Try.prog w base sp hd fuel 119 cs = some x) (hs : Rows.uptoBulk x.1 ≤ 1048576) : ∃ p q cp cq, cs = cp ++ cq ∧ TRep w p cp ∧ TRep w q cq := by
  obtain ⟨xs, m, rfl, rfl, hl, hlen, hf⟩ := DataW.trod_array Try.underlying119 h
  have hc22 : Try.prog.cellsOf 119 = 22 := by kernel_rfl
  rw [hc22] at hl
  rw [cells_Term] at hf
  match xs, hlen with
  | [y0, y1], _ =>
    have f0 := hf 0 (by omega)
    have f1 := hf 1 (by omega)
    simp only [Nat.zero_mul, Nat.one_mul, List.drop_zero, List.getElem?_cons_zero, List.getElem?_cons_succ] at f0 f1
    have b0 : Rows.uptoBulk y0.1 < Rows.uptoBulk (DataW.agg [y0.1, y1.1]) := bulk_agg (by simp)
    have b1 : Rows.uptoBulk y1.1 < Rows.uptoBulk (DataW.agg [y0.1, y1.1]) := bulk_agg (by simp)
    have hs' : Rows.uptoBulk (DataW.agg [y0.1, y1.1]) ≤ 1048576 := hs
    obtain ⟨p, hp⟩ := open_term _ _ _ y0 (Nat.le_refl _) (by omega) f0
    obtain ⟨q, hq⟩ := open_term _ _ _ y1 (Nat.le_refl _) (by omega) f1
    refine ⟨p, q, _, _, ?_, hp, hq⟩
    have e : (cs.drop 11).take 11 = cs.drop 11 := List.take_of_length_le (by simp; omega)
    rw [e, List.take_append_drop]
end

set_option maxRecDepth 100000 in
theorem last_contract (H : Type) (enc : TypeId × Value → H) (W : World) (base : Nat) (args : Array Value) (ds gs : List (DataW H)) (before : List MemPlace)
    (hval : ∀ (j : Nat) t v, Try.f13.params[j]? = some t → args[j]? = some v → Value.okWide Try.prog W .any base t v)
    (hW : DataW.Whole enc Try.prog Try.f13.params.toList Rows.digestLastSpec.vars false W args.toList ds gs before) (hk : Rows.uptoSmall H (ds ++ gs) = true) :
    Calls Try.prog 13 args W fun e W' => ∃ v, e = .returned v ∧ Rows.digestLastSpec.post enc Try.prog Try.f13 false true false false W args v W' := by
  have hW' := hW
  obtain ⟨p, q, hA0, hV, rfl, hfz, hnd⟩ := hW
  have hA : DataW.TrodAll enc Try.prog W 0 (fun _ => true) true Try.f13.params.toList args.toList ds p := hA0
  rw [Try.params13] at hA hval
  obtain ⟨v0, vs0, d0, ds0, p0, q0, hargs, rfl, rfl, h0, r0⟩ := trodAll_cons hA
  obtain ⟨v1, vs1, d1, ds1, p1, q1, rfl, rfl, rfl, h1, r1⟩ := trodAll_cons r0
  obtain ⟨v2, vs2, d2, ds2, p2, q2, rfl, rfl, rfl, h2, r2⟩ := trodAll_cons r1
  obtain ⟨rfl, rfl, rfl⟩ := trodAll_nil r2
  obtain rfl : args = #[v0, v1, v2] := by cases args; simp_all
  obtain ⟨rfl, rfl⟩ := trodVars_none hV
  have hbulk : Rows.uptoBulk d0 + (Rows.uptoBulk d1 + Rows.uptoBulk d2) ≤ 1048576 := by
    have h := of_decide_eq_true hk
    simp only [List.append_nil, Rows.uptoBulkAll] at h
    omega
  have k0 := h0
  have k1 := h1
  have k2 := h2
  have lt0 : ∀ x ∈ p0, x.block < W.heap.size := by obtain ⟨m, hm⟩ := k0; exact DataW.trod_lt m _ _ _ hm
  have lt1 : ∀ x ∈ p1, x.block < W.heap.size := by obtain ⟨m, hm⟩ := k1; exact DataW.trod_lt m _ _ _ hm
  have lt2 : ∀ x ∈ p2, x.block < W.heap.size := by obtain ⟨m, hm⟩ := k2; exact DataW.trod_lt m _ _ _ hm
  obtain ⟨c0, rfl, hsz0⟩ := okWide_struct Try.underlying34 (hval 0 34 v0 rfl rfl)
  obtain ⟨c1, rfl, hsz1⟩ : ∃ cs, v1 = .agg cs ∧ cs.size = Try.prog.cellsOf 119 := by
    have h := hval 1 119 v1 rfl rfl
    simp only [Value.okWide, Try.underlying119] at h
    obtain ⟨cs, h1, h2, _⟩ := h
    exact ⟨cs, h1, h2⟩
  obtain ⟨oa2, len2, cap2, rfl⟩ := okWide_slice Try.underlying31 (hval 2 31 v2 rfl rfl)
  obtain ⟨m0, t0⟩ := h0
  obtain ⟨m1, t1⟩ := h1
  obtain ⟨m2, t2⟩ := h2
  obtain ⟨t, ht⟩ := open_term (Rows.uptoBulk d0) m0 _ (d0, p0) (Nat.le_refl _) (show Rows.uptoBulk d0 ≤ 1048576 by omega) t0
  obtain ⟨tp, tq, cp, cq, e1, hp, hq⟩ := open_pair t1 (show Rows.uptoBulk d1 ≤ 1048576 by omega)
  obtain ⟨sv, ls, xs, e2, ho, hls⟩ := open_terms t2 (show Rows.uptoBulk d2 ≤ 1048576 by omega)
  obtain rfl : Value.slice oa2 len2 cap2 = sv := by simpa [Value.cells] using e2
  obtain rfl : c1 = (cp ++ cq).toArray := by
    have e1' : c1.toList = cp ++ cq := by simpa [Value.cells] using e1
    rw [← e1']
  have hw := last_walk t tp tq ls c0.toList cp cq _ xs W ht hp hq ho hls
  simp only [Array.toArray_toList] at hw
  refine hw.mono fun e W' ⟨he, bel⟩ => ?_
  subst he
  exact ⟨_, rfl, _, _, _, [], _, [], hW', trodAll_mk1 (shut_bool Try.underlying4 _), (trodAll_cons_mk (Below.trod lastLaid (by kernel_rfl) (of_decide_eq_true (by kernel_rfl)) k0 bel lt0) (trodAll_cons_mk (Below.trod lastLaid (by kernel_rfl) (of_decide_eq_true (by kernel_rfl)) k1 bel lt1) (trodAll_cons_mk (Below.trod lastLaid (by kernel_rfl) (of_decide_eq_true (by kernel_rfl)) k2 bel lt2) trodAll_mk0))), rfl, bel.frame _, fun h => by cases h⟩

set_option maxRecDepth 100000 in
theorem last_lifted (os : Os) (started : os.Started) (H : Type) (enc : TypeId × Value → H) (F : Stop.Interp) :
    ReturnsInHanded {} Try.checked os 13 .any ((Rows.OpenSpec.upto Rows.digestLastSpec).pre6 enc Try.prog Try.f13 Rows.digestLastUptoRow.domain false) (((Rows.OpenSpec.upto Rows.digestLastSpec).at F).post enc Try.prog Try.f13 false true false false) := by
  refine returnsInHanded_of_cond (C := Try.checked) (s := Rows.OpenSpec.upto Rows.digestLastSpec) (k := Rows.uptoSmall) rfl lastOwn started (by kernel_rfl) Try.func13
    (OpenSpec.witness (enc := enc) (C := Try.checked) (s := Rows.OpenSpec.upto Rows.digestLastSpec) (k := Rows.uptoSmall) rfl false ⟨#[], #[.agg lastCells.toArray, .agg (lastCells ++ lastCells).toArray, .slice none 0 0], []⟩ 8 (by kernel_rfl) (by kernel_rfl) (by kernel_rfl)
      (x := ([lastTermD, .agg [lastTermD, lastTermD], .nil], [], [])) (by kernel_rfl) rfl (by kernel_rfl)) ?_
  intro W base args ds gs before hval hW _ hk _
  exact last_contract H enc W base args ds gs before hval hW hk
theorem last_over : Rows.digestLastUptoRow.holds Try.pinned (Rows.OpenSpec.upto Rows.digestLastSpec) :=
  OpenClaim.holds_of_cond 13 Try.f13 rfl rfl rfl rfl rfl rfl rfl ⟨rfl, rfl, rfl, rfl, rfl⟩ rfl rfl rfl rfl rfl (by kernel_rfl) Try.func13 (by kernel_rfl)
    (of_decide_eq_true (by kernel_rfl)) (by unfold Func.isWrapper; first | (rw [if_pos (by decide +kernel)]; kernel_rfl) | (rw [if_neg (by decide +kernel)]; exact ⟨rfl, rfl⟩))
    (fun os started H enc _ F => last_lifted os started H enc F)
theorem digestLast_proved : Rows.DigestLastUptoSaid := last_over
end Go.Proofs.Ytpcbdjfonmohaaa
