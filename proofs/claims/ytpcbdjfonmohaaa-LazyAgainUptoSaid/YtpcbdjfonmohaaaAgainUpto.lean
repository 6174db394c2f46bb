/- tenonlaw12.LazyAgain returns true, and the arguments read as they read before, wherever what it reads is of bulk at most 1048576. -/
import Derived.Test.YtpcbdjfonmohaaaLaw
import Derived.Test.YtpcbdjfonmohaaaAgainEnd
namespace Go.Proofs.Ytpcbdjfonmohaaa
open Go.ChangeShapes Go.WideShapes Go.ChangeAt Go.RowKit Go.Deep
set_option linter.unusedVariables false
set_option linter.unusedSimpArgs false

theorem choose_list {α : Type} (P : Nat → α → Prop) : ∀ n, (∀ i, i < n → ∃ a, P i a) → ∃ l : List α, l.length = n ∧ ∀ i a, l[i]? = some a → P i a
  | 0, _ => ⟨[], rfl, fun i a h => by simp at h⟩
  | n + 1, h => by
    obtain ⟨l, hl, hp⟩ := choose_list P n (fun i hi => h i (by omega))
    obtain ⟨x, hx⟩ := h n (by omega)
    refine ⟨l ++ [x], by simp [hl], fun i a ha => ?_⟩
    by_cases hi : i < l.length
    · rw [List.getElem?_append_left hi] at ha
      exact hp i a ha
    · rw [List.getElem?_append_right (by omega)] at ha
      have hi0 : i - l.length = 0 := by
        have := (List.getElem?_eq_some_iff.1 ha).1
        simp at this; omega
      rw [hi0] at ha
      simp at ha
      subst ha
      rw [show i = n from by omega]
      exact hx
theorem TRep.one {w : World} {t : Term} {cs : List Value} (ht : TRep w t cs) : ∀ u ∈ cs, u.oneCell' = true := by
  obtain ⟨k, b, n, fl, tx, bs, rf, ls, es, cl, ver⟩ := t
  simp only [TRep] at ht
  obtain ⟨sb, sl, se, xl, xe, e, -, ⟨_, _, rfl, -⟩, ⟨_, _, rfl, -⟩, -, ⟨_, _, rfl, -⟩, -⟩ := ht
  rw [e]
  intro u hu
  simp only [List.mem_cons, List.not_mem_nil, or_false] at hu
  rcases hu with rfl | rfl | rfl | rfl | rfl | rfl | rfl | rfl | rfl | rfl | rfl <;> rfl

section
variable {H : Type} {enc : TypeId × Value → H} {w : World} {base : Nat} {sp : Nat → Bool} {hd : Bool}
theorem cells_Answer : Try.prog.cellsOf 54 = 14 ∧ Try.prog.cellsOf 22 = 1 ∧ Try.prog.cellsOf 35 = 1 := by refine ⟨?_, ?_, ?_⟩ <;> kernel_rfl
set_option maxRecDepth 100000 in
theorem open_answer {fuel : Nat} {cs : List Value} {x : DataW H × List MemPlace} (h : DataW.trod enc Try.prog w base sp hd fuel 54 cs = some x) (hs : Rows.uptoBulk x.1 ≤ 1048576) : ∃ k e c1 c2 c3 c4 c5 c6 c7 c8 c9 c10 c11 c13, cs = [.int .i64 k, c1, c2, c3, c4, c5, c6, c7, c8, c9, c10, c11, .int .i64 e, c13] ∧ ∀ u ∈ cs, u.oneCell' = true := by
  obtain ⟨xs, n, -, rfl, hl, hlen, hf⟩ := DataW.trod_struct Try.underlying54 h
  obtain ⟨z14, z1, z0⟩ := cells_Answer
  rw [z14] at hl
  obtain ⟨k0, -⟩ := cells_one
  match cs, hl, xs, hlen with
  | [c0, c1, c2, c3, c4, c5, c6, c7, c8, c9, c10, c11, c12, c13], _, [y0, y1, y2, y3], _ =>
    have f0 := hf 0 _ rfl
    have f1 := hf 1 _ rfl
    have f2 := hf 2 _ rfl
    have f3 := hf 3 _ rfl
    simp only [List.getElem_toArray, List.getElem_cons_zero, List.getElem_cons_succ] at f0 f1 f2 f3
    rw [k0] at f0
    rw [cells_Term] at f1
    rw [z1] at f2
    rw [z0] at f3
    simp only [List.drop_zero, List.drop_succ_cons, List.take_succ_cons, List.take_zero, List.getElem?_cons_zero, List.getElem?_cons_succ] at f0 f1 f2 f3
    obtain ⟨z0', e0, -⟩ := DataW.trod_int Try.underlying3 f0
    obtain ⟨z2', e2, -⟩ := DataW.trod_int Try.underlying22 f2
    have b1 : Rows.uptoBulk y1.1 < Rows.uptoBulk (DataW.agg [y0.1, y1.1, y2.1, y3.1]) := bulk_agg (by simp)
    have hs' : Rows.uptoBulk (DataW.agg [y0.1, y1.1, y2.1, y3.1]) ≤ 1048576 := hs
    obtain ⟨t, ht⟩ := open_term _ _ _ y1 (Nat.le_refl _) (by omega) f1
    have hone := ht.one
    have h13 : c13.oneCell' = true := by
      rcases open_slice Try.underlying35 f3 with ⟨e, -⟩ | ⟨a, len, cap, m, n', D, Pl, e, -⟩
      · cases e; rfl
      · cases e; rfl
    cases e0; cases e2
    refine ⟨_, _, c1, c2, c3, c4, c5, c6, c7, c8, c9, c10, c11, c13, rfl, fun u hu => ?_⟩
    simp only [List.mem_cons, List.not_mem_nil, or_false] at hu
    rcases hu with rfl | rfl | rfl | rfl | rfl | rfl | rfl | rfl | rfl | rfl | rfl | rfl | rfl | rfl
    · rfl
    all_goals first | rfl | exact h13 | exact hone _ (by simp)
theorem open_answers {fuel : Nat} {cs : List Value} {x : DataW H × List MemPlace} (h : DataW.trod enc Try.prog w base sp hd fuel 52 cs = some x) (hs : Rows.uptoBulk x.1 ≤ 1048576) : ∃ sv ans, cs = [sv] ∧ AnsAt w sv ans := by
  obtain ⟨oa, len, cap, rfl, hlc, hcm, hl20, -, hel⟩ := open_row cells_Answer.1 (by omega) Try.underlying52 h hs
  by_cases hp : 0 < len
  · obtain ⟨b, o, rfl, hc⟩ := hel hp
    obtain ⟨ans, hal, ha⟩ := choose_list (fun i (a : Int × Int) => ∃ c1 c2 c3 c4 c5 c6 c7 c8 c9 c10 c11 c13,
      w.cell? ⟨b, o + i * 14, none⟩ = some (.int .i64 a.1) ∧ w.cell? ⟨b, o + i * 14 + 1, none⟩ = some c1 ∧ w.cell? ⟨b, o + i * 14 + 2, none⟩ = some c2 ∧ w.cell? ⟨b, o + i * 14 + 3, none⟩ = some c3 ∧ w.cell? ⟨b, o + i * 14 + 4, none⟩ = some c4 ∧ w.cell? ⟨b, o + i * 14 + 5, none⟩ = some c5 ∧
      w.cell? ⟨b, o + i * 14 + 6, none⟩ = some c6 ∧ w.cell? ⟨b, o + i * 14 + 7, none⟩ = some c7 ∧ w.cell? ⟨b, o + i * 14 + 8, none⟩ = some c8 ∧ w.cell? ⟨b, o + i * 14 + 9, none⟩ = some c9 ∧ w.cell? ⟨b, o + i * 14 + 10, none⟩ = some c10 ∧ w.cell? ⟨b, o + i * 14 + 11, none⟩ = some c11 ∧
      w.cell? ⟨b, o + i * 14 + 12, none⟩ = some (.int .i64 a.2) ∧ w.cell? ⟨b, o + i * 14 + 13, none⟩ = some c13 ∧ c1.oneCell' = true ∧ c2.oneCell' = true ∧ c3.oneCell' = true ∧ c4.oneCell' = true ∧ c5.oneCell' = true ∧ c6.oneCell' = true ∧ c7.oneCell' = true ∧ c8.oneCell' = true ∧ c9.oneCell' = true ∧ c10.oneCell' = true ∧ c11.oneCell' = true ∧ c13.oneCell' = true) len (fun i hi => by
      obtain ⟨cs', y, n, hl, hcell, ht, hb⟩ := hc i hi
      obtain ⟨k, e, c1, c2, c3, c4, c5, c6, c7, c8, c9, c10, c11, c13, rfl, hone⟩ := open_answer ht (by omega)
      have hg := fun j (hj : j < 14) => (congrArg (fun n => w.cell? ⟨b, n, none⟩) (Nat.add_assoc o (i * 14) j)).trans (hcell j hj)
      exact ⟨(k, e), c1, c2, c3, c4, c5, c6, c7, c8, c9, c10, c11, c13, hg 0 (by omega), hg 1 (by omega), hg 2 (by omega), hg 3 (by omega), hg 4 (by omega), hg 5 (by omega), hg 6 (by omega), hg 7 (by omega), hg 8 (by omega), hg 9 (by omega), hg 10 (by omega), hg 11 (by omega), hg 12 (by omega), hg 13 (by omega),
        hone _ (by simp), hone _ (by simp), hone _ (by simp), hone _ (by simp), hone _ (by simp), hone _ (by simp), hone _ (by simp), hone _ (by simp), hone _ (by simp), hone _ (by simp), hone _ (by simp), hone _ (by simp)⟩)
    subst hal
    exact ⟨_, ans, rfl, some ⟨b, o, none⟩, cap, rfl, hlc, hcm, hl20, fun _ => ⟨b, o, rfl, ha⟩⟩
  · obtain rfl : len = 0 := by omega
    exact ⟨_, [], rfl, oa, cap, rfl, hlc, hcm, hl20, fun h => absurd h (by simp)⟩
end

set_option maxRecDepth 100000 in
theorem again_contract (H : Type) (enc : TypeId × Value → H) (W : World) (base : Nat) (args : Array Value) (ds gs : List (DataW H)) (before : List MemPlace)
    (hval : ∀ (j : Nat) t v, Try.f5.params[j]? = some t → args[j]? = some v → Value.okWide Try.prog W .any base t v)
    (hW : DataW.Whole enc Try.prog Try.f5.params.toList Rows.lazyAgainSpec.vars false W args.toList ds gs before) (hk : Rows.uptoSmall H (ds ++ gs) = true) :
    Calls Try.prog 5 args W fun e W' => ∃ v, e = .returned v ∧ Rows.lazyAgainSpec.post enc Try.prog Try.f5 false true false false W args v W' := by
  have hW' := hW
  obtain ⟨p, q, hA0, hV, rfl, hfz, hnd⟩ := hW
  have hA : DataW.TrodAll enc Try.prog W 0 (fun _ => true) true Try.f5.params.toList args.toList ds p := hA0
  rw [Try.params5] at hA hval
  obtain ⟨v0, vs0, d0, ds0, p0, q0, hargs, rfl, rfl, h0, r0⟩ := trodAll_cons hA
  obtain ⟨v1, vs1, d1, ds1, p1, q1, rfl, rfl, rfl, h1, r1⟩ := trodAll_cons r0
  obtain ⟨rfl, rfl, rfl⟩ := trodAll_nil r1
  obtain rfl : args = #[v0, v1] := by cases args; simp_all
  obtain ⟨rfl, rfl⟩ := trodVars_none hV
  have hbulk : Rows.uptoBulk d0 + Rows.uptoBulk d1 ≤ 1048576 := by
    have h := of_decide_eq_true hk
    simp only [List.append_nil, Rows.uptoBulkAll] at h
    omega
  have k0 := h0
  have k1 := h1
  have lt0 : ∀ x ∈ p0, x.block < W.heap.size := by obtain ⟨m, hm⟩ := k0; exact DataW.trod_lt m _ _ _ hm
  have lt1 : ∀ x ∈ p1, x.block < W.heap.size := by obtain ⟨m, hm⟩ := k1; exact DataW.trod_lt m _ _ _ hm
  obtain ⟨c1, rfl, hsz⟩ := okWide_struct Try.underlying34 (hval 1 34 v1 rfl rfl)
  obtain ⟨m0, t0⟩ := h0
  obtain ⟨m1, t1⟩ := h1
  obtain ⟨t, ht⟩ := open_term (Rows.uptoBulk d1) m1 _ (d1, p1) (Nat.le_refl _) (show Rows.uptoBulk d1 ≤ 1048576 by omega) t1
  obtain ⟨oa, len, cap, rfl⟩ := okWide_slice Try.underlying52 (hval 0 52 v0 rfl rfl)
  obtain ⟨sv, ans, e, ha⟩ := open_answers t0 (show Rows.uptoBulk d0 ≤ 1048576 by omega)
  obtain rfl : Value.slice oa len cap = sv := by simpa [Value.cells] using e
  have hw := again_walk t c1.toList (.slice oa len cap) ans W ht ha
  simp only [Array.toArray_toList] at hw
  refine hw.mono fun e W' ⟨he, bel⟩ => ?_
  subst he
  exact ⟨_, rfl, _, _, _, [], _, [], hW', trodAll_mk1 (shut_bool Try.underlying4 _), (trodAll_cons_mk (Below.trod lawLaid (by kernel_rfl) (of_decide_eq_true (by kernel_rfl)) k0 bel lt0) (trodAll_cons_mk (Below.trod lawLaid (by kernel_rfl) (of_decide_eq_true (by kernel_rfl)) k1 bel lt1) trodAll_mk0)), rfl, bel.frame _, fun h => by cases h⟩

set_option maxRecDepth 100000 in
theorem again_lifted (os : Os) (started : os.Started) (H : Type) (enc : TypeId × Value → H) (F : Stop.Interp) :
    ReturnsInHanded {} Try.checked os 5 .any ((Rows.OpenSpec.upto Rows.lazyAgainSpec).pre6 enc Try.prog Try.f5 Rows.lazyAgainUptoRow.domain false) (((Rows.OpenSpec.upto Rows.lazyAgainSpec).at F).post enc Try.prog Try.f5 false true false false) := by
  refine returnsInHanded_of_cond (C := Try.checked) (s := Rows.OpenSpec.upto Rows.lazyAgainSpec) (k := Rows.uptoSmall) rfl lawOwn started (by kernel_rfl) Try.func5
    (OpenSpec.witness (enc := enc) (C := Try.checked) (s := Rows.OpenSpec.upto Rows.lazyAgainSpec) (k := Rows.uptoSmall) rfl false ⟨#[], #[.slice none 0 0, zeroTerm], []⟩ 8 (by kernel_rfl) (by kernel_rfl) (by kernel_rfl)
      (x := ([.nil, zeroTermD], [], [])) (by kernel_rfl) rfl (by kernel_rfl)) ?_
  intro W base args ds gs before hval hW _ hk _
  exact again_contract H enc W base args ds gs before hval hW hk
theorem again_over : Rows.lazyAgainUptoRow.holds Try.pinned (Rows.OpenSpec.upto Rows.lazyAgainSpec) :=
  OpenClaim.holds_of_cond 5 Try.f5 rfl rfl rfl rfl rfl rfl rfl ⟨rfl, rfl, rfl, rfl, rfl⟩ rfl rfl rfl rfl rfl (by kernel_rfl) Try.func5 (by kernel_rfl)
    (of_decide_eq_true (by kernel_rfl)) (by unfold Func.isWrapper; first | (rw [if_pos (by decide +kernel)]; kernel_rfl) | (rw [if_neg (by decide +kernel)]; exact ⟨rfl, rfl⟩))
    (fun os started H enc _ F => again_lifted os started H enc F)
theorem lazyAgain_proved : Rows.LazyAgainUptoSaid := again_over
end Go.Proofs.Ytpcbdjfonmohaaa
