/- tenonlaw10.ObjectApart returns true, and the arguments read as they read before, wherever what it reads is of bulk at most 1048576. -/
import Derived.Test.YtpcbdjfonmohaaaTermOpen
import Derived.Test.YtpcbdjfonmohaaaApart
import Derived.ProofKit
import Derived.OpenShut
import Derived.ShutString
import Derived.ChangeOld
import Derived.Below
import Derived.Carry
import Derived.JoinedCond
namespace Go.Proofs.Ytpcbdjfonmohaaa
open Go.ChangeShapes Go.WideShapes Go.ChangeAt Go.RowKit Go.Deep
set_option linter.unusedVariables false
set_option linter.unusedSimpArgs false

theorem apartOwn : ownKnob Try.prog.godebug = none := by kernel_rfl
theorem apartLaid : laidOutB Try.prog = true := by kernel_rfl
theorem apart_walk (id : Int) (es : List (ByteArray × Term)) (sv : Value) (xs : List Value) (w : World) (ho : AtRow w sv es.length 12 xs) (hd : EsRep w es xs) :
    Calls Try.prog 11 #[.int .u64 id, sv] w fun e w' => e = .returned (.bool true) ∧ Below w.heap.size w w' := by
  cases hid : (id == 0) with
  | true => exact apart_no id es sv xs w ho hd (Or.inl (by simpa using hid))
  | false => cases hok : okB (.dict (builtEs es)) with
    | true => exact apart_yes id es sv xs w ho hd hid hok
    | false => exact apart_no id es sv xs w ho hd (Or.inr ⟨hid, hok⟩)
section
variable {H : Type} {enc : TypeId × Value → H} {w : World} {base : Nat} {sp : Nat → Bool} {hd : Bool}
/-- Entries that were read are entries. -/
theorem open_entries {fuel : Nat} {cs : List Value} {x : DataW H × List MemPlace} (h : DataW.trod enc Try.prog w base sp hd fuel 32 cs = some x) (hs : Rows.uptoBulk x.1 ≤ 1048576) : ∃ sv es xe, cs = [sv] ∧ AtRow w sv es.length 12 xe ∧ EsRep w es xe := by
  obtain ⟨-, -, -, -, k4, -⟩ := cells_one
  obtain ⟨oe, ne, ce, rfl, l8, m8, s8, d8, r8⟩ := open_row cells_Entry (by omega) Try.underlying32 h hs
  by_cases hn : 0 < ne
  · obtain ⟨b, o, rfl, hr⟩ := r8 hn
    obtain ⟨es, xs, h1, h2, h3, h4⟩ := entries_laid (w := w) ne b o (fun i hi => by
      obtain ⟨cs', y, m, hl, hc, ht, hb⟩ := hr i hi
      obtain ⟨ys, m', -, rfl, hl', hlen, hf⟩ := DataW.trod_struct Try.underlying106 ht
      match ys, hlen with
      | [u0, u1], _ =>
        have f0 := hf 0 _ rfl
        have f1 := hf 1 _ rfl
        simp only [List.getElem_toArray, List.getElem_cons_zero, List.getElem_cons_succ] at f0 f1
        rw [k4] at f0
        rw [cells_Term] at f1
        simp only [List.drop_zero, List.getElem?_cons_zero, List.getElem?_cons_succ] at f0 f1
        obtain ⟨s, es, -, ws⟩ := DataW.trod_string Try.underlying9 f0
        have hb1 : Rows.uptoBulk u1.1 < Rows.uptoBulk (DataW.agg [u0.1, u1.1]) := bulk_agg (by simp)
        have hb2 : Rows.uptoBulk (DataW.agg [u0.1, u1.1]) < Rows.uptoBulk x.1 := hb
        obtain ⟨t, ht'⟩ := open_term (Rows.uptoBulk u1.1) m' _ u1 (Nat.le_refl _) (by omega) f1
        have hs0 : cs'[0]? = some (.string s) := by
          have := congrArg (fun l : List Value => l[0]?) es
          simpa using this
        have hc0 := hc 0 (by omega)
        rw [Nat.add_zero] at hc0
        refine ⟨s, _, t, hc0.trans hs0, ws, fun j hj => ?_, ht'⟩
        rw [hc (1 + j) (by omega), List.getElem?_take_of_lt (by omega), List.getElem?_drop])
    exact ⟨_, es, xs, rfl, by rw [h1]; exact ⟨some ⟨b, o, none⟩, ce, rfl, l8, m8, s8, d8, h3, fun _ => ⟨b, o, rfl, h4⟩⟩, h2⟩
  · obtain rfl : ne = 0 := by omega
    exact ⟨_, [], [], rfl, ⟨oe, ce, rfl, l8, m8, s8, d8, rfl, fun h => absurd h (by simp)⟩, rfl⟩
end

set_option maxRecDepth 100000 in
theorem apart_contract (H : Type) (enc : TypeId × Value → H) (W : World) (base : Nat) (args : Array Value) (ds gs : List (DataW H)) (before : List MemPlace)
    (hval : ∀ (j : Nat) t v, Try.f11.params[j]? = some t → args[j]? = some v → Value.okWide Try.prog W .any base t v)
    (hW : DataW.Whole enc Try.prog Try.f11.params.toList Rows.objectApartSpec.vars false W args.toList ds gs before) (hk : Rows.uptoSmall H (ds ++ gs) = true) :
    Calls Try.prog 11 args W fun e W' => ∃ v, e = .returned v ∧ Rows.objectApartSpec.post enc Try.prog Try.f11 false true false false W args v W' := by
  have hW' := hW
  obtain ⟨p, q, hA0, hV, rfl, hfz, hnd⟩ := hW
  have hA : DataW.TrodAll enc Try.prog W 0 (fun _ => true) true Try.f11.params.toList args.toList ds p := hA0
  rw [Try.params11] at hA hval
  obtain ⟨v0, vs0, d0, ds0, p0, q0, hargs, rfl, rfl, h0, r0⟩ := trodAll_cons hA
  obtain ⟨v1, vs1, d1, ds1, p1, q1, rfl, rfl, rfl, h1, r1⟩ := trodAll_cons r0
  obtain ⟨rfl, rfl, rfl⟩ := trodAll_nil r1
  obtain rfl : args = #[v0, v1] := by cases args; simp_all
  obtain ⟨rfl, rfl⟩ := trodVars_none hV
  have hbulk : Rows.uptoBulk d0 + Rows.uptoBulk d1 ≤ 1048576 := by
    have h := of_decide_eq_true hk
    simp only [List.append_nil, Rows.uptoBulkAll] at h
    omega
  have k0 := h0
  have k1 := h1
  have lt0 : ∀ x ∈ p0, x.block < W.heap.size := by obtain ⟨m, hm⟩ := k0; exact DataW.trod_lt m _ _ _ hm
  have lt1 : ∀ x ∈ p1, x.block < W.heap.size := by obtain ⟨m, hm⟩ := k1; exact DataW.trod_lt m _ _ _ hm
  obtain ⟨m0, t0⟩ := h0
  obtain ⟨m1, t1⟩ := h1
  obtain ⟨id, rfl⟩ := okWide_int Try.underlying30 (hval 0 30 v0 rfl rfl)
  obtain ⟨oa, len, cap, rfl⟩ := okWide_slice Try.underlying32 (hval 1 32 v1 rfl rfl)
  obtain ⟨sv, es, xe, e1, ho, hes⟩ := open_entries t1 (show Rows.uptoBulk d1 ≤ 1048576 by omega)
  obtain rfl : Value.slice oa len cap = sv := by simpa [Value.cells] using e1
  have hw := apart_walk id es _ xe W ho hes
  refine hw.mono fun e W' ⟨he, bel⟩ => ?_
  subst he
  exact ⟨_, rfl, _, _, _, [], _, [], hW', trodAll_mk1 (shut_bool Try.underlying4 _), (trodAll_cons_mk (Below.trod apartLaid (by kernel_rfl) (of_decide_eq_true (by kernel_rfl)) k0 bel lt0) (trodAll_cons_mk (Below.trod apartLaid (by kernel_rfl) (of_decide_eq_true (by kernel_rfl)) k1 bel lt1) trodAll_mk0)), rfl, bel.frame _, fun h => by cases h⟩

set_option maxRecDepth 100000 in
theorem apart_lifted (os : Os) (started : os.Started) (H : Type) (enc : TypeId × Value → H) (F : Stop.Interp) :
    ReturnsInHanded {} Try.checked os 11 .any ((Rows.OpenSpec.upto Rows.objectApartSpec).pre6 enc Try.prog Try.f11 Rows.objectApartUptoRow.domain false) (((Rows.OpenSpec.upto Rows.objectApartSpec).at F).post enc Try.prog Try.f11 false true false false) := by
  refine returnsInHanded_of_cond (C := Try.checked) (s := Rows.OpenSpec.upto Rows.objectApartSpec) (k := Rows.uptoSmall) rfl apartOwn started (by kernel_rfl) Try.func11
    (OpenSpec.witness (enc := enc) (C := Try.checked) (s := Rows.OpenSpec.upto Rows.objectApartSpec) (k := Rows.uptoSmall) rfl false ⟨#[], #[.int .u64 0, .slice none 0 0], []⟩ 8 (by kernel_rfl) (by kernel_rfl) (by kernel_rfl)
      (x := ([.lit (.int .u64 0), .nil], [], [])) (by kernel_rfl) rfl (by kernel_rfl)) ?_
  intro W base args ds gs before hval hW _ hk _
  exact apart_contract H enc W base args ds gs before hval hW hk
theorem apart_over : Rows.objectApartUptoRow.holds Try.pinned (Rows.OpenSpec.upto Rows.objectApartSpec) :=
  OpenClaim.holds_of_cond 11 Try.f11 rfl rfl rfl rfl rfl rfl rfl ⟨rfl, rfl, rfl, rfl, rfl⟩ rfl rfl rfl rfl rfl (by kernel_rfl) Try.func11 (by kernel_rfl)
    (of_decide_eq_true (by kernel_rfl)) (by unfold Func.isWrapper; first | (rw [if_pos (by decide +kernel)]; kernel_rfl) | (rw [if_neg (by decide +kernel)]; exact ⟨rfl, rfl⟩))
    (fun os started H enc _ F => apart_lifted os started H enc F)
theorem objectApart_proved : Rows.ObjectApartUptoSaid := apart_over
end Go.Proofs.Ytpcbdjfonmohaaa
