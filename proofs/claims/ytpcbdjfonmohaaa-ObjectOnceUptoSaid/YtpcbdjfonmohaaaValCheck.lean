/- The walks of value.check and value.Check. -/
import Derived.Test.YtpcbdjfonmohaaaValPart
import Derived.BigQuiet
import Derived.Deep.QuietTactic
namespace Go.Proofs.Ytpcbdjfonmohaaa
open Go.RowKit
set_option linter.unusedVariables false
set_option linter.unusedSimpArgs false

set_option maxRecDepth 100000 in
theorem check_any {w : World} {v : Val} {x : Value} {fs : List Nat} (h : VRep w v x fs) :
    Calls Try.prog 73 #[x] w fun e w' => e = .returned (.tuple #[.int .i64 (checkF v).1, .int .i64 (checkF v).2]) ∧ Below w.heap.size w w' := by
  have hl := VRep.lt v x fs h
  have hp := Lib.hid (fun (W : World) (hW : W.heap[w.heap.size]? = some (cntObj ⟨0, 0, 0⟩)) (hb : But (fun _ => False) w W) =>
    part_any v x fs W w.heap.size ⟨0, 0, 0⟩ 1 (VRep.but h hb (fun _ _ f => f)) (fun e => by have := hl _ e; omega) hW (by decide) (by decide) (by decide) (by decide))
  have hcheck : checkF v = (match partF v 1 ⟨0, 0, 0⟩ with | (true, _) => (0, 0) | (false, c) => (c.n, c.why)) := rfl
  clear h hl
  cases hr : partF v 1 ⟨0, 0, 0⟩ with
  | mk ok c =>
  rw [hr] at hcheck
  have hrH := Lib.hid hr
  clear hr
  cases ok with
  | true =>
    rw [hcheck]
    clear hcheck
    go_enter Try.func73, Try.ntmps73
    go_wp2_with (go_at_call 104; refine (hp.out _ (heap_alloc_new w _) (But.alloc (But.refl _ _) _)).mono ?_; rw [hrH.out]; rintro e w2 ⟨rfl, hc2, hb2⟩)
    go_ret2
    exact ⟨rfl, hb2.new_below⟩
  | false =>
    rw [hcheck]
    clear hcheck
    go_enter Try.func73, Try.ntmps73
    go_wp2_with (go_at_call 104; refine (hp.out _ (heap_alloc_new w _) (But.alloc (But.refl _ _) _)).mono ?_; rw [hrH.out]; rintro e w2 ⟨rfl, hc2, hb2⟩)
    obtain ⟨q0, -, q2, -, -⟩ := cntCells hc2
    go_quiet (fail)
    go_wp2
    go_ret2
    exact ⟨rfl, Below.drewN' hb2.new_below nq⟩
theorem Check_any {w : World} {v : Val} {x : Value} {fs : List Nat} (h : VRep w v x fs) :
    Calls Try.prog 20 #[x] w fun e w' => e = .returned (.tuple #[.int .i64 (checkF v).1, .int .i64 (checkF v).2]) ∧ Below w.heap.size w w' := by
  have hc := Lib.hid (check_any h)
  clear h
  go_enter Try.func20, Try.ntmps20
  go_wp2_with (go_at_call 73; refine hc.out.mono ?_; rintro e w2 ⟨rfl, hb2⟩)
  go_ret2
  exact ⟨rfl, hb2⟩
end Go.Proofs.Ytpcbdjfonmohaaa
