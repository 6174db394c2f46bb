/- tenonmake.Panics. -/
import Derived.Test.YtpcbdjfonmohaaaTry
import Derived.Test.YtpcbdjfonmohaaaList
import Derived.Lib.BoundsPanic
namespace Go.Proofs.Ytpcbdjfonmohaaa
open Go.RowKit
set_option linter.unusedVariables false
set_option linter.unusedSimpArgs false

/-- What object.Try tells of Panics' panics. -/
def panK (k : Int) : Int := bif k == 0 then 1 else k
def panN (k : Int) : Int := bif k == 2 then 50 else 9
set_option maxRecDepth 100000 in
theorem panics1_said (b : Nat) (k : Int) (w : World) (h : w.cell? ⟨b, 0, none⟩ = some (.int .i64 k)) (hk : k = 0 ∨ k = 1 ∨ k = 2 ∨ k = 3 ∨ k = 4 ∨ k = 5) :
    Calls Try.prog 70 #[.pointer (some ⟨b, 0, none⟩)] w fun e w' => (∃ v, e = .panicked [{ v, recovered := false }] ∧ PanicIs v (panK k) (panN k)) ∧ Below w.heap.size w w' := by
  have hix : (Instr.indexAt 130 (.slice none 0 0) (.int .i64 3)).run Try.prog w = .halt (.panic (.iface Try.prog.rt.boundsError (.agg #[.int .i64 3, .int .i64 0, .bool (w.tape w.drawn (.extern "runtime.boundsError.signed" 2) % 2 == 1), .int .u8 0]))) w.drew := by
    rw [Lib.run_indexAt_nil w _ _ _ _ _ _ Try.underlying130, Lib.run_boundsPanic_index _ _ _ _ (by decide) (by decide)]
  have hrt : lacksRT Try.prog.rt.boundsError = some true := by kernel_rfl
  rcases hk with rfl | rfl | rfl | rfl | rfl | rfl
  all_goals go_enter Try.func70, Try.ntmps70
  all_goals go_wp2
  · exact ⟨rfl, ⟨_, rfl, .rt _ _ hrt⟩, (Below.refl _ _).drew⟩
  · exact ⟨rfl, ⟨_, rfl, .rt _ _ hrt⟩, (Below.refl _ _).drew⟩
  · exact ⟨rfl, ⟨_, rfl, .errno _⟩, Below.refl _ _⟩
  · exact ⟨rfl, ⟨_, rfl, .error _ _ (by decide) (by kernel_rfl) (by kernel_rfl)⟩, (Below.refl _ _).alloc (Nat.le_refl _) _⟩
  · exact ⟨rfl, ⟨_, rfl, .text _⟩, Below.refl _ _⟩
  · exact ⟨rfl, ⟨_, rfl, .other _ _ (by decide) (by decide) (by kernel_rfl) (by kernel_rfl)⟩, Below.refl _ _⟩
set_option maxRecDepth 100000 in
theorem panics_said (k : Int) (w : World) (hk : k = 0 ∨ k = 1 ∨ k = 2 ∨ k = 3 ∨ k = 4 ∨ k = 5) :
    Calls Try.prog 16 #[.int .i64 k] w fun e w' => (∃ v, e = .panicked [{ v, recovered := false }] ∧ PanicIs v (panK k) (panN k)) ∧ Below w.heap.size w w' := by
  have hmf : ∀ (fn : Fn) (first cap : Array Value) (w : World), (Instr.makeFunc fn first cap).run Try.prog w = .ok (.func fn first cap) w := fun _ _ _ _ => rfl
  have hp := Lib.hid (panics1_said w.heap.size k (w.alloc (.cells #[.int .i64 k] 3)) (by simp [go_sem]) hk)
  have hF : ∀ (args : Array Value) (W : World), (callFunc 70 args).run Try.prog W = .ok (.enter 70 args) W := fun _ _ => by kernel_rfl
  clear hk
  go_enter Try.func16, Try.ntmps16
  go_wp2_with fail
  refine hp.out.mono ?_
  rintro e w' ⟨⟨v, rfl, hpi⟩, hb⟩
  exact ⟨rfl, ⟨v, rfl, hpi⟩, ((Below.refl _ _).alloc (Nat.le_refl _) _).trans (below_le hb (by simp))⟩
end Go.Proofs.Ytpcbdjfonmohaaa
