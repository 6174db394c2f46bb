/- 'x := recover()', alone in its region. -/
import Derived.Test.YtgmdbpplfjkjmaaVal
import Derived.Recover
import Derived.Defers
import Derived.Laws.Panics
import Derived.Laws.PanicsMore
namespace Go.Proofs.Ytgmdbpplfjkjmaa
open Go.RowKit
set_option linter.unusedVariables false
set_option linter.unusedSimpArgs false

/-- 'x := recover()' alone in its region. -/
theorem wpS_recover {P : Program} {id : Nat} {o : Oper} {Q : Exit → Act → List Frame → World → Prop} {a : Act} {cs : List Frame} {w : World} (ho : o.op = .call { callee := .builtin .recover, args := #[], argTypes := #[] }) (hg : o.guard = none)
    (h : match recoverD cs with | some (v, cs') => Q .normal (a.put o.dst v) cs' w | none => Q .normal (a.put o.dst .nilIface) cs w) : (Code.region id #[o] false).wpS P Q a cs w := by
  apply wpS_region
  have e : (execOp a.eval o).run P w = .ok .recover w := by unfold execOp; rw [ho]; rfl
  simp only [List.size_toArray, List.length_cons, List.length_nil, Nat.zero_add, List.range_one, wpOpsS, List.getElem?_toArray, List.getElem?_cons_zero, Region.wanted, hg, if_true, e]
  cases hr : recoverD cs with
  | none => rw [hr] at h; exact h
  | some x => obtain ⟨v, cs'⟩ := x; rw [hr] at h; exact h
end Go.Proofs.Ytgmdbpplfjkjmaa
