/- Plain words on worlds. -/
import Derived.Test.YtgmdbpplfjkjmaaVal
namespace Go.Proofs.Ytgmdbpplfjkjmaa
open Go.RowKit
set_option linter.unusedVariables false
set_option linter.unusedSimpArgs false

theorem below_le {w w1 : World} {B C : Nat} (h : Below B w w1) (hc : C ≤ B) : Below C w w1 := h.mono hc
theorem block_cells {w : World} {b : Nat} {cs : Array Value} {t : TypeId} (h : w.heap[b]? = some (.cells cs t (0, 0))) (j : Nat) : w.cell? ⟨b, j, none⟩ = cs[j]? := by simp [World.cell?, h]
theorem below_but0 {w w' : World} (h : Below w.heap.size w w') : But (fun _ => False) w w' := ⟨h.os, h.tape, h.output, h.size, fun k hk _ => h.block k hk⟩
theorem below_but0' {B : Nat} {w w' : World} (h : Below B w w') (S : Nat → Prop := fun i => B ≤ i) : But (fun i => B ≤ i) w w' := ⟨h.os, h.tape, h.output, h.size, fun k _ hs => h.block k (by omega)⟩
theorem ownL_some {v : Value} {g : Nat} : g ∈ ownL v ↔ v.ownBlock = some g := by unfold ownL; cases v.ownBlock <;> simp [eq_comm]
end Go.Proofs.Ytgmdbpplfjkjmaa
