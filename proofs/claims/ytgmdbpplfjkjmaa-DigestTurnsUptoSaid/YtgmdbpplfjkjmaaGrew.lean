/- Worlds that have grown: draws and new blocks alone. -/
import Derived.Test.YtgmdbpplfjkjmaaBase
import Derived.Test.YtgmdbpplfjkjmaaVal
import Derived.Shelf.SlSortCmp.QuietGrown
namespace Go.Proofs.Ytgmdbpplfjkjmaa
open Go.RowKit Go.Sort
set_option linter.unusedVariables false
set_option linter.unusedSimpArgs false

/-- Nothing but draws and new blocks. -/
def Grew (w w' : World) : Prop := ∃ p : GrownBy, w' = grow (w.drewN p.n) p.os
theorem Grew.refl (w : World) : Grew w w := ⟨⟨0, #[]⟩, by rw [grow_empty]; rfl⟩
theorem Grew.trans {a b c : World} (h : Grew a b) (k : Grew b c) : Grew a c := by
  obtain ⟨⟨n, os⟩, rfl⟩ := h
  obtain ⟨⟨m, os'⟩, rfl⟩ := k
  refine ⟨⟨n + m, os ++ os'⟩, ?_⟩
  show grow (grow ((a.drewN n).drewN m) os) os' = _
  rw [grow_grow, World.drewN_drewN]
theorem Grew.alloc {a b : World} (h : Grew a b) (o : Obj) : Grew a (b.alloc o) := h.trans ⟨⟨0, #[o]⟩, alloc_eq_grow b o⟩
theorem Grew.drew {a b : World} (h : Grew a b) : Grew a b.drew := h.trans ⟨⟨1, #[]⟩, by rw [grow_empty]; rfl⟩
theorem Grew.drewN {a b : World} (h : Grew a b) (n : Nat) : Grew a (b.drewN n) := h.trans ⟨⟨n, #[]⟩, by rw [grow_empty]⟩
theorem Grew.below {a b : World} (h : Grew a b) : Below a.heap.size a b := by
  obtain ⟨⟨n, os⟩, rfl⟩ := h
  refine ⟨rfl, rfl, rfl, ?_, fun k hk => ?_⟩
  · show a.heap.size ≤ (a.heap ++ os).size
    simp
  · show (a.heap ++ os)[k]? = a.heap[k]?
    exact Array.getElem?_append_left hk
theorem Grew.size {a b : World} (h : Grew a b) : a.heap.size ≤ b.heap.size := h.below.size
/-- A contract met in a world of the class. -/
theorem Calls.in_grown {F : FuncId} {args : Array Value} {w : World} {n : Nat} {os : Array Obj} {v : Value}
    (h : Calls Try.prog F args (grow (w.drewN n) os) fun e w' => e = .returned v ∧ Grew (grow (w.drewN n) os) w') : Calls Try.prog F args (grow (w.drewN n) os) fun e w'' => e = .returned v ∧ ∃ p : GrownBy, w'' = grow (w.drewN p.n) p.os :=
  h.mono fun _ _ ⟨he, hg⟩ => ⟨he, Grew.trans ⟨⟨n, os⟩, rfl⟩ hg⟩
theorem Calls.same_in_grown {F : FuncId} {args : Array Value} {w : World} {n : Nat} {os : Array Obj} {v : Value}
    (h : Calls Try.prog F args (grow (w.drewN n) os) fun e w' => e = .returned v ∧ (grow (w.drewN n) os) = w') : Calls Try.prog F args (grow (w.drewN n) os) fun e w'' => e = .returned v ∧ ∃ p : GrownBy, w'' = grow (w.drewN p.n) p.os :=
  h.mono fun _ _ ⟨he, hg⟩ => ⟨he, ⟨n, os⟩, hg.symm⟩
end Go.Proofs.Ytgmdbpplfjkjmaa
