/- tenonmake.Alien: a value of no kind. -/
import Derived.Test.YtgmdbpplfjkjmaaValEnd
import Derived.MapFrom
import Derived.Carry
namespace Go.Proofs.Ytgmdbpplfjkjmaa
open Go.RowKit Go.MapKept
set_option linter.unusedVariables false
set_option linter.unusedSimpArgs false

theorem getMap {W : World} {r : Nat} {es : Array MapEntry} {c : Nat} (hb : W.heap[r]? = some (.map es c)) : (getObj r).run Try.prog W = .ok (.map es c) W := by simp [getObj, Sem.run, hb]
theorem alien_map (w : World) : ∃ W', (Instr.mapUpdate 221 (.map (some w.heap.size)) (.string { data := #[97] }) (.int .i64 1)).run Try.prog (w.alloc (.map #[] 0)) = .ok () W' ∧ Below w.heap.size w W' := by
  have hb : (w.alloc (.map #[] 0)).heap[w.heap.size]? = some (.map #[] 0) := (heap_alloc _ _).1
  have hk : IsKey .string (.string { data := #[97] }) := trivial
  have hd := Try.underlying9
  have hm := Try.underlying221
  rcases findNow_spec hk (#[] : Array MapEntry).toList 0 (fun x hx => by cases hx) with ⟨h1, _⟩ | ⟨j, e, h1, h2, h3⟩
  · refine ⟨{ (w.alloc (.map #[] 0)) with heap := (w.alloc (.map #[] 0)).heap.setIfInBounds w.heap.size (.map #[{ key := .string { data := #[97] }, val := .int .i64 1, born := 0 }] 1) }, ?_, ?_⟩
    · have hg : (getObj w.heap.size).run Try.prog (w.alloc (.map #[] 0)) = .ok (.map #[] 0) (w.alloc (.map #[] 0)) := getMap hb
      have h1' : Instr.findNow .string (.string { data := #[97] }) [] 0 = some none := h1
      simp [Instr.mapUpdate, run_underlying hm, hg, run_checkKey hd hk, run_findKey hd h1', run_setObj_map _ hb, Result.andThen]
    · refine ⟨rfl, rfl, rfl, by simp, fun k hk => ?_⟩
      exact ((heap_set hb).2 k (by omega)).trans ((heap_alloc _ _).2 k hk)
  · simp at h2

/-- Which type Alien's value is of, by the rest by fourteen. -/
def alienM (m : Int) : TypeId :=
  bif m == 0 then 3 else bif m == 1 then 5 else bif m == 2 then 221 else bif m == 3 then 1 else bif m == 4 then 223 else bif m == 5 then 23 else bif m == 6 then 224 else bif m == 7 then 225 else bif m == 8 then 134 else bif m == 9 then 129 else bif m == 10 then 226 else bif m == 11 then 33 else bif m == 12 then 227 else 228
def alienT (n : Int) : TypeId := alienM (n.tmod 14)
theorem alien_kind (n : Int) : kinded (alienT n) = false := by
  simp only [alienT, alienM, Bool.apply_cond kinded, show kinded 3 = false from rfl, show kinded 5 = false from rfl, show kinded 221 = false from rfl, show kinded 1 = false from rfl, show kinded 223 = false from rfl, show kinded 23 = false from rfl, show kinded 224 = false from rfl, show kinded 225 = false from rfl, show kinded 134 = false from rfl, show kinded 129 = false from rfl, show kinded 226 = false from rfl, show kinded 33 = false from rfl, show kinded 227 = false from rfl, show kinded 228 = false from rfl, Bool.cond_self]
set_option maxRecDepth 100000 in
set_option maxHeartbeats 1600000 in
theorem alien_said (n : Int) (w : World) : Calls Try.prog 69 #[.int .i64 n] w fun e w' => (∃ y, e = .returned (.iface (alienT n) y)) ∧ Below w.heap.size w w' := by
  have hmm := @run_makeMap Try.prog
  obtain ⟨W', hins, hbel⟩ := alien_map w
  obtain ⟨m, hm⟩ : ∃ m, m = n.tmod 14 := ⟨_, rfl⟩
  have hT : alienT n = alienM m := by rw [hm]; rfl
  rw [hT]
  clear hT
  go_enter Try.func69, Try.ntmps69
  go_wp2
  all_goals go_ret
  all_goals (rw [← hm] at *)
  all_goals simp only [alienM, cond_true, cond_false, *]
  all_goals first | exact ⟨⟨_, rfl⟩, hbel⟩ | exact ⟨⟨_, rfl⟩, trivial⟩ | exact ⟨_, rfl⟩ | exact ⟨⟨_, rfl⟩, Below.refl _ _⟩ | exact ⟨⟨_, rfl⟩, (Below.refl _ _).alloc (Nat.le_refl _) _⟩
end Go.Proofs.Ytgmdbpplfjkjmaa
