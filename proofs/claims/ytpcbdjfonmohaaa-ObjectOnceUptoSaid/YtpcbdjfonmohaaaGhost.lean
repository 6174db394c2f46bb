/- Ghosts: how one lies in memory; what a fetch leaves; (*Ghost).fetched. -/
import Derived.Test.YtpcbdjfonmohaaaTry
import Derived.Test.YtpcbdjfonmohaaaValEnd
import Derived.BigQuiet
import Derived.Deep.QuietTactic
namespace Go.Proofs.Ytpcbdjfonmohaaa
open Go.RowKit
set_option linter.unusedVariables false
set_option linter.unusedSimpArgs false

/-- A ghost in memory. -/
def ghostObj (id : Int) (fv : Value) (r : Option Addr) (busy : Bool) (last : Int) (pool : Option Addr) : Obj := .cells #[.int .u64 id, fv, .pointer r, .bool busy, .int .i64 last, .pointer pool] 136 (0, 0)
theorem ghostCells {w : World} {b : Nat} {id : Int} {fv : Value} {r : Option Addr} {busy : Bool} {last : Int} {pool : Option Addr} (h : w.heap[b]? = some (ghostObj id fv r busy last pool)) :
    w.cell? ⟨b, 0, none⟩ = some (.int .u64 id) ∧ w.cell? ⟨b, 1, none⟩ = some fv ∧ w.cell? ⟨b, 2, none⟩ = some (.pointer r) ∧ w.cell? ⟨b, 3, none⟩ = some (.bool busy) ∧ w.cell? ⟨b, 4, none⟩ = some (.int .i64 last) ∧ w.cell? ⟨b, 5, none⟩ = some (.pointer pool) ∧ b < w.heap.size ∧ (∀ o, w.frozen? ⟨b, o, none⟩ = false) := by
  unfold ghostObj at h
  refine ⟨by simp [World.cell?, h], by simp [World.cell?, h], by simp [World.cell?, h], by simp [World.cell?, h], by simp [World.cell?, h], by simp [World.cell?, h], (Array.getElem?_eq_some_iff.1 h).1, fun o => by simp [World.frozen?, h]⟩

theorem setCell_far {w : World} {b c o o2 : Nat} {u : Value} (h : ¬ b = c) : (w.setCell ⟨c, o2, none⟩ u).cell? ⟨b, o, none⟩ = w.cell? ⟨b, o, none⟩ :=
  World.cell?_of_block (w := w) (a := ⟨b, o, none⟩) (Below.heap_setCell w ⟨c, o2, none⟩ u b h)
set_option maxRecDepth 100000 in
set_option maxHeartbeats 800000 in
theorem fetched1_ret (F : FuncId) (caps : Array Value) (W : World) (g B0 B1 B2 : Nat) (id : Int) (v1 v2 : Value) (hF : ∀ (args : Array Value) (W : World), (callFunc F args).run Try.prog W = .ok (.enter F args) W) (c0 : W.cell? ⟨B0, 0, none⟩ = some (.pointer (some ⟨g, 0, none⟩))) (g0 : W.cell? ⟨g, 0, none⟩ = some (.int .u64 id)) (g1 : W.cell? ⟨g, 1, none⟩ = some (.func (.func F) #[] caps)) (c1 : W.cell? ⟨B1, 0, none⟩ = some v1) (c2 : W.cell? ⟨B2, 0, none⟩ = some v2) (f1 : W.frozen? ⟨B1, 0, none⟩ = false) (f2 : W.frozen? ⟨B2, 0, none⟩ = false) (n01 : ¬ B0 = B1) (n02 : ¬ B0 = B2) (n12 : ¬ B1 = B2) (ng1 : ¬ g = B1) (ng2 : ¬ g = B2) (R : Option Addr → Int → World → Prop)
    (hcall0 : Calls Try.prog F (#[.int .u64 id] ++ caps) W.drew fun e w' => ∃ x why, e = .returned (.tuple #[.pointer x, .int .i64 why]) ∧ w'.heap[g]? = W.heap[g]? ∧ w'.heap[B0]? = W.heap[B0]? ∧ w'.heap[B1]? = W.heap[B1]? ∧ w'.heap[B2]? = W.heap[B2]? ∧ R x why w') :
    Calls Try.prog 130 #[.pointer (some ⟨B0, 0, none⟩), .pointer (some ⟨B1, 0, none⟩), .pointer (some ⟨B2, 0, none⟩)] W fun e w'' => ∃ x why w', e = .returned (.tuple #[]) ∧ R x why w' ∧ w'' = (w'.setCell ⟨B1, 0, none⟩ (.pointer x)).setCell ⟨B2, 0, none⟩ (.int .i64 why) := by
  have hcall := Lib.hid hcall0
  clear hcall0
  go_enter Try.func130, Try.ntmps130
  go_wp2_with fail
  refine wp_region_held_drew (S := (fun w' => w'.cell? ⟨B0, 0, none⟩ = some (.pointer (some ⟨g, 0, none⟩)) ∧ w'.cell? ⟨g, 0, none⟩ = some (.int .u64 id) ∧ w'.cell? ⟨g, 1, none⟩ = some (.func (.func F) #[] caps))) (by kernel_rfl) ?_ (fun hHeld => ?_)
  · exact ⟨c0, g0, g1⟩
  refine wpAnyH_take (i := 0) (v := ?vf0) rfl (by kernel_rfl) (by kernel_rfl) (by kernel_rfl) (fun _ _ _ h => h) (.inl ⟨by rfl, ?hyf0⟩) (by assumption) ?restf0
  case hyf0 => (intro w hSw; (try dsimp only at hSw); go_simp; first | done | with_reducible rfl)
  (try simp only [Act.put, List.setIfInBounds_toArray, List.set_cons_zero, List.set_cons_succ, List.getElem_toArray, List.getElem_cons_zero, List.getElem_cons_succ])
  refine wpAnyH_take (i := 1) (v := ?vf1) rfl (by kernel_rfl) (by kernel_rfl) (by kernel_rfl) (fun _ _ _ h => h) (.inl ⟨by rfl, ?hyf1⟩) (by assumption) ?restf1
  case hyf1 => (intro w hSw; (try dsimp only at hSw); go_simp; first | done | with_reducible rfl)
  (try simp only [Act.put, List.setIfInBounds_toArray, List.set_cons_zero, List.set_cons_succ, List.getElem_toArray, List.getElem_cons_zero, List.getElem_cons_succ])
  refine wpAnyH_take (i := 2) (v := ?vf2) rfl (by kernel_rfl) (by kernel_rfl) (by kernel_rfl) (fun _ _ _ h => h) (.inl ⟨by rfl, ?hyf2⟩) (by assumption) ?restf2
  case hyf2 => (intro w hSw; (try dsimp only at hSw); go_simp; first | done | with_reducible rfl)
  (try simp only [Act.put, List.setIfInBounds_toArray, List.set_cons_zero, List.set_cons_succ, List.getElem_toArray, List.getElem_cons_zero, List.getElem_cons_succ])
  refine wpAnyH_take (i := 3) (v := ?vf3) rfl (by kernel_rfl) (by kernel_rfl) (by kernel_rfl) (fun _ _ _ h => h) (.inl ⟨by rfl, ?hyf3⟩) (by assumption) ?restf3
  case hyf3 => (intro w hSw; (try dsimp only at hSw); go_simp; first | done | with_reducible rfl)
  (try simp only [Act.put, List.setIfInBounds_toArray, List.set_cons_zero, List.set_cons_succ, List.getElem_toArray, List.getElem_cons_zero, List.getElem_cons_succ])
  refine wpAnyH_take (i := 4) (v := ?vf4) rfl (by kernel_rfl) (by kernel_rfl) (by kernel_rfl) (fun _ _ _ h => h) (.inl ⟨by rfl, ?hyf4⟩) (by assumption) ?restf4
  case hyf4 => (intro w hSw; (try dsimp only at hSw); go_simp; first | done | with_reducible rfl)
  (try simp only [Act.put, List.setIfInBounds_toArray, List.set_cons_zero, List.set_cons_succ, List.getElem_toArray, List.getElem_cons_zero, List.getElem_cons_succ])
  refine wpAnyH_take (i := 5) (v := ?vf5) rfl (by kernel_rfl) (by kernel_rfl) (by kernel_rfl) (fun _ _ _ h => h) (.inl ⟨by rfl, ?hyf5⟩) (by assumption) ?restf5
  case hyf5 => (intro w hSw; (try dsimp only at hSw); go_simp; first | done | with_reducible rfl)
  (try simp only [Act.put, List.setIfInBounds_toArray, List.set_cons_zero, List.set_cons_succ, List.getElem_toArray, List.getElem_cons_zero, List.getElem_cons_succ])
  refine wpAnyH_take (i := 6) (v := ?vf6) rfl (by kernel_rfl) (by kernel_rfl) (by kernel_rfl) (fun _ _ _ h => h) (.inl ⟨by rfl, ?hyf6⟩) (by assumption) ?restf6
  case hyf6 => (intro w hSw; (try dsimp only at hSw); go_simp; first | done | with_reducible rfl)
  (try simp only [Act.put, List.setIfInBounds_toArray, List.set_cons_zero, List.set_cons_succ, List.getElem_toArray, List.getElem_cons_zero, List.getElem_cons_succ])
  refine wpAnyH_take (i := 7) (v := ?vf7) rfl (by kernel_rfl) (by kernel_rfl) (by kernel_rfl) (fun _ _ _ h => h) (.inl ⟨by rfl, ?hyf7⟩) (by assumption) ?restf7
  case hyf7 => (intro w hSw; (try dsimp only at hSw); go_simp; first | done | with_reducible rfl)
  (try simp only [Act.put, List.setIfInBounds_toArray, List.set_cons_zero, List.set_cons_succ, List.getElem_toArray, List.getElem_cons_zero, List.getElem_cons_succ])
  refine wpAnyH_ready (rs := [8]) (by kernel_rfl) (by simp) ?_
  refine AllReadyH.cons rfl (fun K hK => ?_) AllReadyH.nil
  rw [if_pos (by rfl)]
  go_simp
  refine hcall.out.mono ?_
  rintro e w' ⟨x, why, rfl, hk0, hk1, hk2, hk3, hR⟩
  have q0 := (World.cell?_of_block (w := W) (a := ⟨B0, 0, none⟩) hk1).trans c0
  have q1 := (World.cell?_of_block (w := W) (a := ⟨g, 0, none⟩) hk0).trans g0
  have q2 := (World.cell?_of_block (w := W) (a := ⟨g, 1, none⟩) hk0).trans g1
  have q3 := (World.cell?_of_block (w := W) (a := ⟨B1, 0, none⟩) hk2).trans c1
  have q4 := (World.cell?_of_block (w := W) (a := ⟨B2, 0, none⟩) hk3).trans c2
  have z3 := (World.frozen?_of_block (w := W) (a := ⟨B1, 0, none⟩) hk2).trans f1
  have z4 := (World.frozen?_of_block (w := W) (a := ⟨B2, 0, none⟩) hk3).trans f2
  have hRH := Lib.hid hR
  clear hk0 hk1 hk2 hk3 hR
  refine hK.out _ _ ?_ (fun hHeld2 => ?_)
  · exact ⟨q0, q1, q2⟩
  clear hK K
  (try simp only [Act.put, List.setIfInBounds_toArray, List.set_cons_zero, List.set_cons_succ, List.getElem_toArray, List.getElem_cons_zero, List.getElem_cons_succ])
  refine wpAnyH_take (i := 9) (v := ?vf9) rfl (by kernel_rfl) (by kernel_rfl) (by kernel_rfl) (fun _ _ _ h => h) (.inl ⟨by rfl, ?hyf9⟩) (by assumption) ?restf9
  case hyf9 => (intro w hSw; (try dsimp only at hSw); go_simp; first | done | with_reducible rfl)
  (try simp only [Act.put, List.setIfInBounds_toArray, List.set_cons_zero, List.set_cons_succ, List.getElem_toArray, List.getElem_cons_zero, List.getElem_cons_succ])
  refine wpAnyH_take (i := 10) (v := ?vf10) rfl (by kernel_rfl) (by kernel_rfl) (by kernel_rfl) (fun _ _ _ h => h) (.inl ⟨by rfl, ?hyf10⟩) (by assumption) ?restf10
  case hyf10 => (intro w hSw; (try dsimp only at hSw); go_simp; first | done | with_reducible rfl)
  (try simp only [Act.put, List.setIfInBounds_toArray, List.set_cons_zero, List.set_cons_succ, List.getElem_toArray, List.getElem_cons_zero, List.getElem_cons_succ])
  refine wpAnyH_take (i := 11) (v := ?vf11) rfl (by kernel_rfl) (by kernel_rfl) (by kernel_rfl) (fun _ _ _ h => h) (.inl ⟨by rfl, ?hyf11⟩) (by assumption) ?restf11
  case hyf11 => (intro w hSw; (try dsimp only at hSw); go_simp; first | done | with_reducible rfl)
  (try simp only [Act.put, List.setIfInBounds_toArray, List.set_cons_zero, List.set_cons_succ, List.getElem_toArray, List.getElem_cons_zero, List.getElem_cons_succ])
  refine wpAnyH_ready (rs := [12]) (by kernel_rfl) (by simp) ?_
  refine AllReadyH.cons rfl (fun K hK => ?_) AllReadyH.nil
  rw [if_pos (by rfl)]
  go_simp
  refine hK.out _ _ ?_ (fun hHeld2 => ?_)
  · exact ⟨(setCell_far n01).trans q0, (setCell_far ng1).trans q1, (setCell_far ng1).trans q2⟩
  clear hK K
  (try simp only [Act.put, List.setIfInBounds_toArray, List.set_cons_zero, List.set_cons_succ, List.getElem_toArray, List.getElem_cons_zero, List.getElem_cons_succ])
  refine wpAnyH_ready (rs := [13]) (by kernel_rfl) (by simp) ?_
  refine AllReadyH.cons rfl (fun K hK => ?_) AllReadyH.nil
  rw [if_pos (by rfl)]
  go_simp
  refine hK.out _ _ ?_ (fun hHeld2 => ?_)
  · exact ⟨(setCell_far n02).trans ((setCell_far n01).trans q0), (setCell_far ng2).trans ((setCell_far ng1).trans q1), (setCell_far ng2).trans ((setCell_far ng1).trans q2)⟩
  clear hK K
  (try simp only [Act.put, List.setIfInBounds_toArray, List.set_cons_zero, List.set_cons_succ, List.getElem_toArray, List.getElem_cons_zero, List.getElem_cons_succ])
  refine wpAnyH_done (by kernel_rfl) ?_ _
  go_wp2_with fail
  go_end0
  exact ⟨x, why, w', rfl, hRH.out, rfl⟩

set_option maxRecDepth 100000 in
set_option maxHeartbeats 800000 in
theorem fetched1_panic (F : FuncId) (caps : Array Value) (W : World) (g B0 B1 B2 : Nat) (id : Int) (v1 v2 : Value) (hF : ∀ (args : Array Value) (W : World), (callFunc F args).run Try.prog W = .ok (.enter F args) W) (c0 : W.cell? ⟨B0, 0, none⟩ = some (.pointer (some ⟨g, 0, none⟩))) (g0 : W.cell? ⟨g, 0, none⟩ = some (.int .u64 id)) (g1 : W.cell? ⟨g, 1, none⟩ = some (.func (.func F) #[] caps)) (c1 : W.cell? ⟨B1, 0, none⟩ = some v1) (c2 : W.cell? ⟨B2, 0, none⟩ = some v2) (f1 : W.frozen? ⟨B1, 0, none⟩ = false) (f2 : W.frozen? ⟨B2, 0, none⟩ = false) (n01 : ¬ B0 = B1) (n02 : ¬ B0 = B2) (n12 : ¬ B1 = B2) (ng1 : ¬ g = B1) (ng2 : ¬ g = B2) (R : Value → World → Prop)
    (hcall0 : Calls Try.prog F (#[.int .u64 id] ++ caps) W.drew fun e w' => ∃ v, e = .panicked [{ v, recovered := false }] ∧ R v w') :
    Calls Try.prog 130 #[.pointer (some ⟨B0, 0, none⟩), .pointer (some ⟨B1, 0, none⟩), .pointer (some ⟨B2, 0, none⟩)] W fun e w' => ∃ v, e = .panicked [{ v, recovered := false }] ∧ R v w' := by
  have hcall := Lib.hid hcall0
  clear hcall0
  go_enter Try.func130, Try.ntmps130
  go_wp2_with fail
  refine wp_region_held_drew (S := (fun w' => w'.cell? ⟨B0, 0, none⟩ = some (.pointer (some ⟨g, 0, none⟩)) ∧ w'.cell? ⟨g, 0, none⟩ = some (.int .u64 id) ∧ w'.cell? ⟨g, 1, none⟩ = some (.func (.func F) #[] caps))) (by kernel_rfl) ?_ (fun hHeld => ?_)
  · exact ⟨c0, g0, g1⟩
  refine wpAnyH_take (i := 0) (v := ?vp0) rfl (by kernel_rfl) (by kernel_rfl) (by kernel_rfl) (fun _ _ _ h => h) (.inl ⟨by rfl, ?hyp0⟩) (by assumption) ?restp0
  case hyp0 => (intro w hSw; (try dsimp only at hSw); go_simp; first | done | with_reducible rfl)
  (try simp only [Act.put, List.setIfInBounds_toArray, List.set_cons_zero, List.set_cons_succ, List.getElem_toArray, List.getElem_cons_zero, List.getElem_cons_succ])
  refine wpAnyH_take (i := 1) (v := ?vp1) rfl (by kernel_rfl) (by kernel_rfl) (by kernel_rfl) (fun _ _ _ h => h) (.inl ⟨by rfl, ?hyp1⟩) (by assumption) ?restp1
  case hyp1 => (intro w hSw; (try dsimp only at hSw); go_simp; first | done | with_reducible rfl)
  (try simp only [Act.put, List.setIfInBounds_toArray, List.set_cons_zero, List.set_cons_succ, List.getElem_toArray, List.getElem_cons_zero, List.getElem_cons_succ])
  refine wpAnyH_take (i := 2) (v := ?vp2) rfl (by kernel_rfl) (by kernel_rfl) (by kernel_rfl) (fun _ _ _ h => h) (.inl ⟨by rfl, ?hyp2⟩) (by assumption) ?restp2
  case hyp2 => (intro w hSw; (try dsimp only at hSw); go_simp; first | done | with_reducible rfl)
  (try simp only [Act.put, List.setIfInBounds_toArray, List.set_cons_zero, List.set_cons_succ, List.getElem_toArray, List.getElem_cons_zero, List.getElem_cons_succ])
  refine wpAnyH_take (i := 3) (v := ?vp3) rfl (by kernel_rfl) (by kernel_rfl) (by kernel_rfl) (fun _ _ _ h => h) (.inl ⟨by rfl, ?hyp3⟩) (by assumption) ?restp3
  case hyp3 => (intro w hSw; (try dsimp only at hSw); go_simp; first | done | with_reducible rfl)
  (try simp only [Act.put, List.setIfInBounds_toArray, List.set_cons_zero, List.set_cons_succ, List.getElem_toArray, List.getElem_cons_zero, List.getElem_cons_succ])
  refine wpAnyH_take (i := 4) (v := ?vp4) rfl (by kernel_rfl) (by kernel_rfl) (by kernel_rfl) (fun _ _ _ h => h) (.inl ⟨by rfl, ?hyp4⟩) (by assumption) ?restp4
  case hyp4 => (intro w hSw; (try dsimp only at hSw); go_simp; first | done | with_reducible rfl)
  (try simp only [Act.put, List.setIfInBounds_toArray, List.set_cons_zero, List.set_cons_succ, List.getElem_toArray, List.getElem_cons_zero, List.getElem_cons_succ])
  refine wpAnyH_take (i := 5) (v := ?vp5) rfl (by kernel_rfl) (by kernel_rfl) (by kernel_rfl) (fun _ _ _ h => h) (.inl ⟨by rfl, ?hyp5⟩) (by assumption) ?restp5
  case hyp5 => (intro w hSw; (try dsimp only at hSw); go_simp; first | done | with_reducible rfl)
  (try simp only [Act.put, List.setIfInBounds_toArray, List.set_cons_zero, List.set_cons_succ, List.getElem_toArray, List.getElem_cons_zero, List.getElem_cons_succ])
  refine wpAnyH_take (i := 6) (v := ?vp6) rfl (by kernel_rfl) (by kernel_rfl) (by kernel_rfl) (fun _ _ _ h => h) (.inl ⟨by rfl, ?hyp6⟩) (by assumption) ?restp6
  case hyp6 => (intro w hSw; (try dsimp only at hSw); go_simp; first | done | with_reducible rfl)
  (try simp only [Act.put, List.setIfInBounds_toArray, List.set_cons_zero, List.set_cons_succ, List.getElem_toArray, List.getElem_cons_zero, List.getElem_cons_succ])
  refine wpAnyH_take (i := 7) (v := ?vp7) rfl (by kernel_rfl) (by kernel_rfl) (by kernel_rfl) (fun _ _ _ h => h) (.inl ⟨by rfl, ?hyp7⟩) (by assumption) ?restp7
  case hyp7 => (intro w hSw; (try dsimp only at hSw); go_simp; first | done | with_reducible rfl)
  (try simp only [Act.put, List.setIfInBounds_toArray, List.set_cons_zero, List.set_cons_succ, List.getElem_toArray, List.getElem_cons_zero, List.getElem_cons_succ])
  refine wpAnyH_ready (rs := [8]) (by kernel_rfl) (by simp) ?_
  refine AllReadyH.cons rfl (fun K hK => ?_) AllReadyH.nil
  rw [if_pos (by rfl)]
  go_simp
  refine hcall.out.mono ?_
  rintro e w' ⟨v, rfl, hR⟩
  exact ⟨rfl, v, rfl, hR⟩

/-- How a fetch is called: g: the ghost, now busy; whatever has come to be beside; of what was there it turns the blocks of T alone, none of them g; it ends as X says. -/
def FetchSaid (F : FuncId) (caps : Array Value) (id : Int) (w : World) (g : Nat) (gb : Obj) (T : Nat → Prop) (X : Ending → World → Prop) : Prop :=
  ∀ W, But (· = g) w W → W.heap[g]? = some gb → Calls Try.prog F (#[.int .u64 id] ++ caps) W fun e W' => But T W W' ∧ X e W'

/-- The world of (*Ghost).fetched in which Try is called. -/
def fetchW (w : World) (g : Nat) : World := (((w.setCell ⟨g, 3, none⟩ (.bool true)).alloc (.cells #[.pointer (some ⟨g, 0, none⟩)] 40)).alloc (.cells #[.pointer none] 37)).alloc (.cells #[.int .i64 0] 22)
/-- What stands in the variables of (*Ghost).fetched. -/
def FetchVars (w w' : World) (g : Nat) (gb : Obj) (x : Option Addr) (why : Int) : Prop :=
  w'.heap[w.heap.size]? = some (.cells #[.pointer (some ⟨g, 0, none⟩)] 40 (0, 0)) ∧ w'.heap[w.heap.size + 1]? = some (.cells #[.pointer x] 37 (0, 0)) ∧ w'.heap[w.heap.size + 1 + 1]? = some (.cells #[.int .i64 why] 22 (0, 0)) ∧ w'.heap[g]? = some gb
def fetchArgs (w : World) : Array Value := #[.func (.func 130) #[] #[.pointer (some ⟨w.heap.size, 0, none⟩), .pointer (some ⟨w.heap.size + 1, 0, none⟩), .pointer (some ⟨w.heap.size + 1 + 1, 0, none⟩)]]
theorem oneCellAt {w : World} {b : Nat} {v : Value} {t : TypeId} (h : w.heap[b]? = some (.cells #[v] t (0, 0))) : w.cell? ⟨b, 0, none⟩ = some v := by simp [World.cell?, h]

section
variable (w : World) (g : Nat) (id : Int) (fv : Value) (r : Option Addr) (last : Int) (pool : Option Addr) (hg : w.heap[g]? = some (ghostObj id fv r false last pool))
include hg
set_option maxRecDepth 100000 in
set_option maxHeartbeats 800000 in
theorem fetched_panic (k n : Int) (hk : (k != 0) = true) (R : World → Prop)
    (htry : Calls Try.prog 14 (fetchArgs w) (fetchW w g) fun e w' => e = .returned (.tuple #[.int .i64 k, .int .i64 n]) ∧ (∃ x why, FetchVars w w' g (ghostObj id fv r true last pool) x why) ∧ R w') :
    Calls Try.prog 107 #[.pointer (some ⟨g, 0, none⟩)] w fun e w'' => e = .returned (.tuple #[.pointer none, .int .i64 9]) ∧ ∃ w', R w' ∧ w'.heap[g]? = some (ghostObj id fv r true last pool) ∧ w'' = w'.setCell ⟨g, 3, none⟩ (.bool false) := by
  obtain ⟨g0, g1, g2, g3, g4, g5, hlt, hfz⟩ := ghostCells hg
  have hfz3 := hfz 3
  have hmf : ∀ (fn : Fn) (first cap : Array Value) (w : World), (Instr.makeFunc fn first cap).run Try.prog w = .ok (.func fn first cap) w := fun _ _ _ _ => rfl
  have htH := Lib.hid htry
  have n1 : g < w.heap.size + 1 := by omega
  have n2 : g < w.heap.size + 1 + 1 := by omega
  clear htry hg hfz g0 g1 g2 g4 g5
  go_enter Try.func107, Try.ntmps107
  go_wp2_with fail
  refine htH.out.mono ?_
  rintro e w' ⟨rfl, ⟨x, why, hb0, hb1, hb2, hgb⟩, hR⟩
  have q0 := oneCellAt hb0
  obtain ⟨-, -, -, q3, -, -, -, hz⟩ := ghostCells hgb
  have z3 := hz 3
  have hRH := Lib.hid (And.intro hR hgb)
  clear hb0 hb1 hb2 hgb hz hR g3 hfz3
  go_wp2_with fail
  go_ret2
  exact ⟨rfl, w', hRH.out.1, hRH.out.2, rfl⟩

set_option maxRecDepth 100000 in
set_option maxHeartbeats 800000 in
theorem fetched_err (why : Int) (hw : (why != 0) = true) (R : World → Prop)
    (htry : Calls Try.prog 14 (fetchArgs w) (fetchW w g) fun e w' => e = .returned (.tuple #[.int .i64 0, .int .i64 0]) ∧ (∃ x, FetchVars w w' g (ghostObj id fv r true last pool) x why) ∧ R w') :
    Calls Try.prog 107 #[.pointer (some ⟨g, 0, none⟩)] w fun e w'' => e = .returned (.tuple #[.pointer none, .int .i64 why]) ∧ ∃ w', R w' ∧ w'.heap[g]? = some (ghostObj id fv r true last pool) ∧ ∃ m, w'' = (w'.setCell ⟨g, 3, none⟩ (.bool false)).drewN m := by
  obtain ⟨g0, g1, g2, g3, g4, g5, hlt, hfz⟩ := ghostCells hg
  have hfz3 := hfz 3
  have hmf : ∀ (fn : Fn) (first cap : Array Value) (w : World), (Instr.makeFunc fn first cap).run Try.prog w = .ok (.func fn first cap) w := fun _ _ _ _ => rfl
  have htH := Lib.hid htry
  have n1 : g < w.heap.size + 1 := by omega
  have n2 : g < w.heap.size + 1 + 1 := by omega
  have m2 : ¬ w.heap.size + 1 + 1 = g := by omega
  clear htry hg hfz g0 g1 g2 g4 g5
  go_enter Try.func107, Try.ntmps107
  go_wp2_with fail
  refine htH.out.mono ?_
  rintro e w' ⟨rfl, ⟨x, hb0, hb1, hb2, hgb⟩, hR⟩
  have q0 := oneCellAt hb0
  have q2 := oneCellAt hb2
  obtain ⟨-, -, -, q3, -, -, -, hz⟩ := ghostCells hgb
  have z3 := hz 3
  have hRH := Lib.hid (And.intro hR hgb)
  clear hb0 hb1 hb2 hgb hz hR g3 hfz3
  go_wp2_with fail
  have q2' : (w'.setCell ⟨g, 3, none⟩ (.bool false)).cell? ⟨w.heap.size + 1 + 1, 0, none⟩ = some (.int .i64 why) := (setCell_far m2).trans q2
  go_quiet (fail)
  go_wp2_with fail
  go_ret2
  exact ⟨rfl, w', hRH.out.1, hRH.out.2, _, rfl⟩

set_option maxRecDepth 100000 in
set_option maxHeartbeats 800000 in
theorem fetched_none (R : World → Prop)
    (htry : Calls Try.prog 14 (fetchArgs w) (fetchW w g) fun e w' => e = .returned (.tuple #[.int .i64 0, .int .i64 0]) ∧ FetchVars w w' g (ghostObj id fv r true last pool) none 0 ∧ R w') :
    Calls Try.prog 107 #[.pointer (some ⟨g, 0, none⟩)] w fun e w'' => e = .returned (.tuple #[.pointer none, .int .i64 7]) ∧ ∃ w', R w' ∧ w'.heap[g]? = some (ghostObj id fv r true last pool) ∧ w'' = w'.setCell ⟨g, 3, none⟩ (.bool false) := by
  obtain ⟨g0, g1, g2, g3, g4, g5, hlt, hfz⟩ := ghostCells hg
  have hfz3 := hfz 3
  have hmf : ∀ (fn : Fn) (first cap : Array Value) (w : World), (Instr.makeFunc fn first cap).run Try.prog w = .ok (.func fn first cap) w := fun _ _ _ _ => rfl
  have htH := Lib.hid htry
  have n1 : g < w.heap.size + 1 := by omega
  have n2 : g < w.heap.size + 1 + 1 := by omega
  have m1 : ¬ w.heap.size + 1 = g := by omega
  have m2 : ¬ w.heap.size + 1 + 1 = g := by omega
  clear htry hg hfz g0 g1 g2 g4 g5
  go_enter Try.func107, Try.ntmps107
  go_wp2_with fail
  refine htH.out.mono ?_
  rintro e w' ⟨rfl, ⟨hb0, hb1, hb2, hgb⟩, hR⟩
  have q0 := oneCellAt hb0
  have q1 := oneCellAt hb1
  have q2 := oneCellAt hb2
  obtain ⟨-, -, -, q3, -, -, -, hz⟩ := ghostCells hgb
  have z3 := hz 3
  have q1' : (w'.setCell ⟨g, 3, none⟩ (.bool false)).cell? ⟨w.heap.size + 1, 0, none⟩ = some (.pointer none) := (setCell_far m1).trans q1
  have q2' : (w'.setCell ⟨g, 3, none⟩ (.bool false)).cell? ⟨w.heap.size + 1 + 1, 0, none⟩ = some (.int .i64 0) := (setCell_far m2).trans q2
  have hRH := Lib.hid (And.intro hR hgb)
  clear hb0 hb1 hb2 hgb hz hR g3 hfz3
  go_wp2_with fail
  go_ret2
  exact ⟨rfl, w', hRH.out.1, hRH.out.2, rfl⟩
end

section
variable (w : World) (g : Nat) (id : Int) (fv : Value) (r : Option Addr) (last : Int) (pool : Option Addr) (hg : w.heap[g]? = some (ghostObj id fv r false last pool))
include hg
/-- A record has been fetched that can be: it is copied. -/
def FetchedRec (w0 : World) (g : Nat) (gb : Obj) (v : Val) (R : World → Prop) (e : Ending) (w'' : World) : Prop :=
  ∃ b gs w', e = .returned (.tuple #[.pointer (some ⟨b, 0, none⟩), .int .i64 0]) ∧ R w' ∧ w'.heap[g]? = some gb ∧ VRep w'' v (.iface 37 (.pointer (some ⟨b, 0, none⟩))) gs ∧ gs.Nodup ∧ (∀ k ∈ gs, w'.heap.size ≤ k) ∧ Below w'.heap.size (w'.setCell ⟨g, 3, none⟩ (.bool false)) w''
set_option maxRecDepth 100000 in
set_option maxHeartbeats 800000 in
theorem fetched_rec (v : Val) (hrec : ∃ c n d, v = .record c n d) (hok : okB v = true) (R : World → Prop)
    (htry : Calls Try.prog 14 (fetchArgs w) (fetchW w g) fun e w' => e = .returned (.tuple #[.int .i64 0, .int .i64 0]) ∧ (∃ a fs, FetchVars w w' g (ghostObj id fv r true last pool) (some a) 0 ∧ VRep w' v (.iface 37 (.pointer (some a))) fs ∧ g ∉ fs) ∧ R w') :
    Calls Try.prog 107 #[.pointer (some ⟨g, 0, none⟩)] w (FetchedRec w g (ghostObj id fv r true last pool) v R) := by
  obtain ⟨g0, g1, g2, g3, g4, g5, hlt, hfz⟩ := ghostCells hg
  have hfz3 := hfz 3
  have hmf : ∀ (fn : Fn) (first cap : Array Value) (w : World), (Instr.makeFunc fn first cap).run Try.prog w = .ok (.func fn first cap) w := fun _ _ _ _ => rfl
  have htH := Lib.hid htry
  have n1 : g < w.heap.size + 1 := by omega
  have n2 : g < w.heap.size + 1 + 1 := by omega
  have m1 : ¬ w.heap.size + 1 = g := by omega
  have m2 : ¬ w.heap.size + 1 + 1 = g := by omega
  clear htry hg hfz g0 g1 g2 g4 g5
  go_enter Try.func107, Try.ntmps107
  go_wp2_with fail
  refine htH.out.mono ?_
  rintro e w' ⟨rfl, ⟨a, fs, ⟨hb0, hb1, hb2, hgb⟩, hv, hgf⟩, hR⟩
  have q0 := oneCellAt hb0
  have q1 := oneCellAt hb1
  have q2 := oneCellAt hb2
  obtain ⟨-, -, -, q3, -, -, hgl, hz⟩ := ghostCells hgb
  have z3 := hz 3
  have q1' : (w'.setCell ⟨g, 3, none⟩ (.bool false)).cell? ⟨w.heap.size + 1, 0, none⟩ = some (.pointer (some a)) := (setCell_far m1).trans q1
  have q2' : (w'.setCell ⟨g, 3, none⟩ (.bool false)).cell? ⟨w.heap.size + 1 + 1, 0, none⟩ = some (.int .i64 0) := (setCell_far m2).trans q2
  have hv2 : VRep (w'.setCell ⟨g, 3, none⟩ (.bool false)) v (.iface 37 (.pointer (some a))) fs := VRep.keep _ _ _ hv (fun b hb => Below.heap_setCell w' ⟨g, 3, none⟩ (.bool false) b (fun (e : b = g) => hgf (e ▸ hb)))
  have hcp := Lib.hid (Copy_ok hv2 hok)
  have hRH := Lib.hid (And.intro hR hgb)
  clear hb0 hb1 hb2 hgb hz hR g3 hfz3 hv hv2 hgf
  obtain ⟨c, n, d, rfl⟩ := hrec
  have hta : ∀ (p : Value) (W : World), (Instr.typeAssert (.iface 37 p) 20 37 false).run Try.prog W = .ok p W := fun _ _ => by kernel_rfl
  go_wp2_with (go_at_call 77; refine hcp.out.mono ?_; rintro e w2 ⟨y, gy, rfl, ⟨b, sv, xs, gs, rfl, hrest⟩, hyn, hyb, hb2⟩)
  go_ret2
  exact ⟨b, gy, w', rfl, hRH.out.1, hRH.out.2, ⟨b, sv, xs, gs, rfl, hrest⟩, hyn, fun k hk => by have := hyb k hk; simpa [World.setCell] using this, hb2.mono (by simp [World.setCell])⟩

set_option maxRecDepth 100000 in
set_option maxHeartbeats 800000 in
theorem fetched_bad (v : Val) (hok : okB v = false) (R : World → Prop)
    (htry : Calls Try.prog 14 (fetchArgs w) (fetchW w g) fun e w' => e = .returned (.tuple #[.int .i64 0, .int .i64 0]) ∧ (∃ a fs, FetchVars w w' g (ghostObj id fv r true last pool) (some a) 0 ∧ VRep w' v (.iface 37 (.pointer (some a))) fs ∧ g ∉ fs) ∧ R w') :
    Calls Try.prog 107 #[.pointer (some ⟨g, 0, none⟩)] w fun e w'' => e = .returned (.tuple #[.pointer none, .int .i64 (whyF v)]) ∧ ∃ w', R w' ∧ w'.heap[g]? = some (ghostObj id fv r true last pool) ∧ Below w'.heap.size (w'.setCell ⟨g, 3, none⟩ (.bool false)) w'' := by
  have hne : (whyF v != 0) = true := by simpa using why_bad hok
  obtain ⟨g0, g1, g2, g3, g4, g5, hlt, hfz⟩ := ghostCells hg
  have hfz3 := hfz 3
  have hmf : ∀ (fn : Fn) (first cap : Array Value) (w : World), (Instr.makeFunc fn first cap).run Try.prog w = .ok (.func fn first cap) w := fun _ _ _ _ => rfl
  have htH := Lib.hid htry
  have n1 : g < w.heap.size + 1 := by omega
  have n2 : g < w.heap.size + 1 + 1 := by omega
  have m1 : ¬ w.heap.size + 1 = g := by omega
  have m2 : ¬ w.heap.size + 1 + 1 = g := by omega
  clear htry hg hfz g0 g1 g2 g4 g5
  go_enter Try.func107, Try.ntmps107
  go_wp2_with fail
  refine htH.out.mono ?_
  rintro e w' ⟨rfl, ⟨a, fs, ⟨hb0, hb1, hb2, hgb⟩, hv, hgf⟩, hR⟩
  have q0 := oneCellAt hb0
  have q1 := oneCellAt hb1
  have q2 := oneCellAt hb2
  obtain ⟨-, -, -, q3, -, -, hgl, hz⟩ := ghostCells hgb
  have z3 := hz 3
  have q1' : (w'.setCell ⟨g, 3, none⟩ (.bool false)).cell? ⟨w.heap.size + 1, 0, none⟩ = some (.pointer (some a)) := (setCell_far m1).trans q1
  have q2' : (w'.setCell ⟨g, 3, none⟩ (.bool false)).cell? ⟨w.heap.size + 1 + 1, 0, none⟩ = some (.int .i64 0) := (setCell_far m2).trans q2
  have hv2 : VRep (w'.setCell ⟨g, 3, none⟩ (.bool false)) v (.iface 37 (.pointer (some a))) fs := VRep.keep _ _ _ hv (fun b hb => Below.heap_setCell w' ⟨g, 3, none⟩ (.bool false) b (fun (e : b = g) => hgf (e ▸ hb)))
  have hcp := Lib.hid (Copy_bad hv2 hok)
  have hRH := Lib.hid (And.intro hR hgb)
  clear hb0 hb1 hb2 hgb hz hR g3 hfz3 hv hv2 hgf
  go_wp2_with (go_at_call 77; refine hcp.out.mono ?_; rintro e w2 ⟨rfl, hb2⟩)
  go_ret2
  exact ⟨rfl, w', hRH.out.1, hRH.out.2, hb2.mono (by simp [World.setCell])⟩
end
end Go.Proofs.Ytpcbdjfonmohaaa
