/- tenonmake's Core: call, and the methods of owned and lazy. -/
import Derived.Test.YtpcbdjfonmohaaaObj
namespace Go.Proofs.Ytpcbdjfonmohaaa
open Go.RowKit
set_option linter.unusedVariables false
set_option linter.unusedSimpArgs false
theorem wrap_small {n : Int} (h : 0 ≤ n ∧ n < 1000) : IntKind.i64.wrap (n + 1) = n + 1 := by simp [IntKind.wrap, IntKind.bits, IntKind.signed]; omega

set_option maxRecDepth 100000 in
theorem call_5 (cb : Nat) (n : Int) (w : World) (hp : w.cell? ⟨cb, 12, none⟩ = some (.int .i64 0)) (hn : w.cell? ⟨cb, 19, none⟩ = some (.int .i64 n)) (hf : w.frozen? ⟨cb, 19, none⟩ = false) (hr : 0 ≤ n ∧ n < 1000) :
    Calls Try.prog 165 #[.pointer (some ⟨cb, 0, none⟩), .int .i64 5] w fun e w' => e = .returned (.tuple #[]) ∧ w' = (w.setCell ⟨cb, 19, none⟩ (.int .i64 (n + 1))).drew := by
  go_enter Try.func165, Try.ntmps165
  go_wp2_with fail
  refine wp_region_held_drew (S := (fun _ => True)) (by kernel_rfl) trivial (fun hHeld => ?_)
  refine wpAnyH_take (i := 0) (v := ?va51) rfl (by kernel_rfl) (by kernel_rfl) (by kernel_rfl) (fun _ _ _ h => h) (.inl ⟨by rfl, ?hya51⟩) (by assumption) ?resta51
  case hya51 => (intro w hSw; (try dsimp only at hSw); go_simp; first | done | with_reducible rfl)
  (try simp only [Act.put, List.setIfInBounds_toArray, List.set_cons_zero, List.set_cons_succ, List.getElem_toArray, List.getElem_cons_zero, List.getElem_cons_succ])
  refine wpAnyH_take (i := 1) (v := ?va52) rfl (by kernel_rfl) (by kernel_rfl) (by kernel_rfl) (fun _ _ _ h => h) (.inl ⟨by rfl, ?hya52⟩) (by assumption) ?resta52
  case hya52 => (intro w hSw; (try dsimp only at hSw); go_simp; first | done | with_reducible rfl)
  (try simp only [Act.put, List.setIfInBounds_toArray, List.set_cons_zero, List.set_cons_succ, List.getElem_toArray, List.getElem_cons_zero, List.getElem_cons_succ])
  refine wpAnyH_take (i := 2) (v := ?va53) rfl (by kernel_rfl) (by kernel_rfl) (by kernel_rfl) (fun _ _ _ h => h) (.inl ⟨by rfl, ?hya53⟩) (by assumption) ?resta53
  case hya53 => (intro w hSw; (try dsimp only at hSw); go_simp; first | done | with_reducible rfl)
  (try simp only [Act.put, List.setIfInBounds_toArray, List.set_cons_zero, List.set_cons_succ, List.getElem_toArray, List.getElem_cons_zero, List.getElem_cons_succ])
  refine wpAnyH_take (i := 3) (v := ?va54) rfl (by kernel_rfl) (by kernel_rfl) (by kernel_rfl) (fun _ _ _ h => h) (.inl ⟨by rfl, ?hya54⟩) (by assumption) ?resta54
  case hya54 => (intro w hSw; (try dsimp only at hSw); go_simp; first | done | with_reducible rfl)
  (try simp only [Act.put, List.setIfInBounds_toArray, List.set_cons_zero, List.set_cons_succ, List.getElem_toArray, List.getElem_cons_zero, List.getElem_cons_succ])
  refine wpAnyH_take (i := 4) (v := ?va55) rfl (by kernel_rfl) (by kernel_rfl) (by kernel_rfl) (fun _ _ _ h => h) (.inl ⟨by rfl, ?hya55⟩) (by assumption) ?resta55
  case hya55 => (intro w hSw; (try dsimp only at hSw); go_simp; first | done | with_reducible rfl)
  (try simp only [Act.put, List.setIfInBounds_toArray, List.set_cons_zero, List.set_cons_succ, List.getElem_toArray, List.getElem_cons_zero, List.getElem_cons_succ])
  refine wpAnyH_take (i := 7) (v := ?va56) rfl (by kernel_rfl) (by kernel_rfl) (by kernel_rfl) (fun _ _ _ h => h) (.inl ⟨by rfl, ?hya56⟩) (by assumption) ?resta56
  case hya56 => (intro w hSw; (try dsimp only at hSw); go_simp; first | done | with_reducible rfl)
  (try simp only [Act.put, List.setIfInBounds_toArray, List.set_cons_zero, List.set_cons_succ, List.getElem_toArray, List.getElem_cons_zero, List.getElem_cons_succ])
  refine wpAnyH_take (i := 8) (v := ?va57) rfl (by kernel_rfl) (by kernel_rfl) (by kernel_rfl) (fun _ _ _ h => h) (.inl ⟨by rfl, ?hya57⟩) (by assumption) ?resta57
  case hya57 => (intro w hSw; (try dsimp only at hSw); go_simp; first | done | with_reducible rfl)
  (try simp only [Act.put, List.setIfInBounds_toArray, List.set_cons_zero, List.set_cons_succ, List.getElem_toArray, List.getElem_cons_zero, List.getElem_cons_succ])
  refine wpAnyH_ready (rs := [5]) (by kernel_rfl) (by simp) ?_
  refine AllReadyH.cons rfl (fun K hK => ?_) AllReadyH.nil
  rw [if_pos (by rfl)]
  go_simp
  refine hK.out _ _ ?_ (fun hHeldN => ?_)
  · exact trivial
  clear hK K hHeld
  have hHeld := hHeldN
  clear hHeldN
  (try simp only [Act.put, List.setIfInBounds_toArray, List.set_cons_zero, List.set_cons_succ, List.getElem_toArray, List.getElem_cons_zero, List.getElem_cons_succ])
  refine wpAnyH_take (i := 6) (v := ?va58) rfl (by kernel_rfl) (by kernel_rfl) (by kernel_rfl) (fun _ _ _ h => h) (.inl ⟨by rfl, ?hya58⟩) (by assumption) ?resta58
  case hya58 => (intro w hSw; (try dsimp only at hSw); go_simp; first | done | with_reducible rfl)
  (try simp only [Act.put, List.setIfInBounds_toArray, List.set_cons_zero, List.set_cons_succ, List.getElem_toArray, List.getElem_cons_zero, List.getElem_cons_succ])
  refine wpAnyH_take (i := 9) (v := ?va59) rfl (by kernel_rfl) (by kernel_rfl) (by kernel_rfl) (fun _ _ _ h => h) (.inl ⟨by rfl, ?hya59⟩) (by assumption) ?resta59
  case hya59 => (intro w hSw; (try dsimp only at hSw); go_simp; first | done | with_reducible rfl)
  (try simp only [Act.put, List.setIfInBounds_toArray, List.set_cons_zero, List.set_cons_succ, List.getElem_toArray, List.getElem_cons_zero, List.getElem_cons_succ])
  refine wpAnyH_ready (rs := [10]) (by kernel_rfl) (by simp) ?_
  refine AllReadyH.cons rfl (fun K hK => ?_) AllReadyH.nil
  rw [if_pos (by rfl)]
  go_simp
  refine hK.out _ _ ?_ (fun hHeldN => ?_)
  · exact trivial
  clear hK K hHeld
  have hHeld := hHeldN
  clear hHeldN
  (try simp only [Act.put, List.setIfInBounds_toArray, List.set_cons_zero, List.set_cons_succ, List.getElem_toArray, List.getElem_cons_zero, List.getElem_cons_succ])
  refine wpAnyH_done (by kernel_rfl) ?_ _
  rw [wrap_small hr]
  clear hHeld
  go_wp2_with fail
  go_end0
  exact ⟨rfl, rfl⟩

set_option maxRecDepth 100000 in
theorem call_6 (cb : Nat) (n : Int) (w : World) (hp : w.cell? ⟨cb, 12, none⟩ = some (.int .i64 0)) (hn : w.cell? ⟨cb, 20, none⟩ = some (.int .i64 n)) (hf : w.frozen? ⟨cb, 20, none⟩ = false) (hr : 0 ≤ n ∧ n < 1000) :
    Calls Try.prog 165 #[.pointer (some ⟨cb, 0, none⟩), .int .i64 6] w fun e w' => e = .returned (.tuple #[]) ∧ w' = (w.setCell ⟨cb, 20, none⟩ (.int .i64 (n + 1))).drew := by
  go_enter Try.func165, Try.ntmps165
  go_wp2_with fail
  refine wp_region_held_drew (S := (fun _ => True)) (by kernel_rfl) trivial (fun hHeld => ?_)
  refine wpAnyH_take (i := 0) (v := ?va61) rfl (by kernel_rfl) (by kernel_rfl) (by kernel_rfl) (fun _ _ _ h => h) (.inl ⟨by rfl, ?hya61⟩) (by assumption) ?resta61
  case hya61 => (intro w hSw; (try dsimp only at hSw); go_simp; first | done | with_reducible rfl)
  (try simp only [Act.put, List.setIfInBounds_toArray, List.set_cons_zero, List.set_cons_succ, List.getElem_toArray, List.getElem_cons_zero, List.getElem_cons_succ])
  refine wpAnyH_take (i := 1) (v := ?va62) rfl (by kernel_rfl) (by kernel_rfl) (by kernel_rfl) (fun _ _ _ h => h) (.inl ⟨by rfl, ?hya62⟩) (by assumption) ?resta62
  case hya62 => (intro w hSw; (try dsimp only at hSw); go_simp; first | done | with_reducible rfl)
  (try simp only [Act.put, List.setIfInBounds_toArray, List.set_cons_zero, List.set_cons_succ, List.getElem_toArray, List.getElem_cons_zero, List.getElem_cons_succ])
  refine wpAnyH_take (i := 2) (v := ?va63) rfl (by kernel_rfl) (by kernel_rfl) (by kernel_rfl) (fun _ _ _ h => h) (.inl ⟨by rfl, ?hya63⟩) (by assumption) ?resta63
  case hya63 => (intro w hSw; (try dsimp only at hSw); go_simp; first | done | with_reducible rfl)
  (try simp only [Act.put, List.setIfInBounds_toArray, List.set_cons_zero, List.set_cons_succ, List.getElem_toArray, List.getElem_cons_zero, List.getElem_cons_succ])
  refine wpAnyH_take (i := 3) (v := ?va64) rfl (by kernel_rfl) (by kernel_rfl) (by kernel_rfl) (fun _ _ _ h => h) (.inl ⟨by rfl, ?hya64⟩) (by assumption) ?resta64
  case hya64 => (intro w hSw; (try dsimp only at hSw); go_simp; first | done | with_reducible rfl)
  (try simp only [Act.put, List.setIfInBounds_toArray, List.set_cons_zero, List.set_cons_succ, List.getElem_toArray, List.getElem_cons_zero, List.getElem_cons_succ])
  refine wpAnyH_take (i := 4) (v := ?va65) rfl (by kernel_rfl) (by kernel_rfl) (by kernel_rfl) (fun _ _ _ h => h) (.inl ⟨by rfl, ?hya65⟩) (by assumption) ?resta65
  case hya65 => (intro w hSw; (try dsimp only at hSw); go_simp; first | done | with_reducible rfl)
  (try simp only [Act.put, List.setIfInBounds_toArray, List.set_cons_zero, List.set_cons_succ, List.getElem_toArray, List.getElem_cons_zero, List.getElem_cons_succ])
  refine wpAnyH_take (i := 7) (v := ?va66) rfl (by kernel_rfl) (by kernel_rfl) (by kernel_rfl) (fun _ _ _ h => h) (.inl ⟨by rfl, ?hya66⟩) (by assumption) ?resta66
  case hya66 => (intro w hSw; (try dsimp only at hSw); go_simp; first | done | with_reducible rfl)
  (try simp only [Act.put, List.setIfInBounds_toArray, List.set_cons_zero, List.set_cons_succ, List.getElem_toArray, List.getElem_cons_zero, List.getElem_cons_succ])
  refine wpAnyH_take (i := 8) (v := ?va67) rfl (by kernel_rfl) (by kernel_rfl) (by kernel_rfl) (fun _ _ _ h => h) (.inl ⟨by rfl, ?hya67⟩) (by assumption) ?resta67
  case hya67 => (intro w hSw; (try dsimp only at hSw); go_simp; first | done | with_reducible rfl)
  (try simp only [Act.put, List.setIfInBounds_toArray, List.set_cons_zero, List.set_cons_succ, List.getElem_toArray, List.getElem_cons_zero, List.getElem_cons_succ])
  refine wpAnyH_ready (rs := [5]) (by kernel_rfl) (by simp) ?_
  refine AllReadyH.cons rfl (fun K hK => ?_) AllReadyH.nil
  rw [if_pos (by rfl)]
  go_simp
  refine hK.out _ _ ?_ (fun hHeldN => ?_)
  · exact trivial
  clear hK K hHeld
  have hHeld := hHeldN
  clear hHeldN
  (try simp only [Act.put, List.setIfInBounds_toArray, List.set_cons_zero, List.set_cons_succ, List.getElem_toArray, List.getElem_cons_zero, List.getElem_cons_succ])
  refine wpAnyH_take (i := 6) (v := ?va68) rfl (by kernel_rfl) (by kernel_rfl) (by kernel_rfl) (fun _ _ _ h => h) (.inl ⟨by rfl, ?hya68⟩) (by assumption) ?resta68
  case hya68 => (intro w hSw; (try dsimp only at hSw); go_simp; first | done | with_reducible rfl)
  (try simp only [Act.put, List.setIfInBounds_toArray, List.set_cons_zero, List.set_cons_succ, List.getElem_toArray, List.getElem_cons_zero, List.getElem_cons_succ])
  refine wpAnyH_take (i := 9) (v := ?va69) rfl (by kernel_rfl) (by kernel_rfl) (by kernel_rfl) (fun _ _ _ h => h) (.inl ⟨by rfl, ?hya69⟩) (by assumption) ?resta69
  case hya69 => (intro w hSw; (try dsimp only at hSw); go_simp; first | done | with_reducible rfl)
  (try simp only [Act.put, List.setIfInBounds_toArray, List.set_cons_zero, List.set_cons_succ, List.getElem_toArray, List.getElem_cons_zero, List.getElem_cons_succ])
  refine wpAnyH_ready (rs := [10]) (by kernel_rfl) (by simp) ?_
  refine AllReadyH.cons rfl (fun K hK => ?_) AllReadyH.nil
  rw [if_pos (by rfl)]
  go_simp
  refine hK.out _ _ ?_ (fun hHeldN => ?_)
  · exact trivial
  clear hK K hHeld
  have hHeld := hHeldN
  clear hHeldN
  (try simp only [Act.put, List.setIfInBounds_toArray, List.set_cons_zero, List.set_cons_succ, List.getElem_toArray, List.getElem_cons_zero, List.getElem_cons_succ])
  refine wpAnyH_done (by kernel_rfl) ?_ _
  rw [wrap_small hr]
  clear hHeld
  go_wp2_with fail
  go_end0
  exact ⟨rfl, rfl⟩

set_option maxRecDepth 100000 in
theorem call_7 (cb : Nat) (n : Int) (w : World) (hp : w.cell? ⟨cb, 12, none⟩ = some (.int .i64 0)) (hn : w.cell? ⟨cb, 21, none⟩ = some (.int .i64 n)) (hf : w.frozen? ⟨cb, 21, none⟩ = false) (hr : 0 ≤ n ∧ n < 1000) :
    Calls Try.prog 165 #[.pointer (some ⟨cb, 0, none⟩), .int .i64 7] w fun e w' => e = .returned (.tuple #[]) ∧ w' = (w.setCell ⟨cb, 21, none⟩ (.int .i64 (n + 1))).drew := by
  go_enter Try.func165, Try.ntmps165
  go_wp2_with fail
  refine wp_region_held_drew (S := (fun _ => True)) (by kernel_rfl) trivial (fun hHeld => ?_)
  refine wpAnyH_take (i := 0) (v := ?va71) rfl (by kernel_rfl) (by kernel_rfl) (by kernel_rfl) (fun _ _ _ h => h) (.inl ⟨by rfl, ?hya71⟩) (by assumption) ?resta71
  case hya71 => (intro w hSw; (try dsimp only at hSw); go_simp; first | done | with_reducible rfl)
  (try simp only [Act.put, List.setIfInBounds_toArray, List.set_cons_zero, List.set_cons_succ, List.getElem_toArray, List.getElem_cons_zero, List.getElem_cons_succ])
  refine wpAnyH_take (i := 1) (v := ?va72) rfl (by kernel_rfl) (by kernel_rfl) (by kernel_rfl) (fun _ _ _ h => h) (.inl ⟨by rfl, ?hya72⟩) (by assumption) ?resta72
  case hya72 => (intro w hSw; (try dsimp only at hSw); go_simp; first | done | with_reducible rfl)
  (try simp only [Act.put, List.setIfInBounds_toArray, List.set_cons_zero, List.set_cons_succ, List.getElem_toArray, List.getElem_cons_zero, List.getElem_cons_succ])
  refine wpAnyH_take (i := 2) (v := ?va73) rfl (by kernel_rfl) (by kernel_rfl) (by kernel_rfl) (fun _ _ _ h => h) (.inl ⟨by rfl, ?hya73⟩) (by assumption) ?resta73
  case hya73 => (intro w hSw; (try dsimp only at hSw); go_simp; first | done | with_reducible rfl)
  (try simp only [Act.put, List.setIfInBounds_toArray, List.set_cons_zero, List.set_cons_succ, List.getElem_toArray, List.getElem_cons_zero, List.getElem_cons_succ])
  refine wpAnyH_take (i := 3) (v := ?va74) rfl (by kernel_rfl) (by kernel_rfl) (by kernel_rfl) (fun _ _ _ h => h) (.inl ⟨by rfl, ?hya74⟩) (by assumption) ?resta74
  case hya74 => (intro w hSw; (try dsimp only at hSw); go_simp; first | done | with_reducible rfl)
  (try simp only [Act.put, List.setIfInBounds_toArray, List.set_cons_zero, List.set_cons_succ, List.getElem_toArray, List.getElem_cons_zero, List.getElem_cons_succ])
  refine wpAnyH_take (i := 4) (v := ?va75) rfl (by kernel_rfl) (by kernel_rfl) (by kernel_rfl) (fun _ _ _ h => h) (.inl ⟨by rfl, ?hya75⟩) (by assumption) ?resta75
  case hya75 => (intro w hSw; (try dsimp only at hSw); go_simp; first | done | with_reducible rfl)
  (try simp only [Act.put, List.setIfInBounds_toArray, List.set_cons_zero, List.set_cons_succ, List.getElem_toArray, List.getElem_cons_zero, List.getElem_cons_succ])
  refine wpAnyH_take (i := 7) (v := ?va76) rfl (by kernel_rfl) (by kernel_rfl) (by kernel_rfl) (fun _ _ _ h => h) (.inl ⟨by rfl, ?hya76⟩) (by assumption) ?resta76
  case hya76 => (intro w hSw; (try dsimp only at hSw); go_simp; first | done | with_reducible rfl)
  (try simp only [Act.put, List.setIfInBounds_toArray, List.set_cons_zero, List.set_cons_succ, List.getElem_toArray, List.getElem_cons_zero, List.getElem_cons_succ])
  refine wpAnyH_take (i := 8) (v := ?va77) rfl (by kernel_rfl) (by kernel_rfl) (by kernel_rfl) (fun _ _ _ h => h) (.inl ⟨by rfl, ?hya77⟩) (by assumption) ?resta77
  case hya77 => (intro w hSw; (try dsimp only at hSw); go_simp; first | done | with_reducible rfl)
  (try simp only [Act.put, List.setIfInBounds_toArray, List.set_cons_zero, List.set_cons_succ, List.getElem_toArray, List.getElem_cons_zero, List.getElem_cons_succ])
  refine wpAnyH_ready (rs := [5]) (by kernel_rfl) (by simp) ?_
  refine AllReadyH.cons rfl (fun K hK => ?_) AllReadyH.nil
  rw [if_pos (by rfl)]
  go_simp
  refine hK.out _ _ ?_ (fun hHeldN => ?_)
  · exact trivial
  clear hK K hHeld
  have hHeld := hHeldN
  clear hHeldN
  (try simp only [Act.put, List.setIfInBounds_toArray, List.set_cons_zero, List.set_cons_succ, List.getElem_toArray, List.getElem_cons_zero, List.getElem_cons_succ])
  refine wpAnyH_take (i := 6) (v := ?va78) rfl (by kernel_rfl) (by kernel_rfl) (by kernel_rfl) (fun _ _ _ h => h) (.inl ⟨by rfl, ?hya78⟩) (by assumption) ?resta78
  case hya78 => (intro w hSw; (try dsimp only at hSw); go_simp; first | done | with_reducible rfl)
  (try simp only [Act.put, List.setIfInBounds_toArray, List.set_cons_zero, List.set_cons_succ, List.getElem_toArray, List.getElem_cons_zero, List.getElem_cons_succ])
  refine wpAnyH_take (i := 9) (v := ?va79) rfl (by kernel_rfl) (by kernel_rfl) (by kernel_rfl) (fun _ _ _ h => h) (.inl ⟨by rfl, ?hya79⟩) (by assumption) ?resta79
  case hya79 => (intro w hSw; (try dsimp only at hSw); go_simp; first | done | with_reducible rfl)
  (try simp only [Act.put, List.setIfInBounds_toArray, List.set_cons_zero, List.set_cons_succ, List.getElem_toArray, List.getElem_cons_zero, List.getElem_cons_succ])
  refine wpAnyH_ready (rs := [10]) (by kernel_rfl) (by simp) ?_
  refine AllReadyH.cons rfl (fun K hK => ?_) AllReadyH.nil
  rw [if_pos (by rfl)]
  go_simp
  refine hK.out _ _ ?_ (fun hHeldN => ?_)
  · exact trivial
  clear hK K hHeld
  have hHeld := hHeldN
  clear hHeldN
  (try simp only [Act.put, List.setIfInBounds_toArray, List.set_cons_zero, List.set_cons_succ, List.getElem_toArray, List.getElem_cons_zero, List.getElem_cons_succ])
  refine wpAnyH_done (by kernel_rfl) ?_ _
  rw [wrap_small hr]
  clear hHeld
  go_wp2_with fail
  go_end0
  exact ⟨rfl, rfl⟩

set_option maxRecDepth 100000 in
theorem call_8 (cb : Nat) (n : Int) (w : World) (hp : w.cell? ⟨cb, 12, none⟩ = some (.int .i64 0)) (hn : w.cell? ⟨cb, 22, none⟩ = some (.int .i64 n)) (hf : w.frozen? ⟨cb, 22, none⟩ = false) (hr : 0 ≤ n ∧ n < 1000) :
    Calls Try.prog 165 #[.pointer (some ⟨cb, 0, none⟩), .int .i64 8] w fun e w' => e = .returned (.tuple #[]) ∧ w' = (w.setCell ⟨cb, 22, none⟩ (.int .i64 (n + 1))).drew := by
  go_enter Try.func165, Try.ntmps165
  go_wp2_with fail
  refine wp_region_held_drew (S := (fun _ => True)) (by kernel_rfl) trivial (fun hHeld => ?_)
  refine wpAnyH_take (i := 0) (v := ?va81) rfl (by kernel_rfl) (by kernel_rfl) (by kernel_rfl) (fun _ _ _ h => h) (.inl ⟨by rfl, ?hya81⟩) (by assumption) ?resta81
  case hya81 => (intro w hSw; (try dsimp only at hSw); go_simp; first | done | with_reducible rfl)
  (try simp only [Act.put, List.setIfInBounds_toArray, List.set_cons_zero, List.set_cons_succ, List.getElem_toArray, List.getElem_cons_zero, List.getElem_cons_succ])
  refine wpAnyH_take (i := 1) (v := ?va82) rfl (by kernel_rfl) (by kernel_rfl) (by kernel_rfl) (fun _ _ _ h => h) (.inl ⟨by rfl, ?hya82⟩) (by assumption) ?resta82
  case hya82 => (intro w hSw; (try dsimp only at hSw); go_simp; first | done | with_reducible rfl)
  (try simp only [Act.put, List.setIfInBounds_toArray, List.set_cons_zero, List.set_cons_succ, List.getElem_toArray, List.getElem_cons_zero, List.getElem_cons_succ])
  refine wpAnyH_take (i := 2) (v := ?va83) rfl (by kernel_rfl) (by kernel_rfl) (by kernel_rfl) (fun _ _ _ h => h) (.inl ⟨by rfl, ?hya83⟩) (by assumption) ?resta83
  case hya83 => (intro w hSw; (try dsimp only at hSw); go_simp; first | done | with_reducible rfl)
  (try simp only [Act.put, List.setIfInBounds_toArray, List.set_cons_zero, List.set_cons_succ, List.getElem_toArray, List.getElem_cons_zero, List.getElem_cons_succ])
  refine wpAnyH_take (i := 3) (v := ?va84) rfl (by kernel_rfl) (by kernel_rfl) (by kernel_rfl) (fun _ _ _ h => h) (.inl ⟨by rfl, ?hya84⟩) (by assumption) ?resta84
  case hya84 => (intro w hSw; (try dsimp only at hSw); go_simp; first | done | with_reducible rfl)
  (try simp only [Act.put, List.setIfInBounds_toArray, List.set_cons_zero, List.set_cons_succ, List.getElem_toArray, List.getElem_cons_zero, List.getElem_cons_succ])
  refine wpAnyH_take (i := 4) (v := ?va85) rfl (by kernel_rfl) (by kernel_rfl) (by kernel_rfl) (fun _ _ _ h => h) (.inl ⟨by rfl, ?hya85⟩) (by assumption) ?resta85
  case hya85 => (intro w hSw; (try dsimp only at hSw); go_simp; first | done | with_reducible rfl)
  (try simp only [Act.put, List.setIfInBounds_toArray, List.set_cons_zero, List.set_cons_succ, List.getElem_toArray, List.getElem_cons_zero, List.getElem_cons_succ])
  refine wpAnyH_take (i := 7) (v := ?va86) rfl (by kernel_rfl) (by kernel_rfl) (by kernel_rfl) (fun _ _ _ h => h) (.inl ⟨by rfl, ?hya86⟩) (by assumption) ?resta86
  case hya86 => (intro w hSw; (try dsimp only at hSw); go_simp; first | done | with_reducible rfl)
  (try simp only [Act.put, List.setIfInBounds_toArray, List.set_cons_zero, List.set_cons_succ, List.getElem_toArray, List.getElem_cons_zero, List.getElem_cons_succ])
  refine wpAnyH_take (i := 8) (v := ?va87) rfl (by kernel_rfl) (by kernel_rfl) (by kernel_rfl) (fun _ _ _ h => h) (.inl ⟨by rfl, ?hya87⟩) (by assumption) ?resta87
  case hya87 => (intro w hSw; (try dsimp only at hSw); go_simp; first | done | with_reducible rfl)
  (try simp only [Act.put, List.setIfInBounds_toArray, List.set_cons_zero, List.set_cons_succ, List.getElem_toArray, List.getElem_cons_zero, List.getElem_cons_succ])
  refine wpAnyH_ready (rs := [5]) (by kernel_rfl) (by simp) ?_
  refine AllReadyH.cons rfl (fun K hK => ?_) AllReadyH.nil
  rw [if_pos (by rfl)]
  go_simp
  refine hK.out _ _ ?_ (fun hHeldN => ?_)
  · exact trivial
  clear hK K hHeld
  have hHeld := hHeldN
  clear hHeldN
  (try simp only [Act.put, List.setIfInBounds_toArray, List.set_cons_zero, List.set_cons_succ, List.getElem_toArray, List.getElem_cons_zero, List.getElem_cons_succ])
  refine wpAnyH_take (i := 6) (v := ?va88) rfl (by kernel_rfl) (by kernel_rfl) (by kernel_rfl) (fun _ _ _ h => h) (.inl ⟨by rfl, ?hya88⟩) (by assumption) ?resta88
  case hya88 => (intro w hSw; (try dsimp only at hSw); go_simp; first | done | with_reducible rfl)
  (try simp only [Act.put, List.setIfInBounds_toArray, List.set_cons_zero, List.set_cons_succ, List.getElem_toArray, List.getElem_cons_zero, List.getElem_cons_succ])
  refine wpAnyH_take (i := 9) (v := ?va89) rfl (by kernel_rfl) (by kernel_rfl) (by kernel_rfl) (fun _ _ _ h => h) (.inl ⟨by rfl, ?hya89⟩) (by assumption) ?resta89
  case hya89 => (intro w hSw; (try dsimp only at hSw); go_simp; first | done | with_reducible rfl)
  (try simp only [Act.put, List.setIfInBounds_toArray, List.set_cons_zero, List.set_cons_succ, List.getElem_toArray, List.getElem_cons_zero, List.getElem_cons_succ])
  refine wpAnyH_ready (rs := [10]) (by kernel_rfl) (by simp) ?_
  refine AllReadyH.cons rfl (fun K hK => ?_) AllReadyH.nil
  rw [if_pos (by rfl)]
  go_simp
  refine hK.out _ _ ?_ (fun hHeldN => ?_)
  · exact trivial
  clear hK K hHeld
  have hHeld := hHeldN
  clear hHeldN
  (try simp only [Act.put, List.setIfInBounds_toArray, List.set_cons_zero, List.set_cons_succ, List.getElem_toArray, List.getElem_cons_zero, List.getElem_cons_succ])
  refine wpAnyH_done (by kernel_rfl) ?_ _
  rw [wrap_small hr]
  clear hHeld
  go_wp2_with fail
  go_end0
  exact ⟨rfl, rfl⟩

/-- What stands behind an object, in plain. -/
structure CoreS where
  has : Value
  shape : Value
  id : Value
  fields : Value
  cls : Value
  version : Value
  keys : Value
  owner : ByteArray
  gives : Int
  loaded : Bool
  loads : Int
  wth : Value
  n5 : Int
  n6 : Int
  n7 : Int
  n8 : Int
def coreRow (c : CoreS) : Array Value := #[.int .i64 0, c.has, c.shape, c.id, c.fields, c.cls, c.version, c.keys, .string c.owner, .int .i64 c.gives, .bool c.loaded, .int .i64 c.loads, .int .i64 0, c.wth, .int .i64 0, .int .i64 0, .int .i64 0, .int .i64 0, .int .i64 0, .int .i64 c.n5, .int .i64 c.n6, .int .i64 c.n7, .int .i64 c.n8]
def CoreAt (w : World) (cb : Nat) (c : CoreS) : Prop := w.heap[cb]? = some (.cells (coreRow c) 84 (0, 0))
theorem CoreAt.cell {w : World} {cb : Nat} {c : CoreS} (h : CoreAt w cb c) {k : Nat} {v : Value} (hk : (coreRow c)[k]? = some v) : w.cell? ⟨cb, k, none⟩ = some v := by
  unfold CoreAt at h
  simp [World.cell?, h, hk]
theorem CoreAt.frozen {w : World} {cb : Nat} {c : CoreS} (h : CoreAt w cb c) (k : Nat) : w.frozen? ⟨cb, k, none⟩ = false := by
  unfold CoreAt at h
  simp [World.frozen?, h]
theorem CoreAt.set {w : World} {cb : Nat} {c d : CoreS} (h : CoreAt w cb c) (k : Nat) (v : Value) (hd : (coreRow c).setIfInBounds k v = coreRow d) : CoreAt (w.setCell ⟨cb, k, none⟩ v) cb d := by
  unfold CoreAt
  rw [← hd]
  exact setCell_block h k v
theorem CoreAt.but {w w' : World} {cb : Nat} {c : CoreS} (h : CoreAt w cb c) {S : Nat → Prop} (hb : But S w w') (hs : ¬ S cb) : CoreAt w' cb c :=
  (hb.block cb (Array.getElem?_eq_some_iff.1 h).1 hs).trans h
theorem CoreAt.drew {w : World} {cb : Nat} {c : CoreS} (h : CoreAt w cb c) : CoreAt w.drew cb c := h
theorem CoreAt.lt {w : World} {cb : Nat} {c : CoreS} (h : CoreAt w cb c) : cb < w.heap.size := (Array.getElem?_eq_some_iff.1 h).1
theorem cell_set_ne' {w : World} {g k j : Nat} {u : Value} (h : j ≠ k) : (w.setCell ⟨g, k, none⟩ u).cell? ⟨g, j, none⟩ = w.cell? ⟨g, j, none⟩ := World.cell?_setCell_other w _ _ _ (by intro e; injection e with _ e; exact h e.symm)
theorem set_but (w : World) (cb k : Nat) (v : Value) : But (· = cb) w (w.setCell ⟨cb, k, none⟩ v) := (But.refl (· = cb) w).setCell (p := ⟨cb, k, none⟩) (fun _ => rfl) v

set_option maxRecDepth 100000 in
theorem owner_said (cb : Nat) (c : CoreS) (w : World) (h : CoreAt w cb c) (hr : 0 ≤ c.n5 ∧ c.n5 < 1000) :
    Calls Try.prog 179 #[.agg #[.pointer (some ⟨cb, 0, none⟩)]] w fun e w' => e = .returned (.string c.owner) ∧ CoreAt w' cb { c with n5 := c.n5 + 1 } ∧ But (· = cb) w w' := by
  obtain ⟨w0, hw0⟩ : ∃ w0, w0 = w.alloc (.cells #[.pointer (some ⟨cb, 0, none⟩)] 197) := ⟨_, rfl⟩
  have hb0 : But (· = cb) w w0 := by rw [hw0]; exact (But.refl _ _).alloc _
  have h0 : CoreAt w0 cb c := by rw [hw0]; exact h.but (S := fun _ => False) ((But.refl _ _).alloc _) id
  have b0 : w0.heap[w.heap.size]? = some (.cells #[.pointer (some ⟨cb, 0, none⟩)] 197 (0, 0)) := by rw [hw0]; exact heap_alloc_new w _
  have hc := Lib.hid (call_5 cb c.n5 w0 (h0.cell rfl) (h0.cell rfl) (h0.frozen _) hr)
  have hne : ¬ w.heap.size = cb := by have := h.lt; omega
  have h1 : CoreAt ((w0.setCell ⟨cb, 19, none⟩ (.int .i64 (c.n5 + 1))).drew) cb { c with n5 := c.n5 + 1 } := (h0.set _ _ rfl).drew
  have hb1 : But (· = cb) w ((w0.setCell ⟨cb, 19, none⟩ (.int .i64 (c.n5 + 1))).drew) := (hb0.trans (set_but w0 cb 19 _)).drew
  have p1 : ((w0.setCell ⟨cb, 19, none⟩ (.int .i64 (c.n5 + 1))).drew).cell? ⟨w.heap.size, 0, none⟩ = some (.pointer (some ⟨cb, 0, none⟩)) := (setCell_far (w := w0) hne).trans (by simp [World.cell?, b0])
  have l1 : ((w0.setCell ⟨cb, 19, none⟩ (.int .i64 (c.n5 + 1))).drew).heap[w.heap.size]? = some (.cells #[.pointer (some ⟨cb, 0, none⟩)] 197 (0, 0)) := (Below.heap_setCell w0 _ _ _ hne).trans b0
  obtain ⟨w1, hw1⟩ : ∃ w1, w1 = ((w0.setCell ⟨cb, 19, none⟩ (.int .i64 (c.n5 + 1))).drew) := ⟨_, rfl⟩
  rw [← hw1] at hc h1 hb1 p1 l1
  have q1 := h1.cell (k := 8) (v := .string c.owner) rfl
  have hfin := Lib.hid (And.intro h1 hb1)
  clear h1 hb1
  clear h h0 hb0 hr l1
  go_enter Try.func179, Try.ntmps179
  go_wp2_with fail
  rw [← hw0]
  refine hc.out.mono ?_
  rintro e w1' ⟨rfl, rfl⟩
  clear hw1 hw0 hc
  go_wp2_with fail
  go_ret
  exact ⟨rfl, hfin.out⟩

set_option maxRecDepth 100000 in
theorem loaded_said (cb : Nat) (c : CoreS) (w : World) (h : CoreAt w cb c) (hr : 0 ≤ c.n7 ∧ c.n7 < 1000) :
    Calls Try.prog 181 #[.agg #[.pointer (some ⟨cb, 0, none⟩)]] w fun e w' => e = .returned (.bool c.loaded) ∧ CoreAt w' cb { c with n7 := c.n7 + 1 } ∧ But (· = cb) w w' := by
  obtain ⟨w0, hw0⟩ : ∃ w0, w0 = w.alloc (.cells #[.pointer (some ⟨cb, 0, none⟩)] 199) := ⟨_, rfl⟩
  have hb0 : But (· = cb) w w0 := by rw [hw0]; exact (But.refl _ _).alloc _
  have h0 : CoreAt w0 cb c := by rw [hw0]; exact h.but (S := fun _ => False) ((But.refl _ _).alloc _) id
  have b0 : w0.heap[w.heap.size]? = some (.cells #[.pointer (some ⟨cb, 0, none⟩)] 199 (0, 0)) := by rw [hw0]; exact heap_alloc_new w _
  have hc := Lib.hid (call_7 cb c.n7 w0 (h0.cell rfl) (h0.cell rfl) (h0.frozen _) hr)
  have hne : ¬ w.heap.size = cb := by have := h.lt; omega
  have h1 : CoreAt ((w0.setCell ⟨cb, 21, none⟩ (.int .i64 (c.n7 + 1))).drew) cb { c with n7 := c.n7 + 1 } := (h0.set _ _ rfl).drew
  have hb1 : But (· = cb) w ((w0.setCell ⟨cb, 21, none⟩ (.int .i64 (c.n7 + 1))).drew) := (hb0.trans (set_but w0 cb 21 _)).drew
  have p1 : ((w0.setCell ⟨cb, 21, none⟩ (.int .i64 (c.n7 + 1))).drew).cell? ⟨w.heap.size, 0, none⟩ = some (.pointer (some ⟨cb, 0, none⟩)) := (setCell_far (w := w0) hne).trans (by simp [World.cell?, b0])
  have l1 : ((w0.setCell ⟨cb, 21, none⟩ (.int .i64 (c.n7 + 1))).drew).heap[w.heap.size]? = some (.cells #[.pointer (some ⟨cb, 0, none⟩)] 199 (0, 0)) := (Below.heap_setCell w0 _ _ _ hne).trans b0
  obtain ⟨w1, hw1⟩ : ∃ w1, w1 = ((w0.setCell ⟨cb, 21, none⟩ (.int .i64 (c.n7 + 1))).drew) := ⟨_, rfl⟩
  rw [← hw1] at hc h1 hb1 p1 l1
  have q1 := h1.cell (k := 10) (v := .bool c.loaded) rfl
  have hfin := Lib.hid (And.intro h1 hb1)
  clear h1 hb1
  clear h h0 hb0 hr l1
  go_enter Try.func181, Try.ntmps181
  go_wp2_with fail
  rw [← hw0]
  refine hc.out.mono ?_
  rintro e w1' ⟨rfl, rfl⟩
  clear hw1 hw0 hc
  go_wp2_with fail
  go_ret
  exact ⟨rfl, hfin.out⟩

set_option maxRecDepth 100000 in
theorem gave_said (cb : Nat) (c : CoreS) (w : World) (to : ByteArray) (h : CoreAt w cb c) (hr : 0 ≤ c.n6 ∧ c.n6 < 1000) :
    Calls Try.prog 178 #[.agg #[.pointer (some ⟨cb, 0, none⟩)], .string to] w fun e w' => e = .returned (.int .i64 c.gives) ∧ CoreAt w' cb { c with n6 := c.n6 + 1, owner := if c.gives = 0 then to else c.owner } ∧ But (· = cb) w w' := by
  obtain ⟨w0, hw0⟩ : ∃ w0, w0 = w.alloc (.cells #[.pointer (some ⟨cb, 0, none⟩)] 197) := ⟨_, rfl⟩
  have hb0 : But (· = cb) w w0 := by rw [hw0]; exact (But.refl _ _).alloc _
  have h0 : CoreAt w0 cb c := by rw [hw0]; exact h.but (S := fun _ => False) ((But.refl _ _).alloc _) id
  have b0 : w0.heap[w.heap.size]? = some (.cells #[.pointer (some ⟨cb, 0, none⟩)] 197 (0, 0)) := by rw [hw0]; exact heap_alloc_new w _
  have hc := Lib.hid (call_6 cb c.n6 w0 (h0.cell rfl) (h0.cell rfl) (h0.frozen _) hr)
  have hne : ¬ w.heap.size = cb := by have := h.lt; omega
  have h1 : CoreAt ((w0.setCell ⟨cb, 20, none⟩ (.int .i64 (c.n6 + 1))).drew) cb { c with n6 := c.n6 + 1 } := (h0.set _ _ rfl).drew
  have hb1 : But (· = cb) w ((w0.setCell ⟨cb, 20, none⟩ (.int .i64 (c.n6 + 1))).drew) := (hb0.trans (set_but w0 cb 20 _)).drew
  have p1 : ((w0.setCell ⟨cb, 20, none⟩ (.int .i64 (c.n6 + 1))).drew).cell? ⟨w.heap.size, 0, none⟩ = some (.pointer (some ⟨cb, 0, none⟩)) := (setCell_far (w := w0) hne).trans (by simp [World.cell?, b0])
  have l1 : ((w0.setCell ⟨cb, 20, none⟩ (.int .i64 (c.n6 + 1))).drew).heap[w.heap.size]? = some (.cells #[.pointer (some ⟨cb, 0, none⟩)] 197 (0, 0)) := (Below.heap_setCell w0 _ _ _ hne).trans b0
  obtain ⟨w1, hw1⟩ : ∃ w1, w1 = ((w0.setCell ⟨cb, 20, none⟩ (.int .i64 (c.n6 + 1))).drew) := ⟨_, rfl⟩
  rw [← hw1] at hc h1 hb1 p1 l1
  have q1 := h1.cell (k := 9) (v := .int .i64 c.gives) rfl
  have q2 := h1.cell (k := 8) (v := .string c.owner) rfl
  have z2 := h1.frozen 8
  by_cases hg : c.gives = 0
  · have h2 : CoreAt (w1.setCell ⟨cb, 8, none⟩ (.string to)) cb { c with n6 := c.n6 + 1, owner := to } := h1.set _ _ rfl
    have hb2 : But (· = cb) w (w1.setCell ⟨cb, 8, none⟩ (.string to)) := hb1.trans (set_but w1 cb 8 _)
    have hfin := Lib.hid (And.intro h2 hb2)
    have p2 : (w1.setCell ⟨cb, 8, none⟩ (.string to)).cell? ⟨w.heap.size, 0, none⟩ = some (.pointer (some ⟨cb, 0, none⟩)) := (setCell_far hne).trans p1
    have q3 : (w1.setCell ⟨cb, 8, none⟩ (.string to)).cell? ⟨cb, 9, none⟩ = some (.int .i64 c.gives) := h2.cell rfl
    rw [if_pos hg]
    have hg2 : (c.gives == 0) = true := by simpa using hg
    clear h1 hb1 h2 hb2 hg
    clear h h0 hb0 hr l1
    go_enter Try.func178, Try.ntmps178
    go_wp2_with fail
    rw [← hw0]
    refine hc.out.mono ?_
    rintro e w1' ⟨rfl, rfl⟩
    clear hw1 hw0 hc
    go_wp2_with fail
    go_ret
    exact ⟨rfl, hfin.out⟩
  · have hfin := Lib.hid (And.intro h1 hb1)
    rw [if_neg hg]
    have hg2 : (c.gives == 0) = false := by simpa using hg
    clear h1 hb1 hg
    clear h h0 hb0 hr l1
    go_enter Try.func178, Try.ntmps178
    go_wp2_with fail
    rw [← hw0]
    refine hc.out.mono ?_
    rintro e w1' ⟨rfl, rfl⟩
    clear hw1 hw0 hc
    go_wp2_with fail
    go_ret
    exact ⟨rfl, hfin.out⟩

set_option maxRecDepth 100000 in
theorem load_said (cb : Nat) (c : CoreS) (w : World) (h : CoreAt w cb c) (hr : 0 ≤ c.n8 ∧ c.n8 < 1000) :
    Calls Try.prog 180 #[.agg #[.pointer (some ⟨cb, 0, none⟩)]] w fun e w' => e = .returned (.int .i64 c.loads) ∧ CoreAt w' cb { c with n8 := c.n8 + 1, loaded := c.loads == 0 } ∧ But (· = cb) w w' := by
  obtain ⟨w0, hw0⟩ : ∃ w0, w0 = w.alloc (.cells #[.pointer (some ⟨cb, 0, none⟩)] 199) := ⟨_, rfl⟩
  have hb0 : But (· = cb) w w0 := by rw [hw0]; exact (But.refl _ _).alloc _
  have h0 : CoreAt w0 cb c := by rw [hw0]; exact h.but (S := fun _ => False) ((But.refl _ _).alloc _) id
  have b0 : w0.heap[w.heap.size]? = some (.cells #[.pointer (some ⟨cb, 0, none⟩)] 199 (0, 0)) := by rw [hw0]; exact heap_alloc_new w _
  have hc := Lib.hid (call_8 cb c.n8 w0 (h0.cell rfl) (h0.cell rfl) (h0.frozen _) hr)
  have hne : ¬ w.heap.size = cb := by have := h.lt; omega
  have h1 : CoreAt ((w0.setCell ⟨cb, 22, none⟩ (.int .i64 (c.n8 + 1))).drew) cb { c with n8 := c.n8 + 1 } := (h0.set _ _ rfl).drew
  have hb1 : But (· = cb) w ((w0.setCell ⟨cb, 22, none⟩ (.int .i64 (c.n8 + 1))).drew) := (hb0.trans (set_but w0 cb 22 _)).drew
  have p1 : ((w0.setCell ⟨cb, 22, none⟩ (.int .i64 (c.n8 + 1))).drew).cell? ⟨w.heap.size, 0, none⟩ = some (.pointer (some ⟨cb, 0, none⟩)) := (setCell_far (w := w0) hne).trans (by simp [World.cell?, b0])
  have l1 : ((w0.setCell ⟨cb, 22, none⟩ (.int .i64 (c.n8 + 1))).drew).heap[w.heap.size]? = some (.cells #[.pointer (some ⟨cb, 0, none⟩)] 199 (0, 0)) := (Below.heap_setCell w0 _ _ _ hne).trans b0
  obtain ⟨w1, hw1⟩ : ∃ w1, w1 = ((w0.setCell ⟨cb, 22, none⟩ (.int .i64 (c.n8 + 1))).drew) := ⟨_, rfl⟩
  rw [← hw1] at hc h1 hb1 p1 l1
  have q1 := h1.cell (k := 11) (v := .int .i64 c.loads) rfl
  have q2 := h1.cell (k := 10) (v := .bool c.loaded) rfl
  have z2 := h1.frozen 10
  have h2 : CoreAt (w1.setCell ⟨cb, 10, none⟩ (.bool (c.loads == 0))) cb { c with n8 := c.n8 + 1, loaded := c.loads == 0 } := h1.set _ _ rfl
  have hb2 : But (· = cb) w (w1.setCell ⟨cb, 10, none⟩ (.bool (c.loads == 0))) := hb1.trans (set_but w1 cb 10 _)
  have hfin := Lib.hid (And.intro h2 hb2)
  have p2 : (w1.setCell ⟨cb, 10, none⟩ (.bool (c.loads == 0))).cell? ⟨w.heap.size, 0, none⟩ = some (.pointer (some ⟨cb, 0, none⟩)) := (setCell_far hne).trans p1
  have q3 : (w1.setCell ⟨cb, 10, none⟩ (.bool (c.loads == 0))).cell? ⟨cb, 11, none⟩ = some (.int .i64 c.loads) := h2.cell rfl
  clear h1 hb1 h2 hb2
  clear h h0 hb0 hr l1
  go_enter Try.func180, Try.ntmps180
  go_wp2_with fail
  rw [← hw0]
  refine hc.out.mono ?_
  rintro e w1' ⟨rfl, rfl⟩
  clear hw1 hw0 hc
  go_wp2_with fail
  refine wp_region_held_drew (S := (fun w' => w'.cell? ⟨w.heap.size, 0, none⟩ = some (.pointer (some ⟨cb, 0, none⟩)) ∧ w'.cell? ⟨cb, 11, none⟩ = some (.int .i64 c.loads))) (by kernel_rfl) ⟨p1, q1⟩ (fun hHeld => ?_)
  refine wpAnyH_take (i := 0) (v := ?vb1) rfl (by kernel_rfl) (by kernel_rfl) (by kernel_rfl) (fun _ _ _ h => h) (.inl ⟨by rfl, ?hyb1⟩) (by assumption) ?restb1
  case hyb1 => (intro w hSw; (try dsimp only at hSw); go_simp; first | done | with_reducible rfl)
  (try simp only [Act.put, List.setIfInBounds_toArray, List.set_cons_zero, List.set_cons_succ, List.getElem_toArray, List.getElem_cons_zero, List.getElem_cons_succ])
  refine wpAnyH_take (i := 1) (v := ?vb2) rfl (by kernel_rfl) (by kernel_rfl) (by kernel_rfl) (fun _ _ _ h => h) (.inl ⟨by rfl, ?hyb2⟩) (by assumption) ?restb2
  case hyb2 => (intro w hSw; (try dsimp only at hSw); go_simp; first | done | with_reducible rfl)
  (try simp only [Act.put, List.setIfInBounds_toArray, List.set_cons_zero, List.set_cons_succ, List.getElem_toArray, List.getElem_cons_zero, List.getElem_cons_succ])
  refine wpAnyH_take (i := 2) (v := ?vb3) rfl (by kernel_rfl) (by kernel_rfl) (by kernel_rfl) (fun _ _ _ h => h) (.inl ⟨by rfl, ?hyb3⟩) (by assumption) ?restb3
  case hyb3 => (intro w hSw; (try dsimp only at hSw); go_simp; first | done | with_reducible rfl)
  (try simp only [Act.put, List.setIfInBounds_toArray, List.set_cons_zero, List.set_cons_succ, List.getElem_toArray, List.getElem_cons_zero, List.getElem_cons_succ])
  refine wpAnyH_take (i := 3) (v := ?vb4) rfl (by kernel_rfl) (by kernel_rfl) (by kernel_rfl) (fun _ _ _ h => h) (.inl ⟨by rfl, ?hyb4⟩) (by assumption) ?restb4
  case hyb4 => (intro w hSw; (try dsimp only at hSw); go_simp; first | done | with_reducible rfl)
  (try simp only [Act.put, List.setIfInBounds_toArray, List.set_cons_zero, List.set_cons_succ, List.getElem_toArray, List.getElem_cons_zero, List.getElem_cons_succ])
  refine wpAnyH_take (i := 4) (v := ?vb5) rfl (by kernel_rfl) (by kernel_rfl) (by kernel_rfl) (fun _ _ _ h => h) (.inl ⟨by rfl, ?hyb5⟩) (by assumption) ?restb5
  case hyb5 => (intro w hSw; (try dsimp only at hSw); go_simp; first | done | with_reducible rfl)
  (try simp only [Act.put, List.setIfInBounds_toArray, List.set_cons_zero, List.set_cons_succ, List.getElem_toArray, List.getElem_cons_zero, List.getElem_cons_succ])
  refine wpAnyH_take (i := 5) (v := ?vb6) rfl (by kernel_rfl) (by kernel_rfl) (by kernel_rfl) (fun _ _ _ h => h) (.inl ⟨by rfl, ?hyb6⟩) (by assumption) ?restb6
  case hyb6 => (intro w hSw; (try dsimp only at hSw); go_simp; first | done | with_reducible rfl)
  (try simp only [Act.put, List.setIfInBounds_toArray, List.set_cons_zero, List.set_cons_succ, List.getElem_toArray, List.getElem_cons_zero, List.getElem_cons_succ])
  refine wpAnyH_take (i := 6) (v := ?vb7) rfl (by kernel_rfl) (by kernel_rfl) (by kernel_rfl) (fun _ _ _ h => h) (.inl ⟨by rfl, ?hyb7⟩) (by assumption) ?restb7
  case hyb7 => (intro w hSw; (try dsimp only at hSw); go_simp; first | done | with_reducible rfl)
  (try simp only [Act.put, List.setIfInBounds_toArray, List.set_cons_zero, List.set_cons_succ, List.getElem_toArray, List.getElem_cons_zero, List.getElem_cons_succ])
  refine wpAnyH_take (i := 7) (v := ?vb8) rfl (by kernel_rfl) (by kernel_rfl) (by kernel_rfl) (fun _ _ _ h => h) (.inl ⟨by rfl, ?hyb8⟩) (by assumption) ?restb8
  case hyb8 => (intro w hSw; (try dsimp only at hSw); go_simp; first | done | with_reducible rfl)
  (try simp only [Act.put, List.setIfInBounds_toArray, List.set_cons_zero, List.set_cons_succ, List.getElem_toArray, List.getElem_cons_zero, List.getElem_cons_succ])
  refine wpAnyH_take (i := 8) (v := ?vb9) rfl (by kernel_rfl) (by kernel_rfl) (by kernel_rfl) (fun _ _ _ h => h) (.inl ⟨by rfl, ?hyb9⟩) (by assumption) ?restb9
  case hyb9 => (intro w hSw; (try dsimp only at hSw); go_simp; first | done | with_reducible rfl)
  (try simp only [Act.put, List.setIfInBounds_toArray, List.set_cons_zero, List.set_cons_succ, List.getElem_toArray, List.getElem_cons_zero, List.getElem_cons_succ])
  refine wpAnyH_take (i := 9) (v := ?vb10) rfl (by kernel_rfl) (by kernel_rfl) (by kernel_rfl) (fun _ _ _ h => h) (.inl ⟨by rfl, ?hyb10⟩) (by assumption) ?restb10
  case hyb10 => (intro w hSw; (try dsimp only at hSw); go_simp; first | done | with_reducible rfl)
  (try simp only [Act.put, List.setIfInBounds_toArray, List.set_cons_zero, List.set_cons_succ, List.getElem_toArray, List.getElem_cons_zero, List.getElem_cons_succ])
  refine wpAnyH_take (i := 10) (v := ?vb11) rfl (by kernel_rfl) (by kernel_rfl) (by kernel_rfl) (fun _ _ _ h => h) (.inl ⟨by rfl, ?hyb11⟩) (by assumption) ?restb11
  case hyb11 => (intro w hSw; (try dsimp only at hSw); go_simp; first | done | with_reducible rfl)
  (try simp only [Act.put, List.setIfInBounds_toArray, List.set_cons_zero, List.set_cons_succ, List.getElem_toArray, List.getElem_cons_zero, List.getElem_cons_succ])
  refine wpAnyH_take (i := 11) (v := ?vb12) rfl (by kernel_rfl) (by kernel_rfl) (by kernel_rfl) (fun _ _ _ h => h) (.inl ⟨by rfl, ?hyb12⟩) (by assumption) ?restb12
  case hyb12 => (intro w hSw; (try dsimp only at hSw); go_simp; first | done | with_reducible rfl)
  (try simp only [Act.put, List.setIfInBounds_toArray, List.set_cons_zero, List.set_cons_succ, List.getElem_toArray, List.getElem_cons_zero, List.getElem_cons_succ])
  refine wpAnyH_ready (rs := [12]) (by kernel_rfl) (by simp) ?_
  refine AllReadyH.cons rfl (fun K hK => ?_) AllReadyH.nil
  rw [if_pos (by rfl)]
  go_simp
  refine hK.out _ _ ?_ (fun hHeldN => ?_)
  · exact ⟨(setCell_far hne).trans p1, (cell_set_ne' (by decide)).trans q1⟩
  clear hK K hHeld
  have hHeld := hHeldN
  clear hHeldN
  (try simp only [Act.put, List.setIfInBounds_toArray, List.set_cons_zero, List.set_cons_succ, List.getElem_toArray, List.getElem_cons_zero, List.getElem_cons_succ])
  refine wpAnyH_done (by kernel_rfl) ?_ _
  clear hHeld
  go_wp2_with fail
  go_ret
  exact ⟨rfl, hfin.out.1.drew, hfin.out.2.drew⟩

end Go.Proofs.Ytpcbdjfonmohaaa
