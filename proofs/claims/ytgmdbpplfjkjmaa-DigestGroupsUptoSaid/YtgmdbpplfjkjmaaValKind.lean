/- The walk of value.kind: the number of a value's kind. -/
import Derived.Test.YtgmdbpplfjkjmaaVal
namespace Go.Proofs.Ytgmdbpplfjkjmaa
open Go.RowKit
set_option linter.unusedVariables false
set_option linter.unusedSimpArgs false

/-- A value's kind, by the dynamic type. -/
def kindOf (u : TypeId) (v : Value) : Int :=
  if u = 4 then 2 else if u = 2 then 3 else if u = 25 then 4 else if u = 9 then 5 else if u = 26 then 6 else if u = 28 then 7 else
  if u = 128 then 8 else if u = 130 then 9 else if u = 132 then (match v with | .pointer none => 11 | _ => 10) else 0

theorem kind_nil (w : World) : Calls Try.prog 227 #[.nilIface] w fun e w' => e = .returned (.int .i64 1) ∧ w = w' := by
  go_enter Try.func227, Try.ntmps227
  go_wp2
  go_ret
  exact ⟨rfl, rfl⟩

set_option maxRecDepth 100000 in
theorem kind_any (u : TypeId) (v : Value) (w : World) (h : u ≠ 132) : Calls Try.prog 227 #[.iface u v] w fun e w' => e = .returned (.int .i64 (kindOf u v)) ∧ w = w' := by
  go_enter Try.func227, Try.ntmps227
  go_wp2
  all_goals go_ret
  all_goals exact ⟨ret_int (by simp [kindOf, *]), rfl⟩

theorem kind_rec (a : Addr) (w : World) : Calls Try.prog 227 #[.iface 132 (.pointer (some a))] w fun e w' => e = .returned (.int .i64 10) ∧ w = w' := by
  go_enter Try.func227, Try.ntmps227
  go_wp2
  go_ret
  exact ⟨rfl, rfl⟩
theorem kind_nothing (w : World) : Calls Try.prog 227 #[.iface 132 (.pointer none)] w fun e w' => e = .returned (.int .i64 11) ∧ w = w' := by
  go_enter Try.func227, Try.ntmps227
  go_wp2
  go_ret
  exact ⟨rfl, rfl⟩

theorem kind_val {w : World} {v : Val} {x : Value} {fs : List Nat} (h : VRep w v x fs) (W : World) : Calls Try.prog 227 #[x] W fun e w' => e = .returned (.int .i64 (kindV v)) ∧ W = w' := by
  cases v <;> simp only [VRep] at h
  case nil => obtain ⟨rfl, _⟩ := h; exact kind_nil W
  case bytes => obtain ⟨_, rfl, _⟩ := h; exact kind_any _ _ W (by decide)
  case list => obtain ⟨_, _, _, rfl, _⟩ := h; exact kind_any _ _ W (by decide)
  case dict => obtain ⟨_, _, _, rfl, _⟩ := h; exact kind_any _ _ W (by decide)
  case record => obtain ⟨_, _, _, _, rfl, _⟩ := h; exact kind_rec _ W
  case nothing => obtain ⟨rfl, _⟩ := h; exact kind_nothing W
  case alien u =>
    obtain ⟨y, rfl, hk, _⟩ := h
    obtain ⟨h1, h2, h3, h4, h5, h6, h7, h8, h9⟩ := kinded_no hk
    exact (kind_any u y W h9).mono fun e w' ⟨he, hw⟩ => ⟨by rw [he]; exact ret_int (by simp [kindOf, kindV, *]), hw⟩
  all_goals obtain ⟨rfl, _⟩ := h; exact kind_any _ _ W (by decide)
end Go.Proofs.Ytgmdbpplfjkjmaa
