/- tenonmake's value and pointer; Object of each set of abilities. -/
import Derived.Test.YtpcbdjfonmohaaaMadeObj
namespace Go.Proofs.Ytpcbdjfonmohaaa
open Go.RowKit
set_option linter.unusedVariables false
set_option linter.unusedSimpArgs false

set_option maxRecDepth 100000 in
theorem value_4 (cb : Nat) (w : World) (h : w.cell? ⟨cb, 1, none⟩ = some (.int .i64 4)) : Calls Try.prog 111 #[.pointer (some ⟨cb, 0, none⟩)] w fun e w' => e = .returned (.iface 260 (.agg #[.pointer (some ⟨cb, 0, none⟩), .pointer (some ⟨cb, 0, none⟩)])) ∧ w' = w := by
  go_enter Try.func111, Try.ntmps111
  go_wp2_with fail
  go_ret
  exact ⟨rfl, rfl⟩
set_option maxRecDepth 100000 in
theorem pointer_4 (cb : Nat) (w : World) (h : w.cell? ⟨cb, 1, none⟩ = some (.int .i64 4)) : Calls Try.prog 112 #[.pointer (some ⟨cb, 0, none⟩)] w fun e w' => e = .returned (.iface 239 (.pointer (some ⟨w.heap.size, 0, none⟩))) ∧ w' = w.alloc (.cells #[.pointer (some ⟨cb, 0, none⟩), .pointer (some ⟨cb, 0, none⟩)] 260) := by
  go_enter Try.func112, Try.ntmps112
  go_wp2_with fail
  go_ret
  exact ⟨rfl, rfl⟩
set_option maxRecDepth 100000 in
theorem value_5 (cb : Nat) (w : World) (h : w.cell? ⟨cb, 1, none⟩ = some (.int .i64 5)) : Calls Try.prog 111 #[.pointer (some ⟨cb, 0, none⟩)] w fun e w' => e = .returned (.iface 262 (.agg #[.pointer (some ⟨cb, 0, none⟩), .pointer (some ⟨cb, 0, none⟩), .pointer (some ⟨cb, 0, none⟩)])) ∧ w' = w := by
  go_enter Try.func111, Try.ntmps111
  go_wp2_with fail
  go_ret
  exact ⟨rfl, rfl⟩
set_option maxRecDepth 100000 in
theorem pointer_5 (cb : Nat) (w : World) (h : w.cell? ⟨cb, 1, none⟩ = some (.int .i64 5)) : Calls Try.prog 112 #[.pointer (some ⟨cb, 0, none⟩)] w fun e w' => e = .returned (.iface 240 (.pointer (some ⟨w.heap.size, 0, none⟩))) ∧ w' = w.alloc (.cells #[.pointer (some ⟨cb, 0, none⟩), .pointer (some ⟨cb, 0, none⟩), .pointer (some ⟨cb, 0, none⟩)] 262) := by
  go_enter Try.func112, Try.ntmps112
  go_wp2_with fail
  go_ret
  exact ⟨rfl, rfl⟩
set_option maxRecDepth 100000 in
theorem value_6 (cb : Nat) (w : World) (h : w.cell? ⟨cb, 1, none⟩ = some (.int .i64 6)) : Calls Try.prog 111 #[.pointer (some ⟨cb, 0, none⟩)] w fun e w' => e = .returned (.iface 264 (.agg #[.pointer (some ⟨cb, 0, none⟩), .pointer (some ⟨cb, 0, none⟩), .pointer (some ⟨cb, 0, none⟩)])) ∧ w' = w := by
  go_enter Try.func111, Try.ntmps111
  go_wp2_with fail
  go_ret
  exact ⟨rfl, rfl⟩
set_option maxRecDepth 100000 in
theorem pointer_6 (cb : Nat) (w : World) (h : w.cell? ⟨cb, 1, none⟩ = some (.int .i64 6)) : Calls Try.prog 112 #[.pointer (some ⟨cb, 0, none⟩)] w fun e w' => e = .returned (.iface 241 (.pointer (some ⟨w.heap.size, 0, none⟩))) ∧ w' = w.alloc (.cells #[.pointer (some ⟨cb, 0, none⟩), .pointer (some ⟨cb, 0, none⟩), .pointer (some ⟨cb, 0, none⟩)] 264) := by
  go_enter Try.func112, Try.ntmps112
  go_wp2_with fail
  go_ret
  exact ⟨rfl, rfl⟩
set_option maxRecDepth 100000 in
theorem value_7 (cb : Nat) (w : World) (h : w.cell? ⟨cb, 1, none⟩ = some (.int .i64 7)) : Calls Try.prog 111 #[.pointer (some ⟨cb, 0, none⟩)] w fun e w' => e = .returned (.iface 266 (.agg #[.pointer (some ⟨cb, 0, none⟩), .pointer (some ⟨cb, 0, none⟩), .pointer (some ⟨cb, 0, none⟩), .pointer (some ⟨cb, 0, none⟩)])) ∧ w' = w := by
  go_enter Try.func111, Try.ntmps111
  go_wp2_with fail
  go_ret
  exact ⟨rfl, rfl⟩
set_option maxRecDepth 100000 in
theorem pointer_7 (cb : Nat) (w : World) (h : w.cell? ⟨cb, 1, none⟩ = some (.int .i64 7)) : Calls Try.prog 112 #[.pointer (some ⟨cb, 0, none⟩)] w fun e w' => e = .returned (.iface 242 (.pointer (some ⟨w.heap.size, 0, none⟩))) ∧ w' = w.alloc (.cells #[.pointer (some ⟨cb, 0, none⟩), .pointer (some ⟨cb, 0, none⟩), .pointer (some ⟨cb, 0, none⟩), .pointer (some ⟨cb, 0, none⟩)] 266) := by
  go_enter Try.func112, Try.ntmps112
  go_wp2_with fail
  go_ret
  exact ⟨rfl, rfl⟩
set_option maxRecDepth 100000 in
theorem value_8 (cb : Nat) (w : World) (h : w.cell? ⟨cb, 1, none⟩ = some (.int .i64 8)) : Calls Try.prog 111 #[.pointer (some ⟨cb, 0, none⟩)] w fun e w' => e = .returned (.iface 268 (.agg #[.pointer (some ⟨cb, 0, none⟩), .pointer (some ⟨cb, 0, none⟩)])) ∧ w' = w := by
  go_enter Try.func111, Try.ntmps111
  go_wp2_with fail
  go_ret
  exact ⟨rfl, rfl⟩
set_option maxRecDepth 100000 in
theorem pointer_8 (cb : Nat) (w : World) (h : w.cell? ⟨cb, 1, none⟩ = some (.int .i64 8)) : Calls Try.prog 112 #[.pointer (some ⟨cb, 0, none⟩)] w fun e w' => e = .returned (.iface 243 (.pointer (some ⟨w.heap.size, 0, none⟩))) ∧ w' = w.alloc (.cells #[.pointer (some ⟨cb, 0, none⟩), .pointer (some ⟨cb, 0, none⟩)] 268) := by
  go_enter Try.func112, Try.ntmps112
  go_wp2_with fail
  go_ret
  exact ⟨rfl, rfl⟩
set_option maxRecDepth 100000 in
theorem value_9 (cb : Nat) (w : World) (h : w.cell? ⟨cb, 1, none⟩ = some (.int .i64 9)) : Calls Try.prog 111 #[.pointer (some ⟨cb, 0, none⟩)] w fun e w' => e = .returned (.iface 270 (.agg #[.pointer (some ⟨cb, 0, none⟩), .pointer (some ⟨cb, 0, none⟩), .pointer (some ⟨cb, 0, none⟩)])) ∧ w' = w := by
  go_enter Try.func111, Try.ntmps111
  go_wp2_with fail
  go_ret
  exact ⟨rfl, rfl⟩
set_option maxRecDepth 100000 in
theorem pointer_9 (cb : Nat) (w : World) (h : w.cell? ⟨cb, 1, none⟩ = some (.int .i64 9)) : Calls Try.prog 112 #[.pointer (some ⟨cb, 0, none⟩)] w fun e w' => e = .returned (.iface 244 (.pointer (some ⟨w.heap.size, 0, none⟩))) ∧ w' = w.alloc (.cells #[.pointer (some ⟨cb, 0, none⟩), .pointer (some ⟨cb, 0, none⟩), .pointer (some ⟨cb, 0, none⟩)] 270) := by
  go_enter Try.func112, Try.ntmps112
  go_wp2_with fail
  go_ret
  exact ⟨rfl, rfl⟩
set_option maxRecDepth 100000 in
theorem value_10 (cb : Nat) (w : World) (h : w.cell? ⟨cb, 1, none⟩ = some (.int .i64 10)) : Calls Try.prog 111 #[.pointer (some ⟨cb, 0, none⟩)] w fun e w' => e = .returned (.iface 272 (.agg #[.pointer (some ⟨cb, 0, none⟩), .pointer (some ⟨cb, 0, none⟩), .pointer (some ⟨cb, 0, none⟩)])) ∧ w' = w := by
  go_enter Try.func111, Try.ntmps111
  go_wp2_with fail
  go_ret
  exact ⟨rfl, rfl⟩
set_option maxRecDepth 100000 in
theorem pointer_10 (cb : Nat) (w : World) (h : w.cell? ⟨cb, 1, none⟩ = some (.int .i64 10)) : Calls Try.prog 112 #[.pointer (some ⟨cb, 0, none⟩)] w fun e w' => e = .returned (.iface 245 (.pointer (some ⟨w.heap.size, 0, none⟩))) ∧ w' = w.alloc (.cells #[.pointer (some ⟨cb, 0, none⟩), .pointer (some ⟨cb, 0, none⟩), .pointer (some ⟨cb, 0, none⟩)] 272) := by
  go_enter Try.func112, Try.ntmps112
  go_wp2_with fail
  go_ret
  exact ⟨rfl, rfl⟩
set_option maxRecDepth 100000 in
theorem value_11 (cb : Nat) (w : World) (h : w.cell? ⟨cb, 1, none⟩ = some (.int .i64 11)) : Calls Try.prog 111 #[.pointer (some ⟨cb, 0, none⟩)] w fun e w' => e = .returned (.iface 274 (.agg #[.pointer (some ⟨cb, 0, none⟩), .pointer (some ⟨cb, 0, none⟩), .pointer (some ⟨cb, 0, none⟩), .pointer (some ⟨cb, 0, none⟩)])) ∧ w' = w := by
  go_enter Try.func111, Try.ntmps111
  go_wp2_with fail
  go_ret
  exact ⟨rfl, rfl⟩
set_option maxRecDepth 100000 in
theorem pointer_11 (cb : Nat) (w : World) (h : w.cell? ⟨cb, 1, none⟩ = some (.int .i64 11)) : Calls Try.prog 112 #[.pointer (some ⟨cb, 0, none⟩)] w fun e w' => e = .returned (.iface 246 (.pointer (some ⟨w.heap.size, 0, none⟩))) ∧ w' = w.alloc (.cells #[.pointer (some ⟨cb, 0, none⟩), .pointer (some ⟨cb, 0, none⟩), .pointer (some ⟨cb, 0, none⟩), .pointer (some ⟨cb, 0, none⟩)] 274) := by
  go_enter Try.func112, Try.ntmps112
  go_wp2_with fail
  go_ret
  exact ⟨rfl, rfl⟩
set_option maxRecDepth 100000 in
theorem value_12 (cb : Nat) (w : World) (h : w.cell? ⟨cb, 1, none⟩ = some (.int .i64 12)) : Calls Try.prog 111 #[.pointer (some ⟨cb, 0, none⟩)] w fun e w' => e = .returned (.iface 276 (.agg #[.pointer (some ⟨cb, 0, none⟩), .pointer (some ⟨cb, 0, none⟩), .pointer (some ⟨cb, 0, none⟩)])) ∧ w' = w := by
  go_enter Try.func111, Try.ntmps111
  go_wp2_with fail
  go_ret
  exact ⟨rfl, rfl⟩
set_option maxRecDepth 100000 in
theorem pointer_12 (cb : Nat) (w : World) (h : w.cell? ⟨cb, 1, none⟩ = some (.int .i64 12)) : Calls Try.prog 112 #[.pointer (some ⟨cb, 0, none⟩)] w fun e w' => e = .returned (.iface 247 (.pointer (some ⟨w.heap.size, 0, none⟩))) ∧ w' = w.alloc (.cells #[.pointer (some ⟨cb, 0, none⟩), .pointer (some ⟨cb, 0, none⟩), .pointer (some ⟨cb, 0, none⟩)] 276) := by
  go_enter Try.func112, Try.ntmps112
  go_wp2_with fail
  go_ret
  exact ⟨rfl, rfl⟩
set_option maxRecDepth 100000 in
theorem value_13 (cb : Nat) (w : World) (h : w.cell? ⟨cb, 1, none⟩ = some (.int .i64 13)) : Calls Try.prog 111 #[.pointer (some ⟨cb, 0, none⟩)] w fun e w' => e = .returned (.iface 278 (.agg #[.pointer (some ⟨cb, 0, none⟩), .pointer (some ⟨cb, 0, none⟩), .pointer (some ⟨cb, 0, none⟩), .pointer (some ⟨cb, 0, none⟩)])) ∧ w' = w := by
  go_enter Try.func111, Try.ntmps111
  go_wp2_with fail
  go_ret
  exact ⟨rfl, rfl⟩
set_option maxRecDepth 100000 in
theorem pointer_13 (cb : Nat) (w : World) (h : w.cell? ⟨cb, 1, none⟩ = some (.int .i64 13)) : Calls Try.prog 112 #[.pointer (some ⟨cb, 0, none⟩)] w fun e w' => e = .returned (.iface 248 (.pointer (some ⟨w.heap.size, 0, none⟩))) ∧ w' = w.alloc (.cells #[.pointer (some ⟨cb, 0, none⟩), .pointer (some ⟨cb, 0, none⟩), .pointer (some ⟨cb, 0, none⟩), .pointer (some ⟨cb, 0, none⟩)] 278) := by
  go_enter Try.func112, Try.ntmps112
  go_wp2_with fail
  go_ret
  exact ⟨rfl, rfl⟩
set_option maxRecDepth 100000 in
theorem value_14 (cb : Nat) (w : World) (h : w.cell? ⟨cb, 1, none⟩ = some (.int .i64 14)) : Calls Try.prog 111 #[.pointer (some ⟨cb, 0, none⟩)] w fun e w' => e = .returned (.iface 280 (.agg #[.pointer (some ⟨cb, 0, none⟩), .pointer (some ⟨cb, 0, none⟩), .pointer (some ⟨cb, 0, none⟩), .pointer (some ⟨cb, 0, none⟩)])) ∧ w' = w := by
  go_enter Try.func111, Try.ntmps111
  go_wp2_with fail
  go_ret
  exact ⟨rfl, rfl⟩
set_option maxRecDepth 100000 in
theorem pointer_14 (cb : Nat) (w : World) (h : w.cell? ⟨cb, 1, none⟩ = some (.int .i64 14)) : Calls Try.prog 112 #[.pointer (some ⟨cb, 0, none⟩)] w fun e w' => e = .returned (.iface 249 (.pointer (some ⟨w.heap.size, 0, none⟩))) ∧ w' = w.alloc (.cells #[.pointer (some ⟨cb, 0, none⟩), .pointer (some ⟨cb, 0, none⟩), .pointer (some ⟨cb, 0, none⟩), .pointer (some ⟨cb, 0, none⟩)] 280) := by
  go_enter Try.func112, Try.ntmps112
  go_wp2_with fail
  go_ret
  exact ⟨rfl, rfl⟩
set_option maxRecDepth 100000 in
theorem value_15 (cb : Nat) (w : World) (h : w.cell? ⟨cb, 1, none⟩ = some (.int .i64 15)) : Calls Try.prog 111 #[.pointer (some ⟨cb, 0, none⟩)] w fun e w' => e = .returned (.iface 201 (.agg #[.pointer (some ⟨cb, 0, none⟩), .pointer (some ⟨cb, 0, none⟩), .pointer (some ⟨cb, 0, none⟩), .pointer (some ⟨cb, 0, none⟩), .pointer (some ⟨cb, 0, none⟩)])) ∧ w' = w := by
  go_enter Try.func111, Try.ntmps111
  go_wp2_with fail
  go_ret
  exact ⟨rfl, rfl⟩
set_option maxRecDepth 100000 in
theorem pointer_15 (cb : Nat) (w : World) (h : w.cell? ⟨cb, 1, none⟩ = some (.int .i64 15)) : Calls Try.prog 112 #[.pointer (some ⟨cb, 0, none⟩)] w fun e w' => e = .returned (.iface 250 (.pointer (some ⟨w.heap.size, 0, none⟩))) ∧ w' = w.alloc (.cells #[.pointer (some ⟨cb, 0, none⟩), .pointer (some ⟨cb, 0, none⟩), .pointer (some ⟨cb, 0, none⟩), .pointer (some ⟨cb, 0, none⟩), .pointer (some ⟨cb, 0, none⟩)] 201) := by
  go_enter Try.func112, Try.ntmps112
  go_wp2_with fail
  go_ret
  exact ⟨rfl, rfl⟩
section
variable (id ve gv ld wi : Int) (fo ko : Option Addr) (fl fc kl kc : Nat) (cl ow : ByteArray) (lo : Bool) (w : World)
set_option maxRecDepth 100000 in
theorem object_loose : Calls Try.prog 84 #[.agg #[.int .i64 0, .int .i64 15, .int .i64 2, .int .u64 id, .slice fo fl fc, .string cl, .int .i64 ve, .slice ko kl kc, .string ow, .int .i64 gv, .bool lo, .int .i64 ld, .int .i64 0, .int .i64 wi]] w (ObjEnd true true ⟨.int .i64 15, .int .i64 2, .int .u64 id, .slice fo fl fc, .string cl, .int .i64 ve, .slice ko kl kc, ow, gv, lo, ld, .int .i64 wi, 0, 0, 0, 0⟩ w) := by
  have hla := loose_assert
  have hvl := Lib.hid value_15
  go_enter Try.func84, Try.ntmps84
  go_wp2_with fail
  refine (hvl.out (w.heap.size + 1) _ (by simp [go_sem])).mono ?_
  rintro e w' ⟨rfl, rfl⟩
  go_wp2_with fail
  go_ret2
  refine ⟨_, _, _, rfl, (Below.heap_alloc _ _ _ (by simp)).trans ((Below.heap_alloc _ _ _ (by simp)).trans (heap_alloc_at _ (by simp))), fun _ => owned_loose _ _ _ _, fun _ => lazy_loose _ _ _ _, by omega, ((two_allocs _ _ _).alloc (by simp; omega) _).alloc (by simp; omega) _⟩
end
theorem kind_4 : KindOf 4 true false 260 239 (fun cb => #[.pointer (some ⟨cb, 0, none⟩), .pointer (some ⟨cb, 0, none⟩)]) :=
  ⟨value_4, pointer_4, fun _ => owned_value_4, nofun, fun _ => owned_pointer_4, nofun, by decide⟩
theorem kind_5 : KindOf 5 true false 262 240 (fun cb => #[.pointer (some ⟨cb, 0, none⟩), .pointer (some ⟨cb, 0, none⟩), .pointer (some ⟨cb, 0, none⟩)]) :=
  ⟨value_5, pointer_5, fun _ => owned_value_5, nofun, fun _ => owned_pointer_5, nofun, by decide⟩
theorem kind_6 : KindOf 6 true false 264 241 (fun cb => #[.pointer (some ⟨cb, 0, none⟩), .pointer (some ⟨cb, 0, none⟩), .pointer (some ⟨cb, 0, none⟩)]) :=
  ⟨value_6, pointer_6, fun _ => owned_value_6, nofun, fun _ => owned_pointer_6, nofun, by decide⟩
theorem kind_7 : KindOf 7 true false 266 242 (fun cb => #[.pointer (some ⟨cb, 0, none⟩), .pointer (some ⟨cb, 0, none⟩), .pointer (some ⟨cb, 0, none⟩), .pointer (some ⟨cb, 0, none⟩)]) :=
  ⟨value_7, pointer_7, fun _ => owned_value_7, nofun, fun _ => owned_pointer_7, nofun, by decide⟩
theorem kind_8 : KindOf 8 false true 268 243 (fun cb => #[.pointer (some ⟨cb, 0, none⟩), .pointer (some ⟨cb, 0, none⟩)]) :=
  ⟨value_8, pointer_8, nofun, fun _ => lazy_value_8, nofun, fun _ => lazy_pointer_8, by decide⟩
theorem kind_9 : KindOf 9 false true 270 244 (fun cb => #[.pointer (some ⟨cb, 0, none⟩), .pointer (some ⟨cb, 0, none⟩), .pointer (some ⟨cb, 0, none⟩)]) :=
  ⟨value_9, pointer_9, nofun, fun _ => lazy_value_9, nofun, fun _ => lazy_pointer_9, by decide⟩
theorem kind_10 : KindOf 10 false true 272 245 (fun cb => #[.pointer (some ⟨cb, 0, none⟩), .pointer (some ⟨cb, 0, none⟩), .pointer (some ⟨cb, 0, none⟩)]) :=
  ⟨value_10, pointer_10, nofun, fun _ => lazy_value_10, nofun, fun _ => lazy_pointer_10, by decide⟩
theorem kind_11 : KindOf 11 false true 274 246 (fun cb => #[.pointer (some ⟨cb, 0, none⟩), .pointer (some ⟨cb, 0, none⟩), .pointer (some ⟨cb, 0, none⟩), .pointer (some ⟨cb, 0, none⟩)]) :=
  ⟨value_11, pointer_11, nofun, fun _ => lazy_value_11, nofun, fun _ => lazy_pointer_11, by decide⟩
theorem kind_12 : KindOf 12 true true 276 247 (fun cb => #[.pointer (some ⟨cb, 0, none⟩), .pointer (some ⟨cb, 0, none⟩), .pointer (some ⟨cb, 0, none⟩)]) :=
  ⟨value_12, pointer_12, fun _ => owned_value_12, fun _ => lazy_value_12, fun _ => owned_pointer_12, fun _ => lazy_pointer_12, by decide⟩
theorem kind_13 : KindOf 13 true true 278 248 (fun cb => #[.pointer (some ⟨cb, 0, none⟩), .pointer (some ⟨cb, 0, none⟩), .pointer (some ⟨cb, 0, none⟩), .pointer (some ⟨cb, 0, none⟩)]) :=
  ⟨value_13, pointer_13, fun _ => owned_value_13, fun _ => lazy_value_13, fun _ => owned_pointer_13, fun _ => lazy_pointer_13, by decide⟩
theorem kind_14 : KindOf 14 true true 280 249 (fun cb => #[.pointer (some ⟨cb, 0, none⟩), .pointer (some ⟨cb, 0, none⟩), .pointer (some ⟨cb, 0, none⟩), .pointer (some ⟨cb, 0, none⟩)]) :=
  ⟨value_14, pointer_14, fun _ => owned_value_14, fun _ => lazy_value_14, fun _ => owned_pointer_14, fun _ => lazy_pointer_14, by decide⟩
theorem kind_15 : KindOf 15 true true 201 250 (fun cb => #[.pointer (some ⟨cb, 0, none⟩), .pointer (some ⟨cb, 0, none⟩), .pointer (some ⟨cb, 0, none⟩), .pointer (some ⟨cb, 0, none⟩), .pointer (some ⟨cb, 0, none⟩)]) :=
  ⟨value_15, pointer_15, fun _ => owned_value_15, fun _ => lazy_value_15, fun _ => owned_pointer_15, fun _ => lazy_pointer_15, by decide⟩
section
variable (sh id ve gv ld wi : Int) (fo ko : Option Addr) (fl fc kl kc : Nat) (cl ow : ByteArray) (lo : Bool) (w : World)
theorem object_kind {k : Int} {a b : Bool} {Tv Tp : TypeId} {vs : Nat → Array Value} (hk : KindOf k a b Tv Tp vs) (hk0 : ¬ k = 0) (hk15 : ¬ k = 15) : Calls Try.prog 84 #[.agg #[.int .i64 0, .int .i64 k, .int .i64 sh, .int .u64 id, .slice fo fl fc, .string cl, .int .i64 ve, .slice ko kl kc, .string ow, .int .i64 gv, .bool lo, .int .i64 ld, .int .i64 0, .int .i64 wi]] w (ObjEnd a b ⟨.int .i64 k, .int .i64 sh, .int .u64 id, .slice fo fl fc, .string cl, .int .i64 ve, .slice ko kl kc, ow, gv, lo, ld, .int .i64 wi, 0, 0, 0, 0⟩ w) := by
  by_cases h2 : sh = 2
  · subst h2
    exact object_two hk id ve gv ld wi fo ko fl fc kl kc cl ow lo w hk0 hk15
  · by_cases h0 : sh = 0
    · subst h0
      exact object_pointer hk id ve gv ld wi fo ko fl fc kl kc cl ow lo w
    · exact object_value hk sh id ve gv ld wi fo ko fl fc kl kc cl ow lo w h2 h0
theorem object_15 : Calls Try.prog 84 #[.agg #[.int .i64 0, .int .i64 15, .int .i64 sh, .int .u64 id, .slice fo fl fc, .string cl, .int .i64 ve, .slice ko kl kc, .string ow, .int .i64 gv, .bool lo, .int .i64 ld, .int .i64 0, .int .i64 wi]] w (ObjEnd true true ⟨.int .i64 15, .int .i64 sh, .int .u64 id, .slice fo fl fc, .string cl, .int .i64 ve, .slice ko kl kc, ow, gv, lo, ld, .int .i64 wi, 0, 0, 0, 0⟩ w) := by
  by_cases h2 : sh = 2
  · subst h2
    exact object_loose id ve gv ld wi fo ko fl fc kl kc cl ow lo w
  · by_cases h0 : sh = 0
    · subst h0
      exact object_pointer kind_15 id ve gv ld wi fo ko fl fc kl kc cl ow lo w
    · exact object_value kind_15 sh id ve gv ld wi fo ko fl fc kl kc cl ow lo w h2 h0
/-- Object, of what can be owned. -/
theorem object_owned (k : Int) (hk : (4 ≤ k ∧ k < 8) ∨ (12 ≤ k ∧ k < 16)) : ∃ b, Calls Try.prog 84 #[.agg #[.int .i64 0, .int .i64 k, .int .i64 sh, .int .u64 id, .slice fo fl fc, .string cl, .int .i64 ve, .slice ko kl kc, .string ow, .int .i64 gv, .bool lo, .int .i64 ld, .int .i64 0, .int .i64 wi]] w (ObjEnd true b ⟨.int .i64 k, .int .i64 sh, .int .u64 id, .slice fo fl fc, .string cl, .int .i64 ve, .slice ko kl kc, ow, gv, lo, ld, .int .i64 wi, 0, 0, 0, 0⟩ w) := by
  obtain rfl | rfl | rfl | rfl | rfl | rfl | rfl | rfl : k = 4 ∨ k = 5 ∨ k = 6 ∨ k = 7 ∨ k = 12 ∨ k = 13 ∨ k = 14 ∨ k = 15 := by omega
  · exact ⟨_, object_kind sh id ve gv ld wi fo ko fl fc kl kc cl ow lo w kind_4 (by decide) (by decide)⟩
  · exact ⟨_, object_kind sh id ve gv ld wi fo ko fl fc kl kc cl ow lo w kind_5 (by decide) (by decide)⟩
  · exact ⟨_, object_kind sh id ve gv ld wi fo ko fl fc kl kc cl ow lo w kind_6 (by decide) (by decide)⟩
  · exact ⟨_, object_kind sh id ve gv ld wi fo ko fl fc kl kc cl ow lo w kind_7 (by decide) (by decide)⟩
  · exact ⟨_, object_kind sh id ve gv ld wi fo ko fl fc kl kc cl ow lo w kind_12 (by decide) (by decide)⟩
  · exact ⟨_, object_kind sh id ve gv ld wi fo ko fl fc kl kc cl ow lo w kind_13 (by decide) (by decide)⟩
  · exact ⟨_, object_kind sh id ve gv ld wi fo ko fl fc kl kc cl ow lo w kind_14 (by decide) (by decide)⟩
  · exact ⟨_, object_15 sh id ve gv ld wi fo ko fl fc kl kc cl ow lo w⟩
/-- Object, of what can be lazy. -/
theorem object_lazy (k : Int) (hk : 8 ≤ k ∧ k < 16) : ∃ a, Calls Try.prog 84 #[.agg #[.int .i64 0, .int .i64 k, .int .i64 sh, .int .u64 id, .slice fo fl fc, .string cl, .int .i64 ve, .slice ko kl kc, .string ow, .int .i64 gv, .bool lo, .int .i64 ld, .int .i64 0, .int .i64 wi]] w (ObjEnd a true ⟨.int .i64 k, .int .i64 sh, .int .u64 id, .slice fo fl fc, .string cl, .int .i64 ve, .slice ko kl kc, ow, gv, lo, ld, .int .i64 wi, 0, 0, 0, 0⟩ w) := by
  obtain rfl | rfl | rfl | rfl | rfl | rfl | rfl | rfl : k = 8 ∨ k = 9 ∨ k = 10 ∨ k = 11 ∨ k = 12 ∨ k = 13 ∨ k = 14 ∨ k = 15 := by omega
  · exact ⟨_, object_kind sh id ve gv ld wi fo ko fl fc kl kc cl ow lo w kind_8 (by decide) (by decide)⟩
  · exact ⟨_, object_kind sh id ve gv ld wi fo ko fl fc kl kc cl ow lo w kind_9 (by decide) (by decide)⟩
  · exact ⟨_, object_kind sh id ve gv ld wi fo ko fl fc kl kc cl ow lo w kind_10 (by decide) (by decide)⟩
  · exact ⟨_, object_kind sh id ve gv ld wi fo ko fl fc kl kc cl ow lo w kind_11 (by decide) (by decide)⟩
  · exact ⟨_, object_kind sh id ve gv ld wi fo ko fl fc kl kc cl ow lo w kind_12 (by decide) (by decide)⟩
  · exact ⟨_, object_kind sh id ve gv ld wi fo ko fl fc kl kc cl ow lo w kind_13 (by decide) (by decide)⟩
  · exact ⟨_, object_kind sh id ve gv ld wi fo ko fl fc kl kc cl ow lo w kind_14 (by decide) (by decide)⟩
  · exact ⟨_, object_15 sh id ve gv ld wi fo ko fl fc kl kc cl ow lo w⟩
end
end Go.Proofs.Ytpcbdjfonmohaaa
