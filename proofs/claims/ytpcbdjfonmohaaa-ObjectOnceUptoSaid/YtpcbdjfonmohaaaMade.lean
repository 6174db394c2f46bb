/- law10's made, of what is something. -/
import Derived.Test.YtpcbdjfonmohaaaMadeV
namespace Go.Proofs.Ytpcbdjfonmohaaa
open Go.RowKit
set_option linter.unusedVariables false
set_option linter.unusedSimpArgs false

theorem oneSize : (Try.prog.info? 78).map (·.size) = some 3 := by kernel_rfl
theorem row_block {w : World} {b : Nat} {cs : Array Value} {t : TypeId} (h : w.heap[b]? = some (.cells cs t (0, 0))) {k : Nat} {v : Value} (hk : cs[k]? = some v) : w.cell? ⟨b, k, none⟩ = some v := by simp [World.cell?, h, hk]
theorem frozen_of' {w : World} {b : Nat} {cs : Array Value} {t : TypeId} (h : w.heap[b]? = some (.cells cs t (0, 0))) (j : Nat) : w.frozen? ⟨b, j, none⟩ = false := by simp [World.frozen?, h]
/-- What made leaves. -/
def MadeEnd (a b : Bool) (c : CoreS) (w : World) (e : Ending) (w' : World) : Prop := ∃ T v B cb db, e = .returned (.agg #[.iface T v, .pointer (some ⟨cb, 0, none⟩), .pointer (some ⟨db, 0, none⟩)]) ∧ CoreAt w' cb c ∧ (a = true → Able 148 ownedMs (.iface T v) B cb w') ∧ (b = true → Able 207 lazyMs (.iface T v) B cb w') ∧ w.heap.size ≤ cb ∧ Below w.heap.size w w'
section
variable (sh id ve gv ld wi : Int) (fo ko : Option Addr) (fl fc kl kc : Nat) (cl ow : ByteArray) (lo : Bool) (w : World)
set_option maxRecDepth 100000 in
theorem made_said (h k : Int) (hk : fitH h = k) (a b : Bool) (hobj : ∀ W, Calls Try.prog 84 #[.agg #[.int .i64 0, .int .i64 k, .int .i64 sh, .int .u64 id, .slice fo fl fc, .string cl, .int .i64 ve, .slice ko kl kc, .string ow, .int .i64 gv, .bool lo, .int .i64 ld, .int .i64 0, .int .i64 wi]] W (ObjEnd a b ⟨.int .i64 k, .int .i64 sh, .int .u64 id, .slice fo fl fc, .string cl, .int .i64 ve, .slice ko kl kc, ow, gv, lo, ld, .int .i64 wi, 0, 0, 0, 0⟩ W)) :
    Calls Try.prog 41 #[.agg #[.int .i64 0, .int .i64 h, .int .i64 sh, .int .u64 id, .slice fo fl fc, .string cl, .int .i64 ve, .slice ko kl kc, .string ow, .int .i64 gv, .bool lo, .int .i64 ld, .int .i64 0, .int .i64 wi]] w (MadeEnd a b ⟨.int .i64 k, .int .i64 sh, .int .u64 id, .slice fo fl fc, .string cl, .int .i64 ve, .slice ko kl kc, ow, gv, lo, ld, .int .i64 wi, 0, 0, 0, 0⟩ w) := by
  have hob := Lib.hid hobj
  have hfit := Lib.hid (fun W => by have h1 := fit_said sh id ve gv ld wi fo ko fl fc kl kc cl ow lo W h; rw [hk] at h1; exact h1)
  clear hobj hk
  go_enter Try.func41, Try.ntmps41
  go_wp2_with fail
  refine (hfit.out _).mono ?_
  rintro e w1 ⟨rfl, rfl⟩
  clear hfit
  go_wp2_with fail
  obtain ⟨W, hW⟩ : ∃ W, W = (((w.alloc (.cells #[.int .i64 0, .int .i64 k, .int .i64 sh, .int .u64 id, .slice fo fl fc, .string cl, .int .i64 ve, .slice ko kl kc, .string ow, .int .i64 gv, .bool lo, .int .i64 ld, .int .i64 0, .int .i64 wi] 72)).alloc (.cells #[.nilIface, .pointer none, .pointer none] 78)).alloc (.cells #[.int .i64 0, .int .i64 k, .int .i64 sh, .int .u64 id, .slice fo fl fc, .string cl, .int .i64 ve, .slice ko kl kc, .string ow, .int .i64 gv, .bool lo, .int .i64 ld, .int .i64 0, .int .i64 wi] 72)).alloc (.cells #[.int .i64 0, .int .i64 k, .int .i64 sh, .int .u64 id, .slice fo fl fc, .string cl, .int .i64 ve, .slice ko kl kc, .string ow, .int .i64 gv, .bool lo, .int .i64 ld, .int .i64 0, .int .i64 wi] 72) := ⟨_, rfl⟩
  have hbW : Below w.heap.size w W := by rw [hW]; exact ((two_allocs _ _ _).alloc (by simp <;> omega) _).alloc (by simp <;> omega) _
  have hsW : W.heap.size = w.heap.size + 4 := by rw [hW]; simp
  have e0 : W.heap[w.heap.size]? = some (.cells #[.int .i64 0, .int .i64 k, .int .i64 sh, .int .u64 id, .slice fo fl fc, .string cl, .int .i64 ve, .slice ko kl kc, .string ow, .int .i64 gv, .bool lo, .int .i64 ld, .int .i64 0, .int .i64 wi] 72 (0, 0)) := by rw [hW, Below.heap_alloc _ _ _ (by simp <;> omega), Below.heap_alloc _ _ _ (by simp <;> omega), Below.heap_alloc _ _ _ (by simp)]; exact heap_alloc_new _ _
  have e1 : W.heap[w.heap.size + 1]? = some (.cells #[.nilIface, .pointer none, .pointer none] 78 (0, 0)) := by rw [hW, Below.heap_alloc _ _ _ (by simp <;> omega), Below.heap_alloc _ _ _ (by simp <;> omega)]; exact heap_alloc_at _ (by simp)
  rw [← hW]
  clear hW
  refine (hob.out W).mono ?_
  rintro e w2 ⟨T, v, cb, rfl, hcore, ho, hl, hcb, hb⟩
  clear hob
  have q0 := (hb.block w.heap.size (by omega)).trans e0
  have q1 := (hb.block (w.heap.size + 1) (by omega)).trans e1
  have g0 := row_block q0 (k := 0) (v := .int .i64 0) rfl
  have g1 := row_block q0 (k := 1) (v := .int .i64 k) rfl
  have g2 := row_block q0 (k := 2) (v := .int .i64 sh) rfl
  have g3 := row_block q0 (k := 3) (v := .int .u64 id) rfl
  have g4 := row_block q0 (k := 4) (v := .slice fo fl fc) rfl
  have g5 := row_block q0 (k := 5) (v := .string cl) rfl
  have g6 := row_block q0 (k := 6) (v := .int .i64 ve) rfl
  have g7 := row_block q0 (k := 7) (v := .slice ko kl kc) rfl
  have g8 := row_block q0 (k := 8) (v := .string ow) rfl
  have g9 := row_block q0 (k := 9) (v := .int .i64 gv) rfl
  have g10 := row_block q0 (k := 10) (v := .bool lo) rfl
  have g11 := row_block q0 (k := 11) (v := .int .i64 ld) rfl
  have g12 := row_block q0 (k := 12) (v := .int .i64 0) rfl
  have g13 := row_block q0 (k := 13) (v := .int .i64 wi) rfl
  have hsz := hb.size
  have hfin := Lib.hid (And.intro hcore (And.intro ho (And.intro hl hb)))
  have hbWH := Lib.hid hbW
  clear hcore ho hl hb hbW e0 e1 q0
  have c0 := row_block q1 (k := 0) (v := .nilIface) rfl
  have c1 := row_block q1 (k := 1) (v := .pointer none) rfl
  have c2 := row_block q1 (k := 2) (v := .pointer none) rfl
  have z0 := frozen_of' q1 0
  have z1 := frozen_of' q1 1
  have z2 := frozen_of' q1 2
  have q1H := Lib.hid q1
  have hlt0 : w.heap.size < w2.heap.size := by omega
  have hlt1 : w.heap.size + 1 < w2.heap.size := by omega
  have hne1 : ¬ w.heap.size + 1 = w2.heap.size := by omega
  have hne2 : ¬ w2.heap.size = w.heap.size + 1 := by omega
  clear q1
  go_wp2_with fail
  obtain ⟨hcore, ho, hl, hb⟩ := hfin.out
  have hcw := hcore.lt
  have q3 := setCell_block (setCell_block (setCell_block q1H.out 0 (.iface T v)) 1 (.pointer (some ⟨cb, 0, none⟩))) 2 (.pointer (some ⟨w2.heap.size, 0, none⟩))
  have hmv : ∀ (D : Obj) (x y z : Value) b, W.heap.size ≤ b → b < w2.heap.size → ((((w2.setCell ⟨w.heap.size + 1, 0, none⟩ x).setCell ⟨w.heap.size + 1, 1, none⟩ y).setCell ⟨w.heap.size + 1, 2, none⟩ z).alloc D).heap[b]? = w2.heap[b]? := fun D x y z b h1 h2 => (Below.heap_alloc _ _ _ (by simpa [World.setCell] using h2)).trans ((Below.heap_setCell _ _ _ _ (show b ≠ w.heap.size + 1 by omega)).trans ((Below.heap_setCell _ _ _ _ (show b ≠ w.heap.size + 1 by omega)).trans (Below.heap_setCell _ _ _ _ (show b ≠ w.heap.size + 1 by omega))))
  have hlast := hbWH.out.trans (below_le hb (by omega))
  refine ⟨rfl, _, results_cell_row rfl _ _ (w.heap.size + 1) 78 _ (0, 0) _ rfl ((Below.heap_alloc _ _ _ (by simp [World.setCell]; omega)).trans q3) Try.underlying78 rfl oneSize, T, v, W.heap.size, cb, _, rfl, (hmv _ _ _ _ cb hcb hcw).trans hcore, fun h => (ho h).move (fun b h1 h2 _ => hmv _ _ _ _ b h1 h2) (by simp [World.setCell]), fun h => (hl h).move (fun b h1 h2 _ => hmv _ _ _ _ b h1 h2) (by simp [World.setCell]), by omega, ?_⟩
  exact (((hlast.setCell (show w.heap.size ≤ w.heap.size + 1 by omega) _).setCell (show w.heap.size ≤ w.heap.size + 1 by omega) _).setCell (show w.heap.size ≤ w.heap.size + 1 by omega) _).alloc (by simp [World.setCell]; omega) _
end
end Go.Proofs.Ytpcbdjfonmohaaa
