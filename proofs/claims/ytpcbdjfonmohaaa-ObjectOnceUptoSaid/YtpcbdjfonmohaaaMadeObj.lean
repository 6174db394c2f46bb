/- tenonmake.Object, of what is something; tenonref10.Fit. -/
import Derived.Test.YtpcbdjfonmohaaaMadeT
namespace Go.Proofs.Ytpcbdjfonmohaaa
open Go.RowKit
set_option linter.unusedVariables false
set_option linter.unusedSimpArgs false

theorem specSize : (Try.prog.info? 72).map (·.size) = some 14 := by kernel_rfl
/-- What Fit makes of abilities. -/
def fitH (h : Int) : Int := (RowKit.wrap64 (h.tmod 16 + 16)).tmod 16
theorem fitH_eq (h : Int) : fitH h = h % 16 := by
  have h1 : h.tmod 16 = h % 16 ∨ h.tmod 16 = h % 16 - 16 := by
    by_cases h0 : 0 ≤ h
    · exact .inl (Int.tmod_eq_emod_of_nonneg h0)
    · have e : h.tmod 16 = -((-h).tmod 16) := by rw [Int.neg_tmod, Int.neg_neg]
      rw [Int.tmod_eq_emod_of_nonneg (show 0 ≤ -h by omega)] at e
      omega
  unfold fitH
  rw [IntWalk.wrap64_in _ (by omega), Int.tmod_eq_emod_of_nonneg (by omega)]
  omega
section
variable (sh id ve gv ld wi : Int) (fo ko : Option Addr) (fl fc kl kc : Nat) (cl ow : ByteArray) (lo : Bool) (w : World)
set_option maxRecDepth 100000 in
theorem fit_said (h : Int) : Calls Try.prog 83 #[.agg #[.int .i64 0, .int .i64 h, .int .i64 sh, .int .u64 id, .slice fo fl fc, .string cl, .int .i64 ve, .slice ko kl kc, .string ow, .int .i64 gv, .bool lo, .int .i64 ld, .int .i64 0, .int .i64 wi]] w fun e w' => e = .returned (.agg #[.int .i64 0, .int .i64 (fitH h), .int .i64 sh, .int .u64 id, .slice fo fl fc, .string cl, .int .i64 ve, .slice ko kl kc, .string ow, .int .i64 gv, .bool lo, .int .i64 ld, .int .i64 0, .int .i64 wi]) ∧ w' = (w.alloc (.cells #[.int .i64 0, .int .i64 (fitH h), .int .i64 sh, .int .u64 id, .slice fo fl fc, .string cl, .int .i64 ve, .slice ko kl kc, .string ow, .int .i64 gv, .bool lo, .int .i64 ld, .int .i64 0, .int .i64 wi] 72)).alloc (.cells #[.int .i64 0, .int .i64 (fitH h), .int .i64 sh, .int .u64 id, .slice fo fl fc, .string cl, .int .i64 ve, .slice ko kl kc, .string ow, .int .i64 gv, .bool lo, .int .i64 ld, .int .i64 0, .int .i64 wi] 72) := by
  go_enter Try.func83, Try.ntmps83
  go_wp2_with fail
  exact ⟨rfl, _, results_cell_row rfl _ _ (w.heap.size + 1) 72 _ (0, 0) _ rfl (heap_alloc_at _ (by simp)) Try.underlying72 rfl specSize, rfl, rfl⟩
end
/-- What Object leaves. -/
def ObjEnd (a b : Bool) (c : CoreS) (w : World) (e : Ending) (w' : World) : Prop := ∃ T v cb, e = .returned (.tuple #[.iface T v, .pointer (some ⟨cb, 0, none⟩)]) ∧ CoreAt w' cb c ∧ (a = true → Able 148 ownedMs (.iface T v) w.heap.size cb w') ∧ (b = true → Able 207 lazyMs (.iface T v) w.heap.size cb w') ∧ w.heap.size ≤ cb ∧ Below w.heap.size w w'
theorem two_allocs (w : World) (a b : Obj) : Below w.heap.size w ((w.alloc a).alloc b) := ((Below.refl _ _).alloc (Nat.le_refl _) _).alloc (by simp) _
theorem loose_assert (x : Value) (W : World) : (Instr.typeAssert (.iface 201 x) 74 201 true).run Try.prog W = .ok (.tuple #[x, .bool true]) W := by
  have hu := Try.underlying201
  simp [Instr.typeAssert, run_underlying hu]

/-- What is asked of a set of abilities. -/
structure KindOf (k : Int) (a b : Bool) (Tv Tp : TypeId) (vs : Nat → Array Value) : Prop where
  val : ∀ cb W, W.cell? ⟨cb, 1, none⟩ = some (.int .i64 k) → Calls Try.prog 111 #[.pointer (some ⟨cb, 0, none⟩)] W fun e w' => e = .returned (.iface Tv (.agg (vs cb))) ∧ w' = W
  ptr : ∀ cb W, W.cell? ⟨cb, 1, none⟩ = some (.int .i64 k) → Calls Try.prog 112 #[.pointer (some ⟨cb, 0, none⟩)] W fun e w' => e = .returned (.iface Tp (.pointer (some ⟨W.heap.size, 0, none⟩))) ∧ w' = W.alloc (.cells (vs cb) Tv)
  ov : a = true → ∀ B cb W, Able 148 ownedMs (.iface Tv (.agg (vs cb))) B cb W
  lv : b = true → ∀ B cb W, Able 207 lazyMs (.iface Tv (.agg (vs cb))) B cb W
  op : a = true → ∀ B cb pb W, W.heap[pb]? = some (.cells (vs cb) Tv (0, 0)) → ¬ pb = cb → B ≤ pb → Able 148 ownedMs (.iface Tp (.pointer (some ⟨pb, 0, none⟩))) B cb W
  lp : b = true → ∀ B cb pb W, W.heap[pb]? = some (.cells (vs cb) Tv (0, 0)) → ¬ pb = cb → B ≤ pb → Able 207 lazyMs (.iface Tp (.pointer (some ⟨pb, 0, none⟩))) B cb W
  and15 : bits .and .i64 k 15 = k

section
variable {k : Int} {a b : Bool} {Tv Tp : TypeId} {vs : Nat → Array Value} (hk : KindOf k a b Tv Tp vs) (sh id ve gv ld wi : Int) (fo ko : Option Addr) (fl fc kl kc : Nat) (cl ow : ByteArray) (lo : Bool) (w : World)
include hk
set_option maxRecDepth 100000 in
theorem object_value (h2 : ¬ sh = 2) (h0 : ¬ sh = 0) : Calls Try.prog 84 #[.agg #[.int .i64 0, .int .i64 k, .int .i64 sh, .int .u64 id, .slice fo fl fc, .string cl, .int .i64 ve, .slice ko kl kc, .string ow, .int .i64 gv, .bool lo, .int .i64 ld, .int .i64 0, .int .i64 wi]] w (ObjEnd a b ⟨.int .i64 k, .int .i64 sh, .int .u64 id, .slice fo fl fc, .string cl, .int .i64 ve, .slice ko kl kc, ow, gv, lo, ld, .int .i64 wi, 0, 0, 0, 0⟩ w) := by
  have hkH := Lib.hid hk
  clear hk
  go_enter Try.func84, Try.ntmps84
  go_wp2_with fail
  refine (hkH.out.val (w.heap.size + 1) _ (by simp [go_sem])).mono ?_
  rintro e w' ⟨rfl, rfl⟩
  go_wp2_with fail
  go_ret2
  exact ⟨_, _, _, rfl, heap_alloc_at _ (by simp), fun h => hkH.out.ov h _ _ _, fun h => hkH.out.lv h _ _ _, by omega, two_allocs _ _ _⟩
set_option maxRecDepth 100000 in
theorem object_pointer : Calls Try.prog 84 #[.agg #[.int .i64 0, .int .i64 k, .int .i64 0, .int .u64 id, .slice fo fl fc, .string cl, .int .i64 ve, .slice ko kl kc, .string ow, .int .i64 gv, .bool lo, .int .i64 ld, .int .i64 0, .int .i64 wi]] w (ObjEnd a b ⟨.int .i64 k, .int .i64 0, .int .u64 id, .slice fo fl fc, .string cl, .int .i64 ve, .slice ko kl kc, ow, gv, lo, ld, .int .i64 wi, 0, 0, 0, 0⟩ w) := by
  have hkH := Lib.hid hk
  clear hk
  go_enter Try.func84, Try.ntmps84
  go_wp2_with fail
  refine (hkH.out.ptr (w.heap.size + 1) _ (by simp [go_sem])).mono ?_
  rintro e w' ⟨rfl, rfl⟩
  go_wp2_with fail
  go_ret2
  have hb3 := (two_allocs w (.cells #[.int .i64 0, .int .i64 k, .int .i64 0, .int .u64 id, .slice fo fl fc, .string cl, .int .i64 ve, .slice ko kl kc, .string ow, .int .i64 gv, .bool lo, .int .i64 ld, .int .i64 0, .int .i64 wi] 72) (.cells (coreRow ⟨.int .i64 k, .int .i64 0, .int .u64 id, .slice fo fl fc, .string cl, .int .i64 ve, .slice ko kl kc, ow, gv, lo, ld, .int .i64 wi, 0, 0, 0, 0⟩) 84)).alloc (by simp; omega) (.cells (vs (w.heap.size + 1)) Tv)
  refine ⟨_, _, _, rfl, (Below.heap_alloc _ _ _ (by simp)).trans (heap_alloc_at _ (by simp)), fun h => hkH.out.op h _ _ _ _ (heap_alloc_at _ (by simp)) (by simp) (by omega), fun h => hkH.out.lp h _ _ _ _ (heap_alloc_at _ (by simp)) (by simp) (by omega), by omega, hb3⟩
set_option maxRecDepth 100000 in
theorem object_two (hk0 : ¬ k = 0) (hk15 : ¬ k = 15) : Calls Try.prog 84 #[.agg #[.int .i64 0, .int .i64 k, .int .i64 2, .int .u64 id, .slice fo fl fc, .string cl, .int .i64 ve, .slice ko kl kc, .string ow, .int .i64 gv, .bool lo, .int .i64 ld, .int .i64 0, .int .i64 wi]] w (ObjEnd a b ⟨.int .i64 k, .int .i64 2, .int .u64 id, .slice fo fl fc, .string cl, .int .i64 ve, .slice ko kl kc, ow, gv, lo, ld, .int .i64 wi, 0, 0, 0, 0⟩ w) := by
  have hb0 : (bits .and .i64 k 15 == 0) = false := by rw [hk.and15]; simpa using hk0
  have hb1 : (bits .and .i64 k 15 == 15) = false := by rw [hk.and15]; simpa using hk15
  have hkH := Lib.hid hk
  clear hk
  go_enter Try.func84, Try.ntmps84
  go_wp2_with fail
  refine (hkH.out.val (w.heap.size + 1) _ (by simp [go_sem])).mono ?_
  rintro e w' ⟨rfl, rfl⟩
  go_wp2_with fail
  go_ret2
  exact ⟨_, _, _, rfl, heap_alloc_at _ (by simp), fun h => hkH.out.ov h _ _ _, fun h => hkH.out.lv h _ _ _, by omega, two_allocs _ _ _⟩
end

end Go.Proofs.Ytpcbdjfonmohaaa
