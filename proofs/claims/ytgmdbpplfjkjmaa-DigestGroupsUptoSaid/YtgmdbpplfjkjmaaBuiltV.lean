/- tenonmake.Built: a value of its own out of a term. -/
import Derived.Test.YtgmdbpplfjkjmaaBuilt
import Derived.Test.YtgmdbpplfjkjmaaMem
namespace Go.Proofs.Ytgmdbpplfjkjmaa
open Go.RowKit
set_option linter.unusedVariables false
set_option linter.unusedSimpArgs false

section
variable (b : Bool) (n : Int) (fl : Nat) (tx : ByteArray) (bs : List UInt8) (rf : Int) (ls : List Term) (es : List (ByteArray × Term)) (cl : ByteArray) (ver : Int)
/-- The kinds that take no memory but Alien's. -/
theorem built_plain (k : Int) (hk : k = 1 ∨ k = 2 ∨ k = 3 ∨ k = 4 ∨ k = 5 ∨ k = 7 ∨ k = 11) : BuiltSaid (.mk k b n fl tx bs rf ls es cl ver) := by
  intro cs w h
  simp only [TRep] at h
  obtain ⟨sb, sl, se, xl, xe, rfl, ⟨wk, wn, wfl, wtx, wrf, wcl, wver⟩, -⟩ := h
  have fin : ∀ (v : Val) (y : Value) (w' : World), VRep w' v y [] → Below w.heap.size w w' → Fresh v w (.returned y) w' := fun v y w' hv hb => ⟨y, [], rfl, hv, List.nodup_nil, fun _ h => (by cases h), hb⟩
  have hal : Below w.heap.size w (w.alloc (.cells #[.int .i64 k, .bool b, .int .i64 n, .float .f64 fl, .string tx, sb, .int .u64 rf, sl, se, .string cl, .int .i64 ver] 31)) := (Below.refl _ _).alloc (Nat.le_refl _) _
  rcases hk with rfl | rfl | rfl | rfl | rfl | rfl | rfl
  all_goals go_enter Try.func11, Try.ntmps11
  all_goals go_wp2
  all_goals go_ret
  · exact fin .nil _ _ ⟨rfl, rfl⟩ hal
  · exact fin (.bool b) _ _ ⟨rfl, rfl⟩ hal
  · exact fin (.int n) _ _ ⟨rfl, wn, rfl⟩ hal
  · exact fin (.float fl) _ _ ⟨rfl, wfl, rfl⟩ hal
  · exact fin (.text tx) _ _ ⟨rfl, wtx, rfl⟩ hal
  · exact fin (.ref rf) _ _ ⟨rfl, wrf, rfl⟩ hal
  · exact fin .nothing _ _ ⟨rfl, rfl⟩ hal

theorem built_alien (k : Int) (hk : (k == 1) = false ∧ (k == 2) = false ∧ (k == 3) = false ∧ (k == 4) = false ∧ (k == 5) = false ∧ (k == 6) = false ∧ (k == 7) = false ∧ (k == 8) = false ∧ (k == 9) = false ∧ (k == 10) = false ∧ (k == 11) = false) : BuiltSaid (.mk k b n fl tx bs rf ls es cl ver) := by
  intro cs w h
  simp only [TRep] at h
  obtain ⟨sb, sl, se, xl, xe, rfl, -⟩ := h
  obtain ⟨k1, k2, k3, k4, k5, k6, k7, k8, k9, k10, k11⟩ := hk
  have hv : builtV (.mk k b n fl tx bs rf ls es cl ver) = .alien (alienT n) := by
    rw [builtV, k1, k2, k3, k4, k5, k6, k7, k8, k9, k10, k11]; rfl
  rw [hv]
  have hal := Lib.hid (fun W => alien_said n W)
  have hkd := alien_kind n
  clear hv
  go_enter Try.func11, Try.ntmps11
  go_wp2_with (go_at_call 69; refine (hal.out _).mono ?_; rintro e w' ⟨⟨y, rfl⟩, hb⟩)
  go_ret
  exact ⟨_, [], rfl, ⟨y, rfl, hkd, rfl⟩, List.nodup_nil, fun _ h => (by cases h), ((Below.refl _ _).alloc (Nat.le_refl _) _).trans (below_le hb (by simp))⟩

theorem built_dict (ih : ∀ u ∈ es.map (·.2), BuiltSaid u) : BuiltSaid (.mk 9 b n fl tx bs rf ls es cl ver) := by
  intro cs w h
  simp only [TRep] at h
  obtain ⟨sb, sl, se, xl, xe, rfl, -, -, -, -, ha, he⟩ := h
  have hd := Lib.hid (fun W (hb : Below w.heap.size w W) => dict_built es ih se xe W (ha.keep (keeps_of_below hb)) (EsRep.keep (keeps_of_below hb) _ _ he))
  have hv : builtV (.mk 9 b n fl tx bs rf ls es cl ver) = .dict (builtEs es) := by rw [builtV]; rfl
  rw [hv]
  clear ha he ih hv
  go_enter Try.func11, Try.ntmps11
  go_wp2_with (go_at_call 68; refine (hd.out _ ((Below.refl _ _).alloc (Nat.le_refl _) _)).mono ?_; rintro e w' ⟨sv, xs, gs, rfl, ho, hds, hn, hg, hb⟩)
  go_ret
  refine ⟨_, _, rfl, ⟨sv, xs, gs, rfl, ownsRow_mono ho, hds, rfl⟩, hn, fun k hk => ?_, ((Below.refl _ _).alloc (Nat.le_refl _) _).trans (below_le hb (by simp))⟩
  have hw : w.heap.size ≤ (w.alloc (.cells #[.int .i64 9, .bool b, .int .i64 n, .float .f64 fl, .string tx, sb, .int .u64 rf, sl, se, .string cl, .int .i64 ver] 31)).heap.size := by simp
  rcases List.mem_append.1 hk with hk | hk
  · exact Nat.le_trans hw (ownsRow_lt ho k hk).1
  · exact Nat.le_trans hw (hg k hk)

set_option maxRecDepth 100000 in
theorem built_bytes : BuiltSaid (.mk 6 b n fl tx bs rf ls es cl ver) := by
  intro cs w h
  simp only [TRep] at h
  obtain ⟨sb, sl, se, xl, xe, rfl, -, ⟨oa, cap, rfl, hcap, hmax, hsm, hnil, hxl, hcells⟩, -⟩ := h
  have hv : builtV (.mk 6 b n fl tx bs rf ls es cl ver) = .bytes bs := by rw [builtV]; rfl
  rw [hv]
  obtain ⟨i0, hi0, hz0, hz1, hz2⟩ := info_parts Try.infoU8
  obtain ⟨W, hW⟩ : ∃ W, W = w.alloc (.cells #[.int .i64 6, .bool b, .int .i64 n, .float .f64 fl, .string tx, .slice oa bs.length cap, .int .u64 rf, sl, se, .string cl, .int .i64 ver] 31) := ⟨_, rfl⟩
  have hWb : Below w.heap.size w W := by rw [hW]; exact (Below.refl _ _).alloc (Nat.le_refl _) _
  have hWs : w.heap.size ≤ W.heap.size := hWb.size
  have hown0 := ownsRow_new W 5 1 w.heap.size hWs
  have hb0 : Below w.heap.size w (W.alloc (.cells #[] 5)) := hWb.alloc hWs _
  unfold maxLen at hmax
  cases oa with
  | none =>
    have hc0 := hnil rfl
    have hl0 : bs.length = 0 := by omega
    obtain rfl : bs = [] := List.eq_nil_of_length_eq_zero hl0
    subst hc0
    clear hv hl0 hnil hxl hcells hsm hmax hcap
    rw [hW] at hown0 hb0
    simp only [size_alloc, List.length_nil] at hown0 hb0
    go_enter Try.func11, Try.ntmps11
    go_wp2_with (at_builtin; refine wpList_append_own_none rfl _ _ 26 rfl w.heap.size 5 i0 1 Try.underlying26 hi0 _ 0 [] rfl hown0 rfl ?_)
    go_ret
    exact ⟨_, _, rfl, ⟨_, rfl, ownsRow_mono hown0, rfl⟩, ownL_nodup _, fun k hk => (ownsRow_lt hown0 k hk).1, hb0⟩
  | some ad =>
    have hcl : ∀ j u, (byteCells bs)[j]? = some u → (W.alloc (.cells #[] 5)).cell? (ad.add j) = some u := by
      intro j u hu
      have hj : j < bs.length := by have := (List.getElem?_eq_some_iff.1 hu).1; simpa [byteCells] using this
      obtain ⟨b', o', e, hc⟩ := hcells (by omega)
      cases e
      rw [Addr.add_mid]
      exact keeps_of_below hb0 _ _ ((hc j (by omega)).trans hu)
    have hclH := Lib.hid hcl
    clear hcells hcl hnil hxl hv
    rw [hW] at hclH hown0 hb0
    simp only [size_alloc] at hown0
    go_enter Try.func11, Try.ntmps11
    go_wp2_with (at_builtin; refine wpList_append_own _ rfl _ _ 26 rfl w.heap.size 5 i0 _ 1 1 Try.underlying26 hi0 hz0 hz1 hz2 rfl (by omega) _ 0 [] rfl hown0 ad bs.length cap (byteCells bs) rfl (by simp [byteCells]) ?c1 (byteCells_one bs) (by unfold maxLen; omega) (by omega) (by simp; omega) ?_; (case c1 => exact hclH.out); intro v' w' hown' hgr' _)
    go_ret
    have hown := hown'
    simp only [Nat.zero_add, List.nil_append] at hown
    exact ⟨_, _, rfl, ⟨_, rfl, ownsRow_mono hown, rfl⟩, ownL_nodup _, fun k hk => (ownsRow_lt hown k hk).1, hb0.grown hgr' (by simp; omega) (fun k hk => by injection hk with hk; rw [← hk]; simp)⟩
end
end Go.Proofs.Ytgmdbpplfjkjmaa
