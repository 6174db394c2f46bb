/- DigestTurns: two maps that are filled, and a third one of one pair. -/
import Derived.Test.YtgmdbpplfjkjmaaTurnRun
namespace Go.Proofs.Ytgmdbpplfjkjmaa
open Go.RowKit
set_option linter.unusedVariables false
set_option linter.unusedSimpArgs false

/-- Two maps, filled with these keys each. -/
def TwoT (w W : World) (ma mb : Nat) (ks ks' : List Val) : Prop :=
  ∃ oa la ob lb, MapW w.heap.size W ma oa la ∧ MapW w.heap.size W mb ob lb ∧ TurnL ks la ∧ TurnL ks' lb ∧ (∀ b, OfM ma oa la b → ¬ OfM mb ob lb b) ∧ Below w.heap.size w W
theorem TwoT.below {w W X : World} {ma mb : Nat} {ks ks' : List Val} (h : TwoT w W ma mb ks ks') (hb : Below W.heap.size W X) : TwoT w X ma mb ks ks' := by
  obtain ⟨oa, la, ob, lb, h1, h2, h3, h4, h5, h6⟩ := h
  exact ⟨oa, la, ob, lb, h1.below hb, h2.below hb, h3, h4, h5, h6.trans (hb.mono h6.size)⟩
theorem TwoT.bel {w W : World} {ma mb : Nat} {ks ks' : List Val} (h : TwoT w W ma mb ks ks') : Below w.heap.size w W := by
  obtain ⟨_, _, _, _, -, -, -, -, -, h⟩ := h; exact h
theorem TwoT.lt {w W : World} {ma mb : Nat} {ks ks' : List Val} (h : TwoT w W ma mb ks ks') : ma < W.heap.size ∧ mb < W.heap.size := by
  obtain ⟨_, _, _, _, h1, h2, -⟩ := h
  exact ⟨(h1.lt _ (.inl rfl)).2, (h2.lt _ (.inl rfl)).2⟩
theorem TwoT.made (w : World) : TwoT w ((w.alloc (.cells #[.map none] 49)).alloc (.cells #[.map none] 49)) w.heap.size (w.heap.size + 1) [] [] := by
  have h1 : (w.alloc (.cells #[.map none] 49)).heap.size = w.heap.size + 1 := by simp
  have hb1 : Below w.heap.size w (w.alloc (.cells #[.map none] 49)) := (Below.refl _ _).alloc (Nat.le_refl _) _
  have h2 := MapW.made (B := w.heap.size) (w.alloc (.cells #[.map none] 49)) (by omega)
  rw [h1] at h2
  refine ⟨none, [], none, [], (MapW.made w (Nat.le_refl _)).below ((Below.refl _ _).alloc (Nat.le_refl _) _), h2, TurnL.nil, TurnL.nil, fun b ha hb => ?_, hb1.alloc hb1.size _⟩
  rcases ha with rfl | ha | ha
  · rcases hb with hb | hb | hb
    · omega
    · cases hb
    · simp [fsM] at hb
  · cases ha
  · simp [fsM] at ha
theorem sumK_wf (v : Val) : (Lit.int .i64 (sumK v)).wf = true := by
  have h : ∀ n : Int, (Lit.int .i64 (IntKind.i64.wrap n)).wf = true := fun n => by
    rw [IntKind.wrap_i64]; simp [Lit.wf, IntKind.min, IntKind.max, IntKind.signed, IntKind.bits]; omega
  unfold sumK
  split
  · exact h _
  · decide
theorem sumK_num (v : Val) : numsV (.int (sumK v)) := by
  have h := sumK_wf v
  simp [Lit.wf, IntKind.min, IntKind.max, IntKind.signed, IntKind.bits] at h
  simp only [numsV]
  omega
theorem sumK_rep (v : Val) (w : World) : VRep w (.int (sumK v)) (.iface 2 (.int .i64 (sumK v))) [] := by rw [VRep]; exact ⟨rfl, sumK_wf v, rfl⟩
theorem TwoT.putA {w W : World} {ma mb : Nat} {ks ks' : List Val} (h : TwoT w W ma mb ks ks') {v : Val} {x : Value} {fs : List Nat} (hx : VRep W v x fs) (hn : numsV v) (hf : ma ∉ fs) (hr : ks.length < 4096) {K : Int} (hK : K = sumK v) :
    Calls Try.prog 16 #[.pointer (some ⟨ma, 0, none⟩), x, .iface 2 (.int .i64 K)] W fun e X => (∃ r, e = .returned r) ∧ TwoT w X ma mb (ks ++ [v]) ks' ∧ W.heap.size ≤ X.heap.size := by
  subst hK
  obtain ⟨oa, la, ob, lb, h1, h2, h3, h4, h5, h6⟩ := h
  refine (mapW_put h1 hx hn (sumK_rep v W) (sumK_num v) hf (fun h => by cases h)).mono fun e X hP => ?_
  obtain ⟨o', l', g1, g2, g3, g4, r, g5⟩ := h3.put h1 hn hr hP
  refine ⟨⟨r, g5⟩, ⟨o', l', ob, lb, g1, h2.but g3 (fun b hb hs => h5 b hs hb), g2, h4, fun b ha hb => ?_, h6.trans (But.below' g3 h6.size (fun i hi hs => by have := (h1.lt i hs).1; omega))⟩, g3.size⟩
  rcases g4 b ha with h | h
  · exact h5 b h hb
  · have := (h2.lt b hb).2; omega
theorem TwoT.putB {w W : World} {ma mb : Nat} {ks ks' : List Val} (h : TwoT w W ma mb ks ks') {v : Val} {x : Value} {fs : List Nat} (hx : VRep W v x fs) (hn : numsV v) (hf : mb ∉ fs) (hr : ks'.length < 4096) {K : Int} (hK : K = sumK v) :
    Calls Try.prog 16 #[.pointer (some ⟨mb, 0, none⟩), x, .iface 2 (.int .i64 K)] W fun e X => (∃ r, e = .returned r) ∧ TwoT w X ma mb ks (ks' ++ [v]) ∧ W.heap.size ≤ X.heap.size := by
  subst hK
  obtain ⟨oa, la, ob, lb, h1, h2, h3, h4, h5, h6⟩ := h
  refine (mapW_put h2 hx hn (sumK_rep v W) (sumK_num v) hf (fun h => by cases h)).mono fun e X hP => ?_
  obtain ⟨o', l', g1, g2, g3, g4, r, g5⟩ := h4.put h2 hn hr hP
  refine ⟨⟨r, g5⟩, ⟨oa, la, o', l', h1.but g3 (fun b hb hs => h5 b hb hs), g1, h3, g2, fun b ha hb => ?_, h6.trans (But.below' g3 h6.size (fun i hi hs => by have := (h2.lt i hs).1; omega))⟩, g3.size⟩
  rcases g4 b hb with h | h
  · exact h5 b ha h
  · have := (h1.lt b ha).2; omega
theorem sum_any {w : World} {v : Val} {x : Value} {fs : List Nat} (h : VRep w v x fs) (hn : numsV v) : Calls Try.prog 28 #[x] w fun e w' => (∃ s r, e = .returned (.tuple #[.int .u64 s, .int .i64 r]) ∧ IntKind.i64.wrap s = sumK v) ∧ Below w.heap.size w w' := by
  cases hok : okB v with
  | false => exact (sum_bad h hok).mono fun e w' ⟨he, hb⟩ => ⟨⟨_, _, he, by unfold sumK; rw [hok]; rfl⟩, hb⟩
  | true => exact (sum_ok h hn hok).mono fun e w' ⟨he, hb⟩ => ⟨⟨_, _, he, by unfold sumK; rw [if_pos hok]⟩, hb⟩
/-- The third map: "a" under "b". -/
theorem ab_ok : okB (.text ⟨#[97]⟩) = true ∧ okB (.text ⟨#[98]⟩) = true := ⟨by decide, by decide⟩
def AbMap (w0 W : World) (mc : Nat) : Prop := ∃ o l, MapW w0.heap.size W mc o l ∧ ∀ p ∈ l, p.k = .text ⟨#[97]⟩ ∧ p.v = .text ⟨#[98]⟩
theorem AbMap.below {w0 W X : World} {mc : Nat} (h : AbMap w0 W mc) (hb : Below W.heap.size W X) : AbMap w0 X mc := by
  obtain ⟨o, l, h1, h2⟩ := h; exact ⟨o, l, h1.below hb, h2⟩
theorem putW_turns {B m : Nat} {o : Option Nat} {l : List PE} {w w1 : World} {k v : Val} {e : Ending} (h : PutW B m o l k v w e w1) : But (OfM m o l) w w1 := by
  rcases h with ⟨-, -, -, h⟩ | ⟨-, -, -, h⟩ | ⟨-, -, -, -, -, -, h⟩ | ⟨-, -, _, _, _, _, _, -, -, h, -⟩ <;> first | exact h | exact h.2
theorem ab_put (w0 : World) : Calls Try.prog 16 #[.pointer (some ⟨w0.heap.size, 0, none⟩), .iface 9 (.string ⟨#[97]⟩), .iface 9 (.string ⟨#[98]⟩)] (w0.alloc (.cells #[.map none] 49)) fun e W =>
    e = .returned (.tuple #[.nilIface, .bool false, .int .i64 0]) ∧ (∃ o l, MapW w0.heap.size W w0.heap.size o l ∧ (∀ p ∈ l, p.k = .text ⟨#[97]⟩ → p.v = .text ⟨#[98]⟩) ∧ ∃ p ∈ l, p.k = .text ⟨#[97]⟩) ∧ Below w0.heap.size w0 W := by
  have hb0 : Below w0.heap.size w0 (w0.alloc (.cells #[.map none] 49)) := (Below.refl _ _).alloc (Nat.le_refl _) _
  have hm := MapW.made w0 (Nat.le_refl w0.heap.size)
  refine (mapW_put hm (k := .text ⟨#[97]⟩) (v := .text ⟨#[98]⟩) (fs := []) (gs := []) ⟨rfl, by decide, rfl⟩ (by simp [numsV]) ⟨rfl, by decide, rfl⟩ (by simp [numsV]) (fun h => by cases h) (fun h => by cases h)).mono fun e W hP => ?_
  have hbut := putW_turns hP
  have hbel : Below w0.heap.size w0 W := hb0.trans (But.below' hbut hb0.size (fun i hi hs => by have := (hm.lt i hs).1; omega))
  rcases hP with ⟨hk, -⟩ | ⟨-, hv, -⟩ | ⟨-, -, -, hf, -⟩ | ⟨hk, hv, o', a, c, ga, gc, hm1, -, -, -, hans⟩
  · rw [ab_ok.1] at hk; cases hk
  · rw [ab_ok.2] at hv; cases hv
  · simp at hf
  · refine ⟨?_, ⟨o', _, hm1, fun p hp _ => ?_, _, List.mem_append_right _ (List.mem_singleton_self _), rfl⟩, hbel⟩
    · rcases hans with ⟨p, hp, -⟩ | ⟨-, -, rfl⟩
      · cases hp
      · rfl
    · rcases List.mem_append.1 hp with hp | hp
      · cases (lessM_mem.1 hp).1
      · rw [List.mem_singleton.1 hp]
theorem ab_get {w0 W : World} {mc : Nat} (h : ∃ o l, MapW w0.heap.size W mc o l ∧ (∀ p ∈ l, p.k = .text ⟨#[97]⟩ → p.v = .text ⟨#[98]⟩) ∧ ∃ p ∈ l, p.k = .text ⟨#[97]⟩) :
    Calls Try.prog 22 #[.pointer (some ⟨mc, 0, none⟩), .iface 9 (.string ⟨#[97]⟩)] W fun e W' => e = .returned (.tuple #[.iface 9 (.string ⟨#[98]⟩), .bool true]) ∧ Below W.heap.size W W' := by
  obtain ⟨o, l, hm, hv, q, hq, hqk⟩ := h
  refine (mapW_get hm (v := .text ⟨#[97]⟩) (fs := []) ⟨rfl, by decide, rfl⟩ (by simp [numsV])).mono fun e W' hG => ?_
  rcases hG with ⟨p, hp, hpk, y, gy, rfl, hy, -, -, hb⟩ | ⟨hno, -⟩
  · rw [hv p hp hpk] at hy
    obtain ⟨rfl, -, -⟩ := hy
    exact ⟨rfl, hb⟩
  · exact absurd hqk (hno q hq ab_ok.1)
@[go_sem] theorem eql_bb (W : World) : (binOp .eql 20 (.iface 9 (.string ⟨#[98]⟩)) (.iface 9 (.string ⟨#[98]⟩))).run Try.prog W = .ok (.bool true) W := by kernel_rfl
end Go.Proofs.Ytgmdbpplfjkjmaa
