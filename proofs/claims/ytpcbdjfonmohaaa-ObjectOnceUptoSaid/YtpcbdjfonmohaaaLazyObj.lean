/- object.Load, of an object that was made. -/
import Derived.Test.YtpcbdjfonmohaaaGive
namespace Go.Proofs.Ytpcbdjfonmohaaa
open Go.RowKit
set_option linter.unusedVariables false
set_option linter.unusedSimpArgs false

theorem loaded_enters : ∀ (args : Array Value) (W : World), (callFunc 181 args).run Try.prog W = .ok (.enter 181 args) W := fun _ _ => by kernel_rfl
theorem loads_enters : ∀ (args : Array Value) (W : World), (callFunc 180 args).run Try.prog W = .ok (.enter 180 args) W := fun _ _ => by kernel_rfl
theorem load1_enters : ∀ (args : Array Value) (W : World), (callFunc 113 args).run Try.prog W = .ok (.enter 113 args) W := fun _ _ => by kernel_rfl
/-- What a Load makes of the core, and what it answers. -/
def stepC (c : CoreS) : CoreS := if c.loaded = true then { c with n7 := c.n7 + 1 } else { c with n7 := c.n7 + 1, n8 := c.n8 + 1, loaded := c.loads == 0 }
def ansC (c : CoreS) : Int := if c.loaded = true then 0 else c.loads
section
variable {T : TypeId} {v : Value} {B cb : Nat} {c : CoreS}
set_option maxRecDepth 100000 in
theorem load1_said (b5 ab : Nat) (w : World) (h : CoreAt w cb c) (hr7 : 0 ≤ c.n7 ∧ c.n7 < 1000) (hr8 : 0 ≤ c.n8 ∧ c.n8 < 1000)
    (hm : ∀ W, But (· = cb) w W → ∀ n, (method (n + 1) T v "Loaded").run Try.prog W = .ok (181, .agg #[.pointer (some ⟨cb, 0, none⟩)]) W)
    (hm2 : ∀ W, But (· = cb) w W → ∀ n, (method (n + 1) T v "Load").run Try.prog W = .ok (180, .agg #[.pointer (some ⟨cb, 0, none⟩)]) W)
    (h5 : w.cell? ⟨b5, 0, none⟩ = some (.iface T v)) (hn5 : ¬ b5 = cb) (ho : w.heap[ab]? = some (.cells #[.int .i64 0] 22 (0, 0))) (hne : ¬ ab = cb) :
    Calls Try.prog 113 #[.pointer (some ⟨b5, 0, none⟩), .pointer (some ⟨ab, 0, none⟩)] w fun e w' => e = .returned (.tuple #[]) ∧ CoreAt w' cb (stepC c) ∧ w'.heap[ab]? = some (.cells #[.int .i64 (ansC c)] 22 (0, 0)) ∧ But (fun b => b = cb ∨ b = ab) w w' := by
  have hF := loaded_enters
  have hF2 := loads_enters
  have hc := Lib.hid (loaded_said cb c w h hr7)
  have l5 := cell_in h5
  have lo : ab < w.heap.size := (Array.getElem?_eq_some_iff.1 ho).1
  have m1 := fun (n : Nat) => hm w (But.refl _ _) n
  have hm2H := Lib.hid hm2
  have h5H := Lib.hid h5
  have hoH := Lib.hid ho
  clear h hr7 hm hm2 ho
  cases hl : c.loaded with
  | true =>
    rw [hl] at hc
    have es : stepC c = { c with n7 := c.n7 + 1, loaded := true } := by unfold stepC; rw [if_pos hl, ← hl]
    have ea : ansC c = 0 := by unfold ansC; rw [if_pos hl]
    rw [es, ea]
    clear hl es ea
    go_enter Try.func113, Try.ntmps113
    go_wp2_with fail
    refine hc.out.mono ?_
    rintro e w1 ⟨rfl, h1, hb⟩
    have hq := (hb.block _ lo hne).trans hoH.out
    have hfin := Lib.hid (And.intro h1 (And.intro hq (hb.mono (T := fun b => b = cb ∨ b = ab) (fun k _ h => .inl h))))
    clear h1 hb hq hc h5 m1
    go_wp2_with fail
    go_end0
    exact ⟨rfl, hfin.out⟩
  | false =>
    rw [hl] at hc
    have es : stepC c = { c with n7 := c.n7 + 1, n8 := c.n8 + 1, loaded := c.loads == 0 } := by unfold stepC; rw [if_neg (by rw [hl]; decide)]
    have ea : ansC c = c.loads := by unfold ansC; rw [if_neg (by rw [hl]; decide)]
    rw [es, ea]
    clear es ea hl
    go_enter Try.func113, Try.ntmps113
    go_wp2_with fail
    refine hc.out.mono ?_
    rintro e w1 ⟨rfl, h1, hb⟩
    have q5 := (hb.cell (p := ⟨b5, 0, none⟩) l5 hn5).trans h5H.out
    have m2 := fun (n : Nat) => hm2H.out w1 hb n
    have hc2 := Lib.hid (load_said cb _ w1 h1 hr8)
    have hbH := Lib.hid hb
    clear h1 hb hc h5 m1
    go_wp2_with fail
    refine hc2.out.mono ?_
    rintro e w2 ⟨rfl, h2, hb2⟩
    have hb3 := hbH.out.trans hb2
    have hq := (hb3.block _ lo hne).trans hoH.out
    have qo := row_block hq (k := 0) (v := .int .i64 0) rfl
    have zo := frozen_of' hq 0
    have hq2 := setCell_block hq 0 (.int .i64 c.loads)
    have hb4 : But (fun b => b = cb ∨ b = ab) w (w2.setCell ⟨ab, 0, none⟩ (.int .i64 c.loads)) := (hb3.mono (T := fun b => b = cb ∨ b = ab) (fun k _ h => .inl h)).setCell (p := ⟨ab, 0, none⟩) (fun _ => .inr rfl) _
    have h4 := h2.but (S := fun b => b = ab) ((But.refl (fun b => b = ab) w2).setCell (p := ⟨ab, 0, none⟩) (fun _ => rfl) (.int .i64 c.loads)) (fun h => hne h.symm)
    have hfin := Lib.hid (And.intro h4 (And.intro hq2 hb4))
    clear h2 hb2 hb3 hq hq2 hb4 h4 hc2 q5 m2
    go_wp2_with fail
    go_end0
    exact ⟨rfl, hfin.out⟩
set_option maxRecDepth 100000 in
theorem asked_load (w w6 : World) (hw6 : w6 = (w.alloc (.cells #[.iface T v] 207)).alloc (.cells #[.int .i64 0] 22)) (h : CoreAt w cb c) (hr7 : 0 ≤ c.n7 ∧ c.n7 < 1000) (hr8 : 0 ≤ c.n8 ∧ c.n8 < 1000)
    (hm : ∀ W, But (· = cb) w W → ∀ n, (method (n + 1) T v "Loaded").run Try.prog W = .ok (181, .agg #[.pointer (some ⟨cb, 0, none⟩)]) W)
    (hm2 : ∀ W, But (· = cb) w W → ∀ n, (method (n + 1) T v "Load").run Try.prog W = .ok (180, .agg #[.pointer (some ⟨cb, 0, none⟩)]) W) :
    Calls Try.prog 87 #[.func (.func 113) #[] #[.pointer (some ⟨w.heap.size, 0, none⟩), .pointer (some ⟨w.heap.size + 1, 0, none⟩)]] w6 fun e w' => e = .returned (.int .i64 0) ∧ w'.cell? ⟨w.heap.size + 1, 0, none⟩ = some (.int .i64 (ansC c)) ∧ CoreAt w' cb (stepC c) ∧ But (· = cb) w w' := by
  have hlt := h.lt
  have hs6 : w6.heap.size = w.heap.size + 2 := by rw [hw6]; simp
  have hb6 : But (· = cb) w w6 := by rw [hw6]; exact ((But.refl _ _).alloc _).alloc _
  have hn6 : But (fun _ => False) w (caughtW w6) := by rw [hw6]; exact (((But.refl _ _).alloc _).alloc _).alloc _
  have e5 : w6.heap[w.heap.size]? = some (.cells #[.iface T v] 207 (0, 0)) := by rw [hw6, Below.heap_alloc _ _ _ (by simp)]; exact heap_alloc_new _ _
  have eo : w6.heap[w.heap.size + 1]? = some (.cells #[.int .i64 0] 22 (0, 0)) := by rw [hw6]; exact heap_alloc_at _ (by simp)
  have hc6 : CoreAt (caughtW w6) cb c := h.but hn6 id
  have d5 : (caughtW w6).heap[w.heap.size]? = _ := (Below.heap_alloc w6 _ _ (by omega)).trans e5
  have d_o : (caughtW w6).heap[w.heap.size + 1]? = _ := (Below.heap_alloc w6 _ _ (by omega)).trans eo
  have dk : (caughtW w6).heap[w6.heap.size]? = _ := heap_alloc_new w6 (.cells #[.bool true] 4)
  refine (asked_ret 113 _ w6 (fun w' => CoreAt w' cb (stepC c) ∧ w'.heap[w.heap.size + 1]? = some (.cells #[.int .i64 (ansC c)] 22 (0, 0)) ∧ But (fun b => b = cb ∨ b = w.heap.size + 1) (caughtW w6) w') load1_enters
    ((load1_said w.heap.size (w.heap.size + 1) (caughtW w6) hc6 hr7 hr8 (fun W hW => hm W ((hb6.alloc _).trans hW)) (fun W hW => hm2 W ((hb6.alloc _).trans hW)) (row_block d5 rfl) (by omega) d_o (by omega)).mono fun e w' ⟨he, h1, h2, hb1⟩ => ⟨⟨_, he⟩, ?_, h1, h2, hb1⟩)).mono ?_
  · exact (hb1.block _ (by simp [caughtW]) (by rintro (h | h) <;> omega)).trans dk
  · rintro e w'' ⟨he, w', ⟨h1, h2, hb1⟩, hw''⟩
    have hsz := hb1.size
    have hsz2 : (caughtW w6).heap.size = w.heap.size + 3 := by simp [caughtW]; omega
    have q3 : w''.heap[w.heap.size + 1]? = some (.cells #[.int .i64 (ansC c)] 22 (0, 0)) := by
      rw [hw'']
      exact (Below.heap_setCell _ _ _ _ (show w.heap.size + 1 ≠ w6.heap.size by omega)).trans h2
    have hbx : But (fun b => b = w6.heap.size) w' w'' := by
      rw [hw'']
      exact (But.refl (fun b => b = w6.heap.size) w').setCell (p := ⟨w6.heap.size, 0, none⟩) (fun _ => rfl) _
    exact ⟨he, row_block q3 rfl, h1.but hbx (by omega), ((hb6.alloc _).then hb1 (fun i h1 h2 => by rcases h2 with h | h <;> omega)).then hbx (fun i h1 h2 => absurd h2 (by omega))⟩
set_option maxRecDepth 100000 in
theorem obj_load (w : World) (h : CoreAt w cb c) (hr7 : 0 ≤ c.n7 ∧ c.n7 < 1000) (hr8 : 0 ≤ c.n8 ∧ c.n8 < 1000) (ha : Able 207 lazyMs (.iface T v) B cb w) :
    Calls Try.prog 85 #[.iface T v] w fun e w' => e = .returned (.int .i64 (ansC c)) ∧ CoreAt w' cb (stepC c) ∧ But (· = cb) w w' := by
  obtain ⟨T', v', e, hT, hta, hms⟩ := ha
  injection e with e1 e2
  subst e1
  subst e2
  have hm : ∀ W, But (· = cb) w W → ∀ n, (method (n + 1) T v "Loaded").run Try.prog W = .ok (181, .agg #[.pointer (some ⟨cb, 0, none⟩)]) W := fun W hb n => hms ("Loaded", _) (by simp [lazyMs]) W (same_but hb) n
  have hm2 : ∀ W, But (· = cb) w W → ∀ n, (method (n + 1) T v "Load").run Try.prog W = .ok (180, .agg #[.pointer (some ⟨cb, 0, none⟩)]) W := fun W hb n => hms ("Load", _) (by simp [lazyMs]) W (same_but hb) n
  obtain ⟨w6, hw6⟩ : ∃ w6, w6 = (w.alloc (.cells #[.iface T v] 207)).alloc (.cells #[.int .i64 0] 22) := ⟨_, rfl⟩
  have has := Lib.hid (asked_load w w6 hw6 h hr7 hr8 hm hm2)
  have hho := Lib.hid (fun W => holds_other W T hT v)
  obtain ⟨a, ea⟩ : ∃ a, a = ansC c := ⟨_, rfl⟩
  obtain ⟨d, ed⟩ : ∃ d, d = stepC c := ⟨_, rfl⟩
  rw [← ea, ← ed] at has ⊢
  clear hms hm hm2 h hr7 hr8 hT ea ed
  go_enter Try.func85, Try.ntmps85
  go_wp2_with (go_at_call 86; refine (hho.out _).mono ?_; rintro e w' ⟨rfl, hw'⟩; rw [hw']; clear hw')
  rw [← hw6]
  clear hw6
  refine has.out.mono ?_
  rintro e w7 ⟨rfl, hco, h7, hb7⟩
  have hfin := Lib.hid (And.intro h7 hb7)
  clear h7 hb7 has
  go_wp2_with fail
  go_ret
  exact ⟨rfl, hfin.out⟩
set_option maxRecDepth 100000 in
theorem obj_Load (w : World) (h : CoreAt w cb c) (hr7 : 0 ≤ c.n7 ∧ c.n7 < 1000) (hr8 : 0 ≤ c.n8 ∧ c.n8 < 1000) (ha : Able 207 lazyMs (.iface T v) B cb w) :
    Calls Try.prog 42 #[.iface T v] w fun e w' => e = .returned (.int .i64 (ansC c)) ∧ CoreAt w' cb (stepC c) ∧ But (· = cb) w w' := by
  have hl := Lib.hid (obj_load w h hr7 hr8 ha)
  clear h hr7 hr8 ha
  obtain ⟨a, ea⟩ : ∃ a, a = ansC c := ⟨_, rfl⟩
  rw [← ea] at hl ⊢
  clear ea
  go_enter Try.func42, Try.ntmps42
  go_wp2_with fail
  refine hl.out.mono ?_
  rintro e w1 ⟨rfl, h1⟩
  have hfin := Lib.hid h1
  clear h1
  go_wp2_with fail
  go_ret
  exact ⟨rfl, hfin.out⟩
end
end Go.Proofs.Ytpcbdjfonmohaaa
