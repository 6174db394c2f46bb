/- object.OwnerOf and Give, of an object that was made. -/
import Derived.Test.YtpcbdjfonmohaaaMade
namespace Go.Proofs.Ytpcbdjfonmohaaa
open Go.RowKit
set_option linter.unusedVariables false
set_option linter.unusedSimpArgs false

theorem owner_enters : ∀ (args : Array Value) (W : World), (callFunc 179 args).run Try.prog W = .ok (.enter 179 args) W := fun _ _ => by kernel_rfl
theorem gives_enters : ∀ (args : Array Value) (W : World), (callFunc 178 args).run Try.prog W = .ok (.enter 178 args) W := fun _ _ => by kernel_rfl
theorem owner1_enters : ∀ (args : Array Value) (W : World), (callFunc 88 args).run Try.prog W = .ok (.enter 88 args) W := fun _ _ => by kernel_rfl
theorem give1_enters : ∀ (args : Array Value) (W : World), (callFunc 90 args).run Try.prog W = .ok (.enter 90 args) W := fun _ _ => by kernel_rfl
theorem same_but {B cb : Nat} {w W : World} (h : But (· = cb) w W) : SameBut B cb w W := fun b _ h2 h3 => h.block b h2 h3
theorem cell_in {w : World} {p : Addr} {v : Value} (h : w.cell? p = some v) : p.block < w.heap.size := by
  rcases Nat.lt_or_ge p.block w.heap.size with h1 | h1
  · exact h1
  · have h2 : w.heap[p.block]? = none := by simpa using h1
    simp [World.cell?, h2] at h
/-- New blocks and nothing else. -/
theorem but_alloc (cb : Nat) {a w : World} (h : But (· = cb) a w) (o : Obj) : But (· = cb) a (w.alloc o) := h.alloc o
section
variable {T : TypeId} {v : Value} {B cb : Nat} {c : CoreS}
set_option maxRecDepth 100000 in
theorem owner1_said (b5 ob : Nat) (w : World) (h : CoreAt w cb c) (hr : 0 ≤ c.n5 ∧ c.n5 < 1000) (hm : ∀ n, (method (n + 1) T v "Owner").run Try.prog w = .ok (179, .agg #[.pointer (some ⟨cb, 0, none⟩)]) w)
    (h5 : w.cell? ⟨b5, 0, none⟩ = some (.iface T v)) (ho : w.cell? ⟨ob, 0, none⟩ = some (.string ⟨#[]⟩)) (fo : w.frozen? ⟨ob, 0, none⟩ = false) (hne : ¬ ob = cb) :
    Calls Try.prog 88 #[.pointer (some ⟨b5, 0, none⟩), .pointer (some ⟨ob, 0, none⟩)] w fun e w' => e = .returned (.tuple #[]) ∧ ∃ w1, w' = w1.setCell ⟨ob, 0, none⟩ (.string c.owner) ∧ CoreAt w1 cb { c with n5 := c.n5 + 1 } ∧ But (· = cb) w w1 := by
  have hF := owner_enters
  have hc := Lib.hid (owner_said cb c w h hr)
  have l5 := cell_in h5
  have lo := cell_in ho
  clear h hr
  go_enter Try.func88, Try.ntmps88
  go_wp2_with fail
  refine hc.out.mono ?_
  rintro e w1 ⟨rfl, h1, hb⟩
  have qo := (hb.cell (p := ⟨ob, 0, none⟩) lo hne).trans ho
  have zo := (hb.frozen (p := ⟨ob, 0, none⟩) lo hne).trans fo
  have hfin := Lib.hid (And.intro h1 hb)
  clear h1 hb hc h5 ho fo hm
  go_wp2_with fail
  go_end0
  exact ⟨rfl, w1, rfl, hfin.out⟩
set_option maxRecDepth 100000 in
theorem asked_owner (w w6 : World) (hw6 : w6 = (w.alloc (.cells #[.iface T v] 148)).alloc (.cells #[.string ⟨#[]⟩] 9)) (h : CoreAt w cb c) (hr : 0 ≤ c.n5 ∧ c.n5 < 1000)
    (hm : ∀ W, But (· = cb) w W → ∀ n, (method (n + 1) T v "Owner").run Try.prog W = .ok (179, .agg #[.pointer (some ⟨cb, 0, none⟩)]) W) :
    Calls Try.prog 87 #[.func (.func 88) #[] #[.pointer (some ⟨w.heap.size, 0, none⟩), .pointer (some ⟨w.heap.size + 1, 0, none⟩)]] w6 fun e w' => e = .returned (.int .i64 0) ∧ w'.cell? ⟨w.heap.size + 1, 0, none⟩ = some (.string c.owner) ∧ CoreAt w' cb { c with n5 := c.n5 + 1 } ∧ But (· = cb) w w' := by
  have hlt := h.lt
  have hs6 : w6.heap.size = w.heap.size + 2 := by rw [hw6]; simp
  have hb6 : But (· = cb) w w6 := by rw [hw6]; exact ((But.refl _ _).alloc _).alloc _
  have e5 : w6.heap[w.heap.size]? = some (.cells #[.iface T v] 148 (0, 0)) := by rw [hw6, Below.heap_alloc _ _ _ (by simp)]; exact heap_alloc_new _ _
  have eo : w6.heap[w.heap.size + 1]? = some (.cells #[.string ⟨#[]⟩] 9 (0, 0)) := by rw [hw6]; exact heap_alloc_at _ (by simp)
  have h6 : CoreAt w6 cb c := h.but (S := fun _ => False) (by rw [hw6]; exact ((But.refl _ _).alloc _).alloc _) id
  have hc6 : CoreAt (caughtW w6) cb c := h6.but (S := fun _ => False) ((But.refl _ _).alloc _) id
  have d5 : (caughtW w6).heap[w.heap.size]? = _ := (Below.heap_alloc w6 _ _ (by omega)).trans e5
  have d_o : (caughtW w6).heap[w.heap.size + 1]? = _ := (Below.heap_alloc w6 _ _ (by omega)).trans eo
  have dk : (caughtW w6).heap[w6.heap.size]? = _ := heap_alloc_new w6 (.cells #[.bool true] 4)
  refine (asked_ret 88 _ w6 (fun w' => ∃ w1, w' = w1.setCell ⟨w.heap.size + 1, 0, none⟩ (.string c.owner) ∧ CoreAt w1 cb { c with n5 := c.n5 + 1 } ∧ But (· = cb) (caughtW w6) w1) owner1_enters
    ((owner1_said w.heap.size (w.heap.size + 1) (caughtW w6) hc6 hr (hm _ (hb6.alloc _)) (row_block d5 rfl) (row_block d_o rfl) (frozen_of' d_o 0) (by omega)).mono fun e w' ⟨he, w1, hw', h1, hb1⟩ => ⟨⟨_, he⟩, ?_, w1, hw', h1, hb1⟩)).mono ?_
  · rw [hw']
    exact (Below.heap_setCell _ _ _ _ (show w6.heap.size ≠ w.heap.size + 1 by omega)).trans ((hb1.block _ (by simp [caughtW]) (by omega)).trans dk)
  · rintro e w'' ⟨he, w', ⟨w1, hw', h1, hb1⟩, hw''⟩
    have hsz := hb1.size
    have hsz2 : (caughtW w6).heap.size = w.heap.size + 3 := by simp [caughtW]; omega
    have q1 : w1.heap[w.heap.size + 1]? = some (.cells #[.string ⟨#[]⟩] 9 (0, 0)) := (hb1.block _ (by omega) (by omega)).trans d_o
    have q2 := setCell_block q1 0 (.string c.owner)
    have q3 : w''.heap[w.heap.size + 1]? = some (.cells #[.string c.owner] 9 (0, 0)) := by
      rw [hw'', hw']
      exact (Below.heap_setCell _ _ _ _ (show w.heap.size + 1 ≠ w6.heap.size by omega)).trans q2
    have hbx : But (fun b => w.heap.size ≤ b) w1 w'' := by
      rw [hw'', hw']
      exact ((But.refl (fun b => w.heap.size ≤ b) w1).setCell (p := ⟨w.heap.size + 1, 0, none⟩) (fun _ => by show w.heap.size ≤ w.heap.size + 1; omega) _).setCell (p := ⟨w6.heap.size, 0, none⟩) (fun _ => by show w.heap.size ≤ w6.heap.size; omega) _
    exact ⟨he, row_block q3 rfl, h1.but hbx (by omega), ((hb6.alloc _).trans hb1).then hbx (fun i h1 h2 => absurd h2 (by omega))⟩
set_option maxRecDepth 100000 in
theorem ownerOf_said (w : World) (h : CoreAt w cb c) (hr : 0 ≤ c.n5 ∧ c.n5 < 1000) (ha : Able 148 ownedMs (.iface T v) B cb w) :
    Calls Try.prog 43 #[.iface T v] w fun e w' => e = .returned (.tuple #[.string (if nameOk c.owner = true then c.owner else ⟨#[]⟩), .bool true, .int .i64 (if nameOk c.owner = true then 0 else 8)]) ∧ CoreAt w' cb { c with n5 := c.n5 + 1 } ∧ But (· = cb) w w' := by
  obtain ⟨T', v', e, hT, hta, hms⟩ := ha
  injection e with e1 e2
  subst e1
  subst e2
  have hm : ∀ W, But (· = cb) w W → ∀ n, (method (n + 1) T v "Owner").run Try.prog W = .ok (179, .agg #[.pointer (some ⟨cb, 0, none⟩)]) W := fun W hb n => hms ("Owner", _) (by simp [ownedMs]) W (same_but hb) n
  obtain ⟨w6, hw6⟩ : ∃ w6, w6 = (w.alloc (.cells #[.iface T v] 148)).alloc (.cells #[.string ⟨#[]⟩] 9) := ⟨_, rfl⟩
  have has := Lib.hid (asked_owner w w6 hw6 h hr hm)
  have hho := Lib.hid (fun W => holds_other W T hT v)
  clear hms hm h hr hT
  go_enter Try.func43, Try.ntmps43
  go_wp2_with (go_at_call 86; refine (hho.out _).mono ?_; rintro e w' ⟨rfl, hw'⟩; rw [hw']; clear hw')
  rw [← hw6]
  clear hw6
  refine has.out.mono ?_
  rintro e w7 ⟨rfl, hco, h7, hb7⟩
  have hin := Lib.hid (isName_any c.owner w7)
  have hfin := Lib.hid (And.intro h7 hb7)
  clear h7 hb7 has
  go_wp2_with fail
  refine hin.out.mono ?_
  rintro e w8 ⟨rfl, hb8⟩
  have hco8 := (hb8.cell (p := ⟨w.heap.size + 1, 0, none⟩) (cell_in hco)).trans hco
  have hend : CoreAt w8 cb { c with n5 := c.n5 + 1 } ∧ But (· = cb) w w8 := ⟨hfin.out.1.but (S := fun _ => False) ((But.refl _ _).of_below hb8 (fun i h1 h2 => absurd h2 (by omega))) id, hfin.out.2.of_below hb8 (fun i h1 h2 => absurd h2 (by have := hfin.out.2.size; omega))⟩
  have hendH := Lib.hid hend
  clear hend hb8
  cases hn : nameOk c.owner with
  | true =>
    go_wp2_with fail
    go_ret3
    exact ⟨by simp, hendH.out⟩
  | false =>
    go_wp2_with fail
    all_goals go_ret3
    all_goals exact ⟨by simp_all, hendH.out⟩
set_option maxRecDepth 100000 in
theorem give1_said (b5 b3 ab : Nat) (to : ByteArray) (w : World) (h : CoreAt w cb c) (hr : 0 ≤ c.n6 ∧ c.n6 < 1000) (hm : ∀ n, (method (n + 1) T v "Give").run Try.prog w = .ok (178, .agg #[.pointer (some ⟨cb, 0, none⟩)]) w)
    (h5 : w.cell? ⟨b5, 0, none⟩ = some (.iface T v)) (h3 : w.cell? ⟨b3, 0, none⟩ = some (.string to)) (ho : w.cell? ⟨ab, 0, none⟩ = some (.int .i64 0)) (fo : w.frozen? ⟨ab, 0, none⟩ = false) (hne : ¬ ab = cb) :
    Calls Try.prog 90 #[.pointer (some ⟨b5, 0, none⟩), .pointer (some ⟨b3, 0, none⟩), .pointer (some ⟨ab, 0, none⟩)] w fun e w' => e = .returned (.tuple #[]) ∧ ∃ w1, w' = w1.setCell ⟨ab, 0, none⟩ (.int .i64 c.gives) ∧ CoreAt w1 cb { c with n6 := c.n6 + 1, owner := if c.gives = 0 then to else c.owner } ∧ But (· = cb) w w1 := by
  have hF := gives_enters
  have hc := Lib.hid (gave_said cb c w to h hr)
  have lo := cell_in ho
  generalize hd : ({ c with n6 := c.n6 + 1, owner := if c.gives = 0 then to else c.owner } : CoreS) = d at hc ⊢
  clear h hr hd
  go_enter Try.func90, Try.ntmps90
  go_wp2_with fail
  refine hc.out.mono ?_
  rintro e w1 ⟨rfl, h1, hb⟩
  have qo := (hb.cell (p := ⟨ab, 0, none⟩) lo hne).trans ho
  have zo := (hb.frozen (p := ⟨ab, 0, none⟩) lo hne).trans fo
  have hfin := Lib.hid (And.intro h1 hb)
  clear h1 hb hc h5 h3 ho fo hm
  go_wp2_with fail
  go_end0
  exact ⟨rfl, w1, rfl, hfin.out⟩
set_option maxRecDepth 100000 in
theorem asked_give (w w6 : World) (b3 : Nat) (to : ByteArray) (hw6 : w6 = (w.alloc (.cells #[.iface T v] 148)).alloc (.cells #[.int .i64 0] 22)) (h : CoreAt w cb c) (hr : 0 ≤ c.n6 ∧ c.n6 < 1000) (h3 : w.cell? ⟨b3, 0, none⟩ = some (.string to))
    (hm : ∀ W, But (· = cb) w W → ∀ n, (method (n + 1) T v "Give").run Try.prog W = .ok (178, .agg #[.pointer (some ⟨cb, 0, none⟩)]) W) :
    Calls Try.prog 87 #[.func (.func 90) #[] #[.pointer (some ⟨w.heap.size, 0, none⟩), .pointer (some ⟨b3, 0, none⟩), .pointer (some ⟨w.heap.size + 1, 0, none⟩)]] w6 fun e w' => e = .returned (.int .i64 0) ∧ w'.cell? ⟨w.heap.size + 1, 0, none⟩ = some (.int .i64 c.gives) ∧ CoreAt w' cb { c with n6 := c.n6 + 1, owner := if c.gives = 0 then to else c.owner } ∧ But (· = cb) w w' := by
  have hlt := h.lt
  have hl3 := cell_in h3
  have hs6 : w6.heap.size = w.heap.size + 2 := by rw [hw6]; simp
  have hb6 : But (· = cb) w w6 := by rw [hw6]; exact ((But.refl _ _).alloc _).alloc _
  have hn6 : But (fun _ => False) w (caughtW w6) := by rw [hw6]; exact (((But.refl _ _).alloc _).alloc _).alloc _
  have e5 : w6.heap[w.heap.size]? = some (.cells #[.iface T v] 148 (0, 0)) := by rw [hw6, Below.heap_alloc _ _ _ (by simp)]; exact heap_alloc_new _ _
  have eo : w6.heap[w.heap.size + 1]? = some (.cells #[.int .i64 0] 22 (0, 0)) := by rw [hw6]; exact heap_alloc_at _ (by simp)
  have hc6 : CoreAt (caughtW w6) cb c := h.but hn6 id
  have d5 : (caughtW w6).heap[w.heap.size]? = _ := (Below.heap_alloc w6 _ _ (by omega)).trans e5
  have d_o : (caughtW w6).heap[w.heap.size + 1]? = _ := (Below.heap_alloc w6 _ _ (by omega)).trans eo
  have dk : (caughtW w6).heap[w6.heap.size]? = _ := heap_alloc_new w6 (.cells #[.bool true] 4)
  refine (asked_ret 90 _ w6 (fun w' => ∃ w1, w' = w1.setCell ⟨w.heap.size + 1, 0, none⟩ (.int .i64 c.gives) ∧ CoreAt w1 cb { c with n6 := c.n6 + 1, owner := if c.gives = 0 then to else c.owner } ∧ But (· = cb) (caughtW w6) w1) give1_enters
    ((give1_said w.heap.size b3 (w.heap.size + 1) to (caughtW w6) hc6 hr (hm _ (hb6.alloc _)) (row_block d5 rfl) ((hn6.cell (p := ⟨b3, 0, none⟩) hl3 id).trans h3) (row_block d_o rfl) (frozen_of' d_o 0) (by omega)).mono fun e w' ⟨he, w1, hw', h1, hb1⟩ => ⟨⟨_, he⟩, ?_, w1, hw', h1, hb1⟩)).mono ?_
  · rw [hw']
    exact (Below.heap_setCell _ _ _ _ (show w6.heap.size ≠ w.heap.size + 1 by omega)).trans ((hb1.block _ (by simp [caughtW]) (by omega)).trans dk)
  · rintro e w'' ⟨he, w', ⟨w1, hw', h1, hb1⟩, hw''⟩
    have hsz := hb1.size
    have hsz2 : (caughtW w6).heap.size = w.heap.size + 3 := by simp [caughtW]; omega
    have q1 : w1.heap[w.heap.size + 1]? = some (.cells #[.int .i64 0] 22 (0, 0)) := (hb1.block _ (by omega) (by omega)).trans d_o
    have q2 := setCell_block q1 0 (.int .i64 c.gives)
    have q3 : w''.heap[w.heap.size + 1]? = some (.cells #[.int .i64 c.gives] 22 (0, 0)) := by
      rw [hw'', hw']
      exact (Below.heap_setCell _ _ _ _ (show w.heap.size + 1 ≠ w6.heap.size by omega)).trans q2
    have hbx : But (fun b => w.heap.size ≤ b) w1 w'' := by
      rw [hw'', hw']
      exact ((But.refl (fun b => w.heap.size ≤ b) w1).setCell (p := ⟨w.heap.size + 1, 0, none⟩) (fun _ => by show w.heap.size ≤ w.heap.size + 1; omega) _).setCell (p := ⟨w6.heap.size, 0, none⟩) (fun _ => by show w.heap.size ≤ w6.heap.size; omega) _
    exact ⟨he, row_block q3 rfl, h1.but hbx (by omega), ((hb6.alloc _).trans hb1).then hbx (fun i h1 h2 => absurd h2 (by omega))⟩
set_option maxRecDepth 100000 in
theorem give_no (w : World) (to : ByteArray) (hn : nameOk to = false) (h : CoreAt w cb c) (ha : Able 148 ownedMs (.iface T v) B cb w) :
    Calls Try.prog 44 #[.iface T v, .string to] w fun e w' => e = .returned (.int .i64 8) ∧ CoreAt w' cb c ∧ But (· = cb) w w' := by
  obtain ⟨T', v', e, hT, hta, hms⟩ := ha
  injection e with e1 e2
  subst e1
  subst e2
  obtain ⟨w1, hw1⟩ : ∃ w1, w1 = w.alloc (.cells #[.string to] 9) := ⟨_, rfl⟩
  have h1 : CoreAt w1 cb c := by rw [hw1]; exact h.but (S := fun _ => False) ((But.refl _ _).alloc _) id
  have hb1 : But (· = cb) w w1 := by rw [hw1]; exact (But.refl _ _).alloc _
  have hin := Lib.hid (isName_any to w1)
  rw [hn] at hin
  have hho := Lib.hid (fun W => holds_other W T hT v)
  clear hms h hT hn
  go_enter Try.func44, Try.ntmps44
  go_wp2_with (go_at_call 86; refine (hho.out _).mono ?_; rintro e w' ⟨rfl, hw'⟩; rw [hw']; clear hw')
  rw [← hw1]
  clear hw1
  refine hin.out.mono ?_
  rintro e w8 ⟨rfl, hb8⟩
  have hend : CoreAt w8 cb c ∧ But (· = cb) w w8 := ⟨h1.but (S := fun _ => False) ((But.refl _ _).of_below hb8 (fun i h1 h2 => absurd h2 (by omega))) id, hb1.of_below hb8 (fun i h1 h2 => absurd h2 (by have := hb1.size; omega))⟩
  have hendH := Lib.hid hend
  clear hend hb8 hb1 h1
  go_wp2_with fail
  go_ret
  exact ⟨rfl, hendH.out⟩
set_option maxRecDepth 100000 in
theorem give_yes (w : World) (to : ByteArray) (hn : nameOk to = true) (h : CoreAt w cb c) (hr : 0 ≤ c.n6 ∧ c.n6 < 1000) (ha : Able 148 ownedMs (.iface T v) B cb w) :
    Calls Try.prog 44 #[.iface T v, .string to] w fun e w' => e = .returned (.int .i64 c.gives) ∧ CoreAt w' cb { c with n6 := c.n6 + 1, owner := if c.gives = 0 then to else c.owner } ∧ But (· = cb) w w' := by
  obtain ⟨T', v', e, hT, hta, hms⟩ := ha
  injection e with e1 e2
  subst e1
  subst e2
  have hm : ∀ W, But (· = cb) w W → ∀ n, (method (n + 1) T v "Give").run Try.prog W = .ok (178, .agg #[.pointer (some ⟨cb, 0, none⟩)]) W := fun W hb n => hms ("Give", _) (by simp [ownedMs]) W (same_but hb) n
  obtain ⟨w1, hw1⟩ : ∃ w1, w1 = w.alloc (.cells #[.string to] 9) := ⟨_, rfl⟩
  have h1 : CoreAt w1 cb c := by rw [hw1]; exact h.but (S := fun _ => False) ((But.refl _ _).alloc _) id
  have hb1 : But (· = cb) w w1 := by rw [hw1]; exact (But.refl _ _).alloc _
  have c1 : w1.cell? ⟨w.heap.size, 0, none⟩ = some (.string to) := by rw [hw1]; exact row_block (heap_alloc_new _ _) rfl
  have hin := Lib.hid (isName_any to w1)
  rw [hn] at hin
  have hho := Lib.hid (fun W => holds_other W T hT v)
  obtain ⟨ow2, how⟩ : ∃ d : CoreS, d = { c with n6 := c.n6 + 1, owner := if c.gives = 0 then to else c.owner } := ⟨_, rfl⟩
  have hasF := Lib.hid (fun (w2 w6 : World) (hb : But (· = cb) w w2) (hw6 : w6 = (w2.alloc (.cells #[.iface T v] 148)).alloc (.cells #[.int .i64 0] 22)) (h2 : CoreAt w2 cb c) (h3 : w2.cell? ⟨w.heap.size, 0, none⟩ = some (.string to)) => asked_give w2 w6 w.heap.size to hw6 h2 hr h3 (fun W hbW => hm W (hb.trans hbW)))
  rw [← how] at hasF ⊢
  have hl1 : w.heap.size < w1.heap.size := by rw [hw1]; simp
  clear hms hm h hr hT hn how
  go_enter Try.func44, Try.ntmps44
  go_wp2_with (go_at_call 86; refine (hho.out _).mono ?_; rintro e w' ⟨rfl, hw'⟩; rw [hw']; clear hw')
  rw [← hw1]
  clear hw1
  refine hin.out.mono ?_
  rintro e w2 ⟨rfl, hb8⟩
  have h2 : CoreAt w2 cb c := h1.but (S := fun _ => False) ((But.refl _ _).of_below hb8 (fun i h1 h2 => absurd h2 (by omega))) id
  have hb2 : But (· = cb) w w2 := hb1.of_below hb8 (fun i h1 h2 => absurd h2 (by have := hb1.size; omega))
  have c2 := (hb8.cell (p := ⟨w.heap.size, 0, none⟩) hl1).trans c1
  obtain ⟨w6, hw6⟩ : ∃ w6, w6 = (w2.alloc (.cells #[.iface T v] 148)).alloc (.cells #[.int .i64 0] 22) := ⟨_, rfl⟩
  have has := Lib.hid (hasF.out w2 w6 hb2 hw6 h2 c2)
  have hb2H := Lib.hid hb2
  clear hb1 h1 hb8 c1 c2 h2 hb2 hasF hin
  go_wp2_with fail
  rw [← hw6]
  clear hw6
  refine has.out.mono ?_
  rintro e w7 ⟨rfl, hco, h7, hb7⟩
  have hfin := Lib.hid (And.intro h7 (hb2H.out.trans hb7))
  clear h7 hb7 has
  go_wp2_with fail
  go_ret
  exact ⟨rfl, hfin.out⟩
end
end Go.Proofs.Ytpcbdjfonmohaaa
