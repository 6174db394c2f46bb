/- object.Ask, load, Give of a Thing; Must of what it lacks. -/
import Derived.Test.YtpcbdjfonmohaaaObj
import Derived.Test.YtpcbdjfonmohaaaThing
namespace Go.Proofs.Ytpcbdjfonmohaaa
open Go.RowKit
set_option linter.unusedVariables false
set_option linter.unusedSimpArgs false

theorem thing_not_lazy (x : Value) (W : World) : (Instr.typeAssert (.iface 92 x) 74 207 true).run Try.prog W = .ok (.tuple #[.nilIface, .bool false]) W :=
  run_typeAssert_lacksB Try.underlying207 (by kernel_rfl) (by kernel_rfl) x _ W
theorem thing_not_owned (x : Value) (W : World) : (Instr.typeAssert (.iface 92 x) 74 148 true).run Try.prog W = .ok (.tuple #[.nilIface, .bool false]) W :=
  run_typeAssert_lacksB Try.underlying148 (by kernel_rfl) (by kernel_rfl) x _ W
section
variable (w : World) (a : Addr)
set_option maxRecDepth 100000 in
theorem load_thing : Calls Try.prog 85 #[.iface 92 (.pointer (some a))] w fun e w' => e = .returned (.int .i64 0) ∧ Below w.heap.size w w' := by
  have hl := fun W => thing_not_lazy (.pointer (some a)) W
  go_enter Try.func85, Try.ntmps85
  go_wp2_with (go_at_call 86; refine (holds_thing _ a).mono ?_; rintro e w' ⟨rfl, rfl⟩)
  go_ret
  exact ⟨rfl, (Below.refl _ _).alloc (Nat.le_refl _) _⟩
set_option maxRecDepth 100000 in
theorem give_thing (to : ByteArray) (hn : nameOk to = true) : Calls Try.prog 44 #[.iface 92 (.pointer (some a)), .string to] w fun e w' => e = .returned (.int .i64 100) ∧ Below w.heap.size w w' := by
  have hl := fun W => thing_not_owned (.pointer (some a)) W
  have hnm := Lib.hid (fun W => isName_any to W)
  rw [hn] at hnm
  clear hn
  go_enter Try.func44, Try.ntmps44
  go_wp2_with (go_at_call 86; refine (holds_thing _ a).mono ?_; rintro e w' ⟨rfl, rfl⟩)
  refine (hnm.out _).mono ?_
  rintro e w2 ⟨rfl, hb2⟩
  go_wp2
  go_ret
  have hb : Below w.heap.size w w2 := ((Below.refl w.heap.size w).alloc (Nat.le_refl _) _).trans (below_le hb2 (by simp))
  exact ⟨rfl, hb.alloc hb.size _⟩
end
theorem thing_method_get (a : Addr) (w : World) (n : Nat) : (method (n + 1) 92 (.pointer (some a)) "Get").run Try.prog w = .ok (52, .pointer (some a)) w := by kernel_rfl
theorem VRep.form {w : World} {v : Val} {x : Value} {fs : List Nat} (h : VRep w v x fs) : x = .nilIface ∨ ∃ u z, x = .iface u z := by
  cases v with
  | nil => exact .inl h.1
  | bool b => exact .inr ⟨_, _, h.1⟩
  | int n => exact .inr ⟨_, _, h.1⟩
  | float b => exact .inr ⟨_, _, h.1⟩
  | text s => exact .inr ⟨_, _, h.1⟩
  | bytes l => obtain ⟨sv, e, -⟩ := h; exact .inr ⟨_, _, e⟩
  | ref n => exact .inr ⟨_, _, h.1⟩
  | list l => obtain ⟨sv, xs, gs, e, -⟩ := h; exact .inr ⟨_, _, e⟩
  | dict d => obtain ⟨sv, xs, gs, e, -⟩ := h; exact .inr ⟨_, _, e⟩
  | record c n d => obtain ⟨b, sv, xs, gs, e, -⟩ := h; exact .inr ⟨_, _, e⟩
  | nothing => exact .inr ⟨_, _, h.1⟩
  | alien u => obtain ⟨y, e, -⟩ := h; exact .inr ⟨_, _, e⟩
/-- What a call leaves that told a value that can be. -/
def Told (v : Val) (w : World) (e : Ending) (w' : World) : Prop := ∃ y gy, e = .returned (.tuple #[y, .bool true]) ∧ VRep w' v y gy ∧ gy.Nodup ∧ (∀ b ∈ gy, w.heap.size ≤ b) ∧ Below w.heap.size w w'
theorem thing_told (tb : Nat) (d : List (ByteArray × Val)) (sv : Value) (xs : List Value) (gs : List Nat) (w : World) (name : ByteArray) (hsv : w.cell? ⟨tb, 1, none⟩ = some sv) (hown0 : w.ownsRow 0 133 2 sv d.length xs) (hd0 : DsRep w d xs gs) {v : Val} (hf : fieldOf d name = some v) (hok : okB v = true) :
    Calls Try.prog 52 #[.pointer (some ⟨tb, 0, none⟩), .string name] w (Told v w) := by
  refine (thing_get tb d sv xs gs w name hsv hown0 hd0).mono fun e w' h => ?_
  rw [hf] at h
  obtain ⟨y, w1, he, hb1, hb2, -, h2⟩ := h
  obtain ⟨gy, hv, hn, hg⟩ := h2 hok
  exact ⟨y, gy, he, hv, hn, fun b hb => by have := hg b hb; have := hb1.size; omega, hb1.trans (below_le hb2 hb1.size)⟩
theorem thing_get_enters : ∀ (args : Array Value) (W : World), (callFunc 52 args).run Try.prog W = .ok (.enter 52 args) W := fun _ _ => by kernel_rfl
set_option maxRecDepth 100000 in
theorem ask1_told (b2 b3 b8 b9 : Nat) (tb : Nat) (name : ByteArray) (w : World) {v : Val} (h2 : w.cell? ⟨b2, 0, none⟩ = some (.iface 92 (.pointer (some ⟨tb, 0, none⟩)))) (h3 : w.cell? ⟨b3, 0, none⟩ = some (.string name))
    (h8 : w.cell? ⟨b8, 0, none⟩ = some .nilIface) (h9 : w.cell? ⟨b9, 0, none⟩ = some (.bool false)) (f8 : w.frozen? ⟨b8, 0, none⟩ = false) (f9 : w.frozen? ⟨b9, 0, none⟩ = false) (hne : ¬ b9 = b8) (hget : ∀ W, W = w → Calls Try.prog 52 #[.pointer (some ⟨tb, 0, none⟩), .string name] W (Told v w)) :
    Calls Try.prog 120 #[.pointer (some ⟨b2, 0, none⟩), .pointer (some ⟨b3, 0, none⟩), .pointer (some ⟨b8, 0, none⟩), .pointer (some ⟨b9, 0, none⟩)] w fun e w' => e = .returned (.tuple #[]) ∧ ∃ y gy w1, w' = (w1.setCell ⟨b8, 0, none⟩ y).setCell ⟨b9, 0, none⟩ (.bool true) ∧ VRep w1 v y gy ∧ gy.Nodup ∧ (∀ b ∈ gy, w.heap.size ≤ b) ∧ Below w.heap.size w w1 := by
  have hm := fun (n : Nat) W => thing_method_get ⟨tb, 0, none⟩ W n
  have hF := thing_get_enters
  have hgH := Lib.hid (hget w rfl)
  have l8 := cell_lt h8
  have l9 := cell_lt h9
  clear hget
  go_enter Try.func120, Try.ntmps120
  go_wp2_with fail
  refine hgH.out.mono ?_
  rintro e w1 ⟨y, gy, rfl, hv, hn, hg, hb⟩
  have hy1 := hv.one
  have q8 := (hb.cell (p := ⟨b8, 0, none⟩) l8).trans h8
  have q9 := (hb.cell (p := ⟨b9, 0, none⟩) l9).trans h9
  have z8 := (hb.frozen (p := ⟨b8, 0, none⟩) l8).trans f8
  have z9 := (hb.frozen (p := ⟨b9, 0, none⟩) l9).trans f9
  have q9' : (w1.setCell ⟨b8, 0, none⟩ y).cell? ⟨b9, 0, none⟩ = some (.bool false) := (setCell_far hne).trans q9
  have hform := hv.form
  have hfin := Lib.hid (And.intro hv (And.intro hn (And.intro hg hb)))
  clear hv hn hg hb hm h2 h3 h8 h9 f8 f9
  rcases hform with rfl | ⟨u, z, rfl⟩
  · go_wp2_with fail
    go_end0
    exact ⟨rfl, _, gy, w1, rfl, hfin.out.1, hfin.out.2.1, hfin.out.2.2.1, hfin.out.2.2.2⟩
  · go_wp2_with fail
    go_end0
    exact ⟨rfl, _, gy, w1, rfl, hfin.out.1, hfin.out.2.1, hfin.out.2.2.1, hfin.out.2.2.2⟩
/-- What Ask tells. -/
def Asks (v : Val) (w : World) (e : Ending) (w' : World) : Prop := ∃ y gy, e = .returned (.tuple #[y, .bool true, .int .i64 0]) ∧ VRep w' v y gy ∧ gy.Nodup ∧ (∀ b ∈ gy, w.heap.size ≤ b) ∧ Below w.heap.size w w'
/-- What the function that is caught leaves. -/
def Ask1R (v : Val) (b8 b9 : Nat) (W : World) (w' : World) : Prop := ∃ y gy w1, w' = (w1.setCell ⟨b8, 0, none⟩ y).setCell ⟨b9, 0, none⟩ (.bool true) ∧ VRep w1 v y gy ∧ gy.Nodup ∧ (∀ b ∈ gy, W.heap.size ≤ b) ∧ Below W.heap.size W w1
theorem ask1_enters : ∀ (args : Array Value) (W : World), (callFunc 120 args).run Try.prog W = .ok (.enter 120 args) W := fun _ _ => by kernel_rfl
theorem asked_get {w4 w6 : World} {b2 b3 tb : Nat} {name : ByteArray} {v : Val} (hw6 : w6 = (w4.alloc (.cells #[.nilIface] 20)).alloc (.cells #[.bool false] 4)) (h2 : w4.cell? ⟨b2, 0, none⟩ = some (.iface 92 (.pointer (some ⟨tb, 0, none⟩)))) (h3 : w4.cell? ⟨b3, 0, none⟩ = some (.string name))
    (hget : ∀ W, Below w4.heap.size w4 W → Calls Try.prog 52 #[.pointer (some ⟨tb, 0, none⟩), .string name] W (Told v W)) :
    Calls Try.prog 87 #[.func (.func 120) #[] #[.pointer (some ⟨b2, 0, none⟩), .pointer (some ⟨b3, 0, none⟩), .pointer (some ⟨w4.heap.size, 0, none⟩), .pointer (some ⟨w4.heap.size + 1, 0, none⟩)]] w6 fun e w'' => e = .returned (.int .i64 0) ∧ ∃ y gy, VRep w'' v y gy ∧ gy.Nodup ∧ (∀ b ∈ gy, w6.heap.size ≤ b) ∧ Below w4.heap.size w4 w'' ∧ w''.cell? ⟨w4.heap.size, 0, none⟩ = some y ∧ w''.cell? ⟨w4.heap.size + 1, 0, none⟩ = some (.bool true) := by
  have hs6 : w6.heap.size = w4.heap.size + 2 := by rw [hw6]; simp
  have hb6 : Below w4.heap.size w4 w6 := by rw [hw6]; exact ((Below.refl _ _).alloc (Nat.le_refl _) _).alloc (by simp) _
  have hbc : Below w4.heap.size w4 (caughtW w6) := hb6.alloc hb6.size _
  have l2 := cell_lt h2
  have l3 := cell_lt h3
  have e8 : w6.heap[w4.heap.size]? = some (.cells #[.nilIface] 20 (0, 0)) := by rw [hw6, Below.heap_alloc _ _ _ (by simp)]; exact heap_alloc_new _ _
  have e9 : w6.heap[w4.heap.size + 1]? = some (.cells #[.bool false] 4 (0, 0)) := by rw [hw6]; exact heap_alloc_at _ (by simp)
  have d8 : (caughtW w6).heap[w4.heap.size]? = _ := (Below.heap_alloc w6 _ _ (by omega)).trans e8
  have d9 : (caughtW w6).heap[w4.heap.size + 1]? = _ := (Below.heap_alloc w6 _ _ (by omega)).trans e9
  have d10 : (caughtW w6).heap[w6.heap.size]? = _ := heap_alloc_new w6 (.cells #[.bool true] 4)
  have hsc : (caughtW w6).heap.size = w6.heap.size + 1 := by simp [caughtW]
  have hask := ask1_told b2 b3 w4.heap.size (w4.heap.size + 1) tb name (caughtW w6) (v := v) ((hbc.cell (p := ⟨b2, 0, none⟩) l2).trans h2) ((hbc.cell (p := ⟨b3, 0, none⟩) l3).trans h3)
    (by simp [World.cell?, d8]) (by simp [World.cell?, d9]) (by simp [World.frozen?, d8]) (by simp [World.frozen?, d9]) (by omega) (fun W e => by subst e; exact hget _ hbc)
  refine (asked_ret 120 _ w6 (Ask1R v w4.heap.size (w4.heap.size + 1) (caughtW w6)) ask1_enters (hask.mono fun e w' ⟨he, y, gy, w1, hw', hv, hn, hg, hb⟩ => ⟨⟨_, he⟩, ?_, y, gy, w1, hw', hv, hn, hg, hb⟩)).mono ?_
  · subst hw'
    rw [Below.heap_setCell _ _ _ _ (by dsimp only; omega), Below.heap_setCell _ _ _ _ (by dsimp only; omega), hb.block _ (by omega)]
    exact d10
  · rintro e w'' ⟨rfl, w', ⟨y, gy, w1, rfl, hv, hn, hg, hb⟩, rfl⟩
    have hbs := hb.size
    have q8 := (hb.cell (p := ⟨w4.heap.size, 0, none⟩) (by show w4.heap.size < (caughtW w6).heap.size; omega)).trans (show (caughtW w6).cell? ⟨w4.heap.size, 0, none⟩ = some .nilIface by simp [World.cell?, d8])
    have q9 := (hb.cell (p := ⟨w4.heap.size + 1, 0, none⟩) (by show w4.heap.size + 1 < (caughtW w6).heap.size; omega)).trans (show (caughtW w6).cell? ⟨w4.heap.size + 1, 0, none⟩ = some (.bool false) by simp [World.cell?, d9])
    have hset : But (fun i => i = w4.heap.size ∨ i = w4.heap.size + 1 ∨ i = w6.heap.size) w1 (((w1.setCell ⟨w4.heap.size, 0, none⟩ y).setCell ⟨w4.heap.size + 1, 0, none⟩ (.bool true)).setCell ⟨w6.heap.size, 0, none⟩ (.bool false)) :=
      (((But.refl _ w1).setCell (p := ⟨w4.heap.size, 0, none⟩) (fun _ => .inl rfl) _).setCell (p := ⟨w4.heap.size + 1, 0, none⟩) (fun _ => .inr (.inl rfl)) _).setCell (p := ⟨w6.heap.size, 0, none⟩) (fun _ => .inr (.inr rfl)) _
    refine ⟨rfl, y, gy, VRep.but hv hset (fun i hi e => by have := hg i hi; omega), hn, fun b hb' => by have := hg b hb'; omega, ?_, ?_, ?_⟩
    · exact (hbc.trans (below_le hb (by omega))).trans (hset.below' (by omega) (fun i hi e => by omega))
    · rw [setCell_far (by omega), setCell_far (by omega)]
      exact World.cell?_setCell_same _ _ _ q8
    · rw [setCell_far (by omega)]
      exact World.cell?_setCell_same _ _ _ ((setCell_far (by omega)).trans q9)
set_option maxRecDepth 100000 in
set_option maxHeartbeats 800000 in
/-- ask, of a thing that has it. -/
theorem ask_told (tb : Nat) (name : ByteArray) (hn : nameOk name = true) (w : World) {v : Val} (hok : okB v = true) (hget : ∀ W, Below w.heap.size w W → Calls Try.prog 52 #[.pointer (some ⟨tb, 0, none⟩), .string name] W (Told v W)) :
    Calls Try.prog 97 #[.iface 92 (.pointer (some ⟨tb, 0, none⟩)), .string name] w (Asks v w) := by
  have hnm := Lib.hid (fun W => isName_any name W)
  rw [hn] at hnm
  have hgH := Lib.hid hget
  have hmf : ∀ (fn : Fn) (first cap : Array Value) (w : World), (Instr.makeFunc fn first cap).run Try.prog w = .ok (.func fn first cap) w := fun _ _ _ _ => rfl
  clear hn hget
  go_enter Try.func97, Try.ntmps97
  go_wp2_with (go_at_call 86; refine (holds_thing _ _).mono ?_; rintro e w' ⟨rfl, rfl⟩)
  refine (hnm.out _).mono ?_
  rintro e w3 ⟨rfl, hb3⟩
  have hb3w : Below w.heap.size w w3 := (((Below.refl w.heap.size w).alloc (Nat.le_refl _) _).alloc (by simp) _).trans (below_le hb3 (by simp; omega))
  have c2 : w3.cell? ⟨w.heap.size, 0, none⟩ = some (.iface 92 (.pointer (some ⟨tb, 0, none⟩))) := (hb3.cell (p := ⟨w.heap.size, 0, none⟩) (by simp; omega)).trans (by simp [go_sem])
  have c3 : w3.cell? ⟨w.heap.size + 1, 0, none⟩ = some (.string name) := (hb3.cell (p := ⟨w.heap.size + 1, 0, none⟩) (by simp)).trans (by simp [go_sem])
  have hb3H := Lib.hid hb3w
  clear hb3 hb3w
  go_wp2_with fail
  refine (load_thing w3 _).mono ?_
  rintro e w4 ⟨rfl, hb4⟩
  have k2 := (hb4.cell (p := ⟨w.heap.size, 0, none⟩) (cell_lt c2)).trans c2
  have k3 := (hb4.cell (p := ⟨w.heap.size + 1, 0, none⟩) (cell_lt c3)).trans c3
  have hb4w := Lib.hid (hb3H.out.trans (below_le hb4 hb3H.out.size))
  obtain ⟨w6, hw6⟩ : ∃ w6, w6 = (w4.alloc (.cells #[.nilIface] 20)).alloc (.cells #[.bool false] 4) := ⟨_, rfl⟩
  have hask := Lib.hid (asked_get hw6 k2 k3 (fun W hb => hgH.out W (hb4w.out.trans (below_le hb hb4w.out.size))))
  clear hb4 c2 c3
  go_wp2_with fail
  rw [← hw6]
  clear hw6 k2 k3
  refine hask.out.mono ?_
  rintro e w7 ⟨rfl, y, gy, hv, hnd, hgy, hb7, q8, q9⟩
  have hy1 := hv.one
  have hcopy := Lib.hid (Copy_ok hv hok)
  have hb7w := Lib.hid (hb4w.out.trans (below_le hb7 hb4w.out.size))
  clear hv hnd hgy hb7 hask
  go_wp2_with fail
  refine hcopy.out.mono ?_
  rintro e w8 ⟨y2, g2, rfl, hv2, hn2, hg2, hb8⟩
  have hy2 := hv2.one
  have hfin := Lib.hid (And.intro hv2 (And.intro hn2 (And.intro hg2 hb8)))
  clear hv2 hn2 hg2 hb8
  go_wp2_with fail
  go_ret3
  have hs7 := hb7w.out.size
  exact ⟨y2, g2, rfl, hfin.out.1, hfin.out.2.1, fun b hb => by have := hfin.out.2.2.1 b hb; omega, hb7w.out.trans (below_le hfin.out.2.2.2 hs7)⟩
/-- Ask. -/
theorem Ask_told (tb : Nat) (name : ByteArray) (hn : nameOk name = true) (w : World) {v : Val} (hok : okB v = true) (hget : ∀ W, Below w.heap.size w W → Calls Try.prog 52 #[.pointer (some ⟨tb, 0, none⟩), .string name] W (Told v W)) :
    Calls Try.prog 57 #[.iface 92 (.pointer (some ⟨tb, 0, none⟩)), .string name] w (Asks v w) := by
  have hH := Lib.hid (ask_told tb name hn w hok hget)
  clear hget hn
  go_enter Try.func57, Try.ntmps57
  go_wp2_with fail
  refine hH.out.mono ?_
  rintro e w8 ⟨y2, g2, rfl, hv2, hn2, hg2, hb8⟩
  have hy2 := hv2.one
  have hfin := Lib.hid (And.intro hv2 (And.intro hn2 (And.intro hg2 hb8)))
  clear hv2 hn2 hg2 hb8
  go_wp2_with fail
  go_ret3
  exact ⟨y2, g2, rfl, hfin.out.1, hfin.out.2.1, hfin.out.2.2.1, hfin.out.2.2.2⟩
end Go.Proofs.Ytpcbdjfonmohaaa
