/- Ghosts by themselves: load, asked, and all that asks. -/
import Derived.Test.YtpcbdjfonmohaaaLone
namespace Go.Proofs.Ytpcbdjfonmohaaa
open Go.RowKit
set_option linter.unusedVariables false
set_option linter.unusedSimpArgs false

/-- Behind a load that fetched. -/
def Loads (G : Got) (w : World) (g : Nat) (id : Int) (fv : Value) (T : Nat → Prop) (R : World → World → Prop) (w'' : World) : Prop :=
  But (fun b => (T b ∧ b < w.heap.size) ∨ b = g) w w'' ∧ (∃ W, But (· = g) w W ∧ R W w'') ∧
  (G.why = 0 → ∃ b v fs, G = .gives v ∧ okB v = true ∧ w''.heap[g]? = some (ghostObj id fv (some ⟨b, 0, none⟩) false 0 none) ∧ VRep w'' v (.iface 37 (.pointer (some ⟨b, 0, none⟩))) fs ∧ fs.Nodup ∧ ∀ k ∈ fs, w.heap.size ≤ k) ∧
  (G.why ≠ 0 → w''.heap[g]? = some (ghostObj id fv none false G.why none))

section
variable (F : FuncId) (caps : Array Value) (w : World) (g : Nat) (id : Int) (last : Int) (hg : w.heap[g]? = some (ghostObj id (.func (.func F) #[] caps) none false last none))
  (hF : ∀ (args : Array Value) (W : World), (callFunc F args).run Try.prog W = .ok (.enter F args) W)
  (T : Nat → Prop) (hT : ¬ T g) (G : Got) (hfine : G.fine) (R : World → World → Prop) (hf : Fetching F caps id w g (ghostObj id (.func (.func F) #[] caps) none true last none) T G R)
  (hR : ∀ W W' W'', R W W' → But (fun b => b = g ∨ (w.heap.size ≤ b ∧ b < W.heap.size)) W' W'' → R W W'')
include hg hF hT hfine hf hR
set_option maxRecDepth 100000 in
set_option maxHeartbeats 800000 in
theorem load_fetch : Calls Try.prog 78 #[.pointer (some ⟨g, 0, none⟩)] w fun e w'' => e = .returned (.int .i64 G.why) ∧ Loads G w g id (.func (.func F) #[] caps) T R w'' := by
  have hft := Lib.hid (fetched_any F caps w g id none last none hg hF T hT G hfine R hf)
  have hRH := Lib.hid hR
  have hfineH := Lib.hid hfine
  obtain ⟨g0, g1, g2, g3, g4, g5, hlt, hfz⟩ := ghostCells hg
  clear hg hF hf hR hfz hfine g0 g1 g4
  cases hw : (G.why == 0) with
  | true =>
    have hwe : G.why = 0 := by simpa using hw
    have hwH := Lib.hid hwe
    go_enter Try.func78, Try.ntmps78
    go_wp2_with fail
    refine hft.out.mono ?_
    rintro e w1 ⟨x, W, W', rfl, hb0, hb1, hr, hb2, hgb, hhas⟩
    obtain ⟨v, rfl⟩ : ∃ v, G = .gives v := by
      have hfi := hfineH.out
      cases G with
      | panics k n => exact absurd hwH.out (by simp [Got.why])
      | fails y => exact absurd hwH.out (by simpa [Got.fine, Got.why] using hfi)
      | nothing => exact absurd hwH.out (by simp [Got.why])
      | gives v => exact ⟨v, rfl⟩
    have hok : okB v = true := by
      cases h : okB v with
      | true => rfl
      | false => exact absurd hwH.out (why_bad h)
    obtain ⟨b, gs, rfl, hva, hnd, hgs⟩ := hhas hok
    obtain ⟨-, -, q2, q3, q4, q5, hlt1, hz⟩ := ghostCells hgb
    have z2 := hz 2
    have z4 := hz 4
    have hfin := Lib.hid (And.intro hb0 (And.intro hb1 (And.intro hr (And.intro hb2 (And.intro hgb (And.intro hva (And.intro hnd hgs)))))))
    clear hb0 hb1 hr hb2 hgb hhas hva hnd hgs hz g2 g3 g5 hok
    go_wp2_with fail
    go_ret
    obtain ⟨hb0, hb1, hr, hb2, hgb, hva, hnd, hgs⟩ := hfin.out
    have hset : But (· = g) w1 ((w1.setCell ⟨g, 4, none⟩ (.int .i64 0)).setCell ⟨g, 2, none⟩ (.pointer (some ⟨b, 0, none⟩))) :=
      ((But.refl (· = g) w1).setCell (p := ⟨g, 4, none⟩) (fun _ => rfl) _).setCell (p := ⟨g, 2, none⟩) (fun _ => rfl) _
    have hWs := hb0.size
    have hWs1 := hb1.size
    refine ⟨congrArg (fun n => Ending.returned (.int .i64 n)) hwH.out.symm, ?_, ⟨W, hb0, hRH.out _ _ _ hr (hb2.trans (hset.mono (fun i _ h => .inl h)))⟩, fun _ => ⟨b, v, gs, rfl, ?_, ?_, hva.but hset (fun k hk e => ?_), hnd, fun k hk => ?_⟩, fun h => absurd hwH.out h⟩
    · refine (((hb0.mono (fun i _ h => .inr h)).then (T := fun b => T b ∧ b < w.heap.size) hb1 (fun i _ h => .inl h)).then hb2 (fun i hi h => ?_)).then hset (fun i _ h => .inr h)
      rcases h with h | h
      · exact .inr h
      · omega
    · cases h : okB v with
      | true => rfl
      | false => exact absurd hwH.out (why_bad h)
    · rw [setCell_block (setCell_block hgb 4 _) 2 _]
      rfl
    · have := hgs k hk; omega
    · have := hgs k hk; omega
  | false =>
    have hwe : G.why ≠ 0 := by simpa using hw
    have hwH := Lib.hid hwe
    clear hwe
    go_enter Try.func78, Try.ntmps78
    go_wp2_with fail
    refine hft.out.mono ?_
    rintro e w1 ⟨x, W, W', rfl, hb0, hb1, hr, hb2, hgb, hhas⟩
    obtain ⟨-, -, q2, q3, q4, q5, hlt1, hz⟩ := ghostCells hgb
    have z4 := hz 4
    have hfin := Lib.hid (And.intro hb0 (And.intro hb1 (And.intro hr (And.intro hb2 hgb))))
    clear hb0 hb1 hr hb2 hgb hhas hz g2 g3 g5
    go_wp2_with fail
    go_ret
    obtain ⟨hb0, hb1, hr, hb2, hgb⟩ := hfin.out
    have hset : But (· = g) w1 (w1.setCell ⟨g, 4, none⟩ (.int .i64 G.why)) := (But.refl (· = g) w1).setCell (p := ⟨g, 4, none⟩) (fun _ => rfl) _
    refine ⟨rfl, ?_, ⟨W, hb0, hRH.out _ _ _ hr (hb2.trans (hset.mono (fun i _ h => .inl h)))⟩, fun h => absurd h hwH.out, fun _ => ?_⟩
    · refine (((hb0.mono (fun i _ h => .inr h)).then (T := fun b => T b ∧ b < w.heap.size) hb1 (fun i _ h => .inl h)).then hb2 (fun i hi h => ?_)).then hset (fun i _ h => .inr h)
      rcases h with h | h
      · exact .inr h
      · omega
    · rw [setCell_block hgb 4 _]
      rfl

set_option maxRecDepth 100000 in
set_option maxHeartbeats 800000 in
theorem asked_fetch : Calls Try.prog 74 #[.pointer (some ⟨g, 0, none⟩)] w fun e w'' => ((G.why = 0 → ∃ b, e = .returned (.pointer (some ⟨b, 0, none⟩)) ∧ w''.heap[g]? = some (ghostObj id (.func (.func F) #[] caps) (some ⟨b, 0, none⟩) false 0 none)) ∧ (G.why ≠ 0 → e = .returned (.pointer none))) ∧ Loads G w g id (.func (.func F) #[] caps) T R w'' := by
  have hld := Lib.hid (load_fetch F caps w g id last hg hF T hT G hfine R hf hR)
  obtain ⟨g0, g1, g2, g3, g4, g5, hlt, hfz⟩ := ghostCells hg
  clear hg hF hf hR hfz hfine g0 g1 g4
  cases hw : (G.why != 0) with
  | false =>
    have hwH := Lib.hid (show G.why = 0 by simpa using hw)
    go_enter Try.func74, Try.ntmps74
    go_wp2_with fail
    refine hld.out.mono ?_
    rintro e w1 ⟨rfl, hL⟩
    obtain ⟨b, v, fs, -, -, hgb, -⟩ := hL.2.2.1 hwH.out
    obtain ⟨-, -, q2, q3, q4, q5, hlt1, hz⟩ := ghostCells hgb
    have hfin := Lib.hid (And.intro hL hgb)
    clear hL hgb hz g2 g3 g5
    go_wp2_with fail
    go_ret
    exact ⟨⟨fun _ => ⟨b, rfl, hfin.out.2⟩, fun h => absurd hwH.out h⟩, hfin.out.1⟩
  | true =>
    have hwH := Lib.hid (show G.why ≠ 0 by simpa using hw)
    go_enter Try.func74, Try.ntmps74
    go_wp2_with fail
    refine hld.out.mono ?_
    rintro e w1 ⟨rfl, hL⟩
    have hfin := Lib.hid hL
    clear hL g2 g3 g5
    go_wp2_with fail
    go_ret
    exact ⟨⟨fun h => absurd h hwH.out, fun _ => rfl⟩, hfin.out⟩
end

section
variable (fv : Value) (w : World) (g : Nat) (id : Int) (last : Int) (r : Addr) (hg : w.heap[g]? = some (ghostObj id fv (some r) false last none))
include hg
theorem load_held : Calls Try.prog 78 #[.pointer (some ⟨g, 0, none⟩)] w fun e w'' => e = .returned (.int .i64 0) ∧ w'' = w := by
  obtain ⟨g0, g1, g2, g3, g4, g5, hlt, hfz⟩ := ghostCells hg
  clear hg hfz g0 g1 g4
  go_enter Try.func78, Try.ntmps78
  go_wp2
  go_ret
  exact ⟨rfl, rfl⟩
theorem asked_held : Calls Try.prog 74 #[.pointer (some ⟨g, 0, none⟩)] w fun e w'' => e = .returned (.pointer (some r)) ∧ w'' = w := by
  obtain ⟨g0, g1, g2, g3, g4, g5, hlt, hfz⟩ := ghostCells hg
  clear hg hfz g0 g1 g3 g4
  go_enter Try.func74, Try.ntmps74
  go_wp2
  go_ret
  exact ⟨rfl, rfl⟩
end

section
variable (fv : Value) (w : World) (g : Nat) (id : Int) (last : Int) (r : Option Addr) (busy : Bool) (pool : Option Addr)
theorem Loaded_said (hg : w.heap[g]? = some (ghostObj id fv r busy last pool)) : Calls Try.prog 28 #[.pointer (some ⟨g, 0, none⟩)] w fun e w'' => e = .returned (.bool r.isSome) ∧ w'' = w := by
  obtain ⟨g0, g1, g2, g3, g4, g5, hlt, hfz⟩ := ghostCells hg
  clear hg hfz g0 g1 g3 g4 g5
  cases r with
  | none =>
    go_enter Try.func28, Try.ntmps28
    go_wp2
    go_ret
    exact ⟨rfl, rfl⟩
  | some a =>
    go_enter Try.func28, Try.ntmps28
    go_wp2
    go_ret
    exact ⟨rfl, rfl⟩
theorem Last_said (hg : w.heap[g]? = some (ghostObj id fv r busy last pool)) : Calls Try.prog 29 #[.pointer (some ⟨g, 0, none⟩)] w fun e w'' => e = .returned (.int .i64 last) ∧ w'' = w := by
  obtain ⟨g0, g1, g2, g3, g4, g5, hlt, hfz⟩ := ghostCells hg
  clear hg hfz g0 g1 g2 g3 g5
  go_enter Try.func29, Try.ntmps29
  go_wp2
  go_ret
  exact ⟨rfl, rfl⟩
theorem forget_said (hg : w.heap[g]? = some (ghostObj id fv r false last none)) : Calls Try.prog 79 #[.pointer (some ⟨g, 0, none⟩)] w fun e w'' => e = .returned (.int .i64 0) ∧ w''.heap[g]? = some (ghostObj id fv none false last none) ∧ But (· = g) w w'' := by
  obtain ⟨g0, g1, g2, g3, g4, g5, hlt, hfz⟩ := ghostCells hg
  have z2 := hfz 2
  have hgH := Lib.hid hg
  clear hg hfz g0 g1 g4
  go_enter Try.func79, Try.ntmps79
  go_wp2
  go_ret
  exact ⟨rfl, setCell_block hgH.out 2 _, (But.refl (· = g) w).setCell (p := ⟨g, 2, none⟩) (fun _ => rfl) _⟩
end
theorem Load_of (w : World) (g : Nat) (Q : Int → World → Prop) (h0 : Calls Try.prog 78 #[.pointer (some ⟨g, 0, none⟩)] w fun e w' => ∃ n, e = .returned (.int .i64 n) ∧ Q n w') : Calls Try.prog 26 #[.pointer (some ⟨g, 0, none⟩)] w fun e w' => ∃ n, e = .returned (.int .i64 n) ∧ Q n w' := by
  have h := Lib.hid h0
  clear h0
  go_enter Try.func26, Try.ntmps26
  go_wp2_with fail
  refine h.out.mono ?_
  rintro e w1 ⟨n, rfl, hq⟩
  have hqH := Lib.hid hq
  clear hq
  go_wp2_with fail
  go_ret
  exact ⟨_, rfl, hqH.out⟩
theorem Forget_of (w : World) (g : Nat) (Q : Int → World → Prop) (h0 : Calls Try.prog 79 #[.pointer (some ⟨g, 0, none⟩)] w fun e w' => ∃ n, e = .returned (.int .i64 n) ∧ Q n w') : Calls Try.prog 27 #[.pointer (some ⟨g, 0, none⟩)] w fun e w' => ∃ n, e = .returned (.int .i64 n) ∧ Q n w' := by
  have h := Lib.hid h0
  clear h0
  go_enter Try.func27, Try.ntmps27
  go_wp2_with fail
  refine h.out.mono ?_
  rintro e w1 ⟨n, rfl, hq⟩
  have hqH := Lib.hid hq
  clear hq
  go_wp2_with fail
  go_ret
  exact ⟨_, rfl, hqH.out⟩

/-- Asked, a ghost has a record. -/
def AskHas (c : ByteArray) (n : Int) (d : List (ByteArray × Val)) (Q : World → Prop) (e : Ending) (w' : World) : Prop :=
  ∃ b fs, e = .returned (.pointer (some ⟨b, 0, none⟩)) ∧ Q w' ∧ VRep w' (.record c n d) (.iface 37 (.pointer (some ⟨b, 0, none⟩))) fs
section
variable (w : World) (g : Nat) (c : ByteArray) (n : Int) (d : List (ByteArray × Val)) (Q : World → Prop)
theorem Class_has (h0 : Calls Try.prog 74 #[.pointer (some ⟨g, 0, none⟩)] w (AskHas c n d Q)) :
    Calls Try.prog 24 #[.pointer (some ⟨g, 0, none⟩)] w fun e w' => e = .returned (.string c) ∧ Q w' := by
  have h := Lib.hid h0
  clear h0
  go_enter Try.func24, Try.ntmps24
  go_wp2_with fail
  refine h.out.mono ?_
  rintro e w1 ⟨b, fs, rfl, hq, hv⟩
  obtain ⟨b', sv, xs, gs, e0, hr, -⟩ := hv
  cases e0
  obtain ⟨r0, r1, r2, -⟩ := recCells hr
  have hqH := Lib.hid hq
  clear hq hr
  go_wp2_with fail
  go_ret
  exact ⟨rfl, hqH.out⟩
theorem Version_has (h0 : Calls Try.prog 74 #[.pointer (some ⟨g, 0, none⟩)] w (AskHas c n d Q)) :
    Calls Try.prog 25 #[.pointer (some ⟨g, 0, none⟩)] w fun e w' => e = .returned (.int .i64 n) ∧ Q w' := by
  have h := Lib.hid h0
  clear h0
  go_enter Try.func25, Try.ntmps25
  go_wp2_with fail
  refine h.out.mono ?_
  rintro e w1 ⟨b, fs, rfl, hq, hv⟩
  obtain ⟨b', sv, xs, gs, e0, hr, -⟩ := hv
  cases e0
  obtain ⟨r0, r1, r2, -⟩ := recCells hr
  have hqH := Lib.hid hq
  clear hq hr
  go_wp2_with fail
  go_ret
  exact ⟨rfl, hqH.out⟩
end
end Go.Proofs.Ytpcbdjfonmohaaa
