/- Pools: NewPool, At, Held, Fetched. -/
import Derived.Test.YtpcbdjfonmohaaaPoolUse
namespace Go.Proofs.Ytpcbdjfonmohaaa
open Go.RowKit
set_option linter.unusedVariables false
set_option linter.unusedSimpArgs false

theorem refKeyed : Maps.Keyed Try.prog 30 := Maps.int_keyed Try.underlying30
theorem refK_of {id : Int} (h : (Lit.int .u64 id).wf = true) : keyOf Try.prog 30 (.int .u64 id) = some (refK id) := Maps.keyOf_int_mk Try.underlying30 h
theorem refK_key (id : Int) : WideAt.IsKeyLit (refK id) := trivial
theorem refK_inj {i j : Int} (h : refK i = refK j) : i = j := by unfold refK at h; cases h; rfl
theorem ghost_zero (W : World) : (zeroValue 40).run Try.prog W = .ok (.pointer none) W := by kernel_rfl
section
variable {w w' : World} {c : PoolC} {τ τ' : Tags} {s : PS}
/-- A look-up. -/
theorem PoolAt.look (h : PoolAt w c τ s) {id : Int} (hid : (Lit.int .u64 id).wf = true) :
    (Instr.lookup 142 (.map (some c.mb)) (.int .u64 id) true).run Try.prog w = .ok (.tuple #[match s.gt id with | some g => ptrTo g | none => .pointer none, .bool (s.gt id).isSome]) w := by
  obtain ⟨D, h1, h2, h3⟩ := h.map
  obtain ⟨v, ps, hrun, hv⟩ := h1.look_ok refKeyed Try.underlying142 (ghost_zero w) (zd := .held (.pointer none)) (zp := []) rfl (refK_of hid)
  rw [hrun, h2 id]
  have e : v = match s.gt id with | some g => ptrTo g | none => .pointer none := by
    cases hg : s.gt id with
    | some g =>
      rw [h3 id g hg] at hv
      unfold ghostR at hv
      split at hv
      · simp at hv; exact hv.1
      · cases hv
    | none =>
      rw [Maps.atKey_of_not_has (by rw [h2 id, hg]; rfl)] at hv
      unfold ghostR at hv
      split at hv
      · simp at hv; rw [hv.1]
      · cases hv
  rw [e]
set_option maxRecDepth 100000 in
/-- At, of a ghost that is there. -/
theorem at_there (h : PoolAt w c τ s) {id : Int} (hid : (Lit.int .u64 id).wf = true) (h0 : (id == 0) = false) {g : Nat} (hg : s.gt id = some g) :
    Calls Try.prog 34 #[.pointer (some ⟨c.p, 0, none⟩), .int .u64 id] w fun e w' => e = .returned (.tuple #[.pointer (some ⟨g, 0, none⟩), .int .i64 0]) ∧ w' = w := by
  have hl := h.look hid
  rw [hg] at hl
  unfold ptrTo at hl
  simp only [Option.isSome_some] at hl
  obtain ⟨sv, hb1, -⟩ := h.blk
  obtain ⟨-, -, c2, -, -, -, -⟩ := poolCells hb1
  clear h hg hb1
  go_enter Try.func34, Try.ntmps34
  go_wp2
  go_ret2
  exact ⟨rfl, rfl⟩
/-- A ghost more. -/
def PS.make (s : PS) (id : Int) (g : Nat) : PS := { s with gt := fun i => if i = id then some g else s.gt i, N := s.N + 1 }
def Tags.one (τ : Tags) (b : Nat) (t : Tag) : Tags := fun i => if i = b then some t else τ i
theorem run_buildGhost (id : Int) (F : FuncId) (caps : Array Value) (p : Nat) (W : World) : (Instr.build 136 #[(0, .int .u64 id), (1, .func (.func F) #[] caps), (5, .pointer (some ⟨p, 0, none⟩))]).run Try.prog W = .ok (.agg #[.int .u64 id, .func (.func F) #[] caps, .pointer none, .bool false, .int .i64 0, .pointer (some ⟨p, 0, none⟩)]) W := by kernel_rfl
theorem PoolAt.made (h : PoolAt w c τ s) {id : Int} (hid : (Lit.int .u64 id).wf = true) (hg : s.gt id = none) (hb : s.busy id = false) (hl : s.ld id = false) (hN : s.N ≤ 1000000000) :
    ∃ w2, (Instr.mapUpdate 142 (.map (some c.mb)) (.int .u64 id) (.pointer (some ⟨w.heap.size, 0, none⟩))).run Try.prog (w.alloc (ghostObj id c.fv none false 0 (some ⟨c.p, 0, none⟩))) = .ok () w2 ∧
      PoolAt w2 c (τ.one w.heap.size (.ghost id)) (s.make id w.heap.size) ∧ ∀ B, Ev B w w2 τ (τ.one w.heap.size (.ghost id)) := by
  have hal : But (fun _ => False) w (w.alloc (ghostObj id c.fv none false 0 (some ⟨c.p, 0, none⟩))) := (But.refl _ w).alloc _
  have h1 := h.but hal (fun _ _ f => f)
  obtain ⟨D, hD, hh, hat⟩ := h1.map
  obtain ⟨w2, hrun, hown, hgr⟩ := hD.update refKeyed Try.underlying142 (by unfold maxLen; omega) (refK_of hid) (val := .pointer (some ⟨w.heap.size, 0, none⟩)) (d := .held (.pointer (some ⟨w.heap.size, 0, none⟩))) (ps := []) rfl
  have hbut : But (· = c.mb) (w.alloc (ghostObj id c.fv none false 0 (some ⟨c.p, 0, none⟩))) w2 := (But.refl _ _).of_grown hgr (fun i _ e => (Option.some.inj e).symm)
  have hsz : (w.alloc (ghostObj id c.fv none false 0 (some ⟨c.p, 0, none⟩))).heap.size = w.heap.size + 1 := by simp
  have hsz2 := hbut.size
  have htag : ∀ b t, τ b = some t → τ.one w.heap.size (.ghost id) b = some t := fun b t e => by
    have := h.lt b t e
    rw [Tags.one, if_neg (by omega), e]
  have hne : ∀ b t, τ b = some t → t ≠ .map → ¬ b = c.mb := fun b t e h1 h2 => by rw [h2, h.mt] at e; cases e; exact h1 rfl
  have hmlt := h.lt _ _ h.mt
  refine ⟨w2, hrun, ⟨fun b t e => ?_, htag _ _ h.pt, htag _ _ h.mt, ?_, ?_, fun j k e => ?_, fun i hi => ?_, fun b o e => ⟨htag _ _ (h1.ext b o e).1, (hbut.block b (h1.lt _ _ (h1.ext b o e).1) (hne _ _ (h1.ext b o e).1 (by simp))).trans (h1.ext b o e).2⟩⟩, fun B => ⟨?_, fun b hb => by rw [Tags.one, if_neg (by omega)]⟩⟩
  · unfold Tags.one at e
    split at e
    · omega
    · have := h.lt b t e; omega
  · obtain ⟨sv, g1, g2⟩ := h1.blk
    have g3 := (g2.but hbut (fun b e => hne _ _ e (by simp))).mono (O' := fun b => τ.one w.heap.size (.ghost id) b = some .held) (fun b e => htag _ _ e)
    have e : s.L.map (s.make id w.heap.size).g = s.L.map s.g := List.map_congr_left (fun i hi => by
      have hne : i ≠ id := fun e => by have := h.held i hi; rw [e, hg] at this; cases this
      simp [PS.g, PS.make, hne])
    exact ⟨sv, (hbut.block _ (h1.lt _ _ h.pt) (hne _ _ h.pt (by simp))).trans g1, by
      show HeldAt w2 _ sv (s.L.map (s.make id w.heap.size).g)
      rw [e]; exact g3⟩
  · refine ⟨_, hown, fun i => ?_, fun i g e => ?_⟩
    · by_cases hi : i = id
      · subst hi
        rw [Maps.has_put_same hD.isMap (refK_key _)]
        simp [PS.make]
      · rw [Maps.has_put_other (fun e => hi (refK_inj e)), hh]
        simp [PS.make, hi]
    · by_cases hi : i = id
      · subst hi
        simp [PS.make] at e
        subst e
        exact Maps.atKey_put_same hD.isMap (refK_key _) _ _
      · simp [PS.make, hi] at e
        rw [Maps.atKey_put_other (fun e => hi (refK_inj e))]
        exact hat i g e
  · by_cases hj : j = id
    · subst hj
      simp [PS.make] at e
      subst e
      refine ⟨by rw [Tags.one, if_pos rfl], none, 0, ?_, fun _ => rfl, fun e => by rw [show (s.make j w.heap.size).ld j = s.ld j from rfl, hl] at e; cases e⟩
      rw [hbut.block _ (by omega) (by omega)]
      show _ = some (ghostObj j c.fv none (s.busy j) 0 _)
      rw [hb]
      exact heap_alloc_new w _
    · simp [PS.make, hj] at e
      exact ⟨htag _ _ (h1.ghost j k e).1, ((h1.ghost j k e).2.but hbut (hne _ _ (h1.ghost j k e).1 (by simp)) (fun i hi => hne _ _ hi (by simp))).tags htag⟩
  · by_cases hi' : i = id
    · subst hi'; simp [PS.make]
    · have := h.held i hi
      simpa [PS.make, hi'] using this
  · exact (hal.mono (fun _ _ f => f.elim)).trans (hbut.mono (fun i _ e => by rw [e]; exact ⟨tagged h.mt, fun j e2 => by rw [h.mt] at e2; cases e2⟩))
set_option maxRecDepth 100000 in
/-- At, of a ghost that is not there yet. -/
theorem at_new (h : PoolAt w c τ s) {id : Int} (hid : (Lit.int .u64 id).wf = true) (h0 : (id == 0) = false) (hg : s.gt id = none) (hb : s.busy id = false) (hl : s.ld id = false) (hN : s.N ≤ 1000000000) :
    Calls Try.prog 34 #[.pointer (some ⟨c.p, 0, none⟩), .int .u64 id] w fun e w' => e = .returned (.tuple #[.pointer (some ⟨w.heap.size, 0, none⟩), .int .i64 0]) ∧ ∃ τ', PoolAt w' c τ' (s.make id w.heap.size) ∧ ∀ B, Ev B w w' τ τ' := by
  have hlk := h.look hid
  rw [hg] at hlk
  simp only [Option.isSome_none] at hlk
  obtain ⟨sv, hb1, -⟩ := h.blk
  obtain ⟨-, c1, c2, -, -, hplt, -⟩ := poolCells hb1
  obtain ⟨w2, hrun, hpool, hev⟩ := h.made hid hg hb hl hN
  have hbuild := fun W => run_buildGhost id c.F c.caps c.p W
  have hfin := Lib.hid (And.intro hpool hev)
  unfold ghostObj at hrun
  clear h hg hb1 hpool hev
  go_enter Try.func34, Try.ntmps34
  go_wp2
  go_ret2
  exact ⟨rfl, _, hfin.out.1, hfin.out.2⟩
theorem run_buildPool (room : Nat) (F : FuncId) (caps : Array Value) (mb : Nat) (W : World) : (Instr.build 145 #[(0, .int .i64 room), (1, .func (.func F) #[] caps), (2, .map (some mb))]).run Try.prog W = .ok (.agg #[.int .i64 room, .func (.func F) #[] caps, .map (some mb), .slice none 0 0, .int .i64 0]) W := by kernel_rfl
/-- A pool without any ghost. -/
def PS.none : PS := ⟨fun _ => .none, fun _ => false, fun _ => false, [], 0, 0⟩
set_option maxRecDepth 100000 in
/-- NewPool. -/
theorem NewPool_said (room : Nat) (F : FuncId) (caps : Array Value) (w : World) (h1 : 1 ≤ room) (h2 : room ≤ 4096) :
    Calls Try.prog 31 #[.int .i64 room, .func (.func F) #[] caps] w fun e w' => e = .returned (.tuple #[.pointer (some ⟨w.heap.size + 1, 0, none⟩), .int .i64 0]) ∧ w' = (w.alloc (.map #[] 0)).alloc (poolObj room (.func (.func F) #[] caps) w.heap.size (.slice .none 0 0) 0) := by
  have hbuild := fun W => run_buildPool room F caps w.heap.size W
  have hlt1 : decide ((room : Int) < 1) = false := by simp only [decide_eq_false_iff_not]; omega
  have hlt2 : decide ((4096 : Int) < (room : Int)) = false := by simp only [decide_eq_false_iff_not]; omega
  have hmm := @run_makeMap Try.prog
  go_enter Try.func31, Try.ntmps31
  go_wp2
  go_ret2
  exact ⟨rfl, rfl⟩
theorem pool_start (room : Nat) (F : FuncId) (caps : Array Value) (w : World) (ext : List (Nat × Obj)) (he : ∀ b o, (b, o) ∈ ext → w.heap[b]? = some o) :
    ∃ τ, PoolAt ((w.alloc (.map #[] 0)).alloc (poolObj room (.func (.func F) #[] caps) w.heap.size (.slice .none 0 0) 0)) ⟨w.heap.size + 1, w.heap.size, room, F, caps, ext⟩ τ PS.none ∧ ∀ b t, τ b = some t → w.heap.size ≤ b ∨ ∃ o, (b, o) ∈ ext := by
  have hs : ((w.alloc (.map #[] 0)).alloc (poolObj room (.func (.func F) #[] caps) w.heap.size (.slice .none 0 0) 0)).heap.size = w.heap.size + 2 := by simp
  refine ⟨fun b => if b = w.heap.size then some .map else if b = w.heap.size + 1 then some .pool else if ext.any (fun x => x.1 == b) then some .ext else Option.none, ⟨fun b t e => ?_, by simp, by simp, ⟨.slice .none 0 0, ?_, .inl ⟨rfl, rfl⟩⟩, ⟨.map [], (World.ownsMap_made w _ _ _).alloc _, fun id => rfl, fun id g e => (by cases e)⟩, fun id g e => (by cases e), fun i hi => (by cases hi), fun b o e => ?_⟩, fun b t e => ?_⟩
  · rw [hs]
    split at e
    · omega
    · split at e
      · omega
      · split at e
        · rename_i h3
          obtain ⟨x, hx, hb⟩ := List.any_eq_true.1 h3
          have hb' : x.1 = b := by simpa using hb
          have := (Array.getElem?_eq_some_iff.1 (he x.1 x.2 hx)).1
          omega
        · cases e
  · exact heap_alloc_at _ (by simp)
  · have hlt := (Array.getElem?_eq_some_iff.1 (he b o e)).1
    refine ⟨?_, ?_⟩
    · have h3 : ext.any (fun x => x.1 == b) = true := List.any_eq_true.2 ⟨_, e, by simp⟩
      rw [if_neg (by omega), if_neg (by omega), if_pos h3]
    · rw [Below.heap_alloc _ _ _ (by simp; omega), Below.heap_alloc _ _ _ hlt]
      exact he b o e
  · dsimp only at e
    split at e
    · exact .inl (by omega)
    · split at e
      · exact .inl (by omega)
      · split at e
        · rename_i h3
          obtain ⟨x, hx, hb⟩ := List.any_eq_true.1 h3
          have hb' : x.1 = b := by simpa using hb
          exact .inr ⟨x.2, by rw [← hb']; exact hx⟩
        · cases e
end
end Go.Proofs.Ytpcbdjfonmohaaa
