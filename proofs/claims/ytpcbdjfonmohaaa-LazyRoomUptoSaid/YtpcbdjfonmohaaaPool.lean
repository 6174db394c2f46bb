/- Pools of ghosts: what one is in memory. -/
import Derived.Test.YtpcbdjfonmohaaaHeld
import Derived.Maps.OwnSet
import Derived.Maps.OwnOps
namespace Go.Proofs.Ytpcbdjfonmohaaa
open Go.RowKit
set_option linter.unusedVariables false
set_option linter.unusedSimpArgs false

/-- What a block of a pool is. -/
inductive Tag where
  | pool | map | held | ghost (id : Int) | recd | ext
/-- Which blocks are a pool's. -/
abbrev Tags := Nat → Option Tag
/-- What does not change. -/
structure PoolC where
  p : Nat
  mb : Nat
  room : Nat
  F : FuncId
  caps : Array Value
  ext : List (Nat × Obj)
/-- Its fetch. -/
@[reducible] def PoolC.fv (c : PoolC) : Value := .func (.func c.F) #[] c.caps
/-- What changes: the ghosts' blocks; who is busy; who is loaded; who is held; how often it was fetched. -/
structure PS where
  gt : Int → Option Nat
  busy : Int → Bool
  ld : Int → Bool
  L : List Int
  n : Int
  N : Nat
/-- A ghost's block. -/
def PS.g (s : PS) (id : Int) : Nat := (s.gt id).getD 0
def poolObj (room : Int) (fv : Value) (mb : Nat) (sv : Value) (n : Int) : Obj := .cells #[.int .i64 room, fv, .map (some mb), sv, .int .i64 n] 145 (0, 0)
/-- An element of the map reads as itself. -/
def ghostR (v : Value) : Option (DataW Value × List MemPlace) := match v with | .pointer a => some (.held (.pointer a), []) | _ => none
def refK (id : Int) : Lit := .int .u64 id
/-- What every fetch of these laws answers. -/
def recA : Val := .record ⟨#[97]⟩ 1 []
theorem recA_ok : okB recA = true := by kernel_rfl
def GhostIs (w : World) (c : PoolC) (τ : Tags) (id : Int) (g : Nat) (busy ld : Bool) : Prop :=
  ∃ r last, w.heap[g]? = some (ghostObj id c.fv r busy last (some ⟨c.p, 0, none⟩)) ∧ (ld = false → r = none) ∧
    (ld = true → ∃ b fs, r = some ⟨b, 0, none⟩ ∧ VRep w recA (.iface 37 (.pointer (some ⟨b, 0, none⟩))) fs ∧ ∀ i ∈ fs, τ i = some .recd)
structure PoolAt (w : World) (c : PoolC) (τ : Tags) (s : PS) : Prop where
  lt : ∀ b t, τ b = some t → b < w.heap.size
  pt : τ c.p = some .pool
  mt : τ c.mb = some .map
  blk : ∃ sv, w.heap[c.p]? = some (poolObj c.room c.fv c.mb sv s.n) ∧ HeldAt w (fun b => τ b = some .held) sv (s.L.map s.g)
  map : ∃ D, w.ownsMap Try.prog 30 ghostR c.mb s.N D ∧ (∀ id, Maps.has D (refK id) = (s.gt id).isSome) ∧ ∀ id g, s.gt id = some g → D.atKey (refK id) (.held (.pointer none)) = .held (ptrTo g)
  ghost : ∀ id g, s.gt id = some g → τ g = some (.ghost id) ∧ GhostIs w c τ id g (s.busy id) (s.ld id)
  held : ∀ id ∈ s.L, (s.gt id).isSome = true
  ext : ∀ b o, (b, o) ∈ c.ext → τ b = some .ext ∧ w.heap[b]? = some o
section
variable {w w' : World} {c : PoolC} {τ τ' : Tags} {s : PS}
theorem GhostIs.but {S : Nat → Prop} {id : Int} {g : Nat} {busy ld : Bool} (h : GhostIs w c τ id g busy ld) (hb : But S w w') (hg : ¬ S g) (hr : ∀ i, τ i = some .recd → ¬ S i) : GhostIs w' c τ id g busy ld := by
  obtain ⟨r, last, h1, h2, h3⟩ := h
  refine ⟨r, last, (hb.block g (Array.getElem?_eq_some_iff.1 h1).1 hg).trans h1, h2, fun hl => ?_⟩
  obtain ⟨b, fs, e, hv, hf⟩ := h3 hl
  exact ⟨b, fs, e, VRep.but hv hb (fun i hi => hr i (hf i hi)), hf⟩
theorem GhostIs.tags {id : Int} {g : Nat} {busy ld : Bool} (h : GhostIs w c τ id g busy ld) (ht : ∀ b t, τ b = some t → τ' b = some t) : GhostIs w c τ' id g busy ld := by
  obtain ⟨r, last, h1, h2, h3⟩ := h
  refine ⟨r, last, h1, h2, fun hl => ?_⟩
  obtain ⟨b, fs, e, hv, hf⟩ := h3 hl
  exact ⟨b, fs, e, hv, fun i hi => ht _ _ (hf i hi)⟩
theorem ownsMap_block {k : TypeId} {R : Value → Option (DataW Value × List MemPlace)} {b n : Nat} {D : DataW Value} (h : w.ownsMap Try.prog k R b n D) (hb : w'.heap[b]? = w.heap[b]?) : w'.ownsMap Try.prog k R b n D := by
  obtain ⟨es, clock, h1, F, hs, hD⟩ := h
  exact ⟨es, clock, hb.trans h1, F, hs, hD⟩
/-- Nothing of the pool turns. -/
theorem PoolAt.but {S : Nat → Prop} (h : PoolAt w c τ s) (hb : But S w w') (hs : ∀ b, (τ b).isSome = true → ¬ S b) : PoolAt w' c τ s := by
  have hs' : ∀ b t, τ b = some t → ¬ S b := fun b t e => hs b (by rw [e]; rfl)
  refine ⟨fun b t e => Nat.lt_of_lt_of_le (h.lt b t e) hb.size, h.pt, h.mt, ?_, ?_, fun id g e => ⟨(h.ghost id g e).1, (h.ghost id g e).2.but hb (hs' _ _ (h.ghost id g e).1) (fun i hi => hs' _ _ hi)⟩, h.held, fun b o e => ⟨(h.ext b o e).1, (hb.block b (h.lt _ _ (h.ext b o e).1) (hs' _ _ (h.ext b o e).1)).trans (h.ext b o e).2⟩⟩
  · obtain ⟨sv, h1, h2⟩ := h.blk
    exact ⟨sv, (hb.block _ (h.lt _ _ h.pt) (hs' _ _ h.pt)).trans h1, h2.but hb (fun b e => hs' _ _ e)⟩
  · obtain ⟨D, h1, h2⟩ := h.map
    exact ⟨D, ownsMap_block h1 (hb.block _ (h.lt _ _ h.mt) (hs' _ _ h.mt)), h2⟩
theorem PoolAt.below (h : PoolAt w c τ s) (hb : Below w.heap.size w w') : PoolAt w' c τ s := h.but (below_but0 hb) (fun _ _ f => f)
/-- More blocks may be called the pool's. -/
theorem PoolAt.tags (h : PoolAt w c τ s) (ht : ∀ b t, τ b = some t → τ' b = some t) (hlt : ∀ b t, τ' b = some t → b < w.heap.size) : PoolAt w c τ' s := by
  refine ⟨hlt, ht _ _ h.pt, ht _ _ h.mt, ?_, h.map, fun id g e => ⟨ht _ _ (h.ghost id g e).1, (h.ghost id g e).2.tags ht⟩, h.held, fun b o e => ⟨ht _ _ (h.ext b o e).1, (h.ext b o e).2⟩⟩
  obtain ⟨sv, h1, h2⟩ := h.blk
  exact ⟨sv, h1, h2.mono (fun b e => ht _ _ e)⟩
theorem PoolAt.inj (h : PoolAt w c τ s) {i j : Int} {g : Nat} (hi : s.gt i = some g) (hj : s.gt j = some g) : i = j := by
  have h1 := (h.ghost i g hi).1
  rw [(h.ghost j g hj).1] at h1
  cases h1
  rfl
/-- The pool's own block and the array of those that are held turn. -/
theorem PoolAt.set (h : PoolAt w c τ s) {L : List Int} {n : Int} (hb : But (fun b => b = c.p ∨ τ b = some .held) w w') (ht : ∀ b t, τ b = some t → τ' b = some t) (hlt : ∀ b t, τ' b = some t → b < w'.heap.size) (hL : ∀ id ∈ L, (s.gt id).isSome = true)
    (hblk : ∃ sv, w'.heap[c.p]? = some (poolObj c.room c.fv c.mb sv n) ∧ HeldAt w' (fun b => τ' b = some .held) sv (L.map s.g)) : PoolAt w' c τ' { s with L := L, n := n } := by
  have hne : ∀ b t, τ b = some t → t ≠ .pool → t ≠ .held → ¬ (b = c.p ∨ τ b = some .held) := fun b t e h1 h2 h3 => by
    rcases h3 with h3 | h3
    · rw [h3, h.pt] at e; cases e; exact h1 rfl
    · rw [h3] at e; cases e; exact h2 rfl
  refine ⟨hlt, ht _ _ h.pt, ht _ _ h.mt, hblk, ?_, fun id g e => ⟨ht _ _ (h.ghost id g e).1, ((h.ghost id g e).2.but hb (hne _ _ (h.ghost id g e).1 (by simp) (by simp)) (fun i hi => hne _ _ hi (by simp) (by simp))).tags ht⟩, hL,
    fun b o e => ⟨ht _ _ (h.ext b o e).1, (hb.block b (h.lt _ _ (h.ext b o e).1) (hne _ _ (h.ext b o e).1 (by simp) (by simp))).trans (h.ext b o e).2⟩⟩
  obtain ⟨D, h1, h2⟩ := h.map
  exact ⟨D, ownsMap_block h1 (hb.block _ (h.lt _ _ h.mt) (hne _ _ h.mt (by simp) (by simp))), h2⟩
/-- One ghost turns. -/
def PS.put (s : PS) (id : Int) (b l : Bool) : PS := { s with busy := fun i => if i = id then b else s.busy i, ld := fun i => if i = id then l else s.ld i }
theorem PoolAt.turn (h : PoolAt w c τ s) {id : Int} {g : Nat} (hg : s.gt id = some g) {S : Nat → Prop} (hb : But S w w') (hS : ∀ i, S i → i = g ∨ τ i = none) {b l : Bool} (hi : GhostIs w' c τ id g b l) : PoolAt w' c τ (s.put id b l) := by
  have hgt := (h.ghost id g hg).1
  have hne : ∀ b t, τ b = some t → t ≠ .ghost id → ¬ S b := fun b t e h1 h3 => by
    rcases hS b h3 with h2 | h2
    · rw [h2, hgt] at e; cases e; exact h1 rfl
    · rw [h2] at e; cases e
  refine ⟨fun b t e => Nat.lt_of_lt_of_le (h.lt b t e) hb.size, h.pt, h.mt, ?_, ?_, fun j k e => ?_, h.held, fun b o e => ⟨(h.ext b o e).1, (hb.block b (h.lt _ _ (h.ext b o e).1) (hne _ _ (h.ext b o e).1 (by simp))).trans (h.ext b o e).2⟩⟩
  · obtain ⟨sv, h1, h2⟩ := h.blk
    exact ⟨sv, (hb.block _ (h.lt _ _ h.pt) (hne _ _ h.pt (by simp))).trans h1, h2.but hb (fun b e => hne _ _ e (by simp))⟩
  · obtain ⟨D, h1, h2⟩ := h.map
    exact ⟨D, ownsMap_block h1 (hb.block _ (h.lt _ _ h.mt) (hne _ _ h.mt (by simp))), h2⟩
  · have e' : s.gt j = some k := e
    by_cases hj : j = id
    · subst hj
      rw [hg] at e'
      cases e'
      refine ⟨hgt, ?_⟩
      simp only [PS.put, if_true]
      exact hi
    · refine ⟨(h.ghost j k e').1, ?_⟩
      simp only [PS.put, if_neg hj]
      exact (h.ghost j k e').2.but hb (hne _ _ (h.ghost j k e').1 (fun e => hj (by cases e; rfl))) (fun i hi => hne _ _ hi (by simp))
/-- What the walk reads of the pool's block. -/
theorem poolCells {b : Nat} {room : Int} {fv : Value} {mb : Nat} {sv : Value} {n : Int} (h : w.heap[b]? = some (poolObj room fv mb sv n)) :
    w.cell? ⟨b, 0, none⟩ = some (.int .i64 room) ∧ w.cell? ⟨b, 1, none⟩ = some fv ∧ w.cell? ⟨b, 2, none⟩ = some (.map (some mb)) ∧ w.cell? ⟨b, 3, none⟩ = some sv ∧ w.cell? ⟨b, 4, none⟩ = some (.int .i64 n) ∧ b < w.heap.size ∧ ∀ o, w.frozen? ⟨b, o, none⟩ = false := by
  unfold poolObj at h
  exact ⟨by simp [World.cell?, h], by simp [World.cell?, h], by simp [World.cell?, h], by simp [World.cell?, h], by simp [World.cell?, h], (Array.getElem?_eq_some_iff.1 h).1, fun o => by simp [World.frozen?, h]⟩
theorem HeldAt.home {O : Nat → Prop} {sv : Value} {l : List Nat} (h : HeldAt w O sv l) : ∃ hb, HeldAt w (· = hb) sv l ∧ (O hb ∨ hb = w.heap.size) := by
  rcases h with ⟨rfl, rfl⟩ | ⟨hb, off, cap, h1, h2, h3, h4⟩
  · exact ⟨w.heap.size, .inl ⟨rfl, rfl⟩, .inr rfl⟩
  · exact ⟨hb, .inr ⟨hb, off, cap, h1, h2, rfl, h4⟩, .inl h3⟩
theorem HeldAt.form {O : Nat → Prop} {sv : Value} {l : List Nat} (h : HeldAt w O sv l) : ∃ a n cap, sv = .slice a n cap ∧ n = l.length := by
  rcases h with ⟨rfl, rfl⟩ | ⟨hb, off, cap, h1, _⟩
  · exact ⟨_, _, _, rfl, rfl⟩
  · exact ⟨_, _, _, h1, rfl⟩
end
end Go.Proofs.Ytpcbdjfonmohaaa
