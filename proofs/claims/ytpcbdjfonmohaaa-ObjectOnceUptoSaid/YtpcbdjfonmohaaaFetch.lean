/- (*Ghost).fetched, whatever a fetch answers. -/
import Derived.Test.YtpcbdjfonmohaaaGhost
namespace Go.Proofs.Ytpcbdjfonmohaaa
open Go.RowKit
set_option linter.unusedVariables false
set_option linter.unusedSimpArgs false

/-- What a fetch comes to. -/
inductive Got where
  | panics (k n : Int)
  | fails (why : Int)
  | nothing
  | gives (v : Val)
/-- Why there is no record. -/
noncomputable def Got.why : Got → Int
  | .panics _ _ => 9
  | .fails why => why
  | .nothing => 7
  | .gives v => whyF v
def Got.fine : Got → Prop
  | .panics k _ => (k != 0) = true
  | .fails why => (why != 0) = true
  | .nothing => True
  | .gives v => ∃ c n d, v = .record c n d
/-- How a fetch ends; m and W.heap.size: what it answers with lies below m (and is not g) or is new. -/
def Got.says (G : Got) (g m : Nat) (W : World) (e : Ending) (W' : World) : Prop := match G with
  | .panics k n => ∃ v, e = .panicked [{ v, recovered := false }] ∧ PanicIs v k n
  | .fails why => ∃ x, e = .returned (.tuple #[.pointer x, .int .i64 why])
  | .nothing => e = .returned (.tuple #[.pointer none, .int .i64 0])
  | .gives v => ∃ a fs, e = .returned (.tuple #[.pointer (some a), .int .i64 0]) ∧ VRep W' v (.iface 37 (.pointer (some a))) fs ∧ ∀ b ∈ fs, (b < m ∧ b ≠ g) ∨ W.heap.size ≤ b
/-- What has been fetched. -/
def Got.has (G : Got) (m : Nat) (x : Option Addr) (w : World) : Prop := match G with
  | .gives v => okB v = true → ∃ b gs, x = some ⟨b, 0, none⟩ ∧ VRep w v (.iface 37 (.pointer (some ⟨b, 0, none⟩))) gs ∧ gs.Nodup ∧ ∀ k ∈ gs, m ≤ k
  | _ => True

/-- How a fetch is called: g: the ghost, now busy; whatever has come to be beside. -/
def Fetching (F : FuncId) (caps : Array Value) (id : Int) (w : World) (g : Nat) (gb : Obj) (T : Nat → Prop) (G : Got) (R : World → World → Prop) : Prop :=
  ∀ W, But (· = g) w W → W.heap[g]? = some gb → Calls Try.prog F (#[.int .u64 id] ++ caps) W fun e W' => But (fun b => T b ∧ b < w.heap.size) W W' ∧ G.says g w.heap.size W e W' ∧ R W W'
def Fetched (G : Got) (w : World) (g : Nat) (gb : Obj) (T : Nat → Prop) (R : World → World → Prop) (e : Ending) (w'' : World) : Prop :=
  ∃ x W W', e = .returned (.tuple #[.pointer x, .int .i64 G.why]) ∧ But (· = g) w W ∧ But (fun b => T b ∧ b < w.heap.size) W W' ∧ R W W' ∧ But (fun b => b = g ∨ (w.heap.size ≤ b ∧ b < W.heap.size)) W' w'' ∧ w''.heap[g]? = some gb ∧ G.has W'.heap.size x w''

theorem FetchVars.but {S : Nat → Prop} {w a b : World} {g : Nat} {gb : Obj} {x : Option Addr} {why : Int} (h : FetchVars w a g gb x why) (hb : But S a b) (h0 : ¬ S w.heap.size) (h1 : ¬ S (w.heap.size + 1)) (h2 : ¬ S (w.heap.size + 1 + 1)) (hg : ¬ S g) : FetchVars w b g gb x why := by
  obtain ⟨a0, a1, a2, a3⟩ := h
  have l0 := (Array.getElem?_eq_some_iff.1 a0).1
  have l1 := (Array.getElem?_eq_some_iff.1 a1).1
  have l2 := (Array.getElem?_eq_some_iff.1 a2).1
  have l3 := (Array.getElem?_eq_some_iff.1 a3).1
  exact ⟨(hb.block _ l0 h0).trans a0, (hb.block _ l1 h1).trans a1, (hb.block _ l2 h2).trans a2, (hb.block _ l3 hg).trans a3⟩
theorem FetchVars.set {w a : World} {g : Nat} {gb : Obj} {x : Option Addr} {why : Int} (h : FetchVars w a g gb x why) (y : Option Addr) (k : Int) (hlt : g < w.heap.size) : FetchVars w ((a.setCell ⟨w.heap.size + 1, 0, none⟩ (.pointer y)).setCell ⟨w.heap.size + 1 + 1, 0, none⟩ (.int .i64 k)) g gb y k := by
  obtain ⟨a0, a1, a2, a3⟩ := h
  have b0 := fun (W : World) (p : Addr) (v : Value) (b : Nat) (h : ¬ b = p.block) => Below.heap_setCell W p v b h
  refine ⟨?_, ?_, ?_, ?_⟩
  · rw [b0 _ _ _ _ (by dsimp only; omega), b0 _ _ _ _ (by dsimp only; omega)]; exact a0
  · rw [b0 _ _ _ _ (by dsimp only; omega)]; exact setCell_block a1 0 (.pointer y)
  · exact setCell_block ((b0 _ _ _ _ (by dsimp only; omega)).trans a2) 0 (.int .i64 k)
  · rw [b0 _ _ _ _ (by dsimp only; omega), b0 _ _ _ _ (by dsimp only; omega)]; exact a3
theorem heap_alloc_at {w : World} {n : Nat} (o : Obj) (h : n = w.heap.size) : (w.alloc o).heap[n]? = some o := by subst h; exact Array.getElem?_push_size
theorem size_alloc (w : World) (o : Obj) : (w.alloc o).heap.size = w.heap.size + 1 := by simp
theorem size_setCell (w : World) (p : Addr) (v : Value) : (w.setCell p v).heap.size = w.heap.size := by simp [World.setCell]
theorem fetchVars0 {w : World} {g : Nat} {id : Int} {fv : Value} {r : Option Addr} {last : Int} {pool : Option Addr} (hg : w.heap[g]? = some (ghostObj id fv r false last pool)) :
    FetchVars w (tryW (fetchW w g)) g (ghostObj id fv r true last pool) none 0 ∧ TryKeeps (fetchW w g) (tryW (fetchW w g)) := by
  have hlt := (Array.getElem?_eq_some_iff.1 hg).1
  have hgs := setCell_block hg 3 (.bool true)
  have hz : (fetchW w g).heap.size = w.heap.size + 1 + 1 + 1 := by simp [fetchW, World.setCell]
  have lt : ∀ {a b : Nat}, a < b → a < b := fun h => h
  refine ⟨⟨?_, ?_, ?_, ?_⟩, ?_, ?_⟩
  · unfold tryW fetchW
    rw [Below.heap_alloc _ _ _ (by simp only [size_alloc, size_setCell]; omega), Below.heap_alloc _ _ _ (by simp only [size_alloc, size_setCell]; omega), Below.heap_alloc _ _ _ (by simp only [size_alloc, size_setCell]; omega), Below.heap_alloc _ _ _ (by simp only [size_alloc, size_setCell]; omega)]
    exact heap_alloc_at _ (by simp only [size_alloc, size_setCell])
  · unfold tryW fetchW
    rw [Below.heap_alloc _ _ _ (by simp only [size_alloc, size_setCell]; omega), Below.heap_alloc _ _ _ (by simp only [size_alloc, size_setCell]; omega), Below.heap_alloc _ _ _ (by simp only [size_alloc, size_setCell]; omega)]
    exact heap_alloc_at _ (by simp only [size_alloc, size_setCell])
  · unfold tryW fetchW
    rw [Below.heap_alloc _ _ _ (by simp only [size_alloc, size_setCell]; omega), Below.heap_alloc _ _ _ (by simp only [size_alloc, size_setCell]; omega)]
    exact heap_alloc_at _ (by simp only [size_alloc, size_setCell])
  · have e : (tryW (fetchW w g)).heap[g]? = (w.setCell ⟨g, 3, none⟩ (.bool true)).heap[g]? := by
      unfold tryW fetchW
      rw [Below.heap_alloc _ _ _ (by simp only [size_alloc, size_setCell]; omega), Below.heap_alloc _ _ _ (by simp only [size_alloc, size_setCell]; omega), Below.heap_alloc _ _ _ (by simp only [size_alloc, size_setCell]; omega), Below.heap_alloc _ _ _ (by simp only [size_alloc, size_setCell]; omega), Below.heap_alloc _ _ _ (by simp only [size_setCell]; omega)]
    rw [e, hgs]
    rfl
  · unfold tryW
    rw [Below.heap_alloc _ _ _ (by simp only [size_alloc]; omega)]
    exact heap_alloc_at _ rfl
  · unfold tryW
    exact heap_alloc_at _ (by simp only [size_alloc])
theorem TryKeeps.but {S : Nat → Prop} {w a b : World} (h : TryKeeps w a) (hb : But S a b) (h0 : ¬ S w.heap.size) (h1 : ¬ S (w.heap.size + 1)) : TryKeeps w b := by
  obtain ⟨a0, a1⟩ := h
  exact ⟨(hb.block _ (Array.getElem?_eq_some_iff.1 a0).1 h0).trans a0, (hb.block _ (Array.getElem?_eq_some_iff.1 a1).1 h1).trans a1⟩
theorem tried_but (w w' : World) (k n : Int) : But (fun b => b = w.heap.size ∨ b = w.heap.size + 1) w' (tried w w' k n) := by
  unfold tried
  exact ((But.refl _ _).setCell (p := ⟨w.heap.size, 0, none⟩) (fun _ => .inl rfl) _).setCell (p := ⟨w.heap.size + 1, 0, none⟩) (fun _ => .inr rfl) _
theorem vars_but (w w' : World) (x : Option Addr) (why : Int) : But (fun b => b = w.heap.size + 1 ∨ b = w.heap.size + 1 + 1) w' ((w'.setCell ⟨w.heap.size + 1, 0, none⟩ (.pointer x)).setCell ⟨w.heap.size + 1 + 1, 0, none⟩ (.int .i64 why)) :=
  ((But.refl _ _).setCell (p := ⟨w.heap.size + 1, 0, none⟩) (fun _ => .inl rfl) _).setCell (p := ⟨w.heap.size + 1 + 1, 0, none⟩) (fun _ => .inr rfl) _
theorem after {g : Nat} (w w' : World) (x : Option Addr) (why : Int) : But (fun b => (w.heap.size + 1 ≤ b ∧ b ≤ w.heap.size + 1 + 1) ∨ b = (fetchW w g).heap.size ∨ b = (fetchW w g).heap.size + 1) w' (tried (fetchW w g) ((w'.setCell ⟨w.heap.size + 1, 0, none⟩ (.pointer x)).setCell ⟨w.heap.size + 1 + 1, 0, none⟩ (.int .i64 why)) 0 0) :=
  ((vars_but w w' x why).mono (fun i _ h => .inl (by omega))).trans ((tried_but _ _ _ _).mono (fun i _ h => .inr h))
theorem fetchW_but (w : World) (g : Nat) : But (· = g) w (tryW (fetchW w g)) := by
  unfold tryW fetchW
  exact ((((((But.refl (· = g) w).setCell (p := ⟨g, 3, none⟩) (fun _ => rfl) _).alloc _).alloc _).alloc _).alloc _).alloc _

section
variable (F : FuncId) (caps : Array Value) (w : World) (g : Nat) (id : Int) (r : Option Addr) (last : Int) (pool : Option Addr) (hg : w.heap[g]? = some (ghostObj id (.func (.func F) #[] caps) r false last pool))
  (hF : ∀ (args : Array Value) (W : World), (callFunc F args).run Try.prog W = .ok (.enter F args) W)
  (T : Nat → Prop) (hT : ¬ T g) (G : Got) (hfine : G.fine) (R : World → World → Prop) (hf : Fetching F caps id w g (ghostObj id (.func (.func F) #[] caps) r true last pool) T G R)
include hg hT hf
theorem fetch_called : Calls Try.prog F (#[.int .u64 id] ++ caps) (tryW (fetchW w g)).drew fun e W' => But (fun b => T b ∧ b < w.heap.size) (tryW (fetchW w g)).drew W' ∧ G.says g w.heap.size (tryW (fetchW w g)).drew e W' ∧ R (tryW (fetchW w g)).drew W' ∧ FetchVars w W' g (ghostObj id (.func (.func F) #[] caps) r true last pool) none 0 ∧ TryKeeps (fetchW w g) W' := by
  have h0 := fetchVars0 hg
  have hlt := (Array.getElem?_eq_some_iff.1 hg).1
  have hz : (fetchW w g).heap.size = w.heap.size + 1 + 1 + 1 := by simp [fetchW, World.setCell]
  refine (hf (tryW (fetchW w g)).drew ((fetchW_but w g).drew) h0.1.2.2.2).mono ?_
  rintro e W' ⟨hb, hs, hr⟩
  refine ⟨hb, hs, hr, FetchVars.but (a := (tryW (fetchW w g)).drew) h0.1 hb (by omega) (by omega) (by omega) (fun h => hT h.1), TryKeeps.but (a := (tryW (fetchW w g)).drew) h0.2 hb (by omega) (by omega)⟩

include hF hfine
set_option maxHeartbeats 4000000 in
theorem fetched_any : Calls Try.prog 107 #[.pointer (some ⟨g, 0, none⟩)] w (Fetched G w g (ghostObj id (.func (.func F) #[] caps) r false last pool) T R) := by
  have hlt := (Array.getElem?_eq_some_iff.1 hg).1
  have hcall := fetch_called F caps w g id r last pool hg T hT G R hf
  obtain ⟨hv0, hk0⟩ := fetchVars0 hg
  have hz : (fetchW w g).heap.size = w.heap.size + 1 + 1 + 1 := by simp [fetchW, World.setCell]
  have hbw := fetchW_but w g
  have hWs : w.heap.size + 1 + 1 + 1 + 1 + 1 = (tryW (fetchW w g)).heap.size := by unfold tryW; simp only [size_alloc, hz]
  generalize hW : tryW (fetchW w g) = W at *
  obtain ⟨g0, g1, -, -, -, -, -, -⟩ := ghostCells hv0.2.2.2
  have q0 := oneCellAt hv0.1
  have q1 := oneCellAt hv0.2.1
  have q2 := oneCellAt hv0.2.2.1
  have z1 : W.frozen? ⟨w.heap.size + 1, 0, none⟩ = false := by simp [World.frozen?, hv0.2.1]
  have z2 : W.frozen? ⟨w.heap.size + 1 + 1, 0, none⟩ = false := by simp [World.frozen?, hv0.2.2.1]
  have hF1 : ∀ (args : Array Value) (W : World), (callFunc 130 args).run Try.prog W = .ok (.enter 130 args) W := fun _ _ => by kernel_rfl
  have reset : ∀ (W' : World), W'.heap[g]? = some (ghostObj id (.func (.func F) #[] caps) r true last pool) → (W'.setCell ⟨g, 3, none⟩ (.bool false)).heap[g]? = some (ghostObj id (.func (.func F) #[] caps) r false last pool) := fun W' h => setCell_block h 3 (.bool false)
  cases G with
  | panics k n =>
    have c1 := fetched1_panic F caps W g w.heap.size (w.heap.size + 1) (w.heap.size + 1 + 1) id _ _ hF q0 g0 g1 q1 q2 z1 z2 (by omega) (by omega) (by omega) (by omega) (by omega)
      (fun v w' => PanicIs v k n ∧ But (fun b => T b ∧ b < w.heap.size) W.drew w' ∧ R W.drew w' ∧ FetchVars w w' g (ghostObj id (.func (.func F) #[] caps) r true last pool) none 0 ∧ TryKeeps (fetchW w g) w')
      (hcall.mono (by rintro e w' ⟨hb, ⟨v, rfl, hp⟩, hr, hv, ht⟩; exact ⟨v, rfl, hp, hb, hr, hv, ht⟩))
    have c2 := try_panic _ _ (fetchW w g) (fun w' => But (fun b => T b ∧ b < w.heap.size) W.drew w' ∧ R W.drew w' ∧ FetchVars w w' g (ghostObj id (.func (.func F) #[] caps) r true last pool) none 0) k n hF1
      (by rw [hW]; exact c1.mono (by rintro e w' ⟨v, rfl, hp, hb, hr, hv, ht⟩; exact ⟨⟨v, rfl, hp⟩, ht, hb, hr, hv⟩))
    refine (fetched_panic w g id _ r last pool hg k n hfine (fun w'' => ∃ w', w'' = tried (fetchW w g) w' k n ∧ But (fun b => T b ∧ b < w.heap.size) W.drew w' ∧ R W.drew w')
      (c2.mono ?_)).mono ?_
    · rintro e w'' ⟨rfl, w', ⟨hb, hr, hv⟩, ht, rfl⟩
      exact ⟨rfl, ⟨none, 0, hv.but (tried_but _ _ _ _) (by omega) (by omega) (by omega) (by omega)⟩, w', rfl, hb, hr⟩
    · rintro e w'' ⟨rfl, w3, ⟨w', rfl, hb, hr⟩, hgb, rfl⟩
      refine ⟨none, W.drew, w', rfl, hbw.drew, hb, hr, ?_, reset _ hgb, trivial⟩
      refine But.setCell ((tried_but _ _ _ _).mono ?_) (fun _ => .inl rfl) _
      intro i hi hs
      have hd : W.drew.heap.size = W.heap.size := rfl
      exact .inr (by omega)
  | fails why =>
    have c1 := fetched1_ret F caps W g w.heap.size (w.heap.size + 1) (w.heap.size + 1 + 1) id _ _ hF q0 g0 g1 q1 q2 z1 z2 (by omega) (by omega) (by omega) (by omega) (by omega)
      (fun x y w' => y = why ∧ But (fun b => T b ∧ b < w.heap.size) W.drew w' ∧ R W.drew w' ∧ FetchVars w w' g (ghostObj id (.func (.func F) #[] caps) r true last pool) none 0 ∧ TryKeeps (fetchW w g) w')
      (hcall.mono (by
        rintro e w' ⟨hb, ⟨x, rfl⟩, hr, hv, ht⟩
        exact ⟨x, why, rfl, hv.2.2.2.trans hv0.2.2.2.symm, hv.1.trans hv0.1.symm, hv.2.1.trans hv0.2.1.symm, hv.2.2.1.trans hv0.2.2.1.symm, rfl, hb, hr, hv, ht⟩))
    have c2 := try_ret _ _ (fetchW w g) (fun w2 => ∃ x w', w2 = (w'.setCell ⟨w.heap.size + 1, 0, none⟩ (.pointer x)).setCell ⟨w.heap.size + 1 + 1, 0, none⟩ (.int .i64 why) ∧ But (fun b => T b ∧ b < w.heap.size) W.drew w' ∧ R W.drew w' ∧ FetchVars w w2 g (ghostObj id (.func (.func F) #[] caps) r true last pool) x why) hF1
      (by rw [hW]; exact c1.mono (by
            rintro e w2 ⟨x, y, w', rfl, ⟨rfl, hb, hr, hv, ht⟩, rfl⟩
            exact ⟨⟨_, rfl⟩, ht.but (vars_but w w' x _) (by omega) (by omega), x, w', rfl, hb, hr, hv.set x _ hlt⟩))
    refine (fetched_err w g id _ r last pool hg why hfine (fun w3 => ∃ x w' w2, w2 = (w'.setCell ⟨w.heap.size + 1, 0, none⟩ (.pointer x)).setCell ⟨w.heap.size + 1 + 1, 0, none⟩ (.int .i64 why) ∧ w3 = tried (fetchW w g) w2 0 0 ∧ But (fun b => T b ∧ b < w.heap.size) W.drew w' ∧ R W.drew w')
      (c2.mono ?_)).mono ?_
    · rintro e w3 ⟨rfl, w2, ⟨x, w', rfl, hb, hr, hv⟩, ht, rfl⟩
      exact ⟨rfl, ⟨x, hv.but (tried_but _ _ _ _) (by omega) (by omega) (by omega) (by omega)⟩, x, w', _, rfl, rfl, hb, hr⟩
    · rintro e w4 ⟨rfl, w3, ⟨x, w', w2, rfl, rfl, hb, hr⟩, hgb, m, rfl⟩
      refine ⟨none, W.drew, w', rfl, hbw.drew, hb, hr, ?_, reset _ hgb, trivial⟩
      exact (((after w w' x why).mono (by rw [hz] ; exact fun i hi hs => .inr ⟨by omega, by have hd : W.drew.heap.size = W.heap.size := rfl; omega⟩)).setCell (p := ⟨g, 3, none⟩) (fun _ => .inl rfl) _).drewN m
  | nothing =>
    have c1 := fetched1_ret F caps W g w.heap.size (w.heap.size + 1) (w.heap.size + 1 + 1) id _ _ hF q0 g0 g1 q1 q2 z1 z2 (by omega) (by omega) (by omega) (by omega) (by omega)
      (fun x y w' => (x = none ∧ y = 0) ∧ But (fun b => T b ∧ b < w.heap.size) W.drew w' ∧ R W.drew w' ∧ FetchVars w w' g (ghostObj id (.func (.func F) #[] caps) r true last pool) none 0 ∧ TryKeeps (fetchW w g) w')
      (hcall.mono (by
        rintro e w' ⟨hb, hx, hr, hv, ht⟩
        exact ⟨none, 0, hx, hv.2.2.2.trans hv0.2.2.2.symm, hv.1.trans hv0.1.symm, hv.2.1.trans hv0.2.1.symm, hv.2.2.1.trans hv0.2.2.1.symm, ⟨rfl, rfl⟩, hb, hr, hv, ht⟩))
    have c2 := try_ret _ _ (fetchW w g) (fun w2 => ∃ w', w2 = (w'.setCell ⟨w.heap.size + 1, 0, none⟩ (.pointer none)).setCell ⟨w.heap.size + 1 + 1, 0, none⟩ (.int .i64 0) ∧ But (fun b => T b ∧ b < w.heap.size) W.drew w' ∧ R W.drew w' ∧ FetchVars w w2 g (ghostObj id (.func (.func F) #[] caps) r true last pool) none 0) hF1
      (by rw [hW]; exact c1.mono (by
            rintro e w2 ⟨x, y, w', rfl, ⟨⟨rfl, rfl⟩, hb, hr, hv, ht⟩, rfl⟩
            exact ⟨⟨_, rfl⟩, ht.but (vars_but w w' _ _) (by omega) (by omega), w', rfl, hb, hr, hv.set _ _ hlt⟩))
    refine (fetched_none w g id _ r last pool hg (fun w3 => ∃ w' w2, w2 = (w'.setCell ⟨w.heap.size + 1, 0, none⟩ (.pointer none)).setCell ⟨w.heap.size + 1 + 1, 0, none⟩ (.int .i64 0) ∧ w3 = tried (fetchW w g) w2 0 0 ∧ But (fun b => T b ∧ b < w.heap.size) W.drew w' ∧ R W.drew w')
      (c2.mono ?_)).mono ?_
    · rintro e w3 ⟨rfl, w2, ⟨w', rfl, hb, hr, hv⟩, ht, rfl⟩
      exact ⟨rfl, hv.but (tried_but _ _ _ _) (by omega) (by omega) (by omega) (by omega), w', _, rfl, rfl, hb, hr⟩
    · rintro e w4 ⟨rfl, w3, ⟨w', w2, rfl, rfl, hb, hr⟩, hgb, rfl⟩
      refine ⟨none, W.drew, w', rfl, hbw.drew, hb, hr, ?_, reset _ hgb, trivial⟩
      exact (((after w w' none 0).mono (by rw [hz] ; exact fun i hi hs => .inr ⟨by omega, by have hd : W.drew.heap.size = W.heap.size := rfl; omega⟩)).setCell (p := ⟨g, 3, none⟩) (fun _ => .inl rfl) _)
  | gives v =>
    have c1 := fetched1_ret F caps W g w.heap.size (w.heap.size + 1) (w.heap.size + 1 + 1) id _ _ hF q0 g0 g1 q1 q2 z1 z2 (by omega) (by omega) (by omega) (by omega) (by omega)
      (fun x y w' => (∃ a fs, x = some a ∧ y = 0 ∧ VRep w' v (.iface 37 (.pointer (some a))) fs ∧ ∀ b ∈ fs, (b < w.heap.size ∧ b ≠ g) ∨ W.drew.heap.size ≤ b) ∧ But (fun b => T b ∧ b < w.heap.size) W.drew w' ∧ R W.drew w' ∧ FetchVars w w' g (ghostObj id (.func (.func F) #[] caps) r true last pool) none 0 ∧ TryKeeps (fetchW w g) w')
      (hcall.mono (by
        rintro e w' ⟨hb, ⟨a, fs, rfl, hva, hfs⟩, hr, hv, ht⟩
        exact ⟨some a, 0, rfl, hv.2.2.2.trans hv0.2.2.2.symm, hv.1.trans hv0.1.symm, hv.2.1.trans hv0.2.1.symm, hv.2.2.1.trans hv0.2.2.1.symm, ⟨a, fs, rfl, rfl, hva, hfs⟩, hb, hr, hv, ht⟩))
    have c2 := try_ret _ _ (fetchW w g) (fun w2 => ∃ a fs w', w2 = (w'.setCell ⟨w.heap.size + 1, 0, none⟩ (.pointer (some a))).setCell ⟨w.heap.size + 1 + 1, 0, none⟩ (.int .i64 0) ∧ VRep w2 v (.iface 37 (.pointer (some a))) fs ∧ (∀ b ∈ fs, (b < w.heap.size ∧ b ≠ g) ∨ W.drew.heap.size ≤ b) ∧ But (fun b => T b ∧ b < w.heap.size) W.drew w' ∧ R W.drew w' ∧ FetchVars w w2 g (ghostObj id (.func (.func F) #[] caps) r true last pool) (some a) 0) hF1
      (by rw [hW]; exact c1.mono (by
            rintro e w2 ⟨x, y, w', rfl, ⟨⟨a, fs, rfl, rfl, hva, hfs⟩, hb, hr, hv, ht⟩, rfl⟩
            have hd : W.drew.heap.size = W.heap.size := rfl
            exact ⟨⟨_, rfl⟩, ht.but (vars_but w w' _ _) (by omega) (by omega), a, fs, w', rfl, hva.but (vars_but w w' _ _) (fun b h => by have := hfs b h; omega), hfs, hb, hr, hv.set _ _ hlt⟩))
    have c3 : Calls Try.prog 14 (fetchArgs w) (fetchW w g) fun e w3 => e = .returned (.tuple #[.int .i64 0, .int .i64 0]) ∧ (∃ a fs, FetchVars w w3 g (ghostObj id (.func (.func F) #[] caps) r true last pool) (some a) 0 ∧ VRep w3 v (.iface 37 (.pointer (some a))) fs ∧ g ∉ fs) ∧ (∃ x w' w2, w2 = (w'.setCell ⟨w.heap.size + 1, 0, none⟩ (.pointer x)).setCell ⟨w.heap.size + 1 + 1, 0, none⟩ (.int .i64 0) ∧ w3 = tried (fetchW w g) w2 0 0 ∧ But (fun b => T b ∧ b < w.heap.size) W.drew w' ∧ R W.drew w') := by
      refine c2.mono ?_
      rintro e w3 ⟨rfl, w2, ⟨a, fs, w', rfl, hva, hfs, hb, hr, hv⟩, ht, rfl⟩
      have hd : W.drew.heap.size = W.heap.size := rfl
      exact ⟨rfl, ⟨a, fs, hv.but (tried_but _ _ _ _) (by omega) (by omega) (by omega) (by omega), hva.but (tried_but _ _ _ _) (fun b h => by have := hfs b h; omega), fun h => by have := hfs g h; omega⟩, some a, w', _, rfl, rfl, hb, hr⟩
    have hend : ∀ (x : Option Addr) (w' : World), But (fun b => b = g ∨ (w.heap.size ≤ b ∧ b < W.drew.heap.size)) w' ((tried (fetchW w g) ((w'.setCell ⟨w.heap.size + 1, 0, none⟩ (.pointer x)).setCell ⟨w.heap.size + 1 + 1, 0, none⟩ (.int .i64 0)) 0 0).setCell ⟨g, 3, none⟩ (.bool false)) := fun x w' =>
      ((after w w' x 0).mono (by rw [hz] ; exact fun i hi hs => .inr ⟨by omega, by have hd : W.drew.heap.size = W.heap.size := rfl; omega⟩)).setCell (p := ⟨g, 3, none⟩) (fun _ => .inl rfl) _
    have hsz : ∀ (x : Option Addr) (w' : World), (tried (fetchW w g) ((w'.setCell ⟨w.heap.size + 1, 0, none⟩ (.pointer x)).setCell ⟨w.heap.size + 1 + 1, 0, none⟩ (.int .i64 0)) 0 0).heap.size = w'.heap.size := fun x w' => by unfold tried; simp only [size_setCell]
    cases hok : okB v with
    | true =>
      refine (fetched_rec w g id _ r last pool hg v hfine hok _ c3).mono ?_
      rintro e w4 ⟨b, gs, w3, rfl, ⟨x, w', w2, rfl, rfl, hb, hr⟩, hgb, hva, hnd, hgs, hbel⟩
      rw [hsz] at hgs hbel
      have hgl := (Array.getElem?_eq_some_iff.1 hgb).1
      rw [hsz] at hgl
      refine ⟨some ⟨b, 0, none⟩, W.drew, w', ?_, hbw.drew, hb, hr, (hend x w').of_below hbel (fun i hi h => by omega), (hbel.block g hgl).trans (reset _ hgb), fun _ => ⟨b, gs, rfl, hva, hnd, hgs⟩⟩
      show _ = Ending.returned (.tuple #[.pointer (some ⟨b, 0, none⟩), .int .i64 (whyF v)])
      rw [why_ok hok]
    | false =>
      refine (fetched_bad w g id _ r last pool hg v hok _ c3).mono ?_
      rintro e w4 ⟨rfl, w3, ⟨x, w', w2, rfl, rfl, hb, hr⟩, hgb, hbel⟩
      rw [hsz] at hbel
      have hgl := (Array.getElem?_eq_some_iff.1 hgb).1
      rw [hsz] at hgl
      exact ⟨none, W.drew, w', rfl, hbw.drew, hb, hr, (hend x w').of_below hbel (fun i hi h => by omega), (hbel.block g hgl).trans (reset _ hgb), fun h => by rw [hok] at h; cases h⟩
end
end Go.Proofs.Ytpcbdjfonmohaaa
