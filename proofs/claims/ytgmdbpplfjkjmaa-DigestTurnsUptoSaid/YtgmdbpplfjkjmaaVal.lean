/- Values as plain data, how they lie in memory, what a change elsewhere leaves. -/
import Derived.Test.YtgmdbpplfjkjmaaBase
import Derived.Test.YtgmdbpplfjkjmaaValName
namespace Go.Proofs.Ytgmdbpplfjkjmaa
open Go.RowKit
set_option linter.unusedVariables false
set_option linter.unusedSimpArgs false

/-- From w to w' nothing has turned but the blocks of S and what is new. -/
structure But (S : Nat → Prop) (w w' : World) : Prop where
  os : w'.os = w.os
  tape : w'.tape = w.tape
  output : w'.output = w.output
  size : w.heap.size ≤ w'.heap.size
  block : ∀ k, k < w.heap.size → ¬ S k → w'.heap[k]? = w.heap[k]?
theorem But.refl (S : Nat → Prop) (w : World) : But S w w := ⟨rfl, rfl, rfl, Nat.le_refl _, fun _ _ _ => rfl⟩
theorem But.trans {S : Nat → Prop} {a b c : World} (h : But S a b) (k : But S b c) : But S a c :=
  ⟨k.os.trans h.os, k.tape.trans h.tape, k.output.trans h.output, Nat.le_trans h.size k.size, fun i hi hs => (k.block i (Nat.lt_of_lt_of_le hi h.size) hs).trans (h.block i hi hs)⟩
theorem But.mono {S T : Nat → Prop} {a b : World} (h : But S a b) (hs : ∀ k, k < a.heap.size → S k → T k) : But T a b :=
  ⟨h.os, h.tape, h.output, h.size, fun i hi ht => h.block i hi (fun s => ht (hs i hi s))⟩
/-- A later step may also turn what is new to the first world. -/
theorem But.then {S T : Nat → Prop} {a b c : World} (h : But S a b) (k : But T b c) (hs : ∀ i, i < a.heap.size → T i → S i) : But S a c :=
  ⟨k.os.trans h.os, k.tape.trans h.tape, k.output.trans h.output, Nat.le_trans h.size k.size, fun i hi ht => (k.block i (Nat.lt_of_lt_of_le hi h.size) (fun t => ht (hs i hi t))).trans (h.block i hi ht)⟩
theorem But.drew {S : Nat → Prop} {a w : World} (h : But S a w) : But S a w.drew := ⟨h.os, h.tape, h.output, h.size, h.block⟩
theorem But.drewN {S : Nat → Prop} {a w : World} (h : But S a w) (n : Nat) : But S a (w.drewN n) := ⟨h.os, h.tape, h.output, h.size, h.block⟩
theorem But.alloc {S : Nat → Prop} {a w : World} (h : But S a w) (o : Obj) : But S a (w.alloc o) :=
  h.then (T := fun _ => False) ⟨rfl, rfl, rfl, by simp, fun k hk _ => Below.heap_alloc _ _ _ hk⟩ (fun _ _ f => f.elim)
theorem But.setCell {S : Nat → Prop} {a w : World} (h : But S a w) {p : Addr} (hp : p.block < a.heap.size → S p.block) (u : Value) : But S a (w.setCell p u) :=
  h.then (T := fun k => k = p.block) ⟨rfl, rfl, rfl, by simp [World.setCell], fun k _ hne => Below.heap_setCell _ _ _ _ hne⟩ (fun i hi e => by subst e; exact hp hi)
theorem But.of_below {S : Nat → Prop} {a w w' : World} (h : But S a w) {B : Nat} (k : Below B w w') (hb : ∀ i, i < a.heap.size → B ≤ i → S i) : But S a w' :=
  h.then (T := fun i => B ≤ i) ⟨k.os, k.tape, k.output, k.size, fun i _ hs => k.block i (by omega)⟩ hb
theorem But.of_grown {S : Nat → Prop} {a w w' : World} {row : Option Nat} (h : But S a w) (k : w.grownBy w' row) (hb : ∀ i, i < a.heap.size → row = some i → S i) : But S a w' :=
  h.then (T := fun i => row = some i) ⟨k.os, k.tape, k.output, k.size, fun i hi hs => k.block i hi (fun e => hs e.symm)⟩ hb
theorem But.below {B : Nat} {a w : World} (h : But (fun i => B ≤ i) a w) (hB : B ≤ a.heap.size) : Below B a w :=
  ⟨h.os, h.tape, h.output, h.size, fun k hk => h.block k (by omega) (by omega)⟩
theorem But.below' {S : Nat → Prop} {B : Nat} {a w : World} (h : But S a w) (hB : B ≤ a.heap.size) (hs : ∀ i, i < B → ¬ S i) : Below B a w :=
  ⟨h.os, h.tape, h.output, h.size, fun k hk => h.block k (by omega) (hs k hk)⟩
theorem But.cell {S : Nat → Prop} {a w : World} (h : But S a w) {p : Addr} (hp : p.block < a.heap.size) (hs : ¬ S p.block) : w.cell? p = a.cell? p := World.cell?_of_block (w := a) (h.block p.block hp hs)
theorem But.frozen {S : Nat → Prop} {a w : World} (h : But S a w) {p : Addr} (hp : p.block < a.heap.size) (hs : ¬ S p.block) : w.frozen? p = a.frozen? p := World.frozen?_of_block (w := a) (h.block p.block hp hs)

theorem But.new_below {w w2 : World} {o : Obj} (h : But (· = w.heap.size) (w.alloc o) w2) : Below w.heap.size w w2 :=
  ((Below.refl _ _).alloc (Nat.le_refl _) _).trans (h.below' (by simp) (fun i hi e => by omega))
theorem Below.drewN' {B : Nat} {a w : World} (h : Below B a w) (n : Nat) : Below B a (w.drewN n) := ⟨h.os, h.tape, h.output, h.size, h.block⟩
/-- Values as plain data. -/
inductive Val where
  | nil
  | bool (b : Bool)
  | int (n : Int)
  | float (b : Nat)
  | text (s : ByteArray)
  | bytes (l : List UInt8)
  | ref (n : Int)
  | list (l : List Val)
  | dict (d : List (ByteArray × Val))
  | record (c : ByteArray) (n : Int) (d : List (ByteArray × Val))
  | nothing
  | alien (u : TypeId)

/-- The types whose values have a kind. -/
def kinded (u : TypeId) : Bool := [4, 2, 25, 9, 26, 28, 128, 130, 132].contains u

/-- The block of a slice. -/
def ownL (v : Value) : List Nat := v.ownBlock.toList

/-- The cells of a list of bytes. -/
def byteCells (l : List UInt8) : List Value := l.map fun b => .int .u8 b.toNat

mutual
/-- How a value lies in memory; the last list: the blocks that it takes, each as often as it is met. -/
def VRep (w : World) : Val → Value → List Nat → Prop
  | .nil, x, fs => x = .nilIface ∧ fs = []
  | .bool b, x, fs => x = .iface 4 (.bool b) ∧ fs = []
  | .int n, x, fs => x = .iface 2 (.int .i64 n) ∧ (Lit.int .i64 n).wf = true ∧ fs = []
  | .float b, x, fs => x = .iface 25 (.float .f64 b) ∧ (Lit.float .f64 b).wf = true ∧ fs = []
  | .text s, x, fs => x = .iface 9 (.string s) ∧ s.size ≤ maxLen ∧ fs = []
  | .bytes l, x, fs => ∃ sv, x = .iface 26 sv ∧ w.ownsRow 0 5 1 sv l.length (byteCells l) ∧ fs = ownL sv
  | .ref n, x, fs => x = .iface 28 (.int .u64 n) ∧ (Lit.int .u64 n).wf = true ∧ fs = []
  | .list l, x, fs => ∃ sv xs gs, x = .iface 128 sv ∧ w.ownsRow 0 20 1 sv l.length xs ∧ VsRep w l xs gs ∧ fs = ownL sv ++ gs
  | .dict d, x, fs => ∃ sv xs gs, x = .iface 130 sv ∧ w.ownsRow 0 220 2 sv d.length xs ∧ DsRep w d xs gs ∧ fs = ownL sv ++ gs
  | .record c n d, x, fs => ∃ b sv xs gs, x = .iface 132 (.pointer (some ⟨b, 0, none⟩)) ∧ w.heap[b]? = some (.cells #[.string c, .int .i64 n, sv] 134 (0, 0)) ∧ c.size ≤ maxLen ∧ (Lit.int .i64 n).wf = true ∧
      w.ownsRow 0 220 2 sv d.length xs ∧ DsRep w d xs gs ∧ fs = b :: (ownL sv ++ gs)
  | .nothing, x, fs => x = .iface 132 (.pointer none) ∧ fs = []
  | .alien u, x, fs => ∃ y, x = .iface u y ∧ kinded u = false ∧ fs = []
/-- Values in a row of cells. -/
def VsRep (w : World) : List Val → List Value → List Nat → Prop
  | [], xs, fs => xs = [] ∧ fs = []
  | v :: l, xs, fs => ∃ x ys f g, xs = x :: ys ∧ VRep w v x f ∧ VsRep w l ys g ∧ fs = f ++ g
/-- Values under names in a row of cells. -/
def DsRep (w : World) : List (ByteArray × Val) → List Value → List Nat → Prop
  | [], xs, fs => xs = [] ∧ fs = []
  | p :: l, xs, fs => ∃ x ys f g, xs = .string p.1 :: x :: ys ∧ p.1.size ≤ maxLen ∧ PRep w p x f ∧ DsRep w l ys g ∧ fs = f ++ g
def PRep (w : World) : ByteArray × Val → Value → List Nat → Prop
  | (_, v), x, fs => VRep w v x fs
end

theorem ownsRow_keep {w w' : World} {base : Nat} {e : TypeId} {size : Nat} {sv : Value} {n : Nat} {xs : List Value} (h : w.ownsRow base e size sv n xs) (hk : ∀ b ∈ ownL sv, w'.heap[b]? = w.heap[b]?) : w'.ownsRow base e size sv n xs := by
  obtain ⟨h1, h2⟩ := h
  refine ⟨h1, h2.imp id ?_⟩
  rintro ⟨g, cap, cur, hv, hb, hg, hr⟩
  refine ⟨g, cap, cur, hv, hb, ?_, hr⟩
  rw [hk g (by simp [ownL, hv, Value.ownBlock])]; exact hg
theorem ownsRow_lt {w : World} {base : Nat} {e : TypeId} {size : Nat} {sv : Value} {n : Nat} {xs : List Value} (h : w.ownsRow base e size sv n xs) : ∀ b ∈ ownL sv, base ≤ b ∧ b < w.heap.size := by
  intro b hb
  exact h.lt b (by simpa [ownL] using hb)
mutual
theorem VRep.keep {w w' : World} : ∀ (v : Val) (x : Value) (fs : List Nat), VRep w v x fs → (∀ b ∈ fs, w'.heap[b]? = w.heap[b]?) → VRep w' v x fs
  | .nil, _, _, h, _ => h
  | .bool _, _, _, h, _ => h
  | .int _, _, _, h, _ => h
  | .float _, _, _, h, _ => h
  | .text _, _, _, h, _ => h
  | .bytes _, _, _, ⟨sv, h1, h2, h3⟩, hk => ⟨sv, h1, ownsRow_keep h2 (fun b hb => hk b (by rw [h3]; exact hb)), h3⟩
  | .ref _, _, _, h, _ => h
  | .list l, _, _, ⟨sv, xs, gs, h1, h2, h3, h4⟩, hk =>
    ⟨sv, xs, gs, h1, ownsRow_keep h2 (fun b hb => hk b (by rw [h4]; exact List.mem_append_left _ hb)), VsRep.keep l xs gs h3 (fun b hb => hk b (by rw [h4]; exact List.mem_append_right _ hb)), h4⟩
  | .dict d, _, _, ⟨sv, xs, gs, h1, h2, h3, h4⟩, hk =>
    ⟨sv, xs, gs, h1, ownsRow_keep h2 (fun b hb => hk b (by rw [h4]; exact List.mem_append_left _ hb)), DsRep.keep d xs gs h3 (fun b hb => hk b (by rw [h4]; exact List.mem_append_right _ hb)), h4⟩
  | .record _ _ d, _, _, ⟨b, sv, xs, gs, h1, h2, h3, h4, h5, h6, h7⟩, hk =>
    ⟨b, sv, xs, gs, h1, (hk b (by rw [h7]; exact List.mem_cons_self)).trans h2, h3, h4, ownsRow_keep h5 (fun b' hb => hk b' (by rw [h7]; exact List.mem_cons_of_mem _ (List.mem_append_left _ hb))),
      DsRep.keep d xs gs h6 (fun b' hb => hk b' (by rw [h7]; exact List.mem_cons_of_mem _ (List.mem_append_right _ hb))), h7⟩
  | .nothing, _, _, h, _ => h
  | .alien _, _, _, h, _ => h
theorem VsRep.keep {w w' : World} : ∀ (l : List Val) (xs : List Value) (fs : List Nat), VsRep w l xs fs → (∀ b ∈ fs, w'.heap[b]? = w.heap[b]?) → VsRep w' l xs fs
  | [], _, _, h, _ => h
  | v :: l, _, _, ⟨x, ys, f, g, h1, h2, h3, h4⟩, hk =>
    ⟨x, ys, f, g, h1, VRep.keep v x f h2 (fun b hb => hk b (by rw [h4]; exact List.mem_append_left _ hb)), VsRep.keep l ys g h3 (fun b hb => hk b (by rw [h4]; exact List.mem_append_right _ hb)), h4⟩
theorem DsRep.keep {w w' : World} : ∀ (l : List (ByteArray × Val)) (xs : List Value) (fs : List Nat), DsRep w l xs fs → (∀ b ∈ fs, w'.heap[b]? = w.heap[b]?) → DsRep w' l xs fs
  | [], _, _, h, _ => h
  | p :: l, _, _, ⟨x, ys, f, g, h1, h0, h2, h3, h4⟩, hk =>
    ⟨x, ys, f, g, h1, h0, PRep.keep p x f h2 (fun b hb => hk b (by rw [h4]; exact List.mem_append_left _ hb)), DsRep.keep l ys g h3 (fun b hb => hk b (by rw [h4]; exact List.mem_append_right _ hb)), h4⟩
theorem PRep.keep {w w' : World} : ∀ (p : ByteArray × Val) (x : Value) (fs : List Nat), PRep w p x fs → (∀ b ∈ fs, w'.heap[b]? = w.heap[b]?) → PRep w' p x fs
  | (_, v), x, fs, h, hk => VRep.keep v x fs h hk
end
mutual
theorem VRep.lt {w : World} : ∀ (v : Val) (x : Value) (fs : List Nat), VRep w v x fs → ∀ b ∈ fs, b < w.heap.size
  | .nil, _, _, ⟨_, h⟩ => by simp [h]
  | .bool _, _, _, ⟨_, h⟩ => by simp [h]
  | .int _, _, _, ⟨_, _, h⟩ => by simp [h]
  | .float _, _, _, ⟨_, _, h⟩ => by simp [h]
  | .text _, _, _, ⟨_, _, h⟩ => by simp [h]
  | .bytes _, _, _, ⟨sv, h1, h2, h3⟩ => by rw [h3]; exact fun b hb => (ownsRow_lt h2 b hb).2
  | .ref _, _, _, ⟨_, _, h⟩ => by simp [h]
  | .list l, _, _, ⟨sv, xs, gs, h1, h2, h3, h4⟩ => by
    have := VsRep.lt l xs gs h3
    have h2' := ownsRow_lt h2
    rw [h4]; intro b hb; rcases List.mem_append.1 hb with hb | hb
    · exact (h2' b hb).2
    · exact this b hb
  | .dict d, _, _, ⟨sv, xs, gs, h1, h2, h3, h4⟩ => by
    have := DsRep.lt d xs gs h3
    have h2' := ownsRow_lt h2
    rw [h4]; intro b hb; rcases List.mem_append.1 hb with hb | hb
    · exact (h2' b hb).2
    · exact this b hb
  | .record _ _ d, _, _, ⟨b0, sv, xs, gs, h1, h2, h3, h4, h5, h6, h7⟩ => by
    have := DsRep.lt d xs gs h6
    have h2' := ownsRow_lt h5
    rw [h7]; intro b hb; rcases List.mem_cons.1 hb with rfl | hb
    · exact (Array.getElem?_eq_some_iff.1 h2).1
    · rcases List.mem_append.1 hb with hb | hb
      · exact (h2' b hb).2
      · exact this b hb
  | .nothing, _, _, ⟨_, h⟩ => by simp [h]
  | .alien _, _, _, ⟨_, _, _, h⟩ => by simp [h]
theorem VsRep.lt {w : World} : ∀ (l : List Val) (xs : List Value) (fs : List Nat), VsRep w l xs fs → ∀ b ∈ fs, b < w.heap.size
  | [], _, _, ⟨_, h⟩ => by simp [h]
  | v :: l, _, _, ⟨x, ys, f, g, h1, h2, h3, h4⟩ => by
    have a1 := VRep.lt v x f h2
    have a2 := VsRep.lt l ys g h3
    rw [h4]; intro b hb; rcases List.mem_append.1 hb with hb | hb
    · exact a1 b hb
    · exact a2 b hb
theorem DsRep.lt {w : World} : ∀ (l : List (ByteArray × Val)) (xs : List Value) (fs : List Nat), DsRep w l xs fs → ∀ b ∈ fs, b < w.heap.size
  | [], _, _, ⟨_, h⟩ => by simp [h]
  | p :: l, _, _, ⟨x, ys, f, g, h1, h0, h2, h3, h4⟩ => by
    have a1 := PRep.lt p x f h2
    have a2 := DsRep.lt l ys g h3
    rw [h4]; intro b hb; rcases List.mem_append.1 hb with hb | hb
    · exact a1 b hb
    · exact a2 b hb
theorem PRep.lt {w : World} : ∀ (p : ByteArray × Val) (x : Value) (fs : List Nat), PRep w p x fs → ∀ b ∈ fs, b < w.heap.size
  | (_, v), x, fs, h => VRep.lt v x fs h
end
/-- What lies in blocks that a step leaves alone lies there still. -/
theorem VRep.but {S : Nat → Prop} {w w' : World} {v : Val} {x : Value} {fs : List Nat} (h : VRep w v x fs) (hb : But S w w') (hs : ∀ b ∈ fs, ¬ S b) : VRep w' v x fs :=
  VRep.keep v x fs h (fun b hbf => hb.block b (VRep.lt v x fs h b hbf) (hs b hbf))
theorem VsRep.but {S : Nat → Prop} {w w' : World} {v : List Val} {x : List Value} {fs : List Nat} (h : VsRep w v x fs) (hb : But S w w') (hs : ∀ b ∈ fs, ¬ S b) : VsRep w' v x fs :=
  VsRep.keep v x fs h (fun b hbf => hb.block b (VsRep.lt v x fs h b hbf) (hs b hbf))
theorem DsRep.but {S : Nat → Prop} {w w' : World} {v : List (ByteArray × Val)} {x : List Value} {fs : List Nat} (h : DsRep w v x fs) (hb : But S w w') (hs : ∀ b ∈ fs, ¬ S b) : DsRep w' v x fs :=
  DsRep.keep v x fs h (fun b hbf => hb.block b (DsRep.lt v x fs h b hbf) (hs b hbf))
theorem ownsRow_but {S : Nat → Prop} {w w' : World} {base : Nat} {e : TypeId} {size : Nat} {sv : Value} {n : Nat} {xs : List Value} (h : w.ownsRow base e size sv n xs) (hb : But S w w') (hs : ∀ b ∈ ownL sv, ¬ S b) : w'.ownsRow base e size sv n xs :=
  ownsRow_keep h (fun b hbf => hb.block b (ownsRow_lt h b hbf).2 (hs b hbf))

/-- What a slice that is owned is made of: where it has an element it has an address, and its cells are at hand. -/
theorem ownsRow_form {w : World} {base : Nat} {e : TypeId} {size : Nat} {sv : Value} {n : Nat} {xs : List Value} (h : w.ownsRow base e size sv n xs) :
    ∃ a cap, sv = .slice a n cap ∧ n ≤ cap ∧ cap ≤ maxLen ∧ xs.length = n * size ∧
      ((a = none ∧ n = 0 ∧ cap = 0) ∨ ∃ g, a = some ⟨g, 0, none⟩ ∧ base ≤ g ∧ g < w.heap.size ∧ ownL sv = [g] ∧ (∀ j, j < n * size → w.cell? ⟨g, j, none⟩ = xs[j]?)) := by
  have h' := h
  obtain ⟨h1, h2⟩ := h
  rcases h2 with ⟨rfl, rfl⟩ | ⟨g, cap, cur, rfl, hb, hg, hn, hm, hs, ht⟩
  · exact ⟨none, 0, rfl, Nat.le_refl _, by simp [maxLen], h1, .inl ⟨rfl, rfl, rfl⟩⟩
  · exact ⟨_, cap, rfl, hn, hm, h1, .inr ⟨g, rfl, hb, (Array.getElem?_eq_some_iff.1 hg).1, rfl, fun j hj => h'.cellAt j hj⟩⟩

/-- The k-th field in its row of cells. -/
theorem DsRep.at {w : World} : ∀ (d : List (ByteArray × Val)) (xs : List Value) (gs : List Nat), DsRep w d xs gs → ∀ (k : Nat) (p : ByteArray × Val), d[k]? = some p → ∃ x f, xs[k * 2]? = some (.string p.1) ∧ xs[k * 2 + 1]? = some x ∧ VRep w p.2 x f ∧ (∀ b ∈ f, b ∈ gs) ∧ p.1.size ≤ maxLen
  | [], _, _, _, k, p, h => by simp at h
  | (s, v) :: l, _, _, ⟨x, ys, f, g, h1, h0, h2, h3, h4⟩, k, p, h => by
    subst h1 h4
    cases k with
    | zero =>
      obtain rfl : (s, v) = p := by simpa using h
      exact ⟨x, f, rfl, rfl, h2, fun b hb => List.mem_append_left _ hb, h0⟩
    | succ k =>
      obtain ⟨x', f', e1, e2, e3, e4, e5⟩ := DsRep.at l ys g h3 k p (by simpa using h)
      refine ⟨x', f', ?_, ?_, e3, fun b hb => List.mem_append_right _ (e4 b hb), e5⟩
      · rw [show (k + 1) * 2 = k * 2 + 1 + 1 from by omega]; simpa using e1
      · rw [show (k + 1) * 2 + 1 = k * 2 + 1 + 1 + 1 from by omega]; simpa using e2
theorem VsRep.at {w : World} : ∀ (d : List Val) (xs : List Value) (gs : List Nat), VsRep w d xs gs → ∀ (k : Nat) (v : Val), d[k]? = some v → ∃ x f, xs[k]? = some x ∧ VRep w v x f ∧ (∀ b ∈ f, b ∈ gs)
  | [], _, _, _, k, p, h => by simp at h
  | v :: l, _, _, ⟨x, ys, f, g, h1, h2, h3, h4⟩, k, p, h => by
    subst h1 h4
    cases k with
    | zero =>
      obtain rfl : v = p := by simpa using h
      exact ⟨x, f, rfl, h2, fun b hb => List.mem_append_left _ hb⟩
    | succ k =>
      obtain ⟨x', f', e1, e3, e4⟩ := VsRep.at l ys g h3 k p (by simpa using h)
      exact ⟨x', f', by simpa using e1, e3, fun b hb => List.mem_append_right _ (e4 b hb)⟩
theorem VsRep.length {w : World} : ∀ (d : List Val) (xs : List Value) (gs : List Nat), VsRep w d xs gs → xs.length = d.length
  | [], _, _, ⟨h, _⟩ => by simp [h]
  | v :: l, _, _, ⟨x, ys, f, g, h1, h2, h3, h4⟩ => by subst h1; simp [VsRep.length l ys g h3]
theorem DsRep.length {w : World} : ∀ (d : List (ByteArray × Val)) (xs : List Value) (gs : List Nat), DsRep w d xs gs → xs.length = d.length * 2
  | [], _, _, ⟨h, _⟩ => by simp [h]
  | v :: l, _, _, ⟨x, ys, f, g, h1, h0, h2, h3, h4⟩ => by subst h1; simp [DsRep.length l ys g h3]; omega

/-- A value that is an interface's takes one cell. -/
theorem VRep.one {w : World} {v : Val} {x : Value} {fs : List Nat} (h : VRep w v x fs) : x.oneCell' = true := by
  cases v <;> simp only [VRep] at h
  case nil => obtain ⟨rfl, _⟩ := h; rfl
  case bytes => obtain ⟨_, rfl, _⟩ := h; rfl
  case list => obtain ⟨_, _, _, rfl, _⟩ := h; rfl
  case dict => obtain ⟨_, _, _, rfl, _⟩ := h; rfl
  case record => obtain ⟨_, _, _, _, rfl, _⟩ := h; rfl
  case alien => obtain ⟨_, rfl, _⟩ := h; rfl
  all_goals obtain ⟨rfl, _⟩ := h; rfl

/-! ### What value.Check answers, as plain functions -/
/-- Go's '<=' of two texts. -/
def leS (a b : ByteArray) : Bool := Op.bytesLess a.toList b.toList || a.toList == b.toList
/-- The name at place k is none, or does not rise. -/
def badName (d : List (ByteArray × Val)) (k : Nat) : Bool :=
  match d[k]? with
  | some p => !nameOk p.1 || (match k with | 0 => false | j + 1 => (match d[j]? with | some q => leS p.1 q.1 | none => false))
  | none => false
theorem badName_name {d : List (ByteArray × Val)} {k : Nat} {p : ByteArray × Val} (h : d[k]? = some p) (hn : nameOk p.1 = false) : badName d k = true := by simp [badName, h, hn]
theorem badName_zero {d : List (ByteArray × Val)} {k : Nat} {p : ByteArray × Val} (hk : k = 0) (h : d[k]? = some p) (hn : nameOk p.1 = true) : badName d k = false := by subst hk; simp [badName, h, hn]
theorem badName_succ {d : List (ByteArray × Val)} {k j : Nat} {p q : ByteArray × Val} (hk : k = j + 1) (h : d[k]? = some p) (hq : d[j]? = some q) (hn : nameOk p.1 = true) : badName d k = leS p.1 q.1 := by subst hk; simp [badName, h, hq, hn]
def fieldsF (d : List (ByteArray × Val)) : Int :=
  if 4096 < d.length then 2 else if (List.range d.length).any (badName d) then 8 else 0
theorem fieldsF_long {d : List (ByteArray × Val)} (h : 4096 < d.length) : fieldsF d = 2 := by simp [fieldsF, h]
theorem fieldsF_bad {d : List (ByteArray × Val)} (h : d.length ≤ 4096) {k : Nat} (hk : k < d.length) (hb : badName d k = true) : fieldsF d = 8 := by
  have : (List.range d.length).any (badName d) = true := List.any_eq_true.2 ⟨k, List.mem_range.2 hk, hb⟩
  simp only [fieldsF, this]; rw [if_neg (by omega)]; rfl
theorem fieldsF_ok {d : List (ByteArray × Val)} (h : d.length ≤ 4096) (hb : ∀ k, k < d.length → badName d k = false) : fieldsF d = 0 := by
  have : (List.range d.length).any (badName d) = false := List.any_eq_false.2 fun k hk => by rw [hb k (List.mem_range.1 hk)]; simp
  simp only [fieldsF, this]; rw [if_neg (by omega)]; rfl

/-- A value's kind. -/
def kindV : Val → Int
  | .nil => 1 | .bool _ => 2 | .int _ => 3 | .float _ => 4 | .text _ => 5 | .bytes _ => 6 | .ref _ => 7 | .list _ => 8 | .dict _ => 9 | .record .. => 10 | .nothing => 11 | .alien .. => 0
/-- What is wrong with a part itself. -/
def ownIn : Val → Int
  | .text s => if 65536 < s.size then 2 else 0
  | .bytes l => if 65536 < l.length then 2 else 0
  | .list l => if 4096 < l.length then 2 else 0
  | .dict d => fieldsF d
  | .record c n d => if nameOk c = false then 8 else if n < 1 ∨ 1000 < n then 1 else fieldsF d
  | .nothing => 7
  | .alien .. => 6
  | _ => 0
def ownF (v : Val) (n deep : Int) : Int :=
  if 16384 ≤ n ∨ 64 < deep then (if kindV v = 11 then 7 else if kindV v = 0 then 6 else 2) else ownIn v
/-- The cells of a record. -/
theorem recCells {w : World} {b : Nat} {c n sv : Value} {t : TypeId} (h : w.heap[b]? = some (.cells #[c, n, sv] t (0, 0))) :
    w.cell? ⟨b, 0, none⟩ = some c ∧ w.cell? ⟨b, 1, none⟩ = some n ∧ w.cell? ⟨b, 2, none⟩ = some sv ∧ b < w.heap.size ∧ (∀ o, w.frozen? ⟨b, o, none⟩ = false) := by
  refine ⟨by simp [World.cell?, h], by simp [World.cell?, h], by simp [World.cell?, h], (Array.getElem?_eq_some_iff.1 h).1, fun o => by simp [World.frozen?, h]⟩
theorem kinded_no {u : TypeId} (h : kinded u = false) : u ≠ 4 ∧ u ≠ 2 ∧ u ≠ 25 ∧ u ≠ 9 ∧ u ≠ 26 ∧ u ≠ 28 ∧ u ≠ 128 ∧ u ≠ 130 ∧ u ≠ 132 := by
  simpa [kinded] using h

/-- What value.count has counted. -/
structure Cnt where
  n : Int
  dp : Int
  why : Int
def cntObj (c : Cnt) : Obj := .cells #[.int .i64 c.n, .int .i64 c.dp, .int .i64 c.why] 282 (0, 0)
/-- A part itself, then its own parts. -/
def stepF (v : Val) (deep : Int) (c : Cnt) (kids : Cnt → Bool × Cnt) : Bool × Cnt :=
  if ownF v c.n deep = 0 then kids ⟨c.n + 1, max c.dp deep, 0⟩ else (false, ⟨c.n, c.dp, ownF v c.n deep⟩)
mutual
/-- A part is looked through. -/
def partF : Val → Int → Cnt → Bool × Cnt
  | .list l, deep, c => stepF (.list l) deep c (fun c' => partsF l (deep + 1) c')
  | .dict d, deep, c => stepF (.dict d) deep c (fun c' => dpartsF d (deep + 1) c')
  | .record s n d, deep, c => stepF (.record s n d) deep c (fun c' => dpartsF d (deep + 1) c')
  | .nil, deep, c => stepF (.nil) deep c (fun c' => (true, c'))
  | .bool b, deep, c => stepF (.bool b) deep c (fun c' => (true, c'))
  | .int n, deep, c => stepF (.int n) deep c (fun c' => (true, c'))
  | .float b, deep, c => stepF (.float b) deep c (fun c' => (true, c'))
  | .text s, deep, c => stepF (.text s) deep c (fun c' => (true, c'))
  | .bytes l, deep, c => stepF (.bytes l) deep c (fun c' => (true, c'))
  | .ref n, deep, c => stepF (.ref n) deep c (fun c' => (true, c'))
  | .nothing, deep, c => stepF (.nothing) deep c (fun c' => (true, c'))
  | .alien u, deep, c => stepF (.alien u) deep c (fun c' => (true, c'))
def partsF : List Val → Int → Cnt → Bool × Cnt
  | [], _, c => (true, c)
  | v :: l, deep, c => match partF v deep c with
    | (true, c') => partsF l deep c'
    | (false, c') => (false, c')
def dpartsF : List (ByteArray × Val) → Int → Cnt → Bool × Cnt
  | [], _, c => (true, c)
  | p :: l, deep, c => match dpartF p deep c with
    | (true, c') => dpartsF l deep c'
    | (false, c') => (false, c')
def dpartF : ByteArray × Val → Int → Cnt → Bool × Cnt
  | (_, v), deep, c => partF v deep c
end
theorem dpartF_snd (p : ByteArray × Val) (deep : Int) (c : Cnt) : dpartF p deep c = partF p.2 deep c := by cases p; rw [dpartF]
/-- value.check. -/
def checkF (v : Val) : Int × Int :=
  match partF v 1 ⟨0, 0, 0⟩ with
  | (true, _) => (0, 0)
  | (false, c) => (c.n, c.why)
theorem ownF_n {v : Val} {n deep : Int} (h : ownF v n deep = 0) : n < 16384 := by
  by_cases hn : n < 16384
  · exact hn
  · exfalso
    have : ownF v n deep = (if kindV v = 11 then 7 else if kindV v = 0 then 6 else 2) := if_pos (.inl (by omega))
    rw [this] at h
    split at h <;> (try split at h) <;> omega
theorem stepF_n {v : Val} {deep : Int} {c : Cnt} {kids : Cnt → Bool × Cnt} (h0 : 0 ≤ c.n) (h1 : c.n ≤ 16384) (hk : ∀ c' : Cnt, 0 ≤ c'.n → c'.n ≤ 16384 → 0 ≤ (kids c').2.n ∧ (kids c').2.n ≤ 16384) :
    0 ≤ (stepF v deep c kids).2.n ∧ (stepF v deep c kids).2.n ≤ 16384 := by
  unfold stepF
  split
  · rename_i ho
    have := ownF_n ho
    exact hk _ (by dsimp only; omega) (by dsimp only; omega)
  · exact ⟨h0, h1⟩
mutual
theorem partF_n : ∀ (v : Val) (deep : Int) (c : Cnt), 0 ≤ c.n → c.n ≤ 16384 → 0 ≤ (partF v deep c).2.n ∧ (partF v deep c).2.n ≤ 16384
  | .list l, deep, c, h0, h1 => by rw [partF]; exact stepF_n h0 h1 (fun c' => partsF_n l _ c')
  | .dict d, deep, c, h0, h1 => by rw [partF]; exact stepF_n h0 h1 (fun c' => dpartsF_n d _ c')
  | .record _ _ d, deep, c, h0, h1 => by rw [partF]; exact stepF_n h0 h1 (fun c' => dpartsF_n d _ c')
  | .nil, deep, c, h0, h1 => by rw [partF]; exact stepF_n h0 h1 (fun c' a b => ⟨a, b⟩)
  | .bool b, deep, c, h0, h1 => by rw [partF]; exact stepF_n h0 h1 (fun c' a b => ⟨a, b⟩)
  | .int n, deep, c, h0, h1 => by rw [partF]; exact stepF_n h0 h1 (fun c' a b => ⟨a, b⟩)
  | .float b, deep, c, h0, h1 => by rw [partF]; exact stepF_n h0 h1 (fun c' a b => ⟨a, b⟩)
  | .text s, deep, c, h0, h1 => by rw [partF]; exact stepF_n h0 h1 (fun c' a b => ⟨a, b⟩)
  | .bytes l, deep, c, h0, h1 => by rw [partF]; exact stepF_n h0 h1 (fun c' a b => ⟨a, b⟩)
  | .ref n, deep, c, h0, h1 => by rw [partF]; exact stepF_n h0 h1 (fun c' a b => ⟨a, b⟩)
  | .nothing, deep, c, h0, h1 => by rw [partF]; exact stepF_n h0 h1 (fun c' a b => ⟨a, b⟩)
  | .alien u, deep, c, h0, h1 => by rw [partF]; exact stepF_n h0 h1 (fun c' a b => ⟨a, b⟩)
theorem partsF_n : ∀ (l : List Val) (deep : Int) (c : Cnt), 0 ≤ c.n → c.n ≤ 16384 → 0 ≤ (partsF l deep c).2.n ∧ (partsF l deep c).2.n ≤ 16384
  | [], _, c, h0, h1 => by rw [partsF]; exact ⟨h0, h1⟩
  | v :: l, deep, c, h0, h1 => by
    have h := partF_n v deep c h0 h1
    rw [partsF]
    split
    · rename_i c' e; rw [e] at h; exact partsF_n l deep c' h.1 h.2
    · rename_i c' e; rw [e] at h; exact h
theorem dpartsF_n : ∀ (l : List (ByteArray × Val)) (deep : Int) (c : Cnt), 0 ≤ c.n → c.n ≤ 16384 → 0 ≤ (dpartsF l deep c).2.n ∧ (dpartsF l deep c).2.n ≤ 16384
  | [], _, c, h0, h1 => by rw [dpartsF]; exact ⟨h0, h1⟩
  | p :: l, deep, c, h0, h1 => by
    have h := dpartF_n p deep c h0 h1
    rw [dpartsF]
    split
    · rename_i c' e; rw [e] at h; exact dpartsF_n l deep c' h.1 h.2
    · rename_i c' e; rw [e] at h; exact h
theorem dpartF_n : ∀ (p : ByteArray × Val) (deep : Int) (c : Cnt), 0 ≤ c.n → c.n ≤ 16384 → 0 ≤ (dpartF p deep c).2.n ∧ (dpartF p deep c).2.n ≤ 16384
  | (_, v), deep, c, h0, h1 => by rw [dpartF]; exact partF_n v deep c h0 h1
end
theorem partF_bad {v : Val} {deep : Int} {c : Cnt} (h : ¬ ownF v c.n deep = 0) : partF v deep c = (false, ⟨c.n, c.dp, ownF v c.n deep⟩) := by
  cases v <;> rw [partF] <;> exact if_neg h
theorem ownF_deep {v : Val} {n deep : Int} (h : ownF v n deep = 0) : deep ≤ 64 := by
  by_cases hn : deep ≤ 64
  · exact hn
  · exfalso
    have : ownF v n deep = (if kindV v = 11 then 7 else if kindV v = 0 then 6 else 2) := if_pos (.inr (by omega))
    rw [this] at h
    split at h <;> (try split at h) <;> omega
/-- The values that a value holds. -/
def subs : Val → List Val
  | .list l => l
  | .dict d => d.map (·.2)
  | .record _ _ d => d.map (·.2)
  | _ => []
mutual
/-- Induction over values. -/
theorem val_ind {P : Val → Prop} (h : ∀ v, (∀ u ∈ subs v, P u) → P v) : ∀ v, P v
  | .list l => h _ (val_inds h l)
  | .dict d => h _ (val_indd h d)
  | .record c n d => h (.record c n d) (val_indd h d)
  | .nil => h _ (by simp [subs])
  | .bool _ => h _ (by simp [subs])
  | .int _ => h _ (by simp [subs])
  | .float _ => h _ (by simp [subs])
  | .text _ => h _ (by simp [subs])
  | .bytes _ => h _ (by simp [subs])
  | .ref _ => h _ (by simp [subs])
  | .nothing => h _ (by simp [subs])
  | .alien _ => h _ (by simp [subs])
theorem val_inds {P : Val → Prop} (h : ∀ v, (∀ u ∈ subs v, P u) → P v) : ∀ (l : List Val), ∀ u ∈ l, P u
  | [] => by simp
  | v :: l => by
    have h1 := val_ind h v
    have h2 := val_inds h l
    intro u hu
    rcases List.mem_cons.1 hu with rfl | hu
    · exact h1
    · exact h2 u hu
theorem val_indd {P : Val → Prop} (h : ∀ v, (∀ u ∈ subs v, P u) → P v) : ∀ (d : List (ByteArray × Val)), ∀ u ∈ d.map (·.2), P u
  | [] => by simp
  | p :: l => by
    have h1 := val_indp h p
    have h2 := val_indd h l
    intro u hu
    rcases List.mem_cons.1 hu with rfl | hu
    · exact h1
    · exact h2 u hu
theorem val_indp {P : Val → Prop} (h : ∀ v, (∀ u ∈ subs v, P u) → P v) : ∀ (p : ByteArray × Val), P p.2
  | (_, v) => val_ind h v
end
end Go.Proofs.Ytgmdbpplfjkjmaa
