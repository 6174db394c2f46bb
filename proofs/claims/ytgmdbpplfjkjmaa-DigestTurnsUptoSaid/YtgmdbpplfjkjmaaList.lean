/- Lists that a call makes, an element a round: what is owned, and that no block is met twice. Which values can be, as a plain condition. -/
import Derived.Test.YtgmdbpplfjkjmaaWords
import Derived.Test.YtgmdbpplfjkjmaaVal
import Derived.Deep.AppendLies
namespace Go.Proofs.Ytgmdbpplfjkjmaa
open Go.RowKit
set_option linter.unusedVariables false
set_option linter.unusedSimpArgs false

theorem VsRep.snoc {w : World} {v : Val} {x : Value} {f : List Nat} (hv : VRep w v x f) : ∀ (l : List Val) (xs : List Value) (gs : List Nat), VsRep w l xs gs → VsRep w (l ++ [v]) (xs ++ [x]) (gs ++ f)
  | [], _, _, ⟨h1, h2⟩ => by subst h1 h2; exact ⟨x, [], f, [], rfl, hv, ⟨rfl, rfl⟩, by simp⟩
  | u :: l, _, _, ⟨y, ys, g, h, e1, e2, e3, e4⟩ => by subst e1 e4; exact ⟨y, ys ++ [x], g, h ++ f, rfl, e2, VsRep.snoc hv l ys h e3, by simp⟩
theorem DsRep.snoc {w : World} {s : ByteArray} {v : Val} {x : Value} {f : List Nat} (hs : s.size ≤ maxLen) (hv : VRep w v x f) : ∀ (l : List (ByteArray × Val)) (xs : List Value) (gs : List Nat), DsRep w l xs gs → DsRep w (l ++ [(s, v)]) (xs ++ [.string s, x]) (gs ++ f)
  | [], _, _, ⟨h1, h2⟩ => by subst h1 h2; exact ⟨x, [], f, [], rfl, hs, hv, ⟨rfl, rfl⟩, by simp⟩
  | u :: l, _, _, ⟨y, ys, g, h, e1, e0, e2, e3, e4⟩ => by subst e1 e4; exact ⟨y, ys ++ [.string s, x], g, h ++ f, rfl, e0, e2, DsRep.snoc hs hv l ys h e3, by simp⟩

/-- What the call itself has made of a list so far: n elements; gs: the blocks that they take. -/
structure Listed (B : Nat) (wr : World) (e : TypeId) (size : Nat) (sv : Value) (n : Nat) (xs : List Value) (gs : List Nat) : Prop where
  own : wr.ownsRow B e size sv n xs
  nodup : (ownL sv ++ gs).Nodup
  new : ∀ b ∈ gs, B ≤ b ∧ b < wr.heap.size
theorem Listed.made {B : Nat} {w : World} {e : TypeId} {size : Nat} {sv : Value} (h : w.ownsRow B e size sv 0 []) : Listed B w e size sv 0 [] [] :=
  ⟨h, by rw [List.append_nil]; unfold ownL; cases sv.ownBlock <;> simp, by simp⟩
theorem Listed.below {B : Nat} {w w1 : World} {e : TypeId} {size : Nat} {sv : Value} {n : Nat} {xs : List Value} {gs : List Nat} (h : Listed B w e size sv n xs gs) (hb : Below w.heap.size w w1) : Listed B w1 e size sv n xs gs :=
  ⟨ownsRow_keep h.own (fun b hbf => hb.block b (ownsRow_lt h.own b hbf).2), h.nodup, fun b hbf => ⟨(h.new b hbf).1, Nat.lt_of_lt_of_le (h.new b hbf).2 hb.size⟩⟩
/-- One element more: y's blocks lie behind those that the list had, ahead of what the append makes. -/
theorem Listed.step {B : Nat} {wr w1 w2 : World} {o : Obj} {e : TypeId} {size : Nat} {sv : Value} {n m : Nat} {xs ys : List Value} {gs gy : List Nat} {g cap : Nat} (h : Listed B wr e size sv n xs gs) (hb : Below wr.heap.size wr w1)
    (hgy : gy.Nodup) (hny : ∀ b ∈ gy, wr.heap.size ≤ b ∧ b < w1.heap.size) (hB : B ≤ wr.heap.size)
    (hown : w2.ownsRow B e size (.slice (some ⟨g, 0, none⟩) m cap) m ys) (hgr : (w1.alloc o).grownBy w2 sv.ownBlock) (hat : sv.ownBlock = some g ∨ g = (w1.alloc o).heap.size) (hlt : g < w2.heap.size) :
    Listed B w2 e size (.slice (some ⟨g, 0, none⟩) m cap) m ys (gs ++ gy) := by
  have hsz : w1.heap.size + 1 ≤ w2.heap.size := by have := hgr.size; simpa using this
  have hbs := hb.size
  refine ⟨hown, ?_, ?_⟩
  · have hnd := List.nodup_append.1 h.nodup
    have hg1 : g ∉ gs := by
      rcases hat with hat | hat
      · exact fun hm => hnd.2.2 g (ownL_some.2 hat) g hm rfl
      · intro hm; have := (h.new g hm).2; rw [hat] at this; simp at this; omega
    have hg2 : g ∉ gy := by
      rcases hat with hat | hat
      · intro hm; have h1 := (hny g hm).1; have h2 := (ownsRow_lt h.own g (ownL_some.2 hat)).2; omega
      · intro hm; have := (hny g hm).2; rw [hat] at this; simp at this; omega
    have hd : ∀ a ∈ gs, ∀ b ∈ gy, a ≠ b := fun a ha b hb' e => by have h1 := (h.new a ha).2; have h2 := (hny b hb').1; omega
    have e : ownL (.slice (some ⟨g, 0, none⟩) m cap) = [g] := rfl
    rw [e]
    show (g :: (gs ++ gy)).Nodup
    refine List.nodup_cons.2 ⟨fun hm => ?_, List.nodup_append.2 ⟨hnd.2.1, hgy, hd⟩⟩
    rcases List.mem_append.1 hm with hm | hm
    · exact hg1 hm
    · exact hg2 hm
  · intro b hbm
    rcases List.mem_append.1 hbm with hbm | hbm
    · exact ⟨(h.new b hbm).1, by have := (h.new b hbm).2; omega⟩
    · exact ⟨by have := (hny b hbm).1; omega, by have := (hny b hbm).2; omega⟩
/-- The blocks of the elements are as they were behind the append. -/
theorem Listed.kept {B : Nat} {wr w1 w2 : World} {o : Obj} {e : TypeId} {size : Nat} {sv : Value} {n : Nat} {xs : List Value} {gs gy : List Nat} (h : Listed B wr e size sv n xs gs) (hb : Below wr.heap.size wr w1)
    (hny : ∀ b ∈ gy, wr.heap.size ≤ b ∧ b < w1.heap.size) (hgr : (w1.alloc o).grownBy w2 sv.ownBlock) :
    (∀ b ∈ gs, w2.heap[b]? = wr.heap[b]?) ∧ (∀ b ∈ gy, w2.heap[b]? = w1.heap[b]?) := by
  have hbs := hb.size
  have hnd := List.nodup_append.1 h.nodup
  constructor
  · intro b hbm
    have h1 := (h.new b hbm).2
    rw [hgr.block b (by simp; omega) (fun e => hnd.2.2 b (ownL_some.2 e.symm) b hbm rfl), Below.heap_alloc _ _ _ (by omega)]
    exact hb.block b h1
  · intro b hbm
    have h1 := (hny b hbm)
    rw [hgr.block b (by simp; omega) (fun e => by have := (ownsRow_lt h.own b (ownL_some.2 e.symm)).2; omega), Below.heap_alloc _ _ _ h1.2]
/-- What was there is as it was behind the append. -/
theorem Listed.under {B : Nat} {w0 wr w1 w2 : World} {o : Obj} {e : TypeId} {size : Nat} {sv : Value} {n : Nat} {xs : List Value} {gs : List Nat} (h : Listed B wr e size sv n xs gs) (hb : Below wr.heap.size wr w1)
    (h0 : Below B w0 wr) (hB : B ≤ wr.heap.size) (hgr : (w1.alloc o).grownBy w2 sv.ownBlock) : Below B w0 w2 :=
  ((h0.trans (hb.mono hB)).alloc (Nat.le_trans hB hb.size) o).grown hgr (by have := hb.size; simp; omega) (fun k hk => (ownsRow_lt h.own k (ownL_some.2 hk)).1)

theorem one_pair {s : ByteArray} {y : Value} (h : y.oneCell' = true) : ∀ u ∈ [Value.string s, y], u.oneCell' = true := by
  intro u hu
  rcases List.mem_cons.1 hu with rfl | hu
  · rfl
  · rw [List.mem_singleton.1 hu]; exact h
theorem one_single {y : Value} (h : y.oneCell' = true) : ∀ u ∈ [y], u.oneCell' = true := by
  intro u hu
  rw [List.mem_singleton.1 hu]; exact h
/-- A round that puts one field more into a dict of the call's own. -/
theorem dict_round {w wr w1 w2 : World} {d : List (ByteArray × Val)} {k : Nat} {s : ByteArray} {v : Val} {e : TypeId} {sv y : Value} {ys : List Value} {gs gy : List Nat} {g cap : Nat} {o : Obj} (hp : d[k]? = some (s, v)) (hs : s.size ≤ maxLen)
    (hL : Listed w.heap.size wr e 2 sv k ys gs) (hds : DsRep wr (d.take k) ys gs) (hb : Below w.heap.size w wr) (hb1 : Below wr.heap.size wr w1) (hy : VRep w1 v y gy) (hyn : gy.Nodup) (hyb : ∀ b ∈ gy, wr.heap.size ≤ b)
    (hown : w2.ownsRow w.heap.size e 2 (.slice (some ⟨g, 0, none⟩) (k + 1) cap) (k + 1) (ys ++ [.string s, y])) (hgr : (w1.alloc o).grownBy w2 sv.ownBlock) (hat : sv.ownBlock = some g ∨ g = (w1.alloc o).heap.size) (hlt : g < w2.heap.size) :
    Listed w.heap.size w2 e 2 (.slice (some ⟨g, 0, none⟩) (k + 1) cap) (k + 1) (ys ++ [.string s, y]) (gs ++ gy) ∧ DsRep w2 (d.take (k + 1)) (ys ++ [.string s, y]) (gs ++ gy) ∧ Below w.heap.size w w2 := by
  have hny : ∀ b ∈ gy, wr.heap.size ≤ b ∧ b < w1.heap.size := fun b hbm => ⟨hyb b hbm, VRep.lt _ _ _ hy b hbm⟩
  have hk := hL.kept hb1 hny hgr
  refine ⟨hL.step hb1 hyn hny hb.size hown hgr hat hlt, ?_, hL.under hb1 hb hb.size hgr⟩
  rw [List.take_add_one, hp]
  exact DsRep.snoc hs (VRep.keep _ _ _ hy hk.2) _ _ _ (DsRep.keep _ _ _ hds hk.1)
/-- A round that puts one value more into a list of the call's own. -/
theorem list_round {w wr w1 w2 : World} {d : List Val} {k : Nat} {v : Val} {e : TypeId} {sv y : Value} {ys : List Value} {gs gy : List Nat} {g cap : Nat} {o : Obj} (hp : d[k]? = some v)
    (hL : Listed w.heap.size wr e 1 sv k ys gs) (hds : VsRep wr (d.take k) ys gs) (hb : Below w.heap.size w wr) (hb1 : Below wr.heap.size wr w1) (hy : VRep w1 v y gy) (hyn : gy.Nodup) (hyb : ∀ b ∈ gy, wr.heap.size ≤ b)
    (hown : w2.ownsRow w.heap.size e 1 (.slice (some ⟨g, 0, none⟩) (k + 1) cap) (k + 1) (ys ++ [y])) (hgr : (w1.alloc o).grownBy w2 sv.ownBlock) (hat : sv.ownBlock = some g ∨ g = (w1.alloc o).heap.size) (hlt : g < w2.heap.size) :
    Listed w.heap.size w2 e 1 (.slice (some ⟨g, 0, none⟩) (k + 1) cap) (k + 1) (ys ++ [y]) (gs ++ gy) ∧ VsRep w2 (d.take (k + 1)) (ys ++ [y]) (gs ++ gy) ∧ Below w.heap.size w w2 := by
  have hny : ∀ b ∈ gy, wr.heap.size ≤ b ∧ b < w1.heap.size := fun b hbm => ⟨hyb b hbm, VRep.lt _ _ _ hy b hbm⟩
  have hk := hL.kept hb1 hny hgr
  refine ⟨hL.step hb1 hyn hny hb.size hown hgr hat hlt, ?_, hL.under hb1 hb hb.size hgr⟩
  rw [List.take_add_one, hp]
  exact VsRep.snoc (VRep.keep _ _ _ hy hk.2) _ _ _ (VsRep.keep _ _ _ hds hk.1)

mutual
/-- A value that can be: each part is in order by itself. -/
def okV : Val → Prop
  | .list l => ownIn (.list l) = 0 ∧ okVs l
  | .dict d => ownIn (.dict d) = 0 ∧ okDs d
  | .record s n d => ownIn (.record s n d) = 0 ∧ okDs d
  | .nothing => False
  | .alien _ => False
  | .text s => ownIn (.text s) = 0
  | .bytes l => ownIn (.bytes l) = 0
  | .nil => True
  | .bool _ => True
  | .int _ => True
  | .float _ => True
  | .ref _ => True
def okVs : List Val → Prop
  | [] => True
  | v :: l => okV v ∧ okVs l
def okDs : List (ByteArray × Val) → Prop
  | [] => True
  | p :: l => okP p ∧ okDs l
def okP : ByteArray × Val → Prop
  | (_, v) => okV v
end
theorem okVs_mem : ∀ (l : List Val), okVs l → ∀ v ∈ l, okV v
  | [], _ => by simp
  | v :: l, ⟨h1, h2⟩ => by
    intro u hu
    rcases List.mem_cons.1 hu with rfl | hu
    · exact h1
    · exact okVs_mem l h2 u hu
theorem okDs_mem : ∀ (l : List (ByteArray × Val)), okDs l → ∀ p ∈ l, okV p.2
  | [], _ => by simp
  | (s, v) :: l, ⟨h1, h2⟩ => by
    intro u hu
    rcases List.mem_cons.1 hu with rfl | hu
    · exact h1
    · exact okDs_mem l h2 u hu
theorem ownF_in {v : Val} {n deep : Int} (h : ownF v n deep = 0) : ownIn v = 0 := by
  unfold ownF at h
  split at h
  · split at h <;> (try split at h) <;> omega
  · exact h
theorem stepF_ok {v : Val} {deep : Int} {c : Cnt} {kids : Cnt → Bool × Cnt} (h : (stepF v deep c kids).1 = true) : ownIn v = 0 ∧ ∃ c', (kids c').1 = true := by
  unfold stepF at h
  split at h
  · rename_i ho; exact ⟨ownF_in ho, _, h⟩
  · cases h
mutual
theorem okV_part : ∀ (v : Val) (deep : Int) (c : Cnt), (partF v deep c).1 = true → okV v
  | .list l, deep, c, h => by rw [partF] at h; obtain ⟨h1, c', h2⟩ := stepF_ok h; exact ⟨h1, okVs_part l _ _ h2⟩
  | .dict d, deep, c, h => by rw [partF] at h; obtain ⟨h1, c', h2⟩ := stepF_ok h; exact ⟨h1, okDs_part d _ _ h2⟩
  | .record _ _ d, deep, c, h => by rw [partF] at h; obtain ⟨h1, c', h2⟩ := stepF_ok h; exact ⟨h1, okDs_part d _ _ h2⟩
  | .nothing, deep, c, h => by rw [partF] at h; obtain ⟨h1, -⟩ := stepF_ok h; simp [ownIn] at h1
  | .alien _, deep, c, h => by rw [partF] at h; obtain ⟨h1, -⟩ := stepF_ok h; simp [ownIn] at h1
  | .text s, deep, c, h => by rw [partF] at h; exact (stepF_ok h).1
  | .bytes l, deep, c, h => by rw [partF] at h; exact (stepF_ok h).1
  | .nil, _, _, _ => trivial
  | .bool _, _, _, _ => trivial
  | .int _, _, _, _ => trivial
  | .float _, _, _, _ => trivial
  | .ref _, _, _, _ => trivial
theorem okVs_part : ∀ (l : List Val) (deep : Int) (c : Cnt), (partsF l deep c).1 = true → okVs l
  | [], _, _, _ => trivial
  | v :: l, deep, c, h => by
    rw [partsF] at h
    have h1 := okV_part v deep c
    split at h
    · rename_i c' e; rw [e] at h1; exact ⟨h1 rfl, okVs_part l _ _ h⟩
    · cases h
theorem okDs_part : ∀ (l : List (ByteArray × Val)) (deep : Int) (c : Cnt), (dpartsF l deep c).1 = true → okDs l
  | [], _, _, _ => trivial
  | p :: l, deep, c, h => by
    rw [dpartsF] at h
    have h1 := okP_part p deep c
    split at h
    · rename_i c' e; rw [e] at h1; exact ⟨h1 rfl, okDs_part l _ _ h⟩
    · cases h
theorem okP_part : ∀ (p : ByteArray × Val) (deep : Int) (c : Cnt), (dpartF p deep c).1 = true → okP p
  | (_, v), deep, c, h => by rw [dpartF] at h; exact okV_part v deep c h
end
/-- Where Check says nothing the value can be. -/
theorem okV_check {v : Val} (h : (partF v 1 ⟨0, 0, 0⟩).1 = true) : okV v := okV_part v _ _ h
end Go.Proofs.Ytgmdbpplfjkjmaa
