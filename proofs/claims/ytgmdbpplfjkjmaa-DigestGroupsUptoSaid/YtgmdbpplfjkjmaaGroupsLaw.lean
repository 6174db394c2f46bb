/- Values put together, turned about: the same. -/
import Derived.Test.YtgmdbpplfjkjmaaGroup
import Derived.Test.YtgmdbpplfjkjmaaCmpEq
import Derived.Test.YtgmdbpplfjkjmaaRefGroup
import Derived.Test.YtgmdbpplfjkjmaaList
import Derived.Test.YtgmdbpplfjkjmaaEncLen
namespace Go.Proofs.Ytgmdbpplfjkjmaa
set_option linter.unusedVariables false
set_option linter.unusedSimpArgs false

def goodV (v : Val) : Prop := numsV v ∧ okV v
theorem good_eq {v u : Val} (h : goodV v) (k : goodV u) (e : cmpV v u = 0) : v = u := cmpV_eq h.1 k.1 h.2 k.2 e
theorem cmp_three (v u : Val) : (cmpV v u = -1 ∧ cmpV u v = 1) ∨ (cmpV v u = 0 ∧ cmpV u v = 0) ∨ (cmpV v u = 1 ∧ cmpV u v = -1) := by
  have := cmpV_swap v u
  rcases cmpV_one v u with h | h | h <;> rw [h] at this <;> simp [h, this]
theorem insV_two {u v : Val} (hu : goodV u) (hv : goodV v) : insV [(u, 1)] v = insV [(v, 1)] u := by
  rcases cmp_three u v with ⟨a, b⟩ | ⟨a, b⟩ | ⟨a, b⟩
  · simp [insV, a, b]
  · obtain rfl := good_eq hu hv a; rfl
  · simp [insV, a, b]
theorem insV_comm : ∀ (r : List (Val × Int)), (∀ p ∈ r, goodV p.1) → ∀ {u v : Val}, goodV u → goodV v → insV (insV r u) v = insV (insV r v) u
  | [], _, u, v, hu, hv => insV_two hu hv
  | (a, n) :: r, hr, u, v, hu, hv => by
    have ha : goodV a := hr (a, n) (List.mem_cons_self ..)
    have ih := insV_comm r (fun p hp => hr p (List.mem_cons_of_mem _ hp)) hu hv
    rcases cmp_three a u with ⟨a1, b1⟩ | ⟨a1, b1⟩ | ⟨a1, b1⟩
    · rcases cmp_three a v with ⟨a2, b2⟩ | ⟨a2, b2⟩ | ⟨a2, b2⟩
      · simp [insV, a1, a2, ih]
      · simp [insV, a1, a2]
      · have h := cmpV_lt b2 (by rw [a1]; decide)
        simp [insV, a1, a2, b2, h]
    · obtain rfl := good_eq ha hu a1
      rcases cmp_three a v with ⟨a2, b2⟩ | ⟨a2, b2⟩ | ⟨a2, b2⟩ <;> simp [insV, a1, a2, b2]
    · rcases cmp_three a v with ⟨a2, b2⟩ | ⟨a2, b2⟩ | ⟨a2, b2⟩
      · have h := cmpV_lt b1 (by rw [a2]; decide)
        simp [insV, a1, a2, b1, h]
      · simp only [insV, a1, a2]
        obtain rfl := good_eq ha hv a2
        simp [insV, a1, b1, a2]
      · rcases cmp_three u v with ⟨a3, b3⟩ | ⟨a3, b3⟩ | ⟨a3, b3⟩
        · simp [insV, a1, a2, a3, b3]
        · obtain rfl := good_eq hu hv a3; rfl
        · simp [insV, a1, a2, a3, b3]
theorem insV_good {r : List (Val × Int)} {v : Val} (h : ∀ p ∈ r, goodV p.1) (hv : goodV v) : ∀ p ∈ insV r v, goodV p.1 := fun p hp => by
  rcases insV_mem p hp with e | ⟨q, hq, e⟩
  · rw [e]; exact hv
  · rw [← e]; exact h q hq
theorem fold_ins : ∀ (l : List Val) (r : List (Val × Int)) (v : Val), (∀ p ∈ r, goodV p.1) → (∀ u ∈ l, goodV u) → goodV v → l.foldl insV (insV r v) = insV (l.foldl insV r) v
  | [], _, _, _, _, _ => rfl
  | u :: l, r, v, hr, hl, hv => by
    have hu := hl u (List.mem_cons_self ..)
    rw [List.foldl_cons, List.foldl_cons, insV_comm r hr hv hu]
    exact fold_ins l (insV r u) v (insV_good hr hu) (fun z hz => hl z (List.mem_cons_of_mem _ hz)) hv
theorem groupV_reverse : ∀ (l : List Val), (∀ u ∈ l, goodV u) → groupV l.reverse = groupV l
  | [], _ => rfl
  | v :: l, hl => by
    rw [List.reverse_cons, groupV_snoc, groupV_reverse l (fun z hz => hl z (List.mem_cons_of_mem _ hz))]
    exact (fold_ins l [] v (fun _ h => by cases h) (fun z hz => hl z (List.mem_cons_of_mem _ hz)) (hl v (List.mem_cons_self ..))).symm
end Go.Proofs.Ytgmdbpplfjkjmaa

/-! What the walk of DigestGroups leans on. -/
namespace Go.Proofs.Ytgmdbpplfjkjmaa
open Go.RowKit
set_option linter.unusedVariables false
set_option linter.unusedSimpArgs false

/-- Two lists of values in memory of the call's own, nothing of the one in the other. -/
structure Two (w0 w : World) (sv : Value) (l : List Val) (ys : List Value) (gs : List Nat) (sv' : Value) (l' : List Val) (ys' : List Value) (gs' : List Nat) : Prop where
  a : Listed w0.heap.size w 20 1 sv l.length ys gs
  av : VsRep w l ys gs
  b : Listed w0.heap.size w 20 1 sv' l'.length ys' gs'
  bv : VsRep w l' ys' gs'
  apart : ∀ x, x ∈ ownL sv ++ gs → x ∉ ownL sv' ++ gs'
  bel : Below w0.heap.size w0 w
theorem Two.swap {w0 w : World} {sv sv' : Value} {l l' : List Val} {ys ys' : List Value} {gs gs' : List Nat} (h : Two w0 w sv l ys gs sv' l' ys' gs') : Two w0 w sv' l' ys' gs' sv l ys gs :=
  ⟨h.b, h.bv, h.a, h.av, fun x hx hy => h.apart x hy hx, h.bel⟩
theorem Two.below {w0 w w1 : World} {sv sv' : Value} {l l' : List Val} {ys ys' : List Value} {gs gs' : List Nat} (h : Two w0 w sv l ys gs sv' l' ys' gs') (hb : Below w.heap.size w w1) : Two w0 w1 sv l ys gs sv' l' ys' gs' :=
  ⟨h.a.below hb, VsRep.but h.av (below_but0 hb) (fun _ _ f => f), h.b.below hb, VsRep.but h.bv (below_but0 hb) (fun _ _ f => f), h.apart, h.bel.trans (hb.mono h.bel.size)⟩
/-- One value more in the first of them. -/
theorem Two.round {w0 w w1 w2 : World} {sv sv' y : Value} {l l' : List Val} {ys ys' : List Value} {gs gs' gy : List Nat} {v : Val} {g cap : Nat} {o : Obj} (h : Two w0 w sv l ys gs sv' l' ys' gs')
    (hb1 : Below w.heap.size w w1) (hy : VRep w1 v y gy) (hyn : gy.Nodup) (hyb : ∀ b ∈ gy, w.heap.size ≤ b)
    (hown : w2.ownsRow w0.heap.size 20 1 (.slice (some ⟨g, 0, none⟩) (l.length + 1) cap) (l.length + 1) (ys ++ [y])) (hgr : (w1.alloc o).grownBy w2 sv.ownBlock) (hat : sv.ownBlock = some g ∨ g = (w1.alloc o).heap.size) (hlt : g < w2.heap.size) :
    Two w0 w2 (.slice (some ⟨g, 0, none⟩) (l.length + 1) cap) (l ++ [v]) (ys ++ [y]) (gs ++ gy) sv' l' ys' gs' := by
  have hp : (l ++ [v])[l.length]? = some v := by simp
  have ht : (l ++ [v]).take l.length = l := by simp
  have ht2 : (l ++ [v]).take (l.length + 1) = l ++ [v] := List.take_of_length_le (by simp)
  obtain ⟨r1, r2, r3⟩ := list_round (w := w0) (d := l ++ [v]) (k := l.length) hp h.a (by rw [ht]; exact h.av) h.bel hb1 hy hyn hyb hown hgr hat hlt
  rw [ht2] at r2
  have hlt' : ∀ b, b ∈ ownL sv' ++ gs' → b < w.heap.size := fun b hb => by
    rcases List.mem_append.1 hb with hb | hb
    · exact (ownsRow_lt h.b.own b hb).2
    · exact (h.b.new b hb).2
  have hs1 := hb1.size
  have hs2 : w1.heap.size + 1 ≤ w2.heap.size := by have := hgr.size; simpa using this
  have hkeep : ∀ b, b ∈ ownL sv' ++ gs' → w2.heap[b]? = w.heap[b]? := fun b hb => by
    have h1 := hlt' b hb
    rw [hgr.block b (by simp; omega) (fun e => h.apart b (List.mem_append_left _ (ownL_some.2 e.symm)) hb), Below.heap_alloc _ _ _ (by omega)]
    exact hb1.block b h1
  refine ⟨by rw [List.length_append]; exact r1, r2, ⟨ownsRow_keep h.b.own (fun b hb => hkeep b (List.mem_append_left _ hb)), h.b.nodup, fun b hb => ⟨(h.b.new b hb).1, by have := (h.b.new b hb).2; omega⟩⟩, VsRep.keep _ _ _ h.bv (fun b hb => hkeep b (List.mem_append_right _ hb)), fun x hx hx' => ?_, r3⟩
  have h1 := hlt' x hx'
  rcases List.mem_append.1 hx with hx | hx
  · have e : x = g := by simpa [ownL, Value.ownBlock] using hx
    subst e
    rcases hat with hat | hat
    · exact h.apart x (List.mem_append_left _ (ownL_some.2 hat)) hx'
    · rw [hat] at h1; simp at h1; omega
  · rcases List.mem_append.1 hx with hx | hx
    · exact h.apart x (List.mem_append_right _ hx) hx'
    · have := hyb x hx; omega
/-- The blocks of the first counts. -/
def spentC (ps : List CT) (i : Nat) : List Nat := (ps.take i).flatMap (·.2.2.2)
theorem spentC_next {ps : List CT} {i : Nat} {p : CT} (hp : ps[i]? = some p) : spentC ps (i + 1) = spentC ps i ++ p.2.2.2 := by
  unfold spentC
  rw [List.take_add_one, hp]
  simp
theorem spentC_apart {ps : List CT} (h : (ps.flatMap (·.2.2.2)).Nodup) {i : Nat} {p : CT} (hp : ps[i]? = some p) : p.2.2.2.Nodup ∧ ∀ b ∈ p.2.2.2, b ∉ spentC ps i := by
  rw [bumpC_split hp, List.flatMap_append, List.flatMap_cons] at h
  obtain ⟨-, h1, h2⟩ := List.nodup_append.1 h
  obtain ⟨h3, -, -⟩ := List.nodup_append.1 h1
  refine ⟨h3, fun b hb hb' => h2 b hb' b (List.mem_append_left _ hb) rfl⟩
theorem spentC_sub {ps : List CT} {i : Nat} : ∀ b ∈ spentC ps i, b ∈ ps.flatMap (·.2.2.2) := fun b hb => by
  obtain ⟨p, hp, hb⟩ := List.mem_flatMap.1 hb
  exact List.mem_flatMap.2 ⟨p, List.mem_of_mem_take hp, hb⟩
theorem sumV_append (r s : List (Val × Int)) : sumV (r ++ s) = sumV r + sumV s := by
  induction r with
  | nil => simp [sumV]
  | cons a r ih => rw [List.cons_append, sumV, sumV, ih]; omega
theorem sumV_next {r : List (Val × Int)} {i : Nat} {p : Val × Int} (hp : r[i]? = some p) : sumV (r.take (i + 1)) = sumV (r.take i) + p.2 := by
  rw [List.take_add_one, hp, sumV_append]; simp [sumV]
theorem sumV_take {r : List (Val × Int)} (h : onesV r) (i : Nat) : 0 ≤ sumV (r.take i) ∧ sumV (r.take i) ≤ sumV r := by
  have e : sumV r = sumV (r.take i) + sumV (r.drop i) := by rw [← sumV_append, List.take_append_drop]
  have h1 := (sumV_ge (r := r.take i) (fun p hp => h p (List.mem_of_mem_take hp))).1
  have h2 := (sumV_ge (r := r.drop i) (fun p hp => h p (List.mem_of_mem_drop hp))).1
  omega
theorem whyL_zero : ∀ {l : List Val}, whyL l = 0 → ∀ v ∈ l, okB v = true
  | [], _, _, h => by cases h
  | v :: l, h, u, hu => by
    rw [whyL] at h
    split at h
    · rename_i hv
      rcases List.mem_cons.1 hu with rfl | hu
      · exact hv
      · exact whyL_zero h u hu
    · rename_i hv
      exact absurd h (why_bad (by simpa using hv))
theorem whyL_turn (l : List Val) : (whyL l.reverse = 0) ↔ (whyL l = 0) := by
  constructor
  · exact fun h => whyL_ok (fun v hv => whyL_zero h v (by simpa using hv))
  · exact fun h => whyL_ok (fun v hv => whyL_zero h v (by simpa using hv))
theorem group_two : groupV [.bool true, .bool true] = [(.bool true, 2)] := by
  have h : cmpV (.bool true) (.bool true) = 0 := cmpV_self _
  simp [groupV, insV, h]
theorem two_bare {ps : List CT} (h : bare ps = [(.bool true, 2)]) : ∃ x f, ps = [(x, .bool true, 2, f)] := by
  match ps, h with
  | [(x, v, n, f)], h =>
    simp only [bare, List.map_cons, List.map_nil, List.cons.injEq, Prod.mk.injEq, and_true] at h
    obtain ⟨rfl, rfl⟩ := h
    exact ⟨x, f, rfl⟩
end Go.Proofs.Ytgmdbpplfjkjmaa
