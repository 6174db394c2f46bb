/- Values put together, in plain. -/
import Derived.Test.YtgmdbpplfjkjmaaCount
namespace Go.Proofs.Ytgmdbpplfjkjmaa
set_option linter.unusedVariables false

def insV : List (Val × Int) → Val → List (Val × Int)
  | [], v => [(v, 1)]
  | (u, n) :: r, v => if cmpV u v < 0 then (u, n) :: insV r v else if cmpV u v = 0 then (u, n + 1) :: r else (v, 1) :: (u, n) :: r
def groupV (l : List Val) : List (Val × Int) := l.foldl insV []
def risenV (r : List (Val × Int)) : Prop := r.Pairwise fun p q => cmpV p.1 q.1 = -1
def sumV : List (Val × Int) → Int
  | [] => 0
  | p :: r => p.2 + sumV r
theorem insV_mem {r : List (Val × Int)} {v : Val} : ∀ p ∈ insV r v, p.1 = v ∨ ∃ q ∈ r, q.1 = p.1 := by
  induction r with
  | nil => intro p hp; exact .inl (by rw [List.mem_singleton.1 hp])
  | cons a r ih =>
    obtain ⟨u, n⟩ := a
    intro p hp
    rw [insV] at hp
    split at hp
    · rcases List.mem_cons.1 hp with rfl | hp
      · exact .inr ⟨_, List.mem_cons_self .., rfl⟩
      · exact (ih p hp).imp id (fun ⟨q, hq, e⟩ => ⟨q, List.mem_cons_of_mem _ hq, e⟩)
    · split at hp
      · rcases List.mem_cons.1 hp with rfl | hp
        · exact .inr ⟨_, List.mem_cons_self .., rfl⟩
        · exact .inr ⟨p, List.mem_cons_of_mem _ hp, rfl⟩
      · rcases List.mem_cons.1 hp with rfl | hp
        · exact .inl rfl
        · exact .inr ⟨p, hp, rfl⟩
theorem cmpV_neg {v u : Val} (h : cmpV v u < 0) : cmpV v u = -1 := by rcases cmpV_one v u with h1 | h1 | h1 <;> omega
theorem cmpV_pos {v u : Val} (h : ¬ cmpV v u < 0) (h0 : cmpV v u ≠ 0) : cmpV u v = -1 := by rw [cmpV_swap]; rcases cmpV_one v u with h1 | h1 | h1 <;> omega
theorem insV_risen {r : List (Val × Int)} (h : risenV r) (v : Val) : risenV (insV r v) := by
  induction r with
  | nil => exact List.pairwise_singleton _ _
  | cons a r ih =>
    obtain ⟨u, n⟩ := a
    obtain ⟨h1, h2⟩ := List.pairwise_cons.1 h
    rw [insV]
    split
    · rename_i hlt
      refine List.pairwise_cons.2 ⟨fun q hq => ?_, ih h2⟩
      rcases insV_mem q hq with e | ⟨p, hp, e⟩
      · rw [e]; exact cmpV_neg hlt
      · rw [← e]; exact h1 p hp
    · rename_i hlt
      split
      · exact List.pairwise_cons.2 ⟨fun q hq => h1 q hq, h2⟩
      · rename_i hne
        refine List.pairwise_cons.2 ⟨fun q hq => ?_, h⟩
        have hvu := cmpV_pos hlt hne
        rcases List.mem_cons.1 hq with rfl | hq
        · exact hvu
        · exact cmpV_lt hvu (by have := h1 q hq; simp only at this; omega)
theorem groupV_snoc (l : List Val) (v : Val) : groupV (l ++ [v]) = insV (groupV l) v := by unfold groupV; rw [List.foldl_append]; rfl
theorem foldV_risen (l : List Val) : ∀ r, risenV r → risenV (l.foldl insV r) := by
  induction l with
  | nil => exact fun _ h => h
  | cons v l ih => exact fun r h => ih _ (insV_risen h v)
theorem groupV_risen (l : List Val) : risenV (groupV l) := foldV_risen l [] List.Pairwise.nil
theorem sumV_ins (r : List (Val × Int)) (v : Val) : sumV (insV r v) = sumV r + 1 := by
  induction r with
  | nil => rfl
  | cons a r ih =>
    obtain ⟨u, n⟩ := a
    rw [insV]
    split
    · simp only [sumV, ih]; omega
    · split <;> simp only [sumV] <;> omega
theorem sumV_fold (l : List Val) : ∀ r, sumV (l.foldl insV r) = sumV r + l.length := by
  induction l with
  | nil => intro r; simp
  | cons v l ih => intro r; rw [List.foldl_cons, ih, sumV_ins, List.length_cons]; omega
theorem sumV_group (l : List Val) : sumV (groupV l) = l.length := by unfold groupV; rw [sumV_fold]; simp [sumV]
def onesV (r : List (Val × Int)) : Prop := ∀ p ∈ r, 1 ≤ p.2
theorem insV_ones {r : List (Val × Int)} (h : onesV r) (v : Val) : onesV (insV r v) := by
  induction r with
  | nil => intro p hp; rw [List.mem_singleton.1 hp]; show (1 : Int) ≤ 1; omega
  | cons a r ih =>
    obtain ⟨u, n⟩ := a
    have h2 : onesV r := fun p hp => h p (List.mem_cons_of_mem _ hp)
    have h1 : 1 ≤ n := h (u, n) (List.mem_cons_self ..)
    intro p hp
    rw [insV] at hp
    split at hp
    · rcases List.mem_cons.1 hp with rfl | hp
      · exact h1
      · exact ih h2 p hp
    · split at hp
      · rcases List.mem_cons.1 hp with rfl | hp
        · show 1 ≤ n + 1; omega
        · exact h2 p hp
      · rcases List.mem_cons.1 hp with rfl | hp
        · show (1 : Int) ≤ 1; omega
        · exact h p hp
theorem foldV_ones (l : List Val) : ∀ r, onesV r → onesV (l.foldl insV r) := by
  induction l with
  | nil => exact fun _ h => h
  | cons v l ih => exact fun r h => ih _ (insV_ones h v)
theorem groupV_ones (l : List Val) : onesV (groupV l) := foldV_ones l [] (fun _ h => by cases h)
theorem sumV_ge {r : List (Val × Int)} (h : onesV r) : (r.length : Int) ≤ sumV r ∧ ∀ p ∈ r, p.2 ≤ sumV r := by
  induction r with
  | nil => exact ⟨by simp [sumV], fun _ h => by cases h⟩
  | cons a r ih =>
    obtain ⟨i1, i2⟩ := ih (fun p hp => h p (List.mem_cons_of_mem _ hp))
    have h1 := h a (List.mem_cons_self ..)
    refine ⟨by rw [List.length_cons, sumV]; omega, fun p hp => ?_⟩
    rw [sumV]
    rcases List.mem_cons.1 hp with rfl | hp
    · omega
    · have := i2 p hp; omega
theorem groupV_len (l : List Val) : (groupV l).length ≤ l.length := by
  have := (sumV_ge (groupV_ones l)).1
  rw [sumV_group] at this; omega
theorem groupV_le (l : List Val) : ∀ p ∈ groupV l, 1 ≤ p.2 ∧ p.2 ≤ l.length := fun p hp => ⟨groupV_ones l p hp, by have := (sumV_ge (groupV_ones l)).2 p hp; rw [sumV_group] at this; exact this⟩
/-- Where the search stands, it is put in, or counted. -/
theorem insV_at : ∀ (r : List (Val × Int)) (v : Val) (i : Nat), i ≤ r.length → (∀ t p, t < i → r[t]? = some p → cmpV p.1 v < 0) → (∀ t p, i ≤ t → r[t]? = some p → 0 ≤ cmpV p.1 v) →
    insV r v = match r[i]? with
      | some p => if cmpV p.1 v = 0 then r.take i ++ (p.1, p.2 + 1) :: r.drop (i + 1) else r.take i ++ (v, 1) :: r.drop i
      | none => r.take i ++ (v, 1) :: r.drop i
  | [], v, i, hi, _, _ => by simp [insV]
  | (u, n) :: r, v, 0, hi, h1, h2 => by
    have := h2 0 (u, n) (Nat.le_refl _) rfl
    simp only at this
    rw [insV, if_neg (by omega)]
    simp only [List.getElem?_cons_zero, List.take_zero, List.nil_append, List.drop_zero, List.drop_succ_cons]
  | (u, n) :: r, v, i + 1, hi, h1, h2 => by
    have h0 := h1 0 (u, n) (by omega) rfl
    have ih := insV_at r v i (by simpa using hi) (fun t p ht hp => h1 (t + 1) p (by omega) (by simpa using hp)) (fun t p ht hp => h2 (t + 1) p (by omega) (by simpa using hp))
    rw [insV, if_pos h0, ih]
    simp only [List.getElem?_cons_succ, List.take_succ_cons, List.drop_succ_cons, List.cons_append]
    split
    · split <;> rfl
    · rfl
def whyL : List Val → Int
  | [] => 0
  | v :: l => if okB v = true then whyL l else whyF v
theorem whyL_ok : ∀ {l : List Val}, (∀ v ∈ l, okB v = true) → whyL l = 0
  | [], _ => rfl
  | v :: l, h => by rw [whyL, if_pos (h v (List.mem_cons_self ..))]; exact whyL_ok (fun u hu => h u (List.mem_cons_of_mem _ hu))
theorem whyL_at : ∀ {l : List Val} {k : Nat} {v : Val}, (∀ u ∈ l.take k, okB u = true) → l[k]? = some v → okB v = false → whyL l = whyF v
  | [], k, v, _, h, _ => by simp at h
  | u :: l, 0, v, _, h, hb => by
    obtain rfl : u = v := by simpa using h
    rw [whyL, if_neg (by rw [hb]; decide)]
  | u :: l, k + 1, v, ha, h, hb => by
    rw [whyL, if_pos (ha u (by simp))]
    exact whyL_at (k := k) (fun z hz => ha z (by rw [List.take_succ_cons]; exact List.mem_cons_of_mem _ hz)) (by simpa using h) hb
/-- Of counts in memory the counts. -/
def bare (ps : List CT) : List (Val × Int) := ps.map fun p => (p.2.1, p.2.2.1)
theorem bare_at {ps : List CT} {k : Nat} {p : CT} (h : ps[k]? = some p) : (bare ps)[k]? = some (p.2.1, p.2.2.1) := by unfold bare; rw [List.getElem?_map, h]; rfl
theorem bare_of {ps : List CT} {k : Nat} {q : Val × Int} (h : (bare ps)[k]? = some q) : ∃ p, ps[k]? = some p ∧ q = (p.2.1, p.2.2.1) := by
  unfold bare at h
  rw [List.getElem?_map] at h
  obtain ⟨p, hp, rfl⟩ := Option.map_eq_some_iff.1 h
  exact ⟨p, hp, rfl⟩
theorem bare_risen {ps : List CT} (h : risenV (bare ps)) : risenC ps := by
  unfold risenV bare at h
  exact List.pairwise_map.1 h
end Go.Proofs.Ytgmdbpplfjkjmaa

/-! digest.Group. -/
namespace Go.Proofs.Ytgmdbpplfjkjmaa
open Go.RowKit Go.Lib
set_option linter.unusedVariables false
set_option linter.unusedSimpArgs false

theorem gcopied_ok {w : World} {v : Val} {x : Value} {fs : List Nat} (h : VRep w v x fs) (hok : okB v = true) : Calls Try.prog 75 #[x] w (Fresh v w) := by
  have hc := Lib.hid (Copy_ok h hok)
  have hx := h.one
  clear h
  go_enter Try.func75, Try.ntmps75
  go_wp2_with fail
  refine hc.out.mono ?_
  rintro e w1 ⟨y, gs, rfl, hv, hn, hg, hb⟩
  have hy := hv.one
  have hvH := Lib.hid hv
  clear hv
  go_wp2
  go_ret
  exact ⟨y, gs, rfl, hvH.out, hn, hg, hb⟩
/-- Counts in memory of the call's own. -/
structure GAt5 (B : Nat) (w : World) (sv : Value) (ps : List CT) : Prop where
  row : w.ownsRow B 41 2 sv ps.length (flatC ps)
  ok : CsOk w (fun b => B ≤ b ∧ b ∉ ownL sv) ps
  apart : (ps.flatMap (·.2.2.2)).Nodup
theorem GAt5.below {B : Nat} {w w' : World} {sv : Value} {ps : List CT} (h : GAt5 B w sv ps) (hb : Below w.heap.size w w') : GAt5 B w' sv ps :=
  ⟨ownsRow_keep h.row (fun b hb' => hb.block b ((ownsRow_lt h.row b hb').2)), h.ok.below hb, h.apart⟩
theorem GAt5.lt {B : Nat} {w : World} {sv : Value} {ps : List CT} (h : GAt5 B w sv ps) : ∀ b ∈ ps.flatMap (·.2.2.2), b < w.heap.size := fun b hb => by
  obtain ⟨p, hp, hb⟩ := List.mem_flatMap.1 hb
  exact VRep.lt _ _ _ (h.ok p hp).1 b hb
/-- One more in it. -/
theorem GAt5.put {B : Nat} {w w1 w2 : World} {sv sv' : Value} {ps : List CT} {i : Nat} {v : Val} {x : Value} {f : List Nat} {n : Int} (h : GAt5 B w sv ps) (hi : i ≤ ps.length)
    (hb1 : Below w.heap.size w w1) (hv : VRep w1 v x f) (hvo : okB v = true) (hnd : f.Nodup) (hf : ∀ b ∈ f, w.heap.size ≤ b) (hBw : B ≤ w.heap.size)
    (hrow : w2.ownsRow B 41 2 sv' (ps.length + 1) (putIn (flatC ps) i x (.int .i64 n))) (hb2 : But (fun b => b ∈ ownL sv) w1 w2) (hnew : ∀ b ∈ ownL sv', b ∈ ownL sv ∨ w1.heap.size ≤ b) :
    GAt5 B w2 sv' (ps.take i ++ (x, v, n, f) :: ps.drop i) := by
  rw [flatC_putIn ps i hi x v n f] at hrow
  have hlen : (ps.take i ++ (x, v, n, f) :: ps.drop i).length = ps.length + 1 := by rw [List.length_append, List.length_take, List.length_cons, List.length_drop]; omega
  have hsv : ∀ b ∈ ownL sv, b < w.heap.size := fun b hb => (ownsRow_lt h.row b hb).2
  have hold : ∀ p ∈ ps, VRep w2 p.2.1 p.1 p.2.2.2 ∧ okB p.2.1 = true ∧ ∀ b ∈ p.2.2.2, B ≤ b ∧ b ∉ ownL sv' := fun p hp => by
    obtain ⟨a1, a2, a3⟩ := h.ok p hp
    refine ⟨VRep.but (a1.below hb1) hb2 (fun b hb => (a3 b hb).2), a2, fun b hb => ⟨(a3 b hb).1, fun hm => ?_⟩⟩
    rcases hnew b hm with h1 | h1
    · exact (a3 b hb).2 h1
    · have := VRep.lt _ _ _ a1 b hb; have := hb1.size; omega
  refine ⟨by rw [hlen]; exact hrow, fun p hp => ?_, ?_⟩
  · rcases List.mem_append.1 hp with hp | hp
    · exact hold p (List.mem_of_mem_take hp)
    · rcases List.mem_cons.1 hp with rfl | hp
      · refine ⟨VRep.but hv hb2 (fun b hb hm => ?_), hvo, fun b hb => ⟨Nat.le_trans hBw (hf b hb), fun hm => ?_⟩⟩
        · have := hsv b hm; have := hf b hb; omega
        · rcases hnew b hm with h1 | h1
          · have := hsv b h1; have := hf b hb; omega
          · have := VRep.lt _ _ _ hv b hb; omega
      · exact hold p (List.mem_of_mem_drop hp)
  · have hperm : List.Perm ((ps.take i ++ (x, v, n, f) :: ps.drop i).flatMap (·.2.2.2)) (f ++ ps.flatMap (·.2.2.2)) := by
      have h1 : List.Perm (ps.take i ++ (x, v, n, f) :: ps.drop i) ((x, v, n, f) :: ps) := by
        have := @List.perm_middle _ (x, v, n, f) (ps.take i) (ps.drop i)
        rwa [List.take_append_drop] at this
      exact (h1.flatMap_right _).trans (List.Perm.refl _)
    refine hperm.nodup_iff.2 (List.nodup_append.2 ⟨hnd, h.apart, fun a ha b hb e => ?_⟩)
    subst e
    have := h.lt a hb
    have := hf a ha
    omega
/-- One counted. -/
def bumpC (ps : List CT) (i : Nat) (p : CT) : List CT := ps.take i ++ (p.1, p.2.1, p.2.2.1 + 1, p.2.2.2) :: ps.drop (i + 1)
theorem bumpC_split {ps : List CT} {i : Nat} {p : CT} (hp : ps[i]? = some p) : ps = ps.take i ++ p :: ps.drop (i + 1) := by
  obtain ⟨h, rfl⟩ := List.getElem?_eq_some_iff.1 hp
  rw [List.getElem_cons_drop, List.take_append_drop]
theorem bumpC_cells {ps : List CT} {i : Nat} {p : CT} (hp : ps[i]? = some p) : flatC (bumpC ps i p) = (flatC ps).set (i * 2 + 1) (.int .i64 (p.2.2.1 + 1)) := by
  have hi := (List.getElem?_eq_some_iff.1 hp).1
  have hl : (flatC (ps.take i)).length = i * 2 := by rw [flatC_length, List.length_take]; omega
  rw [show flatC ps = flatC (ps.take i) ++ (p.1 :: .int .i64 p.2.2.1 :: flatC (ps.drop (i + 1))) by
    have h1 : flatC ps = flatC (ps.take i ++ p :: ps.drop (i + 1)) := by rw [← bumpC_split hp]
    rw [h1, flatC_append]; rfl]
  rw [List.set_append_right _ _ (by omega), hl, show i * 2 + 1 - i * 2 = 1 by omega]
  unfold bumpC
  rw [flatC_append]
  rfl
theorem GAt5.bump {B : Nat} {w : World} {sv : Value} {ps : List CT} {i : Nat} {p : CT} {g : Nat} (h : GAt5 B w sv ps) (hp : ps[i]? = some p) (hg : ownL sv = [g]) :
    GAt5 B (w.setCell ⟨g, i * 2 + 1, none⟩ (.int .i64 (p.2.2.1 + 1))) sv (bumpC ps i p) ∧ ∀ W, Below B W w → Below B W (w.setCell ⟨g, i * 2 + 1, none⟩ (.int .i64 (p.2.2.1 + 1))) := by
  have hi := (List.getElem?_eq_some_iff.1 hp).1
  have hlen : (bumpC ps i p).length = ps.length := by unfold bumpC; rw [List.length_append, List.length_take, List.length_cons, List.length_drop]; omega
  obtain ⟨hl, ⟨rfl, h0⟩ | ⟨g', cap, cur, rfl, hB, hc, hn, hm, hs, ht⟩⟩ := h.row
  · omega
  · obtain rfl : g' = g := by simpa [ownL, Value.ownBlock] using hg
    have hbut : But (fun b => b = g') w (w.setCell ⟨g', i * 2 + 1, none⟩ (.int .i64 (p.2.2.1 + 1))) := ⟨rfl, rfl, rfl, by rw [size_setCell]; exact Nat.le_refl _, fun k hk hne => by
      rw [setCell_eq_setRow w g' (i * 2 + 1) cur _ _ _ hc]; exact setRow_other w g' k _ hne⟩
    refine ⟨⟨?_, ?_, ?_⟩, fun W hW => hW.trans ⟨rfl, rfl, rfl, by rw [size_setCell]; exact Nat.le_refl _, fun k hk => hbut.block k (Nat.lt_of_lt_of_le hk (by have := (Array.getElem?_eq_some_iff.1 hc).1; omega)) (by omega)⟩⟩
    · rw [hlen, bumpC_cells hp]
      refine ⟨by rw [List.length_set]; exact hl, .inr ⟨g', cap, cur.setIfInBounds (i * 2 + 1) (.int .i64 (p.2.2.1 + 1)), rfl, hB, by rw [setCell_eq_setRow w g' (i * 2 + 1) cur _ _ _ hc]; exact setRow_heap w g' cur _ _ _ hc, hn, hm, by rw [Array.size_setIfInBounds]; exact hs, ?_⟩⟩
      rw [Array.toList_setIfInBounds, ← ht, List.take_set]
    · have ho : CsOk (w.setCell ⟨g', i * 2 + 1, none⟩ (.int .i64 (p.2.2.1 + 1))) (fun b => B ≤ b ∧ b ∉ ownL (.slice (some ⟨g', 0, none⟩) ps.length cap)) ps := h.ok.but hbut (fun b hb e => hb.2 (by simp [ownL, Value.ownBlock, e]))
      intro q hq
      unfold bumpC at hq
      rcases List.mem_append.1 hq with hq | hq
      · exact ho q (List.mem_of_mem_take hq)
      · rcases List.mem_cons.1 hq with rfl | hq
        · exact ho p (List.mem_of_getElem? hp)
        · exact ho q (List.mem_of_mem_drop hq)
    · have e : (bumpC ps i p).flatMap (·.2.2.2) = ps.flatMap (·.2.2.2) := by
        have h1 := bumpC_split hp
        rw [h1]
        conv => rhs; rw [List.flatMap_append, List.flatMap_cons]
        unfold bumpC
        rw [← h1, List.flatMap_append, List.flatMap_cons]
      rw [e]; exact h.apart
theorem bare_put (ps : List CT) (i : Nat) (x : Value) (v : Val) (n : Int) (f : List Nat) : bare (ps.take i ++ (x, v, n, f) :: ps.drop i) = (bare ps).take i ++ (v, n) :: (bare ps).drop i := by
  unfold bare; rw [List.map_append, List.map_cons, List.map_take, List.map_drop]
theorem bare_bump (ps : List CT) (i : Nat) (p : CT) : bare (bumpC ps i p) = (bare ps).take i ++ (p.2.1, p.2.2.1 + 1) :: (bare ps).drop (i + 1) := by
  unfold bare bumpC; rw [List.map_append, List.map_cons, List.map_take, List.map_drop]
/-- What the search says, the list does. -/
theorem insV_found {ps : List CT} {v : Val} {i : Nat} (hi : i ≤ ps.length) (h1 : ∀ t p, t < i → ps[t]? = some p → cmpV p.2.1 v < 0) (h2 : ∀ t p, i ≤ t → ps[t]? = some p → 0 ≤ cmpV p.2.1 v) :
    (thereC ps i v = true → ∃ p, ps[i]? = some p ∧ insV (bare ps) v = bare (bumpC ps i p)) ∧ (thereC ps i v = false → ∀ x f, insV (bare ps) v = bare (ps.take i ++ (x, v, 1, f) :: ps.drop i)) := by
  have hlen : (bare ps).length = ps.length := by unfold bare; rw [List.length_map]
  have hins := insV_at (bare ps) v i (by omega) (fun t q ht hq => by obtain ⟨p, hp, rfl⟩ := bare_of hq; exact h1 t p ht hp) (fun t q ht hq => by obtain ⟨p, hp, rfl⟩ := bare_of hq; exact h2 t p ht hp)
  cases hp : ps[i]? with
  | none =>
    have hb : (bare ps)[i]? = none := by unfold bare; rw [List.getElem?_map, hp]; rfl
    simp only [hb] at hins
    have ht : thereC ps i v = false := by unfold thereC; rw [hp]
    refine ⟨fun h => absurd (ht.symm.trans h) (by decide), fun _ x f => ?_⟩
    rw [hins, bare_put]
  | some p =>
    simp only [bare_at hp] at hins
    have ht : thereC ps i v = decide (cmpV p.2.1 v = 0) := by unfold thereC; rw [hp]
    rw [ht]
    refine ⟨fun h => ⟨p, rfl, ?_⟩, fun h x f => ?_⟩
    · rw [hins, if_pos (of_decide_eq_true h), bare_bump]
    · rw [hins, if_neg (of_decide_eq_false h), bare_put]
theorem VRep.form {w : World} {v : Val} {x : Value} {fs : List Nat} (h : VRep w v x fs) : x = .nilIface ∨ ∃ t z, x = .iface t z := by
  cases v <;> simp only [VRep] at h
  all_goals first
    | exact .inl h.1
    | exact .inr ⟨_, _, h.1⟩
    | (obtain ⟨_, h, -⟩ := h; exact .inr ⟨_, _, h⟩)
    | (obtain ⟨_, _, _, h, -⟩ := h; exact .inr ⟨_, _, h⟩)
    | (obtain ⟨_, _, _, _, h, -⟩ := h; exact .inr ⟨_, _, h⟩)
def GroupEnd (l : List Val) (w : World) (e : Ending) (w' : World) : Prop :=
  (whyL l ≠ 0 ∧ e = .returned (.tuple #[.slice none 0 0, .int .i64 (whyL l)]) ∧ Below w.heap.size w w') ∨
  ((∀ v ∈ l, okB v = true) ∧ ∃ sv ps, e = .returned (.tuple #[sv, .int .i64 0]) ∧ GAt5 w.heap.size w' sv ps ∧ bare ps = groupV l ∧ Below w.heap.size w w')
theorem below_trans_but {B : Nat} {w w1 w2 : World} {S : Nat → Prop} (h : Below B w w1) (hb : But S w1 w2) (hs : ∀ b, S b → B ≤ b) (hB : B ≤ w1.heap.size) : Below B w w2 :=
  h.trans ⟨hb.os, hb.tape, hb.output, hb.size, fun k hk => hb.block k (by omega) (fun e => by have := hs k e; omega)⟩
set_option maxRecDepth 100000 in
set_option maxHeartbeats 3200000 in
theorem group_said {w : World} {l : List Val} {x : Value} {xs : List Value} {gs : List Nat} (hx : w.ownsRow 0 20 1 x l.length xs) (hxs : VsRep w l xs gs) (hn : l.length ≤ 1099511627776) :
    Calls Try.prog 12 #[x] w (GroupEnd l w) := by
  obtain ⟨i0, hi0, hz0, hz1, hz2⟩ := info_parts Try.infoCount
  obtain ⟨a, cap, rfl, hcap, hmax, -, hform⟩ := ownsRow_form hx
  unfold maxLen at hmax
  have hf := Lib.hid hform
  have hdat := Lib.hid (VsRep.at l xs gs hxs)
  clear hx hxs hform
  go_enter Try.func12, Try.ntmps12
  go_wp2_with fail
  go_loopw [15] (fun i wr => ∃ k : Nat, k ≤ l.length ∧ i = .int .i64 k ∧ (∀ v ∈ l.take k, okB v = true) ∧ Below w.heap.size w wr) (fun i _ => l.length - (RowKit.intOf i).toNat)
  case atStart => exact ⟨0, Nat.zero_le _, rfl, by simp, Below.refl _ _⟩
  case round =>
    obtain ⟨k, hk, rfl, hall, hb⟩ := hrel
    have hallH := Lib.hid hall
    have hbH := Lib.hid hb
    clear hall
    by_cases h1 : k < l.length
    · have l1 : (k : Int) < (l.length : Int) := by omega
      rcases hf.out with ⟨-, h0', -⟩ | ⟨g, rfl, -, hgs, -, hcells⟩
      · omega
      obtain ⟨v, hv⟩ : ∃ c, l[k]? = some c := ⟨_, List.getElem?_eq_getElem h1⟩
      obtain ⟨vx, fv, e1, e2, -⟩ := hdat.out k _ hv
      have hvone := e2.one
      have hc1 : wr.cell? ⟨g, k, none⟩ = some vx := (hb.cell (p := ⟨g, k, none⟩) hgs).trans ((hcells k (by omega)).trans e1)
      have hck := Lib.hid (Check_any (e2.below hb))
      have htk := Lib.hid (show l.take (k + 1) = l.take k ++ [v] by rw [List.take_add_one, hv]; rfl)
      have hvH := Lib.hid hv
      clear e1 e2 hcells hb hv
      by_cases hok : okB v = true
      · have hck2 := hck.out
        rw [check_ok hok] at hck2
        have hck3 := Lib.hid hck2
        clear hck hck2
        go_wp2_with fail
        refine hck3.out.mono ?_
        rintro e w1 ⟨rfl, hb1⟩
        have hb1H := Lib.hid hb1
        clear hb1
        go_wp2_with fail
        go_roundw
        case rel => exact ⟨k + 1, by omega, by go_num, fun u hu => by
          rw [htk.out] at hu
          rcases List.mem_append.1 hu with hu | hu
          · exact hallH.out u hu
          · rw [List.mem_singleton.1 hu]; exact hok, hbH.out.trans (hb1H.out.mono hbH.out.size)⟩
        case measure => simp [RowKit.intOf]; omega
      · have hbad : okB v = false := by simpa using hok
        have hne : (whyF v != 0) = true := by simpa using why_bad hbad
        have hck2 : Hid (Calls Try.prog 70 #[vx] wr fun e w' => e = .returned (.tuple #[.int .i64 (checkF v).1, .int .i64 (whyF v)]) ∧ Below wr.heap.size wr w') := hck
        have hwl := Lib.hid (whyL_at hallH.out hvH.out hbad)
        have hwz := Lib.hid (why_bad hbad)
        clear hck hok hbad
        go_wp2_with fail
        refine hck2.out.mono ?_
        rintro e w1 ⟨rfl, hb1⟩
        have hb1H := Lib.hid hb1
        clear hb1
        go_wp2
        go_ret2
        exact .inl ⟨by rw [hwl.out]; exact hwz.out, by rw [hwl.out]; rfl, hbH.out.trans (hb1H.out.mono hbH.out.size)⟩
    · obtain rfl : k = l.length := by omega
      have hall2 := Lib.hid (show ∀ v ∈ l, okB v = true by have := hallH.out; rwa [List.take_length] at this)
      clear hallH hb
      obtain ⟨B, hB⟩ : ∃ B, B = w.heap.size := ⟨_, rfl⟩
      have hBH := Lib.hid hB
      have hBr : B ≤ wr.heap.size := by have := hbH.out.size; omega
      have hbr := hbH.out
      rw [← hB] at hbr
      have hbrH := Lib.hid hbr
      clear hB hbr hbH
      go_wp2_with fail
      go_loopw [4, 30] (fun o i wr => ∃ (k : Nat) (sv : Value) (ps : List CT), sv = o ∧ k ≤ l.length ∧ i = .int .i64 k ∧ GAt5 B wr sv ps ∧ bare ps = groupV (l.take k) ∧ Below B w wr) (fun _ i _ => l.length - (RowKit.intOf i).toNat)
      case atStart => exact ⟨0, _, [], rfl, Nat.zero_le _, rfl, ⟨⟨rfl, .inl ⟨rfl, rfl⟩⟩, fun _ h => (by cases h), List.nodup_nil⟩, rfl, hbrH.out⟩
      case round =>
        obtain ⟨k, sv, ps, rfl, hk, rfl, hG, hbare, hb⟩ := hrel
        have hGH := Lib.hid hG
        have hbareH := Lib.hid hbare
        have hbH := Lib.hid hb
        clear hbare
        by_cases h1 : k < l.length
        · have l1 : (k : Int) < (l.length : Int) := by omega
          rcases hf.out with ⟨-, h0', -⟩ | ⟨g, rfl, -, hgs, -, hcells⟩
          · omega
          obtain ⟨v, hv⟩ : ∃ c, l[k]? = some c := ⟨_, List.getElem?_eq_getElem h1⟩
          obtain ⟨vx, fv, e1, e2, -⟩ := hdat.out k _ hv
          have hvone := e2.one
          rw [← hBH.out] at hgs
          have hc1 : wr.cell? ⟨g, k, none⟩ = some vx := (hb.cell (p := ⟨g, k, none⟩) hgs).trans ((hcells k (by omega)).trans e1)
          have e2' := e2.below (hBH.out ▸ hb)
          have hok := hall2.out v (List.mem_of_getElem? hv)
          have hpl : ps.length = (groupV (l.take k)).length := by rw [← hbareH.out]; unfold bare; rw [List.length_map]
          have hplk : ps.length ≤ 1099511627776 := by rw [hpl]; exact Nat.le_trans (groupV_len _) (by rw [List.length_take]; omega)
          have hrise : risenC ps := bare_risen (by rw [hbareH.out]; exact groupV_risen _)
          have hfind := Lib.hid (find_said hG.row hG.ok hrise hplk e2' hok)
          have hsnoc := Lib.hid (show groupV (l.take (k + 1)) = insV (groupV (l.take k)) v by rw [List.take_add_one, hv, ← groupV_snoc]; rfl)
          have hone : sv.oneCell' = true := by obtain ⟨_, _, rfl, -⟩ := ownsRow_form hG.row; rfl
          have hvr := Lib.hid e2'
          have hokH := Lib.hid hok
          obtain ⟨sa, scap, rfl, hsc, hsm, -, hsform⟩ := ownsRow_form hG.row
          unfold maxLen at hsm
          have hsfH := Lib.hid hsform
          clear e1 e2 e2' hcells hb hv hG hpl hrise hok hsform
          go_wp2_with fail
          refine hfind.out.mono ?_
          rintro e w1 ⟨i, hi, rfl, hlo, hhi, hb1⟩
          have hfound := Lib.hid (insV_found (v := v) hi hlo hhi)
          have hG1 := Lib.hid (hGH.out.below hb1)
          have hbz := Lib.hid (hbH.out.trans (hb1.mono (by have := hbH.out.size; have := hBH.out; omega)))
          have hvr1 := Lib.hid (hvr.out.below hb1)
          have hb1H := Lib.hid hb1
          clear hlo hhi hb1
          have hB1 : B ≤ w1.heap.size := by have := hbz.out.size; have := hBH.out; omega
          have hkn : (l.take k).length = k := by rw [List.length_take]; omega
          cases hth : thereC ps i v with
          | true =>
            obtain ⟨p, hp, hins⟩ := hfound.out.1 hth
            have hip := (List.getElem?_eq_some_iff.1 hp).1
            obtain ⟨hp1, hp2⟩ := flatC_at ps i p hp
            rcases hsfH.out with ⟨-, h0', -⟩ | ⟨sg, rfl, -, hsgs, hsl, hscells⟩
            · omega
            have hbump := Lib.hid (hG1.out.bump (g := sg) hp hsl)
            have hNb := groupV_le (l.take k) (p.2.1, p.2.2.1) (by rw [← hbareH.out]; exact List.mem_of_getElem? (bare_at hp))
            rw [hkn] at hNb
            simp only at hNb
            have hcn : w1.cell? ⟨sg, i * 2 + 1, none⟩ = some (.int .i64 p.2.2.1) := (hb1H.out.cell (p := ⟨sg, i * 2 + 1, none⟩) hsgs).trans ((hscells (i * 2 + 1) (by omega)).trans hp2)
            have hfr : w1.frozen? ⟨sg, i * 2 + 1, none⟩ = false := by
              obtain ⟨-, ⟨h, -⟩ | ⟨g', cap', cur', h, -, hc', -⟩⟩ := hG1.out.row
              · cases h
              · simp only [Value.slice.injEq, Option.some.injEq, Addr.mk.injEq] at h
                rw [h.1.1]; simp [World.frozen?, hc']
            obtain ⟨N, hN⟩ : ∃ N, N = p.2.2.1 := ⟨_, rfl⟩
            rw [← hN] at hNb hcn
            have hinsH := Lib.hid hins
            have hNH := Lib.hid hN
            have hipH := Lib.hid hip
            have hil : (i : Int) < (ps.length : Int) := by omega
            have hw : IntKind.i64.wrap (N + 1) = N + 1 := by rw [IntKind.wrap_i64]; omega
            have hlenb : (bumpC ps i p).length = ps.length := by unfold bumpC; rw [List.length_append, List.length_take, List.length_cons, List.length_drop]; omega
            have hlenbH := Lib.hid hlenb
            clear hp hins hp1 hp2 hscells hsl hN hth hlenb
            go_wp2_with fail
            go_roundw
            case rel => exact ⟨k + 1, _, bumpC ps i p, rfl, by omega, by go_num, by have := hbump.out.1; rw [hNH.out]; exact this, by rw [← hinsH.out, hbareH.out, hsnoc.out], by have := hbump.out.2 w hbz.out; rw [hNH.out]; exact this⟩
            case measure => simp [RowKit.intOf]; omega
          | false =>
            have hins := Lib.hid (hfound.out.2 hth)
            have hcpy := Lib.hid (gcopied_ok hvr1.out hokH.out)
            clear hth
            go_wp2_with fail
            refine hcpy.out.mono ?_
            rintro e w2 ⟨y, fy, rfl, hy, hyn, hyf, hb2⟩
            have hyone := hy.one
            have hb3 : Below w1.heap.size w1 (w2.alloc (.cells #[y, .int .i64 1] 41)) := hb2.alloc hb2.size _
            have hG3 := hG1.out.below hb3
            have hsvlt := fun b hb => (ownsRow_lt hG1.out.row b hb).2
            have hinsert := Lib.hid (insert_said hG3.row (Nat.le_trans hB1 hb3.size) i hi hplk hG3.ok.ones y (.int .i64 1) (heap_alloc_new w2 _) hyone rfl (fun h => by have := hsvlt _ h; have := hb2.size; omega))
            have hyH := Lib.hid (hy.below ((Below.refl w2.heap.size w2).alloc (Nat.le_refl _) (.cells #[y, .int .i64 1] 41)))
            have hb3H := Lib.hid hb3
            have hynH := Lib.hid hyn
            have hyfH := Lib.hid hyf
            have hsv3 := Lib.hid (fun b hb => (ownsRow_lt hG1.out.row b hb).1)
            have hyform := hy.form
            clear hy hyn hyf hb2 hb3 hG3 hsvlt
            rcases hyform with rfl | ⟨ty, zy, rfl⟩
            all_goals
              go_wp2_with fail
              refine hinsert.out.mono ?_
              rintro e w4 ⟨sv', rfl, hrow4, hbut4, hnew4⟩
              have hput := Lib.hid (hG1.out.put (n := 1) hi hb3H.out hyH.out hokH.out hynH.out hyfH.out hB1 hrow4 hbut4 hnew4)
              have hone4 : sv'.oneCell' = true := by obtain ⟨_, _, rfl, -⟩ := ownsRow_form hrow4; rfl
              have hb4 := Lib.hid (below_trans_but (hbz.out.trans (hb3H.out.mono hB1)) hbut4 hsv3.out (Nat.le_trans hB1 hb3H.out.size))
              clear hrow4 hbut4 hnew4
              go_wp2_with fail
              go_roundw
              case rel => exact ⟨k + 1, _, _, rfl, by omega, by go_num, hput.out, by rw [← hins.out _ fy, hbareH.out, hsnoc.out], hb4.out⟩
              case measure => simp [RowKit.intOf]; omega
        · obtain rfl : k = l.length := by omega
          clear hG hb
          go_wp2
          go_ret2
          exact .inr ⟨hall2.out, sv, ps, rfl, hBH.out ▸ hGH.out, by rw [hbareH.out, List.take_length], hBH.out ▸ hbH.out⟩
end Go.Proofs.Ytgmdbpplfjkjmaa
