/- The document's counts in memory: rows of twelve cells. -/
import Derived.Test.YtgmdbpplfjkjmaaGroup
import Derived.Test.YtgmdbpplfjkjmaaCompareE
import Derived.Maps.AppendAt
import Derived.Deep.Onto
import Derived.Test.YtgmdbpplfjkjmaaRefPart
namespace Go.Proofs.Ytgmdbpplfjkjmaa
open Go.RowKit
set_option linter.unusedVariables false
set_option linter.unusedSimpArgs false

/-- A count of the document's: its term's cells, the term, how often. -/
abbrev RT : Type := List Value × Term × Int
def flatR (ps : List RT) : List Value := ps.flatMap fun p => p.1 ++ [Value.int .i64 p.2.2]
def RsOk (w : World) (ps : List RT) : Prop := ∀ p ∈ ps, TRep w p.2.1 p.1
def bareR (ps : List RT) : List (Val × Int) := ps.map fun p => (builtV p.2.1, p.2.2)
theorem flatR_append (l m : List RT) : flatR (l ++ m) = flatR l ++ flatR m := by unfold flatR; rw [List.flatMap_append]
def elevenR (ps : List RT) : Prop := ∀ p ∈ ps, p.1.length = 11
theorem RsOk.eleven {w : World} {ps : List RT} (h : RsOk w ps) : elevenR ps := fun p hp => TRep.len (h p hp)
theorem RsOk.keep {w w' : World} {ps : List RT} (h : RsOk w ps) (hb : Below w.heap.size w w') : RsOk w' ps := fun p hp => TRep.keep (keeps_of_below hb) _ _ (h p hp)
theorem flatR_length : ∀ {ps : List RT}, elevenR ps → (flatR ps).length = ps.length * 12
  | [], _ => rfl
  | p :: l, h => by
    show ((p.1 ++ [Value.int .i64 p.2.2]) ++ flatR l).length = _
    rw [List.length_append, flatR_length (fun q hq => h q (List.mem_cons_of_mem _ hq)), List.length_append, h p (List.mem_cons_self ..), List.length_cons]
    simp; omega
theorem flatR_at : ∀ (ps : List RT) (k : Nat) (p : RT), elevenR ps → ps[k]? = some p → (∀ j, j < 11 → (flatR ps)[k * 12 + j]? = p.1[j]?) ∧ (flatR ps)[k * 12 + 11]? = some (Value.int .i64 p.2.2)
  | [], k, p, _, h => by simp at h
  | q :: l, 0, p, h1, h => by
    obtain rfl : q = p := by simpa using h
    have hl := h1 q (List.mem_cons_self ..)
    have e : flatR (q :: l) = q.1 ++ (Value.int .i64 q.2.2 :: flatR l) := by show (q.1 ++ [Value.int .i64 q.2.2]) ++ flatR l = _; rw [List.append_assoc]; rfl
    rw [e]
    refine ⟨fun j hj => ?_, ?_⟩
    · rw [Nat.zero_mul, Nat.zero_add, List.getElem?_append_left (by omega)]
    · rw [List.getElem?_append_right (by omega), hl]; rfl
  | q :: l, k + 1, p, h1, h => by
    have hl := h1 q (List.mem_cons_self ..)
    have ih := flatR_at l k p (fun z hz => h1 z (List.mem_cons_of_mem _ hz)) (by simpa using h)
    have e : flatR (q :: l) = (q.1 ++ [Value.int .i64 q.2.2]) ++ flatR l := rfl
    have hl2 : (q.1 ++ [Value.int .i64 q.2.2]).length = 12 := by rw [List.length_append, hl]; rfl
    rw [e]
    refine ⟨fun j hj => ?_, ?_⟩
    · rw [List.getElem?_append_right (by omega), hl2, show (k + 1) * 12 + j - 12 = k * 12 + j by omega]; exact ih.1 j hj
    · rw [List.getElem?_append_right (by omega), hl2, show (k + 1) * 12 + 11 - 12 = k * 12 + 11 by omega]; exact ih.2
theorem elevenR.take {ps : List RT} (h : elevenR ps) (i : Nat) : elevenR (ps.take i) := fun p hp => h p (List.mem_of_mem_take hp)
theorem elevenR.drop {ps : List RT} (h : elevenR ps) (i : Nat) : elevenR (ps.drop i) := fun p hp => h p (List.mem_of_mem_drop hp)
theorem flatR_take {ps : List RT} (h : elevenR ps) (i : Nat) (hi : i ≤ ps.length) : (flatR ps).take (i * 12) = flatR (ps.take i) := by
  have e : flatR ps = flatR (ps.take i) ++ flatR (ps.drop i) := by rw [← flatR_append, List.take_append_drop]
  rw [e]; exact List.take_left' (by rw [flatR_length (h.take i), List.length_take]; omega)
theorem flatR_drop {ps : List RT} (h : elevenR ps) (i : Nat) (hi : i ≤ ps.length) : (flatR ps).drop (i * 12) = flatR (ps.drop i) := by
  have e : flatR ps = flatR (ps.take i) ++ flatR (ps.drop i) := by rw [← flatR_append, List.take_append_drop]
  rw [e]; exact List.drop_left' (by rw [flatR_length (h.take i), List.length_take]; omega)
def bumpR (ps : List RT) (i : Nat) (p : RT) : List RT := ps.take i ++ (p.1, p.2.1, p.2.2 + 1) :: ps.drop (i + 1)
theorem bumpR_split {ps : List RT} {i : Nat} {p : RT} (hp : ps[i]? = some p) : ps = ps.take i ++ p :: ps.drop (i + 1) := by
  obtain ⟨h, rfl⟩ := List.getElem?_eq_some_iff.1 hp
  rw [List.getElem_cons_drop, List.take_append_drop]
theorem bumpR_cells {ps : List RT} {i : Nat} {p : RT} (he : elevenR ps) (hp : ps[i]? = some p) : flatR (bumpR ps i p) = (flatR ps).set (i * 12 + 11) (Value.int .i64 (p.2.2 + 1)) := by
  have hi := (List.getElem?_eq_some_iff.1 hp).1
  have hl : (flatR (ps.take i)).length = i * 12 := by rw [flatR_length (he.take i), List.length_take]; omega
  have hl2 := he p (List.mem_of_getElem? hp)
  rw [show flatR ps = flatR (ps.take i) ++ (p.1 ++ (Value.int .i64 p.2.2 :: flatR (ps.drop (i + 1)))) by
    have h1 : flatR ps = flatR (ps.take i ++ p :: ps.drop (i + 1)) := by rw [← bumpR_split hp]
    rw [h1, flatR_append]
    show _ ++ ((p.1 ++ [Value.int .i64 p.2.2]) ++ flatR (ps.drop (i + 1))) = _
    rw [List.append_assoc]; rfl]
  rw [List.set_append_right _ _ (by omega), hl, show i * 12 + 11 - i * 12 = 11 by omega, List.set_append_right _ _ (by omega), hl2]
  unfold bumpR
  rw [flatR_append]
  show _ ++ ((p.1 ++ [Value.int .i64 (p.2.2 + 1)]) ++ flatR (ps.drop (i + 1))) = _
  rw [List.append_assoc]; rfl
theorem bareR_at {ps : List RT} {k : Nat} {p : RT} (h : ps[k]? = some p) : (bareR ps)[k]? = some (builtV p.2.1, p.2.2) := by unfold bareR; rw [List.getElem?_map, h]; rfl
theorem bareR_of {ps : List RT} {k : Nat} {q : Val × Int} (h : (bareR ps)[k]? = some q) : ∃ p, ps[k]? = some p ∧ q = (builtV p.2.1, p.2.2) := by
  unfold bareR at h
  rw [List.getElem?_map] at h
  obtain ⟨p, hp, rfl⟩ := Option.map_eq_some_iff.1 h
  exact ⟨p, hp, rfl⟩
/-- Where the search from the front stands, it is put in, or counted. -/
theorem insV_front : ∀ (r : List (Val × Int)) (v : Val) (i : Nat), i ≤ r.length → (∀ t p, t < i → r[t]? = some p → cmpV p.1 v < 0) → (∀ p, r[i]? = some p → ¬ cmpV p.1 v < 0) →
    insV r v = match r[i]? with
      | some p => if cmpV p.1 v = 0 then r.take i ++ (p.1, p.2 + 1) :: r.drop (i + 1) else r.take i ++ (v, 1) :: r.drop i
      | none => r.take i ++ (v, 1) :: r.drop i
  | [], v, i, hi, _, _ => by simp [insV]
  | (u, n) :: r, v, 0, hi, h1, h2 => by
    have := h2 (u, n) rfl
    rw [insV, if_neg this]
    simp only [List.getElem?_cons_zero, List.take_zero, List.nil_append, List.drop_zero, List.drop_succ_cons]
  | (u, n) :: r, v, i + 1, hi, h1, h2 => by
    have h0 := h1 0 (u, n) (by omega) rfl
    have ih := insV_front r v i (by simpa using hi) (fun t p ht hp => h1 (t + 1) p (by omega) (by simpa using hp)) (fun p hp => h2 p (by simpa using hp))
    rw [insV, if_pos h0, ih]
    simp only [List.getElem?_cons_succ, List.take_succ_cons, List.drop_succ_cons, List.cons_append]
    split
    · split <;> rfl
    · rfl
theorem bareR_put (ps : List RT) (i : Nat) (cs : List Value) (t : Term) (n : Int) : bareR (ps.take i ++ (cs, t, n) :: ps.drop i) = (bareR ps).take i ++ (builtV t, n) :: (bareR ps).drop i := by
  unfold bareR; rw [List.map_append, List.map_cons, List.map_take, List.map_drop]
theorem bareR_bump (ps : List RT) (i : Nat) (p : RT) : bareR (bumpR ps i p) = (bareR ps).take i ++ (builtV p.2.1, p.2.2 + 1) :: (bareR ps).drop (i + 1) := by
  unfold bareR bumpR; rw [List.map_append, List.map_cons, List.map_take, List.map_drop]
theorem insV_end {ps : List RT} {v : Val} (h1 : ∀ t p, t < ps.length → ps[t]? = some p → cmpV (builtV p.2.1) v < 0) (cs : List Value) (t : Term) (ht : builtV t = v) : insV (bareR ps) v = bareR (ps.take ps.length ++ (cs, t, 1) :: ps.drop ps.length) := by
  have hlen : (bareR ps).length = ps.length := by unfold bareR; rw [List.length_map]
  have hb : (bareR ps)[ps.length]? = none := List.getElem?_eq_none (by omega)
  have := insV_front (bareR ps) v ps.length (by omega) (fun t q ht hq => by obtain ⟨p, hp, rfl⟩ := bareR_of hq; exact h1 t p ht hp) (fun p hp => by rw [hb] at hp; cases hp)
  simp only [hb] at this
  rw [this, bareR_put, ht]
theorem insV_here {ps : List RT} {v : Val} {i : Nat} {p : RT} (h1 : ∀ t p, t < i → ps[t]? = some p → cmpV (builtV p.2.1) v < 0) (hp : ps[i]? = some p) (hnlt : ¬ cmpV (builtV p.2.1) v < 0) :
    (cmpV (builtV p.2.1) v = 0 → insV (bareR ps) v = bareR (bumpR ps i p)) ∧ (cmpV (builtV p.2.1) v ≠ 0 → ∀ cs t, builtV t = v → insV (bareR ps) v = bareR (ps.take i ++ (cs, t, 1) :: ps.drop i)) := by
  have hlen : (bareR ps).length = ps.length := by unfold bareR; rw [List.length_map]
  have hi := (List.getElem?_eq_some_iff.1 hp).1
  have := insV_front (bareR ps) v i (by omega) (fun t q ht hq => by obtain ⟨p, hp, rfl⟩ := bareR_of hq; exact h1 t p ht hp) (fun q hq => by
    rw [bareR_at hp] at hq
    obtain rfl := Option.some.inj hq
    exact hnlt)
  simp only [bareR_at hp] at this
  refine ⟨fun h => ?_, fun h cs t ht => ?_⟩
  · rw [this, if_pos h, bareR_bump]
  · rw [this, if_neg h, bareR_put, ht]
end Go.Proofs.Ytgmdbpplfjkjmaa

/-! One count more among the document's: three appends. -/
namespace Go.Proofs.Ytgmdbpplfjkjmaa
open Go.RowKit
set_option linter.unusedVariables false
set_option linter.unusedSimpArgs false

theorem Try.infoRCount : (Try.prog.info? 43).map (fun i => (i.zero.map (·.cells.size), i.size, i.bytes)) = some (some 12, 12, 160) := by kernel_rfl
theorem flatR_ones {w : World} {ps : List RT} (h : RsOk w ps) : ∀ u ∈ flatR ps, u.oneCell' = true := fun u hu => by
  obtain ⟨p, hp, hu⟩ := List.mem_flatMap.1 hu
  rcases List.mem_append.1 hu with hu | hu
  · exact TRep.ones (h p hp) u hu
  · rw [List.mem_singleton.1 hu]; rfl
theorem flatR_putIn {ps : List RT} (he : elevenR ps) (i : Nat) (hi : i ≤ ps.length) (cs : List Value) (t : Term) (n : Int) :
    (flatR ps).take (i * 12) ++ (cs ++ [Value.int .i64 n]) ++ (flatR ps).drop (i * 12) = flatR (ps.take i ++ (cs, t, n) :: ps.drop i) := by
  rw [flatR_take he i hi, flatR_drop he i hi, flatR_append]
  show _ = _ ++ ((cs ++ [Value.int .i64 n]) ++ flatR (ps.drop i))
  rw [List.append_assoc]
theorem putR_ok {w : World} {ps : List RT} {i : Nat} {cs : List Value} {t : Term} {n : Int} (h : RsOk w ps) (ht : TRep w t cs) : RsOk w (ps.take i ++ (cs, t, n) :: ps.drop i) := by
  intro q hq
  rcases List.mem_append.1 hq with hq | hq
  · exact h q (List.mem_of_mem_take hq)
  · rcases List.mem_cons.1 hq with rfl | hq
    · exact ht
    · exact h q (List.mem_of_mem_drop hq)
/-- What the three appends leave. -/
def PutRuns (W : World) (g cap k n : Nat) (cs : List Value) (v1 : Value) (W1 : World) (v2 : Value) (W2 : World) (v3 : Value) (W3 : World) : Prop :=
  (Builtin.append_ #[36, 36] 36 #[.slice (some ⟨W.heap.size, 0, none⟩) 0 0, .slice (some ⟨g, 0, none⟩) k cap]).run Try.prog (W.alloc (.cells #[] 43)) = .ok v1 W1 ∧
  (Builtin.append_ #[36, 36] 36 #[v1, .slice (some ⟨W1.heap.size, 0, none⟩) 1 1]).run Try.prog (W1.alloc (.cells (cs ++ [Value.int .i64 1]).toArray 43)) = .ok v2 W2 ∧
  (Builtin.append_ #[36, 36] 36 #[v2, .slice (some ⟨g, if cap = k then 0 else k * 12, none⟩) (n - k) (cap - k)]).run Try.prog W2 = .ok v3 W3
theorem grownBy_below {W w w' : World} {row : Option Nat} {B : Nat} (h : Below B W w) (hg : w.grownBy w' row) (hB : B ≤ w.heap.size) (hr : ∀ b, row = some b → B ≤ b) : Below B W w' := h.grown hg hB hr
theorem rput_said {W : World} {B g cap k : Nat} {ps : List RT} (hrow : W.ownsRow B 43 12 (.slice (some ⟨g, 0, none⟩) ps.length cap) ps.length (flatR ps)) (he : elevenR ps) (h1 : ∀ u ∈ flatR ps, u.oneCell' = true)
    (hk : k ≤ ps.length) (hn : ps.length ≤ 1048576) (cs : List Value) (hcs : cs.length = 11) (hc1 : ∀ u ∈ cs, u.oneCell' = true) (t : Term) :
    ∃ v1 W1 v2 W2 v3 W3, PutRuns W g cap k ps.length cs v1 W1 v2 W2 v3 W3 ∧ Below W.heap.size W W1 ∧ Below W.heap.size W W3 ∧ v1.oneCell' = true ∧ v2.oneCell' = true ∧ v3.oneCell' = true ∧ (∃ c, ownL v3 = [c]) ∧
      W3.ownsRow W.heap.size 43 12 v3 (ps.take k ++ (cs, t, 1) :: ps.drop k).length (flatR (ps.take k ++ (cs, t, 1) :: ps.drop k)) := by
  have hinf := Try.infoRCount
  cases hi : Try.prog.info? 43 with
  | none => rw [hi] at hinf; simp at hinf
  | some i =>
  rw [hi] at hinf
  simp only [Option.map_some, Option.some.injEq, Prod.mk.injEq] at hinf
  obtain ⟨hz, hsz, hby⟩ := hinf
  cases hz0 : i.zero with
  | none => rw [hz0] at hz; simp at hz
  | some z =>
  rw [hz0] at hz
  have hzs : z.cells.size = 12 := by simpa using hz
  have hlen := flatR_length he
  have hcell : ∀ j, j < ps.length * 12 → W.cell? ⟨g, j, none⟩ = (flatR ps)[j]? := fun j hj => hrow.cellAt j hj
  have hgW : g < W.heap.size := (ownsRow_lt hrow g (by simp [ownL, Value.ownBlock])).2
  -- the first
  have own0 := ownsRow_new W 43 12 W.heap.size (Nat.le_refl _)
  have bel0 : Below W.heap.size W (W.alloc (.cells #[] 43)) := (Below.refl _ _).alloc (Nat.le_refl _) _
  obtain ⟨v1, W1, r1, own1, gr1, -, at1⟩ := run_append_own_at (P := Try.prog) (W.alloc (.cells #[] 43)) W.heap.size 36 36 43 i z 12 160 (by kernel_rfl) hi hz0 hsz hby hzs (by omega)
    (.slice (some ⟨W.heap.size, 0, none⟩) 0 0) 0 [] own0 ⟨g, 0, none⟩ k cap ((flatR ps).take (k * 12)) (by rw [List.length_take, hlen]; omega)
    (fun j u hj => by
      rw [Addr.add_lit, Nat.zero_add]
      rw [List.getElem?_take] at hj
      split at hj
      · rename_i hjk
        have h := (hcell j (by omega)).trans hj
        exact keeps_of_below bel0 _ _ h
      · cases hj) (fun u hu => h1 u (List.mem_of_mem_take hu)) (by unfold maxLen; omega) (by omega) bel0.size
  have own1' : W1.ownsRow W.heap.size 43 12 v1 k ((flatR ps).take (k * 12)) := by simpa using own1
  have bel1 : Below W.heap.size W W1 := grownBy_below bel0 gr1 bel0.size (fun b hb => by simp [Value.ownBlock] at hb; omega)
  -- the second
  have bel1a : Below W.heap.size W (W1.alloc (.cells (cs ++ [Value.int .i64 1]).toArray 43)) := bel1.alloc bel1.size _
  have own1a := own1'.alloc (.cells (cs ++ [Value.int .i64 1]).toArray 43)
  obtain ⟨v2, W2, r2, own2, gr2, hnil2, at2⟩ := run_append_own_at (P := Try.prog) (W1.alloc (.cells (cs ++ [Value.int .i64 1]).toArray 43)) W.heap.size 36 36 43 i z 12 160 (by kernel_rfl) hi hz0 hsz hby hzs (by omega)
    v1 k _ own1a ⟨W1.heap.size, 0, none⟩ 1 1 (cs ++ [Value.int .i64 1]) (by simp [hcs])
    (fun j u hj => by
      have := World.news_of_block (heap_alloc_new W1 (.cells (cs ++ [Value.int .i64 1]).toArray 43)) j u (by simpa using hj)
      exact this) (fun u hu => by
      rcases List.mem_append.1 hu with hu | hu
      · exact hc1 u hu
      · rw [List.mem_singleton.1 hu]; rfl) (by unfold maxLen; omega) (by omega) bel1a.size
  have bel2 : Below W.heap.size W W2 := grownBy_below bel1a gr2 bel1a.size (fun b hb => (own1'.lt b hb).1)
  -- the third
  obtain ⟨v3, W3, r3, own3, gr3, hnil3, at3⟩ := run_append_own_at (P := Try.prog) W2 W.heap.size 36 36 43 i z 12 160 (by kernel_rfl) hi hz0 hsz hby hzs (by omega)
    v2 (k + 1) _ own2 ⟨g, if cap = k then 0 else k * 12, none⟩ (ps.length - k) (cap - k) ((flatR ps).drop (k * 12)) (by rw [List.length_drop, hlen, Nat.sub_mul])
    (fun j u hj => by
      rw [Addr.add_lit]
      rw [List.getElem?_drop] at hj
      have hj' := (List.getElem?_eq_some_iff.1 hj).1
      rw [hlen] at hj'
      have hck : ¬ cap = k := by
        obtain ⟨a', c', e, hc', -⟩ := ownsRow_form hrow
        injection e with e1 e2 e3
        omega
      rw [if_neg hck]
      exact keeps_of_below bel2 _ _ ((hcell _ (by omega)).trans hj)) (fun u hu => h1 u (List.mem_of_mem_drop hu)) (by unfold maxLen; omega) (by omega) bel2.size
  have bel3 : Below W.heap.size W W3 := grownBy_below bel2 gr3 bel2.size (fun b hb => (own2.lt b hb).1)
  have hl3 : k + 1 + (ps.length - k) = (ps.take k ++ (cs, t, 1) :: ps.drop k).length := by rw [List.length_append, List.length_take, List.length_cons, List.length_drop]; omega
  rw [hl3, flatR_putIn he k hk cs t 1] at own3
  refine ⟨v1, W1, v2, W2, v3, W3, ⟨r1, r2, r3⟩, bel1, bel3, ?_, ?_, ?_, ?_, own3⟩
  · obtain ⟨_, _, rfl, -⟩ := ownsRow_form own1; rfl
  · obtain ⟨_, _, rfl, -⟩ := ownsRow_form own2; rfl
  · obtain ⟨_, _, rfl, -⟩ := ownsRow_form own3; rfl
  · obtain ⟨c, cap', rfl, -⟩ := own3.form (by rw [← hl3]; omega)
    exact ⟨c, rfl⟩
end Go.Proofs.Ytgmdbpplfjkjmaa

/-! tenonref05.Group. -/
namespace Go.Proofs.Ytgmdbpplfjkjmaa
open Go.RowKit
set_option linter.unusedVariables false
set_option linter.unusedSimpArgs false

theorem foldV_mem : ∀ (l : List Val) (r : List (Val × Int)) (p : Val × Int), p ∈ l.foldl insV r → p.1 ∈ l ∨ ∃ q ∈ r, q.1 = p.1
  | [], r, p, h => .inr ⟨p, h, rfl⟩
  | v :: l, r, p, h => by
    rcases foldV_mem l (insV r v) p h with h1 | ⟨q, hq, e⟩
    · exact .inl (List.mem_cons_of_mem _ h1)
    · rcases insV_mem q hq with e2 | ⟨z, hz, e2⟩
      · exact .inl (by rw [← e, e2]; exact List.mem_cons_self ..)
      · exact .inr ⟨z, hz, e2.trans e⟩
theorem groupV_mem (l : List Val) (p : Val × Int) (h : p ∈ groupV l) : p.1 ∈ l := (foldV_mem l [] p h).elim id (fun ⟨_, h, _⟩ => by cases h)
theorem rowR_bump {B : Nat} {w : World} {sv : Value} {ps : List RT} {i : Nat} {p : RT} {g : Nat} (h : w.ownsRow B 43 12 sv ps.length (flatR ps)) (he : elevenR ps) (hp : ps[i]? = some p) (hg : ownL sv = [g]) :
    (w.setCell ⟨g, i * 12 + 11, none⟩ (.int .i64 (p.2.2 + 1))).ownsRow B 43 12 sv (bumpR ps i p).length (flatR (bumpR ps i p)) ∧ ∀ W, Below B W w → Below B W (w.setCell ⟨g, i * 12 + 11, none⟩ (.int .i64 (p.2.2 + 1))) := by
  have hi := (List.getElem?_eq_some_iff.1 hp).1
  have hlen : (bumpR ps i p).length = ps.length := by unfold bumpR; rw [List.length_append, List.length_take, List.length_cons, List.length_drop]; omega
  obtain ⟨hl, ⟨rfl, h0⟩ | ⟨g', cap, cur, rfl, hB, hc, hn, hm, hs, ht⟩⟩ := h
  · omega
  · obtain rfl : g' = g := by simpa [ownL, Value.ownBlock] using hg
    refine ⟨?_, fun W hW => hW.trans ⟨rfl, rfl, rfl, by rw [size_setCell]; exact Nat.le_refl _, fun k hk => by
      rw [setCell_eq_setRow w g' (i * 12 + 11) cur _ _ _ hc]; exact setRow_other w g' k _ (by omega)⟩⟩
    rw [hlen, bumpR_cells he hp]
    refine ⟨by rw [List.length_set]; exact hl, .inr ⟨g', cap, cur.setIfInBounds (i * 12 + 11) (.int .i64 (p.2.2 + 1)), rfl, hB, by rw [setCell_eq_setRow w g' (i * 12 + 11) cur _ _ _ hc]; exact setRow_heap w g' cur _ _ _ hc, hn, hm, by rw [Array.size_setIfInBounds]; exact hs, ?_⟩⟩
    rw [Array.toList_setIfInBounds, ← ht, List.take_set]
theorem bumpR_ok {w : World} {ps : List RT} {i : Nat} {p : RT} (h : RsOk w ps) (hp : ps[i]? = some p) : RsOk w (bumpR ps i p) := by
  intro q hq
  unfold bumpR at hq
  rcases List.mem_append.1 hq with hq | hq
  · exact h q (List.mem_of_mem_take hq)
  · rcases List.mem_cons.1 hq with rfl | hq
    · exact h p (List.mem_of_getElem? hp)
    · exact h q (List.mem_of_mem_drop hq)
def RGroupEnd (l : List Term) (w0 w : World) (e : Ending) (w' : World) : Prop :=
  (whyL (l.map builtV) ≠ 0 ∧ e = .returned (.tuple #[.slice none 0 0, .int .i64 (whyL (l.map builtV))]) ∧ Below w.heap.size w w') ∨
  ((∀ v ∈ l.map builtV, okB v = true) ∧ ∃ sv ps, e = .returned (.tuple #[sv, .int .i64 0]) ∧ w'.ownsRow w.heap.size 43 12 sv ps.length (flatR ps) ∧ RsOk w0 ps ∧ bareR ps = groupV (l.map builtV) ∧ Below w.heap.size w w')
set_option maxRecDepth 100000 in
set_option maxHeartbeats 12800000 in
theorem refGroup_said {w0 w : World} {l : List Term} {x : Value} {xs : List Value} (hx : AtRow w x l.length 11 xs) (hxs : TsRep w0 l xs) (hb0 : Below w0.heap.size w0 w) :
    Calls Try.prog 13 #[x] w (RGroupEnd l w0 w) := by
  obtain ⟨oa, cap, rfl, hcap, hmax, hsm, -, -, hform⟩ := hx
  unfold maxLen at hmax
  have hdat := Lib.hid (TsRep.at l xs hxs)
  have hb0H := Lib.hid hb0
  have hformH := Lib.hid hform
  have hlm : (l.map builtV).length = l.length := List.length_map ..
  have hlmH := Lib.hid hlm
  clear hform hxs hlm hb0
  go_enter Try.func13, Try.ntmps13
  go_wp2_with fail
  go_loopw [4] (fun i wr => ∃ k : Nat, k ≤ l.length ∧ i = .int .i64 k ∧ (∀ v ∈ (l.map builtV).take k, okB v = true) ∧ Below w.heap.size w wr) (fun i _ => l.length - (intOf i).toNat)
  case atStart => exact ⟨0, Nat.zero_le _, rfl, by simp, Below.refl _ _⟩
  case round =>
    obtain ⟨k, hk, rfl, hall, hb⟩ := hrel
    have hallH := Lib.hid hall
    have hbH := Lib.hid hb
    clear hall
    by_cases h1 : k < l.length
    · have l1 : (k : Int) < (l.length : Int) := by omega
      obtain ⟨b', o, rfl, hcells⟩ := hformH.out (by omega)
      obtain ⟨t, hp⟩ : ∃ p, l[k]? = some p := ⟨_, List.getElem?_eq_getElem h1⟩
      obtain ⟨cs, ht0, e1⟩ := hdat.out k _ hp
      have ht := TRep.keep (keeps_of_below hb0H.out) _ _ ht0
      have hcell : ∀ j, j < 11 → wr.cell? ⟨b', o + k * 11 + j, none⟩ = cs[j]? := fun j hj => by
        have h1 := hcells (k * 11 + j) (by omega)
        rw [e1 j hj, ← Nat.add_assoc] at h1
        have hl := TRep.len ht
        rw [List.getElem?_eq_getElem (by omega)] at h1 ⊢
        exact keeps_of_below hb _ _ h1
      have hck0 := refCheck_any t cs wr (TRep.keep (keeps_of_below hb) _ _ ht)
      have hvk : (l.map builtV)[k]? = some (builtV t) := by rw [List.getElem?_map, hp]; rfl
      have htk := Lib.hid (show (l.map builtV).take (k + 1) = (l.map builtV).take k ++ [builtV t] by rw [List.take_add_one, hvk]; rfl)
      have hvH := Lib.hid hvk
      have hlen := TRep.len ht
      obtain ⟨c0, c1, c2, c3, c4, c5, c6, c7, c8, c9, c10, rfl⟩ := eleven hlen
      have q0 := hcell 0 (by omega)
      have q1 := hcell 1 (by omega)
      have q2 := hcell 2 (by omega)
      have q3 := hcell 3 (by omega)
      have q4 := hcell 4 (by omega)
      have q5 := hcell 5 (by omega)
      have q6 := hcell 6 (by omega)
      have q7 := hcell 7 (by omega)
      have q8 := hcell 8 (by omega)
      have q9 := hcell 9 (by omega)
      have q10 := hcell 10 (by omega)
      simp only [List.getElem?_cons_zero, List.getElem?_cons_succ, Nat.add_zero, Nat.reduceAdd] at q0 q1 q2 q3 q4 q5 q6 q7 q8 q9 q10
      generalize builtV t = v at *
      clear ht ht0 e1 hcells hcell hp hlen hvk hb
      by_cases hok : okB v = true
      · have hck2 := hck0
        rw [check_ok hok] at hck2
        have hck3 := Lib.hid hck2
        clear hck0 hck2
        go_wp2_with fail
        refine hck3.out.mono ?_
        rintro e w1 ⟨rfl, hb1⟩
        have hb1H := Lib.hid hb1
        clear hb1 q0 q1 q2 q3 q4 q5 q6 q7 q8 q9 q10
        go_wp2_with fail
        go_roundw
        case rel => exact ⟨k + 1, by omega, by go_num, fun u hu => by
          rw [htk.out] at hu
          rcases List.mem_append.1 hu with hu | hu
          · exact hallH.out u hu
          · rw [List.mem_singleton.1 hu]; exact hok, hbH.out.trans (hb1H.out.mono hbH.out.size)⟩
        case measure => simp [intOf]; omega
      · have hbad : okB v = false := by simpa using hok
        have hne : (whyF v != 0) = true := by simpa using why_bad hbad
        have hck2 : Hid (Calls Try.prog 76 #[.agg #[c0, c1, c2, c3, c4, c5, c6, c7, c8, c9, c10]] wr fun e w' => e = .returned (.tuple #[.int .i64 (checkF v).1, .int .i64 (whyF v)]) ∧ Below wr.heap.size wr w') := Lib.hid hck0
        have hwl := Lib.hid (whyL_at hallH.out hvH.out hbad)
        have hwz := Lib.hid (why_bad hbad)
        clear hck0 hok hbad
        go_wp2_with fail
        refine hck2.out.mono ?_
        rintro e w1 ⟨rfl, hb1⟩
        have hb1H := Lib.hid hb1
        clear hb1 q0 q1 q2 q3 q4 q5 q6 q7 q8 q9 q10
        go_wp2
        go_ret2
        exact .inl ⟨by rw [hwl.out]; exact hwz.out, by rw [hwl.out]; rfl, hbH.out.trans (hb1H.out.mono hbH.out.size)⟩
    · obtain rfl : k = l.length := by omega
      have hall2 := Lib.hid (show ∀ v ∈ l.map builtV, okB v = true by have := hallH.out; rwa [← hlmH.out, List.take_length] at this)
      clear hallH hb
      go_wp2_with fail
      obtain ⟨B, hB⟩ : ∃ B, B = w.heap.size := ⟨_, rfl⟩
      have hBH := Lib.hid hB
      have hbr := hbH.out
      rw [← hB] at hbr
      have hBr : B ≤ wr.heap.size := by have := hbr.size; omega
      have hrow0 := Lib.hid (ownsRow_new wr 43 12 B hBr)
      have hb0 := Lib.hid (hbr.alloc hBr (.cells #[] 43))
      have mixed : Try.prog.follows .mixedOrders = true := by kernel_rfl
      clear hB hbr hbH
      go_loopw [7, 8] (fun ov i wr => ∃ (k : Nat) (sv : Value) (ps : List RT), sv = ov ∧ k ≤ l.length ∧ i = .int .i64 k ∧ wr.ownsRow B 43 12 sv ps.length (flatR ps) ∧ RsOk w0 ps ∧ bareR ps = groupV ((l.map builtV).take k) ∧ Below B w wr ∧ ∃ c, ownL sv = [c]) (fun _ i _ => l.length - (intOf i).toNat)
      case atStart => exact ⟨0, _, [], rfl, Nat.zero_le _, rfl, hrow0.out, (fun _ h => by cases h), rfl, hb0.out, ⟨_, rfl⟩⟩
      case round =>
        obtain ⟨k, sv, ps, rfl, hk, rfl, hrow, hrs, hbare, hb, hown⟩ := hrel
        have hrowH := Lib.hid hrow
        have hrsH := Lib.hid hrs
        have hbareH := Lib.hid hbare
        have hbH := Lib.hid hb
        clear hbare hrs
        by_cases h1 : k < l.length
        · have l1 : (k : Int) < (l.length : Int) := by omega
          obtain ⟨w1, hw1⟩ : ∃ W, W = wr := ⟨_, rfl⟩
          subst hw1
          have hBw1 : B ≤ w1.heap.size := by have := hb.size; have := hBH.out; omega
          have hbw : Below w.heap.size w w1 := hBH.out ▸ hb
          obtain ⟨b', o, rfl, hcells⟩ := hformH.out (by omega)
          obtain ⟨t, hp⟩ : ∃ p, l[k]? = some p := ⟨_, List.getElem?_eq_getElem h1⟩
          obtain ⟨cs, ht0, e1⟩ := hdat.out k _ hp
          have ht := TRep.keep (keeps_of_below hb0H.out) _ _ ht0
          have ht0H := Lib.hid ht0
          have hvk : (l.map builtV)[k]? = some (builtV t) := by rw [List.getElem?_map, hp]; rfl
          have hcell : ∀ j, j < 11 → w1.cell? ⟨b', o + k * 11 + j, none⟩ = cs[j]? := fun j hj => by
            have h1 := hcells (k * 11 + j) (by omega)
            rw [e1 j hj, ← Nat.add_assoc] at h1
            have hl := TRep.len ht
            rw [List.getElem?_eq_getElem (by omega)] at h1 ⊢
            exact keeps_of_below hbw _ _ h1
          have htH := Lib.hid ht
          have hokt := Lib.hid (hall2.out _ (List.mem_of_getElem? hvk))
          have hsnoc := Lib.hid (show groupV ((l.map builtV).take (k + 1)) = insV (groupV ((l.map builtV).take k)) (builtV t) by rw [List.take_add_one, hvk, ← groupV_snoc]; rfl)
          have hlen := TRep.len ht
          obtain ⟨c0, c1, c2, c3, c4, c5, c6, c7, c8, c9, c10, rfl⟩ := eleven hlen
          have q0 := hcell 0 (by omega)
          have q1 := hcell 1 (by omega)
          have q2 := hcell 2 (by omega)
          have q3 := hcell 3 (by omega)
          have q4 := hcell 4 (by omega)
          have q5 := hcell 5 (by omega)
          have q6 := hcell 6 (by omega)
          have q7 := hcell 7 (by omega)
          have q8 := hcell 8 (by omega)
          have q9 := hcell 9 (by omega)
          have q10 := hcell 10 (by omega)
          simp only [List.getElem?_cons_zero, List.getElem?_cons_succ, Nat.add_zero, Nat.reduceAdd] at q0 q1 q2 q3 q4 q5 q6 q7 q8 q9 q10
          have hqH := Lib.hid (show w1.cell? ⟨b', o + k * 11, none⟩ = some c0 ∧ w1.cell? ⟨b', o + k * 11 + 1, none⟩ = some c1 ∧ w1.cell? ⟨b', o + k * 11 + 2, none⟩ = some c2 ∧ w1.cell? ⟨b', o + k * 11 + 3, none⟩ = some c3 ∧ w1.cell? ⟨b', o + k * 11 + 4, none⟩ = some c4 ∧ w1.cell? ⟨b', o + k * 11 + 5, none⟩ = some c5 ∧ w1.cell? ⟨b', o + k * 11 + 6, none⟩ = some c6 ∧ w1.cell? ⟨b', o + k * 11 + 7, none⟩ = some c7 ∧ w1.cell? ⟨b', o + k * 11 + 8, none⟩ = some c8 ∧ w1.cell? ⟨b', o + k * 11 + 9, none⟩ = some c9 ∧ w1.cell? ⟨b', o + k * 11 + 10, none⟩ = some c10 from ⟨q0, q1, q2, q3, q4, q5, q6, q7, q8, q9, q10⟩)
          obtain ⟨sa, scap, rfl, hsc, hsm2, -, hsform⟩ := ownsRow_form hrow
          unfold maxLen at hsm2
          rcases hsform with ⟨rfl, -, -⟩ | ⟨g, rfl, -, hgs, hgl, hrc⟩
          · obtain ⟨c, hc⟩ := hown; simp [ownL, Value.ownBlock] at hc
          have hrcH := Lib.hid hrc
          have hplm : ps.length ≤ 1048576 := by
            have h2 := groupV_len ((l.map builtV).take k)
            rw [← hbareH.out, List.length_take] at h2
            unfold bareR at h2
            rw [List.length_map] at h2
            omega
          have hpl : ps.length ≤ l.length := by
            have h2 := groupV_len ((l.map builtV).take k)
            rw [← hbareH.out, List.length_take] at h2
            unfold bareR at h2
            rw [List.length_map] at h2
            omega
          clear q0 q1 q2 q3 q4 q5 q6 q7 q8 q9 q10 hcell hcells e1 ht ht0 hlen hvk hrow hrc hb hbw hown hgl
          go_wp2_with fail
          go_loopw [9] (fun i wr => ∃ m : Nat, m ≤ ps.length ∧ i = .int .i64 m ∧ (∀ t' p, t' < m → ps[t']? = some p → cmpV (builtV p.2.1) (builtV t) < 0) ∧ Below w1.heap.size w1 wr) (fun i _ => ps.length - (intOf i).toNat)
          case atStart => exact ⟨0, Nat.zero_le _, rfl, fun t' p h => absurd h (Nat.not_lt_zero _), Below.refl _ _⟩
          case round =>
            obtain ⟨m, hm, rfl, hlo, hb1⟩ := hrel
            have hloH := Lib.hid hlo
            have hb1H := Lib.hid hb1
            clear hlo
            by_cases h2 : m < ps.length
            · have l2 : (m : Int) < (ps.length : Int) := by omega
              have hrc := hrcH.out
              obtain ⟨⟨ds, u, N⟩, hpm⟩ : ∃ p, ps[m]? = some p := ⟨_, List.getElem?_eq_getElem h2⟩
              obtain ⟨f1, f2⟩ := flatR_at ps m _ hrsH.out.eleven hpm
              have hu := TRep.keep (keeps_of_below hb0H.out) _ _ (hrsH.out _ (List.mem_of_getElem? hpm))
              have hdl := TRep.len hu
              have hdc : ∀ j, j < 11 → wr.cell? ⟨g, m * 12 + j, none⟩ = ds[j]? := fun j hj => (hb1.cell (p := ⟨g, m * 12 + j, none⟩) hgs).trans ((hrc (m * 12 + j) (by omega)).trans (f1 j hj))
              have hbw : Below w.heap.size w wr := (hBH.out ▸ hbH.out : Below w.heap.size w w1).trans (hb1.mono (by have := hbH.out.size; omega))
              have hoku : okB (builtV u) = true := hall2.out _ (List.mem_of_mem_take (groupV_mem _ _ (by rw [← hbareH.out]; exact List.mem_of_getElem? (bareR_at hpm))))
              have hcmp := Lib.hid (fun W (hW : Below wr.heap.size wr W) => cmp_any u t ds _ W (TRep.keep (keeps_of_below (hbw.trans (below_le hW hbw.size))) _ _ hu) (TRep.keep (keeps_of_below (hbw.trans (below_le hW hbw.size))) _ _ htH.out) (okV_check hoku) (okV_check hokt.out))
              obtain ⟨d0, d1, d2, d3, d4, d5, d6, d7, d8, d9, d10, rfl⟩ := eleven hdl
              have q0 := hdc 0 (by omega)
              have q1 := hdc 1 (by omega)
              have q2 := hdc 2 (by omega)
              have q3 := hdc 3 (by omega)
              have q4 := hdc 4 (by omega)
              have q5 := hdc 5 (by omega)
              have q6 := hdc 6 (by omega)
              have q7 := hdc 7 (by omega)
              have q8 := hdc 8 (by omega)
              have q9 := hdc 9 (by omega)
              have q10 := hdc 10 (by omega)
              simp only [List.getElem?_cons_zero, List.getElem?_cons_succ, Nat.add_zero, Nat.reduceAdd] at q0 q1 q2 q3 q4 q5 q6 q7 q8 q9 q10
              have qN : wr.cell? ⟨g, m * 12 + 11, none⟩ = some (.int .i64 N) := (hb1.cell (p := ⟨g, m * 12 + 11, none⟩) hgs).trans ((hrc (m * 12 + 11) (by omega)).trans f2)
              have hS0 : (fun w' => w'.cell? ⟨g, m * 12, none⟩ = some d0 ∧ w'.cell? ⟨g, m * 12 + 1, none⟩ = some d1 ∧ w'.cell? ⟨g, m * 12 + 2, none⟩ = some d2 ∧ w'.cell? ⟨g, m * 12 + 3, none⟩ = some d3 ∧ w'.cell? ⟨g, m * 12 + 4, none⟩ = some d4 ∧ w'.cell? ⟨g, m * 12 + 5, none⟩ = some d5 ∧ w'.cell? ⟨g, m * 12 + 6, none⟩ = some d6 ∧ w'.cell? ⟨g, m * 12 + 7, none⟩ = some d7 ∧ w'.cell? ⟨g, m * 12 + 8, none⟩ = some d8 ∧ w'.cell? ⟨g, m * 12 + 9, none⟩ = some d9 ∧ w'.cell? ⟨g, m * 12 + 10, none⟩ = some d10 ∧ w'.cell? ⟨g, m * 12 + 11, none⟩ = some (.int .i64 N) ∧ w'.cell? ⟨b', o + k * 11, none⟩ = some c0 ∧ w'.cell? ⟨b', o + k * 11 + 1, none⟩ = some c1 ∧ w'.cell? ⟨b', o + k * 11 + 2, none⟩ = some c2 ∧ w'.cell? ⟨b', o + k * 11 + 3, none⟩ = some c3 ∧ w'.cell? ⟨b', o + k * 11 + 4, none⟩ = some c4 ∧ w'.cell? ⟨b', o + k * 11 + 5, none⟩ = some c5 ∧ w'.cell? ⟨b', o + k * 11 + 6, none⟩ = some c6 ∧ w'.cell? ⟨b', o + k * 11 + 7, none⟩ = some c7 ∧ w'.cell? ⟨b', o + k * 11 + 8, none⟩ = some c8 ∧ w'.cell? ⟨b', o + k * 11 + 9, none⟩ = some c9 ∧ w'.cell? ⟨b', o + k * 11 + 10, none⟩ = some c10) wr := by
                obtain ⟨p0, p1, p2, p3, p4, p5, p6, p7, p8, p9, p10⟩ := hqH.out
                exact ⟨q0, q1, q2, q3, q4, q5, q6, q7, q8, q9, q10, qN, keeps_of_below hb1 _ _ p0, keeps_of_below hb1 _ _ p1, keeps_of_below hb1 _ _ p2, keeps_of_below hb1 _ _ p3, keeps_of_below hb1 _ _ p4, keeps_of_below hb1 _ _ p5, keeps_of_below hb1 _ _ p6, keeps_of_below hb1 _ _ p7, keeps_of_below hb1 _ _ p8, keeps_of_below hb1 _ _ p9, keeps_of_below hb1 _ _ p10⟩
              have hSk := Lib.hid (show ∀ W, Below wr.heap.size wr W → (fun w' => w'.cell? ⟨g, m * 12, none⟩ = some d0 ∧ w'.cell? ⟨g, m * 12 + 1, none⟩ = some d1 ∧ w'.cell? ⟨g, m * 12 + 2, none⟩ = some d2 ∧ w'.cell? ⟨g, m * 12 + 3, none⟩ = some d3 ∧ w'.cell? ⟨g, m * 12 + 4, none⟩ = some d4 ∧ w'.cell? ⟨g, m * 12 + 5, none⟩ = some d5 ∧ w'.cell? ⟨g, m * 12 + 6, none⟩ = some d6 ∧ w'.cell? ⟨g, m * 12 + 7, none⟩ = some d7 ∧ w'.cell? ⟨g, m * 12 + 8, none⟩ = some d8 ∧ w'.cell? ⟨g, m * 12 + 9, none⟩ = some d9 ∧ w'.cell? ⟨g, m * 12 + 10, none⟩ = some d10 ∧ w'.cell? ⟨g, m * 12 + 11, none⟩ = some (.int .i64 N) ∧ w'.cell? ⟨b', o + k * 11, none⟩ = some c0 ∧ w'.cell? ⟨b', o + k * 11 + 1, none⟩ = some c1 ∧ w'.cell? ⟨b', o + k * 11 + 2, none⟩ = some c2 ∧ w'.cell? ⟨b', o + k * 11 + 3, none⟩ = some c3 ∧ w'.cell? ⟨b', o + k * 11 + 4, none⟩ = some c4 ∧ w'.cell? ⟨b', o + k * 11 + 5, none⟩ = some c5 ∧ w'.cell? ⟨b', o + k * 11 + 6, none⟩ = some c6 ∧ w'.cell? ⟨b', o + k * 11 + 7, none⟩ = some c7 ∧ w'.cell? ⟨b', o + k * 11 + 8, none⟩ = some c8 ∧ w'.cell? ⟨b', o + k * 11 + 9, none⟩ = some c9 ∧ w'.cell? ⟨b', o + k * 11 + 10, none⟩ = some c10) W from fun W hW => by
                obtain ⟨p0, p1, p2, p3, p4, p5, p6, p7, p8, p9, p10, p11, p12, p13, p14, p15, p16, p17, p18, p19, p20, p21, p22⟩ := hS0
                exact ⟨keeps_of_below hW _ _ p0, keeps_of_below hW _ _ p1, keeps_of_below hW _ _ p2, keeps_of_below hW _ _ p3, keeps_of_below hW _ _ p4, keeps_of_below hW _ _ p5, keeps_of_below hW _ _ p6, keeps_of_below hW _ _ p7, keeps_of_below hW _ _ p8, keeps_of_below hW _ _ p9, keeps_of_below hW _ _ p10, keeps_of_below hW _ _ p11, keeps_of_below hW _ _ p12, keeps_of_below hW _ _ p13, keeps_of_below hW _ _ p14, keeps_of_below hW _ _ p15, keeps_of_below hW _ _ p16, keeps_of_below hW _ _ p17, keeps_of_below hW _ _ p18, keeps_of_below hW _ _ p19, keeps_of_below hW _ _ p20, keeps_of_below hW _ _ p21, keeps_of_below hW _ _ p22⟩)
              have hpmH := Lib.hid hpm
              clear q0 q1 q2 q3 q4 q5 q6 q7 q8 q9 q10 qN hS0 hdc hu hdl f1 f2 hrc hpm hb1 hbw
              obtain ⟨r, hr⟩ : ∃ r : Int, r = cmpV (builtV u) (builtV t) := ⟨_, rfl⟩
              rw [← hr] at hcmp
              have hrH := Lib.hid hr
              clear hr
              go_wp2_with fail
              refine wp_region_held_drew (S := (fun w' => w'.cell? ⟨g, m * 12, none⟩ = some d0 ∧ w'.cell? ⟨g, m * 12 + 1, none⟩ = some d1 ∧ w'.cell? ⟨g, m * 12 + 2, none⟩ = some d2 ∧ w'.cell? ⟨g, m * 12 + 3, none⟩ = some d3 ∧ w'.cell? ⟨g, m * 12 + 4, none⟩ = some d4 ∧ w'.cell? ⟨g, m * 12 + 5, none⟩ = some d5 ∧ w'.cell? ⟨g, m * 12 + 6, none⟩ = some d6 ∧ w'.cell? ⟨g, m * 12 + 7, none⟩ = some d7 ∧ w'.cell? ⟨g, m * 12 + 8, none⟩ = some d8 ∧ w'.cell? ⟨g, m * 12 + 9, none⟩ = some d9 ∧ w'.cell? ⟨g, m * 12 + 10, none⟩ = some d10 ∧ w'.cell? ⟨g, m * 12 + 11, none⟩ = some (.int .i64 N) ∧ w'.cell? ⟨b', o + k * 11, none⟩ = some c0 ∧ w'.cell? ⟨b', o + k * 11 + 1, none⟩ = some c1 ∧ w'.cell? ⟨b', o + k * 11 + 2, none⟩ = some c2 ∧ w'.cell? ⟨b', o + k * 11 + 3, none⟩ = some c3 ∧ w'.cell? ⟨b', o + k * 11 + 4, none⟩ = some c4 ∧ w'.cell? ⟨b', o + k * 11 + 5, none⟩ = some c5 ∧ w'.cell? ⟨b', o + k * 11 + 6, none⟩ = some c6 ∧ w'.cell? ⟨b', o + k * 11 + 7, none⟩ = some c7 ∧ w'.cell? ⟨b', o + k * 11 + 8, none⟩ = some c8 ∧ w'.cell? ⟨b', o + k * 11 + 9, none⟩ = some c9 ∧ w'.cell? ⟨b', o + k * 11 + 10, none⟩ = some c10)) (by kernel_rfl) ?_ (fun hHeld => ?_)
              · exact hSk.out _ (Below.refl wr.heap.size wr).drew
              refine wpAnyH_take (i := 0) (v := ?vi0) rfl (by kernel_rfl) (by kernel_rfl) (by kernel_rfl) (fun _ _ _ h => h) (.inl ⟨by rfl, ?hyi0⟩) (by assumption) ?resti0
              case hyi0 => (intro w hSw; (try dsimp only at hSw); go_simp; first | done | with_reducible rfl)
              (try simp only [Act.put, List.setIfInBounds_toArray, List.set_cons_zero, List.set_cons_succ, List.getElem_toArray, List.getElem_cons_zero, List.getElem_cons_succ])
              refine wpAnyH_take (i := 1) (v := ?vi1) rfl (by kernel_rfl) (by kernel_rfl) (by kernel_rfl) (fun _ _ _ h => h) (.inl ⟨by rfl, ?hyi1⟩) (by assumption) ?resti1
              case hyi1 => (intro w hSw; (try dsimp only at hSw); go_simp; first | done | with_reducible rfl)
              (try simp only [Act.put, List.setIfInBounds_toArray, List.set_cons_zero, List.set_cons_succ, List.getElem_toArray, List.getElem_cons_zero, List.getElem_cons_succ])
              refine wpAnyH_take (i := 2) (v := ?vi2) rfl (by kernel_rfl) (by kernel_rfl) (by kernel_rfl) (fun _ _ _ h => h) (.inl ⟨by rfl, ?hyi2⟩) (by assumption) ?resti2
              case hyi2 => (intro w hSw; (try dsimp only at hSw); go_simp; first | done | with_reducible rfl)
              (try simp only [Act.put, List.setIfInBounds_toArray, List.set_cons_zero, List.set_cons_succ, List.getElem_toArray, List.getElem_cons_zero, List.getElem_cons_succ])
              refine wpAnyH_take (i := 3) (v := ?vi3) rfl (by kernel_rfl) (by kernel_rfl) (by kernel_rfl) (fun _ _ _ h => h) (.inl ⟨by rfl, ?hyi3⟩) (by assumption) ?resti3
              case hyi3 => (intro w hSw; (try dsimp only at hSw); go_simp; first | done | with_reducible rfl)
              (try simp only [Act.put, List.setIfInBounds_toArray, List.set_cons_zero, List.set_cons_succ, List.getElem_toArray, List.getElem_cons_zero, List.getElem_cons_succ])
              refine wpAnyH_take (i := 4) (v := ?vi4) rfl (by kernel_rfl) (by kernel_rfl) (by kernel_rfl) (fun _ _ _ h => h) (.inl ⟨by rfl, ?hyi4⟩) (by assumption) ?resti4
              case hyi4 => (intro w hSw; (try dsimp only at hSw); go_simp; first | done | with_reducible rfl)
              (try simp only [Act.put, List.setIfInBounds_toArray, List.set_cons_zero, List.set_cons_succ, List.getElem_toArray, List.getElem_cons_zero, List.getElem_cons_succ])
              refine wpAnyH_take (i := 5) (v := ?vi5) rfl (by kernel_rfl) (by kernel_rfl) (by kernel_rfl) (fun _ _ _ h => h) (.inl ⟨by rfl, ?hyi5⟩) (by assumption) ?resti5
              case hyi5 => (intro w hSw; (try dsimp only at hSw); go_simp; first | done | with_reducible rfl)
              (try simp only [Act.put, List.setIfInBounds_toArray, List.set_cons_zero, List.set_cons_succ, List.getElem_toArray, List.getElem_cons_zero, List.getElem_cons_succ])
              refine wpAnyH_take (i := 6) (v := ?vi6) rfl (by kernel_rfl) (by kernel_rfl) (by kernel_rfl) (fun _ _ _ h => h) (.inl ⟨by rfl, ?hyi6⟩) (by assumption) ?resti6
              case hyi6 => (intro w hSw; (try dsimp only at hSw); go_simp; first | done | with_reducible rfl)
              (try simp only [Act.put, List.setIfInBounds_toArray, List.set_cons_zero, List.set_cons_succ, List.getElem_toArray, List.getElem_cons_zero, List.getElem_cons_succ])
              refine wpAnyH_take (i := 7) (v := ?vi7) rfl (by kernel_rfl) (by kernel_rfl) (by kernel_rfl) (fun _ _ _ h => h) (.inl ⟨by rfl, ?hyi7⟩) (by assumption) ?resti7
              case hyi7 => (intro w hSw; (try dsimp only at hSw); go_simp; first | done | with_reducible rfl)
              (try simp only [Act.put, List.setIfInBounds_toArray, List.set_cons_zero, List.set_cons_succ, List.getElem_toArray, List.getElem_cons_zero, List.getElem_cons_succ])
              refine wpAnyH_take (i := 8) (v := ?vi8) rfl (by kernel_rfl) (by kernel_rfl) (by kernel_rfl) (fun _ _ _ h => h) (.inl ⟨by rfl, ?hyi8⟩) (by assumption) ?resti8
              case hyi8 => (intro w hSw; (try dsimp only at hSw); go_simp; first | done | with_reducible rfl)
              (try simp only [Act.put, List.setIfInBounds_toArray, List.set_cons_zero, List.set_cons_succ, List.getElem_toArray, List.getElem_cons_zero, List.getElem_cons_succ])
              refine wpAnyH_take (i := 9) (v := ?vi9) rfl (by kernel_rfl) (by kernel_rfl) (by kernel_rfl) (fun _ _ _ h => h) (.inl ⟨by rfl, ?hyi9⟩) (by assumption) ?resti9
              case hyi9 => (intro w hSw; (try dsimp only at hSw); go_simp; first | done | with_reducible rfl)
              (try simp only [Act.put, List.setIfInBounds_toArray, List.set_cons_zero, List.set_cons_succ, List.getElem_toArray, List.getElem_cons_zero, List.getElem_cons_succ])
              refine wpAnyH_take (i := 10) (v := ?vi10) rfl (by kernel_rfl) (by kernel_rfl) (by kernel_rfl) (fun _ _ _ h => h) (.inl ⟨by rfl, ?hyi10⟩) (by assumption) ?resti10
              case hyi10 => (intro w hSw; (try dsimp only at hSw); go_simp; first | done | with_reducible rfl)
              (try simp only [Act.put, List.setIfInBounds_toArray, List.set_cons_zero, List.set_cons_succ, List.getElem_toArray, List.getElem_cons_zero, List.getElem_cons_succ])
              refine wpAnyH_take (i := 11) (v := ?vi11) rfl (by kernel_rfl) (by kernel_rfl) (by kernel_rfl) (fun _ _ _ h => h) (.inl ⟨by rfl, ?hyi11⟩) (by assumption) ?resti11
              case hyi11 => (intro w hSw; (try dsimp only at hSw); go_simp; first | done | with_reducible rfl)
              (try simp only [Act.put, List.setIfInBounds_toArray, List.set_cons_zero, List.set_cons_succ, List.getElem_toArray, List.getElem_cons_zero, List.getElem_cons_succ])
              refine wpAnyH_take (i := 12) (v := ?vi12) rfl (by kernel_rfl) (by kernel_rfl) (by kernel_rfl) (fun _ _ _ h => h) (.inl ⟨by rfl, ?hyi12⟩) (by assumption) ?resti12
              case hyi12 => (intro w hSw; (try dsimp only at hSw); go_simp; first | done | with_reducible rfl)
              (try simp only [Act.put, List.setIfInBounds_toArray, List.set_cons_zero, List.set_cons_succ, List.getElem_toArray, List.getElem_cons_zero, List.getElem_cons_succ])
              refine wpAnyH_take (i := 13) (v := ?vi13) rfl (by kernel_rfl) (by kernel_rfl) (by kernel_rfl) (fun _ _ _ h => h) (.inl ⟨by rfl, ?hyi13⟩) (by assumption) ?resti13
              case hyi13 => (intro w hSw; (try dsimp only at hSw); go_simp; first | done | with_reducible rfl)
              (try simp only [Act.put, List.setIfInBounds_toArray, List.set_cons_zero, List.set_cons_succ, List.getElem_toArray, List.getElem_cons_zero, List.getElem_cons_succ])
              refine wpAnyH_ready (rs := [14]) (by kernel_rfl) (by simp) ?_
              refine AllReadyH.cons rfl (fun K hK => ?_) AllReadyH.nil
              rw [if_pos (by rfl)]
              go_simp
              refine (hcmp.out _ (Below.refl wr.heap.size wr).drew).mono ?_
              rintro e w4 ⟨rfl, hw4⟩
              refine hK.out _ _ ?_ (fun hHeld2 => ?_)
              · exact hSk.out _ ((Below.refl wr.heap.size wr).drew.trans (below_le hw4 (Below.refl wr.heap.size wr).drew.size))
              clear hK K
              (try simp only [Act.put, List.setIfInBounds_toArray, List.set_cons_zero, List.set_cons_succ, List.getElem_toArray, List.getElem_cons_zero, List.getElem_cons_succ])
              refine wpAnyH_take (i := 15) (v := ?vi15) rfl (by kernel_rfl) (by kernel_rfl) (by kernel_rfl) (fun _ _ _ h => h) (.inl ⟨by rfl, ?hyi15⟩) (by assumption) ?resti15
              case hyi15 => (intro w hSw; (try dsimp only at hSw); go_simp; first | done | with_reducible rfl)
              (try simp only [Act.put, List.setIfInBounds_toArray, List.set_cons_zero, List.set_cons_succ, List.getElem_toArray, List.getElem_cons_zero, List.getElem_cons_succ])
              refine wpAnyH_take (i := 16) (v := ?vi16) rfl (by kernel_rfl) (by kernel_rfl) (by kernel_rfl) (fun _ _ _ h => h) (.inl ⟨by rfl, ?hyi16⟩) (by assumption) ?resti16
              case hyi16 => (intro w hSw; (try dsimp only at hSw); go_simp; first | done | with_reducible rfl)
              (try simp only [Act.put, List.setIfInBounds_toArray, List.set_cons_zero, List.set_cons_succ, List.getElem_toArray, List.getElem_cons_zero, List.getElem_cons_succ])
              refine wpAnyH_done (by kernel_rfl) ?_ _
              have h5 : Hid (Below wr.heap.size wr w4) := Lib.hid ((Below.refl wr.heap.size wr).drew.trans (below_le hw4 (Below.refl wr.heap.size wr).drew.size))
              clear hw4
              by_cases hr0 : r < 0
              · go_wp2_with fail
                go_roundw
                case rel => exact ⟨m + 1, by omega, by go_num, fun t' p ht' hp' => by
                  rcases Nat.lt_or_eq_of_le (Nat.le_of_lt_succ ht') with h | rfl
                  · exact hloH.out t' p h hp'
                  · rw [hpmH.out] at hp'
                    obtain rfl := Option.some.inj hp'
                    show cmpV (builtV u) (builtV t) < 0
                    rw [← hrH.out]; exact hr0, hb1H.out.trans (below_le h5.out hb1H.out.size)⟩
                case measure => simp [intOf]; omega
              · go_wp2_with fail
                refine wp_region_held_drew (S := (fun w' => w'.cell? ⟨g, m * 12, none⟩ = some d0 ∧ w'.cell? ⟨g, m * 12 + 1, none⟩ = some d1 ∧ w'.cell? ⟨g, m * 12 + 2, none⟩ = some d2 ∧ w'.cell? ⟨g, m * 12 + 3, none⟩ = some d3 ∧ w'.cell? ⟨g, m * 12 + 4, none⟩ = some d4 ∧ w'.cell? ⟨g, m * 12 + 5, none⟩ = some d5 ∧ w'.cell? ⟨g, m * 12 + 6, none⟩ = some d6 ∧ w'.cell? ⟨g, m * 12 + 7, none⟩ = some d7 ∧ w'.cell? ⟨g, m * 12 + 8, none⟩ = some d8 ∧ w'.cell? ⟨g, m * 12 + 9, none⟩ = some d9 ∧ w'.cell? ⟨g, m * 12 + 10, none⟩ = some d10 ∧ w'.cell? ⟨g, m * 12 + 11, none⟩ = some (.int .i64 N) ∧ w'.cell? ⟨b', o + k * 11, none⟩ = some c0 ∧ w'.cell? ⟨b', o + k * 11 + 1, none⟩ = some c1 ∧ w'.cell? ⟨b', o + k * 11 + 2, none⟩ = some c2 ∧ w'.cell? ⟨b', o + k * 11 + 3, none⟩ = some c3 ∧ w'.cell? ⟨b', o + k * 11 + 4, none⟩ = some c4 ∧ w'.cell? ⟨b', o + k * 11 + 5, none⟩ = some c5 ∧ w'.cell? ⟨b', o + k * 11 + 6, none⟩ = some c6 ∧ w'.cell? ⟨b', o + k * 11 + 7, none⟩ = some c7 ∧ w'.cell? ⟨b', o + k * 11 + 8, none⟩ = some c8 ∧ w'.cell? ⟨b', o + k * 11 + 9, none⟩ = some c9 ∧ w'.cell? ⟨b', o + k * 11 + 10, none⟩ = some c10)) (by kernel_rfl) ?_ (fun hHeld => ?_)
                · exact hSk.out _ h5.out.drew
                refine wpAnyH_take (i := 0) (v := ?vj0) rfl (by kernel_rfl) (by kernel_rfl) (by kernel_rfl) (fun _ _ _ h => h) (.inl ⟨by rfl, ?hyj0⟩) (by assumption) ?restj0
                case hyj0 => (intro w hSw; (try dsimp only at hSw); go_simp; first | done | with_reducible rfl)
                (try simp only [Act.put, List.setIfInBounds_toArray, List.set_cons_zero, List.set_cons_succ, List.getElem_toArray, List.getElem_cons_zero, List.getElem_cons_succ])
                refine wpAnyH_take (i := 1) (v := ?vj1) rfl (by kernel_rfl) (by kernel_rfl) (by kernel_rfl) (fun _ _ _ h => h) (.inl ⟨by rfl, ?hyj1⟩) (by assumption) ?restj1
                case hyj1 => (intro w hSw; (try dsimp only at hSw); go_simp; first | done | with_reducible rfl)
                (try simp only [Act.put, List.setIfInBounds_toArray, List.set_cons_zero, List.set_cons_succ, List.getElem_toArray, List.getElem_cons_zero, List.getElem_cons_succ])
                refine wpAnyH_take (i := 2) (v := ?vj2) rfl (by kernel_rfl) (by kernel_rfl) (by kernel_rfl) (fun _ _ _ h => h) (.inl ⟨by rfl, ?hyj2⟩) (by assumption) ?restj2
                case hyj2 => (intro w hSw; (try dsimp only at hSw); go_simp; first | done | with_reducible rfl)
                (try simp only [Act.put, List.setIfInBounds_toArray, List.set_cons_zero, List.set_cons_succ, List.getElem_toArray, List.getElem_cons_zero, List.getElem_cons_succ])
                refine wpAnyH_take (i := 3) (v := ?vj3) rfl (by kernel_rfl) (by kernel_rfl) (by kernel_rfl) (fun _ _ _ h => h) (.inl ⟨by rfl, ?hyj3⟩) (by assumption) ?restj3
                case hyj3 => (intro w hSw; (try dsimp only at hSw); go_simp; first | done | with_reducible rfl)
                (try simp only [Act.put, List.setIfInBounds_toArray, List.set_cons_zero, List.set_cons_succ, List.getElem_toArray, List.getElem_cons_zero, List.getElem_cons_succ])
                refine wpAnyH_take (i := 4) (v := ?vj4) rfl (by kernel_rfl) (by kernel_rfl) (by kernel_rfl) (fun _ _ _ h => h) (.inl ⟨by rfl, ?hyj4⟩) (by assumption) ?restj4
                case hyj4 => (intro w hSw; (try dsimp only at hSw); go_simp; first | done | with_reducible rfl)
                (try simp only [Act.put, List.setIfInBounds_toArray, List.set_cons_zero, List.set_cons_succ, List.getElem_toArray, List.getElem_cons_zero, List.getElem_cons_succ])
                refine wpAnyH_take (i := 5) (v := ?vj5) rfl (by kernel_rfl) (by kernel_rfl) (by kernel_rfl) (fun _ _ _ h => h) (.inl ⟨by rfl, ?hyj5⟩) (by assumption) ?restj5
                case hyj5 => (intro w hSw; (try dsimp only at hSw); go_simp; first | done | with_reducible rfl)
                (try simp only [Act.put, List.setIfInBounds_toArray, List.set_cons_zero, List.set_cons_succ, List.getElem_toArray, List.getElem_cons_zero, List.getElem_cons_succ])
                refine wpAnyH_take (i := 6) (v := ?vj6) rfl (by kernel_rfl) (by kernel_rfl) (by kernel_rfl) (fun _ _ _ h => h) (.inl ⟨by rfl, ?hyj6⟩) (by assumption) ?restj6
                case hyj6 => (intro w hSw; (try dsimp only at hSw); go_simp; first | done | with_reducible rfl)
                (try simp only [Act.put, List.setIfInBounds_toArray, List.set_cons_zero, List.set_cons_succ, List.getElem_toArray, List.getElem_cons_zero, List.getElem_cons_succ])
                refine wpAnyH_take (i := 7) (v := ?vj7) rfl (by kernel_rfl) (by kernel_rfl) (by kernel_rfl) (fun _ _ _ h => h) (.inl ⟨by rfl, ?hyj7⟩) (by assumption) ?restj7
                case hyj7 => (intro w hSw; (try dsimp only at hSw); go_simp; first | done | with_reducible rfl)
                (try simp only [Act.put, List.setIfInBounds_toArray, List.set_cons_zero, List.set_cons_succ, List.getElem_toArray, List.getElem_cons_zero, List.getElem_cons_succ])
                refine wpAnyH_take (i := 8) (v := ?vj8) rfl (by kernel_rfl) (by kernel_rfl) (by kernel_rfl) (fun _ _ _ h => h) (.inl ⟨by rfl, ?hyj8⟩) (by assumption) ?restj8
                case hyj8 => (intro w hSw; (try dsimp only at hSw); go_simp; first | done | with_reducible rfl)
                (try simp only [Act.put, List.setIfInBounds_toArray, List.set_cons_zero, List.set_cons_succ, List.getElem_toArray, List.getElem_cons_zero, List.getElem_cons_succ])
                refine wpAnyH_take (i := 9) (v := ?vj9) rfl (by kernel_rfl) (by kernel_rfl) (by kernel_rfl) (fun _ _ _ h => h) (.inl ⟨by rfl, ?hyj9⟩) (by assumption) ?restj9
                case hyj9 => (intro w hSw; (try dsimp only at hSw); go_simp; first | done | with_reducible rfl)
                (try simp only [Act.put, List.setIfInBounds_toArray, List.set_cons_zero, List.set_cons_succ, List.getElem_toArray, List.getElem_cons_zero, List.getElem_cons_succ])
                refine wpAnyH_take (i := 10) (v := ?vj10) rfl (by kernel_rfl) (by kernel_rfl) (by kernel_rfl) (fun _ _ _ h => h) (.inl ⟨by rfl, ?hyj10⟩) (by assumption) ?restj10
                case hyj10 => (intro w hSw; (try dsimp only at hSw); go_simp; first | done | with_reducible rfl)
                (try simp only [Act.put, List.setIfInBounds_toArray, List.set_cons_zero, List.set_cons_succ, List.getElem_toArray, List.getElem_cons_zero, List.getElem_cons_succ])
                refine wpAnyH_take (i := 11) (v := ?vj11) rfl (by kernel_rfl) (by kernel_rfl) (by kernel_rfl) (fun _ _ _ h => h) (.inl ⟨by rfl, ?hyj11⟩) (by assumption) ?restj11
                case hyj11 => (intro w hSw; (try dsimp only at hSw); go_simp; first | done | with_reducible rfl)
                (try simp only [Act.put, List.setIfInBounds_toArray, List.set_cons_zero, List.set_cons_succ, List.getElem_toArray, List.getElem_cons_zero, List.getElem_cons_succ])
                refine wpAnyH_take (i := 12) (v := ?vj12) rfl (by kernel_rfl) (by kernel_rfl) (by kernel_rfl) (fun _ _ _ h => h) (.inl ⟨by rfl, ?hyj12⟩) (by assumption) ?restj12
                case hyj12 => (intro w hSw; (try dsimp only at hSw); go_simp; first | done | with_reducible rfl)
                (try simp only [Act.put, List.setIfInBounds_toArray, List.set_cons_zero, List.set_cons_succ, List.getElem_toArray, List.getElem_cons_zero, List.getElem_cons_succ])
                refine wpAnyH_take (i := 13) (v := ?vj13) rfl (by kernel_rfl) (by kernel_rfl) (by kernel_rfl) (fun _ _ _ h => h) (.inl ⟨by rfl, ?hyj13⟩) (by assumption) ?restj13
                case hyj13 => (intro w hSw; (try dsimp only at hSw); go_simp; first | done | with_reducible rfl)
                (try simp only [Act.put, List.setIfInBounds_toArray, List.set_cons_zero, List.set_cons_succ, List.getElem_toArray, List.getElem_cons_zero, List.getElem_cons_succ])
                refine wpAnyH_ready (rs := [14]) (by kernel_rfl) (by simp) ?_
                refine AllReadyH.cons rfl (fun K hK => ?_) AllReadyH.nil
                rw [if_pos (by rfl)]
                go_simp
                refine (hcmp.out _ h5.out.drew).mono ?_
                rintro e w5 ⟨rfl, hw5⟩
                refine hK.out _ _ ?_ (fun hHeld2 => ?_)
                · exact hSk.out _ (h5.out.drew.trans (below_le hw5 h5.out.drew.size))
                clear hK K
                (try simp only [Act.put, List.setIfInBounds_toArray, List.set_cons_zero, List.set_cons_succ, List.getElem_toArray, List.getElem_cons_zero, List.getElem_cons_succ])
                refine wpAnyH_take (i := 15) (v := ?vj15) rfl (by kernel_rfl) (by kernel_rfl) (by kernel_rfl) (fun _ _ _ h => h) (.inl ⟨by rfl, ?hyj15⟩) (by assumption) ?restj15
                case hyj15 => (intro w hSw; (try dsimp only at hSw); go_simp; first | done | with_reducible rfl)
                (try simp only [Act.put, List.setIfInBounds_toArray, List.set_cons_zero, List.set_cons_succ, List.getElem_toArray, List.getElem_cons_zero, List.getElem_cons_succ])
                refine wpAnyH_take (i := 16) (v := ?vj16) rfl (by kernel_rfl) (by kernel_rfl) (by kernel_rfl) (fun _ _ _ h => h) (.inl ⟨by rfl, ?hyj16⟩) (by assumption) ?restj16
                case hyj16 => (intro w hSw; (try dsimp only at hSw); go_simp; first | done | with_reducible rfl)
                (try simp only [Act.put, List.setIfInBounds_toArray, List.set_cons_zero, List.set_cons_succ, List.getElem_toArray, List.getElem_cons_zero, List.getElem_cons_succ])
                refine wpAnyH_done (by kernel_rfl) ?_ _
                have h6 : Hid (Below wr.heap.size wr w5) := Lib.hid (h5.out.drew.trans (below_le hw5 h5.out.drew.size))
                have h61 : Hid (Below w1.heap.size w1 w5) := Lib.hid (hb1H.out.trans (below_le h6.out hb1H.out.size))
                have hbB : Hid (Below B w w5) := Lib.hid (hbH.out.trans (h61.out.mono hBw1))
                have hrow5 := Lib.hid (ownsRow_keep hrowH.out (fun b hb' => h61.out.block b ((ownsRow_lt hrowH.out b hb').2)))
                clear hw5
                have hins := Lib.hid (insV_here hloH.out hpmH.out (by show ¬ cmpV (builtV u) (builtV t) < 0; rw [← hrH.out]; omega))
                by_cases hr1 : r = 0
                · have hN : w5.cell? ⟨g, m * 12 + 11, none⟩ = some (.int .i64 N) := (hSk.out w5 h6.out).2.2.2.2.2.2.2.2.2.2.2.1
                  have hfr : w5.frozen? ⟨g, m * 12 + 11, none⟩ = false := by
                    obtain ⟨-, ⟨h, -⟩ | ⟨g', cap', cur', h, -, hc', -⟩⟩ := hrow5.out
                    · cases h
                    · simp only [Value.slice.injEq, Option.some.injEq, Addr.mk.injEq] at h
                      rw [h.1.1]; simp [World.frozen?, hc']
                  have hNb := groupV_le ((l.map builtV).take k) (builtV u, N) (by rw [← hbareH.out]; exact List.mem_of_getElem? (bareR_at hpmH.out))
                  have hlk : ((l.map builtV).take k).length ≤ l.length := by rw [List.length_take]; have := hlmH.out; omega
                  simp only at hNb
                  have hw : IntKind.i64.wrap (N + 1) = N + 1 := by rw [IntKind.wrap_i64]; omega
                  have hbump := Lib.hid (rowR_bump hrow5.out hrsH.out.eleven hpmH.out rfl)
                  go_wp2_with fail
                  go_roundw
                  case rel => exact ⟨k + 1, _, bumpR ps m _, rfl, by omega, by go_num, hbump.out.1, bumpR_ok hrsH.out hpmH.out, by rw [← hins.out.1 (by show cmpV (builtV u) (builtV t) = 0; rw [← hrH.out]; exact hr1), hbareH.out, hsnoc.out], hbump.out.2 w hbB.out, ⟨g, rfl⟩⟩
                  case measure => simp [intOf]; omega
                · obtain ⟨v1, W1, v2, W2, v3, W3, ⟨r1, r2, r3⟩, hW1, hW3, hv1, hv2, hv3, hv3o, hrow3⟩ := rput_said hrow5.out hrsH.out.eleven (flatR_ones hrsH.out) (show m ≤ ps.length by omega) hplm [c0, c1, c2, c3, c4, c5, c6, c7, c8, c9, c10] rfl (TRep.ones ht0H.out) t
                  obtain ⟨p0, p1, p2, p3, p4, p5, p6, p7, p8, p9, p10⟩ := hqH.out
                  have q0 := keeps_of_below (h61.out.trans (below_le hW1 h61.out.size)) _ _ p0
                  have q1 := keeps_of_below (h61.out.trans (below_le hW1 h61.out.size)) _ _ p1
                  have q2 := keeps_of_below (h61.out.trans (below_le hW1 h61.out.size)) _ _ p2
                  have q3 := keeps_of_below (h61.out.trans (below_le hW1 h61.out.size)) _ _ p3
                  have q4 := keeps_of_below (h61.out.trans (below_le hW1 h61.out.size)) _ _ p4
                  have q5 := keeps_of_below (h61.out.trans (below_le hW1 h61.out.size)) _ _ p5
                  have q6 := keeps_of_below (h61.out.trans (below_le hW1 h61.out.size)) _ _ p6
                  have q7 := keeps_of_below (h61.out.trans (below_le hW1 h61.out.size)) _ _ p7
                  have q8 := keeps_of_below (h61.out.trans (below_le hW1 h61.out.size)) _ _ p8
                  have q9 := keeps_of_below (h61.out.trans (below_le hW1 h61.out.size)) _ _ p9
                  have q10 := keeps_of_below (h61.out.trans (below_le hW1 h61.out.size)) _ _ p10
                  have hbW3 := Lib.hid (hbB.out.trans (hW3.mono (by have := hbB.out.size; have := h61.out.size; omega)))
                  simp only [List.cons_append, List.nil_append] at r2
                  have hrow3H := Lib.hid (hrow3.mono (base' := B) (by have := h61.out.size; omega))
                  have hv3oH := Lib.hid hv3o
                  have hputH := Lib.hid (show bareR (ps.take m ++ ([c0, c1, c2, c3, c4, c5, c6, c7, c8, c9, c10], t, 1) :: ps.drop m) = groupV ((l.map builtV).take (k + 1)) by rw [hsnoc.out, ← hbareH.out]; exact (hins.out.2 (by show cmpV (builtV u) (builtV t) ≠ 0; rw [← hrH.out]; exact hr1) _ t rfl).symm)
                  clear hrow3 hv3o hW1 hW3 p0 p1 p2 p3 p4 p5 p6 p7 p8 p9 p10
                  have hck : ¬ scap = m := by omega
                  rw [if_neg hck] at r3
                  have r1H := Lib.hid r1
                  have r2H := Lib.hid r2
                  have r3H := Lib.hid r3
                  clear r1 r2 r3
                  go_wp2_with (first | (at_builtin; refine Lib.wpList_append_run _ rfl _ _ _ _ rfl _ _ rfl rfl _ _ r1H.out ?_) | (at_builtin; refine Lib.wpList_append_run _ rfl _ _ _ _ rfl _ _ rfl rfl _ _ r2H.out ?_) | (at_builtin; refine Lib.wpList_append_run _ rfl _ _ _ _ rfl _ _ rfl rfl _ _ r3H.out ?_))
                  go_roundw
                  case rel => exact ⟨k + 1, _, _, rfl, by omega, by go_num, hrow3H.out, putR_ok hrsH.out ht0H.out, hputH.out, hbW3.out, hv3oH.out⟩
                  case measure => simp [intOf]; omega
            · obtain rfl : m = ps.length := by omega
              go_wp2_with fail
              refine wp_region_held_drew (S := (fun _ => True)) (by kernel_rfl) ?_ (fun hHeld => ?_)
              · trivial
              refine wpAnyH_take (i := 0) (v := ?vx0) rfl (by kernel_rfl) (by kernel_rfl) (by kernel_rfl) (fun _ _ _ h => h) (.inl ⟨by rfl, ?hyx0⟩) (by assumption) ?restx0
              case hyx0 => (intro w hSw; (try dsimp only at hSw); go_simp; first | done | with_reducible rfl)
              (try simp only [Act.put, List.setIfInBounds_toArray, List.set_cons_zero, List.set_cons_succ, List.getElem_toArray, List.getElem_cons_zero, List.getElem_cons_succ])
              refine wpAnyH_take (i := 1) (v := ?vx1) rfl (by kernel_rfl) (by kernel_rfl) (by kernel_rfl) (fun _ _ _ h => h) (.inl ⟨by rfl, ?hyx1⟩) (by assumption) ?restx1
              case hyx1 => (intro w hSw; (try dsimp only at hSw); go_simp; first | done | with_reducible rfl)
              (try simp only [Act.put, List.setIfInBounds_toArray, List.set_cons_zero, List.set_cons_succ, List.getElem_toArray, List.getElem_cons_zero, List.getElem_cons_succ])
              refine wpAnyH_take (i := 2) (v := ?vx2) rfl (by kernel_rfl) (by kernel_rfl) (by kernel_rfl) (fun _ _ _ h => h) (.inl ⟨by rfl, ?hyx2⟩) (by assumption) ?restx2
              case hyx2 => (intro w hSw; (try dsimp only at hSw); go_simp; first | done | with_reducible rfl)
              (try simp only [Act.put, List.setIfInBounds_toArray, List.set_cons_zero, List.set_cons_succ, List.getElem_toArray, List.getElem_cons_zero, List.getElem_cons_succ])
              refine wpAnyH_take (i := 3) (v := ?vx3) rfl (by kernel_rfl) (by kernel_rfl) (by kernel_rfl) (fun _ _ _ h => h) (.inl ⟨by rfl, ?hyx3⟩) (by assumption) ?restx3
              case hyx3 => (intro w hSw; (try dsimp only at hSw); go_simp; first | done | with_reducible rfl)
              (try simp only [Act.put, List.setIfInBounds_toArray, List.set_cons_zero, List.set_cons_succ, List.getElem_toArray, List.getElem_cons_zero, List.getElem_cons_succ])
              refine wpAnyH_take (i := 4) (v := ?vx4) rfl (by kernel_rfl) (by kernel_rfl) (by kernel_rfl) (fun _ _ _ h => h) (.inl ⟨by rfl, ?hyx4⟩) (by assumption) ?restx4
              case hyx4 => (intro w hSw; (try dsimp only at hSw); go_simp; first | done | with_reducible rfl)
              (try simp only [Act.put, List.setIfInBounds_toArray, List.set_cons_zero, List.set_cons_succ, List.getElem_toArray, List.getElem_cons_zero, List.getElem_cons_succ])
              refine wpAnyH_take (i := 5) (v := undef) rfl (by kernel_rfl) (by kernel_rfl) (by kernel_rfl) (fun _ _ _ h => h) (.inr ⟨by rfl, rfl⟩) (by assumption) ?_
              (try simp only [Act.put, List.setIfInBounds_toArray, List.set_cons_zero, List.set_cons_succ, List.getElem_toArray, List.getElem_cons_zero, List.getElem_cons_succ])
              refine wpAnyH_take (i := 6) (v := undef) rfl (by kernel_rfl) (by kernel_rfl) (by kernel_rfl) (fun _ _ _ h => h) (.inr ⟨by rfl, rfl⟩) (by assumption) ?_
              (try simp only [Act.put, List.setIfInBounds_toArray, List.set_cons_zero, List.set_cons_succ, List.getElem_toArray, List.getElem_cons_zero, List.getElem_cons_succ])
              refine wpAnyH_take (i := 7) (v := undef) rfl (by kernel_rfl) (by kernel_rfl) (by kernel_rfl) (fun _ _ _ h => h) (.inr ⟨by rfl, rfl⟩) (by assumption) ?_
              (try simp only [Act.put, List.setIfInBounds_toArray, List.set_cons_zero, List.set_cons_succ, List.getElem_toArray, List.getElem_cons_zero, List.getElem_cons_succ])
              refine wpAnyH_take (i := 8) (v := undef) rfl (by kernel_rfl) (by kernel_rfl) (by kernel_rfl) (fun _ _ _ h => h) (.inr ⟨by rfl, rfl⟩) (by assumption) ?_
              (try simp only [Act.put, List.setIfInBounds_toArray, List.set_cons_zero, List.set_cons_succ, List.getElem_toArray, List.getElem_cons_zero, List.getElem_cons_succ])
              refine wpAnyH_take (i := 9) (v := undef) rfl (by kernel_rfl) (by kernel_rfl) (by kernel_rfl) (fun _ _ _ h => h) (.inr ⟨by rfl, rfl⟩) (by assumption) ?_
              (try simp only [Act.put, List.setIfInBounds_toArray, List.set_cons_zero, List.set_cons_succ, List.getElem_toArray, List.getElem_cons_zero, List.getElem_cons_succ])
              refine wpAnyH_take (i := 10) (v := undef) rfl (by kernel_rfl) (by kernel_rfl) (by kernel_rfl) (fun _ _ _ h => h) (.inr ⟨by rfl, rfl⟩) (by assumption) ?_
              (try simp only [Act.put, List.setIfInBounds_toArray, List.set_cons_zero, List.set_cons_succ, List.getElem_toArray, List.getElem_cons_zero, List.getElem_cons_succ])
              refine wpAnyH_take (i := 11) (v := undef) rfl (by kernel_rfl) (by kernel_rfl) (by kernel_rfl) (fun _ _ _ h => h) (.inr ⟨by rfl, rfl⟩) (by assumption) ?_
              (try simp only [Act.put, List.setIfInBounds_toArray, List.set_cons_zero, List.set_cons_succ, List.getElem_toArray, List.getElem_cons_zero, List.getElem_cons_succ])
              refine wpAnyH_take (i := 12) (v := undef) rfl (by kernel_rfl) (by kernel_rfl) (by kernel_rfl) (fun _ _ _ h => h) (.inr ⟨by rfl, rfl⟩) (by assumption) ?_
              (try simp only [Act.put, List.setIfInBounds_toArray, List.set_cons_zero, List.set_cons_succ, List.getElem_toArray, List.getElem_cons_zero, List.getElem_cons_succ])
              refine wpAnyH_take (i := 13) (v := undef) rfl (by kernel_rfl) (by kernel_rfl) (by kernel_rfl) (fun _ _ _ h => h) (.inr ⟨by rfl, rfl⟩) (by assumption) ?_
              (try simp only [Act.put, List.setIfInBounds_toArray, List.set_cons_zero, List.set_cons_succ, List.getElem_toArray, List.getElem_cons_zero, List.getElem_cons_succ])
              refine wpAnyH_take (i := 14) (v := undef) rfl (by kernel_rfl) (by kernel_rfl) (by kernel_rfl) (fun _ _ _ h => h) (.inr ⟨by rfl, rfl⟩) (by assumption) ?_
              (try simp only [Act.put, List.setIfInBounds_toArray, List.set_cons_zero, List.set_cons_succ, List.getElem_toArray, List.getElem_cons_zero, List.getElem_cons_succ])
              refine wpAnyH_take (i := 15) (v := undef) rfl (by kernel_rfl) (by kernel_rfl) (by kernel_rfl) (fun _ _ _ h => h) (.inr ⟨by rfl, rfl⟩) (by assumption) ?_
              (try simp only [Act.put, List.setIfInBounds_toArray, List.set_cons_zero, List.set_cons_succ, List.getElem_toArray, List.getElem_cons_zero, List.getElem_cons_succ])
              refine wpAnyH_take (i := 16) (v := ?vx16) rfl (by kernel_rfl) (by kernel_rfl) (by kernel_rfl) (fun _ _ _ h => h) (.inl ⟨by rfl, ?hyx16⟩) (by assumption) ?restx16
              case hyx16 => (intro w hSw; (try dsimp only at hSw); go_simp; first | done | with_reducible rfl)
              (try simp only [Act.put, List.setIfInBounds_toArray, List.set_cons_zero, List.set_cons_succ, List.getElem_toArray, List.getElem_cons_zero, List.getElem_cons_succ])
              refine wpAnyH_done (by kernel_rfl) ?_ _
              go_wp2_with fail
              refine wp_region_held_drew (S := (fun _ => True)) (by kernel_rfl) ?_ (fun hHeld => ?_)
              · trivial
              refine wpAnyH_take (i := 0) (v := ?vy0) rfl (by kernel_rfl) (by kernel_rfl) (by kernel_rfl) (fun _ _ _ h => h) (.inl ⟨by rfl, ?hyy0⟩) (by assumption) ?resty0
              case hyy0 => (intro w hSw; (try dsimp only at hSw); go_simp; first | done | with_reducible rfl)
              (try simp only [Act.put, List.setIfInBounds_toArray, List.set_cons_zero, List.set_cons_succ, List.getElem_toArray, List.getElem_cons_zero, List.getElem_cons_succ])
              refine wpAnyH_take (i := 1) (v := ?vy1) rfl (by kernel_rfl) (by kernel_rfl) (by kernel_rfl) (fun _ _ _ h => h) (.inl ⟨by rfl, ?hyy1⟩) (by assumption) ?resty1
              case hyy1 => (intro w hSw; (try dsimp only at hSw); go_simp; first | done | with_reducible rfl)
              (try simp only [Act.put, List.setIfInBounds_toArray, List.set_cons_zero, List.set_cons_succ, List.getElem_toArray, List.getElem_cons_zero, List.getElem_cons_succ])
              refine wpAnyH_take (i := 2) (v := ?vy2) rfl (by kernel_rfl) (by kernel_rfl) (by kernel_rfl) (fun _ _ _ h => h) (.inl ⟨by rfl, ?hyy2⟩) (by assumption) ?resty2
              case hyy2 => (intro w hSw; (try dsimp only at hSw); go_simp; first | done | with_reducible rfl)
              (try simp only [Act.put, List.setIfInBounds_toArray, List.set_cons_zero, List.set_cons_succ, List.getElem_toArray, List.getElem_cons_zero, List.getElem_cons_succ])
              refine wpAnyH_take (i := 3) (v := ?vy3) rfl (by kernel_rfl) (by kernel_rfl) (by kernel_rfl) (fun _ _ _ h => h) (.inl ⟨by rfl, ?hyy3⟩) (by assumption) ?resty3
              case hyy3 => (intro w hSw; (try dsimp only at hSw); go_simp; first | done | with_reducible rfl)
              (try simp only [Act.put, List.setIfInBounds_toArray, List.set_cons_zero, List.set_cons_succ, List.getElem_toArray, List.getElem_cons_zero, List.getElem_cons_succ])
              refine wpAnyH_take (i := 4) (v := ?vy4) rfl (by kernel_rfl) (by kernel_rfl) (by kernel_rfl) (fun _ _ _ h => h) (.inl ⟨by rfl, ?hyy4⟩) (by assumption) ?resty4
              case hyy4 => (intro w hSw; (try dsimp only at hSw); go_simp; first | done | with_reducible rfl)
              (try simp only [Act.put, List.setIfInBounds_toArray, List.set_cons_zero, List.set_cons_succ, List.getElem_toArray, List.getElem_cons_zero, List.getElem_cons_succ])
              refine wpAnyH_take (i := 5) (v := undef) rfl (by kernel_rfl) (by kernel_rfl) (by kernel_rfl) (fun _ _ _ h => h) (.inr ⟨by rfl, rfl⟩) (by assumption) ?_
              (try simp only [Act.put, List.setIfInBounds_toArray, List.set_cons_zero, List.set_cons_succ, List.getElem_toArray, List.getElem_cons_zero, List.getElem_cons_succ])
              refine wpAnyH_take (i := 6) (v := undef) rfl (by kernel_rfl) (by kernel_rfl) (by kernel_rfl) (fun _ _ _ h => h) (.inr ⟨by rfl, rfl⟩) (by assumption) ?_
              (try simp only [Act.put, List.setIfInBounds_toArray, List.set_cons_zero, List.set_cons_succ, List.getElem_toArray, List.getElem_cons_zero, List.getElem_cons_succ])
              refine wpAnyH_take (i := 7) (v := undef) rfl (by kernel_rfl) (by kernel_rfl) (by kernel_rfl) (fun _ _ _ h => h) (.inr ⟨by rfl, rfl⟩) (by assumption) ?_
              (try simp only [Act.put, List.setIfInBounds_toArray, List.set_cons_zero, List.set_cons_succ, List.getElem_toArray, List.getElem_cons_zero, List.getElem_cons_succ])
              refine wpAnyH_take (i := 8) (v := undef) rfl (by kernel_rfl) (by kernel_rfl) (by kernel_rfl) (fun _ _ _ h => h) (.inr ⟨by rfl, rfl⟩) (by assumption) ?_
              (try simp only [Act.put, List.setIfInBounds_toArray, List.set_cons_zero, List.set_cons_succ, List.getElem_toArray, List.getElem_cons_zero, List.getElem_cons_succ])
              refine wpAnyH_take (i := 9) (v := undef) rfl (by kernel_rfl) (by kernel_rfl) (by kernel_rfl) (fun _ _ _ h => h) (.inr ⟨by rfl, rfl⟩) (by assumption) ?_
              (try simp only [Act.put, List.setIfInBounds_toArray, List.set_cons_zero, List.set_cons_succ, List.getElem_toArray, List.getElem_cons_zero, List.getElem_cons_succ])
              refine wpAnyH_take (i := 10) (v := undef) rfl (by kernel_rfl) (by kernel_rfl) (by kernel_rfl) (fun _ _ _ h => h) (.inr ⟨by rfl, rfl⟩) (by assumption) ?_
              (try simp only [Act.put, List.setIfInBounds_toArray, List.set_cons_zero, List.set_cons_succ, List.getElem_toArray, List.getElem_cons_zero, List.getElem_cons_succ])
              refine wpAnyH_take (i := 11) (v := undef) rfl (by kernel_rfl) (by kernel_rfl) (by kernel_rfl) (fun _ _ _ h => h) (.inr ⟨by rfl, rfl⟩) (by assumption) ?_
              (try simp only [Act.put, List.setIfInBounds_toArray, List.set_cons_zero, List.set_cons_succ, List.getElem_toArray, List.getElem_cons_zero, List.getElem_cons_succ])
              refine wpAnyH_take (i := 12) (v := undef) rfl (by kernel_rfl) (by kernel_rfl) (by kernel_rfl) (fun _ _ _ h => h) (.inr ⟨by rfl, rfl⟩) (by assumption) ?_
              (try simp only [Act.put, List.setIfInBounds_toArray, List.set_cons_zero, List.set_cons_succ, List.getElem_toArray, List.getElem_cons_zero, List.getElem_cons_succ])
              refine wpAnyH_take (i := 13) (v := undef) rfl (by kernel_rfl) (by kernel_rfl) (by kernel_rfl) (fun _ _ _ h => h) (.inr ⟨by rfl, rfl⟩) (by assumption) ?_
              (try simp only [Act.put, List.setIfInBounds_toArray, List.set_cons_zero, List.set_cons_succ, List.getElem_toArray, List.getElem_cons_zero, List.getElem_cons_succ])
              refine wpAnyH_take (i := 14) (v := undef) rfl (by kernel_rfl) (by kernel_rfl) (by kernel_rfl) (fun _ _ _ h => h) (.inr ⟨by rfl, rfl⟩) (by assumption) ?_
              (try simp only [Act.put, List.setIfInBounds_toArray, List.set_cons_zero, List.set_cons_succ, List.getElem_toArray, List.getElem_cons_zero, List.getElem_cons_succ])
              refine wpAnyH_take (i := 15) (v := undef) rfl (by kernel_rfl) (by kernel_rfl) (by kernel_rfl) (fun _ _ _ h => h) (.inr ⟨by rfl, rfl⟩) (by assumption) ?_
              (try simp only [Act.put, List.setIfInBounds_toArray, List.set_cons_zero, List.set_cons_succ, List.getElem_toArray, List.getElem_cons_zero, List.getElem_cons_succ])
              refine wpAnyH_take (i := 16) (v := ?vy16) rfl (by kernel_rfl) (by kernel_rfl) (by kernel_rfl) (fun _ _ _ h => h) (.inl ⟨by rfl, ?hyy16⟩) (by assumption) ?resty16
              case hyy16 => (intro w hSw; (try dsimp only at hSw); go_simp; first | done | with_reducible rfl)
              (try simp only [Act.put, List.setIfInBounds_toArray, List.set_cons_zero, List.set_cons_succ, List.getElem_toArray, List.getElem_cons_zero, List.getElem_cons_succ])
              refine wpAnyH_done (by kernel_rfl) ?_ _
              obtain ⟨w5, hw5⟩ : ∃ W, W = wr.drew.drew := ⟨_, rfl⟩
              rw [← hw5]
              have h61 : Hid (Below w1.heap.size w1 w5) := Lib.hid (hw5 ▸ hb1H.out.drew.drew)
              have hbB : Hid (Below B w w5) := Lib.hid (hbH.out.trans (h61.out.mono hBw1))
              have hrow5 := Lib.hid (ownsRow_keep hrowH.out (fun b hb' => h61.out.block b ((ownsRow_lt hrowH.out b hb').2)))
              clear hw5 hHeld
              obtain ⟨v1, W1, v2, W2, v3, W3, ⟨r1, r2, r3⟩, hW1, hW3, hv1, hv2, hv3, hv3o, hrow3⟩ := rput_said hrow5.out hrsH.out.eleven (flatR_ones hrsH.out) (show ps.length ≤ ps.length by omega) hplm [c0, c1, c2, c3, c4, c5, c6, c7, c8, c9, c10] rfl (TRep.ones ht0H.out) t
              obtain ⟨p0, p1, p2, p3, p4, p5, p6, p7, p8, p9, p10⟩ := hqH.out
              have q0 := keeps_of_below (h61.out.trans (below_le hW1 h61.out.size)) _ _ p0
              have q1 := keeps_of_below (h61.out.trans (below_le hW1 h61.out.size)) _ _ p1
              have q2 := keeps_of_below (h61.out.trans (below_le hW1 h61.out.size)) _ _ p2
              have q3 := keeps_of_below (h61.out.trans (below_le hW1 h61.out.size)) _ _ p3
              have q4 := keeps_of_below (h61.out.trans (below_le hW1 h61.out.size)) _ _ p4
              have q5 := keeps_of_below (h61.out.trans (below_le hW1 h61.out.size)) _ _ p5
              have q6 := keeps_of_below (h61.out.trans (below_le hW1 h61.out.size)) _ _ p6
              have q7 := keeps_of_below (h61.out.trans (below_le hW1 h61.out.size)) _ _ p7
              have q8 := keeps_of_below (h61.out.trans (below_le hW1 h61.out.size)) _ _ p8
              have q9 := keeps_of_below (h61.out.trans (below_le hW1 h61.out.size)) _ _ p9
              have q10 := keeps_of_below (h61.out.trans (below_le hW1 h61.out.size)) _ _ p10
              have hbW3 := Lib.hid (hbB.out.trans (hW3.mono (by have := hbB.out.size; have := h61.out.size; omega)))
              simp only [List.cons_append, List.nil_append] at r2
              have hrow3H := Lib.hid (hrow3.mono (base' := B) (by have := h61.out.size; omega))
              have hv3oH := Lib.hid hv3o
              have hputH := Lib.hid (show bareR (ps.take ps.length ++ ([c0, c1, c2, c3, c4, c5, c6, c7, c8, c9, c10], t, 1) :: ps.drop ps.length) = groupV ((l.map builtV).take (k + 1)) by rw [hsnoc.out, ← hbareH.out]; exact (insV_end hloH.out _ t rfl).symm)
              clear hrow3 hv3o hW1 hW3 p0 p1 p2 p3 p4 p5 p6 p7 p8 p9 p10
              simp only [Nat.sub_self] at r3
              by_cases hck : scap = ps.length
              · rw [if_pos hck, hck, Nat.sub_self] at r3
                have r1H := Lib.hid r1
                have r2H := Lib.hid r2
                have r3H := Lib.hid r3
                clear r1 r2 r3
                go_wp2_with (first | (at_builtin; refine Lib.wpList_append_run _ rfl _ _ _ _ rfl _ _ rfl rfl _ _ r1H.out ?_) | (at_builtin; refine Lib.wpList_append_run _ rfl _ _ _ _ rfl _ _ rfl rfl _ _ r2H.out ?_) | (at_builtin; refine Lib.wpList_append_run _ rfl _ _ _ _ rfl _ _ rfl rfl _ _ r3H.out ?_))
                go_roundw
                case rel => exact ⟨k + 1, _, _, rfl, by omega, by go_num, hrow3H.out, putR_ok hrsH.out ht0H.out, hputH.out, hbW3.out, hv3oH.out⟩
                case measure => simp [intOf]; omega
              · rw [if_neg hck] at r3
                have r1H := Lib.hid r1
                have r2H := Lib.hid r2
                have r3H := Lib.hid r3
                clear r1 r2 r3
                go_wp2_with (first | (at_builtin; refine Lib.wpList_append_run _ rfl _ _ _ _ rfl _ _ rfl rfl _ _ r1H.out ?_) | (at_builtin; refine Lib.wpList_append_run _ rfl _ _ _ _ rfl _ _ rfl rfl _ _ r2H.out ?_) | (at_builtin; refine Lib.wpList_append_run _ rfl _ _ _ _ rfl _ _ rfl rfl _ _ r3H.out ?_))
                go_roundw
                case rel => exact ⟨k + 1, _, _, rfl, by omega, by go_num, hrow3H.out, putR_ok hrsH.out ht0H.out, hputH.out, hbW3.out, hv3oH.out⟩
                case measure => simp [intOf]; omega
        · obtain rfl : k = l.length := by omega
          have hone : sv.oneCell' = true := by obtain ⟨_, _, rfl, -⟩ := ownsRow_form hrow; rfl
          clear hrow hb
          go_wp2
          go_ret2
          exact .inr ⟨hall2.out, sv, ps, rfl, hBH.out ▸ hrowH.out, hrsH.out, by rw [hbareH.out, ← hlmH.out, List.take_length], hBH.out ▸ hbH.out⟩
end Go.Proofs.Ytgmdbpplfjkjmaa
