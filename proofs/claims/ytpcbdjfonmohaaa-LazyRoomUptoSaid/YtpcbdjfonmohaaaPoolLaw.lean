/- The plain law of the least recently used: more room holds more. Pools side by side. -/
import Derived.Test.YtpcbdjfonmohaaaPoolLoad
namespace Go.Proofs.Ytpcbdjfonmohaaa
open Go.RowKit
set_option linter.unusedVariables false
set_option linter.unusedSimpArgs false

/-- Who is held when one has been used. -/
def stepL (room : Nat) (L : List Int) (id : Int) : List Int := let M := L.filter (· != id) ++ [id]; if room < M.length then M.tail else M
theorem filter_len {L : List Int} {id : Int} (hn : L.Nodup) : (L.filter (· != id)).length + (if id ∈ L then 1 else 0) = L.length := by
  induction L with
  | nil => rfl
  | cons a L ih =>
    have h := List.nodup_cons.1 hn
    have ih := ih h.2
    by_cases e : a = id
    · subst e
      have hf : L.filter (· != a) = L := List.filter_eq_self.2 (fun x hx => by
        have hne : x ≠ a := fun e => h.1 (by rw [← e]; exact hx)
        simpa using hne)
      simp [hf]
    · have e1 : (id ∈ a :: L) = (id ∈ L) := by
        apply propext
        rw [List.mem_cons]
        exact ⟨fun h => h.elim (fun h => absurd h.symm e) (fun h => h), .inr⟩
      have e2 : (a :: L).filter (· != id) = a :: L.filter (· != id) := List.filter_cons_of_pos (by simpa using e)
      rw [e2]
      simp only [List.length_cons, e1]
      omega
theorem stepL_in {room : Nat} {L : List Int} {id : Int} (hn : L.Nodup) (hl : L.length ≤ room) (hi : id ∈ L) : stepL room L id = L.filter (· != id) ++ [id] := by
  have h := filter_len (id := id) hn
  rw [if_pos hi] at h
  unfold stepL
  rw [if_neg]
  simp
  omega
theorem used_nodup {L : List Int} {id : Int} (hn : L.Nodup) : (L.filter (· != id) ++ [id]).Nodup := by
  rw [List.nodup_append]
  exact ⟨hn.filter _, by simp, fun a ha b hb e => by simp at hb; subst hb; subst e; simpa using (List.mem_filter.1 ha).2⟩
theorem stepL_nodup {room : Nat} {L : List Int} {id : Int} (hn : L.Nodup) : (stepL room L id).Nodup := by
  unfold stepL
  dsimp only
  split
  · exact (used_nodup hn).sublist (List.tail_sublist _)
  · exact used_nodup hn
theorem stepL_len {room : Nat} {L : List Int} {id : Int} (hn : L.Nodup) (hl : L.length ≤ room) (hr : 1 ≤ room) : (stepL room L id).length ≤ room ∧ 1 ≤ (stepL room L id).length ∧ (stepL room L id).getLast? = some id := by
  have h := filter_len (id := id) hn
  unfold stepL
  dsimp only
  split
  · rename_i hlt
    simp at hlt
    refine ⟨?_, ?_, ?_⟩
    · simp; split at h <;> omega
    · simp; omega
    · cases hf : L.filter (· != id) with
      | nil => rw [hf] at hlt; simp at hlt; omega
      | cons a l => simp
  · rename_i hlt
    simp at hlt
    exact ⟨by simp; omega, by simp, by simp⟩
theorem suffix_tail {A B : List Int} (h : A <:+ B) (hl : A.length < B.length) : A <:+ B.tail := by
  obtain ⟨C, rfl⟩ := h
  cases C with
  | nil => simp at hl
  | cons c C => exact ⟨C, rfl⟩
/-- MORE ROOM HOLDS MORE. -/
theorem stack_step {n m : Nat} {A B : List Int} (id : Int) (hs : A <:+ B) (hB : B.Nodup) (hA : A.length ≤ n) (hBl : B.length ≤ m) (hnm : n ≤ m) (hr : 1 ≤ n) (he : A.length < n → A = B) :
    stepL n A id <:+ stepL m B id ∧ ((stepL n A id).length < n → stepL n A id = stepL m B id) := by
  have hAn : A.Nodup := hB.sublist hs.sublist
  have fA := filter_len (id := id) hAn
  have fB := filter_len (id := id) hB
  have hM : (A.filter (· != id) ++ [id]) <:+ (B.filter (· != id) ++ [id]) := by
    obtain ⟨C, rfl⟩ := hs
    exact ⟨C.filter (· != id), by simp⟩
  have hle := hM.length_le
  unfold stepL
  dsimp only
  by_cases h1 : n < (A.filter (· != id) ++ [id]).length
  · rw [if_pos h1]
    have hAl : (A.filter (· != id) ++ [id]).length = n + 1 := by
      simp at h1 ⊢
      split at fA <;> omega
    refine ⟨?_, fun h => by rw [List.length_tail] at h; omega⟩
    by_cases h2 : m < (B.filter (· != id) ++ [id]).length
    · rw [if_pos h2]
      rcases Nat.lt_or_ge (A.filter (· != id) ++ [id]).length (B.filter (· != id) ++ [id]).length with h3 | h3
      · exact (List.tail_suffix _).trans (suffix_tail hM h3)
      · rw [hM.eq_of_length (by omega)]
        exact List.suffix_refl _
    · rw [if_neg h2]
      exact (List.tail_suffix _).trans hM
  · rw [if_neg h1]
    refine ⟨?_, fun h => ?_⟩
    · by_cases h2 : m < (B.filter (· != id) ++ [id]).length
      · rw [if_pos h2]
        exact suffix_tail hM (by omega)
      · rw [if_neg h2]
        exact hM
    · have hAB : A = B := he (by simp at h; split at fA <;> omega)
      subst hAB
      rw [if_neg (by omega)]
/-- A pool between two calls. -/
structure Fine (c : PoolC) (s : PS) : Prop where
  ld : ∀ i, s.ld i = decide (i ∈ s.L)
  busy : ∀ i, s.busy i = false
  nodup : s.L.Nodup
  len : s.L.length ≤ c.room
  room : 1 ≤ c.room ∧ c.room ≤ 100
  n : 0 ≤ s.n
theorem Fine.none {c : PoolC} (h : 1 ≤ c.room ∧ c.room ≤ 100) : Fine c PS.none := ⟨fun i => by simp [PS.none], fun _ => rfl, List.nodup_nil, Nat.zero_le _, h, Int.le_refl _⟩
theorem loaded_fit_L (s : PS) (id : Int) (room : Nat) : ((s.loaded id).fit room).L = stepL room s.L id := by
  unfold PS.fit stepL
  have hL : (s.loaded id).L = s.L.filter (· != id) ++ [id] := rfl
  dsimp only
  split
  · rename_i h
    rw [hL] at h
    simp at h
  · rename_i j l h
    rw [hL] at h
    rw [h]
    simp only [List.length_cons, List.tail_cons]
    split
    · rfl
    · exact h ▸ hL
theorem loaded_core {s : PS} {id : Int} {room : Nat} (hl : ∀ i, s.ld i = decide (i ∈ s.L)) (hn : s.L.Nodup) : ∀ i, ((s.loaded id).fit room).ld i = decide (i ∈ ((s.loaded id).fit room).L) := fun i => by
  have e0 : (s.loaded id).ld i = decide (i ∈ (s.loaded id).L) := by
    show (if i = id then true else s.ld i) = decide (i ∈ s.L.filter (· != id) ++ [id])
    by_cases e : i = id
    · simp [e]
    · simp [e, hl i]
  have hnd : (s.loaded id).L.Nodup := used_nodup hn
  unfold PS.fit
  split
  · exact e0
  · rename_i j l hjl
    split
    · rw [hjl] at hnd e0
      have hnd := List.nodup_cons.1 hnd
      show (if i = j then false else (s.loaded id).ld i) = decide (i ∈ l)
      by_cases e : i = j
      · subst e
        simp [hnd.1]
      · rw [if_neg e, e0]
        simp [e]
    · exact e0
theorem loaded_fine {c : PoolC} {s : PS} {id : Int} (hl : ∀ i, s.ld i = decide (i ∈ s.L)) (hb : ∀ i, i ≠ id → s.busy i = false) (hn : s.L.Nodup) (hlen : s.L.length ≤ c.room) (hr : 1 ≤ c.room ∧ c.room ≤ 100) (h0 : 0 ≤ s.n) :
    Fine c ((s.loaded id).fit c.room) := by
  have hL := loaded_fit_L s id c.room
  refine ⟨loaded_core hl hn, fun i => ?_, by rw [hL]; exact stepL_nodup hn, by rw [hL]; exact (stepL_len hn hlen hr.1).1, hr, by rw [(fit_gt _ _).2.2.1]; exact h0⟩
  rw [(fit_gt _ _).2.1]
  show (if i = id then false else s.busy i) = false
  by_cases e : i = id
  · simp [e]
  · simp [e, hb i e]
theorem used_fine {c : PoolC} {s : PS} {id : Int} (h : Fine c s) (hi : id ∈ s.L) : Fine c (s.used id) ∧ (s.used id).L = stepL c.room s.L id := by
  have e := stepL_in h.nodup h.len hi
  have hl := stepL_len (id := id) h.nodup h.len h.room.1
  refine ⟨⟨fun i => ?_, h.busy, used_nodup h.nodup, ?_, h.room, h.n⟩, e.symm⟩
  · show s.ld i = decide (i ∈ s.L.filter (· != id) ++ [id])
    rw [h.ld i]
    by_cases e : i = id
    · subst e; simp [hi]
    · simp [e]
  · show (s.L.filter (· != id) ++ [id]).length ≤ _
    rw [← e]
    exact hl.1
end Go.Proofs.Ytpcbdjfonmohaaa
