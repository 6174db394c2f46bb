/- DigestTurns in plain: two maps that were filled the one way and the other keep the same. -/
import Derived.Test.YtgmdbpplfjkjmaaEach
import Derived.Test.YtgmdbpplfjkjmaaOrder
import Derived.Test.YtgmdbpplfjkjmaaDigSum
namespace Go.Proofs.Ytgmdbpplfjkjmaa
open Go.RowKit
set_option linter.unusedVariables false
set_option linter.unusedSimpArgs false

theorem turn_good {v u : Val} (h : numsV v ∧ okV v) (k : numsV u ∧ okV u) (e : cmpV v u = 0) : v = u := cmpV_eq h.1 k.1 h.2 k.2 e
/-- What is put under a key. -/
def sumK (v : Val) : Int := if okB v = true then IntKind.i64.wrap (fnvB (encV v)) else 0
structure TurnL (ks : List Val) (l : List PE) : Prop where
  vals : ∀ e ∈ l, e.v = .int (sumK e.k)
  keys : ∀ k, (∃ e ∈ l, e.k = k) ↔ k ∈ ks ∧ okB k = true
  len : l.length ≤ ks.length
theorem TurnL.nil : TurnL [] [] := ⟨(fun _ h => by cases h), (fun k => ⟨fun ⟨_, h, _⟩ => (by cases h), fun h => (by cases h.1)⟩), Nat.le_refl _⟩
theorem TurnL.perm {ks ks' : List Val} {l : List PE} (h : TurnL ks l) (hp : ∀ k, k ∈ ks ↔ k ∈ ks') (hl : ks.length = ks'.length) : TurnL ks' l := ⟨h.vals, fun k => by rw [h.keys, hp], hl ▸ h.len⟩
theorem int_ok (n : Int) : okB (.int n) = true := by simp [okB, partF, stepF, ownF, ownIn]
theorem TurnL.put {B m : Nat} {o : Option Nat} {w w1 : World} {ks : List Val} {l : List PE} {k : Val} {e : Ending} (hm : MapW B w m o l) (hn : numsV k) (h : TurnL ks l) (hr : ks.length < 4096) (hP : PutW B m o l k (.int (sumK k)) w e w1) :
    ∃ o' l', MapW B w1 m o' l' ∧ TurnL (ks ++ [k]) l' ∧ But (OfM m o l) w w1 ∧ (∀ b, OfM m o' l' b → OfM m o l b ∨ w.heap.size ≤ b) ∧ ∃ x, e = .returned x := by
  rcases hP with ⟨hk, rfl, hm1, hb⟩ | ⟨hk, hv, -⟩ | ⟨-, -, -, hf, -⟩ | ⟨hk, hv, o', a, c, ga, gc, hm1, ho', hb, hnew, hans⟩
  · refine ⟨o, l, hm1, ⟨h.vals, fun u => ?_, by have := h.len; rw [List.length_append]; omega⟩, hb, fun b hb => .inl hb, _, rfl⟩
    rw [h.keys, List.mem_append, List.mem_singleton]
    constructor
    · exact fun ⟨h1, h2⟩ => ⟨.inl h1, h2⟩
    · rintro ⟨h1 | rfl, h2⟩
      · exact ⟨h1, h2⟩
      · rw [hk] at h2; cases h2
  · rw [int_ok] at hv; cases hv
  · have := h.len; omega
  · have hinj : ∀ e ∈ l, e.ky = encV k ↔ e.k = k := fun e he => hm.inj he hn hk
    refine ⟨o', _, hm1, ⟨fun e he => ?_, fun u => ?_, ?_⟩, hb, fun b hmb => ?_, ?_⟩
    · rcases List.mem_append.1 he with he | he
      · exact h.vals e (lessM_mem.1 he).1
      · rw [List.mem_singleton.1 he]
    · rw [List.mem_append, List.mem_singleton]
      constructor
      · rintro ⟨e, he, rfl⟩
        rcases List.mem_append.1 he with he | he
        · have := (h.keys e.k).1 ⟨e, (lessM_mem.1 he).1, rfl⟩
          exact ⟨.inl this.1, this.2⟩
        · rw [List.mem_singleton.1 he]; exact ⟨.inr rfl, hk⟩
      · rintro ⟨h1 | rfl, h2⟩
        · obtain ⟨e, he, rfl⟩ := (h.keys u).2 ⟨h1, h2⟩
          by_cases hek : e.k = k
          · exact ⟨_, List.mem_append_right _ (List.mem_singleton_self _), hek.symm⟩
          · exact ⟨e, List.mem_append_left _ (lessM_mem.2 ⟨he, fun h => hek ((hinj e he).1 h)⟩), rfl⟩
        · exact ⟨_, List.mem_append_right _ (List.mem_singleton_self _), rfl⟩
    · have h1 : (lessM l (encV k)).length ≤ l.length := by unfold lessM; exact List.length_filter_le _ _
      have := h.len
      simp only [List.length_append, List.length_singleton]
      omega
    · rcases hmb with rfl | hob | hfb
      · exact .inl (.inl rfl)
      · rcases ho' with rfl | ⟨-, x, hx, hle⟩
        · exact .inl (.inr (.inl hob))
        · rw [hx] at hob; injection hob with hob; exact .inr (by omega)
      · rw [fsM_snoc] at hfb
        rcases List.mem_append.1 hfb with hfb | hfb
        · exact .inl (.inr (.inr (lessM_sub b hfb)))
        · exact .inr (hnew b hfb)
    · rcases hans with ⟨p, -, -, rfl, -⟩ | ⟨-, -, rfl⟩ <;> exact ⟨_, rfl⟩
theorem TurnL.mem {ks : List Val} {l : List PE} (h : TurnL ks l) (p : Val × Val) : p ∈ bareP l ↔ (p.1 ∈ ks ∧ okB p.1 = true) ∧ p.2 = .int (sumK p.1) := by
  unfold bareP
  rw [List.mem_map]
  constructor
  · rintro ⟨e, he, rfl⟩
    exact ⟨(h.keys e.k).1 ⟨e, he, rfl⟩, h.vals e he⟩
  · rintro ⟨h1, h2⟩
    obtain ⟨e, he, hk⟩ := (h.keys p.1).2 h1
    exact ⟨e, he, by rw [h.vals e he, hk, ← h2]⟩
theorem bare_nodup {B m : Nat} {o : Option Nat} {w : World} {l : List PE} (h : MapW B w m o l) : (bareP l).Nodup := by
  have h1 := h.keys
  have h2 : l.map PE.ky = (bareP l).map fun p => encV p.1 := by unfold bareP; rw [List.map_map]; rfl
  rw [h2] at h1
  exact (List.pairwise_map.1 h1).imp (fun {p q} hne e => hne (by rw [e]))
theorem turn_perm {B m m' : Nat} {o o' : Option Nat} {w w' : World} {l l' : List PE} {ks : List Val} (h : MapW B w m o l) (h' : MapW B w' m' o' l') (ht : TurnL ks l) (ht' : TurnL ks l') : (bareP l).Perm (bareP l') :=
  (List.perm_ext_iff_of_nodup (bare_nodup h) (bare_nodup h')).2 (fun p => by rw [ht.mem, ht'.mem])
/-- The pairs of a map in their keys' order. -/
theorem rise_of {B m : Nat} {o : Option Nat} {w : World} {l : List PE} (h : MapW B w m o l) : ∃ L, riseV L ∧ L.Perm (bareP l) := by
  have hp := List.mergeSort_perm (bareP l) (fun p q => decide (cmpV p.1 q.1 ≤ 0))
  refine ⟨_, ?_, hp⟩
  have hs := List.pairwise_mergeSort (le := fun p q : Val × Val => decide (cmpV p.1 q.1 ≤ 0)) (fun a b c h1 h2 => by simp only [decide_eq_true_eq] at *; exact cmpV_trans h1 h2) (fun a b => by
    have := cmpV_swap a.1 b.1
    simp only [Bool.or_eq_true, decide_eq_true_eq]; omega) (bareP l)
  have hk : (bareP l).Pairwise fun p q => p.1 ≠ q.1 := by
    have h1 := h.keys
    unfold bareP
    rw [List.pairwise_map]
    have h2 : l.Pairwise fun p q => p.ky ≠ q.ky := List.pairwise_map.1 h1
    exact h2.imp (fun {p q} hne e => hne (by unfold PE.ky; rw [show p.k = q.k from e]))
  have hk2 : ((bareP l).mergeSort fun p q => decide (cmpV p.1 q.1 ≤ 0)).Pairwise fun p q => p.1 ≠ q.1 := (hp.pairwise_iff (fun {a b} h e => h e.symm)).2 hk
  have hmem : ∀ p ∈ (bareP l).mergeSort (fun p q => decide (cmpV p.1 q.1 ≤ 0)), numsV p.1 ∧ okV p.1 := fun p hpm => by
    obtain ⟨e, he, rfl⟩ := List.mem_map.1 (hp.mem_iff.1 hpm)
    obtain ⟨-, -, h3, -, h5, -⟩ := h.reps e he
    exact ⟨h5, okV_check h3⟩
  refine (List.pairwise_and_iff.2 ⟨hs, hk2⟩).imp_of_mem (fun {p q} hpm hqm ⟨h1, h2⟩ => ?_)
  have h3 : cmpV p.1 q.1 ≤ 0 := of_decide_eq_true h1
  rcases cmpV_one p.1 q.1 with h | h | h
  · exact h
  · exact absurd (turn_good (hmem p hpm) (hmem q hqm) h) h2
  · omega
end Go.Proofs.Ytgmdbpplfjkjmaa
