/- DigestTurns' two Eachs. -/
import Derived.Test.YtgmdbpplfjkjmaaTurnFnA
import Derived.Test.YtgmdbpplfjkjmaaTurnFnB
import Derived.Test.YtgmdbpplfjkjmaaTurnSame
namespace Go.Proofs.Ytgmdbpplfjkjmaa
open Go.RowKit
set_option linter.unusedVariables false
set_option linter.unusedSimpArgs false

/-- The terms of the pairs, one behind the other. -/
def flatT (L : List (Val × Val)) : List Term := L.flatMap fun p => [plainT p.1 0, plainT p.2 0]
theorem flatT_snoc (L : List (Val × Val)) (p : Val × Val) : flatT (L ++ [p]) = flatT L ++ [plainT p.1 0, plainT p.2 0] := by simp [flatT]
theorem flatT_len (L : List (Val × Val)) : (flatT L).length = 2 * L.length := by
  induction L with
  | nil => rfl
  | cons p L ih =>
    have h : flatT (p :: L) = [plainT p.1 0, plainT p.2 0] ++ flatT L := by simp [flatT]
    rw [h, List.length_append, ih, List.length_cons]; simp; omega
theorem flatT_at {L : List (Val × Val)} {k : Nat} {p : Val × Val} (h : L[k]? = some p) : (flatT L)[2 * k]? = some (plainT p.1 0) ∧ (flatT L)[2 * k + 1]? = some (plainT p.2 0) := by
  have e : L = L.take k ++ p :: L.drop (k + 1) := by
    obtain ⟨hk, rfl⟩ := List.getElem?_eq_some_iff.1 h
    rw [List.getElem_cons_drop, List.take_append_drop]
  have e2 : flatT L = flatT (L.take k) ++ ([plainT p.1 0, plainT p.2 0] ++ flatT (L.drop (k + 1))) := by
    have h1 : flatT L = flatT (L.take k ++ p :: L.drop (k + 1)) := by rw [← e]
    rw [h1]; simp [flatT]
  have hl : (flatT (L.take k)).length = 2 * k := by
    rw [flatT_len, List.length_take]
    have := (List.getElem?_eq_some_iff.1 h).1
    omega
  rw [e2]
  constructor
  · rw [List.getElem?_append_right (by omega), hl, show 2 * k - 2 * k = 0 by omega]; rfl
  · rw [List.getElem?_append_right (by omega), hl, show 2 * k + 1 - 2 * k = 1 by omega]; rfl
/-- The list under way: its row is g0 (nothing yet) or lies behind N. -/
def turnJ (W0 : World) (B lb g0 : Nat) (L : List (Val × Val)) (N k : Nat) (X : World) : Prop :=
  ∃ sv xs, X.heap[lb]? = some (.cells #[sv] 22 (0, 0)) ∧ X.ownsRow B 31 11 sv (2 * k) xs ∧ TsRep (only X (NotOwn N sv)) (flatT (L.take k)) xs ∧ (∀ b ∈ ownL sv, b = g0 ∨ N ≤ b) ∧ But (fun i => i = lb ∨ i = g0) W0 X ∧ W0.heap.size ≤ N
theorem all_true {n : Nat} {J : Nat → Nat → World → Prop} {e : Ending} {w' : World} (h : EachEnd n J (fun _ => some true) e w') : e = .returned (.int .i64 0) ∧ ∃ N, J N n w' := by
  obtain ⟨N, c, hc, -, hJ, ⟨rfl, -, rfl⟩ | ⟨j, rfl, hj, rfl⟩ | ⟨j, rfl, hj, rfl⟩⟩ := h
  · exact ⟨rfl, N, hJ⟩
  · cases hj
  · cases hj
theorem bareP_at {ts : List PE} {L : List (Val × Val)} (h : bareP ts = L) {k : Nat} {p : PE} (hp : ts[k]? = some p) : L[k]? = some (p.k, p.v) := by
  rw [← h]; unfold bareP; rw [List.getElem?_map, hp]; rfl
theorem turn_run1 {W0 : World} {B B' m lb g0 : Nat} {o : Option Nat} {l : List PE} {L : List (Val × Val)} (h : MapW B' W0 m o l) (hL : riseV L) (hp : L.Perm (bareP l)) (hl : W0.heap[lb]? = some (.cells #[.slice (some ⟨g0, 0, none⟩) 0 0] 22 (0, 0)))
    (hg : W0.ownsRow B 31 11 (.slice (some ⟨g0, 0, none⟩) 0 0) 0 []) (hlg : lb ≠ g0) (hB : B ≤ W0.heap.size) (hsm : ∀ p ∈ L, smallV p.1 ∧ smallV p.2) :
    Calls Try.prog 18 #[.pointer (some ⟨m, 0, none⟩), .func (.func 29) #[] #[.pointer (some ⟨lb, 0, none⟩)]] W0 (EachEnd L.length (turnJ W0 B lb g0 L) (fun _ => some true)) := by
  have hlt : lb < W0.heap.size := (Array.getElem?_eq_some_iff.1 hl).1
  have hgt : g0 < W0.heap.size := (ownsRow_lt hg g0 (by simp [ownL, Value.ownBlock])).2
  have hLl : L.length ≤ 4096 := by
    have h1 := hp.length_eq
    have h2 := h.small
    simp only [bareP, List.length_map] at h1
    omega
  have h0 : ∀ N X, W0.heap.size ≤ N → Below W0.heap.size W0 X → turnJ W0 B lb g0 L N 0 X := fun N X hN hX =>
    ⟨_, _, (hX.block lb hlt).trans hl, ownsRow_keep hg (fun b hb => hX.block b (ownsRow_lt hg b hb).2), rfl, fun b hb => .inl (by simpa [ownL, Value.ownBlock] using hb), (But.refl _ W0).of_below hX (fun i hi h => by omega), hN⟩
  cases o with
  | none =>
    refine (each_none h hp 29 #[.pointer (some ⟨lb, 0, none⟩)] (fun _ k X => turnJ W0 B lb g0 L W0.heap.size k X) (fun _ => some true) (fun N X hX => h0 _ X (Nat.le_refl _) hX)).mono ?_
    rintro e w' ⟨N, c, h1, h2, h3, h4⟩
    exact ⟨W0.heap.size, c, h1, h2, h3, h4⟩
  | some b =>
    refine each_some h hL hp _ _ (fun args X => by kernel_rfl) _ _ ?_ (fun X hX => h0 _ X hX.size hX) ?_
    · rintro N k X Y ⟨sv, xs, a1, a2, a3, a4, a5, a6⟩ hb
      have hlX : lb < X.heap.size := (Array.getElem?_eq_some_iff.1 a1).1
      refine ⟨sv, xs, (hb.block lb hlX (fun h => by omega)).trans a1, ownsRow_keep a2 (fun b hbm => hb.block b (ownsRow_lt a2 b hbm).2 (fun h => by rcases a4 b hbm with e | e <;> omega)), TsRep.keep (only_keep fun b hb1 hs => ⟨hs, hb.block b hb1 (fun h => by have := hs.1; omega)⟩) _ _ a3, a4, a5.then hb (fun i hi h => by omega), a6⟩
    · rintro N ts hts k p hpk X hNX ⟨sv, xs, a1, a2, a3, a4, a5, a6⟩ hx hy hnd hfs
      have hLk := bareP_at hts hpk
      have hk := (List.getElem?_eq_some_iff.1 hLk).1
      have hsmp := hsm _ (List.mem_of_getElem? hLk)
      have hsz := a5.size
      have hlo : lb ∉ ownL sv := fun hb => by
        rcases a4 lb hb with e | e
        · exact hlg e
        · omega
      refine (turn_first (N := N) a1 a2 a3 (by omega) (by omega) hlo (by omega) hNX hx hsmp.1 hy hsmp.2).mono fun e w' ⟨e1, sv', xs', b1, b2, b3, b4, b5⟩ => ?_
      have htk : L.take (k + 1) = L.take k ++ [(p.k, p.v)] := by rw [List.take_add_one, hLk]; rfl
      refine ⟨e1, ⟨sv', xs', b1, by rw [show 2 * (k + 1) = 2 * k + 2 by omega]; exact b2, ?_, fun b hb => ?_, ?_⟩, b4.mono (fun i hi h => ?_)⟩
      · rw [htk, flatT_snoc]; exact b3
      · rcases b5 b hb with h | h
        · exact a4 b h
        · exact .inr (by omega)
      · refine ⟨a5.then b4 (fun i hi h => ?_), a6⟩
        rcases h with h | h
        · exact .inl h
        · rcases a4 i h with e | e
          · exact .inr e
          · omega
      · rcases h with h | h
        · exact .inr (.inl (by omega))
        · rcases a4 i h with e | e
          · exact .inr (.inl (by omega))
          · exact .inr (.inr e)
/-- The second Each: right stays true, two more at each call. -/
def turnJ2 (W1 : World) (rb nb : Nat) (N k : Nat) (X : World) : Prop := X.heap[rb]? = some (.cells #[.bool true] 4 (0, 0)) ∧ X.heap[nb]? = some (.cells #[.int .i64 ((2 * k : Nat) : Int)] 3 (0, 0)) ∧ But (fun i => i = rb ∨ i = nb) W1 X
theorem turn_run2 {W0 W1 : World} {B B' m lb g0 rb nb N1 : Nat} {o : Option Nat} {l : List PE} {L : List (Val × Val)} (h : MapW B' W1 m o l) (hL : riseV L) (hp : L.Perm (bareP l)) (hJ : turnJ W0 B lb g0 L N1 L.length W1)
    (hR : W1.heap[rb]? = some (.cells #[.bool true] 4 (0, 0))) (hNb : W1.heap[nb]? = some (.cells #[.int .i64 0] 3 (0, 0))) (hne : rb ≠ nb ∧ rb ≠ lb ∧ nb ≠ lb ∧ rb ≠ g0 ∧ nb ≠ g0) (hlt : rb < W0.heap.size ∧ nb < W0.heap.size ∧ lb < W0.heap.size)
    (hgd : ∀ p ∈ L, (smallV p.1 ∧ sameT (plainT p.1 0) (plainT p.1 0) = true) ∧ smallV p.2 ∧ sameT (plainT p.2 0) (plainT p.2 0) = true) :
    Calls Try.prog 18 #[.pointer (some ⟨m, 0, none⟩), .func (.func 31) #[] #[.pointer (some ⟨rb, 0, none⟩), .pointer (some ⟨nb, 0, none⟩), .pointer (some ⟨lb, 0, none⟩)]] W1 (EachEnd L.length (turnJ2 W1 rb nb) (fun _ => some true)) := by
  obtain ⟨sv, xs, a1, a2, a3, a4, a5, a6⟩ := hJ
  rw [List.take_length] at a3
  have hsz := a5.size
  have hLl : L.length ≤ 4096 := by
    have h1 := hp.length_eq
    have h2 := h.small
    simp only [bareP, List.length_map] at h1
    omega
  have h0 : ∀ N X, Below W1.heap.size W1 X → turnJ2 W1 rb nb N 0 X := fun N X hX =>
    ⟨(hX.block rb (by omega)).trans hR, (hX.block nb (by omega)).trans hNb, (But.refl _ W1).of_below hX (fun i hi h => by omega)⟩
  cases o with
  | none => exact each_none h hp _ _ _ _ h0
  | some b =>
    refine each_some h hL hp _ _ (fun args X => by kernel_rfl) _ _ ?_ (fun X hX => h0 _ X hX) ?_
    · rintro N k X Y ⟨b1, b2, b3⟩ hb
      exact ⟨(hb.block rb (Array.getElem?_eq_some_iff.1 b1).1 (fun h => by omega)).trans b1, (hb.block nb (Array.getElem?_eq_some_iff.1 b2).1 (fun h => by omega)).trans b2, b3.then hb (fun i hi h => by omega)⟩
    · rintro N ts hts k p hpk X hNX ⟨b1, b2, b3⟩ hx hy hnd hfs
      have hLk := bareP_at hts hpk
      have hk := (List.getElem?_eq_some_iff.1 hLk).1
      obtain ⟨⟨s1, s2⟩, s3, s4⟩ := hgd _ (List.mem_of_getElem? hLk)
      obtain ⟨f1, f2⟩ := flatT_at hLk
      obtain ⟨cs, ht1, hc⟩ := TsRep.at _ _ a3 _ _ f1
      obtain ⟨ds, ht2, hd⟩ := TsRep.at _ _ a3 _ _ f2
      obtain ⟨sa, cap, rfl, -, -, -, hform⟩ := ownsRow_form a2
      rcases hform with ⟨-, hz, -⟩ | ⟨g, rfl, hg1, hgs, hgl, hrc⟩
      · omega
      have hgo : g = g0 ∨ N1 ≤ g := a4 g (by simp [ownL, Value.ownBlock])
      have hgn : ¬ (g = rb ∨ g = nb) := fun h => by omega
      have hkX : ∀ a u, (only W1 (NotOwn N1 (.slice (some ⟨g, 0, none⟩) (2 * L.length) cap))).cell? a = some u → X.cell? a = some u := fun a u hu => only_all a u (only_keep (S' := NotOwn N1 (.slice (some ⟨g, 0, none⟩) (2 * L.length) cap)) (fun b hb hs => ⟨hs, b3.block b hb (fun h => by have := hs.1; omega)⟩) a u hu)
      have hrX : ∀ j, X.cell? ⟨g, j, none⟩ = W1.cell? ⟨g, j, none⟩ := fun j => b3.cell (p := ⟨g, j, none⟩) hgs hgn
      have hlX : X.heap[lb]? = _ := (b3.block lb (by omega) (fun h => by omega)).trans a1
      refine (turn_second (t1 := plainT p.k 0) (t2 := plainT p.v 0) (cs := cs) (ds := ds) b1 b2 hlX (by omega) (by omega) ⟨hne.1, hne.2.1, hne.2.2.1⟩ (fun j hj => ?_) (fun j hj => ?_) (TRep.keep hkX _ _ ht1) (TRep.keep hkX _ _ ht2) hx s1 hy s3 s2 s4).mono fun e w' ⟨e1, e2, e3, e4⟩ => ?_
      · rw [hrX, hrc (2 * k * 11 + j) (by omega)]; exact hc j hj
      · rw [hrX, hrc ((2 * k + 1) * 11 + j) (by omega)]; exact hd j hj
      · refine ⟨e1, ⟨e2, ?_, b3.then e4 (fun i hi h => h)⟩, e4.mono (fun i hi h => .inr (.inl (by omega)))⟩
        rw [show ((2 * (k + 1) : Nat) : Int) = ((2 * k : Nat) : Int) + 2 by omega]; exact e3
end Go.Proofs.Ytgmdbpplfjkjmaa
