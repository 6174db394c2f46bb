/- DigestTurns' second closure: is it what the first went through? -/
import Derived.Test.YtgmdbpplfjkjmaaIs
import Derived.Test.YtgmdbpplfjkjmaaPlainEnd
import Derived.Test.YtgmdbpplfjkjmaaRefPart
namespace Go.Proofs.Ytgmdbpplfjkjmaa
open Go.RowKit
set_option linter.unusedVariables false
set_option linter.unusedSimpArgs false

set_option maxRecDepth 100000 in
set_option maxHeartbeats 6400000 in
theorem turn_second {W : World} {rb nb lb g cap m len : Nat} {v u : Val} {x y : Value} {fs gs : List Nat} {t1 t2 : Term} {cs ds : List Value} (hR : W.heap[rb]? = some (.cells #[.bool true] 4 (0, 0))) (hNb : W.heap[nb]? = some (.cells #[.int .i64 (m : Int)] 3 (0, 0)))
    (hL : W.heap[lb]? = some (.cells #[.slice (some ⟨g, 0, none⟩) len cap] 22 (0, 0))) (hm : m + 1 < len) (hlen : len ≤ 1048576) (hne : rb ≠ nb ∧ rb ≠ lb ∧ nb ≠ lb) (hc : ∀ j, j < 11 → W.cell? ⟨g, m * 11 + j, none⟩ = cs[j]?) (hd : ∀ j, j < 11 → W.cell? ⟨g, (m + 1) * 11 + j, none⟩ = ds[j]?)
    (ht1 : TRep W t1 cs) (ht2 : TRep W t2 ds) (hx : VRep W v x fs) (hs : smallV v) (hy : VRep W u y gs) (hs' : smallV u) (h1 : sameT (plainT v 0) t1 = true) (h2 : sameT (plainT u 0) t2 = true) :
    Calls Try.prog 31 #[x, y, .pointer (some ⟨rb, 0, none⟩), .pointer (some ⟨nb, 0, none⟩), .pointer (some ⟨lb, 0, none⟩)] W fun e w' =>
      e = .returned (.bool true) ∧ w'.heap[rb]? = some (.cells #[.bool true] 4 (0, 0)) ∧ w'.heap[nb]? = some (.cells #[.int .i64 ((m : Int) + 2)] 3 (0, 0)) ∧ But (fun i => i = rb ∨ i = nb) W w' := by
  have hl1 := TRep.len ht1
  have hl2 := TRep.len ht2
  obtain ⟨c0, c1, c2, c3, c4, c5, c6, c7, c8, c9, c10, rfl⟩ := eleven hl1
  obtain ⟨d0, d1, d2, d3, d4, d5, d6, d7, d8, d9, d10, rfl⟩ := eleven hl2
  have lt1 : rb < W.heap.size := (Array.getElem?_eq_some_iff.1 hR).1
  have lt2 : nb < W.heap.size := (Array.getElem?_eq_some_iff.1 hNb).1
  have lt3 : lb < W.heap.size := (Array.getElem?_eq_some_iff.1 hL).1
  have hbx := Lib.hid (show ∀ X, Below W.heap.size W X → X.cell? ⟨rb, 0, none⟩ = some (.bool true) ∧ X.cell? ⟨nb, 0, none⟩ = some (.int .i64 (m : Int)) ∧ X.cell? ⟨lb, 0, none⟩ = some (.slice (some ⟨g, 0, none⟩) len cap) ∧ X.frozen? ⟨rb, 0, none⟩ = false ∧ X.frozen? ⟨nb, 0, none⟩ = false from fun X hX => by
    have e1 := (hX.block rb lt1).trans hR
    have e2 := (hX.block nb lt2).trans hNb
    have e3 := (hX.block lb lt3).trans hL
    exact ⟨by rw [cell_of_row X rb 0 _ _ _ e1]; rfl, by rw [cell_of_row X nb 0 _ _ _ e2]; rfl, by rw [cell_of_row X lb 0 _ _ _ e3]; rfl, by simp [World.frozen?, e1], by simp [World.frozen?, e2]⟩)
  have hcX := Lib.hid (show ∀ X, Below W.heap.size W X → X.cell? ⟨g, m * 11, none⟩ = some c0 ∧ X.cell? ⟨g, m * 11 + 1, none⟩ = some c1 ∧ X.cell? ⟨g, m * 11 + 2, none⟩ = some c2 ∧ X.cell? ⟨g, m * 11 + 3, none⟩ = some c3 ∧ X.cell? ⟨g, m * 11 + 4, none⟩ = some c4 ∧ X.cell? ⟨g, m * 11 + 5, none⟩ = some c5 ∧ X.cell? ⟨g, m * 11 + 6, none⟩ = some c6 ∧ X.cell? ⟨g, m * 11 + 7, none⟩ = some c7 ∧ X.cell? ⟨g, m * 11 + 8, none⟩ = some c8 ∧ X.cell? ⟨g, m * 11 + 9, none⟩ = some c9 ∧ X.cell? ⟨g, m * 11 + 10, none⟩ = some c10 from fun X hX => ⟨keeps_of_below hX _ _ (hc 0 (by omega)), keeps_of_below hX _ _ (hc 1 (by omega)), keeps_of_below hX _ _ (hc 2 (by omega)), keeps_of_below hX _ _ (hc 3 (by omega)), keeps_of_below hX _ _ (hc 4 (by omega)), keeps_of_below hX _ _ (hc 5 (by omega)), keeps_of_below hX _ _ (hc 6 (by omega)), keeps_of_below hX _ _ (hc 7 (by omega)), keeps_of_below hX _ _ (hc 8 (by omega)), keeps_of_below hX _ _ (hc 9 (by omega)), keeps_of_below hX _ _ (hc 10 (by omega))⟩)
  have hdX := Lib.hid (show ∀ X, Below W.heap.size W X → X.cell? ⟨g, (m + 1) * 11, none⟩ = some d0 ∧ X.cell? ⟨g, (m + 1) * 11 + 1, none⟩ = some d1 ∧ X.cell? ⟨g, (m + 1) * 11 + 2, none⟩ = some d2 ∧ X.cell? ⟨g, (m + 1) * 11 + 3, none⟩ = some d3 ∧ X.cell? ⟨g, (m + 1) * 11 + 4, none⟩ = some d4 ∧ X.cell? ⟨g, (m + 1) * 11 + 5, none⟩ = some d5 ∧ X.cell? ⟨g, (m + 1) * 11 + 6, none⟩ = some d6 ∧ X.cell? ⟨g, (m + 1) * 11 + 7, none⟩ = some d7 ∧ X.cell? ⟨g, (m + 1) * 11 + 8, none⟩ = some d8 ∧ X.cell? ⟨g, (m + 1) * 11 + 9, none⟩ = some d9 ∧ X.cell? ⟨g, (m + 1) * 11 + 10, none⟩ = some d10 from fun X hX => ⟨keeps_of_below hX _ _ (hd 0 (by omega)), keeps_of_below hX _ _ (hd 1 (by omega)), keeps_of_below hX _ _ (hd 2 (by omega)), keeps_of_below hX _ _ (hd 3 (by omega)), keeps_of_below hX _ _ (hd 4 (by omega)), keeps_of_below hX _ _ (hd 5 (by omega)), keeps_of_below hX _ _ (hd 6 (by omega)), keeps_of_below hX _ _ (hd 7 (by omega)), keeps_of_below hX _ _ (hd 8 (by omega)), keeps_of_below hX _ _ (hd 9 (by omega)), keeps_of_below hX _ _ (hd 10 (by omega))⟩)
  have hI1 := Is_said (plain_any v) hx hs ht1
  rw [h1] at hI1
  have hI1H := Lib.hid hI1
  have hI2 := fun X (hX : Below W.heap.size W X) => Is_said (plain_any u) (VRep.but hy (below_but0 hX) (fun _ _ f => f)) hs' (TRep.keep (keeps_of_below hX) _ _ ht2)
  rw [h2] at hI2
  have hI2H := Lib.hid hI2
  have hfin := Lib.hid (show ∀ X, Below W.heap.size W X → ((X.setCell ⟨rb, 0, none⟩ (.bool true)).setCell ⟨nb, 0, none⟩ (.int .i64 ((m : Int) + 2))).heap[rb]? = some (.cells #[.bool true] 4 (0, 0)) ∧ ((X.setCell ⟨rb, 0, none⟩ (.bool true)).setCell ⟨nb, 0, none⟩ (.int .i64 ((m : Int) + 2))).heap[nb]? = some (.cells #[.int .i64 ((m : Int) + 2)] 3 (0, 0)) ∧ But (fun i => i = rb ∨ i = nb) W ((X.setCell ⟨rb, 0, none⟩ (.bool true)).setCell ⟨nb, 0, none⟩ (.int .i64 ((m : Int) + 2))) from fun X hX => by
    have e1 := (hX.block rb lt1).trans hR
    have e2 := (hX.block nb lt2).trans hNb
    refine ⟨(Below.heap_setCell _ ⟨nb, 0, none⟩ _ rb hne.1).trans (setCell_block e1 0 _), setCell_block ((Below.heap_setCell X ⟨rb, 0, none⟩ _ nb (fun e => hne.1 e.symm)).trans e2) 0 _, ?_⟩
    exact (((But.refl _ W).of_below hX (fun i hi h => by omega)).setCell (p := ⟨rb, 0, none⟩) (fun _ => .inl rfl) _).setCell (p := ⟨nb, 0, none⟩) (fun _ => .inr rfl) _)
  obtain ⟨x0, x1, x2, x3, x4⟩ := hbx.out W (Below.refl _ _)
  obtain ⟨q0, q1, q2, q3, q4, q5, q6, q7, q8, q9, q10⟩ := hcX.out W (Below.refl _ _)
  have hw1 : IntKind.i64.wrap ((m : Int) + 1) = (m : Int) + 1 := by rw [IntKind.wrap_i64]; omega
  have hw2 : IntKind.i64.wrap ((m : Int) + 2) = (m : Int) + 2 := by rw [IntKind.wrap_i64]; omega
  have hm1 : (m : Int) + 1 < (len : Int) := by omega
  have hm0 : (m : Int) < (len : Int) := by omega
  have hk0 : (0 : Int) ≤ (m : Int) := by omega
  have hk1 : (0 : Int) ≤ (m : Int) + 1 := by omega
  have hc1 : ((m : Int) + 1).toNat = m + 1 := by omega
  have hn1 : ¬ nb = rb := fun e => hne.1 e.symm
  have hn2 : ¬ rb = nb := hne.1
  clear hR hNb hL hne hc hd ht1 ht2 hx hs hy hs' h1 h2 hl1 hl2 lt1 lt2 lt3 hI1 hI2
  go_enter Try.func31, Try.ntmps31
  go_wp2_with (first
    | (go_at_call 14; refine (hI2H.out w1 hb1H.out).mono ?_; rintro e w2 ⟨rfl, hb2⟩; have hb2H := Lib.hid (hb1H.out.trans (hb2.mono hb1H.out.size)); clear hb2; obtain ⟨z0, z1, z2, z3, z4⟩ := hbx.out w2 hb2H.out)
    | (go_at_call 14; refine hI1H.out.mono ?_; rintro e w1 ⟨rfl, hb1⟩; have hb1H := Lib.hid hb1; clear hb1; obtain ⟨y0, y1, y2, y3, y4⟩ := hbx.out w1 hb1H.out; obtain ⟨r0, r1, r2, r3, r4, r5, r6, r7, r8, r9, r10⟩ := hdX.out w1 hb1H.out))
  go_ret
  exact ⟨rfl, hfin.out w2 hb2H.out⟩
end Go.Proofs.Ytgmdbpplfjkjmaa
