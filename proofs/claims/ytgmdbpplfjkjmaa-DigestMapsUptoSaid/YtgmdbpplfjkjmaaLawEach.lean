/- The law's 'each': Each goes through just the document's first pairs. -/
import Derived.Test.YtgmdbpplfjkjmaaBoth
import Derived.Test.YtgmdbpplfjkjmaaEach
import Derived.Test.YtgmdbpplfjkjmaaIs
import Derived.Test.YtgmdbpplfjkjmaaPlainEnd
import Derived.Test.YtgmdbpplfjkjmaaPlainLaw
import Derived.Test.YtgmdbpplfjkjmaaSpoil
import Derived.Test.YtgmdbpplfjkjmaaBuiltEnd
namespace Go.Proofs.Ytgmdbpplfjkjmaa
open Go.RowKit
set_option linter.unusedVariables false
set_option linter.unusedSimpArgs false

/-- What the closure has: is all right, how many calls came, the document's map, where to stop. -/
def EachAt (W : World) (rb nb db sb : Nat) (k stop : Int) (d : Nat) : Prop :=
  W.heap[rb]? = some (.cells #[.bool true] 4 (0, 0)) ∧ W.heap[nb]? = some (.cells #[.int .i64 k] 3 (0, 0)) ∧ W.heap[db]? = some (.cells #[.pointer (some ⟨d, 0, none⟩)] 50 (0, 0)) ∧ W.heap[sb]? = some (.cells #[.int .i64 stop] 3 (0, 0))
/-- Five boxes that are not one another. -/
structure Boxes (w0 w : World) (d : Nat) (sv : Value) (rb nb db sb : Nat) : Prop where
  lt : rb < w.heap.size ∧ nb < w.heap.size ∧ db < w.heap.size ∧ sb < w.heap.size
  ne : rb ≠ nb ∧ rb ≠ db ∧ rb ≠ sb ∧ nb ≠ db ∧ nb ≠ sb
  ofd : ¬ OfD d sv rb ∧ ¬ OfD d sv nb
  ge : w0.heap.size ≤ rb ∧ w0.heap.size ≤ nb
theorem EachAt.but {W X : World} {rb nb db sb : Nat} {k stop : Int} {d : Nat} {Z : Nat → Prop} (h : EachAt W rb nb db sb k stop d) (hb : But Z W X) (hz : ¬ Z rb ∧ ¬ Z nb ∧ ¬ Z db ∧ ¬ Z sb) : EachAt X rb nb db sb k stop d := by
  obtain ⟨h1, h2, h3, h4⟩ := h
  exact ⟨(hb.block _ (Array.getElem?_eq_some_iff.1 h1).1 hz.1).trans h1, (hb.block _ (Array.getElem?_eq_some_iff.1 h2).1 hz.2.1).trans h2, (hb.block _ (Array.getElem?_eq_some_iff.1 h3).1 hz.2.2.1).trans h3, (hb.block _ (Array.getElem?_eq_some_iff.1 h4).1 hz.2.2.2).trans h4⟩
set_option maxRecDepth 100000 in
set_option maxHeartbeats 12800000 in
theorem each_do {w0 w W : World} {d rb nb db sb : Nat} {sv : Value} {qs : List QE} {N k : Nat} {stop : Int} {p : PE} {q : QE} (hD : DocM w0 w d sv qs) (hq : qs[k]? = some q) (hpk : p.k = builtV q.k) (hpv : p.v = builtV q.v)
    (hE : EachAt W rb nb db sb k stop d) (hbut : But (fun i => i = rb ∨ i = nb) w W) (hB : Boxes w0 w d sv rb nb db sb) (hNW : N ≤ W.heap.size) (hx : VRep W p.k p.a p.ga) (hy : VRep W p.v p.c p.gc) (hnd : p.fs.Nodup) (hfs : ∀ b ∈ p.fs, w.heap.size ≤ b ∧ b < N) :
    Calls Try.prog 85 #[p.a, p.c, .pointer (some ⟨rb, 0, none⟩), .pointer (some ⟨nb, 0, none⟩), .pointer (some ⟨db, 0, none⟩), .pointer (some ⟨sb, 0, none⟩)] W fun e w' =>
      e = .returned (.bool (decide ((k : Int) + 1 ≠ stop))) ∧ EachAt w' rb nb db sb ((k : Int) + 1) stop d ∧ But (fun i => i = rb ∨ i = nb) w w' ∧ But (fun b => b ∈ p.fs ∨ b < w.heap.size) W w' := by
  obtain ⟨pk, pv, pa, pc, ga, gc⟩ := p
  obtain ⟨kc, t, vc, u⟩ := q
  dsimp only at hpk hpv hx hy ⊢
  subst hpk hpv
  have hqm := List.mem_of_getElem? hq
  obtain ⟨ht, hu, hok1, hok2⟩ := hD.ok _ hqm
  dsimp only at ht hu hok1 hok2
  have hW0 : Below w0.heap.size w0 W := hD.bel.trans (But.below' hbut hD.bel.size (fun i hi h => by rcases h with rfl | rfl; exact absurd hB.ge.1 (by omega); exact absurd hB.ge.2 (by omega)))
  have hDW : DocM w0 W d sv qs := hD.keep hW0 (fun b hb => hbut.block b (hD.lts b hb).2 (fun h => by rcases h with rfl | rfl; exact hB.ofd.1 hb; exact hB.ofd.2 hb))
  have hwide := hD.ok.wide
  obtain ⟨f1, f2⟩ := flatQ_at hwide hq
  dsimp only at f1 f2
  have hil := (List.getElem?_eq_some_iff.1 hq).1
  have hsmq := hD.small
  obtain ⟨a, cap, rfl, hcap, hmax, -, hform⟩ := ownsRow_form hDW.row
  unfold maxLen at hmax
  rcases hform with ⟨-, h0, -⟩ | ⟨g, rfl, hg1, hgs, hgl, hrc⟩
  · omega
  have hgo : OfD d (.slice (some ⟨g, 0, none⟩) qs.length cap) g := .inr (by simp [ownL, Value.ownBlock])
  have hgd : g < W.heap.size := (hDW.lts g hgo).2
  have hgne : g ≠ rb ∧ g ≠ nb := ⟨fun e => hB.ofd.1 (e ▸ hgo), fun e => hB.ofd.2 (e ▸ hgo)⟩
  have hdne : d ≠ rb ∧ d ≠ nb := ⟨fun e => hB.ofd.1 (.inl e.symm), fun e => hB.ofd.2 (.inl e.symm)⟩
  have hdc : W.cell? ⟨d, 0, none⟩ = some (.slice (some ⟨g, 0, none⟩) qs.length cap) := by rw [cell_of_row W d 0 _ _ _ hDW.cell]; rfl
  have hrow1 : ∀ j, j < 11 → W.cell? ⟨g, k * 22 + j, none⟩ = kc[j]? := fun j hj => (hrc (k * 22 + j) (by omega)).trans (f1 j hj)
  have hrow2 : ∀ j, j < 11 → W.cell? ⟨g, k * 22 + 11 + j, none⟩ = vc[j]? := fun j hj => (hrc (k * 22 + 11 + j) (by omega)).trans (f2 j hj)
  have hkl := TRep.len ht
  have hvl := TRep.len hu
  obtain ⟨c0, c1, c2, c3, c4, c5, c6, c7, c8, c9, c10, rfl⟩ := eleven hkl
  obtain ⟨d0, d1, d2, d3, d4, d5, d6, d7, d8, d9, d10, rfl⟩ := eleven hvl
  have hwl := hbut.size
  have hSall : ∀ X, But (fun i => i = rb) W X → X.heap[rb]? = some (.cells #[.bool true] 4 (0, 0)) → X.cell? ⟨rb, 0, none⟩ = some (.bool true) ∧ X.cell? ⟨nb, 0, none⟩ = some (.int .i64 (k : Int)) ∧ X.cell? ⟨db, 0, none⟩ = some (.pointer (some ⟨d, 0, none⟩)) ∧ X.cell? ⟨d, 0, none⟩ = some (.slice (some ⟨g, 0, none⟩) qs.length cap) ∧ X.frozen? ⟨rb, 0, none⟩ = false ∧ X.cell? ⟨g, k * 22, none⟩ = some c0 ∧ X.cell? ⟨g, k * 22 + 1, none⟩ = some c1 ∧ X.cell? ⟨g, k * 22 + 2, none⟩ = some c2 ∧ X.cell? ⟨g, k * 22 + 3, none⟩ = some c3 ∧ X.cell? ⟨g, k * 22 + 4, none⟩ = some c4 ∧ X.cell? ⟨g, k * 22 + 5, none⟩ = some c5 ∧ X.cell? ⟨g, k * 22 + 6, none⟩ = some c6 ∧ X.cell? ⟨g, k * 22 + 7, none⟩ = some c7 ∧ X.cell? ⟨g, k * 22 + 8, none⟩ = some c8 ∧ X.cell? ⟨g, k * 22 + 9, none⟩ = some c9 ∧ X.cell? ⟨g, k * 22 + 10, none⟩ = some c10 ∧ X.cell? ⟨g, k * 22 + 11, none⟩ = some d0 ∧ X.cell? ⟨g, k * 22 + 11 + 1, none⟩ = some d1 ∧ X.cell? ⟨g, k * 22 + 11 + 2, none⟩ = some d2 ∧ X.cell? ⟨g, k * 22 + 11 + 3, none⟩ = some d3 ∧ X.cell? ⟨g, k * 22 + 11 + 4, none⟩ = some d4 ∧ X.cell? ⟨g, k * 22 + 11 + 5, none⟩ = some d5 ∧ X.cell? ⟨g, k * 22 + 11 + 6, none⟩ = some d6 ∧ X.cell? ⟨g, k * 22 + 11 + 7, none⟩ = some d7 ∧ X.cell? ⟨g, k * 22 + 11 + 8, none⟩ = some d8 ∧ X.cell? ⟨g, k * 22 + 11 + 9, none⟩ = some d9 ∧ X.cell? ⟨g, k * 22 + 11 + 10, none⟩ = some d10 := fun X hX hr => by
    have hc1 : X.cell? ⟨rb, 0, none⟩ = some (.bool true) := by rw [cell_of_row X rb 0 _ _ _ hr]; rfl
    have hE2 : X.heap[nb]? = _ := (hX.block nb (Array.getElem?_eq_some_iff.1 hE.2.1).1 (fun h => hB.ne.1 h.symm)).trans hE.2.1
    have hc2 : X.cell? ⟨nb, 0, none⟩ = some (.int .i64 (k : Int)) := by rw [cell_of_row X nb 0 _ _ _ hE2]; rfl
    have hE3 : X.heap[db]? = _ := (hX.block db (Array.getElem?_eq_some_iff.1 hE.2.2.1).1 (fun h => hB.ne.2.1 h.symm)).trans hE.2.2.1
    have hc3 : X.cell? ⟨db, 0, none⟩ = some (.pointer (some ⟨d, 0, none⟩)) := by rw [cell_of_row X db 0 _ _ _ hE3]; rfl
    have hc4 : X.cell? ⟨d, 0, none⟩ = _ := (hX.cell (p := ⟨d, 0, none⟩) hDW.lt hdne.1).trans hdc
    have hz : X.frozen? ⟨rb, 0, none⟩ = false := by simp [World.frozen?, hr]
    have hg1 : ∀ j, j < 11 → X.cell? ⟨g, k * 22 + j, none⟩ = [c0, c1, c2, c3, c4, c5, c6, c7, c8, c9, c10][j]? := fun j hj => (hX.cell (p := ⟨g, k * 22 + j, none⟩) hgd hgne.1).trans (hrow1 j hj)
    have hg2 : ∀ j, j < 11 → X.cell? ⟨g, k * 22 + 11 + j, none⟩ = [d0, d1, d2, d3, d4, d5, d6, d7, d8, d9, d10][j]? := fun j hj => (hX.cell (p := ⟨g, k * 22 + 11 + j, none⟩) hgd hgne.1).trans (hrow2 j hj)
    exact ⟨hc1, hc2, hc3, hc4, hz, hg1 0 (by omega), hg1 1 (by omega), hg1 2 (by omega), hg1 3 (by omega), hg1 4 (by omega), hg1 5 (by omega), hg1 6 (by omega), hg1 7 (by omega), hg1 8 (by omega), hg1 9 (by omega), hg1 10 (by omega), hg2 0 (by omega), hg2 1 (by omega), hg2 2 (by omega), hg2 3 (by omega), hg2 4 (by omega), hg2 5 (by omega), hg2 6 (by omega), hg2 7 (by omega), hg2 8 (by omega), hg2 9 (by omega), hg2 10 (by omega)⟩
  have hSk := Lib.hid (fun X (hX : Below W.heap.size W X) => hSall X ((But.refl _ W).of_below hX (fun i hi h => by omega)) ((hX.block rb (Array.getElem?_eq_some_iff.1 hE.1).1).trans hE.1))
  have hset := Lib.hid (show ∀ X, Below W.heap.size W X → But (fun i => i = rb) W (X.setCell ⟨rb, 0, none⟩ (.bool true)) ∧ (X.setCell ⟨rb, 0, none⟩ (.bool true)).heap[rb]? = some (.cells #[.bool true] 4 (0, 0)) from fun X hX =>
    ⟨((But.refl (fun i => i = rb) W).of_below hX (fun i hi h => by omega)).setCell (p := ⟨rb, 0, none⟩) (fun _ => rfl) _, setCell_block ((hX.block rb (Array.getElem?_eq_some_iff.1 hE.1).1).trans hE.1) 0 _⟩)
  have hSallH := Lib.hid hSall
  have hisK := Lib.hid (fun X (hX : Below W.heap.size W X) => Is_said (plain_any (builtV t)) (VRep.but hx (below_but0 hX) (fun _ _ f => f)) (small_built t _ ht) (TRep.keep (keeps_of_below (hW0.trans (hX.mono hW0.size))) _ _ ht))
  have hisV := Lib.hid (fun X (hX : Below W.heap.size W X) => Is_said (plain_any (builtV u)) (VRep.but hy (below_but0 hX) (fun _ _ f => f)) (small_built u _ hu) (TRep.keep (keeps_of_below (hW0.trans (hX.mono hW0.size))) _ _ hu))
  rw [is_own hok1] at hisK
  rw [is_own hok2] at hisV
  have hEH := Lib.hid hE
  have hBH := Lib.hid hB
  have hbutH := Lib.hid hbut
  have hgaL : ∀ b ∈ ga, w.heap.size ≤ b ∧ b < W.heap.size := fun b hb => by have := hfs b (List.mem_append_left _ hb); omega
  have hgcL : ∀ b ∈ gc, w.heap.size ≤ b ∧ b < W.heap.size := fun b hb => by have := hfs b (List.mem_append_right _ hb); omega
  have hgaH := Lib.hid hgaL
  have hgcH := Lib.hid hgcL
  have hboxne : ∀ {b : Nat}, b < w.heap.size → b ∉ ga ∧ b ∉ gc := fun hb => ⟨fun h => by have := (hgaL _ h).1; omega, fun h => by have := (hgcL _ h).1; omega⟩
  have hboxH := Lib.hid (show (rb ∉ ga ∧ rb ∉ gc) ∧ (nb ∉ ga ∧ nb ∉ gc) ∧ (db ∉ ga ∧ db ∉ gc) ∧ (sb ∉ ga ∧ sb ∉ gc) from ⟨hboxne hB.lt.1, hboxne hB.lt.2.1, hboxne hB.lt.2.2.1, hboxne hB.lt.2.2.2⟩)
  have hndp : ga.Nodup ∧ gc.Nodup ∧ ∀ a ∈ ga, ∀ b ∈ gc, a ≠ b := List.nodup_append.1 hnd
  have hsp1 := Lib.hid (fun X (hX : But (fun i => i = rb) W X) => spoil_any (builtV t) pa ga X (VRep.but hx hX (fun b hb e => hboxH.out.1.1 (e ▸ hb))) (small_built t _ ht) hndp.1)
  have hsp2 := Lib.hid (fun X Y (hX : But (fun i => i = rb) W X) (hY : But (fun i => i ∈ ga) X Y) => spoil_any (builtV u) pc gc Y (VRep.but (VRep.but hy hX (fun b hb e => hboxH.out.1.2 (e ▸ hb))) hY (fun b hb h => hndp.2.2 b h b hb rfl)) (small_built u _ hu) hndp.2.1)
  have hfin := Lib.hid (show ∀ X Y Z, But (fun i => i = rb) W X → X.heap[rb]? = some (.cells #[.bool true] 4 (0, 0)) → But (fun i => i ∈ ga) X Y → But (fun i => i ∈ gc) Y Z →
      Z.cell? ⟨nb, 0, none⟩ = some (.int .i64 (k : Int)) ∧ Z.cell? ⟨sb, 0, none⟩ = some (.int .i64 stop) ∧ Z.frozen? ⟨nb, 0, none⟩ = false ∧ EachAt (Z.setCell ⟨nb, 0, none⟩ (.int .i64 ((k : Int) + 1))) rb nb db sb ((k : Int) + 1) stop d ∧
      But (fun i => i = rb ∨ i = nb) w (Z.setCell ⟨nb, 0, none⟩ (.int .i64 ((k : Int) + 1))) ∧ But (fun b => b ∈ (PE.mk (builtV t) (builtV u) pa pc ga gc).fs ∨ b < w.heap.size) W (Z.setCell ⟨nb, 0, none⟩ (.int .i64 ((k : Int) + 1))) from fun X Y Z hX hr hY hZ => by
    have hXE : EachAt X rb nb db sb k stop d := ⟨hr, (hX.block nb (Array.getElem?_eq_some_iff.1 hE.2.1).1 (fun h => hB.ne.1 h.symm)).trans hE.2.1, (hX.block db (Array.getElem?_eq_some_iff.1 hE.2.2.1).1 (fun h => hB.ne.2.1 h.symm)).trans hE.2.2.1, (hX.block sb (Array.getElem?_eq_some_iff.1 hE.2.2.2).1 (fun h => hB.ne.2.2.1 h.symm)).trans hE.2.2.2⟩
    have hZE : EachAt Z rb nb db sb k stop d := (hXE.but hY ⟨hboxH.out.1.1, hboxH.out.2.1.1, hboxH.out.2.2.1.1, hboxH.out.2.2.2.1⟩).but hZ ⟨hboxH.out.1.2, hboxH.out.2.1.2, hboxH.out.2.2.1.2, hboxH.out.2.2.2.2⟩
    obtain ⟨z1, z2, z3, z4⟩ := hZE
    have hbWZ : But (fun b => b = rb ∨ b ∈ ga ∨ b ∈ gc) W Z := ((hX.mono (fun i _ h => Or.inl h)).then hY (fun i _ h => .inr (.inl h))).then hZ (fun i _ h => .inr (.inr h))
    have hnW : nb < W.heap.size := (Array.getElem?_eq_some_iff.1 hE.2.1).1
    refine ⟨by rw [cell_of_row Z nb 0 _ _ _ z2]; rfl, by rw [cell_of_row Z sb 0 _ _ _ z4]; rfl, by simp [World.frozen?, z2], ⟨?_, setCell_block z2 0 _, ?_, ?_⟩, ?_, ?_⟩
    · exact (Below.heap_setCell Z ⟨nb, 0, none⟩ _ rb hB.ne.1).trans z1
    · exact (Below.heap_setCell Z ⟨nb, 0, none⟩ _ db (fun e => hB.ne.2.2.2.1 e.symm)).trans z3
    · exact (Below.heap_setCell Z ⟨nb, 0, none⟩ _ sb (fun e => hB.ne.2.2.2.2 e.symm)).trans z4
    · refine (hbut.then hbWZ (fun i hi h => ?_)).setCell (p := ⟨nb, 0, none⟩) (fun _ => .inr rfl) _
      rcases h with h | h | h
      · exact .inl h
      · have := (hgaL i h).1; omega
      · have := (hgcL i h).1; omega
    · refine (hbWZ.mono (fun i hi h => ?_)).setCell (p := ⟨nb, 0, none⟩) (fun _ => .inr hB.lt.2.1) _
      rcases h with h | h | h
      · exact .inr (by rw [h]; exact hB.lt.1)
      · exact .inl (List.mem_append_left _ h)
      · exact .inl (List.mem_append_right _ h))
  have hil2 : (k : Int) < (qs.length : Int) := by omega
  have hw : IntKind.i64.wrap ((k : Int) + 1) = (k : Int) + 1 := by rw [IntKind.wrap_i64]; omega
  have hk0 : (0 : Int) ≤ (k : Int) := by omega
  have hne1 : ¬ sb = nb := fun e => hB.ne.2.2.2.2 e.symm
  have hne2 : ¬ nb = sb := hB.ne.2.2.2.2
  clear hD hq hE hbut hB hx hy hnd hfs hqm ht hu hok1 hok2 hW0 hDW hwide f1 f2 hcap hmax hgl hgs hg1 hrc hgo hgd hgne hdne hdc hrow1 hrow2 hkl hvl hwl hSall hgaL hgcL hboxne hndp
  go_enter Try.func85, Try.ntmps85
  go_wp2_with fail
  refine wp_region_held_drew (S := (fun w' => w'.cell? ⟨rb, 0, none⟩ = some (.bool true) ∧ w'.cell? ⟨nb, 0, none⟩ = some (.int .i64 (k : Int)) ∧ w'.cell? ⟨db, 0, none⟩ = some (.pointer (some ⟨d, 0, none⟩)) ∧ w'.cell? ⟨d, 0, none⟩ = some (.slice (some ⟨g, 0, none⟩) qs.length cap) ∧ w'.frozen? ⟨rb, 0, none⟩ = false ∧ w'.cell? ⟨g, k * 22, none⟩ = some c0 ∧ w'.cell? ⟨g, k * 22 + 1, none⟩ = some c1 ∧ w'.cell? ⟨g, k * 22 + 2, none⟩ = some c2 ∧ w'.cell? ⟨g, k * 22 + 3, none⟩ = some c3 ∧ w'.cell? ⟨g, k * 22 + 4, none⟩ = some c4 ∧ w'.cell? ⟨g, k * 22 + 5, none⟩ = some c5 ∧ w'.cell? ⟨g, k * 22 + 6, none⟩ = some c6 ∧ w'.cell? ⟨g, k * 22 + 7, none⟩ = some c7 ∧ w'.cell? ⟨g, k * 22 + 8, none⟩ = some c8 ∧ w'.cell? ⟨g, k * 22 + 9, none⟩ = some c9 ∧ w'.cell? ⟨g, k * 22 + 10, none⟩ = some c10 ∧ w'.cell? ⟨g, k * 22 + 11, none⟩ = some d0 ∧ w'.cell? ⟨g, k * 22 + 11 + 1, none⟩ = some d1 ∧ w'.cell? ⟨g, k * 22 + 11 + 2, none⟩ = some d2 ∧ w'.cell? ⟨g, k * 22 + 11 + 3, none⟩ = some d3 ∧ w'.cell? ⟨g, k * 22 + 11 + 4, none⟩ = some d4 ∧ w'.cell? ⟨g, k * 22 + 11 + 5, none⟩ = some d5 ∧ w'.cell? ⟨g, k * 22 + 11 + 6, none⟩ = some d6 ∧ w'.cell? ⟨g, k * 22 + 11 + 7, none⟩ = some d7 ∧ w'.cell? ⟨g, k * 22 + 11 + 8, none⟩ = some d8 ∧ w'.cell? ⟨g, k * 22 + 11 + 9, none⟩ = some d9 ∧ w'.cell? ⟨g, k * 22 + 11 + 10, none⟩ = some d10)) (by kernel_rfl) ?_ (fun hHeld => ?_)
  · exact hSk.out _ (Below.refl W.heap.size W).drew
  refine wpAnyH_take (i := 0) (v := ?va0) rfl (by kernel_rfl) (by kernel_rfl) (by kernel_rfl) (fun _ _ _ h => h) (.inl ⟨by rfl, ?hya0⟩) (by assumption) ?resta0
  case hya0 => (intro w hSw; (try dsimp only at hSw); go_simp; first | done | with_reducible rfl)
  (try simp only [Act.put, pu1, pu2, pu3, pu4, pu5, pu6])
  refine wpAnyH_take (i := 1) (v := ?va1) rfl (by kernel_rfl) (by kernel_rfl) (by kernel_rfl) (fun _ _ _ h => h) (.inl ⟨by rfl, ?hya1⟩) (by assumption) ?resta1
  case hya1 => (intro w hSw; (try dsimp only at hSw); go_simp; first | done | with_reducible rfl)
  (try simp only [Act.put, pu1, pu2, pu3, pu4, pu5, pu6])
  refine wpAnyH_take (i := 2) (v := ?va2) rfl (by kernel_rfl) (by kernel_rfl) (by kernel_rfl) (fun _ _ _ h => h) (.inl ⟨by rfl, ?hya2⟩) (by assumption) ?resta2
  case hya2 => (intro w hSw; (try dsimp only at hSw); go_simp; first | done | with_reducible rfl)
  (try simp only [Act.put, pu1, pu2, pu3, pu4, pu5, pu6])
  refine wpAnyH_take (i := 3) (v := ?va3) rfl (by kernel_rfl) (by kernel_rfl) (by kernel_rfl) (fun _ _ _ h => h) (.inl ⟨by rfl, ?hya3⟩) (by assumption) ?resta3
  case hya3 => (intro w hSw; (try dsimp only at hSw); go_simp; first | done | with_reducible rfl)
  (try simp only [Act.put, pu1, pu2, pu3, pu4, pu5, pu6])
  refine wpAnyH_take (i := 4) (v := ?va4) rfl (by kernel_rfl) (by kernel_rfl) (by kernel_rfl) (fun _ _ _ h => h) (.inl ⟨by rfl, ?hya4⟩) (by assumption) ?resta4
  case hya4 => (intro w hSw; (try dsimp only at hSw); go_simp; first | done | with_reducible rfl)
  (try simp only [Act.put, pu1, pu2, pu3, pu4, pu5, pu6])
  refine wpAnyH_take (i := 5) (v := ?va5) rfl (by kernel_rfl) (by kernel_rfl) (by kernel_rfl) (fun _ _ _ h => h) (.inl ⟨by rfl, ?hya5⟩) (by assumption) ?resta5
  case hya5 => (intro w hSw; (try dsimp only at hSw); go_simp; first | done | with_reducible rfl)
  (try simp only [Act.put, pu1, pu2, pu3, pu4, pu5, pu6])
  refine wpAnyH_take (i := 6) (v := ?va6) rfl (by kernel_rfl) (by kernel_rfl) (by kernel_rfl) (fun _ _ _ h => h) (.inl ⟨by rfl, ?hya6⟩) (by assumption) ?resta6
  case hya6 => (intro w hSw; (try dsimp only at hSw); go_simp; first | done | with_reducible rfl)
  (try simp only [Act.put, pu1, pu2, pu3, pu4, pu5, pu6])
  refine wpAnyH_take (i := 7) (v := ?va7) rfl (by kernel_rfl) (by kernel_rfl) (by kernel_rfl) (fun _ _ _ h => h) (.inl ⟨by rfl, ?hya7⟩) (by assumption) ?resta7
  case hya7 => (intro w hSw; (try dsimp only at hSw); go_simp; first | done | with_reducible rfl)
  (try simp only [Act.put, pu1, pu2, pu3, pu4, pu5, pu6])
  refine wpAnyH_take (i := 8) (v := ?va8) rfl (by kernel_rfl) (by kernel_rfl) (by kernel_rfl) (fun _ _ _ h => h) (.inl ⟨by rfl, ?hya8⟩) (by assumption) ?resta8
  case hya8 => (intro w hSw; (try dsimp only at hSw); go_simp; first | done | with_reducible rfl)
  (try simp only [Act.put, pu1, pu2, pu3, pu4, pu5, pu6])
  refine wpAnyH_take (i := 9) (v := ?va9) rfl (by kernel_rfl) (by kernel_rfl) (by kernel_rfl) (fun _ _ _ h => h) (.inl ⟨by rfl, ?hya9⟩) (by assumption) ?resta9
  case hya9 => (intro w hSw; (try dsimp only at hSw); go_simp; first | done | with_reducible rfl)
  (try simp only [Act.put, pu1, pu2, pu3, pu4, pu5, pu6])
  refine wpAnyH_take (i := 10) (v := ?va10) rfl (by kernel_rfl) (by kernel_rfl) (by kernel_rfl) (fun _ _ _ h => h) (.inl ⟨by rfl, ?hya10⟩) (by assumption) ?resta10
  case hya10 => (intro w hSw; (try dsimp only at hSw); go_simp; first | done | with_reducible rfl)
  (try simp only [Act.put, pu1, pu2, pu3, pu4, pu5, pu6])
  refine wpAnyH_take (i := 11) (v := ?va11) rfl (by kernel_rfl) (by kernel_rfl) (by kernel_rfl) (fun _ _ _ h => h) (.inl ⟨by rfl, ?hya11⟩) (by assumption) ?resta11
  case hya11 => (intro w hSw; (try dsimp only at hSw); go_simp; first | done | with_reducible rfl)
  (try simp only [Act.put, pu1, pu2, pu3, pu4, pu5, pu6])
  refine wpAnyH_take (i := 12) (v := ?va12) rfl (by kernel_rfl) (by kernel_rfl) (by kernel_rfl) (fun _ _ _ h => h) (.inl ⟨by rfl, ?hya12⟩) (by assumption) ?resta12
  case hya12 => (intro w hSw; (try dsimp only at hSw); go_simp; first | done | with_reducible rfl)
  (try simp only [Act.put, pu1, pu2, pu3, pu4, pu5, pu6])
  refine wpAnyH_take (i := 13) (v := ?va13) rfl (by kernel_rfl) (by kernel_rfl) (by kernel_rfl) (fun _ _ _ h => h) (.inl ⟨by rfl, ?hya13⟩) (by assumption) ?resta13
  case hya13 => (intro w hSw; (try dsimp only at hSw); go_simp; first | done | with_reducible rfl)
  (try simp only [Act.put, pu1, pu2, pu3, pu4, pu5, pu6])
  refine wpAnyH_take (i := 14) (v := ?va14) rfl (by kernel_rfl) (by kernel_rfl) (by kernel_rfl) (fun _ _ _ h => h) (.inl ⟨by rfl, ?hya14⟩) (by assumption) ?resta14
  case hya14 => (intro w hSw; (try dsimp only at hSw); go_simp; first | done | with_reducible rfl)
  (try simp only [Act.put, pu1, pu2, pu3, pu4, pu5, pu6])
  refine wpAnyH_take (i := 15) (v := ?va15) rfl (by kernel_rfl) (by kernel_rfl) (by kernel_rfl) (fun _ _ _ h => h) (.inl ⟨by rfl, ?hya15⟩) (by assumption) ?resta15
  case hya15 => (intro w hSw; (try dsimp only at hSw); go_simp; first | done | with_reducible rfl)
  (try simp only [Act.put, pu1, pu2, pu3, pu4, pu5, pu6])
  refine wpAnyH_take (i := 16) (v := ?va16) rfl (by kernel_rfl) (by kernel_rfl) (by kernel_rfl) (fun _ _ _ h => h) (.inl ⟨by rfl, ?hya16⟩) (by assumption) ?resta16
  case hya16 => (intro w hSw; (try dsimp only at hSw); go_simp; first | done | with_reducible rfl)
  (try simp only [Act.put, pu1, pu2, pu3, pu4, pu5, pu6])
  refine wpAnyH_take (i := 17) (v := ?va17) rfl (by kernel_rfl) (by kernel_rfl) (by kernel_rfl) (fun _ _ _ h => h) (.inl ⟨by rfl, ?hya17⟩) (by assumption) ?resta17
  case hya17 => (intro w hSw; (try dsimp only at hSw); go_simp; first | done | with_reducible rfl)
  (try simp only [Act.put, pu1, pu2, pu3, pu4, pu5, pu6])
  refine wpAnyH_take (i := 18) (v := ?va18) rfl (by kernel_rfl) (by kernel_rfl) (by kernel_rfl) (fun _ _ _ h => h) (.inl ⟨by rfl, ?hya18⟩) (by assumption) ?resta18
  case hya18 => (intro w hSw; (try dsimp only at hSw); go_simp; first | done | with_reducible rfl)
  (try simp only [Act.put, pu1, pu2, pu3, pu4, pu5, pu6])
  refine wpAnyH_take (i := 19) (v := ?va19) rfl (by kernel_rfl) (by kernel_rfl) (by kernel_rfl) (fun _ _ _ h => h) (.inl ⟨by rfl, ?hya19⟩) (by assumption) ?resta19
  case hya19 => (intro w hSw; (try dsimp only at hSw); go_simp; first | done | with_reducible rfl)
  (try simp only [Act.put, pu1, pu2, pu3, pu4, pu5, pu6])
  refine wpAnyH_ready (rs := [20]) (by kernel_rfl) (by simp) ?_
  refine AllReadyH.cons rfl (fun K hK => ?_) AllReadyH.nil
  rw [if_pos (by rfl)]
  go_simp
  refine (hisK.out _ (Below.refl W.heap.size W).drew).mono ?_
  rintro e w1 ⟨rfl, hw1⟩
  have h1 : Below W.heap.size W w1 := ((Below.refl W.heap.size W).drew).trans (below_le hw1 ((Below.refl W.heap.size W).drew).size)
  refine hK.out _ _ ?_ (fun hHeld2 => ?_)
  · exact hSk.out _ h1
  clear hK K
  (try simp only [Act.put, pu1, pu2, pu3, pu4, pu5, pu6])
  refine wpAnyH_take (i := 21) (v := ?va21) rfl (by kernel_rfl) (by kernel_rfl) (by kernel_rfl) (fun _ _ _ h => h) (.inl ⟨by rfl, ?hya21⟩) (by assumption) ?resta21
  case hya21 => (intro w hSw; (try dsimp only at hSw); go_simp; first | done | with_reducible rfl)
  (try simp only [Act.put, pu1, pu2, pu3, pu4, pu5, pu6])
  refine wpAnyH_take (i := 22) (v := ?va22) rfl (by kernel_rfl) (by kernel_rfl) (by kernel_rfl) (fun _ _ _ h => h) (.inl ⟨by rfl, ?hya22⟩) (by assumption) ?resta22
  case hya22 => (intro w hSw; (try dsimp only at hSw); go_simp; first | done | with_reducible rfl)
  (try simp only [Act.put, pu1, pu2, pu3, pu4, pu5, pu6])
  refine wpAnyH_take (i := 23) (v := ?va23) rfl (by kernel_rfl) (by kernel_rfl) (by kernel_rfl) (fun _ _ _ h => h) (.inl ⟨by rfl, ?hya23⟩) (by assumption) ?resta23
  case hya23 => (intro w hSw; (try dsimp only at hSw); go_simp; first | done | with_reducible rfl)
  (try simp only [Act.put, pu1, pu2, pu3, pu4, pu5, pu6])
  refine wpAnyH_take (i := 24) (v := ?va24) rfl (by kernel_rfl) (by kernel_rfl) (by kernel_rfl) (fun _ _ _ h => h) (.inl ⟨by rfl, ?hya24⟩) (by assumption) ?resta24
  case hya24 => (intro w hSw; (try dsimp only at hSw); go_simp; first | done | with_reducible rfl)
  (try simp only [Act.put, pu1, pu2, pu3, pu4, pu5, pu6])
  refine wpAnyH_take (i := 25) (v := ?va25) rfl (by kernel_rfl) (by kernel_rfl) (by kernel_rfl) (fun _ _ _ h => h) (.inl ⟨by rfl, ?hya25⟩) (by assumption) ?resta25
  case hya25 => (intro w hSw; (try dsimp only at hSw); go_simp; first | done | with_reducible rfl)
  (try simp only [Act.put, pu1, pu2, pu3, pu4, pu5, pu6])
  refine wpAnyH_take (i := 26) (v := ?va26) rfl (by kernel_rfl) (by kernel_rfl) (by kernel_rfl) (fun _ _ _ h => h) (.inl ⟨by rfl, ?hya26⟩) (by assumption) ?resta26
  case hya26 => (intro w hSw; (try dsimp only at hSw); go_simp; first | done | with_reducible rfl)
  (try simp only [Act.put, pu1, pu2, pu3, pu4, pu5, pu6])
  refine wpAnyH_take (i := 27) (v := ?va27) rfl (by kernel_rfl) (by kernel_rfl) (by kernel_rfl) (fun _ _ _ h => h) (.inl ⟨by rfl, ?hya27⟩) (by assumption) ?resta27
  case hya27 => (intro w hSw; (try dsimp only at hSw); go_simp; first | done | with_reducible rfl)
  (try simp only [Act.put, pu1, pu2, pu3, pu4, pu5, pu6])
  refine wpAnyH_take (i := 28) (v := ?va28) rfl (by kernel_rfl) (by kernel_rfl) (by kernel_rfl) (fun _ _ _ h => h) (.inl ⟨by rfl, ?hya28⟩) (by assumption) ?resta28
  case hya28 => (intro w hSw; (try dsimp only at hSw); go_simp; first | done | with_reducible rfl)
  (try simp only [Act.put, pu1, pu2, pu3, pu4, pu5, pu6])
  refine wpAnyH_take (i := 29) (v := ?va29) rfl (by kernel_rfl) (by kernel_rfl) (by kernel_rfl) (fun _ _ _ h => h) (.inl ⟨by rfl, ?hya29⟩) (by assumption) ?resta29
  case hya29 => (intro w hSw; (try dsimp only at hSw); go_simp; first | done | with_reducible rfl)
  (try simp only [Act.put, pu1, pu2, pu3, pu4, pu5, pu6])
  refine wpAnyH_take (i := 30) (v := ?va30) rfl (by kernel_rfl) (by kernel_rfl) (by kernel_rfl) (fun _ _ _ h => h) (.inl ⟨by rfl, ?hya30⟩) (by assumption) ?resta30
  case hya30 => (intro w hSw; (try dsimp only at hSw); go_simp; first | done | with_reducible rfl)
  (try simp only [Act.put, pu1, pu2, pu3, pu4, pu5, pu6])
  refine wpAnyH_take (i := 31) (v := ?va31) rfl (by kernel_rfl) (by kernel_rfl) (by kernel_rfl) (fun _ _ _ h => h) (.inl ⟨by rfl, ?hya31⟩) (by assumption) ?resta31
  case hya31 => (intro w hSw; (try dsimp only at hSw); go_simp; first | done | with_reducible rfl)
  (try simp only [Act.put, pu1, pu2, pu3, pu4, pu5, pu6])
  refine wpAnyH_ready (rs := [32]) (by kernel_rfl) (by simp) ?_
  refine AllReadyH.cons rfl (fun K hK => ?_) AllReadyH.nil
  rw [if_pos (by rfl)]
  go_simp
  refine (hisV.out _ h1).mono ?_
  rintro e w2 ⟨rfl, hw2⟩
  have h2 : Below W.heap.size W w2 := (h1).trans (below_le hw2 (h1).size)
  refine hK.out _ _ ?_ (fun hHeld2 => ?_)
  · exact hSk.out _ h2
  clear hK K
  (try simp only [Act.put, pu1, pu2, pu3, pu4, pu5, pu6])
  refine wpAnyH_take (i := 33) (v := ?va33) rfl (by kernel_rfl) (by kernel_rfl) (by kernel_rfl) (fun _ _ _ h => h) (.inl ⟨by rfl, ?hya33⟩) (by assumption) ?resta33
  case hya33 => (intro w hSw; (try dsimp only at hSw); go_simp; first | done | with_reducible rfl)
  (try simp only [Act.put, pu1, pu2, pu3, pu4, pu5, pu6])
  refine wpAnyH_ready (rs := [34]) (by kernel_rfl) (by simp) ?_
  refine AllReadyH.cons rfl (fun K hK => ?_) AllReadyH.nil
  rw [if_pos (by rfl)]
  go_simp
  obtain ⟨b3, r3⟩ := hset.out w2 h2
  obtain ⟨w3, hw3⟩ : ∃ X, X = w2.setCell ⟨rb, 0, none⟩ (.bool true) := ⟨_, rfl⟩
  rw [← hw3] at b3 r3 ⊢
  refine hK.out _ _ ?_ (fun hHeld2 => ?_)
  · exact hSallH.out _ b3 r3
  clear hK K
  (try simp only [Act.put, pu1, pu2, pu3, pu4, pu5, pu6])
  refine wpAnyH_done (by kernel_rfl) ?_ _
  have b3H := Lib.hid b3
  have r3H := Lib.hid r3
  clear b3 r3 hw3 hHeld h1 h2 hw1 hw2
  go_wp2_with (first
    | (go_at_call 15; refine (hsp2.out w3 w4 b3H.out b4H.out).mono ?_; rintro e w5 ⟨rfl, b5⟩; obtain ⟨n5, s5, z5, fin5⟩ := hfin.out w3 w4 w5 b3H.out r3H.out b4H.out b5; have fin5H := Lib.hid fin5; clear b5 fin5)
    | (go_at_call 15; refine (hsp1.out w3 b3H.out).mono ?_; rintro e w4 ⟨rfl, b4⟩; have b4H := Lib.hid b4; clear b4))
  go_ret
  exact ⟨by by_cases hz : (k : Int) + 1 = stop <;> simp [hz], fin5H.out⟩
end Go.Proofs.Ytgmdbpplfjkjmaa

/-! The law's 'each' returns true of two maps side by side. -/
namespace Go.Proofs.Ytgmdbpplfjkjmaa
open Go.RowKit
set_option linter.unusedVariables false
set_option linter.unusedSimpArgs false

def eachJ (W : World) (rb nb db sb : Nat) (stop : Int) (d : Nat) (N k : Nat) (X : World) : Prop := EachAt X rb nb db sb (k : Int) stop d ∧ But (fun i => i = rb ∨ i = nb) W X
def eachGo (stop : Int) (j : Nat) : Option Bool := some (decide ((j : Int) + 1 ≠ stop))
def wantN (n : Nat) (stop : Int) : Int := if 1 ≤ stop ∧ stop < n then stop else n
theorem bare_at {ts : List PE} {qs : List QE} (h : bareP ts = bareQ qs) {k : Nat} {p : PE} (hp : ts[k]? = some p) : ∃ q, qs[k]? = some q ∧ p.k = builtV q.k ∧ p.v = builtV q.v := by
  have h1 : (bareP ts)[k]? = some (p.k, p.v) := by unfold bareP; rw [List.getElem?_map, hp]; rfl
  rw [h] at h1
  unfold bareQ at h1
  rw [List.getElem?_map] at h1
  cases hq : qs[k]? with
  | none => rw [hq] at h1; cases h1
  | some q => rw [hq] at h1; injection h1 with h1; exact ⟨q, rfl, (congrArg Prod.fst h1).symm, (congrArg Prod.snd h1).symm⟩
theorem each_runs {w0 W : World} {m d rb nb db sb : Nat} {o : Option Nat} {l : List PE} {sv : Value} {qs : List QE} {stop : Int} (h : Both w0 W m o l d sv qs) (hE : EachAt W rb nb db sb 0 stop d) (hB : Boxes w0 W d sv rb nb db sb) :
    Calls Try.prog 18 #[.pointer (some ⟨m, 0, none⟩), .func (.func 85) #[] #[.pointer (some ⟨rb, 0, none⟩), .pointer (some ⟨nb, 0, none⟩), .pointer (some ⟨db, 0, none⟩), .pointer (some ⟨sb, 0, none⟩)]] W (EachEnd qs.length (eachJ W rb nb db sb stop d) (eachGo stop)) := by
  have hlen : (bareQ qs).length = qs.length := by simp [bareQ]
  rw [← hlen]
  have h0 : ∀ N X, Below W.heap.size W X → eachJ W rb nb db sb stop d N 0 X := fun N X hX =>
    ⟨hE.but (below_but0 hX) ⟨id, id, id, id⟩, (But.refl _ W).of_below hX (fun i hi h => by omega)⟩
  cases o with
  | none => exact each_none h.mw h.perm _ _ _ _ h0
  | some b =>
    refine each_some h.mw h.riseV h.perm _ _ (fun args X => by kernel_rfl) _ _ ?_ (fun X hX => h0 _ X hX) ?_
    · rintro N k X Y ⟨h1, h2⟩ hb
      exact ⟨h1.but hb ⟨fun h => by have := hB.lt; omega, fun h => by have := hB.lt; omega, fun h => by have := hB.lt; omega, fun h => by have := hB.lt; omega⟩, h2.then hb (fun i hi h => by omega)⟩
    · rintro N ts hts k p hp X hNX ⟨h1, h2⟩ hx hy hnd hfs
      obtain ⟨q, hq, hk, hv⟩ := bare_at hts hp
      exact (each_do h.dm hq hk hv h1 h2 hB hNX hx hy hnd hfs).mono fun e w' ⟨e1, e2, e3, e4⟩ => ⟨e1, ⟨by rw [show ((k + 1 : Nat) : Int) = (k : Int) + 1 from by omega]; exact e2, e3⟩, e4.mono (fun i _ h => h.elim .inl (fun h => .inr (.inl h)))⟩
theorem each_right {n : Nat} {J : Nat → Nat → World → Prop} {stop : Int} {e : Ending} {w' : World} (h : EachEnd n J (eachGo stop) e w') : e = .returned (.int .i64 0) ∧ ∃ N c, J N c w' ∧ (c : Int) = wantN n stop ∧ c ≤ n := by
  obtain ⟨N, c, hc, -, hJ, ⟨rfl, hall, rfl⟩ | ⟨j, rfl, hj, rfl⟩ | ⟨j, rfl, hj, rfl⟩⟩ := h
  · refine ⟨rfl, N, c, hJ, ?_, hc⟩
    unfold wantN
    by_cases hs : 1 ≤ stop ∧ stop < c
    · have := hall (stop.toNat - 1) (by omega)
      unfold eachGo at this
      injection this with this
      have := of_decide_eq_true this
      omega
    · rw [if_neg hs]
  · refine ⟨rfl, N, _, hJ, ?_, hc⟩
    unfold eachGo at hj
    injection hj with hj
    have : (j : Int) + 1 = stop := by simpa using hj
    unfold wantN
    split <;> omega
  · unfold eachGo at hj; cases hj
set_option maxRecDepth 100000 in
set_option maxHeartbeats 3200000 in
theorem each_law {w0 w : World} {m d : Nat} {o : Option Nat} {l : List PE} {sv : Value} {qs : List QE} (h : Both w0 w m o l d sv qs) (stop : Int) :
    Calls Try.prog 20 #[.pointer (some ⟨m, 0, none⟩), .pointer (some ⟨d, 0, none⟩), .int .i64 stop] w fun e w' => e = .returned (.bool true) ∧ Below w.heap.size w w' := by
  have hmf : ∀ (fn : Fn) (first cap : Array Value) (w : World), (Instr.makeFunc fn first cap).run Try.prog w = .ok (.func fn first cap) w := fun _ _ _ _ => rfl
  obtain ⟨s0, hs0⟩ : ∃ s, s = w.heap.size := ⟨_, rfl⟩
  obtain ⟨W, hW⟩ : ∃ W, W = (((w.alloc (.cells #[.pointer (some ⟨d, 0, none⟩)] 50)).alloc (.cells #[.int .i64 stop] 3)).alloc (.cells #[.int .i64 0] 3)).alloc (.cells #[.bool true] 4) := ⟨_, rfl⟩
  have hbW : Below w.heap.size w W := by
    rw [hW]
    exact ((((Below.refl _ _).alloc (Nat.le_refl _) _).alloc (by simp) _).alloc (by simp <;> omega) _).alloc (by simp <;> omega) _
  have hE : EachAt W (s0 + 1 + 1 + 1) (s0 + 1 + 1) s0 (s0 + 1) 0 stop d := by
    rw [hW, hs0]
    refine ⟨heap_alloc_at _ (by simp), ?_, ?_, ?_⟩
    · exact (Below.heap_alloc _ _ _ (by simp)).trans (heap_alloc_at _ (by simp))
    · exact (Below.heap_alloc _ _ _ (by simp <;> omega)).trans ((Below.heap_alloc _ _ _ (by simp <;> omega)).trans ((Below.heap_alloc _ _ _ (by simp)).trans (heap_alloc_new w _)))
    · exact (Below.heap_alloc _ _ _ (by simp <;> omega)).trans ((Below.heap_alloc _ _ _ (by simp)).trans (heap_alloc_at _ (by simp)))
  have hlt : s0 + 1 + 1 + 1 < W.heap.size := (Array.getElem?_eq_some_iff.1 hE.1).1
  have hB : Boxes w0 W d sv (s0 + 1 + 1 + 1) (s0 + 1 + 1) s0 (s0 + 1) := by
    have hd := h.dm.lts
    have h0 := h.dm.bel.size
    refine ⟨⟨by omega, by omega, by omega, by omega⟩, ⟨by omega, by omega, by omega, by omega, by omega⟩, ⟨fun hb => ?_, fun hb => ?_⟩, ⟨by omega, by omega⟩⟩
    · have := (hd _ hb).2; omega
    · have := (hd _ hb).2; omega
  have hsm := h.dm.small
  have hEv := Lib.hid ((each_runs (h.below hbW) hE hB).mono fun e w' hh => each_right hh)
  have hfin := Lib.hid (show ∀ c (X : World), EachAt X (s0 + 1 + 1 + 1) (s0 + 1 + 1) s0 (s0 + 1) c stop d → But (fun i => i = s0 + 1 + 1 + 1 ∨ i = s0 + 1 + 1) W X → X.cell? ⟨s0 + 1 + 1 + 1, 0, none⟩ = some (.bool true) ∧ X.cell? ⟨s0 + 1 + 1, 0, none⟩ = some (.int .i64 c) ∧ X.cell? ⟨s0, 0, none⟩ = some (.pointer (some ⟨d, 0, none⟩)) ∧ X.cell? ⟨s0 + 1, 0, none⟩ = some (.int .i64 stop) ∧ X.cell? ⟨d, 0, none⟩ = some sv ∧ Below w.heap.size w X from fun c X hX hbX => by
    obtain ⟨h1, h2, h3, h4⟩ := hX
    have hdl : d < w.heap.size := h.dm.lt
    refine ⟨by rw [cell_of_row X _ 0 _ _ _ h1]; rfl, by rw [cell_of_row X _ 0 _ _ _ h2]; rfl, by rw [cell_of_row X _ 0 _ _ _ h3]; rfl, by rw [cell_of_row X _ 0 _ _ _ h4]; rfl, ?_, ?_⟩
    · rw [hbX.cell (p := ⟨d, 0, none⟩) (by have := hbW.size; show d < W.heap.size; omega) (by show ¬ (d = _ ∨ d = _); omega), hbW.cell (p := ⟨d, 0, none⟩) hdl, cell_of_row w d 0 _ _ _ h.dm.cell]; rfl
    · exact hbW.trans (But.below' hbX hbW.size (fun i hi h => by omega)))
  obtain ⟨sa, cap, rfl, -, hmax, -, -⟩ := ownsRow_form h.dm.row
  unfold maxLen at hmax
  have hWH := Lib.hid hW
  have hs0H := Lib.hid hs0
  clear h hW hbW hE hB hs0 hlt
  go_enter Try.func20, Try.ntmps20
  go_wp2_with fail
  rw [← hs0H.out]
  rw [show (((w.alloc (Obj.cells #[.pointer (some ⟨d, 0, none⟩)] 50)).alloc (Obj.cells #[.int .i64 stop] 3)).alloc (Obj.cells #[.int .i64 0] 3)).alloc (Obj.cells #[.bool true] 4) = W from hWH.out.symm]
  refine hEv.out.mono ?_
  rintro e w5 ⟨rfl, N, c, ⟨hC, hbut⟩, hcw, hc⟩
  obtain ⟨q0, q1, q2, q3, q4, hb5⟩ := hfin.out _ w5 hC hbut
  have hb5H := Lib.hid hb5
  have hcn : (c : Int) ≤ (qs.length : Int) := by omega
  clear hC hbut hb5
  by_cases g1 : 1 ≤ stop
  · by_cases g2 : stop < (qs.length : Int)
    · have g3 : (c : Int) = stop := by rw [hcw]; unfold wantN; rw [if_pos ⟨g1, g2⟩]
      clear hcw hcn
      go_wp2
      go_ret
      exact ⟨rfl, hb5H.out⟩
    · have g3 : (c : Int) = (qs.length : Int) := by rw [hcw]; unfold wantN; rw [if_neg (fun h => g2 h.2)]
      clear hcw hcn
      go_wp2
      go_ret
      exact ⟨rfl, hb5H.out⟩
  · have g3 : (c : Int) = (qs.length : Int) := by rw [hcw]; unfold wantN; rw [if_neg (fun h => g1 h.1)]
    clear hcw hcn
    go_wp2
    go_ret
    exact ⟨rfl, hb5H.out⟩
end Go.Proofs.Ytgmdbpplfjkjmaa
