/- DigestPanics' closure: it counts, and panics at one call. -/
import Derived.Test.YtgmdbpplfjkjmaaEach
import Derived.Test.YtgmdbpplfjkjmaaLawEach
namespace Go.Proofs.Ytgmdbpplfjkjmaa
open Go.RowKit
set_option linter.unusedVariables false
set_option linter.unusedSimpArgs false

/-- The two boxes that it has: how many calls came, at which it panics. -/
def CountAt (W : World) (nb ab : Nat) (n at_ : Int) : Prop := W.heap[nb]? = some (.cells #[.int .i64 n] 3 (0, 0)) ∧ W.heap[ab]? = some (.cells #[.int .i64 at_] 3 (0, 0))
theorem panics_yes {W : World} {nb ab : Nat} {n : Int} (h : CountAt W nb ab n (n + 1)) (hne : nb ≠ ab) (hn : 0 ≤ n) (hn2 : n ≤ 1048576) (x y : Value) :
    Calls Try.prog 19 #[x, y, .pointer (some ⟨nb, 0, none⟩), .pointer (some ⟨ab, 0, none⟩)] W fun e w' => (∃ v, e = .panicked [{ v, recovered := false }]) ∧ CountAt w' nb ab (n + 1) (n + 1) ∧ But (fun i => i = nb) W w' := by
  obtain ⟨h1, h2⟩ := h
  have q1 : W.cell? ⟨nb, 0, none⟩ = some (.int .i64 n) := by rw [cell_of_row W nb 0 _ _ _ h1]; rfl
  have q2 : W.cell? ⟨ab, 0, none⟩ = some (.int .i64 (n + 1)) := by rw [cell_of_row W ab 0 _ _ _ h2]; rfl
  have z1 : W.frozen? ⟨nb, 0, none⟩ = false := by simp [World.frozen?, h1]
  have hw : IntKind.i64.wrap (n + 1) = n + 1 := by rw [IntKind.wrap_i64]; omega
  have hbut : But (fun i => i = nb) W (W.setCell ⟨nb, 0, none⟩ (.int .i64 (n + 1))) := (But.refl (fun i => i = nb) W).setCell (p := ⟨nb, 0, none⟩) (fun _ => rfl) _
  have hfin := Lib.hid (show CountAt (W.setCell ⟨nb, 0, none⟩ (.int .i64 (n + 1))) nb ab (n + 1) (n + 1) ∧ But (fun i => i = nb) W (W.setCell ⟨nb, 0, none⟩ (.int .i64 (n + 1))) from
    ⟨⟨setCell_block h1 0 _, (Below.heap_setCell W ⟨nb, 0, none⟩ _ ab (fun e => hne e.symm)).trans h2⟩, hbut⟩)
  have hne' : ¬ ab = nb := fun e => hne e.symm
  clear h1 h2 hbut
  go_enter Try.func19, Try.ntmps19
  go_wp2
  exact ⟨rfl, ⟨_, rfl⟩, hfin.out⟩
theorem panics_no {W : World} {nb ab : Nat} {n at_ : Int} (h : CountAt W nb ab n (at_)) (hne : nb ≠ ab) (hn : 0 ≤ n) (hn2 : n ≤ 1048576) (hat : ¬ n + 1 = at_) (x y : Value) :
    Calls Try.prog 19 #[x, y, .pointer (some ⟨nb, 0, none⟩), .pointer (some ⟨ab, 0, none⟩)] W fun e w' => (e = .returned (.bool true)) ∧ CountAt w' nb ab (n + 1) (at_) ∧ But (fun i => i = nb) W w' := by
  obtain ⟨h1, h2⟩ := h
  have q1 : W.cell? ⟨nb, 0, none⟩ = some (.int .i64 n) := by rw [cell_of_row W nb 0 _ _ _ h1]; rfl
  have q2 : W.cell? ⟨ab, 0, none⟩ = some (.int .i64 (at_)) := by rw [cell_of_row W ab 0 _ _ _ h2]; rfl
  have z1 : W.frozen? ⟨nb, 0, none⟩ = false := by simp [World.frozen?, h1]
  have hw : IntKind.i64.wrap (n + 1) = n + 1 := by rw [IntKind.wrap_i64]; omega
  have hbut : But (fun i => i = nb) W (W.setCell ⟨nb, 0, none⟩ (.int .i64 (n + 1))) := (But.refl (fun i => i = nb) W).setCell (p := ⟨nb, 0, none⟩) (fun _ => rfl) _
  have hfin := Lib.hid (show CountAt (W.setCell ⟨nb, 0, none⟩ (.int .i64 (n + 1))) nb ab (n + 1) (at_) ∧ But (fun i => i = nb) W (W.setCell ⟨nb, 0, none⟩ (.int .i64 (n + 1))) from
    ⟨⟨setCell_block h1 0 _, (Below.heap_setCell W ⟨nb, 0, none⟩ _ ab (fun e => hne e.symm)).trans h2⟩, hbut⟩)
  have hne' : ¬ ab = nb := fun e => hne e.symm
  clear h1 h2 hbut
  go_enter Try.func19, Try.ntmps19
  go_wp2
  go_ret
  exact ⟨rfl, hfin.out⟩
end Go.Proofs.Ytgmdbpplfjkjmaa

/-! DigestPanics' Each: it panics at one call, or goes through all. -/
namespace Go.Proofs.Ytgmdbpplfjkjmaa
open Go.RowKit
set_option linter.unusedVariables false
set_option linter.unusedSimpArgs false

def panicJ (W : World) (nb ab : Nat) (at_ : Int) (N k : Nat) (X : World) : Prop := CountAt X nb ab (k : Int) at_ ∧ But (fun i => i = nb) W X
def panicGo (at_ : Int) (j : Nat) : Option Bool := if (j : Int) + 1 = at_ then none else some true
theorem CountAt.but {W X : World} {nb ab : Nat} {k at_ : Int} {Z : Nat → Prop} (h : CountAt W nb ab k at_) (hb : But Z W X) (hz : ¬ Z nb ∧ ¬ Z ab) : CountAt X nb ab k at_ := by
  obtain ⟨h1, h2⟩ := h
  exact ⟨(hb.block _ (Array.getElem?_eq_some_iff.1 h1).1 hz.1).trans h1, (hb.block _ (Array.getElem?_eq_some_iff.1 h2).1 hz.2).trans h2⟩
theorem panic_runs {w0 W : World} {m d nb ab : Nat} {o : Option Nat} {l : List PE} {sv : Value} {qs : List QE} {at_ : Int} (h : Both w0 W m o l d sv qs) (hE : CountAt W nb ab 0 at_) (hne : nb ≠ ab) :
    Calls Try.prog 18 #[.pointer (some ⟨m, 0, none⟩), .func (.func 19) #[] #[.pointer (some ⟨nb, 0, none⟩), .pointer (some ⟨ab, 0, none⟩)]] W (EachEnd qs.length (panicJ W nb ab at_) (panicGo at_)) := by
  have hlen : (bareQ qs).length = qs.length := by simp [bareQ]
  have hsm := h.dm.small
  have hln : nb < W.heap.size := (Array.getElem?_eq_some_iff.1 hE.1).1
  have hla : ab < W.heap.size := (Array.getElem?_eq_some_iff.1 hE.2).1
  rw [← hlen]
  have h0 : ∀ N X, Below W.heap.size W X → panicJ W nb ab at_ N 0 X := fun N X hX =>
    ⟨hE.but (below_but0 hX) ⟨id, id⟩, (But.refl _ W).of_below hX (fun i hi h => by omega)⟩
  cases o with
  | none => exact each_none h.mw h.perm _ _ _ _ h0
  | some b =>
    refine each_some h.mw h.riseV h.perm _ _ (fun args X => by kernel_rfl) _ _ ?_ (fun X hX => h0 _ X hX) ?_
    · rintro N k X Y ⟨h1, h2⟩ hb
      exact ⟨h1.but hb ⟨fun h => by omega, fun h => by omega⟩, h2.then hb (fun i hi h => by omega)⟩
    · rintro N ts hts k p hp X hNX ⟨h1, h2⟩ hx hy hnd hfs
      obtain ⟨q, hq, -, -⟩ := bare_at hts hp
      have hk := (List.getElem?_eq_some_iff.1 hq).1
      by_cases hat : (k : Int) + 1 = at_
      · have hgo : panicGo at_ k = none := by unfold panicGo; rw [if_pos hat]
        subst hat
        refine (panics_yes h1 hne (by omega) (by omega) p.a p.c).mono fun e w' ⟨e1, e2, e3⟩ => ?_
        unfold DoEnd
        rw [hgo]
        exact ⟨e1, ⟨e2, h2.then e3 (fun i hi h => h)⟩, e3.mono (fun i hi h => .inr (.inl (by rw [h]; exact hln)))⟩
      · have hgo : panicGo at_ k = some true := by unfold panicGo; rw [if_neg hat]
        refine (panics_no h1 hne (by omega) (by omega) hat p.a p.c).mono fun e w' ⟨e1, e2, e3⟩ => ?_
        unfold DoEnd
        rw [hgo]
        exact ⟨e1, ⟨e2, h2.then e3 (fun i hi h => h)⟩, e3.mono (fun i hi h => .inr (.inl (by rw [h]; exact hln)))⟩
theorem panic_right {n : Nat} {J : Nat → Nat → World → Prop} {at_ : Int} {e : Ending} {w' : World} (h : EachEnd n J (panicGo at_) e w') :
    ∃ N c, J N c w' ∧ c ≤ n ∧ ((1 ≤ at_ ∧ at_ ≤ n ∧ (c : Int) = at_ ∧ e = .returned (.int .i64 9)) ∨ (¬ (1 ≤ at_ ∧ at_ ≤ n) ∧ c = n ∧ e = .returned (.int .i64 0))) := by
  obtain ⟨N, c, hc, -, hJ, ⟨rfl, hall, rfl⟩ | ⟨j, rfl, hj, rfl⟩ | ⟨j, rfl, hj, rfl⟩⟩ := h
  · refine ⟨N, c, hJ, hc, .inr ⟨fun hs => ?_, rfl, rfl⟩⟩
    have := hall (at_.toNat - 1) (by omega)
    unfold panicGo at this
    rw [if_pos (by omega)] at this
    cases this
  · unfold panicGo at hj
    split at hj
    · cases hj
    · injection hj with hj; cases hj
  · refine ⟨N, _, hJ, hc, .inl ?_⟩
    unfold panicGo at hj
    split at hj
    · rename_i hat
      exact ⟨by omega, by omega, by omega, rfl⟩
    · cases hj
theorem DocM.made {w0 w : World} (hb : Below w0.heap.size w0 w) : DocM w0 (w.alloc (.cells #[.slice none 0 0] 53)) w.heap.size (.slice none 0 0) [] :=
  ⟨heap_alloc_new w _, World.ownsRow_nil _ _ _ _, (fun _ h => by cases h), (by simp [ownL, Value.ownBlock]), hb.size, hb.alloc hb.size _, by decide⟩
theorem Both.made {w0 w : World} (hb : Below w0.heap.size w0 w) : Both w0 ((w.alloc (.cells #[.map none] 49)).alloc (.cells #[.slice none 0 0] 53)) w.heap.size none [] (w.heap.size + 1) (.slice none 0 0) [] := by
  have h1 : (w.alloc (.cells #[.map none] 49)).heap.size = w.heap.size + 1 := by simp
  have h2 := DocM.made (hb.alloc hb.size (.cells #[.map none] 49))
  rw [h1] at h2
  refine ⟨(MapW.made w hb.size).below ((Below.refl _ _).alloc (Nat.le_refl _) _), h2, List.Pairwise.nil, List.Perm.refl _, fun b hm hd => ?_⟩
  rcases hm with rfl | hm | hm
  · rcases hd with hd | hd
    · omega
    · simp [ownL, Value.ownBlock] at hd
  · cases hm
  · simp [fsM] at hm
end Go.Proofs.Ytgmdbpplfjkjmaa
