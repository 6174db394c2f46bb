/- tenonmake.Plain and tenonmake.Is, of a value whose plain is known. -/
import Derived.Test.YtgmdbpplfjkjmaaSameT
import Derived.Test.YtgmdbpplfjkjmaaPlainT
namespace Go.Proofs.Ytgmdbpplfjkjmaa
open Go.RowKit
set_option linter.unusedVariables false
set_option linter.unusedSimpArgs false

/-- What is stored last. -/
theorem plain_close0 {w w1 : World} {cells : List Value} {t : Term} (hB : w1.heap[w.heap.size]? = some (.cells zeroCells 31 (0, 0))) (hb : Below w.heap.size w w1) (ht : TRep (only w1 (fun b => w.heap.size < b)) t cells) :
    (w1.setRow w.heap.size cells.toArray).heap[w.heap.size]? = some (.cells cells.toArray 31 (0, 0)) ∧ TRep (only (w1.setRow w.heap.size cells.toArray) (fun b => w.heap.size ≤ b)) t cells ∧ Below w.heap.size w (w1.setRow w.heap.size cells.toArray) := by
  refine ⟨setRow_heap _ _ _ _ _ _ hB, TRep.keep (only_keep fun b hb hs => ⟨Nat.le_of_lt hs, setRow_other _ _ _ _ (by omega)⟩) _ _ ht, ?_⟩
  exact ⟨hb.os, hb.tape, hb.output, by rw [size_setRow]; exact hb.size, fun k hk => (setRow_other _ _ _ _ (by omega)).trans (hb.block k hk)⟩
theorem block_cell' {w : World} {b : Nat} {cs : Array Value} {t : TypeId} (h : w.heap[b]? = some (.cells cs t (0, 0))) (j : Nat) : w.cell? ⟨b, j, none⟩ = cs[j]? := by simp [World.cell?, h]
set_option maxRecDepth 100000 in
set_option maxHeartbeats 800000 in
theorem Plain_said {v : Val} (hv : PlainSaid v) {x : Value} {fs : List Nat} {w : World} (h : VRep w v x fs) (hs : smallV v) : Calls Try.prog 30 #[x] w (PlainEnd v 0 w) := by
  have hal : Below w.heap.size w (w.alloc (.cells zeroCells 31)) := (Below.refl _ _).alloc (Nat.le_refl _) _
  have hp := Lib.hid (hv 0 x fs (w.alloc (.cells zeroCells 31)) (VRep.but h (below_but0 hal) (fun _ _ f => f)) hs (by omega) (by omega))
  have hsz : (w.alloc (.cells zeroCells 31)).heap.size = w.heap.size + 1 := size_alloc _ _
  unfold PlainEnd at hp
  rw [hsz] at hp
  clear h hs hv
  go_enter Try.func30, Try.ntmps30
  go_wp2_with fail
  refine hp.out.mono ?_
  rintro e w1 ⟨cs, rfl, ht, hb1⟩
  have hB := (hb1.block w.heap.size (by omega)).trans (zeroB w)
  have hbw : Below w.heap.size w w1 := hal.trans (below_le hb1 (by omega))
  have hT : TRep (only w1 (fun b => w.heap.size < b)) (plainT v 0) cs := TRep.keep (only_keep fun b _ hs => ⟨by omega, rfl⟩) _ _ ht
  have hcl := Lib.hid (plain_close0 hB hbw hT)
  have hone := TRep.ones hT
  obtain ⟨c0, c1, c2, c3, c4, c5, c6, c7, c8, c9, c10, rfl⟩ := eleven (TRep.len hT)
  clear hT ht
  go_wp2_with (refine wpList_store_row rfl 31 (.tmp 2) _ rfl w.heap.size #[c0, c1, c2, c3, c4, c5, c6, c7, c8, c9, c10] rfl rfl 31 zeroCells hB termSize rfl (all_one hone) ?_)
  all_goals go_wp2
  all_goals exact ⟨rfl, _, results_cell_row rfl _ _ w.heap.size 31 _ (0, 0) _ rfl hcl.out.1 Try.underlying31 rfl termSize, _, rfl, hcl.out.2.1, hcl.out.2.2⟩

set_option maxRecDepth 100000 in
set_option maxHeartbeats 800000 in
theorem Is_said {v : Val} (hv : PlainSaid v) {x : Value} {fs : List Nat} {w : World} (h : VRep w v x fs) (hs : smallV v) {t : Term} {cs : List Value} (ht : TRep w t cs) :
    Calls Try.prog 14 #[x, .agg cs.toArray] w fun e w' => e = .returned (.bool (sameT (plainT v 0) t)) ∧ Below w.heap.size w w' := by
  obtain ⟨c0, c1, c2, c3, c4, c5, c6, c7, c8, c9, c10, rfl⟩ := eleven (TRep.len ht)
  obtain ⟨W, hW⟩ : ∃ W, W = w.alloc (.cells #[c0, c1, c2, c3, c4, c5, c6, c7, c8, c9, c10] 31) := ⟨_, rfl⟩
  have hbW : Below w.heap.size w W := by rw [hW]; exact (Below.refl _ _).alloc (Nat.le_refl _) _
  have hpl := Lib.hid (Plain_said hv (w := W.drew) (VRep.but h (below_but0 hbW.drew) (fun _ _ f => f)) hs)
  have hsm := Lib.hid (fun ds w1 (h1 : TRep w1 (plainT v 0) ds) (hb : Below w.heap.size w w1) => same_any (plainT v 0) t ds _ w1 h1 (TRep.keep (keeps_of_below hb) _ _ ht))
  have hbx : W.heap[w.heap.size]? = some (.cells #[c0, c1, c2, c3, c4, c5, c6, c7, c8, c9, c10] 31 (0, 0)) := by rw [hW]; exact heap_alloc_new w _
  have q0 := block_cell' hbx 0
  have q1 := block_cell' hbx 1
  have q2 := block_cell' hbx 2
  have q3 := block_cell' hbx 3
  have q4 := block_cell' hbx 4
  have q5 := block_cell' hbx 5
  have q6 := block_cell' hbx 6
  have q7 := block_cell' hbx 7
  have q8 := block_cell' hbx 8
  have q9 := block_cell' hbx 9
  have q10 := block_cell' hbx 10
  simp only [List.getElem?_toArray, List.getElem?_cons_zero, List.getElem?_cons_succ] at q0 q1 q2 q3 q4 q5 q6 q7 q8 q9 q10
  have hSk : ∀ w', Below W.heap.size W w' → w'.cell? ⟨w.heap.size, 0, none⟩ = some c0 ∧ w'.cell? ⟨w.heap.size, 1, none⟩ = some c1 ∧ w'.cell? ⟨w.heap.size, 2, none⟩ = some c2 ∧ w'.cell? ⟨w.heap.size, 3, none⟩ = some c3 ∧ w'.cell? ⟨w.heap.size, 4, none⟩ = some c4 ∧ w'.cell? ⟨w.heap.size, 5, none⟩ = some c5 ∧ w'.cell? ⟨w.heap.size, 6, none⟩ = some c6 ∧ w'.cell? ⟨w.heap.size, 7, none⟩ = some c7 ∧ w'.cell? ⟨w.heap.size, 8, none⟩ = some c8 ∧ w'.cell? ⟨w.heap.size, 9, none⟩ = some c9 ∧ w'.cell? ⟨w.heap.size, 10, none⟩ = some c10 := fun w' hb' => ⟨keeps_of_below hb' _ _ q0, keeps_of_below hb' _ _ q1, keeps_of_below hb' _ _ q2, keeps_of_below hb' _ _ q3, keeps_of_below hb' _ _ q4, keeps_of_below hb' _ _ q5, keeps_of_below hb' _ _ q6, keeps_of_below hb' _ _ q7, keeps_of_below hb' _ _ q8, keeps_of_below hb' _ _ q9, keeps_of_below hb' _ _ q10⟩
  have hWH := Lib.hid hW
  clear h hs hv ht hbx hW q0 q1 q2 q3 q4 q5 q6 q7 q8 q9 q10
  go_enter Try.func14, Try.ntmps14
  go_wp2_with fail
  rw [← hWH.out]
  refine wp_region_held_drew (S := (fun w' => w'.cell? ⟨w.heap.size, 0, none⟩ = some c0 ∧ w'.cell? ⟨w.heap.size, 1, none⟩ = some c1 ∧ w'.cell? ⟨w.heap.size, 2, none⟩ = some c2 ∧ w'.cell? ⟨w.heap.size, 3, none⟩ = some c3 ∧ w'.cell? ⟨w.heap.size, 4, none⟩ = some c4 ∧ w'.cell? ⟨w.heap.size, 5, none⟩ = some c5 ∧ w'.cell? ⟨w.heap.size, 6, none⟩ = some c6 ∧ w'.cell? ⟨w.heap.size, 7, none⟩ = some c7 ∧ w'.cell? ⟨w.heap.size, 8, none⟩ = some c8 ∧ w'.cell? ⟨w.heap.size, 9, none⟩ = some c9 ∧ w'.cell? ⟨w.heap.size, 10, none⟩ = some c10)) (by kernel_rfl) ?_ (fun hHeld => ?_)
  · exact hSk _ (Below.refl _ W).drew
  refine wpAnyH_take (i := 0) (v := ?vi0) rfl (by kernel_rfl) (by kernel_rfl) (by kernel_rfl) (fun _ _ _ h => h) (.inl ⟨by rfl, ?hyi0⟩) (by assumption) ?resti0
  case hyi0 => (intro w hSw; (try dsimp only at hSw); go_simp; first | done | with_reducible rfl)
  (try simp only [Act.put, pu1, pu2, pu3, pu4, pu5, pu6])
  refine wpAnyH_take (i := 2) (v := ?vi2) rfl (by kernel_rfl) (by kernel_rfl) (by kernel_rfl) (fun _ _ _ h => h) (.inl ⟨by rfl, ?hyi2⟩) (by assumption) ?resti2
  case hyi2 => (intro w hSw; (try dsimp only at hSw); go_simp; first | done | with_reducible rfl)
  (try simp only [Act.put, pu1, pu2, pu3, pu4, pu5, pu6])
  refine wpAnyH_ready (rs := [1]) (by kernel_rfl) (by simp) ?_
  refine AllReadyH.cons rfl (fun K hK => ?_) AllReadyH.nil
  rw [if_pos (by rfl)]
  go_simp
  refine hpl.out.mono ?_
  rintro e w1 ⟨ds, rfl, htd, hb1⟩
  have hbw : Below W.heap.size W w1 := ((Below.refl W.heap.size W).drew).trans hb1
  refine hK.out _ _ ?_ (fun hHeld2 => ?_)
  · exact hSk _ hbw
  clear hK K
  (try simp only [Act.put, pu1, pu2, pu3, pu4, pu5, pu6])
  refine wpAnyH_ready (rs := [3]) (by kernel_rfl) (by simp) ?_
  refine AllReadyH.cons rfl (fun K hK => ?_) AllReadyH.nil
  rw [if_pos (by rfl)]
  go_simp
  refine (hsm.out ds w1 (TRep.keep only_all _ _ htd) (hbW.trans (below_le hbw hbW.size))).mono ?_
  rintro e w2 ⟨rfl, hb2⟩
  refine hK.out _ _ ?_ (fun hHeld2 => ?_)
  · exact hSk _ (hbw.trans (below_le hb2 hbw.size))
  clear hK K
  (try simp only [Act.put, pu1, pu2, pu3, pu4, pu5, pu6])
  refine wpAnyH_take (i := 4) (v := ?vi4) rfl (by kernel_rfl) (by kernel_rfl) (by kernel_rfl) (fun _ _ _ h => h) (.inl ⟨by rfl, ?hyi4⟩) (by assumption) ?resti4
  case hyi4 => (intro w hSw; (try dsimp only at hSw); go_simp; first | done | with_reducible rfl)
  (try simp only [Act.put, pu1, pu2, pu3, pu4, pu5, pu6])
  refine wpAnyH_done (by kernel_rfl) ?_ _
  go_wp2_with fail
  go_ret
  exact ⟨rfl, hbW.trans (below_le (hbw.trans (below_le hb2 hbw.size)) hbW.size)⟩
end Go.Proofs.Ytgmdbpplfjkjmaa
