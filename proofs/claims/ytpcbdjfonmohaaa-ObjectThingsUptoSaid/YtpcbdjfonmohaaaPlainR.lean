/- tenonmake.plain of records. -/
import Derived.Test.YtpcbdjfonmohaaaPlainD
namespace Go.Proofs.Ytpcbdjfonmohaaa
open Go.RowKit
set_option linter.unusedVariables false
set_option linter.unusedSimpArgs false

set_option maxRecDepth 100000 in
set_option maxHeartbeats 1600000 in
theorem plain_record (c : ByteArray) (n : Int) (d : List (ByteArray × Val)) (ih : ∀ u ∈ d.map (·.2), PlainSaid u) : PlainSaid (.record c n d) := by
  intro deep x fs w h hs h0 h1
  simp only [VRep] at h
  obtain ⟨b, sv, xs, gs, rfl, hr, hc, hn, ho, hd, rfl⟩ := h
  obtain ⟨r0, r1, r2, hbl, -⟩ := recCells hr
  simp only [smallV] at hs
  by_cases hd4 : 400 < deep
  · have hd' : decide (400 < deep) = true := by simpa using hd4
    have hT := fun W => leaf_rep W 0 false 0 0 ⟨#[]⟩ 0 (by rfl) (by rfl) (by rfl) (by simp [maxLen, ByteArray.size]) (by rfl)
    go_enter Try.func93, Try.ntmps93
    go_wp2_with (refine wpList_store_row rfl 34 (.tmp 4) _ rfl w.heap.size zeroCells rfl rfl 34 zeroCells (zeroB w) termSize rfl (all_one (TRep.ones (hT w))) ?_)
    all_goals rw [World.setRow_alloc_new]
    all_goals go_wp2
    all_goals refine ⟨rfl, _, results_cell_row rfl _ _ w.heap.size 34 zeroCells (0, 0) _ rfl (heap_alloc_new w _) Try.underlying34 rfl termSize, _, rfl, ?_, (Below.refl _ _).alloc (Nat.le_refl _) _⟩
    all_goals (rw [plainT, hd']; exact hT _)
  · have hd' : decide (400 < deep) = false := by simpa using hd4
    have hal : Below w.heap.size w (w.alloc (.cells zeroCells 34)) := (Below.refl _ _).alloc (Nat.le_refl _) _
    have hen := Lib.hid (entries_plain d ih sv xs gs (w.alloc (.cells zeroCells 34)).drew deep (ownsRow_keep ho (fun b hb => hal.drew.block b (ownsRow_lt ho b hb).2)) (DsRep.but hd (below_but0 hal.drew) (fun _ _ f => f)) hs.1 hs.2 h0 (by omega))
    have hsz : (w.alloc (.cells zeroCells 34)).drew.heap.size = w.heap.size + 1 := size_alloc _ _
    rw [hsz] at hen
    have hpl : plainT (.record c n d) deep = .mk 10 false 0 0 ⟨#[]⟩ [] 0 [] (plainEs d (deep + 1)) c n := by rw [plainT, hd']; rfl
    unfold PlainEnd
    rw [hpl]
    have hsm := Lib.hid hs.1
    have hcn := Lib.hid (And.intro hc hn)
    obtain ⟨a0, cap0, rfl, -⟩ := ownsRow_form ho
    have hSk : ∀ w', Below w.heap.size w w' → w'.cell? ⟨b, 0, none⟩ = some (.string c) ∧ w'.cell? ⟨b, 1, none⟩ = some (.int .i64 n) ∧ w'.cell? ⟨b, 2, none⟩ = some (.slice a0 d.length cap0) := fun w' hb' => ⟨keeps_of_below hb' _ _ r0, keeps_of_below hb' _ _ r1, keeps_of_below hb' _ _ r2⟩
    clear hs ho hd ih hpl hr hc hn r0 r1 r2
    go_enter Try.func93, Try.ntmps93
    go_wp2_with fail
    refine wp_region_held_drew (S := (fun w' => w'.cell? ⟨b, 0, none⟩ = some (.string c) ∧ w'.cell? ⟨b, 1, none⟩ = some (.int .i64 n) ∧ w'.cell? ⟨b, 2, none⟩ = some (.slice a0 d.length cap0))) (by kernel_rfl) ?_ (fun hHeld => ?_)
    · exact hSk _ hal.drew
    refine wpAnyH_take (i := 0) (v := ?vq0) rfl (by kernel_rfl) (by kernel_rfl) (by kernel_rfl) (fun _ _ _ h => h) (.inl ⟨by rfl, ?hyq0⟩) (by assumption) ?restq0
    case hyq0 => (intro w hSw; (try dsimp only at hSw); go_simp; first | done | with_reducible rfl)
    (try simp only [Act.put, List.setIfInBounds_toArray, List.set_cons_zero, List.set_cons_succ, List.getElem_toArray, List.getElem_cons_zero, List.getElem_cons_succ])
    refine wpAnyH_take (i := 1) (v := ?vq1) rfl (by kernel_rfl) (by kernel_rfl) (by kernel_rfl) (fun _ _ _ h => h) (.inl ⟨by rfl, ?hyq1⟩) (by assumption) ?restq1
    case hyq1 => (intro w hSw; (try dsimp only at hSw); go_simp; first | done | with_reducible rfl)
    (try simp only [Act.put, List.setIfInBounds_toArray, List.set_cons_zero, List.set_cons_succ, List.getElem_toArray, List.getElem_cons_zero, List.getElem_cons_succ])
    refine wpAnyH_take (i := 2) (v := ?vq2) rfl (by kernel_rfl) (by kernel_rfl) (by kernel_rfl) (fun _ _ _ h => h) (.inl ⟨by rfl, ?hyq2⟩) (by assumption) ?restq2
    case hyq2 => (intro w hSw; (try dsimp only at hSw); go_simp; first | done | with_reducible rfl)
    (try simp only [Act.put, List.setIfInBounds_toArray, List.set_cons_zero, List.set_cons_succ, List.getElem_toArray, List.getElem_cons_zero, List.getElem_cons_succ])
    refine wpAnyH_take (i := 3) (v := ?vq3) rfl (by kernel_rfl) (by kernel_rfl) (by kernel_rfl) (fun _ _ _ h => h) (.inl ⟨by rfl, ?hyq3⟩) (by assumption) ?restq3
    case hyq3 => (intro w hSw; (try dsimp only at hSw); go_simp; first | done | with_reducible rfl)
    (try simp only [Act.put, List.setIfInBounds_toArray, List.set_cons_zero, List.set_cons_succ, List.getElem_toArray, List.getElem_cons_zero, List.getElem_cons_succ])
    refine wpAnyH_take (i := 4) (v := ?vq4) rfl (by kernel_rfl) (by kernel_rfl) (by kernel_rfl) (fun _ _ _ h => h) (.inl ⟨by rfl, ?hyq4⟩) (by assumption) ?restq4
    case hyq4 => (intro w hSw; (try dsimp only at hSw); go_simp; first | done | with_reducible rfl)
    (try simp only [Act.put, List.setIfInBounds_toArray, List.set_cons_zero, List.set_cons_succ, List.getElem_toArray, List.getElem_cons_zero, List.getElem_cons_succ])
    refine wpAnyH_take (i := 5) (v := ?vq5) rfl (by kernel_rfl) (by kernel_rfl) (by kernel_rfl) (fun _ _ _ h => h) (.inl ⟨by rfl, ?hyq5⟩) (by assumption) ?restq5
    case hyq5 => (intro w hSw; (try dsimp only at hSw); go_simp; first | done | with_reducible rfl)
    (try simp only [Act.put, List.setIfInBounds_toArray, List.set_cons_zero, List.set_cons_succ, List.getElem_toArray, List.getElem_cons_zero, List.getElem_cons_succ])
    refine wpAnyH_take (i := 6) (v := ?vq6) rfl (by kernel_rfl) (by kernel_rfl) (by kernel_rfl) (fun _ _ _ h => h) (.inl ⟨by rfl, ?hyq6⟩) (by assumption) ?restq6
    case hyq6 => (intro w hSw; (try dsimp only at hSw); go_simp; first | done | with_reducible rfl)
    (try simp only [Act.put, List.setIfInBounds_toArray, List.set_cons_zero, List.set_cons_succ, List.getElem_toArray, List.getElem_cons_zero, List.getElem_cons_succ])
    refine wpAnyH_take (i := 7) (v := ?vq7) rfl (by kernel_rfl) (by kernel_rfl) (by kernel_rfl) (fun _ _ _ h => h) (.inl ⟨by rfl, ?hyq7⟩) (by assumption) ?restq7
    case hyq7 => (intro w hSw; (try dsimp only at hSw); go_simp; first | done | with_reducible rfl)
    (try simp only [Act.put, List.setIfInBounds_toArray, List.set_cons_zero, List.set_cons_succ, List.getElem_toArray, List.getElem_cons_zero, List.getElem_cons_succ])
    refine wpAnyH_take (i := 8) (v := ?vq8) rfl (by kernel_rfl) (by kernel_rfl) (by kernel_rfl) (fun _ _ _ h => h) (.inl ⟨by rfl, ?hyq8⟩) (by assumption) ?restq8
    case hyq8 => (intro w hSw; (try dsimp only at hSw); go_simp; first | done | with_reducible rfl)
    (try simp only [Act.put, List.setIfInBounds_toArray, List.set_cons_zero, List.set_cons_succ, List.getElem_toArray, List.getElem_cons_zero, List.getElem_cons_succ])
    refine wpAnyH_take (i := 9) (v := ?vq9) rfl (by kernel_rfl) (by kernel_rfl) (by kernel_rfl) (fun _ _ _ h => h) (.inl ⟨by rfl, ?hyq9⟩) (by assumption) ?restq9
    case hyq9 => (intro w hSw; (try dsimp only at hSw); go_simp; first | done | with_reducible rfl)
    (try simp only [Act.put, List.setIfInBounds_toArray, List.set_cons_zero, List.set_cons_succ, List.getElem_toArray, List.getElem_cons_zero, List.getElem_cons_succ])
    refine wpAnyH_take (i := 10) (v := ?vq10) rfl (by kernel_rfl) (by kernel_rfl) (by kernel_rfl) (fun _ _ _ h => h) (.inl ⟨by rfl, ?hyq10⟩) (by assumption) ?restq10
    case hyq10 => (intro w hSw; (try dsimp only at hSw); go_simp; first | done | with_reducible rfl)
    (try simp only [Act.put, List.setIfInBounds_toArray, List.set_cons_zero, List.set_cons_succ, List.getElem_toArray, List.getElem_cons_zero, List.getElem_cons_succ])
    refine wpAnyH_take (i := 11) (v := ?vq11) rfl (by kernel_rfl) (by kernel_rfl) (by kernel_rfl) (fun _ _ _ h => h) (.inl ⟨by rfl, ?hyq11⟩) (by assumption) ?restq11
    case hyq11 => (intro w hSw; (try dsimp only at hSw); go_simp; first | done | with_reducible rfl)
    (try simp only [Act.put, List.setIfInBounds_toArray, List.set_cons_zero, List.set_cons_succ, List.getElem_toArray, List.getElem_cons_zero, List.getElem_cons_succ])
    refine wpAnyH_take (i := 12) (v := ?vq12) rfl (by kernel_rfl) (by kernel_rfl) (by kernel_rfl) (fun _ _ _ h => h) (.inl ⟨by rfl, ?hyq12⟩) (by assumption) ?restq12
    case hyq12 => (intro w hSw; (try dsimp only at hSw); go_simp; first | done | with_reducible rfl)
    (try simp only [Act.put, List.setIfInBounds_toArray, List.set_cons_zero, List.set_cons_succ, List.getElem_toArray, List.getElem_cons_zero, List.getElem_cons_succ])
    refine wpAnyH_ready (rs := [13]) (by kernel_rfl) (by simp) ?_
    refine AllReadyH.cons rfl (fun K hK => ?_) AllReadyH.nil
    rw [if_pos (by rfl)]
    go_simp
    refine hen.out.mono ?_
    rintro e w1 ⟨se, xe, rfl, ho1, hes, hb1⟩
    have hB := (hb1.block w.heap.size (by omega)).trans (zeroB w)
    have hbw : Below w.heap.size w w1 := hal.drew.trans (below_le hb1 (by omega))
    obtain ⟨hrow, hes'⟩ := entries_field (w := w) (by omega) ho1 hsm.out hes
    obtain ⟨oa, cap, rfl, -⟩ := ownsRow_form ho1
    have hT : TRep (only w1 (fun b => w.heap.size < b)) (.mk 10 false 0 0 ⟨#[]⟩ [] 0 [] (plainEs d (deep + 1)) c n) [.int .i64 10, .bool false, .int .i64 0, .float .f64 0, .string ⟨#[]⟩, .slice none 0 0, .int .u64 0, .slice none 0 0, .slice oa d.length cap, .string c, .int .i64 n] := by
      simp only [TRep]
      refine ⟨_, _, _, [], xe, rfl, ⟨by rfl, by rfl, by rfl, by simp [maxLen, ByteArray.size], by rfl, hcn.out.1, hcn.out.2⟩, nilRow, nilRow, rfl, ?_, hes'⟩
      rw [plainEs_eq, List.length_map]
      exact hrow
    have hcl := Lib.hid (plain_close hB hbw hT)
    have hone := TRep.ones hT
    have hS1 := hSk w1 hbw
    clear hrow hes' hT hes ho1
    refine hK.out _ _ ?_ (fun hHeld2 => ?_)
    · exact hS1
    clear hK K
    (try simp only [Act.put, List.setIfInBounds_toArray, List.set_cons_zero, List.set_cons_succ, List.getElem_toArray, List.getElem_cons_zero, List.getElem_cons_succ])
    refine wpAnyH_take (i := 14) (v := ?vq14) rfl (by kernel_rfl) (by kernel_rfl) (by kernel_rfl) (fun _ _ _ h => h) (.inl ⟨by rfl, ?hyq14⟩) (by assumption) ?restq14
    case hyq14 => (intro w hSw; (try dsimp only at hSw); go_simp; first | done | with_reducible rfl)
    (try simp only [Act.put, List.setIfInBounds_toArray, List.set_cons_zero, List.set_cons_succ, List.getElem_toArray, List.getElem_cons_zero, List.getElem_cons_succ])
    refine wpAnyH_ready (rs := [15]) (by kernel_rfl) (by simp) ?_
    refine AllReadyH.cons rfl (fun K hK => ?_) AllReadyH.nil
    refine wp_store_row 34 (.tmp 4) (.tmp 105) rfl w.heap.size #[.int .i64 10, .bool false, .int .i64 0, .float .f64 0, .string ⟨#[]⟩, .slice none 0 0, .int .u64 0, .slice none 0 0, .slice oa d.length cap, .string c, .int .i64 n] rfl rfl 34 zeroCells hB termSize rfl (all_one hone) ?_
    refine hK.out _ _ ?_ (fun hHeld2 => ?_)
    · exact hSk _ hcl.out.2.2
    clear hK K
    (try simp only [Act.put, List.setIfInBounds_toArray, List.set_cons_zero, List.set_cons_succ, List.getElem_toArray, List.getElem_cons_zero, List.getElem_cons_succ])
    refine wpAnyH_done (by kernel_rfl) ?_ _
    go_wp2_with fail
    exact ⟨rfl, _, results_cell_row rfl _ _ w.heap.size 34 _ (0, 0) _ rfl hcl.out.1 Try.underlying34 rfl termSize, _, rfl, hcl.out.2.1, hcl.out.2.2⟩
end Go.Proofs.Ytpcbdjfonmohaaa
