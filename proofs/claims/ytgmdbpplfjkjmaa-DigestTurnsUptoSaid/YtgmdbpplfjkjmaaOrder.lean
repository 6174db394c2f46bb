/- Compare's order is nought just where the values are one. -/
import Derived.Test.YtgmdbpplfjkjmaaCompareE
namespace Go.Proofs.Ytgmdbpplfjkjmaa
open Go.RowKit
set_option linter.unusedVariables false
set_option linter.unusedSimpArgs false

theorem cmpI_zero {x y : Int} (h : cmpI x y = 0) : x = y := by
  unfold cmpI at h
  split at h
  · omega
  · split at h <;> omega
theorem ordT_inj {l m : List UInt8} (h : lexN (ordT l) (ordT m) = 0) : l = m := by
  have h1 := lexN_eq h
  unfold ordT at h1
  have h2 := List.append_cancel_right h1
  have hinj : Function.Injective (fun b : UInt8 => b.toNat + 1) := fun a b hab => UInt8.toNat_inj.1 (by simpa using hab)
  exact (List.map_inj_right (fun a b hab => hinj hab)).1 h2
def CmpEq (v : Val) : Prop := numsV v → okV v → ∀ u, numsV u → okV u → cmpV v u = 0 → v = u
theorem vs_eq : ∀ (l : List Val), (∀ v ∈ l, CmpEq v) → numsVs l → okVs l → ∀ (m : List Val), numsVs m → okVs m → lexN (ordVs l) (ordVs m) = 0 → l = m
  | [], _, _, _, [], _, _, _ => rfl
  | [], _, _, _, y :: m, _, _, h => by rw [ordVs, ordVs] at h; simp [lexN] at h
  | x :: l, _, _, _, [], _, _, h => by rw [ordVs, ordVs] at h; simp [lexN] at h
  | x :: l, ih, hn, ho, y :: m, hn', ho', h => by
    rw [lex_vs] at h
    by_cases h0 : cmpV x y = 0
    · rw [if_pos h0] at h
      rw [ih x (List.mem_cons_self ..) hn.1 ho.1 y hn'.1 ho'.1 h0, vs_eq l (fun v hv => ih v (List.mem_cons_of_mem _ hv)) hn.2 ho.2 m hn'.2 ho'.2 h]
    · rw [if_neg h0] at h; exact absurd h h0
theorem ds_eq : ∀ (l : List (ByteArray × Val)), (∀ v ∈ l.map (·.2), CmpEq v) → numsDs l → okDs l → ∀ (m : List (ByteArray × Val)), numsDs m → okDs m → lexN (ordDs l) (ordDs m) = 0 → l = m
  | [], _, _, _, [], _, _, _ => rfl
  | [], _, _, _, y :: m, _, _, h => by rw [ordDs, ordDs] at h; simp [lexN] at h
  | x :: l, _, _, _, [], _, _, h => by rw [ordDs, ordDs] at h; simp [lexN] at h
  | (s, x) :: l, ih, hn, ho, (t, y) :: m, hn', ho', h => by
    rw [lex_ds] at h
    by_cases h1 : lexN (ordT s.data.toList) (ordT t.data.toList) = 0
    · rw [if_pos h1] at h
      by_cases h0 : cmpV x y = 0
      · rw [if_pos h0] at h
        rw [ih x (by simp) hn.1 ho.1 y hn'.1 ho'.1 h0, ds_eq l (fun v hv => ih v (by rw [List.map_cons]; exact List.mem_cons_of_mem _ hv)) hn.2 ho.2 m hn'.2 ho'.2 h,
          ByteArray.ext (Array.ext' (ordT_inj h1))]
      · rw [if_neg h0] at h; exact absurd h h0
    · rw [if_neg h1] at h; exact absurd h h1
theorem cmp_zero : ∀ v : Val, CmpEq v := val_ind fun v ih hn ho u hn' ho' h => by
  have hpos : ∀ {v : Val}, okV v → 0 ≤ kindV v := fun {v} ho => by cases v <;> first | exact ho.elim | (simp [kindV])
  by_cases hk : kindV v = kindV u
  · cases v <;> cases u <;> first
      | rfl
      | exact ho.elim
      | exact ho'.elim
      | (exfalso; simp [kindV] at hk; done)
      | skip
    · rename_i b c
      rw [cmpV_bool] at h
      cases b <;> cases c <;> first | rfl | (simp [cmpI] at h)
    · rename_i n m
      rw [cmpV_int hn.1 hn'.1] at h
      rw [cmpI_zero h]
    · rename_i x y
      rw [cmpV_float] at h
      rw [(placeN_inj hn hn').1 (cmpI_zero h)]
    · rename_i s t
      rw [cmpV_text] at h
      rw [ByteArray.ext (Array.ext' (ordT_inj h))]
    · rename_i s t
      rw [cmpV_bytes] at h
      rw [ordT_inj h]
    · rename_i n m
      rw [cmpV_ref hn.1 hn'.1] at h
      rw [cmpI_zero h]
    · rename_i l m
      rw [cmpV_list] at h
      rw [vs_eq l ih hn ho.2 m hn' ho'.2 h]
    · rename_i l m
      rw [cmpV_dict] at h
      rw [ds_eq l ih hn ho.2 m hn' ho'.2 h]
    · rename_i c n l c' n' m
      obtain ⟨-, v0, v1, -⟩ := record_own ho.1
      obtain ⟨-, v2, v3, -⟩ := record_own ho'.1
      rw [cmpV_record c c' (by omega) (by omega)] at h
      by_cases h1 : lexN (ordT c.data.toList) (ordT c'.data.toList) = 0
      · rw [if_pos h1] at h
        by_cases h2 : n = n'
        · rw [if_pos h2] at h
          rw [ByteArray.ext (Array.ext' (ordT_inj h1)), h2, ds_eq l ih hn ho.2 m hn' ho'.2 h]
        · rw [if_neg h2] at h; exact absurd (cmpI_zero h) h2
      · rw [if_neg h1] at h; exact absurd h h1
  · rw [cmpV_kinds ho ho' hk (hpos ho) (hpos ho')] at h
    exact absurd (cmpI_zero h) hk
theorem cmpV_eq {v u : Val} (hn : numsV v) (hn' : numsV u) (ho : okV v) (ho' : okV u) (h : cmpV v u = 0) : v = u := cmp_zero v hn ho u hn' ho' h
end Go.Proofs.Ytgmdbpplfjkjmaa

/-! tenonref01.Order and Same. -/
namespace Go.Proofs.Ytgmdbpplfjkjmaa
open Go.RowKit
set_option linter.unusedVariables false
set_option linter.unusedSimpArgs false

def OrderEnd (v u : Val) (w : World) (e : Ending) (w' : World) : Prop := ∃ c y : Int, e = .returned (.tuple #[.int .i64 c, .int .i64 y]) ∧ ((y = 0 ∧ c = 0) ↔ (okB v = true ∧ okB u = true ∧ v = u)) ∧ Below w.heap.size w w'
set_option maxRecDepth 100000 in
set_option maxHeartbeats 1600000 in
theorem order_said (t u : Term) (cs ds : List Value) (w : World) (h : TRep w t cs) (h' : TRep w u ds) : Calls Try.prog 194 #[.agg cs.toArray, .agg ds.toArray] w (OrderEnd (builtV t) (builtV u) w) := by
  have hbel : ∀ c1 c2 : Array Value, Below w.heap.size w ((w.alloc (.cells c1 31)).alloc (.cells c2 31)) := fun c1 c2 => ((Below.refl _ _).alloc (Nat.le_refl _) _).alloc (by simp) _
  have hck1 := Lib.hid (fun W (hb : Below w.heap.size w W) => refCheck_any t cs W (TRep.keep (keeps_of_below hb) t cs h))
  have hck2 := Lib.hid (fun W (hb : Below w.heap.size w W) => refCheck_any u ds W (TRep.keep (keeps_of_below hb) u ds h'))
  have hcmp := Lib.hid (fun W (hb : Below w.heap.size w W) => cmp_any t u cs ds W (TRep.keep (keeps_of_below hb) t cs h) (TRep.keep (keeps_of_below hb) u ds h'))
  have hceq := Lib.hid (fun (ho : okV (builtV t)) (ho' : okV (builtV u)) => cmpV_eq (nums_built t cs h) (nums_built u ds h') ho ho')
  have hone := TRep.ones h
  have hone' := TRep.ones h'
  obtain ⟨c0, c1, c2, c3, c4, c5, c6, c7, c8, c9, c10, rfl⟩ := eleven (TRep.len h)
  obtain ⟨d0, d1, d2, d3, d4, d5, d6, d7, d8, d9, d10, rfl⟩ := eleven (TRep.len h')
  have hbA : ((w.alloc (.cells #[c0, c1, c2, c3, c4, c5, c6, c7, c8, c9, c10] 31)).alloc (.cells #[d0, d1, d2, d3, d4, d5, d6, d7, d8, d9, d10] 31)).heap[w.heap.size]? = some (.cells #[c0, c1, c2, c3, c4, c5, c6, c7, c8, c9, c10] 31 (0, 0)) := (Below.heap_alloc _ _ _ (by simp)).trans (heap_alloc_new w _)
  have hbB : ((w.alloc (.cells #[c0, c1, c2, c3, c4, c5, c6, c7, c8, c9, c10] 31)).alloc (.cells #[d0, d1, d2, d3, d4, d5, d6, d7, d8, d9, d10] 31)).heap[w.heap.size + 1]? = some (.cells #[d0, d1, d2, d3, d4, d5, d6, d7, d8, d9, d10] 31 (0, 0)) := heap_alloc_at _ (by simp)
  have hAH := Lib.hid hbA
  have hBH := Lib.hid hbB
  clear h h' hbA hbB
  generalize builtV t = v at *
  generalize builtV u = v' at *
  cases hok : okB v with
  | false =>
    have hne : ¬ (checkF v).2 = 0 := why_bad hok
    generalize checkF v = cf at *
    obtain ⟨a, y⟩ := cf
    have hy : (y != 0) = true := by simpa using hne
    have hokH := Lib.hid hok
    have hneH := Lib.hid hne
    clear hok hne
    go_enter Try.func194, Try.ntmps194
    go_wp2_with fail
    refine (hck1.out _ (hbel _ _)).mono ?_
    rintro e w1 ⟨rfl, hb1⟩
    have hbw1 := (hbel _ _).trans (below_le hb1 (by simp; omega))
    go_wp2
    go_ret2
    exact ⟨0, y, rfl, ⟨fun h => absurd h.1 hneH.out, fun h => absurd h.1 (by rw [hokH.out]; decide)⟩, hbw1⟩
  | true =>
  rw [check_ok hok] at hck1
  have hokH := Lib.hid hok
  cases hok' : okB v' with
  | false =>
    have hne : ¬ (checkF v').2 = 0 := why_bad hok'
    generalize checkF v' = cf at *
    obtain ⟨a, y⟩ := cf
    have hy : (y != 0) = true := by simpa using hne
    have hokH' := Lib.hid hok'
    have hneH := Lib.hid hne
    clear hok hok' hne
    go_enter Try.func194, Try.ntmps194
    go_wp2_with fail
    refine (hck1.out _ (hbel _ _)).mono ?_
    rintro e w1 ⟨rfl, hb1⟩
    have hbw1 := (hbel _ _).trans (below_le hb1 (by simp; omega))
    have hB1 := (hb1.block (w.heap.size + 1) (by simp)).trans hBH.out
    have dw1_0 : w1.cell? ⟨w.heap.size + 1, 0, none⟩ = some d0 := block_cells hB1 0
    have dw1_1 : w1.cell? ⟨w.heap.size + 1, 1, none⟩ = some d1 := block_cells hB1 1
    have dw1_2 : w1.cell? ⟨w.heap.size + 1, 2, none⟩ = some d2 := block_cells hB1 2
    have dw1_3 : w1.cell? ⟨w.heap.size + 1, 3, none⟩ = some d3 := block_cells hB1 3
    have dw1_4 : w1.cell? ⟨w.heap.size + 1, 4, none⟩ = some d4 := block_cells hB1 4
    have dw1_5 : w1.cell? ⟨w.heap.size + 1, 5, none⟩ = some d5 := block_cells hB1 5
    have dw1_6 : w1.cell? ⟨w.heap.size + 1, 6, none⟩ = some d6 := block_cells hB1 6
    have dw1_7 : w1.cell? ⟨w.heap.size + 1, 7, none⟩ = some d7 := block_cells hB1 7
    have dw1_8 : w1.cell? ⟨w.heap.size + 1, 8, none⟩ = some d8 := block_cells hB1 8
    have dw1_9 : w1.cell? ⟨w.heap.size + 1, 9, none⟩ = some d9 := block_cells hB1 9
    have dw1_10 : w1.cell? ⟨w.heap.size + 1, 10, none⟩ = some d10 := block_cells hB1 10
    go_wp2_with fail
    refine (hck2.out _ hbw1).mono ?_
    rintro e w2 ⟨rfl, hb2⟩
    have hbw2 := hbw1.trans (below_le hb2 hbw1.size)
    go_wp2
    go_ret2
    exact ⟨0, y, rfl, ⟨fun h => absurd h.1 hneH.out, fun h => absurd h.2.1 (by rw [hokH'.out]; decide)⟩, hbw2⟩
  | true =>
    rw [check_ok hok'] at hck2
    have hokH' := Lib.hid hok'
    have hcm2 := Lib.hid (fun W hb => hcmp.out W hb (okV_check hok) (okV_check hok'))
    clear hok hok' hcmp
    go_enter Try.func194, Try.ntmps194
    go_wp2_with fail
    refine (hck1.out _ (hbel _ _)).mono ?_
    rintro e w1 ⟨rfl, hb1⟩
    have hbw1 := (hbel _ _).trans (below_le hb1 (by simp; omega))
    have hA1 := (hb1.block w.heap.size (by simp; omega)).trans hAH.out
    have hB1 := (hb1.block (w.heap.size + 1) (by simp)).trans hBH.out
    have hA1H := Lib.hid hA1
    have hB1H := Lib.hid hB1
    have hlA := (Array.getElem?_eq_some_iff.1 hA1).1
    have hlB := (Array.getElem?_eq_some_iff.1 hB1).1
    have dw1_0 : w1.cell? ⟨w.heap.size + 1, 0, none⟩ = some d0 := block_cells hB1 0
    have dw1_1 : w1.cell? ⟨w.heap.size + 1, 1, none⟩ = some d1 := block_cells hB1 1
    have dw1_2 : w1.cell? ⟨w.heap.size + 1, 2, none⟩ = some d2 := block_cells hB1 2
    have dw1_3 : w1.cell? ⟨w.heap.size + 1, 3, none⟩ = some d3 := block_cells hB1 3
    have dw1_4 : w1.cell? ⟨w.heap.size + 1, 4, none⟩ = some d4 := block_cells hB1 4
    have dw1_5 : w1.cell? ⟨w.heap.size + 1, 5, none⟩ = some d5 := block_cells hB1 5
    have dw1_6 : w1.cell? ⟨w.heap.size + 1, 6, none⟩ = some d6 := block_cells hB1 6
    have dw1_7 : w1.cell? ⟨w.heap.size + 1, 7, none⟩ = some d7 := block_cells hB1 7
    have dw1_8 : w1.cell? ⟨w.heap.size + 1, 8, none⟩ = some d8 := block_cells hB1 8
    have dw1_9 : w1.cell? ⟨w.heap.size + 1, 9, none⟩ = some d9 := block_cells hB1 9
    have dw1_10 : w1.cell? ⟨w.heap.size + 1, 10, none⟩ = some d10 := block_cells hB1 10
    clear hA1 hB1
    go_wp2_with fail
    refine (hck2.out _ hbw1).mono ?_
    rintro e w2 ⟨rfl, hb2⟩
    have hbw2 := hbw1.trans (below_le hb2 hbw1.size)
    have hA2 := (hb2.block w.heap.size hlA).trans hA1H.out
    have hB2 := (hb2.block (w.heap.size + 1) hlB).trans hB1H.out
    clear dw1_0 dw1_1 dw1_2 dw1_3 dw1_4 dw1_5 dw1_6 dw1_7 dw1_8 dw1_9 dw1_10
    have cw2_0 : w2.cell? ⟨w.heap.size, 0, none⟩ = some c0 := block_cells hA2 0
    have cw2_1 : w2.cell? ⟨w.heap.size, 1, none⟩ = some c1 := block_cells hA2 1
    have cw2_2 : w2.cell? ⟨w.heap.size, 2, none⟩ = some c2 := block_cells hA2 2
    have cw2_3 : w2.cell? ⟨w.heap.size, 3, none⟩ = some c3 := block_cells hA2 3
    have cw2_4 : w2.cell? ⟨w.heap.size, 4, none⟩ = some c4 := block_cells hA2 4
    have cw2_5 : w2.cell? ⟨w.heap.size, 5, none⟩ = some c5 := block_cells hA2 5
    have cw2_6 : w2.cell? ⟨w.heap.size, 6, none⟩ = some c6 := block_cells hA2 6
    have cw2_7 : w2.cell? ⟨w.heap.size, 7, none⟩ = some c7 := block_cells hA2 7
    have cw2_8 : w2.cell? ⟨w.heap.size, 8, none⟩ = some c8 := block_cells hA2 8
    have cw2_9 : w2.cell? ⟨w.heap.size, 9, none⟩ = some c9 := block_cells hA2 9
    have cw2_10 : w2.cell? ⟨w.heap.size, 10, none⟩ = some c10 := block_cells hA2 10
    have dw2_0 : w2.cell? ⟨w.heap.size + 1, 0, none⟩ = some d0 := block_cells hB2 0
    have dw2_1 : w2.cell? ⟨w.heap.size + 1, 1, none⟩ = some d1 := block_cells hB2 1
    have dw2_2 : w2.cell? ⟨w.heap.size + 1, 2, none⟩ = some d2 := block_cells hB2 2
    have dw2_3 : w2.cell? ⟨w.heap.size + 1, 3, none⟩ = some d3 := block_cells hB2 3
    have dw2_4 : w2.cell? ⟨w.heap.size + 1, 4, none⟩ = some d4 := block_cells hB2 4
    have dw2_5 : w2.cell? ⟨w.heap.size + 1, 5, none⟩ = some d5 := block_cells hB2 5
    have dw2_6 : w2.cell? ⟨w.heap.size + 1, 6, none⟩ = some d6 := block_cells hB2 6
    have dw2_7 : w2.cell? ⟨w.heap.size + 1, 7, none⟩ = some d7 := block_cells hB2 7
    have dw2_8 : w2.cell? ⟨w.heap.size + 1, 8, none⟩ = some d8 := block_cells hB2 8
    have dw2_9 : w2.cell? ⟨w.heap.size + 1, 9, none⟩ = some d9 := block_cells hB2 9
    have dw2_10 : w2.cell? ⟨w.heap.size + 1, 10, none⟩ = some d10 := block_cells hB2 10
    clear hA2 hB2
    go_wp2_with fail
    refine (hcm2.out _ hbw2).mono ?_
    rintro e w3 ⟨rfl, hb3⟩
    go_wp2
    go_ret2
    exact ⟨_, 0, rfl, ⟨fun h => ⟨hokH.out, hokH'.out, hceq.out (okV_check hokH.out) (okV_check hokH'.out) h.2⟩, fun h => ⟨rfl, by rw [h.2.2]; exact cmpV_self _⟩⟩, hbw2.trans (below_le hb3 hbw2.size)⟩
set_option maxRecDepth 100000 in
theorem sameV_said (t u : Term) (cs ds : List Value) (w : World) (h : TRep w t cs) (h' : TRep w u ds) :
    Calls Try.prog 150 #[.agg cs.toArray, .agg ds.toArray] w fun e w' => ∃ r : Bool, e = .returned (.bool r) ∧ (r = true ↔ (okB (builtV t) = true ∧ okB (builtV u) = true ∧ builtV t = builtV u)) ∧ Below w.heap.size w w' := by
  have hbel : ∀ c1 c2 : Array Value, Below w.heap.size w ((w.alloc (.cells c1 31)).alloc (.cells c2 31)) := fun c1 c2 => ((Below.refl _ _).alloc (Nat.le_refl _) _).alloc (by simp) _
  have hor := Lib.hid (fun W (hb : Below w.heap.size w W) => order_said t u cs ds W (TRep.keep (keeps_of_below hb) t cs h) (TRep.keep (keeps_of_below hb) u ds h'))
  have hone := TRep.ones h
  have hone' := TRep.ones h'
  obtain ⟨c0, c1, c2, c3, c4, c5, c6, c7, c8, c9, c10, rfl⟩ := eleven (TRep.len h)
  obtain ⟨d0, d1, d2, d3, d4, d5, d6, d7, d8, d9, d10, rfl⟩ := eleven (TRep.len h')
  clear h h'
  go_enter Try.func150, Try.ntmps150
  go_wp2_with fail
  refine (hor.out _ (hbel _ _)).mono ?_
  rintro e w1 ⟨c, y, rfl, hcy, hb1⟩
  have hbw1 := (hbel _ _).trans (below_le hb1 (by simp; omega))
  cases h1 : y == 0 with
  | true =>
    have e1 : y = 0 := by simpa using h1
    cases h2 : c == 0 with
    | true =>
      have e2 : c = 0 := by simpa using h2
      have hr := Lib.hid (hcy.1 ⟨e1, e2⟩)
      clear hcy e1 e2
      go_wp2
      go_ret
      exact ⟨true, rfl, ⟨fun _ => hr.out, fun _ => rfl⟩, hbw1⟩
    | false =>
      have e2 : ¬ c = 0 := by simpa using h2
      have hr := Lib.hid (fun h => e2 (hcy.2 h).2)
      clear hcy e1 e2
      go_wp2
      go_ret
      exact ⟨false, rfl, ⟨fun h => (by cases h), fun h => (hr.out h).elim⟩, hbw1⟩
  | false =>
    have e1 : ¬ y = 0 := by simpa using h1
    have hr := Lib.hid (fun h => e1 (hcy.2 h).1)
    clear hcy e1
    go_wp2
    go_ret
    exact ⟨false, rfl, ⟨fun h => (by cases h), fun h => (hr.out h).elim⟩, hbw1⟩
end Go.Proofs.Ytgmdbpplfjkjmaa
