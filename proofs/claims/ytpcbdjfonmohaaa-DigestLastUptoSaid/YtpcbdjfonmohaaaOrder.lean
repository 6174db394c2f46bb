/- tenonref01.Order and Same. -/
import Derived.Test.YtpcbdjfonmohaaaCompareE
namespace Go.Proofs.Ytpcbdjfonmohaaa
open Go.RowKit
set_option linter.unusedVariables false
set_option linter.unusedSimpArgs false

def OrderEnd (v u : Val) (w : World) (e : Ending) (w' : World) : Prop := ∃ c y : Int, e = .returned (.tuple #[.int .i64 c, .int .i64 y]) ∧ ((y = 0 ∧ c = 0) ↔ (okB v = true ∧ okB u = true ∧ v = u)) ∧ Below w.heap.size w w'
set_option maxRecDepth 100000 in
set_option maxHeartbeats 1600000 in
theorem order_said (t u : Term) (cs ds : List Value) (w : World) (h : TRep w t cs) (h' : TRep w u ds) : Calls Try.prog 101 #[.agg cs.toArray, .agg ds.toArray] w (OrderEnd (builtV t) (builtV u) w) := by
  have hbel : ∀ c1 c2 : Array Value, Below w.heap.size w ((w.alloc (.cells c1 34)).alloc (.cells c2 34)) := fun c1 c2 => ((Below.refl _ _).alloc (Nat.le_refl _) _).alloc (by simp) _
  have hck1 := Lib.hid (fun W (hb : Below w.heap.size w W) => refCheck_any t cs W (TRep.keep (keeps_of_below hb) t cs h))
  have hck2 := Lib.hid (fun W (hb : Below w.heap.size w W) => refCheck_any u ds W (TRep.keep (keeps_of_below hb) u ds h'))
  have hcmp := Lib.hid (fun W (hb : Below w.heap.size w W) => cmp_any t u cs ds W (TRep.keep (keeps_of_below hb) t cs h) (TRep.keep (keeps_of_below hb) u ds h'))
  have hone := TRep.ones h
  have hone' := TRep.ones h'
  obtain ⟨c0, c1, c2, c3, c4, c5, c6, c7, c8, c9, c10, rfl⟩ := eleven (TRep.len h)
  obtain ⟨d0, d1, d2, d3, d4, d5, d6, d7, d8, d9, d10, rfl⟩ := eleven (TRep.len h')
  have hbA : ((w.alloc (.cells #[c0, c1, c2, c3, c4, c5, c6, c7, c8, c9, c10] 34)).alloc (.cells #[d0, d1, d2, d3, d4, d5, d6, d7, d8, d9, d10] 34)).heap[w.heap.size]? = some (.cells #[c0, c1, c2, c3, c4, c5, c6, c7, c8, c9, c10] 34 (0, 0)) := (Below.heap_alloc _ _ _ (by simp)).trans (heap_alloc_new w _)
  have hbB : ((w.alloc (.cells #[c0, c1, c2, c3, c4, c5, c6, c7, c8, c9, c10] 34)).alloc (.cells #[d0, d1, d2, d3, d4, d5, d6, d7, d8, d9, d10] 34)).heap[w.heap.size + 1]? = some (.cells #[d0, d1, d2, d3, d4, d5, d6, d7, d8, d9, d10] 34 (0, 0)) := heap_alloc_at _ (by simp)
  have hAH := Lib.hid hbA
  have hBH := Lib.hid hbB
  clear h h' hbA hbB
  generalize builtV t = v at *
  generalize builtV u = v' at *
  cases hok : okB v with
  | false =>
    have hne : ¬ (checkF v).2 = 0 := why_bad hok
    generalize checkF v = cf at *
    obtain ⟨a, y⟩ := cf
    have hy : (y != 0) = true := by simpa using hne
    have hokH := Lib.hid hok
    have hneH := Lib.hid hne
    clear hok hne
    go_enter Try.func101, Try.ntmps101
    go_wp2_with fail
    refine (hck1.out _ (hbel _ _)).mono ?_
    rintro e w1 ⟨rfl, hb1⟩
    have hbw1 := (hbel _ _).trans (below_le hb1 (by simp; omega))
    go_wp2
    go_ret2
    exact ⟨0, y, rfl, ⟨fun h => absurd h.1 hneH.out, fun h => absurd h.1 (by rw [hokH.out]; decide)⟩, hbw1⟩
  | true =>
  rw [check_ok hok] at hck1
  have hokH := Lib.hid hok
  cases hok' : okB v' with
  | false =>
    have hne : ¬ (checkF v').2 = 0 := why_bad hok'
    generalize checkF v' = cf at *
    obtain ⟨a, y⟩ := cf
    have hy : (y != 0) = true := by simpa using hne
    have hokH' := Lib.hid hok'
    have hneH := Lib.hid hne
    clear hok hok' hne
    go_enter Try.func101, Try.ntmps101
    go_wp2_with fail
    refine (hck1.out _ (hbel _ _)).mono ?_
    rintro e w1 ⟨rfl, hb1⟩
    have hbw1 := (hbel _ _).trans (below_le hb1 (by simp; omega))
    have hB1 := (hb1.block (w.heap.size + 1) (by simp)).trans hBH.out
    have dw1_0 : w1.cell? ⟨w.heap.size + 1, 0, none⟩ = some d0 := block_cells hB1 0
    have dw1_1 : w1.cell? ⟨w.heap.size + 1, 1, none⟩ = some d1 := block_cells hB1 1
    have dw1_2 : w1.cell? ⟨w.heap.size + 1, 2, none⟩ = some d2 := block_cells hB1 2
    have dw1_3 : w1.cell? ⟨w.heap.size + 1, 3, none⟩ = some d3 := block_cells hB1 3
    have dw1_4 : w1.cell? ⟨w.heap.size + 1, 4, none⟩ = some d4 := block_cells hB1 4
    have dw1_5 : w1.cell? ⟨w.heap.size + 1, 5, none⟩ = some d5 := block_cells hB1 5
    have dw1_6 : w1.cell? ⟨w.heap.size + 1, 6, none⟩ = some d6 := block_cells hB1 6
    have dw1_7 : w1.cell? ⟨w.heap.size + 1, 7, none⟩ = some d7 := block_cells hB1 7
    have dw1_8 : w1.cell? ⟨w.heap.size + 1, 8, none⟩ = some d8 := block_cells hB1 8
    have dw1_9 : w1.cell? ⟨w.heap.size + 1, 9, none⟩ = some d9 := block_cells hB1 9
    have dw1_10 : w1.cell? ⟨w.heap.size + 1, 10, none⟩ = some d10 := block_cells hB1 10
    go_wp2_with fail
    refine (hck2.out _ hbw1).mono ?_
    rintro e w2 ⟨rfl, hb2⟩
    have hbw2 := hbw1.trans (below_le hb2 hbw1.size)
    go_wp2
    go_ret2
    exact ⟨0, y, rfl, ⟨fun h => absurd h.1 hneH.out, fun h => absurd h.2.1 (by rw [hokH'.out]; decide)⟩, hbw2⟩
  | true =>
    rw [check_ok hok'] at hck2
    have hokH' := Lib.hid hok'
    have hcm2 := Lib.hid (fun W hb => hcmp.out W hb (okV_check hok) (okV_check hok'))
    clear hok hok' hcmp
    go_enter Try.func101, Try.ntmps101
    go_wp2_with fail
    refine (hck1.out _ (hbel _ _)).mono ?_
    rintro e w1 ⟨rfl, hb1⟩
    have hbw1 := (hbel _ _).trans (below_le hb1 (by simp; omega))
    have hA1 := (hb1.block w.heap.size (by simp; omega)).trans hAH.out
    have hB1 := (hb1.block (w.heap.size + 1) (by simp)).trans hBH.out
    have hA1H := Lib.hid hA1
    have hB1H := Lib.hid hB1
    have hlA := (Array.getElem?_eq_some_iff.1 hA1).1
    have hlB := (Array.getElem?_eq_some_iff.1 hB1).1
    have dw1_0 : w1.cell? ⟨w.heap.size + 1, 0, none⟩ = some d0 := block_cells hB1 0
    have dw1_1 : w1.cell? ⟨w.heap.size + 1, 1, none⟩ = some d1 := block_cells hB1 1
    have dw1_2 : w1.cell? ⟨w.heap.size + 1, 2, none⟩ = some d2 := block_cells hB1 2
    have dw1_3 : w1.cell? ⟨w.heap.size + 1, 3, none⟩ = some d3 := block_cells hB1 3
    have dw1_4 : w1.cell? ⟨w.heap.size + 1, 4, none⟩ = some d4 := block_cells hB1 4
    have dw1_5 : w1.cell? ⟨w.heap.size + 1, 5, none⟩ = some d5 := block_cells hB1 5
    have dw1_6 : w1.cell? ⟨w.heap.size + 1, 6, none⟩ = some d6 := block_cells hB1 6
    have dw1_7 : w1.cell? ⟨w.heap.size + 1, 7, none⟩ = some d7 := block_cells hB1 7
    have dw1_8 : w1.cell? ⟨w.heap.size + 1, 8, none⟩ = some d8 := block_cells hB1 8
    have dw1_9 : w1.cell? ⟨w.heap.size + 1, 9, none⟩ = some d9 := block_cells hB1 9
    have dw1_10 : w1.cell? ⟨w.heap.size + 1, 10, none⟩ = some d10 := block_cells hB1 10
    clear hA1 hB1
    go_wp2_with fail
    refine (hck2.out _ hbw1).mono ?_
    rintro e w2 ⟨rfl, hb2⟩
    have hbw2 := hbw1.trans (below_le hb2 hbw1.size)
    have hA2 := (hb2.block w.heap.size hlA).trans hA1H.out
    have hB2 := (hb2.block (w.heap.size + 1) hlB).trans hB1H.out
    clear dw1_0 dw1_1 dw1_2 dw1_3 dw1_4 dw1_5 dw1_6 dw1_7 dw1_8 dw1_9 dw1_10
    have cw2_0 : w2.cell? ⟨w.heap.size, 0, none⟩ = some c0 := block_cells hA2 0
    have cw2_1 : w2.cell? ⟨w.heap.size, 1, none⟩ = some c1 := block_cells hA2 1
    have cw2_2 : w2.cell? ⟨w.heap.size, 2, none⟩ = some c2 := block_cells hA2 2
    have cw2_3 : w2.cell? ⟨w.heap.size, 3, none⟩ = some c3 := block_cells hA2 3
    have cw2_4 : w2.cell? ⟨w.heap.size, 4, none⟩ = some c4 := block_cells hA2 4
    have cw2_5 : w2.cell? ⟨w.heap.size, 5, none⟩ = some c5 := block_cells hA2 5
    have cw2_6 : w2.cell? ⟨w.heap.size, 6, none⟩ = some c6 := block_cells hA2 6
    have cw2_7 : w2.cell? ⟨w.heap.size, 7, none⟩ = some c7 := block_cells hA2 7
    have cw2_8 : w2.cell? ⟨w.heap.size, 8, none⟩ = some c8 := block_cells hA2 8
    have cw2_9 : w2.cell? ⟨w.heap.size, 9, none⟩ = some c9 := block_cells hA2 9
    have cw2_10 : w2.cell? ⟨w.heap.size, 10, none⟩ = some c10 := block_cells hA2 10
    have dw2_0 : w2.cell? ⟨w.heap.size + 1, 0, none⟩ = some d0 := block_cells hB2 0
    have dw2_1 : w2.cell? ⟨w.heap.size + 1, 1, none⟩ = some d1 := block_cells hB2 1
    have dw2_2 : w2.cell? ⟨w.heap.size + 1, 2, none⟩ = some d2 := block_cells hB2 2
    have dw2_3 : w2.cell? ⟨w.heap.size + 1, 3, none⟩ = some d3 := block_cells hB2 3
    have dw2_4 : w2.cell? ⟨w.heap.size + 1, 4, none⟩ = some d4 := block_cells hB2 4
    have dw2_5 : w2.cell? ⟨w.heap.size + 1, 5, none⟩ = some d5 := block_cells hB2 5
    have dw2_6 : w2.cell? ⟨w.heap.size + 1, 6, none⟩ = some d6 := block_cells hB2 6
    have dw2_7 : w2.cell? ⟨w.heap.size + 1, 7, none⟩ = some d7 := block_cells hB2 7
    have dw2_8 : w2.cell? ⟨w.heap.size + 1, 8, none⟩ = some d8 := block_cells hB2 8
    have dw2_9 : w2.cell? ⟨w.heap.size + 1, 9, none⟩ = some d9 := block_cells hB2 9
    have dw2_10 : w2.cell? ⟨w.heap.size + 1, 10, none⟩ = some d10 := block_cells hB2 10
    clear hA2 hB2
    go_wp2_with fail
    refine (hcm2.out _ hbw2).mono ?_
    rintro e w3 ⟨c, rfl, hcc, hb3⟩
    go_wp2
    go_ret2
    exact ⟨c, 0, rfl, ⟨fun h => ⟨hokH.out, hokH'.out, hcc.1 h.2⟩, fun h => ⟨rfl, hcc.2 h.2.2⟩⟩, hbw2.trans (below_le hb3 hbw2.size)⟩
set_option maxRecDepth 100000 in
theorem sameV_said (t u : Term) (cs ds : List Value) (w : World) (h : TRep w t cs) (h' : TRep w u ds) :
    Calls Try.prog 64 #[.agg cs.toArray, .agg ds.toArray] w fun e w' => ∃ r : Bool, e = .returned (.bool r) ∧ (r = true ↔ (okB (builtV t) = true ∧ okB (builtV u) = true ∧ builtV t = builtV u)) ∧ Below w.heap.size w w' := by
  have hbel : ∀ c1 c2 : Array Value, Below w.heap.size w ((w.alloc (.cells c1 34)).alloc (.cells c2 34)) := fun c1 c2 => ((Below.refl _ _).alloc (Nat.le_refl _) _).alloc (by simp) _
  have hor := Lib.hid (fun W (hb : Below w.heap.size w W) => order_said t u cs ds W (TRep.keep (keeps_of_below hb) t cs h) (TRep.keep (keeps_of_below hb) u ds h'))
  have hone := TRep.ones h
  have hone' := TRep.ones h'
  obtain ⟨c0, c1, c2, c3, c4, c5, c6, c7, c8, c9, c10, rfl⟩ := eleven (TRep.len h)
  obtain ⟨d0, d1, d2, d3, d4, d5, d6, d7, d8, d9, d10, rfl⟩ := eleven (TRep.len h')
  clear h h'
  go_enter Try.func64, Try.ntmps64
  go_wp2_with fail
  refine (hor.out _ (hbel _ _)).mono ?_
  rintro e w1 ⟨c, y, rfl, hcy, hb1⟩
  have hbw1 := (hbel _ _).trans (below_le hb1 (by simp; omega))
  cases h1 : y == 0 with
  | true =>
    have e1 : y = 0 := by simpa using h1
    cases h2 : c == 0 with
    | true =>
      have e2 : c = 0 := by simpa using h2
      have hr := Lib.hid (hcy.1 ⟨e1, e2⟩)
      clear hcy e1 e2
      go_wp2
      go_ret
      exact ⟨true, rfl, ⟨fun _ => hr.out, fun _ => rfl⟩, hbw1⟩
    | false =>
      have e2 : ¬ c = 0 := by simpa using h2
      have hr := Lib.hid (fun h => e2 (hcy.2 h).2)
      clear hcy e1 e2
      go_wp2
      go_ret
      exact ⟨false, rfl, ⟨fun h => (by cases h), fun h => (hr.out h).elim⟩, hbw1⟩
  | false =>
    have e1 : ¬ y = 0 := by simpa using h1
    have hr := Lib.hid (fun h => e1 (hcy.2 h).1)
    clear hcy e1
    go_wp2
    go_ret
    exact ⟨false, rfl, ⟨fun h => (by cases h), fun h => (hr.out h).elim⟩, hbw1⟩
end Go.Proofs.Ytpcbdjfonmohaaa
