/- The walk of ObjectOnce. -/
import Derived.Test.YtpcbdjfonmohaaaLazyObj
import Derived.Test.YtpcbdjfonmohaaaNine
import Derived.Test.YtpcbdjfonmohaaaGiven
namespace Go.Proofs.Ytpcbdjfonmohaaa
open Go.RowKit
set_option linter.unusedVariables false
set_option linter.unusedSimpArgs false

/-- The core after j loads. -/
def coreJ (c : CoreS) (j : Nat) : CoreS := { c with n7 := j, n8 := if c.loads = 0 then (if j = 0 then 0 else 1) else j, loaded := decide (c.loads = 0 ∧ ¬ j = 0) }
theorem coreJ_zero {c : CoreS} (h7 : c.n7 = 0) (h8 : c.n8 = 0) (hl : c.loaded = false) : coreJ c 0 = c := by
  cases c
  simp only at h7 h8 hl
  subst h7 h8 hl
  simp [coreJ]
theorem coreJ_step (c : CoreS) (j : Nat) : stepC (coreJ c j) = coreJ c (j + 1) := by
  unfold stepC coreJ
  by_cases hl : c.loads = 0
  · by_cases hj : j = 0
    · subst hj; simp [hl]
    · simp [hl, hj]
  · simp [hl]
theorem coreJ_ans (c : CoreS) (j : Nat) : ansC (coreJ c j) = c.loads := by
  unfold ansC coreJ
  by_cases hl : c.loads = 0
  · by_cases hj : j = 0
    · simp [hl]
    · simp [hl, hj]
  · simp [hl]
/-- What stays through the loop. -/
structure RoundAt (w wr : World) (sb xb cb B : Nat) (T : TypeId) (v : Value) (c : CoreS) (j : Nat) : Prop where
  core : CoreAt wr cb (coreJ c j)
  able : Able 207 lazyMs (.iface T v) B cb wr
  x0 : wr.cell? ⟨xb, 0, none⟩ = some (.iface T v)
  x1 : wr.cell? ⟨xb, 1, none⟩ = some (.pointer (some ⟨cb, 0, none⟩))
  s11 : wr.cell? ⟨sb, 11, none⟩ = some (.int .i64 c.loads)
  bel : Below w.heap.size w wr
  big : w.heap.size ≤ cb ∧ ¬ xb = cb ∧ ¬ sb = cb
theorem RoundAt.step {w wr w' : World} {sb xb cb B : Nat} {T : TypeId} {v : Value} {c : CoreS} {j : Nat} (h : RoundAt w wr sb xb cb B T v c j) (hc : CoreAt w' cb (coreJ c (j + 1))) (hb : But (· = cb) wr w') : RoundAt w w' sb xb cb B T v c (j + 1) :=
  ⟨hc, h.able.move (same_but hb) hb.size, (hb.cell (p := ⟨xb, 0, none⟩) (cell_in h.x0) h.big.2.1).trans h.x0, (hb.cell (p := ⟨xb, 1, none⟩) (cell_in h.x1) h.big.2.1).trans h.x1, (hb.cell (p := ⟨sb, 11, none⟩) (cell_in h.s11) h.big.2.2).trans h.s11, h.bel.trans (hb.below' h.bel.size (fun i h1 h2 => by have := h.big.1; omega)), h.big⟩
theorem RoundAt.drew {w wr : World} {sb xb cb B : Nat} {T : TypeId} {v : Value} {c : CoreS} {j : Nat} (h : RoundAt w wr sb xb cb B T v c j) : RoundAt w wr.drew sb xb cb B T v c j :=
  ⟨h.core, h.able.move (fun _ _ _ _ => rfl) (Nat.le_refl _), h.x0, h.x1, h.s11, h.bel.drew, h.big⟩
section
variable (sh id ve gv ld wi : Int) (fo ko : Option Addr) (fl fc kl kc : Nat) (cl ow : ByteArray) (lo : Bool) (w : World)

set_option maxRecDepth 100000 in
set_option maxHeartbeats 1600000 in
theorem times_walk (hs h pn tm : Int) (htm : 0 ≤ tm ∧ tm ≤ 255) : Calls Try.prog 8 #[.agg #[.int .i64 hs, .int .i64 h, .int .i64 sh, .int .u64 id, .slice fo fl fc, .string cl, .int .i64 ve, .slice ko kl kc, .string ow, .int .i64 gv, .bool lo, .int .i64 ld, .int .i64 pn, .int .i64 wi], .int .u8 tm] w fun e w' => e = .returned (.bool true) ∧ Below w.heap.size w w' := by
  obtain ⟨W0, hW0⟩ : ∃ W0, W0 = w.alloc (.cells #[.int .i64 hs, .int .i64 h, .int .i64 sh, .int .u64 id, .slice fo fl fc, .string cl, .int .i64 ve, .slice ko kl kc, .string ow, .int .i64 gv, .bool lo, .int .i64 ld, .int .i64 pn, .int .i64 wi] 72) := ⟨_, rfl⟩
  have hb0 : Below w.heap.size w W0 := by rw [hW0]; exact (Below.refl _ _).alloc (Nat.le_refl _) _
  have e0 : W0.heap[w.heap.size]? = some (.cells #[.int .i64 hs, .int .i64 h, .int .i64 sh, .int .u64 id, .slice fo fl fc, .string cl, .int .i64 ve, .slice ko kl kc, .string ow, .int .i64 gv, .bool lo, .int .i64 ld, .int .i64 pn, .int .i64 wi] 72 (0, 0)) := by rw [hW0]; exact heap_alloc_new _ _
  have hl0 : w.heap.size < W0.heap.size := by rw [hW0]; simp
  have hlives := Lib.hid (lives10_said W0)
  obtain ⟨bb, hkin⟩ := kinds_lazy sh id ve gv ld wi fo ko fl fc kl kc cl ow false _ (or_eight h)
  have hmade := Lib.hid (fun W => made_said sh id ve gv ld wi fo ko fl fc kl kc cl ow false W (bits .or .i64 h 8) _ rfl bb true hkin)
  obtain ⟨k, hk⟩ : ∃ k, k = fitH (bits .or .i64 h 8) := ⟨_, rfl⟩
  rw [← hk] at hmade
  clear hkin hk
  have hb0H := Lib.hid hb0
  have htmH := Lib.hid htm
  clear hb0 htm
  go_enter Try.func8, Try.ntmps8
  go_wp2_with fail
  rw [← hW0]
  clear hW0
  refine hlives.out.mono ?_
  rintro e w1 ⟨rfl, hb1⟩
  have q1 := (hb1.block _ hl0).trans e0
  have g0 := row_block q1 (k := 0) (v := .int .i64 hs) rfl
  have g1 := row_block q1 (k := 1) (v := .int .i64 h) rfl
  have g2 := row_block q1 (k := 2) (v := .int .i64 sh) rfl
  have g3 := row_block q1 (k := 3) (v := .int .u64 id) rfl
  have g4 := row_block q1 (k := 4) (v := .slice fo fl fc) rfl
  have g5 := row_block q1 (k := 5) (v := .string cl) rfl
  have g6 := row_block q1 (k := 6) (v := .int .i64 ve) rfl
  have g7 := row_block q1 (k := 7) (v := .slice ko kl kc) rfl
  have g8 := row_block q1 (k := 8) (v := .string ow) rfl
  have g9 := row_block q1 (k := 9) (v := .int .i64 gv) rfl
  have g10 := row_block q1 (k := 10) (v := .bool lo) rfl
  have g11 := row_block q1 (k := 11) (v := .int .i64 ld) rfl
  have g12 := row_block q1 (k := 12) (v := .int .i64 pn) rfl
  have g13 := row_block q1 (k := 13) (v := .int .i64 wi) rfl
  have z0 := frozen_of' q1 0
  have z1 := frozen_of' q1 1
  have z10 := frozen_of' q1 10
  have z12 := frozen_of' q1 12
  have hb1H := Lib.hid (hb0H.out.trans (below_le hb1 hb0H.out.size))
  have hl1 : w.heap.size < w1.heap.size := (Array.getElem?_eq_some_iff.1 q1).1
  clear hb1 e0
  have q1H := Lib.hid q1
  clear q1
  go_wp2_with fail
  obtain ⟨W1, hW1⟩ : ∃ W1, W1 = (((w1.setCell ⟨w.heap.size, 0, none⟩ (.int .i64 0)).setCell ⟨w.heap.size, 1, none⟩ (.int .i64 (bits .or .i64 h 8))).setCell ⟨w.heap.size, 10, none⟩ (.bool false)).setCell ⟨w.heap.size, 12, none⟩ (.int .i64 0) := ⟨_, rfl⟩
  have hbW1 : Below w.heap.size w W1 := by rw [hW1]; exact (((hb1H.out.setCell (p := ⟨w.heap.size, 0, none⟩) (Nat.le_refl _) _).setCell (p := ⟨w.heap.size, 1, none⟩) (Nat.le_refl _) _).setCell (p := ⟨w.heap.size, 10, none⟩) (Nat.le_refl _) _).setCell (p := ⟨w.heap.size, 12, none⟩) (Nat.le_refl _) _
  have hq2 := setCell_block (setCell_block (setCell_block (setCell_block q1H.out 0 (.int .i64 0)) 1 (.int .i64 (bits .or .i64 h 8))) 10 (.bool false)) 12 (.int .i64 0)
  rw [← hW1] at hq2
  have s11 := row_block hq2 (k := 11) (v := .int .i64 ld) rfl
  rw [← hW1]
  clear hW1 hq2 g0 g1 g2 g3 g4 g5 g6 g7 g8 g9 g10 g11 g12 g13 z0 z1 z10 z12
  have hszW1 := hbW1.size
  have hlW1 := cell_in s11
  have hlW1' : w.heap.size < W1.heap.size := hlW1
  refine (hmade.out W1).mono ?_
  rintro e w2 ⟨T, v, B, cb, db, rfl, hcore, ho0, hl, hcb, hb⟩
  have hlz := hl rfl
  have hcw := hcore.lt
  have s11' := (hb.cell (p := ⟨w.heap.size, 11, none⟩) hlW1).trans s11
  obtain ⟨c, hc⟩ : ∃ c : CoreS, c = ⟨.int .i64 k, .int .i64 sh, .int .u64 id, .slice fo fl fc, .string cl, .int .i64 ve, .slice ko kl kc, ow, gv, false, ld, .int .i64 wi, 0, 0, 0, 0⟩ := ⟨_, rfl⟩
  rw [← hc] at hcore
  have hn7 : c.n7 = 0 := by rw [hc]
  have hn8 : c.n8 = 0 := by rw [hc]
  have hnl : c.loaded = false := by rw [hc]
  have hn5 : c.n5 = 0 := by rw [hc]
  have hn6 : c.n6 = 0 := by rw [hc]
  have hld : c.loads = ld := by rw [hc]
  clear hc ho0 hl
  obtain ⟨w3, hw3⟩ : ∃ w3, w3 = w2.alloc (.cells #[.iface T v, .pointer (some ⟨cb, 0, none⟩), .pointer (some ⟨db, 0, none⟩)] 78) := ⟨_, rfl⟩
  have hb3 : But (fun _ => False) w2 w3 := by rw [hw3]; exact (But.refl _ _).alloc _
  have e3 : w3.heap[w2.heap.size]? = some (.cells #[.iface T v, .pointer (some ⟨cb, 0, none⟩), .pointer (some ⟨db, 0, none⟩)] 78 (0, 0)) := by rw [hw3]; exact heap_alloc_new _ _
  have hR : RoundAt w w3 w.heap.size w2.heap.size cb B T v c 0 :=
    ⟨by rw [coreJ_zero hn7 hn8 hnl]; exact hcore.but hb3 (fun h => h), hlz.move (fun b _ h2 _ => hb3.block b h2 (fun h => h)) hb3.size, row_block e3 rfl, row_block e3 rfl, by rw [hld]; exact (hb3.cell (p := ⟨w.heap.size, 11, none⟩) (cell_in s11') (fun h => h)).trans s11', (hbW1.trans (below_le hb hszW1)).trans (hb3.below' (by have := hb.size; omega) (fun _ _ h => h)), by omega, by omega, by omega⟩
  have hRH := Lib.hid hR
  clear hR e3 hb3 s11 s11' hb hlz hcore hcw hn7 hn8 hnl hbW1 hmade hlives hlW1 hlW1' hl1 hl0 hszW1 hcb hld
  obtain ⟨n, hn, hnw⟩ : ∃ n : Nat, n ≤ 19 ∧ RowKit.wrap64 (tm.tmod 20) = (n : Int) := ⟨(tm % 20).toNat, by have := htmH.out; omega, by have := htmH.out; rw [IntWalk.wrap64_in _ (by rw [Int.tmod_eq_emod_of_nonneg this.1]; omega), Int.tmod_eq_emod_of_nonneg this.1]; omega⟩
  have hnwH := Lib.hid hnw
  clear hnw
  go_wp2_with fail
  rw [← hw3, hnwH.out]
  clear hw3 hnwH
  go_loopw [7] (fun i wr => ∃ j : Nat, j ≤ n ∧ i = .int .i64 j ∧ RoundAt w wr w.heap.size w2.heap.size cb B T v c j) (fun i _ => n - (intOf i).toNat)
  case atStart => exact ⟨0, Nat.zero_le _, rfl, hRH.out⟩
  case round =>
    obtain ⟨j, hj, rfl, hR⟩ := hrel
    have hRI := Lib.hid hR
    clear hR
    by_cases hlt : j < n
    · go_wp2_with fail
      have hR0 := hRI.out.drew
      have hcall := obj_Load wr.drew hR0.core (by show 0 ≤ (j : Int) ∧ (j : Int) < 1000; omega) (by show 0 ≤ (if c.loads = 0 then (if j = 0 then 0 else 1) else (j : Int)) ∧ (if c.loads = 0 then (if j = 0 then 0 else 1) else (j : Int)) < 1000; split <;> (try split) <;> omega) hR0.able
      rw [coreJ_step, coreJ_ans] at hcall
      have hld := Lib.hid hcall
      clear hcall
      refine wp_region_held_drew (S := fun w' => w'.cell? ⟨w2.heap.size, 0, none⟩ = some (.iface T v) ∧ w'.cell? ⟨w.heap.size, 11, none⟩ = some (.int .i64 c.loads)) (by kernel_rfl) ⟨hR0.x0, hR0.s11⟩ (fun hHeld => ?_)
      refine wpAnyH_take (i := 0) (v := ?vr1) rfl (by kernel_rfl) (by kernel_rfl) (by kernel_rfl) (fun _ _ _ h => h) (.inl ⟨by rfl, ?hyr1⟩) (by assumption) ?restr1
      case hyr1 => (intro w hSw; (try dsimp only at hSw); go_simp; first | done | with_reducible rfl)
      (try simp only [Act.put, List.setIfInBounds_toArray, List.set_cons_zero, List.set_cons_succ, List.getElem_toArray, List.getElem_cons_zero, List.getElem_cons_succ])
      refine wpAnyH_take (i := 1) (v := ?vr2) rfl (by kernel_rfl) (by kernel_rfl) (by kernel_rfl) (fun _ _ _ h => h) (.inl ⟨by rfl, ?hyr2⟩) (by assumption) ?restr2
      case hyr2 => (intro w hSw; (try dsimp only at hSw); go_simp; first | done | with_reducible rfl)
      (try simp only [Act.put, List.setIfInBounds_toArray, List.set_cons_zero, List.set_cons_succ, List.getElem_toArray, List.getElem_cons_zero, List.getElem_cons_succ])
      refine wpAnyH_take (i := 3) (v := ?vr3) rfl (by kernel_rfl) (by kernel_rfl) (by kernel_rfl) (fun _ _ _ h => h) (.inl ⟨by rfl, ?hyr3⟩) (by assumption) ?restr3
      case hyr3 => (intro w hSw; (try dsimp only at hSw); go_simp; first | done | with_reducible rfl)
      (try simp only [Act.put, List.setIfInBounds_toArray, List.set_cons_zero, List.set_cons_succ, List.getElem_toArray, List.getElem_cons_zero, List.getElem_cons_succ])
      refine wpAnyH_take (i := 4) (v := ?vr4) rfl (by kernel_rfl) (by kernel_rfl) (by kernel_rfl) (fun _ _ _ h => h) (.inl ⟨by rfl, ?hyr4⟩) (by assumption) ?restr4
      case hyr4 => (intro w hSw; (try dsimp only at hSw); go_simp; first | done | with_reducible rfl)
      (try simp only [Act.put, List.setIfInBounds_toArray, List.set_cons_zero, List.set_cons_succ, List.getElem_toArray, List.getElem_cons_zero, List.getElem_cons_succ])
      refine wpAnyH_ready (rs := [2]) (by kernel_rfl) (by simp) ?_
      refine AllReadyH.cons rfl (fun K hK => ?_) AllReadyH.nil
      rw [if_pos (by rfl)]
      go_simp
      refine (hld.out).mono ?_
      rintro e w8 ⟨rfl, hc8, hb8⟩
      have hR8 := hR0.step hc8 hb8
      clear hc8 hb8
      refine hK.out _ _ ?_ (fun hHeldN => ?_)
      · exact ⟨hR8.x0, hR8.s11⟩
      clear hK K hHeld
      have hHeld := hHeldN
      clear hHeldN
      (try simp only [Act.put, List.setIfInBounds_toArray, List.set_cons_zero, List.set_cons_succ, List.getElem_toArray, List.getElem_cons_zero, List.getElem_cons_succ])
      refine wpAnyH_take (i := 5) (v := ?vr5) rfl (by kernel_rfl) (by kernel_rfl) (by kernel_rfl) (fun _ _ _ h => h) (.inl ⟨by rfl, ?hyr5⟩) (by assumption) ?restr5
      case hyr5 => (intro w hSw; (try dsimp only at hSw); go_simp; first | done | with_reducible rfl)
      (try simp only [Act.put, List.setIfInBounds_toArray, List.set_cons_zero, List.set_cons_succ, List.getElem_toArray, List.getElem_cons_zero, List.getElem_cons_succ])
      refine wpAnyH_done (by kernel_rfl) ?_ _
      clear hHeld
      have hR8H := Lib.hid hR8
      have hlds : (c.loads == c.loads) = true := by simp
      clear hR8 hR0 hld
      go_wp2_with fail
      go_round
      case rel => exact ⟨j + 1, by omega, by go_num, hR8H.out⟩
      case measure => first | (simp [intOf]; done) | (simp [intOf]; omega)

    · obtain rfl : j = n := by omega
      have hbelH := Lib.hid hRI.out.bel
      have x1 := hRI.out.x1
      have s11 := hRI.out.s11
      have hcore := hRI.out.core
      have k14 := hcore.cell (k := 14) (v := .int .i64 0) rfl
      have k15 := hcore.cell (k := 15) (v := .int .i64 0) rfl
      have k16 := hcore.cell (k := 16) (v := .int .i64 0) rfl
      have k17 := hcore.cell (k := 17) (v := .int .i64 0) rfl
      have k18 := hcore.cell (k := 18) (v := .int .i64 0) rfl
      have k19 := hcore.cell (k := 19) (v := .int .i64 c.n5) rfl
      rw [hn5] at k19
      have k20 := hcore.cell (k := 20) (v := .int .i64 c.n6) rfl
      rw [hn6] at k20
      have k21 := hcore.cell (k := 21) (v := .int .i64 (j : Int)) rfl
      have lx := cell_in x1
      have ls := cell_in s11
      have lc := hcore.lt
      have k22 := hcore.cell (k := 22) (v := .int .i64 (coreJ c j).n8) rfl
      clear hcore hRI
      by_cases h0 : c.loads = 0
      · have hc0 : (c.loads == 0) = true := by simpa using h0
        by_cases h1 : 1 < j
        · have e8 : (coreJ c j).n8 = 1 := by unfold coreJ; simp only [h0, if_true]; rw [if_neg (by omega)]
          have hj1 : (1 : Int) < (j : Int) := by omega
          have hq9 : ∀ W, (Op.equalIn 10000 82 (.agg #[.int .i64 0, .int .i64 0, .int .i64 0, .int .i64 0, .int .i64 0, .int .i64 0, .int .i64 0, .int .i64 (j : Int), .int .i64 1]) (.agg #[.int .i64 0, .int .i64 0, .int .i64 0, .int .i64 0, .int .i64 0, .int .i64 0, .int .i64 0, .int .i64 (j : Int), .int .i64 1])).run Try.prog W = .ok true W := fun W => nine_b j hn W
          rw [e8] at k22
          clear e8 h0 h1
          go_wp2_with fail
          go_quiet (fail)
          go_wp2
          go_ret
          exact ⟨rfl, Below.drewN' (hbelH.out.alloc hbelH.out.size _) _⟩
        · have e8 : (coreJ c j).n8 = (j : Int) := by unfold coreJ; simp only [h0, if_true]; split <;> omega
          have hj1 : ¬ (1 : Int) < (j : Int) := by omega
          have hq9 : ∀ W, (Op.equalIn 10000 82 (.agg #[.int .i64 0, .int .i64 0, .int .i64 0, .int .i64 0, .int .i64 0, .int .i64 0, .int .i64 0, .int .i64 (j : Int), .int .i64 (j : Int)]) (.agg #[.int .i64 0, .int .i64 0, .int .i64 0, .int .i64 0, .int .i64 0, .int .i64 0, .int .i64 0, .int .i64 (j : Int), .int .i64 (j : Int)])).run Try.prog W = .ok true W := fun W => nine_a j hn W
          rw [e8] at k22
          clear e8 h0 h1
          go_wp2_with fail
          go_quiet (fail)
          go_wp2
          go_ret
          exact ⟨rfl, Below.drewN' (hbelH.out.alloc hbelH.out.size _) _⟩
      · have hc0 : (c.loads == 0) = false := by simpa using h0
        have hq9 : ∀ W, (Op.equalIn 10000 82 (.agg #[.int .i64 0, .int .i64 0, .int .i64 0, .int .i64 0, .int .i64 0, .int .i64 0, .int .i64 0, .int .i64 (j : Int), .int .i64 (j : Int)]) (.agg #[.int .i64 0, .int .i64 0, .int .i64 0, .int .i64 0, .int .i64 0, .int .i64 0, .int .i64 0, .int .i64 (j : Int), .int .i64 (j : Int)])).run Try.prog W = .ok true W := fun W => nine_a j hn W
        have e8 : (coreJ c j).n8 = (j : Int) := by unfold coreJ; simp only [h0, if_false]
        rw [e8] at k22
        clear e8 h0
        go_wp2_with fail
        go_quiet (fail)
        go_wp2
        go_ret
        exact ⟨rfl, Below.drewN' (hbelH.out.alloc hbelH.out.size _) _⟩
end
end Go.Proofs.Ytpcbdjfonmohaaa
