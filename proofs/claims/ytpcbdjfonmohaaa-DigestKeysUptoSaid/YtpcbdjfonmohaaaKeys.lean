/- The walk of DigestKeys. -/
import Derived.Test.YtpcbdjfonmohaaaOrder
import Derived.Test.YtpcbdjfonmohaaaEncInj
import Derived.Test.YtpcbdjfonmohaaaBuiltEnd
namespace Go.Proofs.Ytpcbdjfonmohaaa
open Go.RowKit
set_option linter.unusedVariables false
set_option linter.unusedSimpArgs false

/-- What Key and Sum answer. -/
def keyS (v : Val) : ByteArray := bif okB v then ⟨(encV v).toArray⟩ else ⟨#[]⟩
def keyE (v : Val) : Int := bif okB v then 0 else whyF v
def sumS (v : Val) : Nat := bif okB v then fnvB (encV v) else 0
theorem key_any {w : World} {v : Val} {x : Value} {fs : List Nat} (h : VRep w v x fs) (hn : numsV v) : Calls Try.prog 59 #[x] w fun e w' => e = .returned (.tuple #[.string (keyS v), .int .i64 (keyE v)]) ∧ Below w.heap.size w w' := by
  unfold keyS keyE
  cases hok : okB v with
  | true => exact key_ok h hn hok
  | false => exact key_bad h hok
theorem sum_any {w : World} {v : Val} {x : Value} {fs : List Nat} (h : VRep w v x fs) (hn : numsV v) : Calls Try.prog 62 #[x] w fun e w' => e = .returned (.tuple #[.int .u64 (sumS v), .int .i64 (keyE v)]) ∧ Below w.heap.size w w' := by
  unfold sumS keyE
  cases hok : okB v with
  | true => exact sum_ok h hn hok
  | false => exact sum_bad h hok
theorem refSum_any (t : Term) (cs : List Value) (w : World) (h : TRep w t cs) : Calls Try.prog 63 #[.agg cs.toArray] w fun e w' => e = .returned (.tuple #[.int .u64 (sumS (builtV t)), .int .i64 (keyE (builtV t))]) ∧ Below w.heap.size w w' := by
  unfold sumS keyE
  cases hok : okB (builtV t) with
  | true => exact refSum_ok t cs w h hok
  | false => exact refSum_bad t cs w h hok
theorem refEnc_any (t : Term) (cs : List Value) (w : World) (h : TRep w t cs) : Calls Try.prog 61 #[.agg cs.toArray] w fun e w' => ∃ sv, e = .returned (.tuple #[sv, .int .i64 (keyE (builtV t))]) ∧ sv.oneCell' = true ∧ (∀ W, Below w'.heap.size w' W → (convert 28 9 sv).run Try.prog W = .ok (.string (keyS (builtV t))) W) ∧ Below w.heap.size w w' := by
  unfold keyS keyE
  cases hok : okB (builtV t) with
  | true =>
    refine (refEncode_ok t cs w h hok).mono fun e w' ⟨sv, he, hown, hb⟩ => ⟨sv, he, ?_, fun W hW => ?_, hb⟩
    · obtain ⟨_, _, rfl, -⟩ := ownsRow_form hown; rfl
    · exact conv_own (ownsRow_keep hown (fun b hb' => hW.block b (ownsRow_lt hown b hb').2))
  | false =>
    exact (refEncode_bad t cs w h hok).mono fun e w' ⟨he, hb⟩ => ⟨_, he, rfl, fun W _ => conv_own (B := 0) (bs := []) ⟨rfl, .inl ⟨rfl, rfl⟩⟩, hb⟩
theorem key_eq {v u : Val} (hn : numsV v) (hn' : numsV u) (hok : okB v = true) (hok' : okB u = true) : keyS v = keyS u ↔ v = u := by
  unfold keyS
  rw [hok, hok']
  rw [← enc_same hn (okV_check hok) hn' (okV_check hok')]
  constructor
  · intro h
    have h1 := congrArg (fun s : ByteArray => s.data.toList) h
    simpa using h1
  · intro h; rw [h]
section
variable (t u : Term) (cs ds : List Value) (w : World) (h : TRep w t cs) (h' : TRep w u ds)
include h h' in
set_option maxRecDepth 100000 in
set_option maxHeartbeats 3200000 in
theorem keys_apart (hbad : okB (builtV t) = false ∨ okB (builtV u) = false) : Calls Try.prog 12 #[.agg cs.toArray, .agg ds.toArray] w fun e w' => e = .returned (.bool true) ∧ Below w.heap.size w w' := by
  have hkk : (keyE (builtV t) == 0) = false ∨ ((keyE (builtV t) == 0) = true ∧ (keyE (builtV u) == 0) = false) := by
    cases hA : okB (builtV t) with
    | false => left; unfold keyE; rw [hA]; simpa using why_bad hA
    | true =>
      right
      rcases hbad with h1 | h1
      · rw [hA] at h1; cases h1
      · refine ⟨by unfold keyE; rw [hA]; rfl, by unfold keyE; rw [h1]; simpa using why_bad h1⟩
  clear hbad
  have hkn := Lib.hid (fun W => key_ok (w := W) (v := .nil) (x := .nilIface) (fs := []) ⟨rfl, rfl⟩ trivial (by decide))
  have hbel : ∀ c1 c2 : Array Value, Below w.heap.size w ((w.alloc (.cells c1 34)).alloc (.cells c2 34)) := fun c1 c2 => ((Below.refl _ _).alloc (Nat.le_refl _) _).alloc (by simp) _
  have kA := fun {W : World} (hb : Below w.heap.size w W) => TRep.keep (keeps_of_below hb) t cs h
  have kB := fun {W : World} (hb : Below w.heap.size w W) => TRep.keep (keeps_of_below hb) u ds h'
  have nA := nums_built t cs h
  have nB := nums_built u ds h'
  have bA := Lib.hid (fun W (hb : Below w.heap.size w W) => built_any t cs W (kA hb))
  have bB := Lib.hid (fun W (hb : Below w.heap.size w W) => built_any u ds W (kB hb))
  have eA := Lib.hid (fun W (hb : Below w.heap.size w W) => refEnc_any t cs W (kA hb))
  have sA := Lib.hid (fun W (hb : Below w.heap.size w W) => refSum_any t cs W (kA hb))
  have sm := Lib.hid (fun W (hb : Below w.heap.size w W) => sameV_said t u cs ds W (kA hb) (kB hb))
  have nAH := Lib.hid nA
  have nBH := Lib.hid nB
  have hone := TRep.ones h
  have hone' := TRep.ones h'
  obtain ⟨c0, c1, c2, c3, c4, c5, c6, c7, c8, c9, c10, rfl⟩ := eleven (TRep.len h)
  obtain ⟨d0, d1, d2, d3, d4, d5, d6, d7, d8, d9, d10, rfl⟩ := eleven (TRep.len h')
  have hA0 : ((w.alloc (.cells #[c0, c1, c2, c3, c4, c5, c6, c7, c8, c9, c10] 34)).alloc (.cells #[d0, d1, d2, d3, d4, d5, d6, d7, d8, d9, d10] 34)).heap[w.heap.size]? = some (.cells #[c0, c1, c2, c3, c4, c5, c6, c7, c8, c9, c10] 34 (0, 0)) := (Below.heap_alloc _ _ _ (by simp)).trans (heap_alloc_new w _)
  have hB0 : ((w.alloc (.cells #[c0, c1, c2, c3, c4, c5, c6, c7, c8, c9, c10] 34)).alloc (.cells #[d0, d1, d2, d3, d4, d5, d6, d7, d8, d9, d10] 34)).heap[w.heap.size + 1]? = some (.cells #[d0, d1, d2, d3, d4, d5, d6, d7, d8, d9, d10] 34 (0, 0)) := heap_alloc_at _ (by simp)
  have gA0 := Lib.hid hA0
  have gB0 := Lib.hid hB0
  clear h h' hA0 hB0 kA kB nA nB
  generalize builtV t = v at *
  generalize builtV u = v' at *
  rcases hkk with hk0 | ⟨hk0, hk1'⟩
  all_goals
    go_enter Try.func12, Try.ntmps12
    go_wp2_with fail
    refine (bA.out _ (hbel _ _)).mono ?_
    rintro e w1 ⟨y1, fs1, rfl, hv1, -, -, hq1⟩
    have hbw1 : Below w.heap.size w w1 := (hbel _ _).trans (below_le hq1 (by simp; omega))
    have hAw1 := (hq1.block w.heap.size (by simp; omega)).trans gA0.out
    have hBw1 := (hq1.block (w.heap.size + 1) (by simp)).trans gB0.out
    have hlAw1 := (Array.getElem?_eq_some_iff.1 hAw1).1
    have hlBw1 := (Array.getElem?_eq_some_iff.1 hBw1).1
    have gAw1 := Lib.hid hAw1
    have gBw1 := Lib.hid hBw1
    clear hAw1 hBw1
    have hy1 := hv1.one
    have hk1 := Lib.hid (key_any hv1 nAH.out)
    clear hv1
    go_wp2_with fail
    refine hk1.out.mono ?_
    rintro e w2 ⟨rfl, hq2⟩
    have hAw1 := gAw1.out
    have hBw1 := gBw1.out
    have hbw2 : Below w.heap.size w w2 := hbw1.trans (below_le hq2 hbw1.size)
    have hAw2 := (hq2.block w.heap.size hlAw1).trans hAw1
    have hBw2 := (hq2.block (w.heap.size + 1) hlBw1).trans hBw1
    have hlAw2 := (Array.getElem?_eq_some_iff.1 hAw2).1
    have hlBw2 := (Array.getElem?_eq_some_iff.1 hBw2).1
    have d0_w2 : w2.cell? ⟨w.heap.size + 1, 0, none⟩ = some d0 := block_cells hBw2 0
    have d1_w2 : w2.cell? ⟨w.heap.size + 1, 1, none⟩ = some d1 := block_cells hBw2 1
    have d2_w2 : w2.cell? ⟨w.heap.size + 1, 2, none⟩ = some d2 := block_cells hBw2 2
    have d3_w2 : w2.cell? ⟨w.heap.size + 1, 3, none⟩ = some d3 := block_cells hBw2 3
    have d4_w2 : w2.cell? ⟨w.heap.size + 1, 4, none⟩ = some d4 := block_cells hBw2 4
    have d5_w2 : w2.cell? ⟨w.heap.size + 1, 5, none⟩ = some d5 := block_cells hBw2 5
    have d6_w2 : w2.cell? ⟨w.heap.size + 1, 6, none⟩ = some d6 := block_cells hBw2 6
    have d7_w2 : w2.cell? ⟨w.heap.size + 1, 7, none⟩ = some d7 := block_cells hBw2 7
    have d8_w2 : w2.cell? ⟨w.heap.size + 1, 8, none⟩ = some d8 := block_cells hBw2 8
    have d9_w2 : w2.cell? ⟨w.heap.size + 1, 9, none⟩ = some d9 := block_cells hBw2 9
    have d10_w2 : w2.cell? ⟨w.heap.size + 1, 10, none⟩ = some d10 := block_cells hBw2 10
    have gAw2 := Lib.hid hAw2
    have gBw2 := Lib.hid hBw2
    clear hAw2 hBw2 hAw1 hBw1
    go_wp2_with fail
    refine (bB.out _ hbw2).mono ?_
    rintro e w3 ⟨y3, fs3, rfl, hv3, -, -, hq3⟩
    have hAw2 := gAw2.out
    have hBw2 := gBw2.out
    have hbw3 : Below w.heap.size w w3 := hbw2.trans (below_le hq3 hbw2.size)
    have hAw3 := (hq3.block w.heap.size hlAw2).trans hAw2
    have hBw3 := (hq3.block (w.heap.size + 1) hlBw2).trans hBw2
    have hlAw3 := (Array.getElem?_eq_some_iff.1 hAw3).1
    have hlBw3 := (Array.getElem?_eq_some_iff.1 hBw3).1
    have gAw3 := Lib.hid hAw3
    have gBw3 := Lib.hid hBw3
    clear hAw3 hBw3 hAw2 hBw2
    clear d0_w2 d1_w2 d2_w2 d3_w2 d4_w2 d5_w2 d6_w2 d7_w2 d8_w2 d9_w2 d10_w2
    have hy3 := hv3.one
    have hk3 := Lib.hid (key_any hv3 nBH.out)
    clear hv3
    go_wp2_with fail
    refine hk3.out.mono ?_
    rintro e w4 ⟨rfl, hq4⟩
    have hAw3 := gAw3.out
    have hBw3 := gBw3.out
    have hbw4 : Below w.heap.size w w4 := hbw3.trans (below_le hq4 hbw3.size)
    have hAw4 := (hq4.block w.heap.size hlAw3).trans hAw3
    have hBw4 := (hq4.block (w.heap.size + 1) hlBw3).trans hBw3
    have hlAw4 := (Array.getElem?_eq_some_iff.1 hAw4).1
    have hlBw4 := (Array.getElem?_eq_some_iff.1 hBw4).1
    have c0_w4 : w4.cell? ⟨w.heap.size, 0, none⟩ = some c0 := block_cells hAw4 0
    have c1_w4 : w4.cell? ⟨w.heap.size, 1, none⟩ = some c1 := block_cells hAw4 1
    have c2_w4 : w4.cell? ⟨w.heap.size, 2, none⟩ = some c2 := block_cells hAw4 2
    have c3_w4 : w4.cell? ⟨w.heap.size, 3, none⟩ = some c3 := block_cells hAw4 3
    have c4_w4 : w4.cell? ⟨w.heap.size, 4, none⟩ = some c4 := block_cells hAw4 4
    have c5_w4 : w4.cell? ⟨w.heap.size, 5, none⟩ = some c5 := block_cells hAw4 5
    have c6_w4 : w4.cell? ⟨w.heap.size, 6, none⟩ = some c6 := block_cells hAw4 6
    have c7_w4 : w4.cell? ⟨w.heap.size, 7, none⟩ = some c7 := block_cells hAw4 7
    have c8_w4 : w4.cell? ⟨w.heap.size, 8, none⟩ = some c8 := block_cells hAw4 8
    have c9_w4 : w4.cell? ⟨w.heap.size, 9, none⟩ = some c9 := block_cells hAw4 9
    have c10_w4 : w4.cell? ⟨w.heap.size, 10, none⟩ = some c10 := block_cells hAw4 10
    have gAw4 := Lib.hid hAw4
    have gBw4 := Lib.hid hBw4
    clear hAw4 hBw4 hAw3 hBw3
    go_wp2_with fail
    refine (eA.out _ hbw4).mono ?_
    rintro e w5 ⟨sv5, rfl, hs5, hcv5, hq5⟩
    have hAw4 := gAw4.out
    have hBw4 := gBw4.out
    have hbw5 : Below w.heap.size w w5 := hbw4.trans (below_le hq5 hbw4.size)
    have hAw5 := (hq5.block w.heap.size hlAw4).trans hAw4
    have hBw5 := (hq5.block (w.heap.size + 1) hlBw4).trans hBw4
    have hlAw5 := (Array.getElem?_eq_some_iff.1 hAw5).1
    have hlBw5 := (Array.getElem?_eq_some_iff.1 hBw5).1
    clear c0_w4 c1_w4 c2_w4 c3_w4 c4_w4 c5_w4 c6_w4 c7_w4 c8_w4 c9_w4 c10_w4
    have c0_w5 : w5.cell? ⟨w.heap.size, 0, none⟩ = some c0 := block_cells hAw5 0
    have c1_w5 : w5.cell? ⟨w.heap.size, 1, none⟩ = some c1 := block_cells hAw5 1
    have c2_w5 : w5.cell? ⟨w.heap.size, 2, none⟩ = some c2 := block_cells hAw5 2
    have c3_w5 : w5.cell? ⟨w.heap.size, 3, none⟩ = some c3 := block_cells hAw5 3
    have c4_w5 : w5.cell? ⟨w.heap.size, 4, none⟩ = some c4 := block_cells hAw5 4
    have c5_w5 : w5.cell? ⟨w.heap.size, 5, none⟩ = some c5 := block_cells hAw5 5
    have c6_w5 : w5.cell? ⟨w.heap.size, 6, none⟩ = some c6 := block_cells hAw5 6
    have c7_w5 : w5.cell? ⟨w.heap.size, 7, none⟩ = some c7 := block_cells hAw5 7
    have c8_w5 : w5.cell? ⟨w.heap.size, 8, none⟩ = some c8 := block_cells hAw5 8
    have c9_w5 : w5.cell? ⟨w.heap.size, 9, none⟩ = some c9 := block_cells hAw5 9
    have c10_w5 : w5.cell? ⟨w.heap.size, 10, none⟩ = some c10 := block_cells hAw5 10
    have gAw5 := Lib.hid hAw5
    have gBw5 := Lib.hid hBw5
    clear hAw5 hBw5 hAw4 hBw4
    have hcvH := Lib.hid hcv5
    clear hcv5
    go_wp2_with fail
    refine (bA.out _ hbw5).mono ?_
    rintro e w6 ⟨y6, fs6, rfl, hv6, -, -, hq6⟩
    have hAw5 := gAw5.out
    have hBw5 := gBw5.out
    have hbw6 : Below w.heap.size w w6 := hbw5.trans (below_le hq6 hbw5.size)
    have hAw6 := (hq6.block w.heap.size hlAw5).trans hAw5
    have hBw6 := (hq6.block (w.heap.size + 1) hlBw5).trans hBw5
    have hlAw6 := (Array.getElem?_eq_some_iff.1 hAw6).1
    have hlBw6 := (Array.getElem?_eq_some_iff.1 hBw6).1
    have gAw6 := Lib.hid hAw6
    have gBw6 := Lib.hid hBw6
    clear hAw6 hBw6 hAw5 hBw5
    clear c0_w5 c1_w5 c2_w5 c3_w5 c4_w5 c5_w5 c6_w5 c7_w5 c8_w5 c9_w5 c10_w5
    have hy6 := hv6.one
    have hk6 := Lib.hid (sum_any hv6 nAH.out)
    clear hv6
    go_wp2_with fail
    refine hk6.out.mono ?_
    rintro e w7 ⟨rfl, hq7⟩
    have hAw6 := gAw6.out
    have hBw6 := gBw6.out
    have hbw7 : Below w.heap.size w w7 := hbw6.trans (below_le hq7 hbw6.size)
    have hAw7 := (hq7.block w.heap.size hlAw6).trans hAw6
    have hBw7 := (hq7.block (w.heap.size + 1) hlBw6).trans hBw6
    have hlAw7 := (Array.getElem?_eq_some_iff.1 hAw7).1
    have hlBw7 := (Array.getElem?_eq_some_iff.1 hBw7).1
    have c0_w7 : w7.cell? ⟨w.heap.size, 0, none⟩ = some c0 := block_cells hAw7 0
    have c1_w7 : w7.cell? ⟨w.heap.size, 1, none⟩ = some c1 := block_cells hAw7 1
    have c2_w7 : w7.cell? ⟨w.heap.size, 2, none⟩ = some c2 := block_cells hAw7 2
    have c3_w7 : w7.cell? ⟨w.heap.size, 3, none⟩ = some c3 := block_cells hAw7 3
    have c4_w7 : w7.cell? ⟨w.heap.size, 4, none⟩ = some c4 := block_cells hAw7 4
    have c5_w7 : w7.cell? ⟨w.heap.size, 5, none⟩ = some c5 := block_cells hAw7 5
    have c6_w7 : w7.cell? ⟨w.heap.size, 6, none⟩ = some c6 := block_cells hAw7 6
    have c7_w7 : w7.cell? ⟨w.heap.size, 7, none⟩ = some c7 := block_cells hAw7 7
    have c8_w7 : w7.cell? ⟨w.heap.size, 8, none⟩ = some c8 := block_cells hAw7 8
    have c9_w7 : w7.cell? ⟨w.heap.size, 9, none⟩ = some c9 := block_cells hAw7 9
    have c10_w7 : w7.cell? ⟨w.heap.size, 10, none⟩ = some c10 := block_cells hAw7 10
    have gAw7 := Lib.hid hAw7
    have gBw7 := Lib.hid hBw7
    clear hAw7 hBw7 hAw6 hBw6
    go_wp2_with fail
    refine (sA.out _ hbw7).mono ?_
    rintro e w8 ⟨rfl, hq8⟩
    have hAw7 := gAw7.out
    have hBw7 := gBw7.out
    have hbw8 : Below w.heap.size w w8 := hbw7.trans (below_le hq8 hbw7.size)
    have hAw8 := (hq8.block w.heap.size hlAw7).trans hAw7
    have hBw8 := (hq8.block (w.heap.size + 1) hlBw7).trans hBw7
    have hlAw8 := (Array.getElem?_eq_some_iff.1 hAw8).1
    have hlBw8 := (Array.getElem?_eq_some_iff.1 hBw8).1
    clear c0_w7 c1_w7 c2_w7 c3_w7 c4_w7 c5_w7 c6_w7 c7_w7 c8_w7 c9_w7 c10_w7
    have c0_w8 : w8.cell? ⟨w.heap.size, 0, none⟩ = some c0 := block_cells hAw8 0
    have c1_w8 : w8.cell? ⟨w.heap.size, 1, none⟩ = some c1 := block_cells hAw8 1
    have c2_w8 : w8.cell? ⟨w.heap.size, 2, none⟩ = some c2 := block_cells hAw8 2
    have c3_w8 : w8.cell? ⟨w.heap.size, 3, none⟩ = some c3 := block_cells hAw8 3
    have c4_w8 : w8.cell? ⟨w.heap.size, 4, none⟩ = some c4 := block_cells hAw8 4
    have c5_w8 : w8.cell? ⟨w.heap.size, 5, none⟩ = some c5 := block_cells hAw8 5
    have c6_w8 : w8.cell? ⟨w.heap.size, 6, none⟩ = some c6 := block_cells hAw8 6
    have c7_w8 : w8.cell? ⟨w.heap.size, 7, none⟩ = some c7 := block_cells hAw8 7
    have c8_w8 : w8.cell? ⟨w.heap.size, 8, none⟩ = some c8 := block_cells hAw8 8
    have c9_w8 : w8.cell? ⟨w.heap.size, 9, none⟩ = some c9 := block_cells hAw8 9
    have c10_w8 : w8.cell? ⟨w.heap.size, 10, none⟩ = some c10 := block_cells hAw8 10
    have d0_w8 : w8.cell? ⟨w.heap.size + 1, 0, none⟩ = some d0 := block_cells hBw8 0
    have d1_w8 : w8.cell? ⟨w.heap.size + 1, 1, none⟩ = some d1 := block_cells hBw8 1
    have d2_w8 : w8.cell? ⟨w.heap.size + 1, 2, none⟩ = some d2 := block_cells hBw8 2
    have d3_w8 : w8.cell? ⟨w.heap.size + 1, 3, none⟩ = some d3 := block_cells hBw8 3
    have d4_w8 : w8.cell? ⟨w.heap.size + 1, 4, none⟩ = some d4 := block_cells hBw8 4
    have d5_w8 : w8.cell? ⟨w.heap.size + 1, 5, none⟩ = some d5 := block_cells hBw8 5
    have d6_w8 : w8.cell? ⟨w.heap.size + 1, 6, none⟩ = some d6 := block_cells hBw8 6
    have d7_w8 : w8.cell? ⟨w.heap.size + 1, 7, none⟩ = some d7 := block_cells hBw8 7
    have d8_w8 : w8.cell? ⟨w.heap.size + 1, 8, none⟩ = some d8 := block_cells hBw8 8
    have d9_w8 : w8.cell? ⟨w.heap.size + 1, 9, none⟩ = some d9 := block_cells hBw8 9
    have d10_w8 : w8.cell? ⟨w.heap.size + 1, 10, none⟩ = some d10 := block_cells hBw8 10
    have hcv := hcvH.out w8 (hq6.trans (below_le (hq7.trans (below_le hq8 hq7.size)) hq6.size))
    clear hAw8 hBw8 hAw7 hBw7
    go_wp2_with fail
    refine (hkn.out _).mono ?_
    rintro e w10 ⟨rfl, hq10⟩
    go_wp2
    go_ret
    exact ⟨rfl, hbw8.trans (below_le hq10 hbw8.size)⟩

include h h' in
set_option maxRecDepth 100000 in
set_option maxHeartbeats 3200000 in
theorem keys_both (hokA : okB (builtV t) = true) (hokB : okB (builtV u) = true) : Calls Try.prog 12 #[.agg cs.toArray, .agg ds.toArray] w fun e w' => e = .returned (.bool true) ∧ Below w.heap.size w w' := by
  have hk0 : (keyE (builtV t) == 0) = true := by unfold keyE; rw [hokA]; rfl
  have hk1' : (keyE (builtV u) == 0) = true := by unfold keyE; rw [hokB]; rfl
  have hke := Lib.hid (key_eq (nums_built t cs h) (nums_built u ds h') hokA hokB)
  have hAo := Lib.hid hokA
  have hBo := Lib.hid hokB
  clear hokA hokB
  have hkn := Lib.hid (fun W => key_ok (w := W) (v := .nil) (x := .nilIface) (fs := []) ⟨rfl, rfl⟩ trivial (by decide))
  have hbel : ∀ c1 c2 : Array Value, Below w.heap.size w ((w.alloc (.cells c1 34)).alloc (.cells c2 34)) := fun c1 c2 => ((Below.refl _ _).alloc (Nat.le_refl _) _).alloc (by simp) _
  have kA := fun {W : World} (hb : Below w.heap.size w W) => TRep.keep (keeps_of_below hb) t cs h
  have kB := fun {W : World} (hb : Below w.heap.size w W) => TRep.keep (keeps_of_below hb) u ds h'
  have nA := nums_built t cs h
  have nB := nums_built u ds h'
  have bA := Lib.hid (fun W (hb : Below w.heap.size w W) => built_any t cs W (kA hb))
  have bB := Lib.hid (fun W (hb : Below w.heap.size w W) => built_any u ds W (kB hb))
  have eA := Lib.hid (fun W (hb : Below w.heap.size w W) => refEnc_any t cs W (kA hb))
  have sA := Lib.hid (fun W (hb : Below w.heap.size w W) => refSum_any t cs W (kA hb))
  have sm := Lib.hid (fun W (hb : Below w.heap.size w W) => sameV_said t u cs ds W (kA hb) (kB hb))
  have nAH := Lib.hid nA
  have nBH := Lib.hid nB
  have hone := TRep.ones h
  have hone' := TRep.ones h'
  obtain ⟨c0, c1, c2, c3, c4, c5, c6, c7, c8, c9, c10, rfl⟩ := eleven (TRep.len h)
  obtain ⟨d0, d1, d2, d3, d4, d5, d6, d7, d8, d9, d10, rfl⟩ := eleven (TRep.len h')
  have hA0 : ((w.alloc (.cells #[c0, c1, c2, c3, c4, c5, c6, c7, c8, c9, c10] 34)).alloc (.cells #[d0, d1, d2, d3, d4, d5, d6, d7, d8, d9, d10] 34)).heap[w.heap.size]? = some (.cells #[c0, c1, c2, c3, c4, c5, c6, c7, c8, c9, c10] 34 (0, 0)) := (Below.heap_alloc _ _ _ (by simp)).trans (heap_alloc_new w _)
  have hB0 : ((w.alloc (.cells #[c0, c1, c2, c3, c4, c5, c6, c7, c8, c9, c10] 34)).alloc (.cells #[d0, d1, d2, d3, d4, d5, d6, d7, d8, d9, d10] 34)).heap[w.heap.size + 1]? = some (.cells #[d0, d1, d2, d3, d4, d5, d6, d7, d8, d9, d10] 34 (0, 0)) := heap_alloc_at _ (by simp)
  have gA0 := Lib.hid hA0
  have gB0 := Lib.hid hB0
  clear h h' hA0 hB0 kA kB nA nB
  generalize builtV t = v at *
  generalize builtV u = v' at *
  go_enter Try.func12, Try.ntmps12
  go_wp2_with fail
  refine (bA.out _ (hbel _ _)).mono ?_
  rintro e w1 ⟨y1, fs1, rfl, hv1, -, -, hq1⟩
  have hbw1 : Below w.heap.size w w1 := (hbel _ _).trans (below_le hq1 (by simp; omega))
  have hAw1 := (hq1.block w.heap.size (by simp; omega)).trans gA0.out
  have hBw1 := (hq1.block (w.heap.size + 1) (by simp)).trans gB0.out
  have hlAw1 := (Array.getElem?_eq_some_iff.1 hAw1).1
  have hlBw1 := (Array.getElem?_eq_some_iff.1 hBw1).1
  have gAw1 := Lib.hid hAw1
  have gBw1 := Lib.hid hBw1
  clear hAw1 hBw1
  have hy1 := hv1.one
  have hk1 := Lib.hid (key_any hv1 nAH.out)
  clear hv1
  go_wp2_with fail
  refine hk1.out.mono ?_
  rintro e w2 ⟨rfl, hq2⟩
  have hAw1 := gAw1.out
  have hBw1 := gBw1.out
  have hbw2 : Below w.heap.size w w2 := hbw1.trans (below_le hq2 hbw1.size)
  have hAw2 := (hq2.block w.heap.size hlAw1).trans hAw1
  have hBw2 := (hq2.block (w.heap.size + 1) hlBw1).trans hBw1
  have hlAw2 := (Array.getElem?_eq_some_iff.1 hAw2).1
  have hlBw2 := (Array.getElem?_eq_some_iff.1 hBw2).1
  have d0_w2 : w2.cell? ⟨w.heap.size + 1, 0, none⟩ = some d0 := block_cells hBw2 0
  have d1_w2 : w2.cell? ⟨w.heap.size + 1, 1, none⟩ = some d1 := block_cells hBw2 1
  have d2_w2 : w2.cell? ⟨w.heap.size + 1, 2, none⟩ = some d2 := block_cells hBw2 2
  have d3_w2 : w2.cell? ⟨w.heap.size + 1, 3, none⟩ = some d3 := block_cells hBw2 3
  have d4_w2 : w2.cell? ⟨w.heap.size + 1, 4, none⟩ = some d4 := block_cells hBw2 4
  have d5_w2 : w2.cell? ⟨w.heap.size + 1, 5, none⟩ = some d5 := block_cells hBw2 5
  have d6_w2 : w2.cell? ⟨w.heap.size + 1, 6, none⟩ = some d6 := block_cells hBw2 6
  have d7_w2 : w2.cell? ⟨w.heap.size + 1, 7, none⟩ = some d7 := block_cells hBw2 7
  have d8_w2 : w2.cell? ⟨w.heap.size + 1, 8, none⟩ = some d8 := block_cells hBw2 8
  have d9_w2 : w2.cell? ⟨w.heap.size + 1, 9, none⟩ = some d9 := block_cells hBw2 9
  have d10_w2 : w2.cell? ⟨w.heap.size + 1, 10, none⟩ = some d10 := block_cells hBw2 10
  have gAw2 := Lib.hid hAw2
  have gBw2 := Lib.hid hBw2
  clear hAw2 hBw2 hAw1 hBw1
  go_wp2_with fail
  refine (bB.out _ hbw2).mono ?_
  rintro e w3 ⟨y3, fs3, rfl, hv3, -, -, hq3⟩
  have hAw2 := gAw2.out
  have hBw2 := gBw2.out
  have hbw3 : Below w.heap.size w w3 := hbw2.trans (below_le hq3 hbw2.size)
  have hAw3 := (hq3.block w.heap.size hlAw2).trans hAw2
  have hBw3 := (hq3.block (w.heap.size + 1) hlBw2).trans hBw2
  have hlAw3 := (Array.getElem?_eq_some_iff.1 hAw3).1
  have hlBw3 := (Array.getElem?_eq_some_iff.1 hBw3).1
  have gAw3 := Lib.hid hAw3
  have gBw3 := Lib.hid hBw3
  clear hAw3 hBw3 hAw2 hBw2
  clear d0_w2 d1_w2 d2_w2 d3_w2 d4_w2 d5_w2 d6_w2 d7_w2 d8_w2 d9_w2 d10_w2
  have hy3 := hv3.one
  have hk3 := Lib.hid (key_any hv3 nBH.out)
  clear hv3
  go_wp2_with fail
  refine hk3.out.mono ?_
  rintro e w4 ⟨rfl, hq4⟩
  have hAw3 := gAw3.out
  have hBw3 := gBw3.out
  have hbw4 : Below w.heap.size w w4 := hbw3.trans (below_le hq4 hbw3.size)
  have hAw4 := (hq4.block w.heap.size hlAw3).trans hAw3
  have hBw4 := (hq4.block (w.heap.size + 1) hlBw3).trans hBw3
  have hlAw4 := (Array.getElem?_eq_some_iff.1 hAw4).1
  have hlBw4 := (Array.getElem?_eq_some_iff.1 hBw4).1
  have c0_w4 : w4.cell? ⟨w.heap.size, 0, none⟩ = some c0 := block_cells hAw4 0
  have c1_w4 : w4.cell? ⟨w.heap.size, 1, none⟩ = some c1 := block_cells hAw4 1
  have c2_w4 : w4.cell? ⟨w.heap.size, 2, none⟩ = some c2 := block_cells hAw4 2
  have c3_w4 : w4.cell? ⟨w.heap.size, 3, none⟩ = some c3 := block_cells hAw4 3
  have c4_w4 : w4.cell? ⟨w.heap.size, 4, none⟩ = some c4 := block_cells hAw4 4
  have c5_w4 : w4.cell? ⟨w.heap.size, 5, none⟩ = some c5 := block_cells hAw4 5
  have c6_w4 : w4.cell? ⟨w.heap.size, 6, none⟩ = some c6 := block_cells hAw4 6
  have c7_w4 : w4.cell? ⟨w.heap.size, 7, none⟩ = some c7 := block_cells hAw4 7
  have c8_w4 : w4.cell? ⟨w.heap.size, 8, none⟩ = some c8 := block_cells hAw4 8
  have c9_w4 : w4.cell? ⟨w.heap.size, 9, none⟩ = some c9 := block_cells hAw4 9
  have c10_w4 : w4.cell? ⟨w.heap.size, 10, none⟩ = some c10 := block_cells hAw4 10
  have gAw4 := Lib.hid hAw4
  have gBw4 := Lib.hid hBw4
  clear hAw4 hBw4 hAw3 hBw3
  go_wp2_with fail
  refine (eA.out _ hbw4).mono ?_
  rintro e w5 ⟨sv5, rfl, hs5, hcv5, hq5⟩
  have hAw4 := gAw4.out
  have hBw4 := gBw4.out
  have hbw5 : Below w.heap.size w w5 := hbw4.trans (below_le hq5 hbw4.size)
  have hAw5 := (hq5.block w.heap.size hlAw4).trans hAw4
  have hBw5 := (hq5.block (w.heap.size + 1) hlBw4).trans hBw4
  have hlAw5 := (Array.getElem?_eq_some_iff.1 hAw5).1
  have hlBw5 := (Array.getElem?_eq_some_iff.1 hBw5).1
  clear c0_w4 c1_w4 c2_w4 c3_w4 c4_w4 c5_w4 c6_w4 c7_w4 c8_w4 c9_w4 c10_w4
  have c0_w5 : w5.cell? ⟨w.heap.size, 0, none⟩ = some c0 := block_cells hAw5 0
  have c1_w5 : w5.cell? ⟨w.heap.size, 1, none⟩ = some c1 := block_cells hAw5 1
  have c2_w5 : w5.cell? ⟨w.heap.size, 2, none⟩ = some c2 := block_cells hAw5 2
  have c3_w5 : w5.cell? ⟨w.heap.size, 3, none⟩ = some c3 := block_cells hAw5 3
  have c4_w5 : w5.cell? ⟨w.heap.size, 4, none⟩ = some c4 := block_cells hAw5 4
  have c5_w5 : w5.cell? ⟨w.heap.size, 5, none⟩ = some c5 := block_cells hAw5 5
  have c6_w5 : w5.cell? ⟨w.heap.size, 6, none⟩ = some c6 := block_cells hAw5 6
  have c7_w5 : w5.cell? ⟨w.heap.size, 7, none⟩ = some c7 := block_cells hAw5 7
  have c8_w5 : w5.cell? ⟨w.heap.size, 8, none⟩ = some c8 := block_cells hAw5 8
  have c9_w5 : w5.cell? ⟨w.heap.size, 9, none⟩ = some c9 := block_cells hAw5 9
  have c10_w5 : w5.cell? ⟨w.heap.size, 10, none⟩ = some c10 := block_cells hAw5 10
  have gAw5 := Lib.hid hAw5
  have gBw5 := Lib.hid hBw5
  clear hAw5 hBw5 hAw4 hBw4
  have hcvH := Lib.hid hcv5
  clear hcv5
  go_wp2_with fail
  refine (bA.out _ hbw5).mono ?_
  rintro e w6 ⟨y6, fs6, rfl, hv6, -, -, hq6⟩
  have hAw5 := gAw5.out
  have hBw5 := gBw5.out
  have hbw6 : Below w.heap.size w w6 := hbw5.trans (below_le hq6 hbw5.size)
  have hAw6 := (hq6.block w.heap.size hlAw5).trans hAw5
  have hBw6 := (hq6.block (w.heap.size + 1) hlBw5).trans hBw5
  have hlAw6 := (Array.getElem?_eq_some_iff.1 hAw6).1
  have hlBw6 := (Array.getElem?_eq_some_iff.1 hBw6).1
  have gAw6 := Lib.hid hAw6
  have gBw6 := Lib.hid hBw6
  clear hAw6 hBw6 hAw5 hBw5
  clear c0_w5 c1_w5 c2_w5 c3_w5 c4_w5 c5_w5 c6_w5 c7_w5 c8_w5 c9_w5 c10_w5
  have hy6 := hv6.one
  have hk6 := Lib.hid (sum_any hv6 nAH.out)
  clear hv6
  go_wp2_with fail
  refine hk6.out.mono ?_
  rintro e w7 ⟨rfl, hq7⟩
  have hAw6 := gAw6.out
  have hBw6 := gBw6.out
  have hbw7 : Below w.heap.size w w7 := hbw6.trans (below_le hq7 hbw6.size)
  have hAw7 := (hq7.block w.heap.size hlAw6).trans hAw6
  have hBw7 := (hq7.block (w.heap.size + 1) hlBw6).trans hBw6
  have hlAw7 := (Array.getElem?_eq_some_iff.1 hAw7).1
  have hlBw7 := (Array.getElem?_eq_some_iff.1 hBw7).1
  have c0_w7 : w7.cell? ⟨w.heap.size, 0, none⟩ = some c0 := block_cells hAw7 0
  have c1_w7 : w7.cell? ⟨w.heap.size, 1, none⟩ = some c1 := block_cells hAw7 1
  have c2_w7 : w7.cell? ⟨w.heap.size, 2, none⟩ = some c2 := block_cells hAw7 2
  have c3_w7 : w7.cell? ⟨w.heap.size, 3, none⟩ = some c3 := block_cells hAw7 3
  have c4_w7 : w7.cell? ⟨w.heap.size, 4, none⟩ = some c4 := block_cells hAw7 4
  have c5_w7 : w7.cell? ⟨w.heap.size, 5, none⟩ = some c5 := block_cells hAw7 5
  have c6_w7 : w7.cell? ⟨w.heap.size, 6, none⟩ = some c6 := block_cells hAw7 6
  have c7_w7 : w7.cell? ⟨w.heap.size, 7, none⟩ = some c7 := block_cells hAw7 7
  have c8_w7 : w7.cell? ⟨w.heap.size, 8, none⟩ = some c8 := block_cells hAw7 8
  have c9_w7 : w7.cell? ⟨w.heap.size, 9, none⟩ = some c9 := block_cells hAw7 9
  have c10_w7 : w7.cell? ⟨w.heap.size, 10, none⟩ = some c10 := block_cells hAw7 10
  have gAw7 := Lib.hid hAw7
  have gBw7 := Lib.hid hBw7
  clear hAw7 hBw7 hAw6 hBw6
  go_wp2_with fail
  refine (sA.out _ hbw7).mono ?_
  rintro e w8 ⟨rfl, hq8⟩
  have hAw7 := gAw7.out
  have hBw7 := gBw7.out
  have hbw8 : Below w.heap.size w w8 := hbw7.trans (below_le hq8 hbw7.size)
  have hAw8 := (hq8.block w.heap.size hlAw7).trans hAw7
  have hBw8 := (hq8.block (w.heap.size + 1) hlBw7).trans hBw7
  have hlAw8 := (Array.getElem?_eq_some_iff.1 hAw8).1
  have hlBw8 := (Array.getElem?_eq_some_iff.1 hBw8).1
  clear c0_w7 c1_w7 c2_w7 c3_w7 c4_w7 c5_w7 c6_w7 c7_w7 c8_w7 c9_w7 c10_w7
  have c0_w8 : w8.cell? ⟨w.heap.size, 0, none⟩ = some c0 := block_cells hAw8 0
  have c1_w8 : w8.cell? ⟨w.heap.size, 1, none⟩ = some c1 := block_cells hAw8 1
  have c2_w8 : w8.cell? ⟨w.heap.size, 2, none⟩ = some c2 := block_cells hAw8 2
  have c3_w8 : w8.cell? ⟨w.heap.size, 3, none⟩ = some c3 := block_cells hAw8 3
  have c4_w8 : w8.cell? ⟨w.heap.size, 4, none⟩ = some c4 := block_cells hAw8 4
  have c5_w8 : w8.cell? ⟨w.heap.size, 5, none⟩ = some c5 := block_cells hAw8 5
  have c6_w8 : w8.cell? ⟨w.heap.size, 6, none⟩ = some c6 := block_cells hAw8 6
  have c7_w8 : w8.cell? ⟨w.heap.size, 7, none⟩ = some c7 := block_cells hAw8 7
  have c8_w8 : w8.cell? ⟨w.heap.size, 8, none⟩ = some c8 := block_cells hAw8 8
  have c9_w8 : w8.cell? ⟨w.heap.size, 9, none⟩ = some c9 := block_cells hAw8 9
  have c10_w8 : w8.cell? ⟨w.heap.size, 10, none⟩ = some c10 := block_cells hAw8 10
  have d0_w8 : w8.cell? ⟨w.heap.size + 1, 0, none⟩ = some d0 := block_cells hBw8 0
  have d1_w8 : w8.cell? ⟨w.heap.size + 1, 1, none⟩ = some d1 := block_cells hBw8 1
  have d2_w8 : w8.cell? ⟨w.heap.size + 1, 2, none⟩ = some d2 := block_cells hBw8 2
  have d3_w8 : w8.cell? ⟨w.heap.size + 1, 3, none⟩ = some d3 := block_cells hBw8 3
  have d4_w8 : w8.cell? ⟨w.heap.size + 1, 4, none⟩ = some d4 := block_cells hBw8 4
  have d5_w8 : w8.cell? ⟨w.heap.size + 1, 5, none⟩ = some d5 := block_cells hBw8 5
  have d6_w8 : w8.cell? ⟨w.heap.size + 1, 6, none⟩ = some d6 := block_cells hBw8 6
  have d7_w8 : w8.cell? ⟨w.heap.size + 1, 7, none⟩ = some d7 := block_cells hBw8 7
  have d8_w8 : w8.cell? ⟨w.heap.size + 1, 8, none⟩ = some d8 := block_cells hBw8 8
  have d9_w8 : w8.cell? ⟨w.heap.size + 1, 9, none⟩ = some d9 := block_cells hBw8 9
  have d10_w8 : w8.cell? ⟨w.heap.size + 1, 10, none⟩ = some d10 := block_cells hBw8 10
  have hcv := hcvH.out w8 (hq6.trans (below_le (hq7.trans (below_le hq8 hq7.size)) hq6.size))
  clear hAw8 hBw8 hAw7 hBw7
  go_wp2_with fail
  refine (sm.out _ hbw8).mono ?_
  rintro e w9 ⟨r, rfl, hr, hq9⟩
  have hT : ((keyS v).toList == (keyS v').toList) = r := by
    cases r with
    | true => rw [hke.out.2 (hr.1 rfl).2.2]; simp
    | false =>
      cases hx : ((keyS v).toList == (keyS v').toList) with
      | false => rfl
      | true =>
        have h1 := hke.out.1 (toList_inj (by simpa using hx))
        exact absurd (hr.2 ⟨hAo.out, hBo.out, h1⟩) (by decide)
  have hbw9 : Below w.heap.size w w9 := hbw8.trans (below_le hq9 hbw8.size)
  clear hr
  go_wp2_with fail
  refine (hkn.out _).mono ?_
  rintro e w10 ⟨rfl, hq10⟩
  go_wp2
  go_ret
  exact ⟨rfl, hbw9.trans (below_le hq10 hbw9.size)⟩
end
theorem keys_walk (t u : Term) (cs ds : List Value) (w : World) (h : TRep w t cs) (h' : TRep w u ds) : Calls Try.prog 12 #[.agg cs.toArray, .agg ds.toArray] w fun e w' => e = .returned (.bool true) ∧ Below w.heap.size w w' := by
  cases hA : okB (builtV t) with
  | false => exact keys_apart t u cs ds w h h' (.inl hA)
  | true =>
    cases hB : okB (builtV u) with
    | false => exact keys_apart t u cs ds w h h' (.inr hB)
    | true => exact keys_both t u cs ds w h h' hA hB
end Go.Proofs.Ytpcbdjfonmohaaa
