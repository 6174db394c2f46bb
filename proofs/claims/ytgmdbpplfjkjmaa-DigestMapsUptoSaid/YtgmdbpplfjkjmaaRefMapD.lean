/- The document's map of layer 5: Delete. -/
import Derived.Test.YtgmdbpplfjkjmaaRefMapP
namespace Go.Proofs.Ytgmdbpplfjkjmaa
open Go.RowKit
set_option linter.unusedVariables false
set_option linter.unusedSimpArgs false

def delQ (qs : List QE) (i : Nat) : List QE := qs.take i ++ qs.drop (i + 1)
theorem delQ_ok {w : World} {qs : List QE} {i : Nat} (h : QsOk w qs) : QsOk w (delQ qs i) := fun p hp => by
  rcases List.mem_append.1 hp with hp | hp
  · exact h p (List.mem_of_mem_take hp)
  · exact h p (List.mem_of_mem_drop hp)
theorem delQ_length {qs : List QE} {i : Nat} (hi : i < qs.length) : (delQ qs i).length = qs.length - 1 := by unfold delQ; rw [List.length_append, List.length_take, List.length_drop]; omega
theorem flatQ_del {qs : List QE} (hw : wideQ qs) {i : Nat} (hi : i < qs.length) : (flatQ qs).take (i * 22) ++ (flatQ qs).drop ((i + 1) * 22) = flatQ (delQ qs i) := by
  rw [flatQ_take hw i (by omega), flatQ_drop hw (i + 1) (by omega)]
  unfold delQ
  rw [flatQ_append]
def DDelEnd (w0 : World) (d : Nat) (sv : Value) (qs : List QE) (v : Val) (w : World) (e : Ending) (w' : World) : Prop :=
  (okB v = true ∧ ∃ i q, qs[i]? = some q ∧ builtV q.k = v ∧ e = .returned (.tuple #[.agg q.vc.toArray, .bool true]) ∧ ∃ sv', (∀ b ∈ ownL sv', w.heap.size ≤ b) ∧ DocM w0 w' d sv' (delQ qs i) ∧ But (OfD d sv) w w') ∨
  ((okB v = true → ∀ q ∈ qs, builtV q.k ≠ v) ∧ e = .returned (.tuple #[.agg zeroCells, .bool false]) ∧ DocM w0 w' d sv qs ∧ But (OfD d sv) w w')
set_option maxRecDepth 100000 in
set_option maxHeartbeats 6400000 in
theorem ddel_said {w0 w : World} {d : Nat} {sv : Value} {qs : List QE} (h : DocM w0 w d sv qs) (hr : riseQ qs) {t : Term} {cs : List Value} (ht : TRep w0 t cs) :
    Calls Try.prog 25 #[.pointer (some ⟨d, 0, none⟩), .agg cs.toArray] w (DDelEnd w0 d sv qs (builtV t) w) := by
  have hlen := TRep.len ht
  have hones := TRep.ones ht
  have hsm := h.small
  obtain ⟨c0, c1, c2, c3, c4, c5, c6, c7, c8, c9, c10, rfl⟩ := eleven hlen
  have hH := Lib.hid h
  have hrH := Lib.hid hr
  have htH := Lib.hid ht
  obtain ⟨bx, hbx⟩ : ∃ b, b = w.heap.size := ⟨_, rfl⟩
  obtain ⟨rb, hrb⟩ : ∃ b, b = w.heap.size + 1 := ⟨_, rfl⟩
  obtain ⟨W, hW⟩ : ∃ W, W = (w.alloc (.cells #[c0, c1, c2, c3, c4, c5, c6, c7, c8, c9, c10] 31)).alloc (.cells zeroCells 31) := ⟨_, rfl⟩
  have hbW : Below w.heap.size w W := by rw [hW]; exact ((Below.refl _ _).alloc (Nat.le_refl _) _).alloc (by simp) _
  have hbxW : W.heap[bx]? = some (.cells #[c0, c1, c2, c3, c4, c5, c6, c7, c8, c9, c10] 31 (0, 0)) := by rw [hW, hbx]; exact (Below.heap_alloc _ _ _ (by simp)).trans (heap_alloc_new w _)
  have hrbW : W.heap[rb]? = some (.cells zeroCells 31 (0, 0)) := by rw [hW, hrb]; exact heap_alloc_at _ (by simp)
  have hWsz : W.heap.size = w.heap.size + 1 + 1 := by rw [hW]; simp
  have hDH := Lib.hid (h.below hbW)
  have hbxc := Lib.hid (show ∀ X, Below W.heap.size W X → ∀ j, X.cell? ⟨bx, j, none⟩ = #[c0, c1, c2, c3, c4, c5, c6, c7, c8, c9, c10][j]? from fun X hX j => (hX.cell (p := ⟨bx, j, none⟩) (Array.getElem?_eq_some_iff.1 hbxW).1).trans (cell_of_row W bx j _ _ _ hbxW))
  have hrbX := Lib.hid (show ∀ X, Below W.heap.size W X → X.heap[rb]? = some (.cells zeroCells 31 (0, 0)) from fun X hX => (hX.block rb (Array.getElem?_eq_some_iff.1 hrbW).1).trans hrbW)
  have hclose := Lib.hid (show ∀ X cs', Below W.heap.size W X → (X.setRow rb cs').heap[rb]? = some (.cells cs' 31 (0, 0)) ∧ Below w.heap.size w (X.setRow rb cs') from fun X cs' hX => close_row (by omega) ((hX.block rb (Array.getElem?_eq_some_iff.1 hrbW).1).trans hrbW) (hbW.trans (hX.mono hbW.size)))
  have hsame := Lib.hid (show ∀ X, Below w.heap.size w X → DocM w0 X d sv qs ∧ But (OfD d sv) w X from fun X hX => ⟨h.below hX, (But.refl _ w).of_below hX (fun i hi hle => by omega)⟩)
  have hget := Lib.hid (dget_said (h.below hbW) hr ht)
  have hpl := Lib.hid (fun (hok : okB (builtV t) = true) X (hX : Below W.heap.size W X) => dplace_said (hDH.out.below hX) ht hok)
  have hzero := Lib.hid (all_one (TRep.ones (leaf_rep w 0 false 0 0 ⟨#[]⟩ 0 (by rfl) (by rfl) (by rfl) (by simp [maxLen, ByteArray.size]) (by rfl))))
  have hWH := Lib.hid hW
  have hbx2 := Lib.hid hbx
  have hrb2 := Lib.hid hrb
  have hbWH := Lib.hid hbW
  have x0 := hbxc.out W (Below.refl _ _) 0
  have x1 := hbxc.out W (Below.refl _ _) 1
  have x2 := hbxc.out W (Below.refl _ _) 2
  have x3 := hbxc.out W (Below.refl _ _) 3
  have x4 := hbxc.out W (Below.refl _ _) 4
  have x5 := hbxc.out W (Below.refl _ _) 5
  have x6 := hbxc.out W (Below.refl _ _) 6
  have x7 := hbxc.out W (Below.refl _ _) 7
  have x8 := hbxc.out W (Below.refl _ _) 8
  have x9 := hbxc.out W (Below.refl _ _) 9
  have x10 := hbxc.out W (Below.refl _ _) 10
  simp only [List.getElem?_cons_zero, List.getElem?_cons_succ, List.getElem?_toArray, Nat.add_zero, Nat.reduceAdd] at x0 x1 x2 x3 x4 x5 x6 x7 x8 x9 x10
  clear h hr ht hW hbxW hrbW hbW hbx hrb
  go_enter Try.func25, Try.ntmps25
  go_wp2_with fail
  rw [← hrb2.out, ← hbx2.out]
  rw [show (w.alloc (Obj.cells #[c0, c1, c2, c3, c4, c5, c6, c7, c8, c9, c10] 31)).alloc (Obj.cells #[.int .i64 0, .bool false, .int .i64 0, .float .f64 0, .string ⟨#[]⟩, .slice none 0 0, .int .u64 0, .slice none 0 0, .slice none 0 0, .string ⟨#[]⟩, .int .i64 0] 31) = W from hWH.out.symm]
  refine hget.out.mono ?_
  rintro e w1 ⟨hcase, hb1⟩
  obtain ⟨vb, hvb⟩ : ∃ b, b = w1.heap.size := ⟨_, rfl⟩
  obtain ⟨W1, hW1⟩ : ∃ X, X = w1.alloc (.cells zeroCells 31) := ⟨_, rfl⟩
  have hvbW1 : W1.heap[vb]? = some (.cells zeroCells 31 (0, 0)) := by rw [hW1, hvb]; exact heap_alloc_new w1 _
  have hbW1 : Below w1.heap.size w1 W1 := by rw [hW1]; exact (Below.refl _ _).alloc (Nat.le_refl _) _
  have hrv : rb < vb := by have := hb1.size; have := hrb2.out; omega
  have hset := Lib.hid (show ∀ ds, (W1.setRow vb ds).heap[vb]? = some (.cells ds 31 (0, 0)) ∧ Below W.heap.size W (W1.setRow vb ds) from fun ds =>
    ⟨setRow_heap W1 vb _ _ _ _ hvbW1, hb1.trans ((show Below w1.heap.size w1 (W1.setRow vb ds) from hbW1.trans ⟨rfl, rfl, rfl, by rw [setRow_size]; exact Nat.le_refl _, fun k hk => setRow_other W1 vb k _ (by omega)⟩).mono hb1.size)⟩)
  have hW1H := Lib.hid hW1
  have hvbH := Lib.hid hvb
  clear x0 x1 x2 x3 x4 x5 x6 x7 x8 x9 x10 hbW1 hb1 hW1 hvb
  rcases hcase with ⟨q, hqm, hqk, hok, rfl⟩ | ⟨hnot, rfl⟩
  · -- it is there
    have hone := TRep.ones (hDH.out.ok q hqm).2.1
    have hvc := (hDH.out.ok.wide q hqm).2
    obtain ⟨vc, hvcq⟩ : ∃ vc, vc = q.vc := ⟨_, rfl⟩
    have hvcH := Lib.hid hvcq
    rw [← hvcq] at hvc hone ⊢
    obtain ⟨d0, d1, d2, d3, d4, d5, d6, d7, d8, d9, d10, rfl⟩ := eleven hvc
    obtain ⟨hv2, hb2⟩ := hset.out #[d0, d1, d2, d3, d4, d5, d6, d7, d8, d9, d10]
    obtain ⟨W2, hW2⟩ : ∃ X, X = W1.setRow vb #[d0, d1, d2, d3, d4, d5, d6, d7, d8, d9, d10] := ⟨_, rfl⟩
    rw [← hW2] at hv2 hb2
    have hW2H := Lib.hid hW2
    have hb2H := Lib.hid hb2
    have hv2H := Lib.hid hv2
    have hqmH := Lib.hid hqm
    have hqkH := Lib.hid hqk
    have hokH := Lib.hid hok
    have hplX := Lib.hid (hpl.out hok W2 hb2)
    have x0 := hbxc.out W2 hb2H.out 0
    have x1 := hbxc.out W2 hb2H.out 1
    have x2 := hbxc.out W2 hb2H.out 2
    have x3 := hbxc.out W2 hb2H.out 3
    have x4 := hbxc.out W2 hb2H.out 4
    have x5 := hbxc.out W2 hb2H.out 5
    have x6 := hbxc.out W2 hb2H.out 6
    have x7 := hbxc.out W2 hb2H.out 7
    have x8 := hbxc.out W2 hb2H.out 8
    have x9 := hbxc.out W2 hb2H.out 9
    have x10 := hbxc.out W2 hb2H.out 10
    simp only [List.getElem?_cons_zero, List.getElem?_cons_succ, List.getElem?_toArray, Nat.add_zero, Nat.reduceAdd] at x0 x1 x2 x3 x4 x5 x6 x7 x8 x9 x10
    clear hW2 hb2 hqm hqk hok hvcq hv2
    go_wp2_with (rw [show w1.alloc (Obj.cells #[.int .i64 0, .bool false, .int .i64 0, .float .f64 0, .string ⟨#[]⟩, .slice none 0 0, .int .u64 0, .slice none 0 0, .slice none 0 0, .string ⟨#[]⟩, .int .i64 0] 31) = W1 from hW1H.out.symm, ← hvbH.out]; refine wpList_store_row rfl 31 (.tmp 6) _ rfl vb #[d0, d1, d2, d3, d4, d5, d6, d7, d8, d9, d10] rfl rfl 31 zeroCells hvbW1 termSize rfl (all_one hone) ?_; rw [← hW2H.out])
    refine hplX.out.mono ?_
    rintro e w3 ⟨i, Bo, rfl, hi, h1, h2, h3, hb3⟩
    have hbw3 := Lib.hid (hb2H.out.trans (hb3.mono hb2H.out.size))
    have hD3 := hDH.out.below hbw3.out
    have hv3 := (hb3.block vb (Array.getElem?_eq_some_iff.1 hv2H.out).1).trans hv2H.out
    obtain ⟨p, hp, hpk⟩ : ∃ q, qs[i]? = some q ∧ builtV q.k = builtV t := by
      cases Bo with
      | true => exact h3.1 rfl
      | false => exact absurd hqkH.out (place_not hrH.out hi h1 h2 (fun h => by have := h3.2 h; cases this) q hqmH.out)
    have hil := (List.getElem?_eq_some_iff.1 hp).1
    have hpq : p = q := by
      obtain ⟨j, hj⟩ := List.mem_iff_getElem?.1 hqmH.out
      have hj' := (List.getElem?_eq_some_iff.1 hj).1
      rcases Nat.lt_trichotomy j i with h | rfl | h
      · have := h1 j q h hj; rw [hqkH.out, cmpV_self] at this; omega
      · rw [hp] at hj; injection hj
      · have := List.pairwise_iff_getElem.1 hrH.out i j hil hj' h
        obtain ⟨_, e1⟩ := List.getElem?_eq_some_iff.1 hp
        obtain ⟨_, e2⟩ := List.getElem?_eq_some_iff.1 hj
        rw [e1, e2, hpk, hqkH.out, cmpV_self] at this
        omega
    subst hpq
    have hpH := Lib.hid hp
    obtain ⟨a, cap, rfl, hcap, hmax, -, hform⟩ := ownsRow_form hD3.row
    unfold maxLen at hmax
    rcases hform with ⟨-, h0, -⟩ | ⟨g, rfl, hg1, hgs, hgl, hrc⟩
    · omega
    have hdc : w3.cell? ⟨d, 0, none⟩ = some (.slice (some ⟨g, 0, none⟩) qs.length cap) := by rw [cell_of_row w3 d 0 _ _ _ hD3.cell]; rfl
    have hdlt : d < w.heap.size := hH.out.lt
    have hdr : d ≠ rb := by have := hrb2.out; omega
    have hdv : d ≠ vb := by have := hrb2.out; omega
    have hvr : vb ≠ rb := by omega
    have hfrd : w3.heap[d]? = some (.cells #[.slice (some ⟨g, 0, none⟩) qs.length cap] 53 (0, 0)) := hD3.cell
    have hil2 : (i : Int) < (qs.length : Int) := by omega
    have hil3 : (i : Int) + 1 ≤ (qs.length : Int) := by omega
    have hwi : IntKind.i64.wrap ((i : Int) + 1) = (i : Int) + 1 := by rw [IntKind.wrap_i64]; omega
    clear h1 h2 h3 hb3 hrc hp hpk
    by_cases hck : cap = i + 1
    · have hqi : qs.length = i + 1 := by have := hcap; omega
      have hy := Piece.back hD3.row (k := i + 1) (by omega)
      rw [if_pos hck] at hy
      subst hck
      have hqiH := Lib.hid hqi
      clear hqi
      obtain ⟨v1, X1, v3, X3, r1, r3, hX1, hX3, hv1, hv3o, hv3n, hrow3⟩ := rows_del pairRow hD3.row hD3.ok.ones hil (by omega) hy
      obtain ⟨g3, cap3, rfl, -, -⟩ := row_form hrow3 hv3n
      have hd3 : d < w3.heap.size := hD3.lt
      have hdcA : (w3.alloc (Obj.cells #[] 155)).cell? ⟨d, 0, none⟩ = some (.slice (some ⟨g, 0, none⟩) qs.length (i + 1)) := (((Below.refl w3.heap.size w3).alloc (Nat.le_refl _) _).cell (p := ⟨d, 0, none⟩) hd3).trans hdc
      have hdc1 : X1.cell? ⟨d, 0, none⟩ = some (.slice (some ⟨g, 0, none⟩) qs.length (i + 1)) := (hX1.cell (p := ⟨d, 0, none⟩) hd3).trans hdc
      have hdc3 : X3.cell? ⟨d, 0, none⟩ = some (.slice (some ⟨g, 0, none⟩) qs.length (i + 1)) := (hX3.cell (p := ⟨d, 0, none⟩) hd3).trans hdc
      have hfr3 : X3.frozen? ⟨d, 0, none⟩ = false := frozen_of_row X3 d 0 _ _ ((hX3.block d hd3).trans hfrd)
      have hvb3 : vb < w3.heap.size := (Array.getElem?_eq_some_iff.1 hv3).1
      have hrb3 : rb < w3.heap.size := by omega
      obtain ⟨X4, hX4⟩ : ∃ X, X = X3.setCell ⟨d, 0, none⟩ (.slice (some ⟨g3, 0, none⟩) (qs.length - 1) cap3) := ⟨_, rfl⟩
      have hrbX4 : X4.heap[rb]? = some (.cells zeroCells 31 (0, 0)) := by rw [hX4]; exact (Below.heap_setCell X3 ⟨d, 0, none⟩ _ rb (by show rb ≠ d; omega)).trans ((hX3.block rb hrb3).trans (hrbX.out w3 hbw3.out))
      have hvbX4 : X4.heap[vb]? = some (.cells #[d0, d1, d2, d3, d4, d5, d6, d7, d8, d9, d10] 31 (0, 0)) := by rw [hX4]; exact (Below.heap_setCell X3 ⟨d, 0, none⟩ _ vb (by show vb ≠ d; omega)).trans ((hX3.block vb hvb3).trans hv3)
      have z0 := cell_of_row X4 vb 0 _ _ _ hvbX4
      have z1 := cell_of_row X4 vb 1 _ _ _ hvbX4
      have z2 := cell_of_row X4 vb 2 _ _ _ hvbX4
      have z3 := cell_of_row X4 vb 3 _ _ _ hvbX4
      have z4 := cell_of_row X4 vb 4 _ _ _ hvbX4
      have z5 := cell_of_row X4 vb 5 _ _ _ hvbX4
      have z6 := cell_of_row X4 vb 6 _ _ _ hvbX4
      have z7 := cell_of_row X4 vb 7 _ _ _ hvbX4
      have z8 := cell_of_row X4 vb 8 _ _ _ hvbX4
      have z9 := cell_of_row X4 vb 9 _ _ _ hvbX4
      have z10 := cell_of_row X4 vb 10 _ _ _ hvbX4
      simp only [List.getElem?_cons_zero, List.getElem?_cons_succ, List.getElem?_toArray, Nat.add_zero, Nat.reduceAdd] at z0 z1 z2 z3 z4 z5 z6 z7 z8 z9 z10
      have hfinH := Lib.hid (show (X4.setRow rb #[d0, d1, d2, d3, d4, d5, d6, d7, d8, d9, d10]).heap[rb]? = some (.cells #[d0, d1, d2, d3, d4, d5, d6, d7, d8, d9, d10] 31 (0, 0)) ∧ (∀ b ∈ ownL (.slice (some ⟨g3, 0, none⟩) (qs.length - 1) cap3), w.heap.size ≤ b) ∧ DocM w0 (X4.setRow rb #[d0, d1, d2, d3, d4, d5, d6, d7, d8, d9, d10]) d (.slice (some ⟨g3, 0, none⟩) (qs.length - 1) cap3) (delQ qs i) ∧ But (OfD d (.slice (some ⟨g, 0, none⟩) qs.length (i + 1))) w (X4.setRow rb #[d0, d1, d2, d3, d4, d5, d6, d7, d8, d9, d10]) from by
        have hwX : Below w.heap.size w X3 := hbWH.out.trans ((hbw3.out.trans (hX3.mono hbw3.out.size)).mono hbWH.out.size)
        have hsw : w.heap.size ≤ w3.heap.size := (hbWH.out.trans (hbw3.out.mono hbWH.out.size)).size
        have hrow4 : X3.ownsRow w3.heap.size 155 22 (.slice (some ⟨g3, 0, none⟩) (qs.length - 1) cap3) (delQ qs i).length (flatQ (delQ qs i)) := by
          rw [delQ_length hil, ← flatQ_del hD3.ok.wide hil]
          exact hrow3
        have hnw := fun b (hb : b ∈ ownL (.slice (some ⟨g3, 0, none⟩) (qs.length - 1) cap3)) => (ownsRow_lt hrow4 b hb).1
        have hch : But (OfD d (.slice (some ⟨g, 0, none⟩) qs.length (i + 1))) w (X4.setRow rb #[d0, d1, d2, d3, d4, d5, d6, d7, d8, d9, d10]) := by
          rw [hX4]
          refine ⟨hwX.os, hwX.tape, hwX.output, ?_, fun k hk hs => ?_⟩
          · rw [setRow_size, size_setCell]; exact hwX.size
          · rw [setRow_other _ _ _ _ (by have := hrb2.out; omega), Below.heap_setCell X3 ⟨d, 0, none⟩ _ k (fun e => hs (.inl e))]
            exact hwX.block k hk
        refine ⟨setRow_heap _ rb _ _ _ _ hrbX4, fun b hb => Nat.le_trans hsw (hnw b hb), ⟨?_, ?_, delQ_ok hD3.ok, fun hb => by have := hnw d hb; omega, hD3.base, ?_, by rw [delQ_length hil]; omega⟩, hch⟩
        · rw [setRow_other _ _ _ _ hdr, hX4]
          have h5 : X3.heap[d]? = some (.cells #[.slice (some ⟨g, 0, none⟩) qs.length (i + 1)] 53 (0, 0)) := (hX3.block d hd3).trans hfrd
          rw [setCell_eq_setRow X3 d 0 _ _ _ _ h5]
          exact setRow_heap X3 d _ _ _ _ h5
        · exact (ownsRow_keep hrow4 (fun b hb => by
            have h6 := hnw b hb
            rw [hX4, setRow_other _ _ _ _ (by omega), Below.heap_setCell X3 ⟨d, 0, none⟩ _ b (by show b ≠ d; omega)])).mono (by have := hH.out.bel.size; omega)
        · exact hH.out.bel.trans (hch.below' hH.out.bel.size (fun k hk hs => by have := hH.out.lts k hs; omega)))
      have r1H := Lib.hid r1
      rw [show qs.length - (i + 1) = 0 from by have := hqiH.out; omega] at r3
      simp only [Nat.sub_self] at r3
      have r3H := Lib.hid r3
      subst hX4
      clear r1 r3 hrow3 hv3n hX1 hX3 hD3 hy hvbX4
      go_wp2_with (first | (at_builtin; refine Lib.wpList_append_run _ rfl _ _ _ _ rfl _ _ rfl rfl _ _ r1H.out ?_) | (at_builtin; refine Lib.wpList_append_run _ rfl _ _ _ _ rfl _ _ rfl rfl _ _ r3H.out ?_) | (refine wpList_store_row rfl 31 (.tmp 4) _ rfl rb #[d0, d1, d2, d3, d4, d5, d6, d7, d8, d9, d10] rfl rfl 31 zeroCells hrbX4 termSize rfl (all_one hone) ?_))
      (try simp only [Exit.inBlock, Exit.then])
      refine bodyPost_ret (results_row_tmp rfl _ _ rb 31 _ (0, 0) _ rfl hfinH.out.1 Try.underlying31 rfl termSize) rfl ?_
      exact .inl ⟨hokH.out, i, p, hpH.out, hqkH.out, by rw [← hvcH.out]; rfl, _, hfinH.out.2⟩
    · have hy := Piece.back hD3.row (k := i + 1) (by omega)
      rw [if_neg hck] at hy
      obtain ⟨v1, X1, v3, X3, r1, r3, hX1, hX3, hv1, hv3o, hv3n, hrow3⟩ := rows_del pairRow hD3.row hD3.ok.ones hil (by omega) hy
      obtain ⟨g3, cap3, rfl, -, -⟩ := row_form hrow3 hv3n
      have hd3 : d < w3.heap.size := hD3.lt
      have hdcA : (w3.alloc (Obj.cells #[] 155)).cell? ⟨d, 0, none⟩ = some (.slice (some ⟨g, 0, none⟩) qs.length cap) := (((Below.refl w3.heap.size w3).alloc (Nat.le_refl _) _).cell (p := ⟨d, 0, none⟩) hd3).trans hdc
      have hdc1 : X1.cell? ⟨d, 0, none⟩ = some (.slice (some ⟨g, 0, none⟩) qs.length cap) := (hX1.cell (p := ⟨d, 0, none⟩) hd3).trans hdc
      have hdc3 : X3.cell? ⟨d, 0, none⟩ = some (.slice (some ⟨g, 0, none⟩) qs.length cap) := (hX3.cell (p := ⟨d, 0, none⟩) hd3).trans hdc
      have hfr3 : X3.frozen? ⟨d, 0, none⟩ = false := frozen_of_row X3 d 0 _ _ ((hX3.block d hd3).trans hfrd)
      have hvb3 : vb < w3.heap.size := (Array.getElem?_eq_some_iff.1 hv3).1
      have hrb3 : rb < w3.heap.size := by omega
      obtain ⟨X4, hX4⟩ : ∃ X, X = X3.setCell ⟨d, 0, none⟩ (.slice (some ⟨g3, 0, none⟩) (qs.length - 1) cap3) := ⟨_, rfl⟩
      have hrbX4 : X4.heap[rb]? = some (.cells zeroCells 31 (0, 0)) := by rw [hX4]; exact (Below.heap_setCell X3 ⟨d, 0, none⟩ _ rb (by show rb ≠ d; omega)).trans ((hX3.block rb hrb3).trans (hrbX.out w3 hbw3.out))
      have hvbX4 : X4.heap[vb]? = some (.cells #[d0, d1, d2, d3, d4, d5, d6, d7, d8, d9, d10] 31 (0, 0)) := by rw [hX4]; exact (Below.heap_setCell X3 ⟨d, 0, none⟩ _ vb (by show vb ≠ d; omega)).trans ((hX3.block vb hvb3).trans hv3)
      have z0 := cell_of_row X4 vb 0 _ _ _ hvbX4
      have z1 := cell_of_row X4 vb 1 _ _ _ hvbX4
      have z2 := cell_of_row X4 vb 2 _ _ _ hvbX4
      have z3 := cell_of_row X4 vb 3 _ _ _ hvbX4
      have z4 := cell_of_row X4 vb 4 _ _ _ hvbX4
      have z5 := cell_of_row X4 vb 5 _ _ _ hvbX4
      have z6 := cell_of_row X4 vb 6 _ _ _ hvbX4
      have z7 := cell_of_row X4 vb 7 _ _ _ hvbX4
      have z8 := cell_of_row X4 vb 8 _ _ _ hvbX4
      have z9 := cell_of_row X4 vb 9 _ _ _ hvbX4
      have z10 := cell_of_row X4 vb 10 _ _ _ hvbX4
      simp only [List.getElem?_cons_zero, List.getElem?_cons_succ, List.getElem?_toArray, Nat.add_zero, Nat.reduceAdd] at z0 z1 z2 z3 z4 z5 z6 z7 z8 z9 z10
      have hfinH := Lib.hid (show (X4.setRow rb #[d0, d1, d2, d3, d4, d5, d6, d7, d8, d9, d10]).heap[rb]? = some (.cells #[d0, d1, d2, d3, d4, d5, d6, d7, d8, d9, d10] 31 (0, 0)) ∧ (∀ b ∈ ownL (.slice (some ⟨g3, 0, none⟩) (qs.length - 1) cap3), w.heap.size ≤ b) ∧ DocM w0 (X4.setRow rb #[d0, d1, d2, d3, d4, d5, d6, d7, d8, d9, d10]) d (.slice (some ⟨g3, 0, none⟩) (qs.length - 1) cap3) (delQ qs i) ∧ But (OfD d (.slice (some ⟨g, 0, none⟩) qs.length cap)) w (X4.setRow rb #[d0, d1, d2, d3, d4, d5, d6, d7, d8, d9, d10]) from by
        have hwX : Below w.heap.size w X3 := hbWH.out.trans ((hbw3.out.trans (hX3.mono hbw3.out.size)).mono hbWH.out.size)
        have hsw : w.heap.size ≤ w3.heap.size := (hbWH.out.trans (hbw3.out.mono hbWH.out.size)).size
        have hrow4 : X3.ownsRow w3.heap.size 155 22 (.slice (some ⟨g3, 0, none⟩) (qs.length - 1) cap3) (delQ qs i).length (flatQ (delQ qs i)) := by
          rw [delQ_length hil, ← flatQ_del hD3.ok.wide hil]
          exact hrow3
        have hnw := fun b (hb : b ∈ ownL (.slice (some ⟨g3, 0, none⟩) (qs.length - 1) cap3)) => (ownsRow_lt hrow4 b hb).1
        have hch : But (OfD d (.slice (some ⟨g, 0, none⟩) qs.length cap)) w (X4.setRow rb #[d0, d1, d2, d3, d4, d5, d6, d7, d8, d9, d10]) := by
          rw [hX4]
          refine ⟨hwX.os, hwX.tape, hwX.output, ?_, fun k hk hs => ?_⟩
          · rw [setRow_size, size_setCell]; exact hwX.size
          · rw [setRow_other _ _ _ _ (by have := hrb2.out; omega), Below.heap_setCell X3 ⟨d, 0, none⟩ _ k (fun e => hs (.inl e))]
            exact hwX.block k hk
        refine ⟨setRow_heap _ rb _ _ _ _ hrbX4, fun b hb => Nat.le_trans hsw (hnw b hb), ⟨?_, ?_, delQ_ok hD3.ok, fun hb => by have := hnw d hb; omega, hD3.base, ?_, by rw [delQ_length hil]; omega⟩, hch⟩
        · rw [setRow_other _ _ _ _ hdr, hX4]
          have h5 : X3.heap[d]? = some (.cells #[.slice (some ⟨g, 0, none⟩) qs.length cap] 53 (0, 0)) := (hX3.block d hd3).trans hfrd
          rw [setCell_eq_setRow X3 d 0 _ _ _ _ h5]
          exact setRow_heap X3 d _ _ _ _ h5
        · exact (ownsRow_keep hrow4 (fun b hb => by
            have h6 := hnw b hb
            rw [hX4, setRow_other _ _ _ _ (by omega), Below.heap_setCell X3 ⟨d, 0, none⟩ _ b (by show b ≠ d; omega)])).mono (by have := hH.out.bel.size; omega)
        · exact hH.out.bel.trans (hch.below' hH.out.bel.size (fun k hk hs => by have := hH.out.lts k hs; omega)))
      have r1H := Lib.hid r1
      have r3H := Lib.hid r3
      subst hX4
      clear r1 r3 hrow3 hv3n hX1 hX3 hD3 hy hvbX4
      go_wp2_with (first | (at_builtin; refine Lib.wpList_append_run _ rfl _ _ _ _ rfl _ _ rfl rfl _ _ r1H.out ?_) | (at_builtin; refine Lib.wpList_append_run _ rfl _ _ _ _ rfl _ _ rfl rfl _ _ r3H.out ?_) | (refine wpList_store_row rfl 31 (.tmp 4) _ rfl rb #[d0, d1, d2, d3, d4, d5, d6, d7, d8, d9, d10] rfl rfl 31 zeroCells hrbX4 termSize rfl (all_one hone) ?_))
      (try simp only [Exit.inBlock, Exit.then])
      refine bodyPost_ret (results_row_tmp rfl _ _ rb 31 _ (0, 0) _ rfl hfinH.out.1 Try.underlying31 rfl termSize) rfl ?_
      exact .inl ⟨hokH.out, i, p, hpH.out, hqkH.out, by rw [← hvcH.out]; rfl, _, hfinH.out.2⟩
  · -- it is not
    obtain ⟨hv2, hb2⟩ := hset.out zeroCells
    obtain ⟨W2, hW2⟩ : ∃ X, X = W1.setRow vb zeroCells := ⟨_, rfl⟩
    rw [← hW2] at hv2 hb2
    have hrb1 := hrbX.out W2 hb2
    have hcl := Lib.hid (hclose.out W2 zeroCells hb2)
    have z0 := cell_of_row W2 vb 0 _ _ _ hv2
    have z1 := cell_of_row W2 vb 1 _ _ _ hv2
    have z2 := cell_of_row W2 vb 2 _ _ _ hv2
    have z3 := cell_of_row W2 vb 3 _ _ _ hv2
    have z4 := cell_of_row W2 vb 4 _ _ _ hv2
    have z5 := cell_of_row W2 vb 5 _ _ _ hv2
    have z6 := cell_of_row W2 vb 6 _ _ _ hv2
    have z7 := cell_of_row W2 vb 7 _ _ _ hv2
    have z8 := cell_of_row W2 vb 8 _ _ _ hv2
    have z9 := cell_of_row W2 vb 9 _ _ _ hv2
    have z10 := cell_of_row W2 vb 10 _ _ _ hv2
    simp only [zeroCells] at z0 z1 z2 z3 z4 z5 z6 z7 z8 z9 z10
    simp only [List.getElem?_cons_zero, List.getElem?_cons_succ, List.getElem?_toArray, Nat.add_zero, Nat.reduceAdd] at z0 z1 z2 z3 z4 z5 z6 z7 z8 z9 z10
    have hW2H := Lib.hid hW2
    have hnotH := Lib.hid hnot
    clear hW2 hb2 hnot hv2
    go_wp2_with (first
      | (rw [show w1.alloc (Obj.cells #[.int .i64 0, .bool false, .int .i64 0, .float .f64 0, .string ⟨#[]⟩, .slice none 0 0, .int .u64 0, .slice none 0 0, .slice none 0 0, .string ⟨#[]⟩, .int .i64 0] 31) = W1 from hW1H.out.symm, ← hvbH.out]; refine wpList_store_row rfl 31 (.tmp 6) _ rfl vb zeroCells rfl rfl 31 zeroCells hvbW1 termSize rfl hzero.out ?_; rw [← hW2H.out])
      | (refine wpList_store_row rfl 31 (.tmp 4) _ rfl rb zeroCells rfl rfl 31 zeroCells hrb1 termSize rfl hzero.out ?_))
    (try simp only [Exit.inBlock, Exit.then])
    refine bodyPost_ret (results_row_tmp rfl _ _ rb 31 _ (0, 0) _ rfl hcl.out.1 Try.underlying31 rfl termSize) rfl ?_
    exact .inr ⟨hnotH.out, rfl, hsame.out _ hcl.out.2⟩
end Go.Proofs.Ytgmdbpplfjkjmaa
