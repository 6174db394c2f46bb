/- The document's map of layer 5: what it is in memory; place. -/
import Derived.Test.YtgmdbpplfjkjmaaRowsT
import Derived.Test.YtgmdbpplfjkjmaaRefPart
import Derived.Test.YtgmdbpplfjkjmaaCompareE
import Derived.Test.YtgmdbpplfjkjmaaOrder
import Derived.Test.YtgmdbpplfjkjmaaPlainT
import Derived.Laws.Rows
import Derived.Laws.Tables
namespace Go.Proofs.Ytgmdbpplfjkjmaa
open Go.RowKit
set_option linter.unusedVariables false
set_option linter.unusedSimpArgs false

/-- A pair of the document's: its cells and its terms. -/
structure QE where
  kc : List Value
  k : Term
  vc : List Value
  v : Term
def flatQ (qs : List QE) : List Value := qs.flatMap fun q => q.kc ++ q.vc
theorem flatQ_append (l m : List QE) : flatQ (l ++ m) = flatQ l ++ flatQ m := by unfold flatQ; rw [List.flatMap_append]
def wideQ (qs : List QE) : Prop := ∀ q ∈ qs, q.kc.length = 11 ∧ q.vc.length = 11
theorem flatQ_length : ∀ {qs : List QE}, wideQ qs → (flatQ qs).length = qs.length * 22
  | [], _ => rfl
  | q :: l, h => by
    obtain ⟨h1, h2⟩ := h q (List.mem_cons_self ..)
    show ((q.kc ++ q.vc) ++ flatQ l).length = _
    rw [List.length_append, flatQ_length (fun p hp => h p (List.mem_cons_of_mem _ hp)), List.length_append, h1, h2, List.length_cons]
    omega
theorem wideQ.take {qs : List QE} (h : wideQ qs) (i : Nat) : wideQ (qs.take i) := fun p hp => h p (List.mem_of_mem_take hp)
theorem wideQ.drop {qs : List QE} (h : wideQ qs) (i : Nat) : wideQ (qs.drop i) := fun p hp => h p (List.mem_of_mem_drop hp)
theorem flatQ_take {qs : List QE} (h : wideQ qs) (i : Nat) (hi : i ≤ qs.length) : (flatQ qs).take (i * 22) = flatQ (qs.take i) := by
  have e : flatQ qs = flatQ (qs.take i) ++ flatQ (qs.drop i) := by rw [← flatQ_append, List.take_append_drop]
  rw [e]; exact List.take_left' (by rw [flatQ_length (h.take i), List.length_take]; omega)
theorem flatQ_drop {qs : List QE} (h : wideQ qs) (i : Nat) (hi : i ≤ qs.length) : (flatQ qs).drop (i * 22) = flatQ (qs.drop i) := by
  have e : flatQ qs = flatQ (qs.take i) ++ flatQ (qs.drop i) := by rw [← flatQ_append, List.take_append_drop]
  rw [e]; exact List.drop_left' (by rw [flatQ_length (h.take i), List.length_take]; omega)
theorem splitQ {qs : List QE} {i : Nat} {q : QE} (hq : qs[i]? = some q) : qs = qs.take i ++ q :: qs.drop (i + 1) := by
  obtain ⟨h, rfl⟩ := List.getElem?_eq_some_iff.1 hq
  rw [List.getElem_cons_drop, List.take_append_drop]
theorem flatQ_at {qs : List QE} {i : Nat} {q : QE} (h : wideQ qs) (hq : qs[i]? = some q) : (∀ j, j < 11 → (flatQ qs)[i * 22 + j]? = q.kc[j]?) ∧ (∀ j, j < 11 → (flatQ qs)[i * 22 + 11 + j]? = q.vc[j]?) := by
  have hi := (List.getElem?_eq_some_iff.1 hq).1
  obtain ⟨h1, h2⟩ := h q (List.mem_of_getElem? hq)
  have hl : (flatQ (qs.take i)).length = i * 22 := by rw [flatQ_length (h.take i), List.length_take]; omega
  have e : flatQ qs = flatQ (qs.take i) ++ (q.kc ++ (q.vc ++ flatQ (qs.drop (i + 1)))) := by
    have h3 : flatQ qs = flatQ (qs.take i ++ q :: qs.drop (i + 1)) := by rw [← splitQ hq]
    rw [h3, flatQ_append]
    show _ ++ ((q.kc ++ q.vc) ++ flatQ (qs.drop (i + 1))) = _
    rw [List.append_assoc]
  refine ⟨fun j hj => ?_, fun j hj => ?_⟩
  · rw [e, List.getElem?_append_right (by omega), hl, show i * 22 + j - i * 22 = j by omega, List.getElem?_append_left (by omega)]
  · rw [e, List.getElem?_append_right (by omega), hl, show i * 22 + 11 + j - i * 22 = 11 + j by omega, List.getElem?_append_right (by omega), h1, show 11 + j - 11 = j by omega, List.getElem?_append_left (by omega)]
def QsOk (w : World) (qs : List QE) : Prop := ∀ q ∈ qs, TRep w q.k q.kc ∧ TRep w q.v q.vc ∧ okB (builtV q.k) = true ∧ okB (builtV q.v) = true
theorem QsOk.wide {w : World} {qs : List QE} (h : QsOk w qs) : wideQ qs := fun q hq => ⟨TRep.len (h q hq).1, TRep.len (h q hq).2.1⟩
theorem QsOk.ones {w : World} {qs : List QE} (h : QsOk w qs) : ∀ u ∈ flatQ qs, u.oneCell' = true := fun u hu => by
  obtain ⟨q, hq, hu⟩ := List.mem_flatMap.1 hu
  obtain ⟨h1, h2, -⟩ := h q hq
  rcases List.mem_append.1 hu with hu | hu
  · exact TRep.ones h1 u hu
  · exact TRep.ones h2 u hu
/-- The document's map in block d; its terms stand in w0, what it takes lies behind w0. -/
structure DocM (w0 w : World) (d : Nat) (sv : Value) (qs : List QE) : Prop where
  cell : w.heap[d]? = some (.cells #[sv] 53 (0, 0))
  row : w.ownsRow w0.heap.size 155 22 sv qs.length (flatQ qs)
  ok : QsOk w0 qs
  apart : d ∉ ownL sv
  base : w0.heap.size ≤ d
  bel : Below w0.heap.size w0 w
  small : qs.length ≤ 4096
section
variable {w0 w w' : World} {d : Nat} {sv : Value} {qs : List QE}
theorem DocM.lt (h : DocM w0 w d sv qs) : d < w.heap.size := (Array.getElem?_eq_some_iff.1 h.cell).1
def OfD (d : Nat) (sv : Value) (b : Nat) : Prop := b = d ∨ b ∈ ownL sv
theorem DocM.keep (h : DocM w0 w d sv qs) (hb : Below w0.heap.size w0 w') (hk : ∀ b, OfD d sv b → w'.heap[b]? = w.heap[b]?) : DocM w0 w' d sv qs :=
  ⟨(hk d (.inl rfl)).trans h.cell, ownsRow_keep h.row (fun b hb => hk b (.inr hb)), h.ok, h.apart, h.base, hb, h.small⟩
theorem DocM.lts (h : DocM w0 w d sv qs) : ∀ b, OfD d sv b → w0.heap.size ≤ b ∧ b < w.heap.size := by
  rintro b (rfl | hb)
  · exact ⟨h.base, h.lt⟩
  · exact ownsRow_lt h.row b hb
theorem DocM.below (h : DocM w0 w d sv qs) (hb : Below w.heap.size w w') : DocM w0 w' d sv qs := h.keep (h.bel.trans (hb.mono h.bel.size)) (fun b hbd => hb.block b (h.lts b hbd).2)
end
def DPlaceEnd (qs : List QE) (v : Val) (w : World) (e : Ending) (w' : World) : Prop :=
  ∃ (i : Nat) (B : Bool), e = .returned (.tuple #[.int .i64 i, .bool B]) ∧ i ≤ qs.length ∧ (∀ (j : Nat) q, j < i → qs[j]? = some q → cmpV (builtV q.k) v < 0) ∧ (∀ q, qs[i]? = some q → ¬ cmpV (builtV q.k) v < 0) ∧ (B = true ↔ ∃ q, qs[i]? = some q ∧ builtV q.k = v) ∧ Below w.heap.size w w'
set_option maxRecDepth 100000 in
set_option maxHeartbeats 12800000 in
theorem dplace_said {w0 w : World} {d : Nat} {sv : Value} {qs : List QE} (h : DocM w0 w d sv qs) {t : Term} {cs : List Value} (ht : TRep w0 t cs) (hok : okB (builtV t) = true) :
    Calls Try.prog 81 #[.pointer (some ⟨d, 0, none⟩), .agg cs.toArray] w (DPlaceEnd qs (builtV t) w) := by
  have hlen := TRep.len ht
  have hsm := h.small
  have hones := TRep.ones ht
  obtain ⟨c0, c1, c2, c3, c4, c5, c6, c7, c8, c9, c10, rfl⟩ := eleven hlen
  obtain ⟨a, cap, rfl, hcap, hmax, -, hform⟩ := ownsRow_form h.row
  unfold maxLen at hmax
  have hH := Lib.hid h
  have htH := Lib.hid ht
  have hokH := Lib.hid hok
  have hformH := Lib.hid hform
  obtain ⟨bx, hbx⟩ : ∃ b, b = w.heap.size := ⟨_, rfl⟩
  obtain ⟨W, hW⟩ : ∃ W, W = w.alloc (.cells #[c0, c1, c2, c3, c4, c5, c6, c7, c8, c9, c10] 31) := ⟨_, rfl⟩
  have hbW : Below w.heap.size w W := by rw [hW]; exact (Below.refl _ _).alloc (Nat.le_refl _) _
  have hbxW : W.heap[bx]? = some (.cells #[c0, c1, c2, c3, c4, c5, c6, c7, c8, c9, c10] 31 (0, 0)) := by rw [hW, hbx]; exact heap_alloc_new w _
  have hbxH := Lib.hid hbxW
  have hWH := Lib.hid hW
  have hbWH := Lib.hid hbW
  have hbx2 := Lib.hid hbx
  have hd : d < w.heap.size := h.lt
  have hdW := Lib.hid (show W.cell? ⟨d, 0, none⟩ = some (.slice a qs.length cap) from (hbW.cell (p := ⟨d, 0, none⟩) hd).trans (by rw [cell_of_row w d 0 _ _ _ h.cell]; rfl))
  have hnsz := Lib.hid (show ∀ i q, qs[i]? = some q → ∀ X, Below w.heap.size w X → TRep X q.k q.kc from fun i q hq X hX => TRep.keep (keeps_of_below (h.bel.trans (hX.mono h.bel.size))) _ _ (h.ok q (List.mem_of_getElem? hq)).1)
  have htX := Lib.hid (show ∀ X, Below w.heap.size w X → TRep X t [c0, c1, c2, c3, c4, c5, c6, c7, c8, c9, c10] from fun X hX => TRep.keep (keeps_of_below (h.bel.trans (hX.mono h.bel.size))) _ _ ht)
  have mixed : Try.prog.follows .mixedOrders = true := by kernel_rfl
  clear h ht hok hform hW hbxW hbW hbx
  go_enter Try.func81, Try.ntmps81
  go_wp2_with fail
  rw [← hbx2.out, ← hWH.out]
  go_loopw [6] (fun i wr => ∃ k : Nat, k ≤ qs.length ∧ i = .int .i64 k ∧ (∀ (j : Nat) q, j < k → qs[j]? = some q → cmpV (builtV q.k) (builtV t) < 0) ∧ Below W.heap.size W wr) (fun i _ => qs.length - (intOf i).toNat)
  case atStart => exact ⟨0, Nat.zero_le _, rfl, fun j q h => absurd h (Nat.not_lt_zero _), Below.refl _ _⟩
  case round =>
    obtain ⟨i, hi, rfl, hlo, hb⟩ := hrel
    have hloH := Lib.hid hlo
    have hbH := Lib.hid hb
    have hWs : w.heap.size ≤ W.heap.size := hbWH.out.size
    have hdc : wr.cell? ⟨d, 0, none⟩ = some (.slice a qs.length cap) := (hb.cell (p := ⟨d, 0, none⟩) (by show d < W.heap.size; omega)).trans hdW.out
    have hbww := Lib.hid (hbWH.out.trans (hb.mono hWs))
    clear hlo
    by_cases h1 : i < qs.length
    · have l1 : (i : Int) < (qs.length : Int) := by omega
      rcases hformH.out with ⟨-, h0, -⟩ | ⟨g, rfl, hg1, hgs, hgl, hrc⟩
      · omega
      obtain ⟨q, hq⟩ : ∃ q, qs[i]? = some q := ⟨_, List.getElem?_eq_getElem h1⟩
      have hwide := hH.out.ok.wide
      obtain ⟨f1, -⟩ := flatQ_at hwide hq
      have hkc := (hwide q (List.mem_of_getElem? hq)).1
      have hqk := hH.out.ok q (List.mem_of_getElem? hq)
      have hcmp := Lib.hid (fun X (hX : Below wr.heap.size wr X) => cmp_any q.k t q.kc _ X (hnsz.out i q hq X (hbww.out.trans (below_le hX hbww.out.size))) (htX.out X (hbww.out.trans (below_le hX hbww.out.size))) (okV_check hqk.2.2.1) (okV_check hokH.out))
      have hsam := Lib.hid (fun X (hX : Below wr.heap.size wr X) => sameV_said q.k t q.kc _ X (hnsz.out i q hq X (hbww.out.trans (below_le hX hbww.out.size))) (htX.out X (hbww.out.trans (below_le hX hbww.out.size))))
      have hqok := Lib.hid hqk.2.2.1
      have hrow : ∀ j, j < 11 → wr.cell? ⟨g, i * 22 + j, none⟩ = q.kc[j]? := fun j hj => (hbww.out.cell (p := ⟨g, i * 22 + j, none⟩) hgs).trans ((hrc (i * 22 + j) (by omega)).trans (f1 j hj))
      have hbxc : ∀ j, wr.cell? ⟨bx, j, none⟩ = #[c0, c1, c2, c3, c4, c5, c6, c7, c8, c9, c10][j]? := fun j => (hb.cell (p := ⟨bx, j, none⟩) (Array.getElem?_eq_some_iff.1 hbxH.out).1).trans (cell_of_row W bx j _ _ _ hbxH.out)
      obtain ⟨v, hv⟩ : ∃ v, v = builtV q.k := ⟨_, rfl⟩
      rw [← hv] at hcmp hsam hqok
      have hqv := Lib.hid (show qs[i]? = some q ∧ builtV q.k = v from ⟨hq, hv.symm⟩)
      obtain ⟨kc, hkcq⟩ : ∃ kc, kc = q.kc := ⟨_, rfl⟩
      rw [← hkcq] at hcmp hsam hrow hkc
      obtain ⟨d0, d1, d2, d3, d4, d5, d6, d7, d8, d9, d10, rfl⟩ := eleven hkc
      have q0 := hrow 0 (by omega)
      have x0 := hbxc 0
      have q1 := hrow 1 (by omega)
      have x1 := hbxc 1
      have q2 := hrow 2 (by omega)
      have x2 := hbxc 2
      have q3 := hrow 3 (by omega)
      have x3 := hbxc 3
      have q4 := hrow 4 (by omega)
      have x4 := hbxc 4
      have q5 := hrow 5 (by omega)
      have x5 := hbxc 5
      have q6 := hrow 6 (by omega)
      have x6 := hbxc 6
      have q7 := hrow 7 (by omega)
      have x7 := hbxc 7
      have q8 := hrow 8 (by omega)
      have x8 := hbxc 8
      have q9 := hrow 9 (by omega)
      have x9 := hbxc 9
      have q10 := hrow 10 (by omega)
      have x10 := hbxc 10
      simp only [List.getElem?_cons_zero, List.getElem?_cons_succ, List.getElem?_toArray, Nat.add_zero, Nat.reduceAdd] at q0 q1 q2 q3 q4 q5 q6 q7 q8 q9 q10 x0 x1 x2 x3 x4 x5 x6 x7 x8 x9 x10
      have hS0' : wr.cell? ⟨d, 0, none⟩ = some (.slice (some ⟨g, 0, none⟩) qs.length cap) ∧ wr.cell? ⟨g, i * 22, none⟩ = some d0 ∧ wr.cell? ⟨g, i * 22 + 1, none⟩ = some d1 ∧ wr.cell? ⟨g, i * 22 + 2, none⟩ = some d2 ∧ wr.cell? ⟨g, i * 22 + 3, none⟩ = some d3 ∧ wr.cell? ⟨g, i * 22 + 4, none⟩ = some d4 ∧ wr.cell? ⟨g, i * 22 + 5, none⟩ = some d5 ∧ wr.cell? ⟨g, i * 22 + 6, none⟩ = some d6 ∧ wr.cell? ⟨g, i * 22 + 7, none⟩ = some d7 ∧ wr.cell? ⟨g, i * 22 + 8, none⟩ = some d8 ∧ wr.cell? ⟨g, i * 22 + 9, none⟩ = some d9 ∧ wr.cell? ⟨g, i * 22 + 10, none⟩ = some d10 ∧ wr.cell? ⟨bx, 0, none⟩ = some c0 ∧ wr.cell? ⟨bx, 1, none⟩ = some c1 ∧ wr.cell? ⟨bx, 2, none⟩ = some c2 ∧ wr.cell? ⟨bx, 3, none⟩ = some c3 ∧ wr.cell? ⟨bx, 4, none⟩ = some c4 ∧ wr.cell? ⟨bx, 5, none⟩ = some c5 ∧ wr.cell? ⟨bx, 6, none⟩ = some c6 ∧ wr.cell? ⟨bx, 7, none⟩ = some c7 ∧ wr.cell? ⟨bx, 8, none⟩ = some c8 ∧ wr.cell? ⟨bx, 9, none⟩ = some c9 ∧ wr.cell? ⟨bx, 10, none⟩ = some c10 := ⟨hdc, q0, q1, q2, q3, q4, q5, q6, q7, q8, q9, q10, x0, x1, x2, x3, x4, x5, x6, x7, x8, x9, x10⟩
      have hSk := Lib.hid (show ∀ X, Below wr.heap.size wr X → X.cell? ⟨d, 0, none⟩ = some (.slice (some ⟨g, 0, none⟩) qs.length cap) ∧ X.cell? ⟨g, i * 22, none⟩ = some d0 ∧ X.cell? ⟨g, i * 22 + 1, none⟩ = some d1 ∧ X.cell? ⟨g, i * 22 + 2, none⟩ = some d2 ∧ X.cell? ⟨g, i * 22 + 3, none⟩ = some d3 ∧ X.cell? ⟨g, i * 22 + 4, none⟩ = some d4 ∧ X.cell? ⟨g, i * 22 + 5, none⟩ = some d5 ∧ X.cell? ⟨g, i * 22 + 6, none⟩ = some d6 ∧ X.cell? ⟨g, i * 22 + 7, none⟩ = some d7 ∧ X.cell? ⟨g, i * 22 + 8, none⟩ = some d8 ∧ X.cell? ⟨g, i * 22 + 9, none⟩ = some d9 ∧ X.cell? ⟨g, i * 22 + 10, none⟩ = some d10 ∧ X.cell? ⟨bx, 0, none⟩ = some c0 ∧ X.cell? ⟨bx, 1, none⟩ = some c1 ∧ X.cell? ⟨bx, 2, none⟩ = some c2 ∧ X.cell? ⟨bx, 3, none⟩ = some c3 ∧ X.cell? ⟨bx, 4, none⟩ = some c4 ∧ X.cell? ⟨bx, 5, none⟩ = some c5 ∧ X.cell? ⟨bx, 6, none⟩ = some c6 ∧ X.cell? ⟨bx, 7, none⟩ = some c7 ∧ X.cell? ⟨bx, 8, none⟩ = some c8 ∧ X.cell? ⟨bx, 9, none⟩ = some c9 ∧ X.cell? ⟨bx, 10, none⟩ = some c10 from fun X hX => by
        obtain ⟨p0, p1, p2, p3, p4, p5, p6, p7, p8, p9, p10, p11, p12, p13, p14, p15, p16, p17, p18, p19, p20, p21, p22⟩ := hS0'
        exact ⟨keeps_of_below hX _ _ p0, keeps_of_below hX _ _ p1, keeps_of_below hX _ _ p2, keeps_of_below hX _ _ p3, keeps_of_below hX _ _ p4, keeps_of_below hX _ _ p5, keeps_of_below hX _ _ p6, keeps_of_below hX _ _ p7, keeps_of_below hX _ _ p8, keeps_of_below hX _ _ p9, keeps_of_below hX _ _ p10, keeps_of_below hX _ _ p11, keeps_of_below hX _ _ p12, keeps_of_below hX _ _ p13, keeps_of_below hX _ _ p14, keeps_of_below hX _ _ p15, keeps_of_below hX _ _ p16, keeps_of_below hX _ _ p17, keeps_of_below hX _ _ p18, keeps_of_below hX _ _ p19, keeps_of_below hX _ _ p20, keeps_of_below hX _ _ p21, keeps_of_below hX _ _ p22⟩)
      obtain ⟨r, hr⟩ : ∃ r : Int, r = cmpV v (builtV t) := ⟨_, rfl⟩
      rw [← hr] at hcmp
      have hrH := Lib.hid hr
      clear hq f1 hqk hrow hbxc hv hkcq q0 q1 q2 q3 q4 q5 q6 q7 q8 q9 q10 x0 x1 x2 x3 x4 x5 x6 x7 x8 x9 x10 hS0' hr hrc hwide hdc hb hgl
      go_wp2_with fail
      refine wp_region_held_drew (S := (fun w' => w'.cell? ⟨d, 0, none⟩ = some (.slice (some ⟨g, 0, none⟩) qs.length cap) ∧ w'.cell? ⟨g, i * 22, none⟩ = some d0 ∧ w'.cell? ⟨g, i * 22 + 1, none⟩ = some d1 ∧ w'.cell? ⟨g, i * 22 + 2, none⟩ = some d2 ∧ w'.cell? ⟨g, i * 22 + 3, none⟩ = some d3 ∧ w'.cell? ⟨g, i * 22 + 4, none⟩ = some d4 ∧ w'.cell? ⟨g, i * 22 + 5, none⟩ = some d5 ∧ w'.cell? ⟨g, i * 22 + 6, none⟩ = some d6 ∧ w'.cell? ⟨g, i * 22 + 7, none⟩ = some d7 ∧ w'.cell? ⟨g, i * 22 + 8, none⟩ = some d8 ∧ w'.cell? ⟨g, i * 22 + 9, none⟩ = some d9 ∧ w'.cell? ⟨g, i * 22 + 10, none⟩ = some d10 ∧ w'.cell? ⟨bx, 0, none⟩ = some c0 ∧ w'.cell? ⟨bx, 1, none⟩ = some c1 ∧ w'.cell? ⟨bx, 2, none⟩ = some c2 ∧ w'.cell? ⟨bx, 3, none⟩ = some c3 ∧ w'.cell? ⟨bx, 4, none⟩ = some c4 ∧ w'.cell? ⟨bx, 5, none⟩ = some c5 ∧ w'.cell? ⟨bx, 6, none⟩ = some c6 ∧ w'.cell? ⟨bx, 7, none⟩ = some c7 ∧ w'.cell? ⟨bx, 8, none⟩ = some c8 ∧ w'.cell? ⟨bx, 9, none⟩ = some c9 ∧ w'.cell? ⟨bx, 10, none⟩ = some c10)) (by kernel_rfl) ?_ (fun hHeld => ?_)
      · exact hSk.out _ (Below.refl wr.heap.size wr).drew
      refine wpAnyH_take (i := 0) (v := ?vi0) rfl (by kernel_rfl) (by kernel_rfl) (by kernel_rfl) (fun _ _ _ h => h) (.inl ⟨by rfl, ?hyi0⟩) (by assumption) ?resti0
      case hyi0 => (intro w hSw; (try dsimp only at hSw); go_simp; first | done | with_reducible rfl)
      (try simp only [Act.put, pu1, pu2, pu3, pu4, pu5, pu6])
      refine wpAnyH_take (i := 1) (v := ?vi1) rfl (by kernel_rfl) (by kernel_rfl) (by kernel_rfl) (fun _ _ _ h => h) (.inl ⟨by rfl, ?hyi1⟩) (by assumption) ?resti1
      case hyi1 => (intro w hSw; (try dsimp only at hSw); go_simp; first | done | with_reducible rfl)
      (try simp only [Act.put, pu1, pu2, pu3, pu4, pu5, pu6])
      refine wpAnyH_take (i := 2) (v := ?vi2) rfl (by kernel_rfl) (by kernel_rfl) (by kernel_rfl) (fun _ _ _ h => h) (.inl ⟨by rfl, ?hyi2⟩) (by assumption) ?resti2
      case hyi2 => (intro w hSw; (try dsimp only at hSw); go_simp; first | done | with_reducible rfl)
      (try simp only [Act.put, pu1, pu2, pu3, pu4, pu5, pu6])
      refine wpAnyH_take (i := 3) (v := ?vi3) rfl (by kernel_rfl) (by kernel_rfl) (by kernel_rfl) (fun _ _ _ h => h) (.inl ⟨by rfl, ?hyi3⟩) (by assumption) ?resti3
      case hyi3 => (intro w hSw; (try dsimp only at hSw); go_simp; first | done | with_reducible rfl)
      (try simp only [Act.put, pu1, pu2, pu3, pu4, pu5, pu6])
      refine wpAnyH_take (i := 4) (v := ?vi4) rfl (by kernel_rfl) (by kernel_rfl) (by kernel_rfl) (fun _ _ _ h => h) (.inl ⟨by rfl, ?hyi4⟩) (by assumption) ?resti4
      case hyi4 => (intro w hSw; (try dsimp only at hSw); go_simp; first | done | with_reducible rfl)
      (try simp only [Act.put, pu1, pu2, pu3, pu4, pu5, pu6])
      refine wpAnyH_take (i := 5) (v := ?vi5) rfl (by kernel_rfl) (by kernel_rfl) (by kernel_rfl) (fun _ _ _ h => h) (.inl ⟨by rfl, ?hyi5⟩) (by assumption) ?resti5
      case hyi5 => (intro w hSw; (try dsimp only at hSw); go_simp; first | done | with_reducible rfl)
      (try simp only [Act.put, pu1, pu2, pu3, pu4, pu5, pu6])
      refine wpAnyH_take (i := 6) (v := ?vi6) rfl (by kernel_rfl) (by kernel_rfl) (by kernel_rfl) (fun _ _ _ h => h) (.inl ⟨by rfl, ?hyi6⟩) (by assumption) ?resti6
      case hyi6 => (intro w hSw; (try dsimp only at hSw); go_simp; first | done | with_reducible rfl)
      (try simp only [Act.put, pu1, pu2, pu3, pu4, pu5, pu6])
      refine wpAnyH_take (i := 7) (v := ?vi7) rfl (by kernel_rfl) (by kernel_rfl) (by kernel_rfl) (fun _ _ _ h => h) (.inl ⟨by rfl, ?hyi7⟩) (by assumption) ?resti7
      case hyi7 => (intro w hSw; (try dsimp only at hSw); go_simp; first | done | with_reducible rfl)
      (try simp only [Act.put, pu1, pu2, pu3, pu4, pu5, pu6])
      refine wpAnyH_take (i := 8) (v := ?vi8) rfl (by kernel_rfl) (by kernel_rfl) (by kernel_rfl) (fun _ _ _ h => h) (.inl ⟨by rfl, ?hyi8⟩) (by assumption) ?resti8
      case hyi8 => (intro w hSw; (try dsimp only at hSw); go_simp; first | done | with_reducible rfl)
      (try simp only [Act.put, pu1, pu2, pu3, pu4, pu5, pu6])
      refine wpAnyH_take (i := 9) (v := ?vi9) rfl (by kernel_rfl) (by kernel_rfl) (by kernel_rfl) (fun _ _ _ h => h) (.inl ⟨by rfl, ?hyi9⟩) (by assumption) ?resti9
      case hyi9 => (intro w hSw; (try dsimp only at hSw); go_simp; first | done | with_reducible rfl)
      (try simp only [Act.put, pu1, pu2, pu3, pu4, pu5, pu6])
      refine wpAnyH_take (i := 10) (v := ?vi10) rfl (by kernel_rfl) (by kernel_rfl) (by kernel_rfl) (fun _ _ _ h => h) (.inl ⟨by rfl, ?hyi10⟩) (by assumption) ?resti10
      case hyi10 => (intro w hSw; (try dsimp only at hSw); go_simp; first | done | with_reducible rfl)
      (try simp only [Act.put, pu1, pu2, pu3, pu4, pu5, pu6])
      refine wpAnyH_take (i := 11) (v := ?vi11) rfl (by kernel_rfl) (by kernel_rfl) (by kernel_rfl) (fun _ _ _ h => h) (.inl ⟨by rfl, ?hyi11⟩) (by assumption) ?resti11
      case hyi11 => (intro w hSw; (try dsimp only at hSw); go_simp; first | done | with_reducible rfl)
      (try simp only [Act.put, pu1, pu2, pu3, pu4, pu5, pu6])
      refine wpAnyH_take (i := 12) (v := ?vi12) rfl (by kernel_rfl) (by kernel_rfl) (by kernel_rfl) (fun _ _ _ h => h) (.inl ⟨by rfl, ?hyi12⟩) (by assumption) ?resti12
      case hyi12 => (intro w hSw; (try dsimp only at hSw); go_simp; first | done | with_reducible rfl)
      (try simp only [Act.put, pu1, pu2, pu3, pu4, pu5, pu6])
      refine wpAnyH_take (i := 13) (v := ?vi13) rfl (by kernel_rfl) (by kernel_rfl) (by kernel_rfl) (fun _ _ _ h => h) (.inl ⟨by rfl, ?hyi13⟩) (by assumption) ?resti13
      case hyi13 => (intro w hSw; (try dsimp only at hSw); go_simp; first | done | with_reducible rfl)
      (try simp only [Act.put, pu1, pu2, pu3, pu4, pu5, pu6])
      refine wpAnyH_take (i := 14) (v := ?vi14) rfl (by kernel_rfl) (by kernel_rfl) (by kernel_rfl) (fun _ _ _ h => h) (.inl ⟨by rfl, ?hyi14⟩) (by assumption) ?resti14
      case hyi14 => (intro w hSw; (try dsimp only at hSw); go_simp; first | done | with_reducible rfl)
      (try simp only [Act.put, pu1, pu2, pu3, pu4, pu5, pu6])
      refine wpAnyH_take (i := 15) (v := ?vi15) rfl (by kernel_rfl) (by kernel_rfl) (by kernel_rfl) (fun _ _ _ h => h) (.inl ⟨by rfl, ?hyi15⟩) (by assumption) ?resti15
      case hyi15 => (intro w hSw; (try dsimp only at hSw); go_simp; first | done | with_reducible rfl)
      (try simp only [Act.put, pu1, pu2, pu3, pu4, pu5, pu6])
      refine wpAnyH_take (i := 16) (v := ?vi16) rfl (by kernel_rfl) (by kernel_rfl) (by kernel_rfl) (fun _ _ _ h => h) (.inl ⟨by rfl, ?hyi16⟩) (by assumption) ?resti16
      case hyi16 => (intro w hSw; (try dsimp only at hSw); go_simp; first | done | with_reducible rfl)
      (try simp only [Act.put, pu1, pu2, pu3, pu4, pu5, pu6])
      refine wpAnyH_ready (rs := [17]) (by kernel_rfl) (by simp) ?_
      refine AllReadyH.cons rfl (fun K hK => ?_) AllReadyH.nil
      rw [if_pos (by rfl)]
      go_simp
      refine (hcmp.out _ (Below.refl wr.heap.size wr).drew).mono ?_
      rintro e w4 ⟨rfl, hbw4⟩
      refine hK.out _ _ ?_ (fun hHeld2 => ?_)
      · exact hSk.out _ ((Below.refl wr.heap.size wr).drew.trans (below_le hbw4 (Below.refl wr.heap.size wr).drew.size))
      clear hK K
      (try simp only [Act.put, pu1, pu2, pu3, pu4, pu5, pu6])
      refine wpAnyH_take (i := 18) (v := ?vi18) rfl (by kernel_rfl) (by kernel_rfl) (by kernel_rfl) (fun _ _ _ h => h) (.inl ⟨by rfl, ?hyi18⟩) (by assumption) ?resti18
      case hyi18 => (intro w hSw; (try dsimp only at hSw); go_simp; first | done | with_reducible rfl)
      (try simp only [Act.put, pu1, pu2, pu3, pu4, pu5, pu6])
      refine wpAnyH_take (i := 19) (v := ?vi19) rfl (by kernel_rfl) (by kernel_rfl) (by kernel_rfl) (fun _ _ _ h => h) (.inl ⟨by rfl, ?hyi19⟩) (by assumption) ?resti19
      case hyi19 => (intro w hSw; (try dsimp only at hSw); go_simp; first | done | with_reducible rfl)
      (try simp only [Act.put, pu1, pu2, pu3, pu4, pu5, pu6])
      refine wpAnyH_done (by kernel_rfl) ?_ _
      have h5 : Hid (Below wr.heap.size wr w4) := Lib.hid ((Below.refl wr.heap.size wr).drew.trans (below_le hbw4 (Below.refl wr.heap.size wr).drew.size))
      clear hbw4
      by_cases hr0 : r < 0
      · go_wp2_with fail
        go_roundw
        case rel => exact ⟨i + 1, by omega, by go_num, fun j p hj hp => by
          rcases Nat.lt_or_eq_of_le (Nat.le_of_lt_succ hj) with h | rfl
          · exact hloH.out j p h hp
          · rw [hqv.out.1] at hp
            obtain rfl := Option.some.inj hp
            rw [hqv.out.2, ← hrH.out]; exact hr0, hbH.out.trans (below_le h5.out hbH.out.size)⟩
        case measure => simp [intOf]; omega
      · go_wp2_with fail
        refine wp_region_held_drew (S := (fun w' => w'.cell? ⟨d, 0, none⟩ = some (.slice (some ⟨g, 0, none⟩) qs.length cap) ∧ w'.cell? ⟨g, i * 22, none⟩ = some d0 ∧ w'.cell? ⟨g, i * 22 + 1, none⟩ = some d1 ∧ w'.cell? ⟨g, i * 22 + 2, none⟩ = some d2 ∧ w'.cell? ⟨g, i * 22 + 3, none⟩ = some d3 ∧ w'.cell? ⟨g, i * 22 + 4, none⟩ = some d4 ∧ w'.cell? ⟨g, i * 22 + 5, none⟩ = some d5 ∧ w'.cell? ⟨g, i * 22 + 6, none⟩ = some d6 ∧ w'.cell? ⟨g, i * 22 + 7, none⟩ = some d7 ∧ w'.cell? ⟨g, i * 22 + 8, none⟩ = some d8 ∧ w'.cell? ⟨g, i * 22 + 9, none⟩ = some d9 ∧ w'.cell? ⟨g, i * 22 + 10, none⟩ = some d10 ∧ w'.cell? ⟨bx, 0, none⟩ = some c0 ∧ w'.cell? ⟨bx, 1, none⟩ = some c1 ∧ w'.cell? ⟨bx, 2, none⟩ = some c2 ∧ w'.cell? ⟨bx, 3, none⟩ = some c3 ∧ w'.cell? ⟨bx, 4, none⟩ = some c4 ∧ w'.cell? ⟨bx, 5, none⟩ = some c5 ∧ w'.cell? ⟨bx, 6, none⟩ = some c6 ∧ w'.cell? ⟨bx, 7, none⟩ = some c7 ∧ w'.cell? ⟨bx, 8, none⟩ = some c8 ∧ w'.cell? ⟨bx, 9, none⟩ = some c9 ∧ w'.cell? ⟨bx, 10, none⟩ = some c10)) (by kernel_rfl) ?_ (fun hHeld => ?_)
        · exact hSk.out _ h5.out.drew
        refine wpAnyH_take (i := 0) (v := ?vj0) rfl (by kernel_rfl) (by kernel_rfl) (by kernel_rfl) (fun _ _ _ h => h) (.inl ⟨by rfl, ?hyj0⟩) (by assumption) ?restj0
        case hyj0 => (intro w hSw; (try dsimp only at hSw); go_simp; first | done | with_reducible rfl)
        (try simp only [Act.put, pu1, pu2, pu3, pu4, pu5, pu6])
        refine wpAnyH_take (i := 1) (v := ?vj1) rfl (by kernel_rfl) (by kernel_rfl) (by kernel_rfl) (fun _ _ _ h => h) (.inl ⟨by rfl, ?hyj1⟩) (by assumption) ?restj1
        case hyj1 => (intro w hSw; (try dsimp only at hSw); go_simp; first | done | with_reducible rfl)
        (try simp only [Act.put, pu1, pu2, pu3, pu4, pu5, pu6])
        refine wpAnyH_take (i := 2) (v := ?vj2) rfl (by kernel_rfl) (by kernel_rfl) (by kernel_rfl) (fun _ _ _ h => h) (.inl ⟨by rfl, ?hyj2⟩) (by assumption) ?restj2
        case hyj2 => (intro w hSw; (try dsimp only at hSw); go_simp; first | done | with_reducible rfl)
        (try simp only [Act.put, pu1, pu2, pu3, pu4, pu5, pu6])
        refine wpAnyH_take (i := 3) (v := ?vj3) rfl (by kernel_rfl) (by kernel_rfl) (by kernel_rfl) (fun _ _ _ h => h) (.inl ⟨by rfl, ?hyj3⟩) (by assumption) ?restj3
        case hyj3 => (intro w hSw; (try dsimp only at hSw); go_simp; first | done | with_reducible rfl)
        (try simp only [Act.put, pu1, pu2, pu3, pu4, pu5, pu6])
        refine wpAnyH_take (i := 4) (v := ?vj4) rfl (by kernel_rfl) (by kernel_rfl) (by kernel_rfl) (fun _ _ _ h => h) (.inl ⟨by rfl, ?hyj4⟩) (by assumption) ?restj4
        case hyj4 => (intro w hSw; (try dsimp only at hSw); go_simp; first | done | with_reducible rfl)
        (try simp only [Act.put, pu1, pu2, pu3, pu4, pu5, pu6])
        refine wpAnyH_take (i := 5) (v := ?vj5) rfl (by kernel_rfl) (by kernel_rfl) (by kernel_rfl) (fun _ _ _ h => h) (.inl ⟨by rfl, ?hyj5⟩) (by assumption) ?restj5
        case hyj5 => (intro w hSw; (try dsimp only at hSw); go_simp; first | done | with_reducible rfl)
        (try simp only [Act.put, pu1, pu2, pu3, pu4, pu5, pu6])
        refine wpAnyH_take (i := 6) (v := ?vj6) rfl (by kernel_rfl) (by kernel_rfl) (by kernel_rfl) (fun _ _ _ h => h) (.inl ⟨by rfl, ?hyj6⟩) (by assumption) ?restj6
        case hyj6 => (intro w hSw; (try dsimp only at hSw); go_simp; first | done | with_reducible rfl)
        (try simp only [Act.put, pu1, pu2, pu3, pu4, pu5, pu6])
        refine wpAnyH_take (i := 7) (v := ?vj7) rfl (by kernel_rfl) (by kernel_rfl) (by kernel_rfl) (fun _ _ _ h => h) (.inl ⟨by rfl, ?hyj7⟩) (by assumption) ?restj7
        case hyj7 => (intro w hSw; (try dsimp only at hSw); go_simp; first | done | with_reducible rfl)
        (try simp only [Act.put, pu1, pu2, pu3, pu4, pu5, pu6])
        refine wpAnyH_take (i := 8) (v := ?vj8) rfl (by kernel_rfl) (by kernel_rfl) (by kernel_rfl) (fun _ _ _ h => h) (.inl ⟨by rfl, ?hyj8⟩) (by assumption) ?restj8
        case hyj8 => (intro w hSw; (try dsimp only at hSw); go_simp; first | done | with_reducible rfl)
        (try simp only [Act.put, pu1, pu2, pu3, pu4, pu5, pu6])
        refine wpAnyH_take (i := 9) (v := ?vj9) rfl (by kernel_rfl) (by kernel_rfl) (by kernel_rfl) (fun _ _ _ h => h) (.inl ⟨by rfl, ?hyj9⟩) (by assumption) ?restj9
        case hyj9 => (intro w hSw; (try dsimp only at hSw); go_simp; first | done | with_reducible rfl)
        (try simp only [Act.put, pu1, pu2, pu3, pu4, pu5, pu6])
        refine wpAnyH_take (i := 10) (v := ?vj10) rfl (by kernel_rfl) (by kernel_rfl) (by kernel_rfl) (fun _ _ _ h => h) (.inl ⟨by rfl, ?hyj10⟩) (by assumption) ?restj10
        case hyj10 => (intro w hSw; (try dsimp only at hSw); go_simp; first | done | with_reducible rfl)
        (try simp only [Act.put, pu1, pu2, pu3, pu4, pu5, pu6])
        refine wpAnyH_take (i := 11) (v := ?vj11) rfl (by kernel_rfl) (by kernel_rfl) (by kernel_rfl) (fun _ _ _ h => h) (.inl ⟨by rfl, ?hyj11⟩) (by assumption) ?restj11
        case hyj11 => (intro w hSw; (try dsimp only at hSw); go_simp; first | done | with_reducible rfl)
        (try simp only [Act.put, pu1, pu2, pu3, pu4, pu5, pu6])
        refine wpAnyH_take (i := 12) (v := ?vj12) rfl (by kernel_rfl) (by kernel_rfl) (by kernel_rfl) (fun _ _ _ h => h) (.inl ⟨by rfl, ?hyj12⟩) (by assumption) ?restj12
        case hyj12 => (intro w hSw; (try dsimp only at hSw); go_simp; first | done | with_reducible rfl)
        (try simp only [Act.put, pu1, pu2, pu3, pu4, pu5, pu6])
        refine wpAnyH_take (i := 13) (v := ?vj13) rfl (by kernel_rfl) (by kernel_rfl) (by kernel_rfl) (fun _ _ _ h => h) (.inl ⟨by rfl, ?hyj13⟩) (by assumption) ?restj13
        case hyj13 => (intro w hSw; (try dsimp only at hSw); go_simp; first | done | with_reducible rfl)
        (try simp only [Act.put, pu1, pu2, pu3, pu4, pu5, pu6])
        refine wpAnyH_take (i := 14) (v := ?vj14) rfl (by kernel_rfl) (by kernel_rfl) (by kernel_rfl) (fun _ _ _ h => h) (.inl ⟨by rfl, ?hyj14⟩) (by assumption) ?restj14
        case hyj14 => (intro w hSw; (try dsimp only at hSw); go_simp; first | done | with_reducible rfl)
        (try simp only [Act.put, pu1, pu2, pu3, pu4, pu5, pu6])
        refine wpAnyH_take (i := 15) (v := ?vj15) rfl (by kernel_rfl) (by kernel_rfl) (by kernel_rfl) (fun _ _ _ h => h) (.inl ⟨by rfl, ?hyj15⟩) (by assumption) ?restj15
        case hyj15 => (intro w hSw; (try dsimp only at hSw); go_simp; first | done | with_reducible rfl)
        (try simp only [Act.put, pu1, pu2, pu3, pu4, pu5, pu6])
        refine wpAnyH_take (i := 16) (v := ?vj16) rfl (by kernel_rfl) (by kernel_rfl) (by kernel_rfl) (fun _ _ _ h => h) (.inl ⟨by rfl, ?hyj16⟩) (by assumption) ?restj16
        case hyj16 => (intro w hSw; (try dsimp only at hSw); go_simp; first | done | with_reducible rfl)
        (try simp only [Act.put, pu1, pu2, pu3, pu4, pu5, pu6])
        refine wpAnyH_take (i := 17) (v := ?vj17) rfl (by kernel_rfl) (by kernel_rfl) (by kernel_rfl) (fun _ _ _ h => h) (.inl ⟨by rfl, ?hyj17⟩) (by assumption) ?restj17
        case hyj17 => (intro w hSw; (try dsimp only at hSw); go_simp; first | done | with_reducible rfl)
        (try simp only [Act.put, pu1, pu2, pu3, pu4, pu5, pu6])
        refine wpAnyH_ready (rs := [18]) (by kernel_rfl) (by simp) ?_
        refine AllReadyH.cons rfl (fun K hK => ?_) AllReadyH.nil
        rw [if_pos (by rfl)]
        go_simp
        refine (hsam.out _ h5.out.drew).mono ?_
        rintro e w6 ⟨Bo, rfl, hBo, hbw6⟩
        refine hK.out _ _ ?_ (fun hHeld2 => ?_)
        · exact hSk.out _ (h5.out.drew.trans (below_le hbw6 h5.out.drew.size))
        clear hK K
        (try simp only [Act.put, pu1, pu2, pu3, pu4, pu5, pu6])
        refine wpAnyH_take (i := 19) (v := ?vj19) rfl (by kernel_rfl) (by kernel_rfl) (by kernel_rfl) (fun _ _ _ h => h) (.inl ⟨by rfl, ?hyj19⟩) (by assumption) ?restj19
        case hyj19 => (intro w hSw; (try dsimp only at hSw); go_simp; first | done | with_reducible rfl)
        (try simp only [Act.put, pu1, pu2, pu3, pu4, pu5, pu6])
        refine wpAnyH_take (i := 20) (v := ?vj20) rfl (by kernel_rfl) (by kernel_rfl) (by kernel_rfl) (fun _ _ _ h => h) (.inl ⟨by rfl, ?hyj20⟩) (by assumption) ?restj20
        case hyj20 => (intro w hSw; (try dsimp only at hSw); go_simp; first | done | with_reducible rfl)
        (try simp only [Act.put, pu1, pu2, pu3, pu4, pu5, pu6])
        refine wpAnyH_take (i := 21) (v := ?vj21) rfl (by kernel_rfl) (by kernel_rfl) (by kernel_rfl) (fun _ _ _ h => h) (.inl ⟨by rfl, ?hyj21⟩) (by assumption) ?restj21
        case hyj21 => (intro w hSw; (try dsimp only at hSw); go_simp; first | done | with_reducible rfl)
        (try simp only [Act.put, pu1, pu2, pu3, pu4, pu5, pu6])
        refine wpAnyH_done (by kernel_rfl) ?_ _
        have h6 : Hid (Below w.heap.size w w6) := Lib.hid (hbww.out.trans (below_le (h5.out.drew.trans (below_le hbw6 h5.out.drew.size)) hbww.out.size))
        have hBH := Lib.hid hBo
        clear hbw6 hBo
        go_wp2
        go_ret2
        exact ⟨i, Bo, rfl, hi, hloH.out, fun p hp => by
          rw [hqv.out.1] at hp
          obtain rfl := Option.some.inj hp
          rw [hqv.out.2, ← hrH.out]; omega, hBH.out.trans ⟨fun h => ⟨q, hqv.out.1, hqv.out.2.trans h.2.2⟩, fun ⟨p, hp, h⟩ => by
          rw [hqv.out.1] at hp
          obtain rfl := Option.some.inj hp
          exact ⟨hqok.out, hokH.out, hqv.out.2.symm.trans h⟩⟩, h6.out⟩
    · obtain rfl : i = qs.length := by omega
      have hS0 := Lib.hid (show ∀ X, Below wr.heap.size wr X → X.cell? ⟨d, 0, none⟩ = some (.slice a qs.length cap) from fun X hX => keeps_of_below hX _ _ hdc)
      clear hdc hb
      go_wp2_with fail
      refine wp_region_held_drew (S := (fun w' => w'.cell? ⟨d, 0, none⟩ = some (.slice a qs.length cap))) (by kernel_rfl) ?_ (fun hHeld => ?_)
      · exact hS0.out _ (Below.refl wr.heap.size wr).drew
      refine wpAnyH_take (i := 0) (v := ?vx0) rfl (by kernel_rfl) (by kernel_rfl) (by kernel_rfl) (fun _ _ _ h => h) (.inl ⟨by rfl, ?hyx0⟩) (by assumption) ?restx0
      case hyx0 => (intro w hSw; (try dsimp only at hSw); go_simp; first | done | with_reducible rfl)
      (try simp only [Act.put, pu1, pu2, pu3, pu4, pu5, pu6])
      refine wpAnyH_take (i := 1) (v := ?vx1) rfl (by kernel_rfl) (by kernel_rfl) (by kernel_rfl) (fun _ _ _ h => h) (.inl ⟨by rfl, ?hyx1⟩) (by assumption) ?restx1
      case hyx1 => (intro w hSw; (try dsimp only at hSw); go_simp; first | done | with_reducible rfl)
      (try simp only [Act.put, pu1, pu2, pu3, pu4, pu5, pu6])
      refine wpAnyH_take (i := 2) (v := ?vx2) rfl (by kernel_rfl) (by kernel_rfl) (by kernel_rfl) (fun _ _ _ h => h) (.inl ⟨by rfl, ?hyx2⟩) (by assumption) ?restx2
      case hyx2 => (intro w hSw; (try dsimp only at hSw); go_simp; first | done | with_reducible rfl)
      (try simp only [Act.put, pu1, pu2, pu3, pu4, pu5, pu6])
      refine wpAnyH_take (i := 3) (v := ?vx3) rfl (by kernel_rfl) (by kernel_rfl) (by kernel_rfl) (fun _ _ _ h => h) (.inl ⟨by rfl, ?hyx3⟩) (by assumption) ?restx3
      case hyx3 => (intro w hSw; (try dsimp only at hSw); go_simp; first | done | with_reducible rfl)
      (try simp only [Act.put, pu1, pu2, pu3, pu4, pu5, pu6])
      refine wpAnyH_take (i := 4) (v := ?vx4) rfl (by kernel_rfl) (by kernel_rfl) (by kernel_rfl) (fun _ _ _ h => h) (.inl ⟨by rfl, ?hyx4⟩) (by assumption) ?restx4
      case hyx4 => (intro w hSw; (try dsimp only at hSw); go_simp; first | done | with_reducible rfl)
      (try simp only [Act.put, pu1, pu2, pu3, pu4, pu5, pu6])
      refine wpAnyH_take (i := 5) (v := ?vx5) rfl (by kernel_rfl) (by kernel_rfl) (by kernel_rfl) (fun _ _ _ h => h) (.inl ⟨by rfl, ?hyx5⟩) (by assumption) ?restx5
      case hyx5 => (intro w hSw; (try dsimp only at hSw); go_simp; first | done | with_reducible rfl)
      (try simp only [Act.put, pu1, pu2, pu3, pu4, pu5, pu6])
      refine wpAnyH_take (i := 6) (v := ?vx6) rfl (by kernel_rfl) (by kernel_rfl) (by kernel_rfl) (fun _ _ _ h => h) (.inl ⟨by rfl, ?hyx6⟩) (by assumption) ?restx6
      case hyx6 => (intro w hSw; (try dsimp only at hSw); go_simp; first | done | with_reducible rfl)
      (try simp only [Act.put, pu1, pu2, pu3, pu4, pu5, pu6])
      refine wpAnyH_take (i := 7) (v := ?vx7) rfl (by kernel_rfl) (by kernel_rfl) (by kernel_rfl) (fun _ _ _ h => h) (.inl ⟨by rfl, ?hyx7⟩) (by assumption) ?restx7
      case hyx7 => (intro w hSw; (try dsimp only at hSw); go_simp; first | done | with_reducible rfl)
      (try simp only [Act.put, pu1, pu2, pu3, pu4, pu5, pu6])
      refine wpAnyH_take (i := 8) (v := undef) rfl (by kernel_rfl) (by kernel_rfl) (by kernel_rfl) (fun _ _ _ h => h) (.inr ⟨by rfl, rfl⟩) (by assumption) ?_
      (try simp only [Act.put, pu1, pu2, pu3, pu4, pu5, pu6])
      refine wpAnyH_take (i := 9) (v := undef) rfl (by kernel_rfl) (by kernel_rfl) (by kernel_rfl) (fun _ _ _ h => h) (.inr ⟨by rfl, rfl⟩) (by assumption) ?_
      (try simp only [Act.put, pu1, pu2, pu3, pu4, pu5, pu6])
      refine wpAnyH_take (i := 10) (v := undef) rfl (by kernel_rfl) (by kernel_rfl) (by kernel_rfl) (fun _ _ _ h => h) (.inr ⟨by rfl, rfl⟩) (by assumption) ?_
      (try simp only [Act.put, pu1, pu2, pu3, pu4, pu5, pu6])
      refine wpAnyH_take (i := 11) (v := undef) rfl (by kernel_rfl) (by kernel_rfl) (by kernel_rfl) (fun _ _ _ h => h) (.inr ⟨by rfl, rfl⟩) (by assumption) ?_
      (try simp only [Act.put, pu1, pu2, pu3, pu4, pu5, pu6])
      refine wpAnyH_take (i := 12) (v := undef) rfl (by kernel_rfl) (by kernel_rfl) (by kernel_rfl) (fun _ _ _ h => h) (.inr ⟨by rfl, rfl⟩) (by assumption) ?_
      (try simp only [Act.put, pu1, pu2, pu3, pu4, pu5, pu6])
      refine wpAnyH_take (i := 13) (v := undef) rfl (by kernel_rfl) (by kernel_rfl) (by kernel_rfl) (fun _ _ _ h => h) (.inr ⟨by rfl, rfl⟩) (by assumption) ?_
      (try simp only [Act.put, pu1, pu2, pu3, pu4, pu5, pu6])
      refine wpAnyH_take (i := 14) (v := undef) rfl (by kernel_rfl) (by kernel_rfl) (by kernel_rfl) (fun _ _ _ h => h) (.inr ⟨by rfl, rfl⟩) (by assumption) ?_
      (try simp only [Act.put, pu1, pu2, pu3, pu4, pu5, pu6])
      refine wpAnyH_take (i := 15) (v := undef) rfl (by kernel_rfl) (by kernel_rfl) (by kernel_rfl) (fun _ _ _ h => h) (.inr ⟨by rfl, rfl⟩) (by assumption) ?_
      (try simp only [Act.put, pu1, pu2, pu3, pu4, pu5, pu6])
      refine wpAnyH_take (i := 16) (v := undef) rfl (by kernel_rfl) (by kernel_rfl) (by kernel_rfl) (fun _ _ _ h => h) (.inr ⟨by rfl, rfl⟩) (by assumption) ?_
      (try simp only [Act.put, pu1, pu2, pu3, pu4, pu5, pu6])
      refine wpAnyH_take (i := 17) (v := undef) rfl (by kernel_rfl) (by kernel_rfl) (by kernel_rfl) (fun _ _ _ h => h) (.inr ⟨by rfl, rfl⟩) (by assumption) ?_
      (try simp only [Act.put, pu1, pu2, pu3, pu4, pu5, pu6])
      refine wpAnyH_take (i := 18) (v := undef) rfl (by kernel_rfl) (by kernel_rfl) (by kernel_rfl) (fun _ _ _ h => h) (.inr ⟨by rfl, rfl⟩) (by assumption) ?_
      (try simp only [Act.put, pu1, pu2, pu3, pu4, pu5, pu6])
      refine wpAnyH_take (i := 19) (v := ?vx19) rfl (by kernel_rfl) (by kernel_rfl) (by kernel_rfl) (fun _ _ _ h => h) (.inl ⟨by rfl, ?hyx19⟩) (by assumption) ?restx19
      case hyx19 => (intro w hSw; (try dsimp only at hSw); go_simp; first | done | with_reducible rfl)
      (try simp only [Act.put, pu1, pu2, pu3, pu4, pu5, pu6])
      refine wpAnyH_done (by kernel_rfl) ?_ _
      go_wp2_with fail
      refine wp_region_held_drew (S := (fun w' => w'.cell? ⟨d, 0, none⟩ = some (.slice a qs.length cap))) (by kernel_rfl) ?_ (fun hHeld => ?_)
      · exact hS0.out _ (Below.refl wr.heap.size wr).drew.drew
      refine wpAnyH_take (i := 0) (v := ?vy0) rfl (by kernel_rfl) (by kernel_rfl) (by kernel_rfl) (fun _ _ _ h => h) (.inl ⟨by rfl, ?hyy0⟩) (by assumption) ?resty0
      case hyy0 => (intro w hSw; (try dsimp only at hSw); go_simp; first | done | with_reducible rfl)
      (try simp only [Act.put, pu1, pu2, pu3, pu4, pu5, pu6])
      refine wpAnyH_take (i := 1) (v := ?vy1) rfl (by kernel_rfl) (by kernel_rfl) (by kernel_rfl) (fun _ _ _ h => h) (.inl ⟨by rfl, ?hyy1⟩) (by assumption) ?resty1
      case hyy1 => (intro w hSw; (try dsimp only at hSw); go_simp; first | done | with_reducible rfl)
      (try simp only [Act.put, pu1, pu2, pu3, pu4, pu5, pu6])
      refine wpAnyH_take (i := 2) (v := ?vy2) rfl (by kernel_rfl) (by kernel_rfl) (by kernel_rfl) (fun _ _ _ h => h) (.inl ⟨by rfl, ?hyy2⟩) (by assumption) ?resty2
      case hyy2 => (intro w hSw; (try dsimp only at hSw); go_simp; first | done | with_reducible rfl)
      (try simp only [Act.put, pu1, pu2, pu3, pu4, pu5, pu6])
      refine wpAnyH_take (i := 3) (v := ?vy3) rfl (by kernel_rfl) (by kernel_rfl) (by kernel_rfl) (fun _ _ _ h => h) (.inl ⟨by rfl, ?hyy3⟩) (by assumption) ?resty3
      case hyy3 => (intro w hSw; (try dsimp only at hSw); go_simp; first | done | with_reducible rfl)
      (try simp only [Act.put, pu1, pu2, pu3, pu4, pu5, pu6])
      refine wpAnyH_take (i := 4) (v := ?vy4) rfl (by kernel_rfl) (by kernel_rfl) (by kernel_rfl) (fun _ _ _ h => h) (.inl ⟨by rfl, ?hyy4⟩) (by assumption) ?resty4
      case hyy4 => (intro w hSw; (try dsimp only at hSw); go_simp; first | done | with_reducible rfl)
      (try simp only [Act.put, pu1, pu2, pu3, pu4, pu5, pu6])
      refine wpAnyH_take (i := 5) (v := ?vy5) rfl (by kernel_rfl) (by kernel_rfl) (by kernel_rfl) (fun _ _ _ h => h) (.inl ⟨by rfl, ?hyy5⟩) (by assumption) ?resty5
      case hyy5 => (intro w hSw; (try dsimp only at hSw); go_simp; first | done | with_reducible rfl)
      (try simp only [Act.put, pu1, pu2, pu3, pu4, pu5, pu6])
      refine wpAnyH_take (i := 6) (v := ?vy6) rfl (by kernel_rfl) (by kernel_rfl) (by kernel_rfl) (fun _ _ _ h => h) (.inl ⟨by rfl, ?hyy6⟩) (by assumption) ?resty6
      case hyy6 => (intro w hSw; (try dsimp only at hSw); go_simp; first | done | with_reducible rfl)
      (try simp only [Act.put, pu1, pu2, pu3, pu4, pu5, pu6])
      refine wpAnyH_take (i := 7) (v := ?vy7) rfl (by kernel_rfl) (by kernel_rfl) (by kernel_rfl) (fun _ _ _ h => h) (.inl ⟨by rfl, ?hyy7⟩) (by assumption) ?resty7
      case hyy7 => (intro w hSw; (try dsimp only at hSw); go_simp; first | done | with_reducible rfl)
      (try simp only [Act.put, pu1, pu2, pu3, pu4, pu5, pu6])
      refine wpAnyH_take (i := 8) (v := ?vy8) rfl (by kernel_rfl) (by kernel_rfl) (by kernel_rfl) (fun _ _ _ h => h) (.inl ⟨by rfl, ?hyy8⟩) (by assumption) ?resty8
      case hyy8 => (intro w hSw; (try dsimp only at hSw); go_simp; first | done | with_reducible rfl)
      (try simp only [Act.put, pu1, pu2, pu3, pu4, pu5, pu6])
      refine wpAnyH_take (i := 9) (v := undef) rfl (by kernel_rfl) (by kernel_rfl) (by kernel_rfl) (fun _ _ _ h => h) (.inr ⟨by rfl, rfl⟩) (by assumption) ?_
      (try simp only [Act.put, pu1, pu2, pu3, pu4, pu5, pu6])
      refine wpAnyH_take (i := 10) (v := undef) rfl (by kernel_rfl) (by kernel_rfl) (by kernel_rfl) (fun _ _ _ h => h) (.inr ⟨by rfl, rfl⟩) (by assumption) ?_
      (try simp only [Act.put, pu1, pu2, pu3, pu4, pu5, pu6])
      refine wpAnyH_take (i := 11) (v := undef) rfl (by kernel_rfl) (by kernel_rfl) (by kernel_rfl) (fun _ _ _ h => h) (.inr ⟨by rfl, rfl⟩) (by assumption) ?_
      (try simp only [Act.put, pu1, pu2, pu3, pu4, pu5, pu6])
      refine wpAnyH_take (i := 12) (v := undef) rfl (by kernel_rfl) (by kernel_rfl) (by kernel_rfl) (fun _ _ _ h => h) (.inr ⟨by rfl, rfl⟩) (by assumption) ?_
      (try simp only [Act.put, pu1, pu2, pu3, pu4, pu5, pu6])
      refine wpAnyH_take (i := 13) (v := undef) rfl (by kernel_rfl) (by kernel_rfl) (by kernel_rfl) (fun _ _ _ h => h) (.inr ⟨by rfl, rfl⟩) (by assumption) ?_
      (try simp only [Act.put, pu1, pu2, pu3, pu4, pu5, pu6])
      refine wpAnyH_take (i := 14) (v := undef) rfl (by kernel_rfl) (by kernel_rfl) (by kernel_rfl) (fun _ _ _ h => h) (.inr ⟨by rfl, rfl⟩) (by assumption) ?_
      (try simp only [Act.put, pu1, pu2, pu3, pu4, pu5, pu6])
      refine wpAnyH_take (i := 15) (v := undef) rfl (by kernel_rfl) (by kernel_rfl) (by kernel_rfl) (fun _ _ _ h => h) (.inr ⟨by rfl, rfl⟩) (by assumption) ?_
      (try simp only [Act.put, pu1, pu2, pu3, pu4, pu5, pu6])
      refine wpAnyH_take (i := 16) (v := undef) rfl (by kernel_rfl) (by kernel_rfl) (by kernel_rfl) (fun _ _ _ h => h) (.inr ⟨by rfl, rfl⟩) (by assumption) ?_
      (try simp only [Act.put, pu1, pu2, pu3, pu4, pu5, pu6])
      refine wpAnyH_take (i := 17) (v := undef) rfl (by kernel_rfl) (by kernel_rfl) (by kernel_rfl) (fun _ _ _ h => h) (.inr ⟨by rfl, rfl⟩) (by assumption) ?_
      (try simp only [Act.put, pu1, pu2, pu3, pu4, pu5, pu6])
      refine wpAnyH_take (i := 18) (v := undef) rfl (by kernel_rfl) (by kernel_rfl) (by kernel_rfl) (fun _ _ _ h => h) (.inr ⟨by rfl, rfl⟩) (by assumption) ?_
      (try simp only [Act.put, pu1, pu2, pu3, pu4, pu5, pu6])
      refine wpAnyH_take (i := 19) (v := ?vy19) rfl (by kernel_rfl) (by kernel_rfl) (by kernel_rfl) (fun _ _ _ h => h) (.inl ⟨by rfl, ?hyy19⟩) (by assumption) ?resty19
      case hyy19 => (intro w hSw; (try dsimp only at hSw); go_simp; first | done | with_reducible rfl)
      (try simp only [Act.put, pu1, pu2, pu3, pu4, pu5, pu6])
      refine wpAnyH_take (i := 20) (v := ?vy20) rfl (by kernel_rfl) (by kernel_rfl) (by kernel_rfl) (fun _ _ _ h => h) (.inl ⟨by rfl, ?hyy20⟩) (by assumption) ?resty20
      case hyy20 => (intro w hSw; (try dsimp only at hSw); go_simp; first | done | with_reducible rfl)
      (try simp only [Act.put, pu1, pu2, pu3, pu4, pu5, pu6])
      refine wpAnyH_take (i := 21) (v := ?vy21) rfl (by kernel_rfl) (by kernel_rfl) (by kernel_rfl) (fun _ _ _ h => h) (.inl ⟨by rfl, ?hyy21⟩) (by assumption) ?resty21
      case hyy21 => (intro w hSw; (try dsimp only at hSw); go_simp; first | done | with_reducible rfl)
      (try simp only [Act.put, pu1, pu2, pu3, pu4, pu5, pu6])
      refine wpAnyH_done (by kernel_rfl) ?_ _
      go_wp2
      go_ret2
      exact ⟨qs.length, false, rfl, Nat.le_refl _, hloH.out, (fun p hp => (by simp at hp)), ⟨(fun h => (by cases h)), (fun ⟨p, hp, _⟩ => (by simp at hp))⟩, hbww.out.drew.drew⟩
end Go.Proofs.Ytgmdbpplfjkjmaa

/-! The document's map of layer 5: Get. -/
namespace Go.Proofs.Ytgmdbpplfjkjmaa
open Go.RowKit
set_option linter.unusedVariables false
set_option linter.unusedSimpArgs false

theorem results_row_tmp {P : Program} {fn : Func} {p u : Tmp} {ty : TypeId} (h : fn.results = #[.cell p ty, .tmp u]) (tmps : Array Value) (w : World) (g : Nat) (t : TypeId) (cs : Array Value) (fr : Nat × Nat) (d : TypeDesc)
    (hp : tmps.getD p undef = .pointer (some ⟨g, 0, none⟩)) (hg : w.heap[g]? = some (.cells cs t fr))
    (hu : P.underlying ty = some d) (hd : (match d with | .struct _ | .array _ _ => true | _ => false) = true) (hi : (P.info? ty).map (·.size) = some cs.size) :
    (results fn tmps).run P w = .ok (.tuple #[.agg cs, tmps.getD u undef]) w := by
  have hp' : tmps[p]?.getD undef = .pointer (some ⟨g, 0, none⟩) := by simpa using hp
  simp [results, h, hp', asAddr, run_loadVar_row w g t ty cs fr d hg hu hd hi, Sem.run_bind, Result.andThen]
theorem results_row_tmp2 {P : Program} {fn : Func} {p u v : Tmp} {ty : TypeId} (h : fn.results = #[.cell p ty, .tmp u, .tmp v]) (tmps : Array Value) (w : World) (g : Nat) (t : TypeId) (cs : Array Value) (fr : Nat × Nat) (d : TypeDesc)
    (hp : tmps.getD p undef = .pointer (some ⟨g, 0, none⟩)) (hg : w.heap[g]? = some (.cells cs t fr))
    (hu : P.underlying ty = some d) (hd : (match d with | .struct _ | .array _ _ => true | _ => false) = true) (hi : (P.info? ty).map (·.size) = some cs.size) :
    (results fn tmps).run P w = .ok (.tuple #[.agg cs, tmps.getD u undef, tmps.getD v undef]) w := by
  have hp' : tmps[p]?.getD undef = .pointer (some ⟨g, 0, none⟩) := by simpa using hp
  simp [results, h, hp', asAddr, run_loadVar_row w g t ty cs fr d hg hu hd hi, Sem.run_bind, Result.andThen]
theorem close_row {w X : World} {rb : Nat} {T : TypeId} {old cs : Array Value} (hrb : w.heap.size ≤ rb) (hX : X.heap[rb]? = some (.cells old T (0, 0))) (hb : Below w.heap.size w X) :
    (X.setRow rb cs).heap[rb]? = some (.cells cs T (0, 0)) ∧ Below w.heap.size w (X.setRow rb cs) :=
  ⟨setRow_heap X rb old _ _ _ hX, hb.trans ⟨rfl, rfl, rfl, by rw [setRow_size]; exact Nat.le_refl _, fun k hk => setRow_other X rb k _ (by omega)⟩⟩
/-- Keys that rise. -/
def riseQ (qs : List QE) : Prop := qs.Pairwise fun p q => cmpV (builtV p.k) (builtV q.k) = -1
theorem place_not {qs : List QE} (hr : riseQ qs) {v : Val} {i : Nat} (hi : i ≤ qs.length) (h1 : ∀ (j : Nat) q, j < i → qs[j]? = some q → cmpV (builtV q.k) v < 0) (h2 : ∀ q, qs[i]? = some q → ¬ cmpV (builtV q.k) v < 0) (h3 : ¬ ∃ q, qs[i]? = some q ∧ builtV q.k = v) :
    ∀ q ∈ qs, builtV q.k ≠ v := fun q hq e => by
  obtain ⟨j, hj⟩ := List.mem_iff_getElem?.1 hq
  rcases Nat.lt_trichotomy j i with h | rfl | h
  · have := h1 j q h hj; rw [e, cmpV_self] at this; omega
  · exact h3 ⟨q, hj, e⟩
  · obtain ⟨p, hp⟩ : ∃ p, qs[i]? = some p := ⟨_, List.getElem?_eq_getElem (by have := (List.getElem?_eq_some_iff.1 hj).1; omega)⟩
    have h4 := h2 p hp
    obtain ⟨hi', rfl⟩ := List.getElem?_eq_some_iff.1 hp
    obtain ⟨hj', rfl⟩ := List.getElem?_eq_some_iff.1 hj
    have := List.pairwise_iff_getElem.1 hr i j hi' hj' h
    rw [e] at this
    omega
def DGetEnd (qs : List QE) (v : Val) (w : World) (e : Ending) (w' : World) : Prop :=
  ((∃ q ∈ qs, builtV q.k = v ∧ okB v = true ∧ e = .returned (.tuple #[.agg q.vc.toArray, .bool true])) ∨ ((okB v = true → ∀ q ∈ qs, builtV q.k ≠ v) ∧ e = .returned (.tuple #[.agg zeroCells, .bool false]))) ∧ Below w.heap.size w w'
set_option maxRecDepth 100000 in
set_option maxHeartbeats 3200000 in
theorem dget_said {w0 w : World} {d : Nat} {sv : Value} {qs : List QE} (h : DocM w0 w d sv qs) (hr : riseQ qs) {t : Term} {cs : List Value} (ht : TRep w0 t cs) :
    Calls Try.prog 23 #[.pointer (some ⟨d, 0, none⟩), .agg cs.toArray] w (DGetEnd qs (builtV t) w) := by
  have hlen := TRep.len ht
  have hones := TRep.ones ht
  obtain ⟨c0, c1, c2, c3, c4, c5, c6, c7, c8, c9, c10, rfl⟩ := eleven hlen
  have hH := Lib.hid h
  have hrH := Lib.hid hr
  have htH := Lib.hid ht
  obtain ⟨bx, hbx⟩ : ∃ b, b = w.heap.size := ⟨_, rfl⟩
  obtain ⟨rb, hrb⟩ : ∃ b, b = w.heap.size + 1 := ⟨_, rfl⟩
  obtain ⟨W, hW⟩ : ∃ W, W = (w.alloc (.cells #[c0, c1, c2, c3, c4, c5, c6, c7, c8, c9, c10] 31)).alloc (.cells zeroCells 31) := ⟨_, rfl⟩
  have hbW : Below w.heap.size w W := by rw [hW]; exact ((Below.refl _ _).alloc (Nat.le_refl _) _).alloc (by simp) _
  have hbxW : W.heap[bx]? = some (.cells #[c0, c1, c2, c3, c4, c5, c6, c7, c8, c9, c10] 31 (0, 0)) := by rw [hW, hbx]; exact (Below.heap_alloc _ _ _ (by simp)).trans (heap_alloc_new w _)
  have hrbW : W.heap[rb]? = some (.cells zeroCells 31 (0, 0)) := by rw [hW, hrb]; exact heap_alloc_at _ (by simp)
  have hDH := Lib.hid (h.below hbW)
  have hbxc : ∀ X, Below W.heap.size W X → ∀ j, X.cell? ⟨bx, j, none⟩ = #[c0, c1, c2, c3, c4, c5, c6, c7, c8, c9, c10][j]? := fun X hX j => (hX.cell (p := ⟨bx, j, none⟩) (Array.getElem?_eq_some_iff.1 hbxW).1).trans (cell_of_row W bx j _ _ _ hbxW)
  have hbxcH := Lib.hid hbxc
  have hrbX := Lib.hid (show ∀ X, Below W.heap.size W X → X.heap[rb]? = some (.cells zeroCells 31 (0, 0)) from fun X hX => (hX.block rb (Array.getElem?_eq_some_iff.1 hrbW).1).trans hrbW)
  have hclose := Lib.hid (show ∀ X cs', Below W.heap.size W X → (X.setRow rb cs').heap[rb]? = some (.cells cs' 31 (0, 0)) ∧ Below w.heap.size w (X.setRow rb cs') from fun X cs' hX => close_row (by omega) ((hX.block rb (Array.getElem?_eq_some_iff.1 hrbW).1).trans hrbW) (hbW.trans (hX.mono hbW.size)))
  have hck0 := refCheck_any t _ W (TRep.keep (keeps_of_below (h.bel.trans (hbW.mono h.bel.size))) _ _ ht)
  have hzero := Lib.hid (all_one (TRep.ones (leaf_rep w 0 false 0 0 ⟨#[]⟩ 0 (by rfl) (by rfl) (by rfl) (by simp [maxLen, ByteArray.size]) (by rfl))))
  have hWH := Lib.hid hW
  have hbx2 := Lib.hid hbx
  have hrb2 := Lib.hid hrb
  have x0 := hbxc W (Below.refl _ _) 0
  have x1 := hbxc W (Below.refl _ _) 1
  have x2 := hbxc W (Below.refl _ _) 2
  have x3 := hbxc W (Below.refl _ _) 3
  have x4 := hbxc W (Below.refl _ _) 4
  have x5 := hbxc W (Below.refl _ _) 5
  have x6 := hbxc W (Below.refl _ _) 6
  have x7 := hbxc W (Below.refl _ _) 7
  have x8 := hbxc W (Below.refl _ _) 8
  have x9 := hbxc W (Below.refl _ _) 9
  have x10 := hbxc W (Below.refl _ _) 10
  simp only [List.getElem?_cons_zero, List.getElem?_cons_succ, List.getElem?_toArray, Nat.add_zero, Nat.reduceAdd] at x0 x1 x2 x3 x4 x5 x6 x7 x8 x9 x10
  obtain ⟨v, hv⟩ : ∃ v, v = builtV t := ⟨_, rfl⟩
  rw [← hv] at hck0 ⊢
  have hvH := Lib.hid hv
  clear h hr ht hW hbxW hrbW hbW hbx hrb hbxc hv
  cases hok : okB v with
  | false =>
    have hne : (whyF v != 0) = true := by simpa using why_bad hok
    have hck2 : Hid (Calls Try.prog 76 #[.agg #[c0, c1, c2, c3, c4, c5, c6, c7, c8, c9, c10]] W fun e w' => e = .returned (.tuple #[.int .i64 (checkF v).1, .int .i64 (whyF v)]) ∧ Below W.heap.size W w') := Lib.hid hck0
    have hokH := Lib.hid hok
    clear hck0 hok
    go_enter Try.func23, Try.ntmps23
    go_wp2_with fail
    rw [← hrb2.out, ← hbx2.out]
    rw [show (w.alloc (Obj.cells #[c0, c1, c2, c3, c4, c5, c6, c7, c8, c9, c10] 31)).alloc (Obj.cells #[.int .i64 0, .bool false, .int .i64 0, .float .f64 0, .string ⟨#[]⟩, .slice none 0 0, .int .u64 0, .slice none 0 0, .slice none 0 0, .string ⟨#[]⟩, .int .i64 0] 31) = W from hWH.out.symm]
    refine hck2.out.mono ?_
    rintro e w1 ⟨rfl, hb1⟩
    have hrb1 := hrbX.out w1 hb1
    have hcl := Lib.hid (hclose.out w1 zeroCells hb1)
    clear x0 x1 x2 x3 x4 x5 x6 x7 x8 x9 x10 hb1
    go_wp2_with (refine wpList_store_row rfl 31 (.tmp 4) _ rfl rb zeroCells rfl rfl 31 zeroCells hrb1 termSize rfl hzero.out ?_)
    (try simp only [Exit.inBlock, Exit.then])
    refine bodyPost_ret (results_row_tmp rfl _ _ rb 31 _ (0, 0) _ rfl hcl.out.1 Try.underlying31 rfl termSize) rfl ?_
    exact ⟨.inr ⟨fun h => (by rw [hokH.out] at h; cases h), rfl⟩, hcl.out.2⟩
  | true =>
    rw [check_ok hok] at hck0
    have hck3 := Lib.hid hck0
    have hokH := Lib.hid hok
    have hpl := Lib.hid (fun X (hX : Below W.heap.size W X) => dplace_said (hDH.out.below hX) htH.out (by rw [← hvH.out]; exact hok))
    rw [← hvH.out] at hpl
    clear hck0 hok
    go_enter Try.func23, Try.ntmps23
    go_wp2_with fail
    rw [← hrb2.out, ← hbx2.out]
    rw [show (w.alloc (Obj.cells #[c0, c1, c2, c3, c4, c5, c6, c7, c8, c9, c10] 31)).alloc (Obj.cells #[.int .i64 0, .bool false, .int .i64 0, .float .f64 0, .string ⟨#[]⟩, .slice none 0 0, .int .u64 0, .slice none 0 0, .slice none 0 0, .string ⟨#[]⟩, .int .i64 0] 31) = W from hWH.out.symm]
    refine hck3.out.mono ?_
    rintro e w1 ⟨rfl, hb1⟩
    clear x0 x1 x2 x3 x4 x5 x6 x7 x8 x9 x10
    have x0 := hbxcH.out w1 hb1 0
    have x1 := hbxcH.out w1 hb1 1
    have x2 := hbxcH.out w1 hb1 2
    have x3 := hbxcH.out w1 hb1 3
    have x4 := hbxcH.out w1 hb1 4
    have x5 := hbxcH.out w1 hb1 5
    have x6 := hbxcH.out w1 hb1 6
    have x7 := hbxcH.out w1 hb1 7
    have x8 := hbxcH.out w1 hb1 8
    have x9 := hbxcH.out w1 hb1 9
    have x10 := hbxcH.out w1 hb1 10
    simp only [List.getElem?_cons_zero, List.getElem?_cons_succ, List.getElem?_toArray, Nat.add_zero, Nat.reduceAdd] at x0 x1 x2 x3 x4 x5 x6 x7 x8 x9 x10
    have hb1H := Lib.hid hb1
    clear hb1
    go_wp2_with fail
    refine (hpl.out w1 hb1H.out).mono ?_
    rintro e w2 ⟨i, Bo, rfl, hi, h1, h2, h3, hb2⟩
    have hbw2 := Lib.hid (hb1H.out.trans (hb2.mono hb1H.out.size))
    have hrb1 := hrbX.out w2 hbw2.out
    clear x0 x1 x2 x3 x4 x5 x6 x7 x8 x9 x10 hb2
    cases Bo with
    | false =>
      have hcl := Lib.hid (hclose.out w2 zeroCells hbw2.out)
      have hnot := Lib.hid (place_not hrH.out hi h1 h2 (fun h => by have := h3.2 h; cases this))
      clear h1 h2 h3
      go_wp2_with (refine wpList_store_row rfl 31 (.tmp 4) _ rfl rb zeroCells rfl rfl 31 zeroCells hrb1 termSize rfl hzero.out ?_)
      (try simp only [Exit.inBlock, Exit.then])
      refine bodyPost_ret (results_row_tmp rfl _ _ rb 31 _ (0, 0) _ rfl hcl.out.1 Try.underlying31 rfl termSize) rfl ?_
      exact ⟨.inr ⟨fun _ => hnot.out, rfl⟩, hcl.out.2⟩
    | true =>
      obtain ⟨q, hq, hqv⟩ := h3.1 rfl
      have hil := (List.getElem?_eq_some_iff.1 hq).1
      have hD2 := hDH.out.below hbw2.out
      obtain ⟨a, cap, rfl, hcap, hmax, -, hform⟩ := ownsRow_form hD2.row
      unfold maxLen at hmax
      rcases hform with ⟨-, h0, -⟩ | ⟨g, rfl, hg1, hgs, hgl, hrc⟩
      · omega
      have hdc : w2.cell? ⟨d, 0, none⟩ = some (.slice (some ⟨g, 0, none⟩) qs.length cap) := by rw [cell_of_row w2 d 0 _ _ _ hD2.cell]; rfl
      have hwide := hD2.ok.wide
      obtain ⟨-, f2⟩ := flatQ_at hwide hq
      have hvc := (hwide q (List.mem_of_getElem? hq)).2
      have hqm := Lib.hid (List.mem_of_getElem? hq)
      have hqvH := Lib.hid hqv
      have hone := TRep.ones (hD2.ok q (List.mem_of_getElem? hq)).2.1
      have hrow : ∀ j, j < 11 → w2.cell? ⟨g, i * 22 + 11 + j, none⟩ = q.vc[j]? := fun j hj => (hrc (i * 22 + 11 + j) (by omega)).trans (f2 j hj)
      obtain ⟨vc, hvcq⟩ : ∃ vc, vc = q.vc := ⟨_, rfl⟩
      have hvcH := Lib.hid hvcq
      rw [← hvcq] at hvc hrow hone
      obtain ⟨d0, d1, d2, d3, d4, d5, d6, d7, d8, d9, d10, rfl⟩ := eleven hvc
      have q0 := hrow 0 (by omega)
      have q1 := hrow 1 (by omega)
      have q2 := hrow 2 (by omega)
      have q3 := hrow 3 (by omega)
      have q4 := hrow 4 (by omega)
      have q5 := hrow 5 (by omega)
      have q6 := hrow 6 (by omega)
      have q7 := hrow 7 (by omega)
      have q8 := hrow 8 (by omega)
      have q9 := hrow 9 (by omega)
      have q10 := hrow 10 (by omega)
      simp only [List.getElem?_cons_zero, List.getElem?_cons_succ, List.getElem?_toArray, Nat.add_zero, Nat.reduceAdd] at q0 q1 q2 q3 q4 q5 q6 q7 q8 q9 q10
      have hcl := Lib.hid (hclose.out w2 #[d0, d1, d2, d3, d4, d5, d6, d7, d8, d9, d10] hbw2.out)
      have hil2 : (i : Int) < (qs.length : Int) := by omega
      clear h1 h2 h3 hq hD2 hrc hwide f2 hrow hvcq hqv hgl
      go_wp2_with (refine wpList_store_row rfl 31 (.tmp 4) _ rfl rb #[d0, d1, d2, d3, d4, d5, d6, d7, d8, d9, d10] rfl rfl 31 zeroCells hrb1 termSize rfl (all_one hone) ?_)
      (try simp only [Exit.inBlock, Exit.then])
      refine bodyPost_ret (results_row_tmp rfl _ _ rb 31 _ (0, 0) _ rfl hcl.out.1 Try.underlying31 rfl termSize) rfl ?_
      exact ⟨.inl ⟨q, hqm.out, hqvH.out, hokH.out, by rw [← hvcH.out]; rfl⟩, hcl.out.2⟩
end Go.Proofs.Ytgmdbpplfjkjmaa
