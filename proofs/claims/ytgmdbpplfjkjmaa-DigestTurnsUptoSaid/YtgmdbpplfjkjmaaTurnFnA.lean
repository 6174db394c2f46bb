/- DigestTurns' first closure: two plain terms more. -/
import Derived.Test.YtgmdbpplfjkjmaaTurnsLaw
import Derived.Test.YtgmdbpplfjkjmaaRowsT
import Derived.Laws.CopyRow
import Derived.Lib.AppendZeros
import Derived.Test.YtgmdbpplfjkjmaaIs
import Derived.Test.YtgmdbpplfjkjmaaPlainEnd
import Derived.Test.YtgmdbpplfjkjmaaBuiltEnd
namespace Go.Proofs.Ytgmdbpplfjkjmaa
open Go.RowKit
set_option linter.unusedVariables false
set_option linter.unusedSimpArgs false

/-- A struct is stored into a row at a place of its own. -/
theorem wp_store_at {P : Program} {o : Oper} {a : Act} {w : World} {K : Act → World → Prop} {Q : Exit → Act → World → Prop} (ty : TypeId) (x y : Operand) (ho : o.op = .store ty x y)
    (g k : Nat) (cs : List Value) (hx : a.eval x = .pointer (some ⟨g, k, none⟩)) (hy : a.eval y = .agg cs.toArray)
    (t : TypeId) (cur : Array Value) (hg : w.heap[g]? = some (.cells cur t (0, 0))) (hi : (P.info? ty).map (·.size) = some cs.length)
    (hfit : k + cs.length ≤ cur.size) (h1 : ∀ u ∈ cs, u.oneCell' = true)
    (h : K (a.put o.dst undef) (w.setRow g (cur.toList.take k ++ cs ++ cur.toList.drop (k + cs.length)).toArray)) : o.wp P a w K Q := by
  have hst := run_storeCells_at P g k t cs 0 cur w hg (by simpa using hfit) h1
  simp only [Nat.add_zero] at hst
  cases hq : P.info? ty with
  | none => simp [hq] at hi
  | some i =>
    have hs : cs.length = i.size := by simp [hq] at hi; omega
    have hr : (storeVar ty ⟨g, k, none⟩ (.agg cs.toArray)).run P w = .ok () (w.setRow g (cur.toList.take k ++ cs ++ cur.toList.drop (k + cs.length)).toArray) := by
      simp [storeVar, sizeOf, typeInfo, hq, Value.cells, hs]
      simpa [hs] using hst
    unfold Oper.wp execOp
    simp only [ho, hx, hy, Instr.storeAt, Instr.sureAddr, Sem.run_bind, Sem.run_pure, Result.andThen_ok, hr]
    exact h
theorem row_at_part {w : World} {B : Nat} {T : TypeId} {size g cap n : Nat} {xs : List Value} (h : w.ownsRow B T size (.slice (some ⟨g, 0, none⟩) n cap) n xs) (k : Nat) (cs : List Value) (hk : k + cs.length ≤ n * size) :
    ∃ cur, w.heap[g]? = some (.cells cur T (0, 0)) ∧ k + cs.length ≤ cur.size ∧ (w.setRow g (cur.toList.take k ++ cs ++ cur.toList.drop (k + cs.length)).toArray).ownsRow B T size (.slice (some ⟨g, 0, none⟩) n cap) n (xs.take k ++ cs ++ xs.drop (k + cs.length)) := by
  obtain ⟨hl, ⟨h1, -⟩ | ⟨g', cap', cur, h1, hB, hc, hn, hm, hs, ht⟩⟩ := h
  · cases h1
  · obtain ⟨rfl, rfl⟩ : g' = g ∧ cap' = cap := by
      injection h1 with e1 e2 e3
      injection e1 with e4
      injection e4 with e5
      exact ⟨e5.symm, e3.symm⟩
    have hsz : n * size ≤ cap' * size := Nat.mul_le_mul_right _ hn
    have hcl : cur.toList.length = cap' * size := by rw [Array.length_toList, hs]
    refine ⟨cur, hc, by omega, ?_, .inr ⟨g', cap', _, rfl, hB, setRow_heap w g' cur _ _ _ hc, hn, hm, ?_, ?_⟩⟩
    · simp only [List.length_append, List.length_take, List.length_drop]; omega
    · simp only [List.size_toArray, List.length_append, List.length_take, List.length_drop]; omega
    · show List.take (n * size) (cur.toList.take k ++ cs ++ cur.toList.drop (k + cs.length)) = _
      obtain ⟨N, hN⟩ : ∃ N, N = n * size := ⟨_, rfl⟩
      rw [← hN] at hk ht hl hsz ⊢
      have e1 : (cur.toList.take k ++ cs).length = k + cs.length := by rw [List.length_append, List.length_take, hcl]; omega
      rw [← ht, List.take_take, Nat.min_eq_left (by omega), List.drop_take, List.take_append, List.take_of_length_le (l := cur.toList.take k ++ cs) (by omega), e1]
def zero22 : List Value := [.int .i64 0, .bool false, .int .i64 0, .float .f64 0, .string ⟨#[]⟩, .slice none 0 0, .int .u64 0, .slice none 0 0, .slice none 0 0, .string ⟨#[]⟩, .int .i64 0, .int .i64 0, .bool false, .int .i64 0, .float .f64 0, .string ⟨#[]⟩, .slice none 0 0, .int .u64 0, .slice none 0 0, .slice none 0 0, .string ⟨#[]⟩, .int .i64 0]
theorem run_build2 (W : World) : (Instr.buildSlice 22 2 #[(0, .agg #[.int .i64 0, .bool false, .int .i64 0, .float .f64 0, .string ⟨#[]⟩, .slice none 0 0, .int .u64 0, .slice none 0 0, .slice none 0 0, .string ⟨#[]⟩, .int .i64 0]), (1, .agg #[.int .i64 0, .bool false, .int .i64 0, .float .f64 0, .string ⟨#[]⟩, .slice none 0 0, .int .u64 0, .slice none 0 0, .slice none 0 0, .string ⟨#[]⟩, .int .i64 0])]).run Try.prog W = .ok (.slice (some ⟨W.heap.size, 0, none⟩) 2 2) (W.alloc (.cells #[.int .i64 0, .bool false, .int .i64 0, .float .f64 0, .string ⟨#[]⟩, .slice none 0 0, .int .u64 0, .slice none 0 0, .slice none 0 0, .string ⟨#[]⟩, .int .i64 0, .int .i64 0, .bool false, .int .i64 0, .float .f64 0, .string ⟨#[]⟩, .slice none 0 0, .int .u64 0, .slice none 0 0, .slice none 0 0, .string ⟨#[]⟩, .int .i64 0] 31)) := by kernel_rfl
/-- A world behind w4 where the row g and the box lb turned alone. -/
structure Touch (w4 Y : World) (g lb : Nat) (row : Array Value) (s : Value) : Prop where
  os : Y.os = w4.os
  tape : Y.tape = w4.tape
  output : Y.output = w4.output
  size : Y.heap.size = w4.heap.size
  hg : Y.heap[g]? = some (.cells row 31 (0, 0))
  hl : Y.heap[lb]? = some (.cells #[s] 22 (0, 0))
  oth : ∀ k, k ≠ g → k ≠ lb → Y.heap[k]? = w4.heap[k]?
  ne : g ≠ lb
section
variable {w4 Y : World} {g lb : Nat} {ro : Array Value} {s : Value}
theorem Touch.row (h : Touch w4 Y g lb ro s) (row' : Array Value) : Touch w4 (Y.setRow g row') g lb row' s :=
  ⟨h.os, h.tape, h.output, by rw [setRow_size]; exact h.size, setRow_heap Y g _ _ _ _ h.hg, (setRow_other Y g lb _ h.ne.symm).trans h.hl, fun k h1 h2 => (setRow_other Y g k _ h1).trans (h.oth k h1 h2), h.ne⟩
theorem Touch.cell (h : Touch w4 Y g lb ro s) (s' : Value) : Touch w4 (Y.setCell ⟨lb, 0, none⟩ s') g lb ro s' :=
  ⟨h.os, h.tape, h.output, by rw [size_setCell]; exact h.size, (Below.heap_setCell Y ⟨lb, 0, none⟩ _ g h.ne).trans h.hg, setCell_block h.hl 0 _, fun k h1 h2 => (Below.heap_setCell Y ⟨lb, 0, none⟩ _ k h2).trans (h.oth k h1 h2), h.ne⟩
end
theorem add_rows {w4 : World} {N g cap n : Nat} {xs cs ds : List Value} (hown : w4.ownsRow N 31 11 (.slice (some ⟨g, 0, none⟩) (n + 2) cap) (n + 2) (xs ++ zero22)) (hxs : xs.length = n * 11) (hc : cs.length = 11) (hd : ds.length = 11) :
    ∃ r4 r5 r6 : Array Value, w4.heap[g]? = some (.cells r4 31 (0, 0)) ∧ r5 = (r4.toList.take (n * 11) ++ cs ++ r4.toList.drop (n * 11 + cs.length)).toArray ∧ r6 = (r5.toList.take ((n + 1) * 11) ++ ds ++ r5.toList.drop ((n + 1) * 11 + ds.length)).toArray ∧
      n * 11 + cs.length ≤ r4.size ∧ (n + 1) * 11 + ds.length ≤ r5.size ∧ ∀ X : World, X.heap[g]? = some (.cells r6 31 (0, 0)) → X.ownsRow N 31 11 (.slice (some ⟨g, 0, none⟩) (n + 2) cap) (n + 2) (xs ++ cs ++ ds) := by
  obtain ⟨r4, a1, a2, a3⟩ := row_at_part hown (n * 11) cs (by rw [hc]; omega)
  obtain ⟨r5, b1, b2, b3⟩ := row_at_part a3 ((n + 1) * 11) ds (by rw [hd]; omega)
  have e5 := setRow_heap w4 g _ (r4.toList.take (n * 11) ++ cs ++ r4.toList.drop (n * 11 + cs.length)).toArray _ _ a1
  rw [e5] at b1
  obtain rfl : (r4.toList.take (n * 11) ++ cs ++ r4.toList.drop (n * 11 + cs.length)).toArray = r5 := by injection b1 with b1; injection b1
  refine ⟨r4, _, _, a1, rfl, rfl, a2, b2, fun X hX => ?_⟩
  have e6 := setRow_heap (w4.setRow g (r4.toList.take (n * 11) ++ cs ++ r4.toList.drop (n * 11 + cs.length)).toArray) g _ ((r4.toList.take (n * 11) ++ cs ++ r4.toList.drop (n * 11 + cs.length)).toArray.toList.take ((n + 1) * 11) ++ ds ++ (r4.toList.take (n * 11) ++ cs ++ r4.toList.drop (n * 11 + cs.length)).toArray.toList.drop ((n + 1) * 11 + ds.length)).toArray _ _ e5
  have h7 := ownsRow_keep (w' := X) b3 (fun b hb => by
    have e : b = g := by simpa [ownL, Value.ownBlock] using hb
    rw [e, hX, e6])
  have hz : zero22.length = 22 := rfl
  have e1 : (xs ++ zero22).take (n * 11) = xs := List.take_left' hxs
  have e2 : (xs ++ zero22).drop (n * 11 + cs.length) = zero22.drop 11 := by rw [hc, ← hxs, List.drop_append]; simp
  rw [e1, e2] at h7
  have e3 : (xs ++ cs ++ zero22.drop 11).take ((n + 1) * 11) = xs ++ cs := List.take_left' (by rw [List.length_append, hxs, hc]; omega)
  have e4 : (xs ++ cs ++ zero22.drop 11).drop ((n + 1) * 11 + ds.length) = [] := List.drop_eq_nil_of_le (by rw [List.length_append, List.length_append, hxs, hc, hd, List.length_drop, hz]; omega)
  rw [e3, e4, List.append_nil] at h7
  exact h7
/-- What the closure leaves: the list has two terms more. -/
def AddEnd (B N lb n : Nat) (ts : List Term) (sv : Value) (t1 t2 : Term) (W X : World) : Prop :=
  ∃ sv' xs', X.heap[lb]? = some (.cells #[sv'] 22 (0, 0)) ∧ X.ownsRow B 31 11 sv' (n + 2) xs' ∧ TsRep (only X (NotOwn N sv')) (ts ++ [t1, t2]) xs' ∧ But (fun b => b = lb ∨ b ∈ ownL sv) W X ∧ ∀ b ∈ ownL sv', b ∈ ownL sv ∨ W.heap.size ≤ b
theorem add_done {W w3 w4 X : World} {B N lb n g cap : Nat} {ts : List Term} {sv : Value} {xs cs ds : List Value} {t1 t2 : Term} {r6 : Array Value} (hrow : W.ownsRow B 31 11 sv n xs) (hts : TsRep (only W (NotOwn N sv)) ts xs) (hlb : lb < N) (hN : N ≤ W.heap.size) (hb3 : Below W.heap.size W w3)
    (ht1 : TRep (only w3 (fun b => W.heap.size ≤ b)) t1 cs) (ht2 : TRep (only w3 (fun b => W.heap.size ≤ b)) t2 ds) (hgr : w3.grownBy w4 sv.ownBlock) (hat : sv.ownBlock = some g ∨ g = w3.heap.size) (hT : Touch w4 X g lb r6 (.slice (some ⟨g, 0, none⟩) (n + 2) cap))
    (hrows : ∀ Y : World, Y.heap[g]? = some (.cells r6 31 (0, 0)) → Y.ownsRow B 31 11 (.slice (some ⟨g, 0, none⟩) (n + 2) cap) (n + 2) (xs ++ cs ++ ds)) : AddEnd B N lb n ts sv t1 t2 W X := by
  have hlt : ∀ b, sv.ownBlock = some b → B ≤ b ∧ b < W.heap.size := fun b e => ownsRow_lt hrow b (ownL_some.2 e)
  have hs3 := hb3.size
  have hold : ∀ b, b < w3.heap.size → b ≠ lb → sv.ownBlock ≠ some b → X.heap[b]? = w3.heap[b]? := fun b hb h1 h2 => by
    have hne : b ≠ g := fun e => by
      rcases hat with h | h
      · exact h2 (by rw [h, e])
      · omega
    exact (hT.oth b hne h1).trans (hgr.block b hb (fun e => h2 e.symm))
  have hno : ∀ b, b < w3.heap.size → N ≤ b → sv.ownBlock ≠ some b → NotOwn N (.slice (some ⟨g, 0, none⟩) (n + 2) cap) b := fun b hb h1 h2 => ⟨h1, fun e => by
    have e' : b = g := by simpa [Value.ownBlock, eq_comm] using e
    rcases hat with h | h
    · exact h2 (by rw [h, e'])
    · omega⟩
  refine ⟨_, _, hT.hl, hrows X hT.hg, ?_, ?_, fun b hb => ?_⟩
  · have k1 : TsRep (only X (NotOwn N (.slice (some ⟨g, 0, none⟩) (n + 2) cap))) ts xs := TsRep.keep (only_keep fun b hb hs => ⟨hno b (by omega) hs.1 (fun e => hs.2 e), (hold b (by omega) (by have := hs.1; omega) (fun e => hs.2 e)).trans (hb3.block b hb)⟩) _ _ hts
    have kn : ∀ a u, (only w3 (fun b => W.heap.size ≤ b)).cell? a = some u → (only X (NotOwn N (.slice (some ⟨g, 0, none⟩) (n + 2) cap))).cell? a = some u := only_keep fun b hb hs => by
      have h1 : sv.ownBlock ≠ some b := fun e => by have := (hlt b e).2; omega
      exact ⟨hno b hb (by omega) h1, hold b hb (by omega) h1⟩
    have k2 := TsRep.snoc (TRep.keep kn _ _ ht2) _ _ (TsRep.snoc (TRep.keep kn _ _ ht1) _ _ k1)
    simpa using k2
  · refine ⟨hT.os.trans (hgr.os.trans hb3.os), hT.tape.trans (hgr.tape.trans hb3.tape), hT.output.trans (hgr.output.trans hb3.output), by rw [hT.size]; have := hgr.size; omega, fun b hb hs => ?_⟩
    exact (hold b (by omega) (fun e => hs (.inl e)) (fun e => hs (.inr (ownL_some.2 e)))).trans (hb3.block b hb)
  · have e' : b = g := by simpa [ownL, Value.ownBlock] using hb
    rcases hat with h | h
    · exact .inl (ownL_some.2 (by rw [h, e']))
    · exact .inr (by omega)
set_option maxRecDepth 100000 in
set_option maxHeartbeats 12800000 in
theorem turn_first {W : World} {B N lb n : Nat} {ts : List Term} {sv : Value} {xs : List Value} {v u : Val} {x y : Value} {fs gs : List Nat} (hl : W.heap[lb]? = some (.cells #[sv] 22 (0, 0))) (hrow : W.ownsRow B 31 11 sv n xs) (hts : TsRep (only W (NotOwn N sv)) ts xs)
    (hsm : n + 2 ≤ 1048576) (hlb : lb < N) (hlo : lb ∉ ownL sv) (hB : B ≤ W.heap.size) (hN : N ≤ W.heap.size) (hx : VRep W v x fs) (hs : smallV v) (hy : VRep W u y gs) (hs' : smallV u) :
    Calls Try.prog 29 #[x, y, .pointer (some ⟨lb, 0, none⟩)] W fun e w' => e = .returned (.bool true) ∧ AddEnd B N lb n ts sv (plainT v 0) (plainT u 0) W w' := by
  obtain ⟨i0, hi0, hz0, hz1, hz2⟩ := info_parts Try.infoTerm
  have q0 : W.cell? ⟨lb, 0, none⟩ = some sv := by rw [cell_of_row W lb 0 _ _ _ hl]; rfl
  have hlbl : lb < W.heap.size := by omega
  have hxl : xs.length = n * 11 := hrow.1
  obtain ⟨sa, scap, rfl, hcap, hmax, -, -⟩ := ownsRow_form hrow
  unfold maxLen at hmax
  have hdone := Lib.hid (fun (w3 w4 X : World) (g cap : Nat) (cs ds : List Value) (r6 : Array Value) => @add_done W w3 w4 X B N lb n g cap ts _ xs cs ds (plainT v 0) (plainT u 0) r6 hrow hts hlb hN)
  have hPK := Lib.hid (fun X (hX : Below W.heap.size W X) => Plain_said (plain_any v) (VRep.but hx (below_but0 hX) (fun _ _ f => f)) hs)
  have hPV := Lib.hid (fun X (hX : Below W.heap.size W X) => Plain_said (plain_any u) (VRep.but hy (below_but0 hX) (fun _ _ f => f)) hs')
  have hrowX := Lib.hid (fun X (hX : Below W.heap.size W X) => ownsRow_keep (w' := X) hrow (fun b hb => hX.block b (ownsRow_lt hrow b hb).2))
  have hlX := Lib.hid (show ∀ X : World, Below W.heap.size W X → X.heap[lb]? = some (.cells #[.slice sa n scap] 22 (0, 0)) from fun X hX => (hX.block lb hlbl).trans hl)
  have hown := Lib.hid (fun b (hb : b ∈ ownL (.slice sa n scap)) => ownsRow_lt hrow b hb)
  have hw1 : IntKind.i64.wrap ((n : Int) + 1) = (n : Int) + 1 := by rw [IntKind.wrap_i64]; omega
  have hc1 : ((n : Int) + 1).toNat = n + 1 := by omega
  have hlt1 : (n : Int) < (n : Int) + 2 := by omega
  have hlt2 : (n : Int) + 1 < (n : Int) + 2 := by omega
  have h00 : (0 : Int) ≤ (n : Int) := by omega
  have h01 : (0 : Int) ≤ (n : Int) + 1 := by omega
  clear hl hrow hts hx hs hy hs'
  go_enter Try.func29, Try.ntmps29
  go_wp2_with fail
  refine wp_region_held_drew (S := (fun _ => True)) (by kernel_rfl) trivial (fun hHeld => ?_)
  refine wpAnyH_take (i := 1) (v := ?vo1) rfl (by kernel_rfl) (by kernel_rfl) (by kernel_rfl) (fun _ _ _ h => h) (.inl ⟨by rfl, ?hyo1⟩) (by assumption) ?resto1
  case hyo1 => (intro w hSw; (try dsimp only at hSw); go_simp; first | done | with_reducible rfl)
  (try simp only [Act.put, pu1, pu2, pu3, pu4, pu5, pu6])
  refine wpAnyH_take (i := 3) (v := ?vo2) rfl (by kernel_rfl) (by kernel_rfl) (by kernel_rfl) (fun _ _ _ h => h) (.inl ⟨by rfl, ?hyo2⟩) (by assumption) ?resto2
  case hyo2 => (intro w hSw; (try dsimp only at hSw); go_simp; first | done | with_reducible rfl)
  (try simp only [Act.put, pu1, pu2, pu3, pu4, pu5, pu6])
  refine wpAnyH_ready (rs := [0, 2, 6]) (by kernel_rfl) (by simp) ?_
  refine AllReadyH.cons rfl (fun K hK => ?_) (AllReadyH.cons rfl (fun K hK => ?_) (AllReadyH.cons rfl (fun K hK => ?_) AllReadyH.nil))
  · rw [if_pos (by rfl)]
    have q1 := keeps_of_below (Below.refl W.heap.size W).drew _ _ q0
    go_simp
    clear q1
    refine hK.out _ _ ?_ (fun hHeldN => ?_)
    · exact trivial
    clear hK K hHeld
    have hHeld := hHeldN
    clear hHeldN
    (try simp only [Act.put, pu1, pu2, pu3, pu4, pu5, pu6])
    refine wpAnyH_take (i := 5) (v := ?vo3) rfl (by kernel_rfl) (by kernel_rfl) (by kernel_rfl) (fun _ _ _ h => h) (.inl ⟨by rfl, ?hyo3⟩) (by assumption) ?resto3
    case hyo3 => (intro w hSw; (try dsimp only at hSw); go_simp; first | done | with_reducible rfl)
    (try simp only [Act.put, pu1, pu2, pu3, pu4, pu5, pu6])
    refine wpAnyH_take (i := 10) (v := ?vo4) rfl (by kernel_rfl) (by kernel_rfl) (by kernel_rfl) (fun _ _ _ h => h) (.inl ⟨by rfl, ?hyo4⟩) (by assumption) ?resto4
    case hyo4 => (intro w hSw; (try dsimp only at hSw); go_simp; first | done | with_reducible rfl)
    (try simp only [Act.put, pu1, pu2, pu3, pu4, pu5, pu6])
    refine wpAnyH_ready (rs := [2, 6]) (by kernel_rfl) (by simp) ?_
    refine AllReadyH.cons rfl (fun K hK => ?_) (AllReadyH.cons rfl (fun K hK => ?_) AllReadyH.nil)
    · rw [if_pos (by rfl)]
      go_simp
      refine (hPK.out _ (Below.refl W.heap.size W).drew).mono ?_
      rintro e w2 ⟨cs, rfl, ht5, hw4⟩
      obtain ⟨c0, c1, c2, c3, c4, c5, c6, c7, c8, c9, c10, rfl⟩ := eleven (TRep.len ht5)
      have hb3 : Below W.heap.size W w2 := ((Below.refl W.heap.size W).drew).trans (Below.mono hw4 ((Below.refl W.heap.size W).drew).size)
      have ht6 := TRep.keep (only_keep (w' := w2) (S' := fun b => W.heap.size ≤ b) fun b _ hs => ⟨Nat.le_trans ((Below.refl W.heap.size W).drew).size hs, rfl⟩) _ _ ht5
      clear ht5
      refine hK.out _ _ ?_ (fun hHeldN => ?_)
      · exact trivial
      clear hK K hHeld
      have hHeld := hHeldN
      clear hHeldN
      (try simp only [Act.put, pu1, pu2, pu3, pu4, pu5, pu6])
      refine wpAnyH_ready (rs := [4, 6]) (by kernel_rfl) (by simp) ?_
      refine AllReadyH.cons rfl (fun K hK => ?_) (AllReadyH.cons rfl (fun K hK => ?_) AllReadyH.nil)
      · rw [if_pos (by rfl)]
        go_simp
        refine (hPV.out _ hb3).mono ?_
        rintro e w7 ⟨cs, rfl, ht10, hw9⟩
        obtain ⟨d0, d1, d2, d3, d4, d5, d6, d7, d8, d9, d10, rfl⟩ := eleven (TRep.len ht10)
        have hb8 : Below W.heap.size W w7 := (hb3).trans (Below.mono hw9 (hb3).size)
        have ht11 := TRep.keep (only_keep (w' := w7) (S' := fun b => W.heap.size ≤ b) fun b _ hs => ⟨Nat.le_trans (hb3).size hs, rfl⟩) _ _ ht10
        clear ht10
        have ht12 := TRep.keep (only_keep (w' := w7) (S' := fun b => W.heap.size ≤ b) fun b hb hs => ⟨hs, hw9.block b hb⟩) _ _ ht6
        clear ht6
        refine hK.out _ _ ?_ (fun hHeldN => ?_)
        · exact trivial
        clear hK K hHeld
        have hHeld := hHeldN
        clear hHeldN
        (try simp only [Act.put, pu1, pu2, pu3, pu4, pu5, pu6])
        refine wpAnyH_ready (rs := [6]) (by kernel_rfl) (by simp) ?_
        refine AllReadyH.cons rfl (fun K hK => ?_) AllReadyH.nil
        refine wp_of_exec (exec_buildSlice (vs := #[(0, .agg #[.int .i64 0, .bool false, .int .i64 0, .float .f64 0, .string ⟨#[]⟩, .slice none 0 0, .int .u64 0, .slice none 0 0, .slice none 0 0, .string ⟨#[]⟩, .int .i64 0]), (1, .agg #[.int .i64 0, .bool false, .int .i64 0, .float .f64 0, .string ⟨#[]⟩, .slice none 0 0, .int .u64 0, .slice none 0 0, .slice none 0 0, .string ⟨#[]⟩, .int .i64 0])]) rfl (by simp [Act.eval]) (run_build2 _)) ?_
        obtain ⟨zb, hzb⟩ : ∃ x, x = w7.heap.size := ⟨_, rfl⟩
        obtain ⟨w13, hew13⟩ : ∃ X, X = w7.alloc (.cells #[.int .i64 0, .bool false, .int .i64 0, .float .f64 0, .string ⟨#[]⟩, .slice none 0 0, .int .u64 0, .slice none 0 0, .slice none 0 0, .string ⟨#[]⟩, .int .i64 0, .int .i64 0, .bool false, .int .i64 0, .float .f64 0, .string ⟨#[]⟩, .slice none 0 0, .int .u64 0, .slice none 0 0, .slice none 0 0, .string ⟨#[]⟩, .int .i64 0] 31) := ⟨_, rfl⟩
        have hz16 : w13.heap[zb]? = some (.cells #[.int .i64 0, .bool false, .int .i64 0, .float .f64 0, .string ⟨#[]⟩, .slice none 0 0, .int .u64 0, .slice none 0 0, .slice none 0 0, .string ⟨#[]⟩, .int .i64 0, .int .i64 0, .bool false, .int .i64 0, .float .f64 0, .string ⟨#[]⟩, .slice none 0 0, .int .u64 0, .slice none 0 0, .slice none 0 0, .string ⟨#[]⟩, .int .i64 0] 31 (0, 0)) := by rw [hew13, hzb]; exact heap_alloc_new w7 _
        have hw15 : Below w7.heap.size w7 w13 := by rw [hew13]; exact (Below.refl _ _).alloc (Nat.le_refl _) _
        have hb14 : Below W.heap.size W w13 := (hb8).trans (Below.mono hw15 (hb8).size)
        rw [← hew13, ← hzb]
        clear hew13 hzb
        have ht17 := TRep.keep (only_keep (w' := w13) (S' := fun b => W.heap.size ≤ b) fun b hb hs => ⟨hs, hw15.block b hb⟩) _ _ ht12
        clear ht12
        have ht18 := TRep.keep (only_keep (w' := w13) (S' := fun b => W.heap.size ≤ b) fun b hb hs => ⟨hs, hw15.block b hb⟩) _ _ ht11
        clear ht11
        refine hK.out _ _ ?_ (fun hHeldN => ?_)
        · exact trivial
        clear hK K hHeld
        have hHeld := hHeldN
        clear hHeldN
        (try simp only [Act.put, pu1, pu2, pu3, pu4, pu5, pu6])
        refine wpAnyH_ready (rs := [7]) (by kernel_rfl) (by simp) ?_
        refine AllReadyH.cons rfl (fun K hK => ?_) AllReadyH.nil
        refine step_append_lies _ (by rfl) _ _ _ (by rfl) B 31 i0 _ 11 152 Try.underlying22 hi0 hz0 hz1 hz2 rfl (by omega) _ n xs (by rfl) (hrowX.out w13 hb14) ⟨zb, 0, none⟩ 2 2 [.int .i64 0, .bool false, .int .i64 0, .float .f64 0, .string ⟨#[]⟩, .slice none 0 0, .int .u64 0, .slice none 0 0, .slice none 0 0, .string ⟨#[]⟩, .int .i64 0, .int .i64 0, .bool false, .int .i64 0, .float .f64 0, .string ⟨#[]⟩, .slice none 0 0, .int .u64 0, .slice none 0 0, .slice none 0 0, .string ⟨#[]⟩, .int .i64 0] (by rfl) (by rfl) (World.news_of_block (cs := #[.int .i64 0, .bool false, .int .i64 0, .float .f64 0, .string ⟨#[]⟩, .slice none 0 0, .int .u64 0, .slice none 0 0, .slice none 0 0, .string ⟨#[]⟩, .int .i64 0, .int .i64 0, .bool false, .int .i64 0, .float .f64 0, .string ⟨#[]⟩, .slice none 0 0, .int .u64 0, .slice none 0 0, .slice none 0 0, .string ⟨#[]⟩, .int .i64 0]) (t := 31) (fr := (0, 0)) hz16) (fun u hu => by simp only [List.mem_cons, List.not_mem_nil, or_false] at hu; rcases hu with rfl | rfl | rfl | rfl | rfl | rfl | rfl | rfl | rfl | rfl | rfl | rfl | rfl | rfl | rfl | rfl | rfl | rfl | rfl | rfl | rfl | rfl <;> rfl) (by omega) (by unfold maxLen; omega) (by omega) (by have := (hb14).size; omega) _ rfl ?_
        intro g cap w4 hown4 hgr4 hat4 hlt4
        obtain ⟨r4, r5, r6, s4, e5, e6, f4, f5, hrows⟩ := add_rows (cs := [c0, c1, c2, c3, c4, c5, c6, c7, c8, c9, c10]) (ds := [d0, d1, d2, d3, d4, d5, d6, d7, d8, d9, d10]) hown4 hxl rfl rfl
        have hgne : g ≠ lb := fun e => by
          rcases hat4 with h | h
          · exact hlo (ownL_some.2 (by rw [h, e]))
          · have := (hb14).size; omega
        have hl4 : w4.heap[lb]? = some (.cells #[.slice sa n scap] 22 (0, 0)) := (hgr4.block lb (by have := (hb14).size; omega) (fun e => hlo (ownL_some.2 e.symm))).trans (hlX.out w13 hb14)
        have hT4 : Touch w4 w4 g lb r4 (.slice sa n scap) := ⟨rfl, rfl, rfl, rfl, s4, hl4, fun _ _ _ => rfl, hgne⟩
        have hfin := Lib.hid (fun X (hX : Touch w4 X g lb r6 (.slice (some ⟨g, 0, none⟩) (n + 2) cap)) => hdone.out _ _ _ _ _ _ _ _ hb14 ht17 ht18 hgr4 hat4 hX hrows)
        have hone1 := TRep.ones ht17
        have hone2 := TRep.ones ht18
        clear ht17 ht18 hz16 hown4 hgr4 hat4 hrows s4 hl4
        refine hK.out _ _ ?_ (fun hHeldN => ?_)
        · exact trivial
        clear hK K hHeld
        have hHeld := hHeldN
        clear hHeldN
        (try simp only [Act.put, pu1, pu2, pu3, pu4, pu5, pu6])
        refine wpAnyH_take (i := 8) (v := ?vo5) rfl (by kernel_rfl) (by kernel_rfl) (by kernel_rfl) (fun _ _ _ h => h) (.inl ⟨by rfl, ?hyo5⟩) (by assumption) ?resto5
        case hyo5 => (intro w hSw; (try dsimp only at hSw); go_simp; first | done | with_reducible rfl)
        (try simp only [Act.put, pu1, pu2, pu3, pu4, pu5, pu6])
        refine wpAnyH_ready (rs := [9, 13]) (by kernel_rfl) (by simp) ?_
        refine AllReadyH.cons rfl (fun K hK => ?_) (AllReadyH.cons rfl (fun K hK => ?_) AllReadyH.nil)
        · rw [if_pos (by rfl)]
          refine wp_store_at 31 (.tmp 14) (.tmp 8) rfl g (n * 11) [c0, c1, c2, c3, c4, c5, c6, c7, c8, c9, c10] (by simp [Act.eval]) (by simp [Act.eval]) 31 r4 hT4.hg (by kernel_rfl) f4 hone1 ?_
          rw [← e5]
          obtain ⟨Y19, heY19⟩ : ∃ X, X = w4.setRow g r5 := ⟨_, rfl⟩
          have hT20 := hT4.row r5
          rw [← heY19] at hT20 ⊢
          clear heY19 hT4
          refine hK.out _ _ ?_ (fun hHeldN => ?_)
          · exact trivial
          clear hK K hHeld
          have hHeld := hHeldN
          clear hHeldN
          (try simp only [Act.put, pu1, pu2, pu3, pu4, pu5, pu6])
          refine wpAnyH_take (i := 11) (v := ?vo6) rfl (by kernel_rfl) (by kernel_rfl) (by kernel_rfl) (fun _ _ _ h => h) (.inl ⟨by rfl, ?hyo6⟩) (by assumption) ?resto6
          case hyo6 => (intro w hSw; (try dsimp only at hSw); go_simp; first | done | with_reducible rfl)
          (try simp only [Act.put, pu1, pu2, pu3, pu4, pu5, pu6])
          refine wpAnyH_ready (rs := [12, 13]) (by kernel_rfl) (by simp) ?_
          refine AllReadyH.cons rfl (fun K hK => ?_) (AllReadyH.cons rfl (fun K hK => ?_) AllReadyH.nil)
          · rw [if_pos (by rfl)]
            refine wp_store_at 31 (.tmp 16) (.tmp 10) rfl g ((n + 1) * 11) [d0, d1, d2, d3, d4, d5, d6, d7, d8, d9, d10] (by simp [Act.eval]) (by simp [Act.eval]) 31 r5 hT20.hg (by kernel_rfl) f5 hone2 ?_
            rw [← e6]
            obtain ⟨Y21, heY21⟩ : ∃ X, X = Y19.setRow g r6 := ⟨_, rfl⟩
            have hT22 := hT20.row r6
            rw [← heY21] at hT22 ⊢
            clear heY21 hT20
            refine hK.out _ _ ?_ (fun hHeldN => ?_)
            · exact trivial
            clear hK K hHeld
            have hHeld := hHeldN
            clear hHeldN
            (try simp only [Act.put, pu1, pu2, pu3, pu4, pu5, pu6])
            refine wpAnyH_ready (rs := [13]) (by kernel_rfl) (by simp) ?_
            refine AllReadyH.cons rfl (fun K hK => ?_) AllReadyH.nil
            rw [if_pos (by rfl)]
            have q25 : Y21.cell? ⟨lb, 0, none⟩ = some (.slice sa n scap) := by rw [cell_of_row Y21 lb 0 _ _ _ hT22.hl]; rfl
            have z26 : Y21.frozen? ⟨lb, 0, none⟩ = false := by simp [World.frozen?, hT22.hl]
            go_simp
            obtain ⟨Y23, heY23⟩ : ∃ X, X = Y21.setCell ⟨lb, 0, none⟩ (.slice (some ⟨g, 0, none⟩) (n + 2) cap) := ⟨_, rfl⟩
            have hT24 := hT22.cell (.slice (some ⟨g, 0, none⟩) (n + 2) cap)
            rw [← heY23] at hT24 ⊢
            clear heY23 q25 z26 hT22
            refine hK.out _ _ ?_ (fun hHeldN => ?_)
            · exact trivial
            clear hK K hHeld
            have hHeld := hHeldN
            clear hHeldN
            (try simp only [Act.put, pu1, pu2, pu3, pu4, pu5, pu6])
            refine wpAnyH_done (by kernel_rfl) ?_ _
            have hE27 := Lib.hid (hfin.out _ hT24)
            clear hT24 hHeld
            go_wp2_with fail
            go_ret
            exact ⟨rfl, hE27.out⟩
          · rw [if_pos (by rfl)]
            have q30 : Y19.cell? ⟨lb, 0, none⟩ = some (.slice sa n scap) := by rw [cell_of_row Y19 lb 0 _ _ _ hT20.hl]; rfl
            have z31 : Y19.frozen? ⟨lb, 0, none⟩ = false := by simp [World.frozen?, hT20.hl]
            go_simp
            obtain ⟨Y28, heY28⟩ : ∃ X, X = Y19.setCell ⟨lb, 0, none⟩ (.slice (some ⟨g, 0, none⟩) (n + 2) cap) := ⟨_, rfl⟩
            have hT29 := hT20.cell (.slice (some ⟨g, 0, none⟩) (n + 2) cap)
            rw [← heY28] at hT29 ⊢
            clear heY28 q30 z31 hT20
            refine hK.out _ _ ?_ (fun hHeldN => ?_)
            · exact trivial
            clear hK K hHeld
            have hHeld := hHeldN
            clear hHeldN
            (try simp only [Act.put, pu1, pu2, pu3, pu4, pu5, pu6])
            refine wpAnyH_ready (rs := [12]) (by kernel_rfl) (by simp) ?_
            refine AllReadyH.cons rfl (fun K hK => ?_) AllReadyH.nil
            rw [if_pos (by rfl)]
            refine wp_store_at 31 (.tmp 16) (.tmp 10) rfl g ((n + 1) * 11) [d0, d1, d2, d3, d4, d5, d6, d7, d8, d9, d10] (by simp [Act.eval]) (by simp [Act.eval]) 31 r5 hT29.hg (by kernel_rfl) f5 hone2 ?_
            rw [← e6]
            obtain ⟨Y32, heY32⟩ : ∃ X, X = Y28.setRow g r6 := ⟨_, rfl⟩
            have hT33 := hT29.row r6
            rw [← heY32] at hT33 ⊢
            clear heY32 hT29
            refine hK.out _ _ ?_ (fun hHeldN => ?_)
            · exact trivial
            clear hK K hHeld
            have hHeld := hHeldN
            clear hHeldN
            (try simp only [Act.put, pu1, pu2, pu3, pu4, pu5, pu6])
            refine wpAnyH_done (by kernel_rfl) ?_ _
            have hE34 := Lib.hid (hfin.out _ hT33)
            clear hT33 hHeld
            go_wp2_with fail
            go_ret
            exact ⟨rfl, hE34.out⟩
        · rw [if_pos (by rfl)]
          have q37 : w4.cell? ⟨lb, 0, none⟩ = some (.slice sa n scap) := by rw [cell_of_row w4 lb 0 _ _ _ hT4.hl]; rfl
          have z38 : w4.frozen? ⟨lb, 0, none⟩ = false := by simp [World.frozen?, hT4.hl]
          go_simp
          obtain ⟨Y35, heY35⟩ : ∃ X, X = w4.setCell ⟨lb, 0, none⟩ (.slice (some ⟨g, 0, none⟩) (n + 2) cap) := ⟨_, rfl⟩
          have hT36 := hT4.cell (.slice (some ⟨g, 0, none⟩) (n + 2) cap)
          rw [← heY35] at hT36 ⊢
          clear heY35 q37 z38 hT4
          refine hK.out _ _ ?_ (fun hHeldN => ?_)
          · exact trivial
          clear hK K hHeld
          have hHeld := hHeldN
          clear hHeldN
          (try simp only [Act.put, pu1, pu2, pu3, pu4, pu5, pu6])
          refine wpAnyH_ready (rs := [9]) (by kernel_rfl) (by simp) ?_
          refine AllReadyH.cons rfl (fun K hK => ?_) AllReadyH.nil
          rw [if_pos (by rfl)]
          refine wp_store_at 31 (.tmp 14) (.tmp 8) rfl g (n * 11) [c0, c1, c2, c3, c4, c5, c6, c7, c8, c9, c10] (by simp [Act.eval]) (by simp [Act.eval]) 31 r4 hT36.hg (by kernel_rfl) f4 hone1 ?_
          rw [← e5]
          obtain ⟨Y39, heY39⟩ : ∃ X, X = Y35.setRow g r5 := ⟨_, rfl⟩
          have hT40 := hT36.row r5
          rw [← heY39] at hT40 ⊢
          clear heY39 hT36
          refine hK.out _ _ ?_ (fun hHeldN => ?_)
          · exact trivial
          clear hK K hHeld
          have hHeld := hHeldN
          clear hHeldN
          (try simp only [Act.put, pu1, pu2, pu3, pu4, pu5, pu6])
          refine wpAnyH_take (i := 11) (v := ?vo7) rfl (by kernel_rfl) (by kernel_rfl) (by kernel_rfl) (fun _ _ _ h => h) (.inl ⟨by rfl, ?hyo7⟩) (by assumption) ?resto7
          case hyo7 => (intro w hSw; (try dsimp only at hSw); go_simp; first | done | with_reducible rfl)
          (try simp only [Act.put, pu1, pu2, pu3, pu4, pu5, pu6])
          refine wpAnyH_ready (rs := [12]) (by kernel_rfl) (by simp) ?_
          refine AllReadyH.cons rfl (fun K hK => ?_) AllReadyH.nil
          rw [if_pos (by rfl)]
          refine wp_store_at 31 (.tmp 16) (.tmp 10) rfl g ((n + 1) * 11) [d0, d1, d2, d3, d4, d5, d6, d7, d8, d9, d10] (by simp [Act.eval]) (by simp [Act.eval]) 31 r5 hT40.hg (by kernel_rfl) f5 hone2 ?_
          rw [← e6]
          obtain ⟨Y41, heY41⟩ : ∃ X, X = Y39.setRow g r6 := ⟨_, rfl⟩
          have hT42 := hT40.row r6
          rw [← heY41] at hT42 ⊢
          clear heY41 hT40
          refine hK.out _ _ ?_ (fun hHeldN => ?_)
          · exact trivial
          clear hK K hHeld
          have hHeld := hHeldN
          clear hHeldN
          (try simp only [Act.put, pu1, pu2, pu3, pu4, pu5, pu6])
          refine wpAnyH_done (by kernel_rfl) ?_ _
          have hE43 := Lib.hid (hfin.out _ hT42)
          clear hT42 hHeld
          go_wp2_with fail
          go_ret
          exact ⟨rfl, hE43.out⟩
      · refine wp_of_exec (exec_buildSlice (vs := #[(0, .agg #[.int .i64 0, .bool false, .int .i64 0, .float .f64 0, .string ⟨#[]⟩, .slice none 0 0, .int .u64 0, .slice none 0 0, .slice none 0 0, .string ⟨#[]⟩, .int .i64 0]), (1, .agg #[.int .i64 0, .bool false, .int .i64 0, .float .f64 0, .string ⟨#[]⟩, .slice none 0 0, .int .u64 0, .slice none 0 0, .slice none 0 0, .string ⟨#[]⟩, .int .i64 0])]) rfl (by simp [Act.eval]) (run_build2 _)) ?_
        obtain ⟨zb, hzb⟩ : ∃ x, x = w2.heap.size := ⟨_, rfl⟩
        obtain ⟨w44, hew44⟩ : ∃ X, X = w2.alloc (.cells #[.int .i64 0, .bool false, .int .i64 0, .float .f64 0, .string ⟨#[]⟩, .slice none 0 0, .int .u64 0, .slice none 0 0, .slice none 0 0, .string ⟨#[]⟩, .int .i64 0, .int .i64 0, .bool false, .int .i64 0, .float .f64 0, .string ⟨#[]⟩, .slice none 0 0, .int .u64 0, .slice none 0 0, .slice none 0 0, .string ⟨#[]⟩, .int .i64 0] 31) := ⟨_, rfl⟩
        have hz47 : w44.heap[zb]? = some (.cells #[.int .i64 0, .bool false, .int .i64 0, .float .f64 0, .string ⟨#[]⟩, .slice none 0 0, .int .u64 0, .slice none 0 0, .slice none 0 0, .string ⟨#[]⟩, .int .i64 0, .int .i64 0, .bool false, .int .i64 0, .float .f64 0, .string ⟨#[]⟩, .slice none 0 0, .int .u64 0, .slice none 0 0, .slice none 0 0, .string ⟨#[]⟩, .int .i64 0] 31 (0, 0)) := by rw [hew44, hzb]; exact heap_alloc_new w2 _
        have hw46 : Below w2.heap.size w2 w44 := by rw [hew44]; exact (Below.refl _ _).alloc (Nat.le_refl _) _
        have hb45 : Below W.heap.size W w44 := (hb3).trans (Below.mono hw46 (hb3).size)
        rw [← hew44, ← hzb]
        clear hew44 hzb
        have ht48 := TRep.keep (only_keep (w' := w44) (S' := fun b => W.heap.size ≤ b) fun b hb hs => ⟨hs, hw46.block b hb⟩) _ _ ht6
        clear ht6
        refine hK.out _ _ ?_ (fun hHeldN => ?_)
        · exact trivial
        clear hK K hHeld
        have hHeld := hHeldN
        clear hHeldN
        (try simp only [Act.put, pu1, pu2, pu3, pu4, pu5, pu6])
        refine wpAnyH_ready (rs := [4]) (by kernel_rfl) (by simp) ?_
        refine AllReadyH.cons rfl (fun K hK => ?_) AllReadyH.nil
        rw [if_pos (by rfl)]
        go_simp
        refine (hPV.out _ hb45).mono ?_
        rintro e w49 ⟨cs, rfl, ht52, hw51⟩
        obtain ⟨d0, d1, d2, d3, d4, d5, d6, d7, d8, d9, d10, rfl⟩ := eleven (TRep.len ht52)
        have hb50 : Below W.heap.size W w49 := (hb45).trans (Below.mono hw51 (hb45).size)
        have ht53 := TRep.keep (only_keep (w' := w49) (S' := fun b => W.heap.size ≤ b) fun b _ hs => ⟨Nat.le_trans (hb45).size hs, rfl⟩) _ _ ht52
        clear ht52
        have ht54 := TRep.keep (only_keep (w' := w49) (S' := fun b => W.heap.size ≤ b) fun b hb hs => ⟨hs, hw51.block b hb⟩) _ _ ht48
        clear ht48
        have hz55 := (hw51.block zb (Array.getElem?_eq_some_iff.1 hz47).1).trans hz47
        clear hz47
        refine hK.out _ _ ?_ (fun hHeldN => ?_)
        · exact trivial
        clear hK K hHeld
        have hHeld := hHeldN
        clear hHeldN
        (try simp only [Act.put, pu1, pu2, pu3, pu4, pu5, pu6])
        refine wpAnyH_ready (rs := [7]) (by kernel_rfl) (by simp) ?_
        refine AllReadyH.cons rfl (fun K hK => ?_) AllReadyH.nil
        refine step_append_lies _ (by rfl) _ _ _ (by rfl) B 31 i0 _ 11 152 Try.underlying22 hi0 hz0 hz1 hz2 rfl (by omega) _ n xs (by rfl) (hrowX.out w49 hb50) ⟨zb, 0, none⟩ 2 2 [.int .i64 0, .bool false, .int .i64 0, .float .f64 0, .string ⟨#[]⟩, .slice none 0 0, .int .u64 0, .slice none 0 0, .slice none 0 0, .string ⟨#[]⟩, .int .i64 0, .int .i64 0, .bool false, .int .i64 0, .float .f64 0, .string ⟨#[]⟩, .slice none 0 0, .int .u64 0, .slice none 0 0, .slice none 0 0, .string ⟨#[]⟩, .int .i64 0] (by rfl) (by rfl) (World.news_of_block (cs := #[.int .i64 0, .bool false, .int .i64 0, .float .f64 0, .string ⟨#[]⟩, .slice none 0 0, .int .u64 0, .slice none 0 0, .slice none 0 0, .string ⟨#[]⟩, .int .i64 0, .int .i64 0, .bool false, .int .i64 0, .float .f64 0, .string ⟨#[]⟩, .slice none 0 0, .int .u64 0, .slice none 0 0, .slice none 0 0, .string ⟨#[]⟩, .int .i64 0]) (t := 31) (fr := (0, 0)) hz55) (fun u hu => by simp only [List.mem_cons, List.not_mem_nil, or_false] at hu; rcases hu with rfl | rfl | rfl | rfl | rfl | rfl | rfl | rfl | rfl | rfl | rfl | rfl | rfl | rfl | rfl | rfl | rfl | rfl | rfl | rfl | rfl | rfl <;> rfl) (by omega) (by unfold maxLen; omega) (by omega) (by have := (hb50).size; omega) _ rfl ?_
        intro g cap w4 hown4 hgr4 hat4 hlt4
        obtain ⟨r4, r5, r6, s4, e5, e6, f4, f5, hrows⟩ := add_rows (cs := [c0, c1, c2, c3, c4, c5, c6, c7, c8, c9, c10]) (ds := [d0, d1, d2, d3, d4, d5, d6, d7, d8, d9, d10]) hown4 hxl rfl rfl
        have hgne : g ≠ lb := fun e => by
          rcases hat4 with h | h
          · exact hlo (ownL_some.2 (by rw [h, e]))
          · have := (hb50).size; omega
        have hl4 : w4.heap[lb]? = some (.cells #[.slice sa n scap] 22 (0, 0)) := (hgr4.block lb (by have := (hb50).size; omega) (fun e => hlo (ownL_some.2 e.symm))).trans (hlX.out w49 hb50)
        have hT4 : Touch w4 w4 g lb r4 (.slice sa n scap) := ⟨rfl, rfl, rfl, rfl, s4, hl4, fun _ _ _ => rfl, hgne⟩
        have hfin := Lib.hid (fun X (hX : Touch w4 X g lb r6 (.slice (some ⟨g, 0, none⟩) (n + 2) cap)) => hdone.out _ _ _ _ _ _ _ _ hb50 ht54 ht53 hgr4 hat4 hX hrows)
        have hone1 := TRep.ones ht54
        have hone2 := TRep.ones ht53
        clear ht54 ht53 hz55 hown4 hgr4 hat4 hrows s4 hl4
        refine hK.out _ _ ?_ (fun hHeldN => ?_)
        · exact trivial
        clear hK K hHeld
        have hHeld := hHeldN
        clear hHeldN
        (try simp only [Act.put, pu1, pu2, pu3, pu4, pu5, pu6])
        refine wpAnyH_take (i := 8) (v := ?vo8) rfl (by kernel_rfl) (by kernel_rfl) (by kernel_rfl) (fun _ _ _ h => h) (.inl ⟨by rfl, ?hyo8⟩) (by assumption) ?resto8
        case hyo8 => (intro w hSw; (try dsimp only at hSw); go_simp; first | done | with_reducible rfl)
        (try simp only [Act.put, pu1, pu2, pu3, pu4, pu5, pu6])
        refine wpAnyH_ready (rs := [9, 13]) (by kernel_rfl) (by simp) ?_
        refine AllReadyH.cons rfl (fun K hK => ?_) (AllReadyH.cons rfl (fun K hK => ?_) AllReadyH.nil)
        · rw [if_pos (by rfl)]
          refine wp_store_at 31 (.tmp 14) (.tmp 8) rfl g (n * 11) [c0, c1, c2, c3, c4, c5, c6, c7, c8, c9, c10] (by simp [Act.eval]) (by simp [Act.eval]) 31 r4 hT4.hg (by kernel_rfl) f4 hone1 ?_
          rw [← e5]
          obtain ⟨Y56, heY56⟩ : ∃ X, X = w4.setRow g r5 := ⟨_, rfl⟩
          have hT57 := hT4.row r5
          rw [← heY56] at hT57 ⊢
          clear heY56 hT4
          refine hK.out _ _ ?_ (fun hHeldN => ?_)
          · exact trivial
          clear hK K hHeld
          have hHeld := hHeldN
          clear hHeldN
          (try simp only [Act.put, pu1, pu2, pu3, pu4, pu5, pu6])
          refine wpAnyH_take (i := 11) (v := ?vo9) rfl (by kernel_rfl) (by kernel_rfl) (by kernel_rfl) (fun _ _ _ h => h) (.inl ⟨by rfl, ?hyo9⟩) (by assumption) ?resto9
          case hyo9 => (intro w hSw; (try dsimp only at hSw); go_simp; first | done | with_reducible rfl)
          (try simp only [Act.put, pu1, pu2, pu3, pu4, pu5, pu6])
          refine wpAnyH_ready (rs := [12, 13]) (by kernel_rfl) (by simp) ?_
          refine AllReadyH.cons rfl (fun K hK => ?_) (AllReadyH.cons rfl (fun K hK => ?_) AllReadyH.nil)
          · rw [if_pos (by rfl)]
            refine wp_store_at 31 (.tmp 16) (.tmp 10) rfl g ((n + 1) * 11) [d0, d1, d2, d3, d4, d5, d6, d7, d8, d9, d10] (by simp [Act.eval]) (by simp [Act.eval]) 31 r5 hT57.hg (by kernel_rfl) f5 hone2 ?_
            rw [← e6]
            obtain ⟨Y58, heY58⟩ : ∃ X, X = Y56.setRow g r6 := ⟨_, rfl⟩
            have hT59 := hT57.row r6
            rw [← heY58] at hT59 ⊢
            clear heY58 hT57
            refine hK.out _ _ ?_ (fun hHeldN => ?_)
            · exact trivial
            clear hK K hHeld
            have hHeld := hHeldN
            clear hHeldN
            (try simp only [Act.put, pu1, pu2, pu3, pu4, pu5, pu6])
            refine wpAnyH_ready (rs := [13]) (by kernel_rfl) (by simp) ?_
            refine AllReadyH.cons rfl (fun K hK => ?_) AllReadyH.nil
            rw [if_pos (by rfl)]
            have q62 : Y58.cell? ⟨lb, 0, none⟩ = some (.slice sa n scap) := by rw [cell_of_row Y58 lb 0 _ _ _ hT59.hl]; rfl
            have z63 : Y58.frozen? ⟨lb, 0, none⟩ = false := by simp [World.frozen?, hT59.hl]
            go_simp
            obtain ⟨Y60, heY60⟩ : ∃ X, X = Y58.setCell ⟨lb, 0, none⟩ (.slice (some ⟨g, 0, none⟩) (n + 2) cap) := ⟨_, rfl⟩
            have hT61 := hT59.cell (.slice (some ⟨g, 0, none⟩) (n + 2) cap)
            rw [← heY60] at hT61 ⊢
            clear heY60 q62 z63 hT59
            refine hK.out _ _ ?_ (fun hHeldN => ?_)
            · exact trivial
            clear hK K hHeld
            have hHeld := hHeldN
            clear hHeldN
            (try simp only [Act.put, pu1, pu2, pu3, pu4, pu5, pu6])
            refine wpAnyH_done (by kernel_rfl) ?_ _
            have hE64 := Lib.hid (hfin.out _ hT61)
            clear hT61 hHeld
            go_wp2_with fail
            go_ret
            exact ⟨rfl, hE64.out⟩
          · rw [if_pos (by rfl)]
            have q67 : Y56.cell? ⟨lb, 0, none⟩ = some (.slice sa n scap) := by rw [cell_of_row Y56 lb 0 _ _ _ hT57.hl]; rfl
            have z68 : Y56.frozen? ⟨lb, 0, none⟩ = false := by simp [World.frozen?, hT57.hl]
            go_simp
            obtain ⟨Y65, heY65⟩ : ∃ X, X = Y56.setCell ⟨lb, 0, none⟩ (.slice (some ⟨g, 0, none⟩) (n + 2) cap) := ⟨_, rfl⟩
            have hT66 := hT57.cell (.slice (some ⟨g, 0, none⟩) (n + 2) cap)
            rw [← heY65] at hT66 ⊢
            clear heY65 q67 z68 hT57
            refine hK.out _ _ ?_ (fun hHeldN => ?_)
            · exact trivial
            clear hK K hHeld
            have hHeld := hHeldN
            clear hHeldN
            (try simp only [Act.put, pu1, pu2, pu3, pu4, pu5, pu6])
            refine wpAnyH_ready (rs := [12]) (by kernel_rfl) (by simp) ?_
            refine AllReadyH.cons rfl (fun K hK => ?_) AllReadyH.nil
            rw [if_pos (by rfl)]
            refine wp_store_at 31 (.tmp 16) (.tmp 10) rfl g ((n + 1) * 11) [d0, d1, d2, d3, d4, d5, d6, d7, d8, d9, d10] (by simp [Act.eval]) (by simp [Act.eval]) 31 r5 hT66.hg (by kernel_rfl) f5 hone2 ?_
            rw [← e6]
            obtain ⟨Y69, heY69⟩ : ∃ X, X = Y65.setRow g r6 := ⟨_, rfl⟩
            have hT70 := hT66.row r6
            rw [← heY69] at hT70 ⊢
            clear heY69 hT66
            refine hK.out _ _ ?_ (fun hHeldN => ?_)
            · exact trivial
            clear hK K hHeld
            have hHeld := hHeldN
            clear hHeldN
            (try simp only [Act.put, pu1, pu2, pu3, pu4, pu5, pu6])
            refine wpAnyH_done (by kernel_rfl) ?_ _
            have hE71 := Lib.hid (hfin.out _ hT70)
            clear hT70 hHeld
            go_wp2_with fail
            go_ret
            exact ⟨rfl, hE71.out⟩
        · rw [if_pos (by rfl)]
          have q74 : w4.cell? ⟨lb, 0, none⟩ = some (.slice sa n scap) := by rw [cell_of_row w4 lb 0 _ _ _ hT4.hl]; rfl
          have z75 : w4.frozen? ⟨lb, 0, none⟩ = false := by simp [World.frozen?, hT4.hl]
          go_simp
          obtain ⟨Y72, heY72⟩ : ∃ X, X = w4.setCell ⟨lb, 0, none⟩ (.slice (some ⟨g, 0, none⟩) (n + 2) cap) := ⟨_, rfl⟩
          have hT73 := hT4.cell (.slice (some ⟨g, 0, none⟩) (n + 2) cap)
          rw [← heY72] at hT73 ⊢
          clear heY72 q74 z75 hT4
          refine hK.out _ _ ?_ (fun hHeldN => ?_)
          · exact trivial
          clear hK K hHeld
          have hHeld := hHeldN
          clear hHeldN
          (try simp only [Act.put, pu1, pu2, pu3, pu4, pu5, pu6])
          refine wpAnyH_ready (rs := [9]) (by kernel_rfl) (by simp) ?_
          refine AllReadyH.cons rfl (fun K hK => ?_) AllReadyH.nil
          rw [if_pos (by rfl)]
          refine wp_store_at 31 (.tmp 14) (.tmp 8) rfl g (n * 11) [c0, c1, c2, c3, c4, c5, c6, c7, c8, c9, c10] (by simp [Act.eval]) (by simp [Act.eval]) 31 r4 hT73.hg (by kernel_rfl) f4 hone1 ?_
          rw [← e5]
          obtain ⟨Y76, heY76⟩ : ∃ X, X = Y72.setRow g r5 := ⟨_, rfl⟩
          have hT77 := hT73.row r5
          rw [← heY76] at hT77 ⊢
          clear heY76 hT73
          refine hK.out _ _ ?_ (fun hHeldN => ?_)
          · exact trivial
          clear hK K hHeld
          have hHeld := hHeldN
          clear hHeldN
          (try simp only [Act.put, pu1, pu2, pu3, pu4, pu5, pu6])
          refine wpAnyH_take (i := 11) (v := ?vo10) rfl (by kernel_rfl) (by kernel_rfl) (by kernel_rfl) (fun _ _ _ h => h) (.inl ⟨by rfl, ?hyo10⟩) (by assumption) ?resto10
          case hyo10 => (intro w hSw; (try dsimp only at hSw); go_simp; first | done | with_reducible rfl)
          (try simp only [Act.put, pu1, pu2, pu3, pu4, pu5, pu6])
          refine wpAnyH_ready (rs := [12]) (by kernel_rfl) (by simp) ?_
          refine AllReadyH.cons rfl (fun K hK => ?_) AllReadyH.nil
          rw [if_pos (by rfl)]
          refine wp_store_at 31 (.tmp 16) (.tmp 10) rfl g ((n + 1) * 11) [d0, d1, d2, d3, d4, d5, d6, d7, d8, d9, d10] (by simp [Act.eval]) (by simp [Act.eval]) 31 r5 hT77.hg (by kernel_rfl) f5 hone2 ?_
          rw [← e6]
          obtain ⟨Y78, heY78⟩ : ∃ X, X = Y76.setRow g r6 := ⟨_, rfl⟩
          have hT79 := hT77.row r6
          rw [← heY78] at hT79 ⊢
          clear heY78 hT77
          refine hK.out _ _ ?_ (fun hHeldN => ?_)
          · exact trivial
          clear hK K hHeld
          have hHeld := hHeldN
          clear hHeldN
          (try simp only [Act.put, pu1, pu2, pu3, pu4, pu5, pu6])
          refine wpAnyH_done (by kernel_rfl) ?_ _
          have hE80 := Lib.hid (hfin.out _ hT79)
          clear hT79 hHeld
          go_wp2_with fail
          go_ret
          exact ⟨rfl, hE80.out⟩
    · refine wp_of_exec (exec_buildSlice (vs := #[(0, .agg #[.int .i64 0, .bool false, .int .i64 0, .float .f64 0, .string ⟨#[]⟩, .slice none 0 0, .int .u64 0, .slice none 0 0, .slice none 0 0, .string ⟨#[]⟩, .int .i64 0]), (1, .agg #[.int .i64 0, .bool false, .int .i64 0, .float .f64 0, .string ⟨#[]⟩, .slice none 0 0, .int .u64 0, .slice none 0 0, .slice none 0 0, .string ⟨#[]⟩, .int .i64 0])]) rfl (by simp [Act.eval]) (run_build2 _)) ?_
      obtain ⟨zb, hzb⟩ : ∃ x, x = W.drew.heap.size := ⟨_, rfl⟩
      obtain ⟨w81, hew81⟩ : ∃ X, X = W.drew.alloc (.cells #[.int .i64 0, .bool false, .int .i64 0, .float .f64 0, .string ⟨#[]⟩, .slice none 0 0, .int .u64 0, .slice none 0 0, .slice none 0 0, .string ⟨#[]⟩, .int .i64 0, .int .i64 0, .bool false, .int .i64 0, .float .f64 0, .string ⟨#[]⟩, .slice none 0 0, .int .u64 0, .slice none 0 0, .slice none 0 0, .string ⟨#[]⟩, .int .i64 0] 31) := ⟨_, rfl⟩
      have hz84 : w81.heap[zb]? = some (.cells #[.int .i64 0, .bool false, .int .i64 0, .float .f64 0, .string ⟨#[]⟩, .slice none 0 0, .int .u64 0, .slice none 0 0, .slice none 0 0, .string ⟨#[]⟩, .int .i64 0, .int .i64 0, .bool false, .int .i64 0, .float .f64 0, .string ⟨#[]⟩, .slice none 0 0, .int .u64 0, .slice none 0 0, .slice none 0 0, .string ⟨#[]⟩, .int .i64 0] 31 (0, 0)) := by rw [hew81, hzb]; exact heap_alloc_new W.drew _
      have hw83 : Below W.drew.heap.size W.drew w81 := by rw [hew81]; exact (Below.refl _ _).alloc (Nat.le_refl _) _
      have hb82 : Below W.heap.size W w81 := ((Below.refl W.heap.size W).drew).trans (Below.mono hw83 ((Below.refl W.heap.size W).drew).size)
      rw [← hew81, ← hzb]
      clear hew81 hzb
      refine hK.out _ _ ?_ (fun hHeldN => ?_)
      · exact trivial
      clear hK K hHeld
      have hHeld := hHeldN
      clear hHeldN
      (try simp only [Act.put, pu1, pu2, pu3, pu4, pu5, pu6])
      refine wpAnyH_ready (rs := [2]) (by kernel_rfl) (by simp) ?_
      refine AllReadyH.cons rfl (fun K hK => ?_) AllReadyH.nil
      rw [if_pos (by rfl)]
      go_simp
      refine (hPK.out _ hb82).mono ?_
      rintro e w85 ⟨cs, rfl, ht88, hw87⟩
      obtain ⟨c0, c1, c2, c3, c4, c5, c6, c7, c8, c9, c10, rfl⟩ := eleven (TRep.len ht88)
      have hb86 : Below W.heap.size W w85 := (hb82).trans (Below.mono hw87 (hb82).size)
      have ht89 := TRep.keep (only_keep (w' := w85) (S' := fun b => W.heap.size ≤ b) fun b _ hs => ⟨Nat.le_trans (hb82).size hs, rfl⟩) _ _ ht88
      clear ht88
      have hz90 := (hw87.block zb (Array.getElem?_eq_some_iff.1 hz84).1).trans hz84
      clear hz84
      refine hK.out _ _ ?_ (fun hHeldN => ?_)
      · exact trivial
      clear hK K hHeld
      have hHeld := hHeldN
      clear hHeldN
      (try simp only [Act.put, pu1, pu2, pu3, pu4, pu5, pu6])
      refine wpAnyH_ready (rs := [4]) (by kernel_rfl) (by simp) ?_
      refine AllReadyH.cons rfl (fun K hK => ?_) AllReadyH.nil
      rw [if_pos (by rfl)]
      go_simp
      refine (hPV.out _ hb86).mono ?_
      rintro e w91 ⟨cs, rfl, ht94, hw93⟩
      obtain ⟨d0, d1, d2, d3, d4, d5, d6, d7, d8, d9, d10, rfl⟩ := eleven (TRep.len ht94)
      have hb92 : Below W.heap.size W w91 := (hb86).trans (Below.mono hw93 (hb86).size)
      have ht95 := TRep.keep (only_keep (w' := w91) (S' := fun b => W.heap.size ≤ b) fun b _ hs => ⟨Nat.le_trans (hb86).size hs, rfl⟩) _ _ ht94
      clear ht94
      have ht96 := TRep.keep (only_keep (w' := w91) (S' := fun b => W.heap.size ≤ b) fun b hb hs => ⟨hs, hw93.block b hb⟩) _ _ ht89
      clear ht89
      have hz97 := (hw93.block zb (Array.getElem?_eq_some_iff.1 hz90).1).trans hz90
      clear hz90
      refine hK.out _ _ ?_ (fun hHeldN => ?_)
      · exact trivial
      clear hK K hHeld
      have hHeld := hHeldN
      clear hHeldN
      (try simp only [Act.put, pu1, pu2, pu3, pu4, pu5, pu6])
      refine wpAnyH_ready (rs := [7]) (by kernel_rfl) (by simp) ?_
      refine AllReadyH.cons rfl (fun K hK => ?_) AllReadyH.nil
      refine step_append_lies _ (by rfl) _ _ _ (by rfl) B 31 i0 _ 11 152 Try.underlying22 hi0 hz0 hz1 hz2 rfl (by omega) _ n xs (by rfl) (hrowX.out w91 hb92) ⟨zb, 0, none⟩ 2 2 [.int .i64 0, .bool false, .int .i64 0, .float .f64 0, .string ⟨#[]⟩, .slice none 0 0, .int .u64 0, .slice none 0 0, .slice none 0 0, .string ⟨#[]⟩, .int .i64 0, .int .i64 0, .bool false, .int .i64 0, .float .f64 0, .string ⟨#[]⟩, .slice none 0 0, .int .u64 0, .slice none 0 0, .slice none 0 0, .string ⟨#[]⟩, .int .i64 0] (by rfl) (by rfl) (World.news_of_block (cs := #[.int .i64 0, .bool false, .int .i64 0, .float .f64 0, .string ⟨#[]⟩, .slice none 0 0, .int .u64 0, .slice none 0 0, .slice none 0 0, .string ⟨#[]⟩, .int .i64 0, .int .i64 0, .bool false, .int .i64 0, .float .f64 0, .string ⟨#[]⟩, .slice none 0 0, .int .u64 0, .slice none 0 0, .slice none 0 0, .string ⟨#[]⟩, .int .i64 0]) (t := 31) (fr := (0, 0)) hz97) (fun u hu => by simp only [List.mem_cons, List.not_mem_nil, or_false] at hu; rcases hu with rfl | rfl | rfl | rfl | rfl | rfl | rfl | rfl | rfl | rfl | rfl | rfl | rfl | rfl | rfl | rfl | rfl | rfl | rfl | rfl | rfl | rfl <;> rfl) (by omega) (by unfold maxLen; omega) (by omega) (by have := (hb92).size; omega) _ rfl ?_
      intro g cap w4 hown4 hgr4 hat4 hlt4
      obtain ⟨r4, r5, r6, s4, e5, e6, f4, f5, hrows⟩ := add_rows (cs := [c0, c1, c2, c3, c4, c5, c6, c7, c8, c9, c10]) (ds := [d0, d1, d2, d3, d4, d5, d6, d7, d8, d9, d10]) hown4 hxl rfl rfl
      have hgne : g ≠ lb := fun e => by
        rcases hat4 with h | h
        · exact hlo (ownL_some.2 (by rw [h, e]))
        · have := (hb92).size; omega
      have hl4 : w4.heap[lb]? = some (.cells #[.slice sa n scap] 22 (0, 0)) := (hgr4.block lb (by have := (hb92).size; omega) (fun e => hlo (ownL_some.2 e.symm))).trans (hlX.out w91 hb92)
      have hT4 : Touch w4 w4 g lb r4 (.slice sa n scap) := ⟨rfl, rfl, rfl, rfl, s4, hl4, fun _ _ _ => rfl, hgne⟩
      have hfin := Lib.hid (fun X (hX : Touch w4 X g lb r6 (.slice (some ⟨g, 0, none⟩) (n + 2) cap)) => hdone.out _ _ _ _ _ _ _ _ hb92 ht96 ht95 hgr4 hat4 hX hrows)
      have hone1 := TRep.ones ht96
      have hone2 := TRep.ones ht95
      clear ht96 ht95 hz97 hown4 hgr4 hat4 hrows s4 hl4
      refine hK.out _ _ ?_ (fun hHeldN => ?_)
      · exact trivial
      clear hK K hHeld
      have hHeld := hHeldN
      clear hHeldN
      (try simp only [Act.put, pu1, pu2, pu3, pu4, pu5, pu6])
      refine wpAnyH_take (i := 8) (v := ?vo11) rfl (by kernel_rfl) (by kernel_rfl) (by kernel_rfl) (fun _ _ _ h => h) (.inl ⟨by rfl, ?hyo11⟩) (by assumption) ?resto11
      case hyo11 => (intro w hSw; (try dsimp only at hSw); go_simp; first | done | with_reducible rfl)
      (try simp only [Act.put, pu1, pu2, pu3, pu4, pu5, pu6])
      refine wpAnyH_ready (rs := [9, 13]) (by kernel_rfl) (by simp) ?_
      refine AllReadyH.cons rfl (fun K hK => ?_) (AllReadyH.cons rfl (fun K hK => ?_) AllReadyH.nil)
      · rw [if_pos (by rfl)]
        refine wp_store_at 31 (.tmp 14) (.tmp 8) rfl g (n * 11) [c0, c1, c2, c3, c4, c5, c6, c7, c8, c9, c10] (by simp [Act.eval]) (by simp [Act.eval]) 31 r4 hT4.hg (by kernel_rfl) f4 hone1 ?_
        rw [← e5]
        obtain ⟨Y98, heY98⟩ : ∃ X, X = w4.setRow g r5 := ⟨_, rfl⟩
        have hT99 := hT4.row r5
        rw [← heY98] at hT99 ⊢
        clear heY98 hT4
        refine hK.out _ _ ?_ (fun hHeldN => ?_)
        · exact trivial
        clear hK K hHeld
        have hHeld := hHeldN
        clear hHeldN
        (try simp only [Act.put, pu1, pu2, pu3, pu4, pu5, pu6])
        refine wpAnyH_take (i := 11) (v := ?vo12) rfl (by kernel_rfl) (by kernel_rfl) (by kernel_rfl) (fun _ _ _ h => h) (.inl ⟨by rfl, ?hyo12⟩) (by assumption) ?resto12
        case hyo12 => (intro w hSw; (try dsimp only at hSw); go_simp; first | done | with_reducible rfl)
        (try simp only [Act.put, pu1, pu2, pu3, pu4, pu5, pu6])
        refine wpAnyH_ready (rs := [12, 13]) (by kernel_rfl) (by simp) ?_
        refine AllReadyH.cons rfl (fun K hK => ?_) (AllReadyH.cons rfl (fun K hK => ?_) AllReadyH.nil)
        · rw [if_pos (by rfl)]
          refine wp_store_at 31 (.tmp 16) (.tmp 10) rfl g ((n + 1) * 11) [d0, d1, d2, d3, d4, d5, d6, d7, d8, d9, d10] (by simp [Act.eval]) (by simp [Act.eval]) 31 r5 hT99.hg (by kernel_rfl) f5 hone2 ?_
          rw [← e6]
          obtain ⟨Y100, heY100⟩ : ∃ X, X = Y98.setRow g r6 := ⟨_, rfl⟩
          have hT101 := hT99.row r6
          rw [← heY100] at hT101 ⊢
          clear heY100 hT99
          refine hK.out _ _ ?_ (fun hHeldN => ?_)
          · exact trivial
          clear hK K hHeld
          have hHeld := hHeldN
          clear hHeldN
          (try simp only [Act.put, pu1, pu2, pu3, pu4, pu5, pu6])
          refine wpAnyH_ready (rs := [13]) (by kernel_rfl) (by simp) ?_
          refine AllReadyH.cons rfl (fun K hK => ?_) AllReadyH.nil
          rw [if_pos (by rfl)]
          have q104 : Y100.cell? ⟨lb, 0, none⟩ = some (.slice sa n scap) := by rw [cell_of_row Y100 lb 0 _ _ _ hT101.hl]; rfl
          have z105 : Y100.frozen? ⟨lb, 0, none⟩ = false := by simp [World.frozen?, hT101.hl]
          go_simp
          obtain ⟨Y102, heY102⟩ : ∃ X, X = Y100.setCell ⟨lb, 0, none⟩ (.slice (some ⟨g, 0, none⟩) (n + 2) cap) := ⟨_, rfl⟩
          have hT103 := hT101.cell (.slice (some ⟨g, 0, none⟩) (n + 2) cap)
          rw [← heY102] at hT103 ⊢
          clear heY102 q104 z105 hT101
          refine hK.out _ _ ?_ (fun hHeldN => ?_)
          · exact trivial
          clear hK K hHeld
          have hHeld := hHeldN
          clear hHeldN
          (try simp only [Act.put, pu1, pu2, pu3, pu4, pu5, pu6])
          refine wpAnyH_done (by kernel_rfl) ?_ _
          have hE106 := Lib.hid (hfin.out _ hT103)
          clear hT103 hHeld
          go_wp2_with fail
          go_ret
          exact ⟨rfl, hE106.out⟩
        · rw [if_pos (by rfl)]
          have q109 : Y98.cell? ⟨lb, 0, none⟩ = some (.slice sa n scap) := by rw [cell_of_row Y98 lb 0 _ _ _ hT99.hl]; rfl
          have z110 : Y98.frozen? ⟨lb, 0, none⟩ = false := by simp [World.frozen?, hT99.hl]
          go_simp
          obtain ⟨Y107, heY107⟩ : ∃ X, X = Y98.setCell ⟨lb, 0, none⟩ (.slice (some ⟨g, 0, none⟩) (n + 2) cap) := ⟨_, rfl⟩
          have hT108 := hT99.cell (.slice (some ⟨g, 0, none⟩) (n + 2) cap)
          rw [← heY107] at hT108 ⊢
          clear heY107 q109 z110 hT99
          refine hK.out _ _ ?_ (fun hHeldN => ?_)
          · exact trivial
          clear hK K hHeld
          have hHeld := hHeldN
          clear hHeldN
          (try simp only [Act.put, pu1, pu2, pu3, pu4, pu5, pu6])
          refine wpAnyH_ready (rs := [12]) (by kernel_rfl) (by simp) ?_
          refine AllReadyH.cons rfl (fun K hK => ?_) AllReadyH.nil
          rw [if_pos (by rfl)]
          refine wp_store_at 31 (.tmp 16) (.tmp 10) rfl g ((n + 1) * 11) [d0, d1, d2, d3, d4, d5, d6, d7, d8, d9, d10] (by simp [Act.eval]) (by simp [Act.eval]) 31 r5 hT108.hg (by kernel_rfl) f5 hone2 ?_
          rw [← e6]
          obtain ⟨Y111, heY111⟩ : ∃ X, X = Y107.setRow g r6 := ⟨_, rfl⟩
          have hT112 := hT108.row r6
          rw [← heY111] at hT112 ⊢
          clear heY111 hT108
          refine hK.out _ _ ?_ (fun hHeldN => ?_)
          · exact trivial
          clear hK K hHeld
          have hHeld := hHeldN
          clear hHeldN
          (try simp only [Act.put, pu1, pu2, pu3, pu4, pu5, pu6])
          refine wpAnyH_done (by kernel_rfl) ?_ _
          have hE113 := Lib.hid (hfin.out _ hT112)
          clear hT112 hHeld
          go_wp2_with fail
          go_ret
          exact ⟨rfl, hE113.out⟩
      · rw [if_pos (by rfl)]
        have q116 : w4.cell? ⟨lb, 0, none⟩ = some (.slice sa n scap) := by rw [cell_of_row w4 lb 0 _ _ _ hT4.hl]; rfl
        have z117 : w4.frozen? ⟨lb, 0, none⟩ = false := by simp [World.frozen?, hT4.hl]
        go_simp
        obtain ⟨Y114, heY114⟩ : ∃ X, X = w4.setCell ⟨lb, 0, none⟩ (.slice (some ⟨g, 0, none⟩) (n + 2) cap) := ⟨_, rfl⟩
        have hT115 := hT4.cell (.slice (some ⟨g, 0, none⟩) (n + 2) cap)
        rw [← heY114] at hT115 ⊢
        clear heY114 q116 z117 hT4
        refine hK.out _ _ ?_ (fun hHeldN => ?_)
        · exact trivial
        clear hK K hHeld
        have hHeld := hHeldN
        clear hHeldN
        (try simp only [Act.put, pu1, pu2, pu3, pu4, pu5, pu6])
        refine wpAnyH_ready (rs := [9]) (by kernel_rfl) (by simp) ?_
        refine AllReadyH.cons rfl (fun K hK => ?_) AllReadyH.nil
        rw [if_pos (by rfl)]
        refine wp_store_at 31 (.tmp 14) (.tmp 8) rfl g (n * 11) [c0, c1, c2, c3, c4, c5, c6, c7, c8, c9, c10] (by simp [Act.eval]) (by simp [Act.eval]) 31 r4 hT115.hg (by kernel_rfl) f4 hone1 ?_
        rw [← e5]
        obtain ⟨Y118, heY118⟩ : ∃ X, X = Y114.setRow g r5 := ⟨_, rfl⟩
        have hT119 := hT115.row r5
        rw [← heY118] at hT119 ⊢
        clear heY118 hT115
        refine hK.out _ _ ?_ (fun hHeldN => ?_)
        · exact trivial
        clear hK K hHeld
        have hHeld := hHeldN
        clear hHeldN
        (try simp only [Act.put, pu1, pu2, pu3, pu4, pu5, pu6])
        refine wpAnyH_take (i := 11) (v := ?vo13) rfl (by kernel_rfl) (by kernel_rfl) (by kernel_rfl) (fun _ _ _ h => h) (.inl ⟨by rfl, ?hyo13⟩) (by assumption) ?resto13
        case hyo13 => (intro w hSw; (try dsimp only at hSw); go_simp; first | done | with_reducible rfl)
        (try simp only [Act.put, pu1, pu2, pu3, pu4, pu5, pu6])
        refine wpAnyH_ready (rs := [12]) (by kernel_rfl) (by simp) ?_
        refine AllReadyH.cons rfl (fun K hK => ?_) AllReadyH.nil
        rw [if_pos (by rfl)]
        refine wp_store_at 31 (.tmp 16) (.tmp 10) rfl g ((n + 1) * 11) [d0, d1, d2, d3, d4, d5, d6, d7, d8, d9, d10] (by simp [Act.eval]) (by simp [Act.eval]) 31 r5 hT119.hg (by kernel_rfl) f5 hone2 ?_
        rw [← e6]
        obtain ⟨Y120, heY120⟩ : ∃ X, X = Y118.setRow g r6 := ⟨_, rfl⟩
        have hT121 := hT119.row r6
        rw [← heY120] at hT121 ⊢
        clear heY120 hT119
        refine hK.out _ _ ?_ (fun hHeldN => ?_)
        · exact trivial
        clear hK K hHeld
        have hHeld := hHeldN
        clear hHeldN
        (try simp only [Act.put, pu1, pu2, pu3, pu4, pu5, pu6])
        refine wpAnyH_done (by kernel_rfl) ?_ _
        have hE122 := Lib.hid (hfin.out _ hT121)
        clear hT121 hHeld
        go_wp2_with fail
        go_ret
        exact ⟨rfl, hE122.out⟩
  · rw [if_pos (by rfl)]
    go_simp
    refine (hPK.out _ (Below.refl W.heap.size W).drew).mono ?_
    rintro e w123 ⟨cs, rfl, ht126, hw125⟩
    obtain ⟨c0, c1, c2, c3, c4, c5, c6, c7, c8, c9, c10, rfl⟩ := eleven (TRep.len ht126)
    have hb124 : Below W.heap.size W w123 := ((Below.refl W.heap.size W).drew).trans (Below.mono hw125 ((Below.refl W.heap.size W).drew).size)
    have ht127 := TRep.keep (only_keep (w' := w123) (S' := fun b => W.heap.size ≤ b) fun b _ hs => ⟨Nat.le_trans ((Below.refl W.heap.size W).drew).size hs, rfl⟩) _ _ ht126
    clear ht126
    refine hK.out _ _ ?_ (fun hHeldN => ?_)
    · exact trivial
    clear hK K hHeld
    have hHeld := hHeldN
    clear hHeldN
    (try simp only [Act.put, pu1, pu2, pu3, pu4, pu5, pu6])
    refine wpAnyH_ready (rs := [0, 4, 6]) (by kernel_rfl) (by simp) ?_
    refine AllReadyH.cons rfl (fun K hK => ?_) (AllReadyH.cons rfl (fun K hK => ?_) (AllReadyH.cons rfl (fun K hK => ?_) AllReadyH.nil))
    · rw [if_pos (by rfl)]
      have q128 := keeps_of_below hb124 _ _ q0
      go_simp
      clear q128
      refine hK.out _ _ ?_ (fun hHeldN => ?_)
      · exact trivial
      clear hK K hHeld
      have hHeld := hHeldN
      clear hHeldN
      (try simp only [Act.put, pu1, pu2, pu3, pu4, pu5, pu6])
      refine wpAnyH_take (i := 5) (v := ?vo14) rfl (by kernel_rfl) (by kernel_rfl) (by kernel_rfl) (fun _ _ _ h => h) (.inl ⟨by rfl, ?hyo14⟩) (by assumption) ?resto14
      case hyo14 => (intro w hSw; (try dsimp only at hSw); go_simp; first | done | with_reducible rfl)
      (try simp only [Act.put, pu1, pu2, pu3, pu4, pu5, pu6])
      refine wpAnyH_take (i := 10) (v := ?vo15) rfl (by kernel_rfl) (by kernel_rfl) (by kernel_rfl) (fun _ _ _ h => h) (.inl ⟨by rfl, ?hyo15⟩) (by assumption) ?resto15
      case hyo15 => (intro w hSw; (try dsimp only at hSw); go_simp; first | done | with_reducible rfl)
      (try simp only [Act.put, pu1, pu2, pu3, pu4, pu5, pu6])
      refine wpAnyH_ready (rs := [4, 6]) (by kernel_rfl) (by simp) ?_
      refine AllReadyH.cons rfl (fun K hK => ?_) (AllReadyH.cons rfl (fun K hK => ?_) AllReadyH.nil)
      · rw [if_pos (by rfl)]
        go_simp
        refine (hPV.out _ hb124).mono ?_
        rintro e w129 ⟨cs, rfl, ht132, hw131⟩
        obtain ⟨d0, d1, d2, d3, d4, d5, d6, d7, d8, d9, d10, rfl⟩ := eleven (TRep.len ht132)
        have hb130 : Below W.heap.size W w129 := (hb124).trans (Below.mono hw131 (hb124).size)
        have ht133 := TRep.keep (only_keep (w' := w129) (S' := fun b => W.heap.size ≤ b) fun b _ hs => ⟨Nat.le_trans (hb124).size hs, rfl⟩) _ _ ht132
        clear ht132
        have ht134 := TRep.keep (only_keep (w' := w129) (S' := fun b => W.heap.size ≤ b) fun b hb hs => ⟨hs, hw131.block b hb⟩) _ _ ht127
        clear ht127
        refine hK.out _ _ ?_ (fun hHeldN => ?_)
        · exact trivial
        clear hK K hHeld
        have hHeld := hHeldN
        clear hHeldN
        (try simp only [Act.put, pu1, pu2, pu3, pu4, pu5, pu6])
        refine wpAnyH_ready (rs := [6]) (by kernel_rfl) (by simp) ?_
        refine AllReadyH.cons rfl (fun K hK => ?_) AllReadyH.nil
        refine wp_of_exec (exec_buildSlice (vs := #[(0, .agg #[.int .i64 0, .bool false, .int .i64 0, .float .f64 0, .string ⟨#[]⟩, .slice none 0 0, .int .u64 0, .slice none 0 0, .slice none 0 0, .string ⟨#[]⟩, .int .i64 0]), (1, .agg #[.int .i64 0, .bool false, .int .i64 0, .float .f64 0, .string ⟨#[]⟩, .slice none 0 0, .int .u64 0, .slice none 0 0, .slice none 0 0, .string ⟨#[]⟩, .int .i64 0])]) rfl (by simp [Act.eval]) (run_build2 _)) ?_
        obtain ⟨zb, hzb⟩ : ∃ x, x = w129.heap.size := ⟨_, rfl⟩
        obtain ⟨w135, hew135⟩ : ∃ X, X = w129.alloc (.cells #[.int .i64 0, .bool false, .int .i64 0, .float .f64 0, .string ⟨#[]⟩, .slice none 0 0, .int .u64 0, .slice none 0 0, .slice none 0 0, .string ⟨#[]⟩, .int .i64 0, .int .i64 0, .bool false, .int .i64 0, .float .f64 0, .string ⟨#[]⟩, .slice none 0 0, .int .u64 0, .slice none 0 0, .slice none 0 0, .string ⟨#[]⟩, .int .i64 0] 31) := ⟨_, rfl⟩
        have hz138 : w135.heap[zb]? = some (.cells #[.int .i64 0, .bool false, .int .i64 0, .float .f64 0, .string ⟨#[]⟩, .slice none 0 0, .int .u64 0, .slice none 0 0, .slice none 0 0, .string ⟨#[]⟩, .int .i64 0, .int .i64 0, .bool false, .int .i64 0, .float .f64 0, .string ⟨#[]⟩, .slice none 0 0, .int .u64 0, .slice none 0 0, .slice none 0 0, .string ⟨#[]⟩, .int .i64 0] 31 (0, 0)) := by rw [hew135, hzb]; exact heap_alloc_new w129 _
        have hw137 : Below w129.heap.size w129 w135 := by rw [hew135]; exact (Below.refl _ _).alloc (Nat.le_refl _) _
        have hb136 : Below W.heap.size W w135 := (hb130).trans (Below.mono hw137 (hb130).size)
        rw [← hew135, ← hzb]
        clear hew135 hzb
        have ht139 := TRep.keep (only_keep (w' := w135) (S' := fun b => W.heap.size ≤ b) fun b hb hs => ⟨hs, hw137.block b hb⟩) _ _ ht134
        clear ht134
        have ht140 := TRep.keep (only_keep (w' := w135) (S' := fun b => W.heap.size ≤ b) fun b hb hs => ⟨hs, hw137.block b hb⟩) _ _ ht133
        clear ht133
        refine hK.out _ _ ?_ (fun hHeldN => ?_)
        · exact trivial
        clear hK K hHeld
        have hHeld := hHeldN
        clear hHeldN
        (try simp only [Act.put, pu1, pu2, pu3, pu4, pu5, pu6])
        refine wpAnyH_ready (rs := [7]) (by kernel_rfl) (by simp) ?_
        refine AllReadyH.cons rfl (fun K hK => ?_) AllReadyH.nil
        refine step_append_lies _ (by rfl) _ _ _ (by rfl) B 31 i0 _ 11 152 Try.underlying22 hi0 hz0 hz1 hz2 rfl (by omega) _ n xs (by rfl) (hrowX.out w135 hb136) ⟨zb, 0, none⟩ 2 2 [.int .i64 0, .bool false, .int .i64 0, .float .f64 0, .string ⟨#[]⟩, .slice none 0 0, .int .u64 0, .slice none 0 0, .slice none 0 0, .string ⟨#[]⟩, .int .i64 0, .int .i64 0, .bool false, .int .i64 0, .float .f64 0, .string ⟨#[]⟩, .slice none 0 0, .int .u64 0, .slice none 0 0, .slice none 0 0, .string ⟨#[]⟩, .int .i64 0] (by rfl) (by rfl) (World.news_of_block (cs := #[.int .i64 0, .bool false, .int .i64 0, .float .f64 0, .string ⟨#[]⟩, .slice none 0 0, .int .u64 0, .slice none 0 0, .slice none 0 0, .string ⟨#[]⟩, .int .i64 0, .int .i64 0, .bool false, .int .i64 0, .float .f64 0, .string ⟨#[]⟩, .slice none 0 0, .int .u64 0, .slice none 0 0, .slice none 0 0, .string ⟨#[]⟩, .int .i64 0]) (t := 31) (fr := (0, 0)) hz138) (fun u hu => by simp only [List.mem_cons, List.not_mem_nil, or_false] at hu; rcases hu with rfl | rfl | rfl | rfl | rfl | rfl | rfl | rfl | rfl | rfl | rfl | rfl | rfl | rfl | rfl | rfl | rfl | rfl | rfl | rfl | rfl | rfl <;> rfl) (by omega) (by unfold maxLen; omega) (by omega) (by have := (hb136).size; omega) _ rfl ?_
        intro g cap w4 hown4 hgr4 hat4 hlt4
        obtain ⟨r4, r5, r6, s4, e5, e6, f4, f5, hrows⟩ := add_rows (cs := [c0, c1, c2, c3, c4, c5, c6, c7, c8, c9, c10]) (ds := [d0, d1, d2, d3, d4, d5, d6, d7, d8, d9, d10]) hown4 hxl rfl rfl
        have hgne : g ≠ lb := fun e => by
          rcases hat4 with h | h
          · exact hlo (ownL_some.2 (by rw [h, e]))
          · have := (hb136).size; omega
        have hl4 : w4.heap[lb]? = some (.cells #[.slice sa n scap] 22 (0, 0)) := (hgr4.block lb (by have := (hb136).size; omega) (fun e => hlo (ownL_some.2 e.symm))).trans (hlX.out w135 hb136)
        have hT4 : Touch w4 w4 g lb r4 (.slice sa n scap) := ⟨rfl, rfl, rfl, rfl, s4, hl4, fun _ _ _ => rfl, hgne⟩
        have hfin := Lib.hid (fun X (hX : Touch w4 X g lb r6 (.slice (some ⟨g, 0, none⟩) (n + 2) cap)) => hdone.out _ _ _ _ _ _ _ _ hb136 ht139 ht140 hgr4 hat4 hX hrows)
        have hone1 := TRep.ones ht139
        have hone2 := TRep.ones ht140
        clear ht139 ht140 hz138 hown4 hgr4 hat4 hrows s4 hl4
        refine hK.out _ _ ?_ (fun hHeldN => ?_)
        · exact trivial
        clear hK K hHeld
        have hHeld := hHeldN
        clear hHeldN
        (try simp only [Act.put, pu1, pu2, pu3, pu4, pu5, pu6])
        refine wpAnyH_take (i := 8) (v := ?vo16) rfl (by kernel_rfl) (by kernel_rfl) (by kernel_rfl) (fun _ _ _ h => h) (.inl ⟨by rfl, ?hyo16⟩) (by assumption) ?resto16
        case hyo16 => (intro w hSw; (try dsimp only at hSw); go_simp; first | done | with_reducible rfl)
        (try simp only [Act.put, pu1, pu2, pu3, pu4, pu5, pu6])
        refine wpAnyH_ready (rs := [9, 13]) (by kernel_rfl) (by simp) ?_
        refine AllReadyH.cons rfl (fun K hK => ?_) (AllReadyH.cons rfl (fun K hK => ?_) AllReadyH.nil)
        · rw [if_pos (by rfl)]
          refine wp_store_at 31 (.tmp 14) (.tmp 8) rfl g (n * 11) [c0, c1, c2, c3, c4, c5, c6, c7, c8, c9, c10] (by simp [Act.eval]) (by simp [Act.eval]) 31 r4 hT4.hg (by kernel_rfl) f4 hone1 ?_
          rw [← e5]
          obtain ⟨Y141, heY141⟩ : ∃ X, X = w4.setRow g r5 := ⟨_, rfl⟩
          have hT142 := hT4.row r5
          rw [← heY141] at hT142 ⊢
          clear heY141 hT4
          refine hK.out _ _ ?_ (fun hHeldN => ?_)
          · exact trivial
          clear hK K hHeld
          have hHeld := hHeldN
          clear hHeldN
          (try simp only [Act.put, pu1, pu2, pu3, pu4, pu5, pu6])
          refine wpAnyH_take (i := 11) (v := ?vo17) rfl (by kernel_rfl) (by kernel_rfl) (by kernel_rfl) (fun _ _ _ h => h) (.inl ⟨by rfl, ?hyo17⟩) (by assumption) ?resto17
          case hyo17 => (intro w hSw; (try dsimp only at hSw); go_simp; first | done | with_reducible rfl)
          (try simp only [Act.put, pu1, pu2, pu3, pu4, pu5, pu6])
          refine wpAnyH_ready (rs := [12, 13]) (by kernel_rfl) (by simp) ?_
          refine AllReadyH.cons rfl (fun K hK => ?_) (AllReadyH.cons rfl (fun K hK => ?_) AllReadyH.nil)
          · rw [if_pos (by rfl)]
            refine wp_store_at 31 (.tmp 16) (.tmp 10) rfl g ((n + 1) * 11) [d0, d1, d2, d3, d4, d5, d6, d7, d8, d9, d10] (by simp [Act.eval]) (by simp [Act.eval]) 31 r5 hT142.hg (by kernel_rfl) f5 hone2 ?_
            rw [← e6]
            obtain ⟨Y143, heY143⟩ : ∃ X, X = Y141.setRow g r6 := ⟨_, rfl⟩
            have hT144 := hT142.row r6
            rw [← heY143] at hT144 ⊢
            clear heY143 hT142
            refine hK.out _ _ ?_ (fun hHeldN => ?_)
            · exact trivial
            clear hK K hHeld
            have hHeld := hHeldN
            clear hHeldN
            (try simp only [Act.put, pu1, pu2, pu3, pu4, pu5, pu6])
            refine wpAnyH_ready (rs := [13]) (by kernel_rfl) (by simp) ?_
            refine AllReadyH.cons rfl (fun K hK => ?_) AllReadyH.nil
            rw [if_pos (by rfl)]
            have q147 : Y143.cell? ⟨lb, 0, none⟩ = some (.slice sa n scap) := by rw [cell_of_row Y143 lb 0 _ _ _ hT144.hl]; rfl
            have z148 : Y143.frozen? ⟨lb, 0, none⟩ = false := by simp [World.frozen?, hT144.hl]
            go_simp
            obtain ⟨Y145, heY145⟩ : ∃ X, X = Y143.setCell ⟨lb, 0, none⟩ (.slice (some ⟨g, 0, none⟩) (n + 2) cap) := ⟨_, rfl⟩
            have hT146 := hT144.cell (.slice (some ⟨g, 0, none⟩) (n + 2) cap)
            rw [← heY145] at hT146 ⊢
            clear heY145 q147 z148 hT144
            refine hK.out _ _ ?_ (fun hHeldN => ?_)
            · exact trivial
            clear hK K hHeld
            have hHeld := hHeldN
            clear hHeldN
            (try simp only [Act.put, pu1, pu2, pu3, pu4, pu5, pu6])
            refine wpAnyH_done (by kernel_rfl) ?_ _
            have hE149 := Lib.hid (hfin.out _ hT146)
            clear hT146 hHeld
            go_wp2_with fail
            go_ret
            exact ⟨rfl, hE149.out⟩
          · rw [if_pos (by rfl)]
            have q152 : Y141.cell? ⟨lb, 0, none⟩ = some (.slice sa n scap) := by rw [cell_of_row Y141 lb 0 _ _ _ hT142.hl]; rfl
            have z153 : Y141.frozen? ⟨lb, 0, none⟩ = false := by simp [World.frozen?, hT142.hl]
            go_simp
            obtain ⟨Y150, heY150⟩ : ∃ X, X = Y141.setCell ⟨lb, 0, none⟩ (.slice (some ⟨g, 0, none⟩) (n + 2) cap) := ⟨_, rfl⟩
            have hT151 := hT142.cell (.slice (some ⟨g, 0, none⟩) (n + 2) cap)
            rw [← heY150] at hT151 ⊢
            clear heY150 q152 z153 hT142
            refine hK.out _ _ ?_ (fun hHeldN => ?_)
            · exact trivial
            clear hK K hHeld
            have hHeld := hHeldN
            clear hHeldN
            (try simp only [Act.put, pu1, pu2, pu3, pu4, pu5, pu6])
            refine wpAnyH_ready (rs := [12]) (by kernel_rfl) (by simp) ?_
            refine AllReadyH.cons rfl (fun K hK => ?_) AllReadyH.nil
            rw [if_pos (by rfl)]
            refine wp_store_at 31 (.tmp 16) (.tmp 10) rfl g ((n + 1) * 11) [d0, d1, d2, d3, d4, d5, d6, d7, d8, d9, d10] (by simp [Act.eval]) (by simp [Act.eval]) 31 r5 hT151.hg (by kernel_rfl) f5 hone2 ?_
            rw [← e6]
            obtain ⟨Y154, heY154⟩ : ∃ X, X = Y150.setRow g r6 := ⟨_, rfl⟩
            have hT155 := hT151.row r6
            rw [← heY154] at hT155 ⊢
            clear heY154 hT151
            refine hK.out _ _ ?_ (fun hHeldN => ?_)
            · exact trivial
            clear hK K hHeld
            have hHeld := hHeldN
            clear hHeldN
            (try simp only [Act.put, pu1, pu2, pu3, pu4, pu5, pu6])
            refine wpAnyH_done (by kernel_rfl) ?_ _
            have hE156 := Lib.hid (hfin.out _ hT155)
            clear hT155 hHeld
            go_wp2_with fail
            go_ret
            exact ⟨rfl, hE156.out⟩
        · rw [if_pos (by rfl)]
          have q159 : w4.cell? ⟨lb, 0, none⟩ = some (.slice sa n scap) := by rw [cell_of_row w4 lb 0 _ _ _ hT4.hl]; rfl
          have z160 : w4.frozen? ⟨lb, 0, none⟩ = false := by simp [World.frozen?, hT4.hl]
          go_simp
          obtain ⟨Y157, heY157⟩ : ∃ X, X = w4.setCell ⟨lb, 0, none⟩ (.slice (some ⟨g, 0, none⟩) (n + 2) cap) := ⟨_, rfl⟩
          have hT158 := hT4.cell (.slice (some ⟨g, 0, none⟩) (n + 2) cap)
          rw [← heY157] at hT158 ⊢
          clear heY157 q159 z160 hT4
          refine hK.out _ _ ?_ (fun hHeldN => ?_)
          · exact trivial
          clear hK K hHeld
          have hHeld := hHeldN
          clear hHeldN
          (try simp only [Act.put, pu1, pu2, pu3, pu4, pu5, pu6])
          refine wpAnyH_ready (rs := [9]) (by kernel_rfl) (by simp) ?_
          refine AllReadyH.cons rfl (fun K hK => ?_) AllReadyH.nil
          rw [if_pos (by rfl)]
          refine wp_store_at 31 (.tmp 14) (.tmp 8) rfl g (n * 11) [c0, c1, c2, c3, c4, c5, c6, c7, c8, c9, c10] (by simp [Act.eval]) (by simp [Act.eval]) 31 r4 hT158.hg (by kernel_rfl) f4 hone1 ?_
          rw [← e5]
          obtain ⟨Y161, heY161⟩ : ∃ X, X = Y157.setRow g r5 := ⟨_, rfl⟩
          have hT162 := hT158.row r5
          rw [← heY161] at hT162 ⊢
          clear heY161 hT158
          refine hK.out _ _ ?_ (fun hHeldN => ?_)
          · exact trivial
          clear hK K hHeld
          have hHeld := hHeldN
          clear hHeldN
          (try simp only [Act.put, pu1, pu2, pu3, pu4, pu5, pu6])
          refine wpAnyH_take (i := 11) (v := ?vo18) rfl (by kernel_rfl) (by kernel_rfl) (by kernel_rfl) (fun _ _ _ h => h) (.inl ⟨by rfl, ?hyo18⟩) (by assumption) ?resto18
          case hyo18 => (intro w hSw; (try dsimp only at hSw); go_simp; first | done | with_reducible rfl)
          (try simp only [Act.put, pu1, pu2, pu3, pu4, pu5, pu6])
          refine wpAnyH_ready (rs := [12]) (by kernel_rfl) (by simp) ?_
          refine AllReadyH.cons rfl (fun K hK => ?_) AllReadyH.nil
          rw [if_pos (by rfl)]
          refine wp_store_at 31 (.tmp 16) (.tmp 10) rfl g ((n + 1) * 11) [d0, d1, d2, d3, d4, d5, d6, d7, d8, d9, d10] (by simp [Act.eval]) (by simp [Act.eval]) 31 r5 hT162.hg (by kernel_rfl) f5 hone2 ?_
          rw [← e6]
          obtain ⟨Y163, heY163⟩ : ∃ X, X = Y161.setRow g r6 := ⟨_, rfl⟩
          have hT164 := hT162.row r6
          rw [← heY163] at hT164 ⊢
          clear heY163 hT162
          refine hK.out _ _ ?_ (fun hHeldN => ?_)
          · exact trivial
          clear hK K hHeld
          have hHeld := hHeldN
          clear hHeldN
          (try simp only [Act.put, pu1, pu2, pu3, pu4, pu5, pu6])
          refine wpAnyH_done (by kernel_rfl) ?_ _
          have hE165 := Lib.hid (hfin.out _ hT164)
          clear hT164 hHeld
          go_wp2_with fail
          go_ret
          exact ⟨rfl, hE165.out⟩
      · refine wp_of_exec (exec_buildSlice (vs := #[(0, .agg #[.int .i64 0, .bool false, .int .i64 0, .float .f64 0, .string ⟨#[]⟩, .slice none 0 0, .int .u64 0, .slice none 0 0, .slice none 0 0, .string ⟨#[]⟩, .int .i64 0]), (1, .agg #[.int .i64 0, .bool false, .int .i64 0, .float .f64 0, .string ⟨#[]⟩, .slice none 0 0, .int .u64 0, .slice none 0 0, .slice none 0 0, .string ⟨#[]⟩, .int .i64 0])]) rfl (by simp [Act.eval]) (run_build2 _)) ?_
        obtain ⟨zb, hzb⟩ : ∃ x, x = w123.heap.size := ⟨_, rfl⟩
        obtain ⟨w166, hew166⟩ : ∃ X, X = w123.alloc (.cells #[.int .i64 0, .bool false, .int .i64 0, .float .f64 0, .string ⟨#[]⟩, .slice none 0 0, .int .u64 0, .slice none 0 0, .slice none 0 0, .string ⟨#[]⟩, .int .i64 0, .int .i64 0, .bool false, .int .i64 0, .float .f64 0, .string ⟨#[]⟩, .slice none 0 0, .int .u64 0, .slice none 0 0, .slice none 0 0, .string ⟨#[]⟩, .int .i64 0] 31) := ⟨_, rfl⟩
        have hz169 : w166.heap[zb]? = some (.cells #[.int .i64 0, .bool false, .int .i64 0, .float .f64 0, .string ⟨#[]⟩, .slice none 0 0, .int .u64 0, .slice none 0 0, .slice none 0 0, .string ⟨#[]⟩, .int .i64 0, .int .i64 0, .bool false, .int .i64 0, .float .f64 0, .string ⟨#[]⟩, .slice none 0 0, .int .u64 0, .slice none 0 0, .slice none 0 0, .string ⟨#[]⟩, .int .i64 0] 31 (0, 0)) := by rw [hew166, hzb]; exact heap_alloc_new w123 _
        have hw168 : Below w123.heap.size w123 w166 := by rw [hew166]; exact (Below.refl _ _).alloc (Nat.le_refl _) _
        have hb167 : Below W.heap.size W w166 := (hb124).trans (Below.mono hw168 (hb124).size)
        rw [← hew166, ← hzb]
        clear hew166 hzb
        have ht170 := TRep.keep (only_keep (w' := w166) (S' := fun b => W.heap.size ≤ b) fun b hb hs => ⟨hs, hw168.block b hb⟩) _ _ ht127
        clear ht127
        refine hK.out _ _ ?_ (fun hHeldN => ?_)
        · exact trivial
        clear hK K hHeld
        have hHeld := hHeldN
        clear hHeldN
        (try simp only [Act.put, pu1, pu2, pu3, pu4, pu5, pu6])
        refine wpAnyH_ready (rs := [4]) (by kernel_rfl) (by simp) ?_
        refine AllReadyH.cons rfl (fun K hK => ?_) AllReadyH.nil
        rw [if_pos (by rfl)]
        go_simp
        refine (hPV.out _ hb167).mono ?_
        rintro e w171 ⟨cs, rfl, ht174, hw173⟩
        obtain ⟨d0, d1, d2, d3, d4, d5, d6, d7, d8, d9, d10, rfl⟩ := eleven (TRep.len ht174)
        have hb172 : Below W.heap.size W w171 := (hb167).trans (Below.mono hw173 (hb167).size)
        have ht175 := TRep.keep (only_keep (w' := w171) (S' := fun b => W.heap.size ≤ b) fun b _ hs => ⟨Nat.le_trans (hb167).size hs, rfl⟩) _ _ ht174
        clear ht174
        have ht176 := TRep.keep (only_keep (w' := w171) (S' := fun b => W.heap.size ≤ b) fun b hb hs => ⟨hs, hw173.block b hb⟩) _ _ ht170
        clear ht170
        have hz177 := (hw173.block zb (Array.getElem?_eq_some_iff.1 hz169).1).trans hz169
        clear hz169
        refine hK.out _ _ ?_ (fun hHeldN => ?_)
        · exact trivial
        clear hK K hHeld
        have hHeld := hHeldN
        clear hHeldN
        (try simp only [Act.put, pu1, pu2, pu3, pu4, pu5, pu6])
        refine wpAnyH_ready (rs := [7]) (by kernel_rfl) (by simp) ?_
        refine AllReadyH.cons rfl (fun K hK => ?_) AllReadyH.nil
        refine step_append_lies _ (by rfl) _ _ _ (by rfl) B 31 i0 _ 11 152 Try.underlying22 hi0 hz0 hz1 hz2 rfl (by omega) _ n xs (by rfl) (hrowX.out w171 hb172) ⟨zb, 0, none⟩ 2 2 [.int .i64 0, .bool false, .int .i64 0, .float .f64 0, .string ⟨#[]⟩, .slice none 0 0, .int .u64 0, .slice none 0 0, .slice none 0 0, .string ⟨#[]⟩, .int .i64 0, .int .i64 0, .bool false, .int .i64 0, .float .f64 0, .string ⟨#[]⟩, .slice none 0 0, .int .u64 0, .slice none 0 0, .slice none 0 0, .string ⟨#[]⟩, .int .i64 0] (by rfl) (by rfl) (World.news_of_block (cs := #[.int .i64 0, .bool false, .int .i64 0, .float .f64 0, .string ⟨#[]⟩, .slice none 0 0, .int .u64 0, .slice none 0 0, .slice none 0 0, .string ⟨#[]⟩, .int .i64 0, .int .i64 0, .bool false, .int .i64 0, .float .f64 0, .string ⟨#[]⟩, .slice none 0 0, .int .u64 0, .slice none 0 0, .slice none 0 0, .string ⟨#[]⟩, .int .i64 0]) (t := 31) (fr := (0, 0)) hz177) (fun u hu => by simp only [List.mem_cons, List.not_mem_nil, or_false] at hu; rcases hu with rfl | rfl | rfl | rfl | rfl | rfl | rfl | rfl | rfl | rfl | rfl | rfl | rfl | rfl | rfl | rfl | rfl | rfl | rfl | rfl | rfl | rfl <;> rfl) (by omega) (by unfold maxLen; omega) (by omega) (by have := (hb172).size; omega) _ rfl ?_
        intro g cap w4 hown4 hgr4 hat4 hlt4
        obtain ⟨r4, r5, r6, s4, e5, e6, f4, f5, hrows⟩ := add_rows (cs := [c0, c1, c2, c3, c4, c5, c6, c7, c8, c9, c10]) (ds := [d0, d1, d2, d3, d4, d5, d6, d7, d8, d9, d10]) hown4 hxl rfl rfl
        have hgne : g ≠ lb := fun e => by
          rcases hat4 with h | h
          · exact hlo (ownL_some.2 (by rw [h, e]))
          · have := (hb172).size; omega
        have hl4 : w4.heap[lb]? = some (.cells #[.slice sa n scap] 22 (0, 0)) := (hgr4.block lb (by have := (hb172).size; omega) (fun e => hlo (ownL_some.2 e.symm))).trans (hlX.out w171 hb172)
        have hT4 : Touch w4 w4 g lb r4 (.slice sa n scap) := ⟨rfl, rfl, rfl, rfl, s4, hl4, fun _ _ _ => rfl, hgne⟩
        have hfin := Lib.hid (fun X (hX : Touch w4 X g lb r6 (.slice (some ⟨g, 0, none⟩) (n + 2) cap)) => hdone.out _ _ _ _ _ _ _ _ hb172 ht176 ht175 hgr4 hat4 hX hrows)
        have hone1 := TRep.ones ht176
        have hone2 := TRep.ones ht175
        clear ht176 ht175 hz177 hown4 hgr4 hat4 hrows s4 hl4
        refine hK.out _ _ ?_ (fun hHeldN => ?_)
        · exact trivial
        clear hK K hHeld
        have hHeld := hHeldN
        clear hHeldN
        (try simp only [Act.put, pu1, pu2, pu3, pu4, pu5, pu6])
        refine wpAnyH_take (i := 8) (v := ?vo19) rfl (by kernel_rfl) (by kernel_rfl) (by kernel_rfl) (fun _ _ _ h => h) (.inl ⟨by rfl, ?hyo19⟩) (by assumption) ?resto19
        case hyo19 => (intro w hSw; (try dsimp only at hSw); go_simp; first | done | with_reducible rfl)
        (try simp only [Act.put, pu1, pu2, pu3, pu4, pu5, pu6])
        refine wpAnyH_ready (rs := [9, 13]) (by kernel_rfl) (by simp) ?_
        refine AllReadyH.cons rfl (fun K hK => ?_) (AllReadyH.cons rfl (fun K hK => ?_) AllReadyH.nil)
        · rw [if_pos (by rfl)]
          refine wp_store_at 31 (.tmp 14) (.tmp 8) rfl g (n * 11) [c0, c1, c2, c3, c4, c5, c6, c7, c8, c9, c10] (by simp [Act.eval]) (by simp [Act.eval]) 31 r4 hT4.hg (by kernel_rfl) f4 hone1 ?_
          rw [← e5]
          obtain ⟨Y178, heY178⟩ : ∃ X, X = w4.setRow g r5 := ⟨_, rfl⟩
          have hT179 := hT4.row r5
          rw [← heY178] at hT179 ⊢
          clear heY178 hT4
          refine hK.out _ _ ?_ (fun hHeldN => ?_)
          · exact trivial
          clear hK K hHeld
          have hHeld := hHeldN
          clear hHeldN
          (try simp only [Act.put, pu1, pu2, pu3, pu4, pu5, pu6])
          refine wpAnyH_take (i := 11) (v := ?vo20) rfl (by kernel_rfl) (by kernel_rfl) (by kernel_rfl) (fun _ _ _ h => h) (.inl ⟨by rfl, ?hyo20⟩) (by assumption) ?resto20
          case hyo20 => (intro w hSw; (try dsimp only at hSw); go_simp; first | done | with_reducible rfl)
          (try simp only [Act.put, pu1, pu2, pu3, pu4, pu5, pu6])
          refine wpAnyH_ready (rs := [12, 13]) (by kernel_rfl) (by simp) ?_
          refine AllReadyH.cons rfl (fun K hK => ?_) (AllReadyH.cons rfl (fun K hK => ?_) AllReadyH.nil)
          · rw [if_pos (by rfl)]
            refine wp_store_at 31 (.tmp 16) (.tmp 10) rfl g ((n + 1) * 11) [d0, d1, d2, d3, d4, d5, d6, d7, d8, d9, d10] (by simp [Act.eval]) (by simp [Act.eval]) 31 r5 hT179.hg (by kernel_rfl) f5 hone2 ?_
            rw [← e6]
            obtain ⟨Y180, heY180⟩ : ∃ X, X = Y178.setRow g r6 := ⟨_, rfl⟩
            have hT181 := hT179.row r6
            rw [← heY180] at hT181 ⊢
            clear heY180 hT179
            refine hK.out _ _ ?_ (fun hHeldN => ?_)
            · exact trivial
            clear hK K hHeld
            have hHeld := hHeldN
            clear hHeldN
            (try simp only [Act.put, pu1, pu2, pu3, pu4, pu5, pu6])
            refine wpAnyH_ready (rs := [13]) (by kernel_rfl) (by simp) ?_
            refine AllReadyH.cons rfl (fun K hK => ?_) AllReadyH.nil
            rw [if_pos (by rfl)]
            have q184 : Y180.cell? ⟨lb, 0, none⟩ = some (.slice sa n scap) := by rw [cell_of_row Y180 lb 0 _ _ _ hT181.hl]; rfl
            have z185 : Y180.frozen? ⟨lb, 0, none⟩ = false := by simp [World.frozen?, hT181.hl]
            go_simp
            obtain ⟨Y182, heY182⟩ : ∃ X, X = Y180.setCell ⟨lb, 0, none⟩ (.slice (some ⟨g, 0, none⟩) (n + 2) cap) := ⟨_, rfl⟩
            have hT183 := hT181.cell (.slice (some ⟨g, 0, none⟩) (n + 2) cap)
            rw [← heY182] at hT183 ⊢
            clear heY182 q184 z185 hT181
            refine hK.out _ _ ?_ (fun hHeldN => ?_)
            · exact trivial
            clear hK K hHeld
            have hHeld := hHeldN
            clear hHeldN
            (try simp only [Act.put, pu1, pu2, pu3, pu4, pu5, pu6])
            refine wpAnyH_done (by kernel_rfl) ?_ _
            have hE186 := Lib.hid (hfin.out _ hT183)
            clear hT183 hHeld
            go_wp2_with fail
            go_ret
            exact ⟨rfl, hE186.out⟩
          · rw [if_pos (by rfl)]
            have q189 : Y178.cell? ⟨lb, 0, none⟩ = some (.slice sa n scap) := by rw [cell_of_row Y178 lb 0 _ _ _ hT179.hl]; rfl
            have z190 : Y178.frozen? ⟨lb, 0, none⟩ = false := by simp [World.frozen?, hT179.hl]
            go_simp
            obtain ⟨Y187, heY187⟩ : ∃ X, X = Y178.setCell ⟨lb, 0, none⟩ (.slice (some ⟨g, 0, none⟩) (n + 2) cap) := ⟨_, rfl⟩
            have hT188 := hT179.cell (.slice (some ⟨g, 0, none⟩) (n + 2) cap)
            rw [← heY187] at hT188 ⊢
            clear heY187 q189 z190 hT179
            refine hK.out _ _ ?_ (fun hHeldN => ?_)
            · exact trivial
            clear hK K hHeld
            have hHeld := hHeldN
            clear hHeldN
            (try simp only [Act.put, pu1, pu2, pu3, pu4, pu5, pu6])
            refine wpAnyH_ready (rs := [12]) (by kernel_rfl) (by simp) ?_
            refine AllReadyH.cons rfl (fun K hK => ?_) AllReadyH.nil
            rw [if_pos (by rfl)]
            refine wp_store_at 31 (.tmp 16) (.tmp 10) rfl g ((n + 1) * 11) [d0, d1, d2, d3, d4, d5, d6, d7, d8, d9, d10] (by simp [Act.eval]) (by simp [Act.eval]) 31 r5 hT188.hg (by kernel_rfl) f5 hone2 ?_
            rw [← e6]
            obtain ⟨Y191, heY191⟩ : ∃ X, X = Y187.setRow g r6 := ⟨_, rfl⟩
            have hT192 := hT188.row r6
            rw [← heY191] at hT192 ⊢
            clear heY191 hT188
            refine hK.out _ _ ?_ (fun hHeldN => ?_)
            · exact trivial
            clear hK K hHeld
            have hHeld := hHeldN
            clear hHeldN
            (try simp only [Act.put, pu1, pu2, pu3, pu4, pu5, pu6])
            refine wpAnyH_done (by kernel_rfl) ?_ _
            have hE193 := Lib.hid (hfin.out _ hT192)
            clear hT192 hHeld
            go_wp2_with fail
            go_ret
            exact ⟨rfl, hE193.out⟩
        · rw [if_pos (by rfl)]
          have q196 : w4.cell? ⟨lb, 0, none⟩ = some (.slice sa n scap) := by rw [cell_of_row w4 lb 0 _ _ _ hT4.hl]; rfl
          have z197 : w4.frozen? ⟨lb, 0, none⟩ = false := by simp [World.frozen?, hT4.hl]
          go_simp
          obtain ⟨Y194, heY194⟩ : ∃ X, X = w4.setCell ⟨lb, 0, none⟩ (.slice (some ⟨g, 0, none⟩) (n + 2) cap) := ⟨_, rfl⟩
          have hT195 := hT4.cell (.slice (some ⟨g, 0, none⟩) (n + 2) cap)
          rw [← heY194] at hT195 ⊢
          clear heY194 q196 z197 hT4
          refine hK.out _ _ ?_ (fun hHeldN => ?_)
          · exact trivial
          clear hK K hHeld
          have hHeld := hHeldN
          clear hHeldN
          (try simp only [Act.put, pu1, pu2, pu3, pu4, pu5, pu6])
          refine wpAnyH_ready (rs := [9]) (by kernel_rfl) (by simp) ?_
          refine AllReadyH.cons rfl (fun K hK => ?_) AllReadyH.nil
          rw [if_pos (by rfl)]
          refine wp_store_at 31 (.tmp 14) (.tmp 8) rfl g (n * 11) [c0, c1, c2, c3, c4, c5, c6, c7, c8, c9, c10] (by simp [Act.eval]) (by simp [Act.eval]) 31 r4 hT195.hg (by kernel_rfl) f4 hone1 ?_
          rw [← e5]
          obtain ⟨Y198, heY198⟩ : ∃ X, X = Y194.setRow g r5 := ⟨_, rfl⟩
          have hT199 := hT195.row r5
          rw [← heY198] at hT199 ⊢
          clear heY198 hT195
          refine hK.out _ _ ?_ (fun hHeldN => ?_)
          · exact trivial
          clear hK K hHeld
          have hHeld := hHeldN
          clear hHeldN
          (try simp only [Act.put, pu1, pu2, pu3, pu4, pu5, pu6])
          refine wpAnyH_take (i := 11) (v := ?vo21) rfl (by kernel_rfl) (by kernel_rfl) (by kernel_rfl) (fun _ _ _ h => h) (.inl ⟨by rfl, ?hyo21⟩) (by assumption) ?resto21
          case hyo21 => (intro w hSw; (try dsimp only at hSw); go_simp; first | done | with_reducible rfl)
          (try simp only [Act.put, pu1, pu2, pu3, pu4, pu5, pu6])
          refine wpAnyH_ready (rs := [12]) (by kernel_rfl) (by simp) ?_
          refine AllReadyH.cons rfl (fun K hK => ?_) AllReadyH.nil
          rw [if_pos (by rfl)]
          refine wp_store_at 31 (.tmp 16) (.tmp 10) rfl g ((n + 1) * 11) [d0, d1, d2, d3, d4, d5, d6, d7, d8, d9, d10] (by simp [Act.eval]) (by simp [Act.eval]) 31 r5 hT199.hg (by kernel_rfl) f5 hone2 ?_
          rw [← e6]
          obtain ⟨Y200, heY200⟩ : ∃ X, X = Y198.setRow g r6 := ⟨_, rfl⟩
          have hT201 := hT199.row r6
          rw [← heY200] at hT201 ⊢
          clear heY200 hT199
          refine hK.out _ _ ?_ (fun hHeldN => ?_)
          · exact trivial
          clear hK K hHeld
          have hHeld := hHeldN
          clear hHeldN
          (try simp only [Act.put, pu1, pu2, pu3, pu4, pu5, pu6])
          refine wpAnyH_done (by kernel_rfl) ?_ _
          have hE202 := Lib.hid (hfin.out _ hT201)
          clear hT201 hHeld
          go_wp2_with fail
          go_ret
          exact ⟨rfl, hE202.out⟩
    · rw [if_pos (by rfl)]
      go_simp
      refine (hPV.out _ hb124).mono ?_
      rintro e w203 ⟨cs, rfl, ht206, hw205⟩
      obtain ⟨d0, d1, d2, d3, d4, d5, d6, d7, d8, d9, d10, rfl⟩ := eleven (TRep.len ht206)
      have hb204 : Below W.heap.size W w203 := (hb124).trans (Below.mono hw205 (hb124).size)
      have ht207 := TRep.keep (only_keep (w' := w203) (S' := fun b => W.heap.size ≤ b) fun b _ hs => ⟨Nat.le_trans (hb124).size hs, rfl⟩) _ _ ht206
      clear ht206
      have ht208 := TRep.keep (only_keep (w' := w203) (S' := fun b => W.heap.size ≤ b) fun b hb hs => ⟨hs, hw205.block b hb⟩) _ _ ht127
      clear ht127
      refine hK.out _ _ ?_ (fun hHeldN => ?_)
      · exact trivial
      clear hK K hHeld
      have hHeld := hHeldN
      clear hHeldN
      (try simp only [Act.put, pu1, pu2, pu3, pu4, pu5, pu6])
      refine wpAnyH_ready (rs := [0, 6]) (by kernel_rfl) (by simp) ?_
      refine AllReadyH.cons rfl (fun K hK => ?_) (AllReadyH.cons rfl (fun K hK => ?_) AllReadyH.nil)
      · rw [if_pos (by rfl)]
        have q209 := keeps_of_below hb204 _ _ q0
        go_simp
        clear q209
        refine hK.out _ _ ?_ (fun hHeldN => ?_)
        · exact trivial
        clear hK K hHeld
        have hHeld := hHeldN
        clear hHeldN
        (try simp only [Act.put, pu1, pu2, pu3, pu4, pu5, pu6])
        refine wpAnyH_take (i := 5) (v := ?vo22) rfl (by kernel_rfl) (by kernel_rfl) (by kernel_rfl) (fun _ _ _ h => h) (.inl ⟨by rfl, ?hyo22⟩) (by assumption) ?resto22
        case hyo22 => (intro w hSw; (try dsimp only at hSw); go_simp; first | done | with_reducible rfl)
        (try simp only [Act.put, pu1, pu2, pu3, pu4, pu5, pu6])
        refine wpAnyH_take (i := 10) (v := ?vo23) rfl (by kernel_rfl) (by kernel_rfl) (by kernel_rfl) (fun _ _ _ h => h) (.inl ⟨by rfl, ?hyo23⟩) (by assumption) ?resto23
        case hyo23 => (intro w hSw; (try dsimp only at hSw); go_simp; first | done | with_reducible rfl)
        (try simp only [Act.put, pu1, pu2, pu3, pu4, pu5, pu6])
        refine wpAnyH_ready (rs := [6]) (by kernel_rfl) (by simp) ?_
        refine AllReadyH.cons rfl (fun K hK => ?_) AllReadyH.nil
        refine wp_of_exec (exec_buildSlice (vs := #[(0, .agg #[.int .i64 0, .bool false, .int .i64 0, .float .f64 0, .string ⟨#[]⟩, .slice none 0 0, .int .u64 0, .slice none 0 0, .slice none 0 0, .string ⟨#[]⟩, .int .i64 0]), (1, .agg #[.int .i64 0, .bool false, .int .i64 0, .float .f64 0, .string ⟨#[]⟩, .slice none 0 0, .int .u64 0, .slice none 0 0, .slice none 0 0, .string ⟨#[]⟩, .int .i64 0])]) rfl (by simp [Act.eval]) (run_build2 _)) ?_
        obtain ⟨zb, hzb⟩ : ∃ x, x = w203.heap.size := ⟨_, rfl⟩
        obtain ⟨w210, hew210⟩ : ∃ X, X = w203.alloc (.cells #[.int .i64 0, .bool false, .int .i64 0, .float .f64 0, .string ⟨#[]⟩, .slice none 0 0, .int .u64 0, .slice none 0 0, .slice none 0 0, .string ⟨#[]⟩, .int .i64 0, .int .i64 0, .bool false, .int .i64 0, .float .f64 0, .string ⟨#[]⟩, .slice none 0 0, .int .u64 0, .slice none 0 0, .slice none 0 0, .string ⟨#[]⟩, .int .i64 0] 31) := ⟨_, rfl⟩
        have hz213 : w210.heap[zb]? = some (.cells #[.int .i64 0, .bool false, .int .i64 0, .float .f64 0, .string ⟨#[]⟩, .slice none 0 0, .int .u64 0, .slice none 0 0, .slice none 0 0, .string ⟨#[]⟩, .int .i64 0, .int .i64 0, .bool false, .int .i64 0, .float .f64 0, .string ⟨#[]⟩, .slice none 0 0, .int .u64 0, .slice none 0 0, .slice none 0 0, .string ⟨#[]⟩, .int .i64 0] 31 (0, 0)) := by rw [hew210, hzb]; exact heap_alloc_new w203 _
        have hw212 : Below w203.heap.size w203 w210 := by rw [hew210]; exact (Below.refl _ _).alloc (Nat.le_refl _) _
        have hb211 : Below W.heap.size W w210 := (hb204).trans (Below.mono hw212 (hb204).size)
        rw [← hew210, ← hzb]
        clear hew210 hzb
        have ht214 := TRep.keep (only_keep (w' := w210) (S' := fun b => W.heap.size ≤ b) fun b hb hs => ⟨hs, hw212.block b hb⟩) _ _ ht208
        clear ht208
        have ht215 := TRep.keep (only_keep (w' := w210) (S' := fun b => W.heap.size ≤ b) fun b hb hs => ⟨hs, hw212.block b hb⟩) _ _ ht207
        clear ht207
        refine hK.out _ _ ?_ (fun hHeldN => ?_)
        · exact trivial
        clear hK K hHeld
        have hHeld := hHeldN
        clear hHeldN
        (try simp only [Act.put, pu1, pu2, pu3, pu4, pu5, pu6])
        refine wpAnyH_ready (rs := [7]) (by kernel_rfl) (by simp) ?_
        refine AllReadyH.cons rfl (fun K hK => ?_) AllReadyH.nil
        refine step_append_lies _ (by rfl) _ _ _ (by rfl) B 31 i0 _ 11 152 Try.underlying22 hi0 hz0 hz1 hz2 rfl (by omega) _ n xs (by rfl) (hrowX.out w210 hb211) ⟨zb, 0, none⟩ 2 2 [.int .i64 0, .bool false, .int .i64 0, .float .f64 0, .string ⟨#[]⟩, .slice none 0 0, .int .u64 0, .slice none 0 0, .slice none 0 0, .string ⟨#[]⟩, .int .i64 0, .int .i64 0, .bool false, .int .i64 0, .float .f64 0, .string ⟨#[]⟩, .slice none 0 0, .int .u64 0, .slice none 0 0, .slice none 0 0, .string ⟨#[]⟩, .int .i64 0] (by rfl) (by rfl) (World.news_of_block (cs := #[.int .i64 0, .bool false, .int .i64 0, .float .f64 0, .string ⟨#[]⟩, .slice none 0 0, .int .u64 0, .slice none 0 0, .slice none 0 0, .string ⟨#[]⟩, .int .i64 0, .int .i64 0, .bool false, .int .i64 0, .float .f64 0, .string ⟨#[]⟩, .slice none 0 0, .int .u64 0, .slice none 0 0, .slice none 0 0, .string ⟨#[]⟩, .int .i64 0]) (t := 31) (fr := (0, 0)) hz213) (fun u hu => by simp only [List.mem_cons, List.not_mem_nil, or_false] at hu; rcases hu with rfl | rfl | rfl | rfl | rfl | rfl | rfl | rfl | rfl | rfl | rfl | rfl | rfl | rfl | rfl | rfl | rfl | rfl | rfl | rfl | rfl | rfl <;> rfl) (by omega) (by unfold maxLen; omega) (by omega) (by have := (hb211).size; omega) _ rfl ?_
        intro g cap w4 hown4 hgr4 hat4 hlt4
        obtain ⟨r4, r5, r6, s4, e5, e6, f4, f5, hrows⟩ := add_rows (cs := [c0, c1, c2, c3, c4, c5, c6, c7, c8, c9, c10]) (ds := [d0, d1, d2, d3, d4, d5, d6, d7, d8, d9, d10]) hown4 hxl rfl rfl
        have hgne : g ≠ lb := fun e => by
          rcases hat4 with h | h
          · exact hlo (ownL_some.2 (by rw [h, e]))
          · have := (hb211).size; omega
        have hl4 : w4.heap[lb]? = some (.cells #[.slice sa n scap] 22 (0, 0)) := (hgr4.block lb (by have := (hb211).size; omega) (fun e => hlo (ownL_some.2 e.symm))).trans (hlX.out w210 hb211)
        have hT4 : Touch w4 w4 g lb r4 (.slice sa n scap) := ⟨rfl, rfl, rfl, rfl, s4, hl4, fun _ _ _ => rfl, hgne⟩
        have hfin := Lib.hid (fun X (hX : Touch w4 X g lb r6 (.slice (some ⟨g, 0, none⟩) (n + 2) cap)) => hdone.out _ _ _ _ _ _ _ _ hb211 ht214 ht215 hgr4 hat4 hX hrows)
        have hone1 := TRep.ones ht214
        have hone2 := TRep.ones ht215
        clear ht214 ht215 hz213 hown4 hgr4 hat4 hrows s4 hl4
        refine hK.out _ _ ?_ (fun hHeldN => ?_)
        · exact trivial
        clear hK K hHeld
        have hHeld := hHeldN
        clear hHeldN
        (try simp only [Act.put, pu1, pu2, pu3, pu4, pu5, pu6])
        refine wpAnyH_take (i := 8) (v := ?vo24) rfl (by kernel_rfl) (by kernel_rfl) (by kernel_rfl) (fun _ _ _ h => h) (.inl ⟨by rfl, ?hyo24⟩) (by assumption) ?resto24
        case hyo24 => (intro w hSw; (try dsimp only at hSw); go_simp; first | done | with_reducible rfl)
        (try simp only [Act.put, pu1, pu2, pu3, pu4, pu5, pu6])
        refine wpAnyH_ready (rs := [9, 13]) (by kernel_rfl) (by simp) ?_
        refine AllReadyH.cons rfl (fun K hK => ?_) (AllReadyH.cons rfl (fun K hK => ?_) AllReadyH.nil)
        · rw [if_pos (by rfl)]
          refine wp_store_at 31 (.tmp 14) (.tmp 8) rfl g (n * 11) [c0, c1, c2, c3, c4, c5, c6, c7, c8, c9, c10] (by simp [Act.eval]) (by simp [Act.eval]) 31 r4 hT4.hg (by kernel_rfl) f4 hone1 ?_
          rw [← e5]
          obtain ⟨Y216, heY216⟩ : ∃ X, X = w4.setRow g r5 := ⟨_, rfl⟩
          have hT217 := hT4.row r5
          rw [← heY216] at hT217 ⊢
          clear heY216 hT4
          refine hK.out _ _ ?_ (fun hHeldN => ?_)
          · exact trivial
          clear hK K hHeld
          have hHeld := hHeldN
          clear hHeldN
          (try simp only [Act.put, pu1, pu2, pu3, pu4, pu5, pu6])
          refine wpAnyH_take (i := 11) (v := ?vo25) rfl (by kernel_rfl) (by kernel_rfl) (by kernel_rfl) (fun _ _ _ h => h) (.inl ⟨by rfl, ?hyo25⟩) (by assumption) ?resto25
          case hyo25 => (intro w hSw; (try dsimp only at hSw); go_simp; first | done | with_reducible rfl)
          (try simp only [Act.put, pu1, pu2, pu3, pu4, pu5, pu6])
          refine wpAnyH_ready (rs := [12, 13]) (by kernel_rfl) (by simp) ?_
          refine AllReadyH.cons rfl (fun K hK => ?_) (AllReadyH.cons rfl (fun K hK => ?_) AllReadyH.nil)
          · rw [if_pos (by rfl)]
            refine wp_store_at 31 (.tmp 16) (.tmp 10) rfl g ((n + 1) * 11) [d0, d1, d2, d3, d4, d5, d6, d7, d8, d9, d10] (by simp [Act.eval]) (by simp [Act.eval]) 31 r5 hT217.hg (by kernel_rfl) f5 hone2 ?_
            rw [← e6]
            obtain ⟨Y218, heY218⟩ : ∃ X, X = Y216.setRow g r6 := ⟨_, rfl⟩
            have hT219 := hT217.row r6
            rw [← heY218] at hT219 ⊢
            clear heY218 hT217
            refine hK.out _ _ ?_ (fun hHeldN => ?_)
            · exact trivial
            clear hK K hHeld
            have hHeld := hHeldN
            clear hHeldN
            (try simp only [Act.put, pu1, pu2, pu3, pu4, pu5, pu6])
            refine wpAnyH_ready (rs := [13]) (by kernel_rfl) (by simp) ?_
            refine AllReadyH.cons rfl (fun K hK => ?_) AllReadyH.nil
            rw [if_pos (by rfl)]
            have q222 : Y218.cell? ⟨lb, 0, none⟩ = some (.slice sa n scap) := by rw [cell_of_row Y218 lb 0 _ _ _ hT219.hl]; rfl
            have z223 : Y218.frozen? ⟨lb, 0, none⟩ = false := by simp [World.frozen?, hT219.hl]
            go_simp
            obtain ⟨Y220, heY220⟩ : ∃ X, X = Y218.setCell ⟨lb, 0, none⟩ (.slice (some ⟨g, 0, none⟩) (n + 2) cap) := ⟨_, rfl⟩
            have hT221 := hT219.cell (.slice (some ⟨g, 0, none⟩) (n + 2) cap)
            rw [← heY220] at hT221 ⊢
            clear heY220 q222 z223 hT219
            refine hK.out _ _ ?_ (fun hHeldN => ?_)
            · exact trivial
            clear hK K hHeld
            have hHeld := hHeldN
            clear hHeldN
            (try simp only [Act.put, pu1, pu2, pu3, pu4, pu5, pu6])
            refine wpAnyH_done (by kernel_rfl) ?_ _
            have hE224 := Lib.hid (hfin.out _ hT221)
            clear hT221 hHeld
            go_wp2_with fail
            go_ret
            exact ⟨rfl, hE224.out⟩
          · rw [if_pos (by rfl)]
            have q227 : Y216.cell? ⟨lb, 0, none⟩ = some (.slice sa n scap) := by rw [cell_of_row Y216 lb 0 _ _ _ hT217.hl]; rfl
            have z228 : Y216.frozen? ⟨lb, 0, none⟩ = false := by simp [World.frozen?, hT217.hl]
            go_simp
            obtain ⟨Y225, heY225⟩ : ∃ X, X = Y216.setCell ⟨lb, 0, none⟩ (.slice (some ⟨g, 0, none⟩) (n + 2) cap) := ⟨_, rfl⟩
            have hT226 := hT217.cell (.slice (some ⟨g, 0, none⟩) (n + 2) cap)
            rw [← heY225] at hT226 ⊢
            clear heY225 q227 z228 hT217
            refine hK.out _ _ ?_ (fun hHeldN => ?_)
            · exact trivial
            clear hK K hHeld
            have hHeld := hHeldN
            clear hHeldN
            (try simp only [Act.put, pu1, pu2, pu3, pu4, pu5, pu6])
            refine wpAnyH_ready (rs := [12]) (by kernel_rfl) (by simp) ?_
            refine AllReadyH.cons rfl (fun K hK => ?_) AllReadyH.nil
            rw [if_pos (by rfl)]
            refine wp_store_at 31 (.tmp 16) (.tmp 10) rfl g ((n + 1) * 11) [d0, d1, d2, d3, d4, d5, d6, d7, d8, d9, d10] (by simp [Act.eval]) (by simp [Act.eval]) 31 r5 hT226.hg (by kernel_rfl) f5 hone2 ?_
            rw [← e6]
            obtain ⟨Y229, heY229⟩ : ∃ X, X = Y225.setRow g r6 := ⟨_, rfl⟩
            have hT230 := hT226.row r6
            rw [← heY229] at hT230 ⊢
            clear heY229 hT226
            refine hK.out _ _ ?_ (fun hHeldN => ?_)
            · exact trivial
            clear hK K hHeld
            have hHeld := hHeldN
            clear hHeldN
            (try simp only [Act.put, pu1, pu2, pu3, pu4, pu5, pu6])
            refine wpAnyH_done (by kernel_rfl) ?_ _
            have hE231 := Lib.hid (hfin.out _ hT230)
            clear hT230 hHeld
            go_wp2_with fail
            go_ret
            exact ⟨rfl, hE231.out⟩
        · rw [if_pos (by rfl)]
          have q234 : w4.cell? ⟨lb, 0, none⟩ = some (.slice sa n scap) := by rw [cell_of_row w4 lb 0 _ _ _ hT4.hl]; rfl
          have z235 : w4.frozen? ⟨lb, 0, none⟩ = false := by simp [World.frozen?, hT4.hl]
          go_simp
          obtain ⟨Y232, heY232⟩ : ∃ X, X = w4.setCell ⟨lb, 0, none⟩ (.slice (some ⟨g, 0, none⟩) (n + 2) cap) := ⟨_, rfl⟩
          have hT233 := hT4.cell (.slice (some ⟨g, 0, none⟩) (n + 2) cap)
          rw [← heY232] at hT233 ⊢
          clear heY232 q234 z235 hT4
          refine hK.out _ _ ?_ (fun hHeldN => ?_)
          · exact trivial
          clear hK K hHeld
          have hHeld := hHeldN
          clear hHeldN
          (try simp only [Act.put, pu1, pu2, pu3, pu4, pu5, pu6])
          refine wpAnyH_ready (rs := [9]) (by kernel_rfl) (by simp) ?_
          refine AllReadyH.cons rfl (fun K hK => ?_) AllReadyH.nil
          rw [if_pos (by rfl)]
          refine wp_store_at 31 (.tmp 14) (.tmp 8) rfl g (n * 11) [c0, c1, c2, c3, c4, c5, c6, c7, c8, c9, c10] (by simp [Act.eval]) (by simp [Act.eval]) 31 r4 hT233.hg (by kernel_rfl) f4 hone1 ?_
          rw [← e5]
          obtain ⟨Y236, heY236⟩ : ∃ X, X = Y232.setRow g r5 := ⟨_, rfl⟩
          have hT237 := hT233.row r5
          rw [← heY236] at hT237 ⊢
          clear heY236 hT233
          refine hK.out _ _ ?_ (fun hHeldN => ?_)
          · exact trivial
          clear hK K hHeld
          have hHeld := hHeldN
          clear hHeldN
          (try simp only [Act.put, pu1, pu2, pu3, pu4, pu5, pu6])
          refine wpAnyH_take (i := 11) (v := ?vo26) rfl (by kernel_rfl) (by kernel_rfl) (by kernel_rfl) (fun _ _ _ h => h) (.inl ⟨by rfl, ?hyo26⟩) (by assumption) ?resto26
          case hyo26 => (intro w hSw; (try dsimp only at hSw); go_simp; first | done | with_reducible rfl)
          (try simp only [Act.put, pu1, pu2, pu3, pu4, pu5, pu6])
          refine wpAnyH_ready (rs := [12]) (by kernel_rfl) (by simp) ?_
          refine AllReadyH.cons rfl (fun K hK => ?_) AllReadyH.nil
          rw [if_pos (by rfl)]
          refine wp_store_at 31 (.tmp 16) (.tmp 10) rfl g ((n + 1) * 11) [d0, d1, d2, d3, d4, d5, d6, d7, d8, d9, d10] (by simp [Act.eval]) (by simp [Act.eval]) 31 r5 hT237.hg (by kernel_rfl) f5 hone2 ?_
          rw [← e6]
          obtain ⟨Y238, heY238⟩ : ∃ X, X = Y236.setRow g r6 := ⟨_, rfl⟩
          have hT239 := hT237.row r6
          rw [← heY238] at hT239 ⊢
          clear heY238 hT237
          refine hK.out _ _ ?_ (fun hHeldN => ?_)
          · exact trivial
          clear hK K hHeld
          have hHeld := hHeldN
          clear hHeldN
          (try simp only [Act.put, pu1, pu2, pu3, pu4, pu5, pu6])
          refine wpAnyH_done (by kernel_rfl) ?_ _
          have hE240 := Lib.hid (hfin.out _ hT239)
          clear hT239 hHeld
          go_wp2_with fail
          go_ret
          exact ⟨rfl, hE240.out⟩
      · refine wp_of_exec (exec_buildSlice (vs := #[(0, .agg #[.int .i64 0, .bool false, .int .i64 0, .float .f64 0, .string ⟨#[]⟩, .slice none 0 0, .int .u64 0, .slice none 0 0, .slice none 0 0, .string ⟨#[]⟩, .int .i64 0]), (1, .agg #[.int .i64 0, .bool false, .int .i64 0, .float .f64 0, .string ⟨#[]⟩, .slice none 0 0, .int .u64 0, .slice none 0 0, .slice none 0 0, .string ⟨#[]⟩, .int .i64 0])]) rfl (by simp [Act.eval]) (run_build2 _)) ?_
        obtain ⟨zb, hzb⟩ : ∃ x, x = w203.heap.size := ⟨_, rfl⟩
        obtain ⟨w241, hew241⟩ : ∃ X, X = w203.alloc (.cells #[.int .i64 0, .bool false, .int .i64 0, .float .f64 0, .string ⟨#[]⟩, .slice none 0 0, .int .u64 0, .slice none 0 0, .slice none 0 0, .string ⟨#[]⟩, .int .i64 0, .int .i64 0, .bool false, .int .i64 0, .float .f64 0, .string ⟨#[]⟩, .slice none 0 0, .int .u64 0, .slice none 0 0, .slice none 0 0, .string ⟨#[]⟩, .int .i64 0] 31) := ⟨_, rfl⟩
        have hz244 : w241.heap[zb]? = some (.cells #[.int .i64 0, .bool false, .int .i64 0, .float .f64 0, .string ⟨#[]⟩, .slice none 0 0, .int .u64 0, .slice none 0 0, .slice none 0 0, .string ⟨#[]⟩, .int .i64 0, .int .i64 0, .bool false, .int .i64 0, .float .f64 0, .string ⟨#[]⟩, .slice none 0 0, .int .u64 0, .slice none 0 0, .slice none 0 0, .string ⟨#[]⟩, .int .i64 0] 31 (0, 0)) := by rw [hew241, hzb]; exact heap_alloc_new w203 _
        have hw243 : Below w203.heap.size w203 w241 := by rw [hew241]; exact (Below.refl _ _).alloc (Nat.le_refl _) _
        have hb242 : Below W.heap.size W w241 := (hb204).trans (Below.mono hw243 (hb204).size)
        rw [← hew241, ← hzb]
        clear hew241 hzb
        have ht245 := TRep.keep (only_keep (w' := w241) (S' := fun b => W.heap.size ≤ b) fun b hb hs => ⟨hs, hw243.block b hb⟩) _ _ ht208
        clear ht208
        have ht246 := TRep.keep (only_keep (w' := w241) (S' := fun b => W.heap.size ≤ b) fun b hb hs => ⟨hs, hw243.block b hb⟩) _ _ ht207
        clear ht207
        refine hK.out _ _ ?_ (fun hHeldN => ?_)
        · exact trivial
        clear hK K hHeld
        have hHeld := hHeldN
        clear hHeldN
        (try simp only [Act.put, pu1, pu2, pu3, pu4, pu5, pu6])
        refine wpAnyH_ready (rs := [0]) (by kernel_rfl) (by simp) ?_
        refine AllReadyH.cons rfl (fun K hK => ?_) AllReadyH.nil
        rw [if_pos (by rfl)]
        have q247 := keeps_of_below hb242 _ _ q0
        go_simp
        clear q247
        refine hK.out _ _ ?_ (fun hHeldN => ?_)
        · exact trivial
        clear hK K hHeld
        have hHeld := hHeldN
        clear hHeldN
        (try simp only [Act.put, pu1, pu2, pu3, pu4, pu5, pu6])
        refine wpAnyH_take (i := 5) (v := ?vo27) rfl (by kernel_rfl) (by kernel_rfl) (by kernel_rfl) (fun _ _ _ h => h) (.inl ⟨by rfl, ?hyo27⟩) (by assumption) ?resto27
        case hyo27 => (intro w hSw; (try dsimp only at hSw); go_simp; first | done | with_reducible rfl)
        (try simp only [Act.put, pu1, pu2, pu3, pu4, pu5, pu6])
        refine wpAnyH_take (i := 10) (v := ?vo28) rfl (by kernel_rfl) (by kernel_rfl) (by kernel_rfl) (fun _ _ _ h => h) (.inl ⟨by rfl, ?hyo28⟩) (by assumption) ?resto28
        case hyo28 => (intro w hSw; (try dsimp only at hSw); go_simp; first | done | with_reducible rfl)
        (try simp only [Act.put, pu1, pu2, pu3, pu4, pu5, pu6])
        refine wpAnyH_ready (rs := [7]) (by kernel_rfl) (by simp) ?_
        refine AllReadyH.cons rfl (fun K hK => ?_) AllReadyH.nil
        refine step_append_lies _ (by rfl) _ _ _ (by rfl) B 31 i0 _ 11 152 Try.underlying22 hi0 hz0 hz1 hz2 rfl (by omega) _ n xs (by rfl) (hrowX.out w241 hb242) ⟨zb, 0, none⟩ 2 2 [.int .i64 0, .bool false, .int .i64 0, .float .f64 0, .string ⟨#[]⟩, .slice none 0 0, .int .u64 0, .slice none 0 0, .slice none 0 0, .string ⟨#[]⟩, .int .i64 0, .int .i64 0, .bool false, .int .i64 0, .float .f64 0, .string ⟨#[]⟩, .slice none 0 0, .int .u64 0, .slice none 0 0, .slice none 0 0, .string ⟨#[]⟩, .int .i64 0] (by rfl) (by rfl) (World.news_of_block (cs := #[.int .i64 0, .bool false, .int .i64 0, .float .f64 0, .string ⟨#[]⟩, .slice none 0 0, .int .u64 0, .slice none 0 0, .slice none 0 0, .string ⟨#[]⟩, .int .i64 0, .int .i64 0, .bool false, .int .i64 0, .float .f64 0, .string ⟨#[]⟩, .slice none 0 0, .int .u64 0, .slice none 0 0, .slice none 0 0, .string ⟨#[]⟩, .int .i64 0]) (t := 31) (fr := (0, 0)) hz244) (fun u hu => by simp only [List.mem_cons, List.not_mem_nil, or_false] at hu; rcases hu with rfl | rfl | rfl | rfl | rfl | rfl | rfl | rfl | rfl | rfl | rfl | rfl | rfl | rfl | rfl | rfl | rfl | rfl | rfl | rfl | rfl | rfl <;> rfl) (by omega) (by unfold maxLen; omega) (by omega) (by have := (hb242).size; omega) _ rfl ?_
        intro g cap w4 hown4 hgr4 hat4 hlt4
        obtain ⟨r4, r5, r6, s4, e5, e6, f4, f5, hrows⟩ := add_rows (cs := [c0, c1, c2, c3, c4, c5, c6, c7, c8, c9, c10]) (ds := [d0, d1, d2, d3, d4, d5, d6, d7, d8, d9, d10]) hown4 hxl rfl rfl
        have hgne : g ≠ lb := fun e => by
          rcases hat4 with h | h
          · exact hlo (ownL_some.2 (by rw [h, e]))
          · have := (hb242).size; omega
        have hl4 : w4.heap[lb]? = some (.cells #[.slice sa n scap] 22 (0, 0)) := (hgr4.block lb (by have := (hb242).size; omega) (fun e => hlo (ownL_some.2 e.symm))).trans (hlX.out w241 hb242)
        have hT4 : Touch w4 w4 g lb r4 (.slice sa n scap) := ⟨rfl, rfl, rfl, rfl, s4, hl4, fun _ _ _ => rfl, hgne⟩
        have hfin := Lib.hid (fun X (hX : Touch w4 X g lb r6 (.slice (some ⟨g, 0, none⟩) (n + 2) cap)) => hdone.out _ _ _ _ _ _ _ _ hb242 ht245 ht246 hgr4 hat4 hX hrows)
        have hone1 := TRep.ones ht245
        have hone2 := TRep.ones ht246
        clear ht245 ht246 hz244 hown4 hgr4 hat4 hrows s4 hl4
        refine hK.out _ _ ?_ (fun hHeldN => ?_)
        · exact trivial
        clear hK K hHeld
        have hHeld := hHeldN
        clear hHeldN
        (try simp only [Act.put, pu1, pu2, pu3, pu4, pu5, pu6])
        refine wpAnyH_take (i := 8) (v := ?vo29) rfl (by kernel_rfl) (by kernel_rfl) (by kernel_rfl) (fun _ _ _ h => h) (.inl ⟨by rfl, ?hyo29⟩) (by assumption) ?resto29
        case hyo29 => (intro w hSw; (try dsimp only at hSw); go_simp; first | done | with_reducible rfl)
        (try simp only [Act.put, pu1, pu2, pu3, pu4, pu5, pu6])
        refine wpAnyH_ready (rs := [9, 13]) (by kernel_rfl) (by simp) ?_
        refine AllReadyH.cons rfl (fun K hK => ?_) (AllReadyH.cons rfl (fun K hK => ?_) AllReadyH.nil)
        · rw [if_pos (by rfl)]
          refine wp_store_at 31 (.tmp 14) (.tmp 8) rfl g (n * 11) [c0, c1, c2, c3, c4, c5, c6, c7, c8, c9, c10] (by simp [Act.eval]) (by simp [Act.eval]) 31 r4 hT4.hg (by kernel_rfl) f4 hone1 ?_
          rw [← e5]
          obtain ⟨Y248, heY248⟩ : ∃ X, X = w4.setRow g r5 := ⟨_, rfl⟩
          have hT249 := hT4.row r5
          rw [← heY248] at hT249 ⊢
          clear heY248 hT4
          refine hK.out _ _ ?_ (fun hHeldN => ?_)
          · exact trivial
          clear hK K hHeld
          have hHeld := hHeldN
          clear hHeldN
          (try simp only [Act.put, pu1, pu2, pu3, pu4, pu5, pu6])
          refine wpAnyH_take (i := 11) (v := ?vo30) rfl (by kernel_rfl) (by kernel_rfl) (by kernel_rfl) (fun _ _ _ h => h) (.inl ⟨by rfl, ?hyo30⟩) (by assumption) ?resto30
          case hyo30 => (intro w hSw; (try dsimp only at hSw); go_simp; first | done | with_reducible rfl)
          (try simp only [Act.put, pu1, pu2, pu3, pu4, pu5, pu6])
          refine wpAnyH_ready (rs := [12, 13]) (by kernel_rfl) (by simp) ?_
          refine AllReadyH.cons rfl (fun K hK => ?_) (AllReadyH.cons rfl (fun K hK => ?_) AllReadyH.nil)
          · rw [if_pos (by rfl)]
            refine wp_store_at 31 (.tmp 16) (.tmp 10) rfl g ((n + 1) * 11) [d0, d1, d2, d3, d4, d5, d6, d7, d8, d9, d10] (by simp [Act.eval]) (by simp [Act.eval]) 31 r5 hT249.hg (by kernel_rfl) f5 hone2 ?_
            rw [← e6]
            obtain ⟨Y250, heY250⟩ : ∃ X, X = Y248.setRow g r6 := ⟨_, rfl⟩
            have hT251 := hT249.row r6
            rw [← heY250] at hT251 ⊢
            clear heY250 hT249
            refine hK.out _ _ ?_ (fun hHeldN => ?_)
            · exact trivial
            clear hK K hHeld
            have hHeld := hHeldN
            clear hHeldN
            (try simp only [Act.put, pu1, pu2, pu3, pu4, pu5, pu6])
            refine wpAnyH_ready (rs := [13]) (by kernel_rfl) (by simp) ?_
            refine AllReadyH.cons rfl (fun K hK => ?_) AllReadyH.nil
            rw [if_pos (by rfl)]
            have q254 : Y250.cell? ⟨lb, 0, none⟩ = some (.slice sa n scap) := by rw [cell_of_row Y250 lb 0 _ _ _ hT251.hl]; rfl
            have z255 : Y250.frozen? ⟨lb, 0, none⟩ = false := by simp [World.frozen?, hT251.hl]
            go_simp
            obtain ⟨Y252, heY252⟩ : ∃ X, X = Y250.setCell ⟨lb, 0, none⟩ (.slice (some ⟨g, 0, none⟩) (n + 2) cap) := ⟨_, rfl⟩
            have hT253 := hT251.cell (.slice (some ⟨g, 0, none⟩) (n + 2) cap)
            rw [← heY252] at hT253 ⊢
            clear heY252 q254 z255 hT251
            refine hK.out _ _ ?_ (fun hHeldN => ?_)
            · exact trivial
            clear hK K hHeld
            have hHeld := hHeldN
            clear hHeldN
            (try simp only [Act.put, pu1, pu2, pu3, pu4, pu5, pu6])
            refine wpAnyH_done (by kernel_rfl) ?_ _
            have hE256 := Lib.hid (hfin.out _ hT253)
            clear hT253 hHeld
            go_wp2_with fail
            go_ret
            exact ⟨rfl, hE256.out⟩
          · rw [if_pos (by rfl)]
            have q259 : Y248.cell? ⟨lb, 0, none⟩ = some (.slice sa n scap) := by rw [cell_of_row Y248 lb 0 _ _ _ hT249.hl]; rfl
            have z260 : Y248.frozen? ⟨lb, 0, none⟩ = false := by simp [World.frozen?, hT249.hl]
            go_simp
            obtain ⟨Y257, heY257⟩ : ∃ X, X = Y248.setCell ⟨lb, 0, none⟩ (.slice (some ⟨g, 0, none⟩) (n + 2) cap) := ⟨_, rfl⟩
            have hT258 := hT249.cell (.slice (some ⟨g, 0, none⟩) (n + 2) cap)
            rw [← heY257] at hT258 ⊢
            clear heY257 q259 z260 hT249
            refine hK.out _ _ ?_ (fun hHeldN => ?_)
            · exact trivial
            clear hK K hHeld
            have hHeld := hHeldN
            clear hHeldN
            (try simp only [Act.put, pu1, pu2, pu3, pu4, pu5, pu6])
            refine wpAnyH_ready (rs := [12]) (by kernel_rfl) (by simp) ?_
            refine AllReadyH.cons rfl (fun K hK => ?_) AllReadyH.nil
            rw [if_pos (by rfl)]
            refine wp_store_at 31 (.tmp 16) (.tmp 10) rfl g ((n + 1) * 11) [d0, d1, d2, d3, d4, d5, d6, d7, d8, d9, d10] (by simp [Act.eval]) (by simp [Act.eval]) 31 r5 hT258.hg (by kernel_rfl) f5 hone2 ?_
            rw [← e6]
            obtain ⟨Y261, heY261⟩ : ∃ X, X = Y257.setRow g r6 := ⟨_, rfl⟩
            have hT262 := hT258.row r6
            rw [← heY261] at hT262 ⊢
            clear heY261 hT258
            refine hK.out _ _ ?_ (fun hHeldN => ?_)
            · exact trivial
            clear hK K hHeld
            have hHeld := hHeldN
            clear hHeldN
            (try simp only [Act.put, pu1, pu2, pu3, pu4, pu5, pu6])
            refine wpAnyH_done (by kernel_rfl) ?_ _
            have hE263 := Lib.hid (hfin.out _ hT262)
            clear hT262 hHeld
            go_wp2_with fail
            go_ret
            exact ⟨rfl, hE263.out⟩
        · rw [if_pos (by rfl)]
          have q266 : w4.cell? ⟨lb, 0, none⟩ = some (.slice sa n scap) := by rw [cell_of_row w4 lb 0 _ _ _ hT4.hl]; rfl
          have z267 : w4.frozen? ⟨lb, 0, none⟩ = false := by simp [World.frozen?, hT4.hl]
          go_simp
          obtain ⟨Y264, heY264⟩ : ∃ X, X = w4.setCell ⟨lb, 0, none⟩ (.slice (some ⟨g, 0, none⟩) (n + 2) cap) := ⟨_, rfl⟩
          have hT265 := hT4.cell (.slice (some ⟨g, 0, none⟩) (n + 2) cap)
          rw [← heY264] at hT265 ⊢
          clear heY264 q266 z267 hT4
          refine hK.out _ _ ?_ (fun hHeldN => ?_)
          · exact trivial
          clear hK K hHeld
          have hHeld := hHeldN
          clear hHeldN
          (try simp only [Act.put, pu1, pu2, pu3, pu4, pu5, pu6])
          refine wpAnyH_ready (rs := [9]) (by kernel_rfl) (by simp) ?_
          refine AllReadyH.cons rfl (fun K hK => ?_) AllReadyH.nil
          rw [if_pos (by rfl)]
          refine wp_store_at 31 (.tmp 14) (.tmp 8) rfl g (n * 11) [c0, c1, c2, c3, c4, c5, c6, c7, c8, c9, c10] (by simp [Act.eval]) (by simp [Act.eval]) 31 r4 hT265.hg (by kernel_rfl) f4 hone1 ?_
          rw [← e5]
          obtain ⟨Y268, heY268⟩ : ∃ X, X = Y264.setRow g r5 := ⟨_, rfl⟩
          have hT269 := hT265.row r5
          rw [← heY268] at hT269 ⊢
          clear heY268 hT265
          refine hK.out _ _ ?_ (fun hHeldN => ?_)
          · exact trivial
          clear hK K hHeld
          have hHeld := hHeldN
          clear hHeldN
          (try simp only [Act.put, pu1, pu2, pu3, pu4, pu5, pu6])
          refine wpAnyH_take (i := 11) (v := ?vo31) rfl (by kernel_rfl) (by kernel_rfl) (by kernel_rfl) (fun _ _ _ h => h) (.inl ⟨by rfl, ?hyo31⟩) (by assumption) ?resto31
          case hyo31 => (intro w hSw; (try dsimp only at hSw); go_simp; first | done | with_reducible rfl)
          (try simp only [Act.put, pu1, pu2, pu3, pu4, pu5, pu6])
          refine wpAnyH_ready (rs := [12]) (by kernel_rfl) (by simp) ?_
          refine AllReadyH.cons rfl (fun K hK => ?_) AllReadyH.nil
          rw [if_pos (by rfl)]
          refine wp_store_at 31 (.tmp 16) (.tmp 10) rfl g ((n + 1) * 11) [d0, d1, d2, d3, d4, d5, d6, d7, d8, d9, d10] (by simp [Act.eval]) (by simp [Act.eval]) 31 r5 hT269.hg (by kernel_rfl) f5 hone2 ?_
          rw [← e6]
          obtain ⟨Y270, heY270⟩ : ∃ X, X = Y268.setRow g r6 := ⟨_, rfl⟩
          have hT271 := hT269.row r6
          rw [← heY270] at hT271 ⊢
          clear heY270 hT269
          refine hK.out _ _ ?_ (fun hHeldN => ?_)
          · exact trivial
          clear hK K hHeld
          have hHeld := hHeldN
          clear hHeldN
          (try simp only [Act.put, pu1, pu2, pu3, pu4, pu5, pu6])
          refine wpAnyH_done (by kernel_rfl) ?_ _
          have hE272 := Lib.hid (hfin.out _ hT271)
          clear hT271 hHeld
          go_wp2_with fail
          go_ret
          exact ⟨rfl, hE272.out⟩
    · refine wp_of_exec (exec_buildSlice (vs := #[(0, .agg #[.int .i64 0, .bool false, .int .i64 0, .float .f64 0, .string ⟨#[]⟩, .slice none 0 0, .int .u64 0, .slice none 0 0, .slice none 0 0, .string ⟨#[]⟩, .int .i64 0]), (1, .agg #[.int .i64 0, .bool false, .int .i64 0, .float .f64 0, .string ⟨#[]⟩, .slice none 0 0, .int .u64 0, .slice none 0 0, .slice none 0 0, .string ⟨#[]⟩, .int .i64 0])]) rfl (by simp [Act.eval]) (run_build2 _)) ?_
      obtain ⟨zb, hzb⟩ : ∃ x, x = w123.heap.size := ⟨_, rfl⟩
      obtain ⟨w273, hew273⟩ : ∃ X, X = w123.alloc (.cells #[.int .i64 0, .bool false, .int .i64 0, .float .f64 0, .string ⟨#[]⟩, .slice none 0 0, .int .u64 0, .slice none 0 0, .slice none 0 0, .string ⟨#[]⟩, .int .i64 0, .int .i64 0, .bool false, .int .i64 0, .float .f64 0, .string ⟨#[]⟩, .slice none 0 0, .int .u64 0, .slice none 0 0, .slice none 0 0, .string ⟨#[]⟩, .int .i64 0] 31) := ⟨_, rfl⟩
      have hz276 : w273.heap[zb]? = some (.cells #[.int .i64 0, .bool false, .int .i64 0, .float .f64 0, .string ⟨#[]⟩, .slice none 0 0, .int .u64 0, .slice none 0 0, .slice none 0 0, .string ⟨#[]⟩, .int .i64 0, .int .i64 0, .bool false, .int .i64 0, .float .f64 0, .string ⟨#[]⟩, .slice none 0 0, .int .u64 0, .slice none 0 0, .slice none 0 0, .string ⟨#[]⟩, .int .i64 0] 31 (0, 0)) := by rw [hew273, hzb]; exact heap_alloc_new w123 _
      have hw275 : Below w123.heap.size w123 w273 := by rw [hew273]; exact (Below.refl _ _).alloc (Nat.le_refl _) _
      have hb274 : Below W.heap.size W w273 := (hb124).trans (Below.mono hw275 (hb124).size)
      rw [← hew273, ← hzb]
      clear hew273 hzb
      have ht277 := TRep.keep (only_keep (w' := w273) (S' := fun b => W.heap.size ≤ b) fun b hb hs => ⟨hs, hw275.block b hb⟩) _ _ ht127
      clear ht127
      refine hK.out _ _ ?_ (fun hHeldN => ?_)
      · exact trivial
      clear hK K hHeld
      have hHeld := hHeldN
      clear hHeldN
      (try simp only [Act.put, pu1, pu2, pu3, pu4, pu5, pu6])
      refine wpAnyH_ready (rs := [0, 4]) (by kernel_rfl) (by simp) ?_
      refine AllReadyH.cons rfl (fun K hK => ?_) (AllReadyH.cons rfl (fun K hK => ?_) AllReadyH.nil)
      · rw [if_pos (by rfl)]
        have q278 := keeps_of_below hb274 _ _ q0
        go_simp
        clear q278
        refine hK.out _ _ ?_ (fun hHeldN => ?_)
        · exact trivial
        clear hK K hHeld
        have hHeld := hHeldN
        clear hHeldN
        (try simp only [Act.put, pu1, pu2, pu3, pu4, pu5, pu6])
        refine wpAnyH_take (i := 5) (v := ?vo32) rfl (by kernel_rfl) (by kernel_rfl) (by kernel_rfl) (fun _ _ _ h => h) (.inl ⟨by rfl, ?hyo32⟩) (by assumption) ?resto32
        case hyo32 => (intro w hSw; (try dsimp only at hSw); go_simp; first | done | with_reducible rfl)
        (try simp only [Act.put, pu1, pu2, pu3, pu4, pu5, pu6])
        refine wpAnyH_take (i := 10) (v := ?vo33) rfl (by kernel_rfl) (by kernel_rfl) (by kernel_rfl) (fun _ _ _ h => h) (.inl ⟨by rfl, ?hyo33⟩) (by assumption) ?resto33
        case hyo33 => (intro w hSw; (try dsimp only at hSw); go_simp; first | done | with_reducible rfl)
        (try simp only [Act.put, pu1, pu2, pu3, pu4, pu5, pu6])
        refine wpAnyH_ready (rs := [4]) (by kernel_rfl) (by simp) ?_
        refine AllReadyH.cons rfl (fun K hK => ?_) AllReadyH.nil
        rw [if_pos (by rfl)]
        go_simp
        refine (hPV.out _ hb274).mono ?_
        rintro e w279 ⟨cs, rfl, ht282, hw281⟩
        obtain ⟨d0, d1, d2, d3, d4, d5, d6, d7, d8, d9, d10, rfl⟩ := eleven (TRep.len ht282)
        have hb280 : Below W.heap.size W w279 := (hb274).trans (Below.mono hw281 (hb274).size)
        have ht283 := TRep.keep (only_keep (w' := w279) (S' := fun b => W.heap.size ≤ b) fun b _ hs => ⟨Nat.le_trans (hb274).size hs, rfl⟩) _ _ ht282
        clear ht282
        have ht284 := TRep.keep (only_keep (w' := w279) (S' := fun b => W.heap.size ≤ b) fun b hb hs => ⟨hs, hw281.block b hb⟩) _ _ ht277
        clear ht277
        have hz285 := (hw281.block zb (Array.getElem?_eq_some_iff.1 hz276).1).trans hz276
        clear hz276
        refine hK.out _ _ ?_ (fun hHeldN => ?_)
        · exact trivial
        clear hK K hHeld
        have hHeld := hHeldN
        clear hHeldN
        (try simp only [Act.put, pu1, pu2, pu3, pu4, pu5, pu6])
        refine wpAnyH_ready (rs := [7]) (by kernel_rfl) (by simp) ?_
        refine AllReadyH.cons rfl (fun K hK => ?_) AllReadyH.nil
        refine step_append_lies _ (by rfl) _ _ _ (by rfl) B 31 i0 _ 11 152 Try.underlying22 hi0 hz0 hz1 hz2 rfl (by omega) _ n xs (by rfl) (hrowX.out w279 hb280) ⟨zb, 0, none⟩ 2 2 [.int .i64 0, .bool false, .int .i64 0, .float .f64 0, .string ⟨#[]⟩, .slice none 0 0, .int .u64 0, .slice none 0 0, .slice none 0 0, .string ⟨#[]⟩, .int .i64 0, .int .i64 0, .bool false, .int .i64 0, .float .f64 0, .string ⟨#[]⟩, .slice none 0 0, .int .u64 0, .slice none 0 0, .slice none 0 0, .string ⟨#[]⟩, .int .i64 0] (by rfl) (by rfl) (World.news_of_block (cs := #[.int .i64 0, .bool false, .int .i64 0, .float .f64 0, .string ⟨#[]⟩, .slice none 0 0, .int .u64 0, .slice none 0 0, .slice none 0 0, .string ⟨#[]⟩, .int .i64 0, .int .i64 0, .bool false, .int .i64 0, .float .f64 0, .string ⟨#[]⟩, .slice none 0 0, .int .u64 0, .slice none 0 0, .slice none 0 0, .string ⟨#[]⟩, .int .i64 0]) (t := 31) (fr := (0, 0)) hz285) (fun u hu => by simp only [List.mem_cons, List.not_mem_nil, or_false] at hu; rcases hu with rfl | rfl | rfl | rfl | rfl | rfl | rfl | rfl | rfl | rfl | rfl | rfl | rfl | rfl | rfl | rfl | rfl | rfl | rfl | rfl | rfl | rfl <;> rfl) (by omega) (by unfold maxLen; omega) (by omega) (by have := (hb280).size; omega) _ rfl ?_
        intro g cap w4 hown4 hgr4 hat4 hlt4
        obtain ⟨r4, r5, r6, s4, e5, e6, f4, f5, hrows⟩ := add_rows (cs := [c0, c1, c2, c3, c4, c5, c6, c7, c8, c9, c10]) (ds := [d0, d1, d2, d3, d4, d5, d6, d7, d8, d9, d10]) hown4 hxl rfl rfl
        have hgne : g ≠ lb := fun e => by
          rcases hat4 with h | h
          · exact hlo (ownL_some.2 (by rw [h, e]))
          · have := (hb280).size; omega
        have hl4 : w4.heap[lb]? = some (.cells #[.slice sa n scap] 22 (0, 0)) := (hgr4.block lb (by have := (hb280).size; omega) (fun e => hlo (ownL_some.2 e.symm))).trans (hlX.out w279 hb280)
        have hT4 : Touch w4 w4 g lb r4 (.slice sa n scap) := ⟨rfl, rfl, rfl, rfl, s4, hl4, fun _ _ _ => rfl, hgne⟩
        have hfin := Lib.hid (fun X (hX : Touch w4 X g lb r6 (.slice (some ⟨g, 0, none⟩) (n + 2) cap)) => hdone.out _ _ _ _ _ _ _ _ hb280 ht284 ht283 hgr4 hat4 hX hrows)
        have hone1 := TRep.ones ht284
        have hone2 := TRep.ones ht283
        clear ht284 ht283 hz285 hown4 hgr4 hat4 hrows s4 hl4
        refine hK.out _ _ ?_ (fun hHeldN => ?_)
        · exact trivial
        clear hK K hHeld
        have hHeld := hHeldN
        clear hHeldN
        (try simp only [Act.put, pu1, pu2, pu3, pu4, pu5, pu6])
        refine wpAnyH_take (i := 8) (v := ?vo34) rfl (by kernel_rfl) (by kernel_rfl) (by kernel_rfl) (fun _ _ _ h => h) (.inl ⟨by rfl, ?hyo34⟩) (by assumption) ?resto34
        case hyo34 => (intro w hSw; (try dsimp only at hSw); go_simp; first | done | with_reducible rfl)
        (try simp only [Act.put, pu1, pu2, pu3, pu4, pu5, pu6])
        refine wpAnyH_ready (rs := [9, 13]) (by kernel_rfl) (by simp) ?_
        refine AllReadyH.cons rfl (fun K hK => ?_) (AllReadyH.cons rfl (fun K hK => ?_) AllReadyH.nil)
        · rw [if_pos (by rfl)]
          refine wp_store_at 31 (.tmp 14) (.tmp 8) rfl g (n * 11) [c0, c1, c2, c3, c4, c5, c6, c7, c8, c9, c10] (by simp [Act.eval]) (by simp [Act.eval]) 31 r4 hT4.hg (by kernel_rfl) f4 hone1 ?_
          rw [← e5]
          obtain ⟨Y286, heY286⟩ : ∃ X, X = w4.setRow g r5 := ⟨_, rfl⟩
          have hT287 := hT4.row r5
          rw [← heY286] at hT287 ⊢
          clear heY286 hT4
          refine hK.out _ _ ?_ (fun hHeldN => ?_)
          · exact trivial
          clear hK K hHeld
          have hHeld := hHeldN
          clear hHeldN
          (try simp only [Act.put, pu1, pu2, pu3, pu4, pu5, pu6])
          refine wpAnyH_take (i := 11) (v := ?vo35) rfl (by kernel_rfl) (by kernel_rfl) (by kernel_rfl) (fun _ _ _ h => h) (.inl ⟨by rfl, ?hyo35⟩) (by assumption) ?resto35
          case hyo35 => (intro w hSw; (try dsimp only at hSw); go_simp; first | done | with_reducible rfl)
          (try simp only [Act.put, pu1, pu2, pu3, pu4, pu5, pu6])
          refine wpAnyH_ready (rs := [12, 13]) (by kernel_rfl) (by simp) ?_
          refine AllReadyH.cons rfl (fun K hK => ?_) (AllReadyH.cons rfl (fun K hK => ?_) AllReadyH.nil)
          · rw [if_pos (by rfl)]
            refine wp_store_at 31 (.tmp 16) (.tmp 10) rfl g ((n + 1) * 11) [d0, d1, d2, d3, d4, d5, d6, d7, d8, d9, d10] (by simp [Act.eval]) (by simp [Act.eval]) 31 r5 hT287.hg (by kernel_rfl) f5 hone2 ?_
            rw [← e6]
            obtain ⟨Y288, heY288⟩ : ∃ X, X = Y286.setRow g r6 := ⟨_, rfl⟩
            have hT289 := hT287.row r6
            rw [← heY288] at hT289 ⊢
            clear heY288 hT287
            refine hK.out _ _ ?_ (fun hHeldN => ?_)
            · exact trivial
            clear hK K hHeld
            have hHeld := hHeldN
            clear hHeldN
            (try simp only [Act.put, pu1, pu2, pu3, pu4, pu5, pu6])
            refine wpAnyH_ready (rs := [13]) (by kernel_rfl) (by simp) ?_
            refine AllReadyH.cons rfl (fun K hK => ?_) AllReadyH.nil
            rw [if_pos (by rfl)]
            have q292 : Y288.cell? ⟨lb, 0, none⟩ = some (.slice sa n scap) := by rw [cell_of_row Y288 lb 0 _ _ _ hT289.hl]; rfl
            have z293 : Y288.frozen? ⟨lb, 0, none⟩ = false := by simp [World.frozen?, hT289.hl]
            go_simp
            obtain ⟨Y290, heY290⟩ : ∃ X, X = Y288.setCell ⟨lb, 0, none⟩ (.slice (some ⟨g, 0, none⟩) (n + 2) cap) := ⟨_, rfl⟩
            have hT291 := hT289.cell (.slice (some ⟨g, 0, none⟩) (n + 2) cap)
            rw [← heY290] at hT291 ⊢
            clear heY290 q292 z293 hT289
            refine hK.out _ _ ?_ (fun hHeldN => ?_)
            · exact trivial
            clear hK K hHeld
            have hHeld := hHeldN
            clear hHeldN
            (try simp only [Act.put, pu1, pu2, pu3, pu4, pu5, pu6])
            refine wpAnyH_done (by kernel_rfl) ?_ _
            have hE294 := Lib.hid (hfin.out _ hT291)
            clear hT291 hHeld
            go_wp2_with fail
            go_ret
            exact ⟨rfl, hE294.out⟩
          · rw [if_pos (by rfl)]
            have q297 : Y286.cell? ⟨lb, 0, none⟩ = some (.slice sa n scap) := by rw [cell_of_row Y286 lb 0 _ _ _ hT287.hl]; rfl
            have z298 : Y286.frozen? ⟨lb, 0, none⟩ = false := by simp [World.frozen?, hT287.hl]
            go_simp
            obtain ⟨Y295, heY295⟩ : ∃ X, X = Y286.setCell ⟨lb, 0, none⟩ (.slice (some ⟨g, 0, none⟩) (n + 2) cap) := ⟨_, rfl⟩
            have hT296 := hT287.cell (.slice (some ⟨g, 0, none⟩) (n + 2) cap)
            rw [← heY295] at hT296 ⊢
            clear heY295 q297 z298 hT287
            refine hK.out _ _ ?_ (fun hHeldN => ?_)
            · exact trivial
            clear hK K hHeld
            have hHeld := hHeldN
            clear hHeldN
            (try simp only [Act.put, pu1, pu2, pu3, pu4, pu5, pu6])
            refine wpAnyH_ready (rs := [12]) (by kernel_rfl) (by simp) ?_
            refine AllReadyH.cons rfl (fun K hK => ?_) AllReadyH.nil
            rw [if_pos (by rfl)]
            refine wp_store_at 31 (.tmp 16) (.tmp 10) rfl g ((n + 1) * 11) [d0, d1, d2, d3, d4, d5, d6, d7, d8, d9, d10] (by simp [Act.eval]) (by simp [Act.eval]) 31 r5 hT296.hg (by kernel_rfl) f5 hone2 ?_
            rw [← e6]
            obtain ⟨Y299, heY299⟩ : ∃ X, X = Y295.setRow g r6 := ⟨_, rfl⟩
            have hT300 := hT296.row r6
            rw [← heY299] at hT300 ⊢
            clear heY299 hT296
            refine hK.out _ _ ?_ (fun hHeldN => ?_)
            · exact trivial
            clear hK K hHeld
            have hHeld := hHeldN
            clear hHeldN
            (try simp only [Act.put, pu1, pu2, pu3, pu4, pu5, pu6])
            refine wpAnyH_done (by kernel_rfl) ?_ _
            have hE301 := Lib.hid (hfin.out _ hT300)
            clear hT300 hHeld
            go_wp2_with fail
            go_ret
            exact ⟨rfl, hE301.out⟩
        · rw [if_pos (by rfl)]
          have q304 : w4.cell? ⟨lb, 0, none⟩ = some (.slice sa n scap) := by rw [cell_of_row w4 lb 0 _ _ _ hT4.hl]; rfl
          have z305 : w4.frozen? ⟨lb, 0, none⟩ = false := by simp [World.frozen?, hT4.hl]
          go_simp
          obtain ⟨Y302, heY302⟩ : ∃ X, X = w4.setCell ⟨lb, 0, none⟩ (.slice (some ⟨g, 0, none⟩) (n + 2) cap) := ⟨_, rfl⟩
          have hT303 := hT4.cell (.slice (some ⟨g, 0, none⟩) (n + 2) cap)
          rw [← heY302] at hT303 ⊢
          clear heY302 q304 z305 hT4
          refine hK.out _ _ ?_ (fun hHeldN => ?_)
          · exact trivial
          clear hK K hHeld
          have hHeld := hHeldN
          clear hHeldN
          (try simp only [Act.put, pu1, pu2, pu3, pu4, pu5, pu6])
          refine wpAnyH_ready (rs := [9]) (by kernel_rfl) (by simp) ?_
          refine AllReadyH.cons rfl (fun K hK => ?_) AllReadyH.nil
          rw [if_pos (by rfl)]
          refine wp_store_at 31 (.tmp 14) (.tmp 8) rfl g (n * 11) [c0, c1, c2, c3, c4, c5, c6, c7, c8, c9, c10] (by simp [Act.eval]) (by simp [Act.eval]) 31 r4 hT303.hg (by kernel_rfl) f4 hone1 ?_
          rw [← e5]
          obtain ⟨Y306, heY306⟩ : ∃ X, X = Y302.setRow g r5 := ⟨_, rfl⟩
          have hT307 := hT303.row r5
          rw [← heY306] at hT307 ⊢
          clear heY306 hT303
          refine hK.out _ _ ?_ (fun hHeldN => ?_)
          · exact trivial
          clear hK K hHeld
          have hHeld := hHeldN
          clear hHeldN
          (try simp only [Act.put, pu1, pu2, pu3, pu4, pu5, pu6])
          refine wpAnyH_take (i := 11) (v := ?vo36) rfl (by kernel_rfl) (by kernel_rfl) (by kernel_rfl) (fun _ _ _ h => h) (.inl ⟨by rfl, ?hyo36⟩) (by assumption) ?resto36
          case hyo36 => (intro w hSw; (try dsimp only at hSw); go_simp; first | done | with_reducible rfl)
          (try simp only [Act.put, pu1, pu2, pu3, pu4, pu5, pu6])
          refine wpAnyH_ready (rs := [12]) (by kernel_rfl) (by simp) ?_
          refine AllReadyH.cons rfl (fun K hK => ?_) AllReadyH.nil
          rw [if_pos (by rfl)]
          refine wp_store_at 31 (.tmp 16) (.tmp 10) rfl g ((n + 1) * 11) [d0, d1, d2, d3, d4, d5, d6, d7, d8, d9, d10] (by simp [Act.eval]) (by simp [Act.eval]) 31 r5 hT307.hg (by kernel_rfl) f5 hone2 ?_
          rw [← e6]
          obtain ⟨Y308, heY308⟩ : ∃ X, X = Y306.setRow g r6 := ⟨_, rfl⟩
          have hT309 := hT307.row r6
          rw [← heY308] at hT309 ⊢
          clear heY308 hT307
          refine hK.out _ _ ?_ (fun hHeldN => ?_)
          · exact trivial
          clear hK K hHeld
          have hHeld := hHeldN
          clear hHeldN
          (try simp only [Act.put, pu1, pu2, pu3, pu4, pu5, pu6])
          refine wpAnyH_done (by kernel_rfl) ?_ _
          have hE310 := Lib.hid (hfin.out _ hT309)
          clear hT309 hHeld
          go_wp2_with fail
          go_ret
          exact ⟨rfl, hE310.out⟩
      · rw [if_pos (by rfl)]
        go_simp
        refine (hPV.out _ hb274).mono ?_
        rintro e w311 ⟨cs, rfl, ht314, hw313⟩
        obtain ⟨d0, d1, d2, d3, d4, d5, d6, d7, d8, d9, d10, rfl⟩ := eleven (TRep.len ht314)
        have hb312 : Below W.heap.size W w311 := (hb274).trans (Below.mono hw313 (hb274).size)
        have ht315 := TRep.keep (only_keep (w' := w311) (S' := fun b => W.heap.size ≤ b) fun b _ hs => ⟨Nat.le_trans (hb274).size hs, rfl⟩) _ _ ht314
        clear ht314
        have ht316 := TRep.keep (only_keep (w' := w311) (S' := fun b => W.heap.size ≤ b) fun b hb hs => ⟨hs, hw313.block b hb⟩) _ _ ht277
        clear ht277
        have hz317 := (hw313.block zb (Array.getElem?_eq_some_iff.1 hz276).1).trans hz276
        clear hz276
        refine hK.out _ _ ?_ (fun hHeldN => ?_)
        · exact trivial
        clear hK K hHeld
        have hHeld := hHeldN
        clear hHeldN
        (try simp only [Act.put, pu1, pu2, pu3, pu4, pu5, pu6])
        refine wpAnyH_ready (rs := [0]) (by kernel_rfl) (by simp) ?_
        refine AllReadyH.cons rfl (fun K hK => ?_) AllReadyH.nil
        rw [if_pos (by rfl)]
        have q318 := keeps_of_below hb312 _ _ q0
        go_simp
        clear q318
        refine hK.out _ _ ?_ (fun hHeldN => ?_)
        · exact trivial
        clear hK K hHeld
        have hHeld := hHeldN
        clear hHeldN
        (try simp only [Act.put, pu1, pu2, pu3, pu4, pu5, pu6])
        refine wpAnyH_take (i := 5) (v := ?vo37) rfl (by kernel_rfl) (by kernel_rfl) (by kernel_rfl) (fun _ _ _ h => h) (.inl ⟨by rfl, ?hyo37⟩) (by assumption) ?resto37
        case hyo37 => (intro w hSw; (try dsimp only at hSw); go_simp; first | done | with_reducible rfl)
        (try simp only [Act.put, pu1, pu2, pu3, pu4, pu5, pu6])
        refine wpAnyH_take (i := 10) (v := ?vo38) rfl (by kernel_rfl) (by kernel_rfl) (by kernel_rfl) (fun _ _ _ h => h) (.inl ⟨by rfl, ?hyo38⟩) (by assumption) ?resto38
        case hyo38 => (intro w hSw; (try dsimp only at hSw); go_simp; first | done | with_reducible rfl)
        (try simp only [Act.put, pu1, pu2, pu3, pu4, pu5, pu6])
        refine wpAnyH_ready (rs := [7]) (by kernel_rfl) (by simp) ?_
        refine AllReadyH.cons rfl (fun K hK => ?_) AllReadyH.nil
        refine step_append_lies _ (by rfl) _ _ _ (by rfl) B 31 i0 _ 11 152 Try.underlying22 hi0 hz0 hz1 hz2 rfl (by omega) _ n xs (by rfl) (hrowX.out w311 hb312) ⟨zb, 0, none⟩ 2 2 [.int .i64 0, .bool false, .int .i64 0, .float .f64 0, .string ⟨#[]⟩, .slice none 0 0, .int .u64 0, .slice none 0 0, .slice none 0 0, .string ⟨#[]⟩, .int .i64 0, .int .i64 0, .bool false, .int .i64 0, .float .f64 0, .string ⟨#[]⟩, .slice none 0 0, .int .u64 0, .slice none 0 0, .slice none 0 0, .string ⟨#[]⟩, .int .i64 0] (by rfl) (by rfl) (World.news_of_block (cs := #[.int .i64 0, .bool false, .int .i64 0, .float .f64 0, .string ⟨#[]⟩, .slice none 0 0, .int .u64 0, .slice none 0 0, .slice none 0 0, .string ⟨#[]⟩, .int .i64 0, .int .i64 0, .bool false, .int .i64 0, .float .f64 0, .string ⟨#[]⟩, .slice none 0 0, .int .u64 0, .slice none 0 0, .slice none 0 0, .string ⟨#[]⟩, .int .i64 0]) (t := 31) (fr := (0, 0)) hz317) (fun u hu => by simp only [List.mem_cons, List.not_mem_nil, or_false] at hu; rcases hu with rfl | rfl | rfl | rfl | rfl | rfl | rfl | rfl | rfl | rfl | rfl | rfl | rfl | rfl | rfl | rfl | rfl | rfl | rfl | rfl | rfl | rfl <;> rfl) (by omega) (by unfold maxLen; omega) (by omega) (by have := (hb312).size; omega) _ rfl ?_
        intro g cap w4 hown4 hgr4 hat4 hlt4
        obtain ⟨r4, r5, r6, s4, e5, e6, f4, f5, hrows⟩ := add_rows (cs := [c0, c1, c2, c3, c4, c5, c6, c7, c8, c9, c10]) (ds := [d0, d1, d2, d3, d4, d5, d6, d7, d8, d9, d10]) hown4 hxl rfl rfl
        have hgne : g ≠ lb := fun e => by
          rcases hat4 with h | h
          · exact hlo (ownL_some.2 (by rw [h, e]))
          · have := (hb312).size; omega
        have hl4 : w4.heap[lb]? = some (.cells #[.slice sa n scap] 22 (0, 0)) := (hgr4.block lb (by have := (hb312).size; omega) (fun e => hlo (ownL_some.2 e.symm))).trans (hlX.out w311 hb312)
        have hT4 : Touch w4 w4 g lb r4 (.slice sa n scap) := ⟨rfl, rfl, rfl, rfl, s4, hl4, fun _ _ _ => rfl, hgne⟩
        have hfin := Lib.hid (fun X (hX : Touch w4 X g lb r6 (.slice (some ⟨g, 0, none⟩) (n + 2) cap)) => hdone.out _ _ _ _ _ _ _ _ hb312 ht316 ht315 hgr4 hat4 hX hrows)
        have hone1 := TRep.ones ht316
        have hone2 := TRep.ones ht315
        clear ht316 ht315 hz317 hown4 hgr4 hat4 hrows s4 hl4
        refine hK.out _ _ ?_ (fun hHeldN => ?_)
        · exact trivial
        clear hK K hHeld
        have hHeld := hHeldN
        clear hHeldN
        (try simp only [Act.put, pu1, pu2, pu3, pu4, pu5, pu6])
        refine wpAnyH_take (i := 8) (v := ?vo39) rfl (by kernel_rfl) (by kernel_rfl) (by kernel_rfl) (fun _ _ _ h => h) (.inl ⟨by rfl, ?hyo39⟩) (by assumption) ?resto39
        case hyo39 => (intro w hSw; (try dsimp only at hSw); go_simp; first | done | with_reducible rfl)
        (try simp only [Act.put, pu1, pu2, pu3, pu4, pu5, pu6])
        refine wpAnyH_ready (rs := [9, 13]) (by kernel_rfl) (by simp) ?_
        refine AllReadyH.cons rfl (fun K hK => ?_) (AllReadyH.cons rfl (fun K hK => ?_) AllReadyH.nil)
        · rw [if_pos (by rfl)]
          refine wp_store_at 31 (.tmp 14) (.tmp 8) rfl g (n * 11) [c0, c1, c2, c3, c4, c5, c6, c7, c8, c9, c10] (by simp [Act.eval]) (by simp [Act.eval]) 31 r4 hT4.hg (by kernel_rfl) f4 hone1 ?_
          rw [← e5]
          obtain ⟨Y319, heY319⟩ : ∃ X, X = w4.setRow g r5 := ⟨_, rfl⟩
          have hT320 := hT4.row r5
          rw [← heY319] at hT320 ⊢
          clear heY319 hT4
          refine hK.out _ _ ?_ (fun hHeldN => ?_)
          · exact trivial
          clear hK K hHeld
          have hHeld := hHeldN
          clear hHeldN
          (try simp only [Act.put, pu1, pu2, pu3, pu4, pu5, pu6])
          refine wpAnyH_take (i := 11) (v := ?vo40) rfl (by kernel_rfl) (by kernel_rfl) (by kernel_rfl) (fun _ _ _ h => h) (.inl ⟨by rfl, ?hyo40⟩) (by assumption) ?resto40
          case hyo40 => (intro w hSw; (try dsimp only at hSw); go_simp; first | done | with_reducible rfl)
          (try simp only [Act.put, pu1, pu2, pu3, pu4, pu5, pu6])
          refine wpAnyH_ready (rs := [12, 13]) (by kernel_rfl) (by simp) ?_
          refine AllReadyH.cons rfl (fun K hK => ?_) (AllReadyH.cons rfl (fun K hK => ?_) AllReadyH.nil)
          · rw [if_pos (by rfl)]
            refine wp_store_at 31 (.tmp 16) (.tmp 10) rfl g ((n + 1) * 11) [d0, d1, d2, d3, d4, d5, d6, d7, d8, d9, d10] (by simp [Act.eval]) (by simp [Act.eval]) 31 r5 hT320.hg (by kernel_rfl) f5 hone2 ?_
            rw [← e6]
            obtain ⟨Y321, heY321⟩ : ∃ X, X = Y319.setRow g r6 := ⟨_, rfl⟩
            have hT322 := hT320.row r6
            rw [← heY321] at hT322 ⊢
            clear heY321 hT320
            refine hK.out _ _ ?_ (fun hHeldN => ?_)
            · exact trivial
            clear hK K hHeld
            have hHeld := hHeldN
            clear hHeldN
            (try simp only [Act.put, pu1, pu2, pu3, pu4, pu5, pu6])
            refine wpAnyH_ready (rs := [13]) (by kernel_rfl) (by simp) ?_
            refine AllReadyH.cons rfl (fun K hK => ?_) AllReadyH.nil
            rw [if_pos (by rfl)]
            have q325 : Y321.cell? ⟨lb, 0, none⟩ = some (.slice sa n scap) := by rw [cell_of_row Y321 lb 0 _ _ _ hT322.hl]; rfl
            have z326 : Y321.frozen? ⟨lb, 0, none⟩ = false := by simp [World.frozen?, hT322.hl]
            go_simp
            obtain ⟨Y323, heY323⟩ : ∃ X, X = Y321.setCell ⟨lb, 0, none⟩ (.slice (some ⟨g, 0, none⟩) (n + 2) cap) := ⟨_, rfl⟩
            have hT324 := hT322.cell (.slice (some ⟨g, 0, none⟩) (n + 2) cap)
            rw [← heY323] at hT324 ⊢
            clear heY323 q325 z326 hT322
            refine hK.out _ _ ?_ (fun hHeldN => ?_)
            · exact trivial
            clear hK K hHeld
            have hHeld := hHeldN
            clear hHeldN
            (try simp only [Act.put, pu1, pu2, pu3, pu4, pu5, pu6])
            refine wpAnyH_done (by kernel_rfl) ?_ _
            have hE327 := Lib.hid (hfin.out _ hT324)
            clear hT324 hHeld
            go_wp2_with fail
            go_ret
            exact ⟨rfl, hE327.out⟩
          · rw [if_pos (by rfl)]
            have q330 : Y319.cell? ⟨lb, 0, none⟩ = some (.slice sa n scap) := by rw [cell_of_row Y319 lb 0 _ _ _ hT320.hl]; rfl
            have z331 : Y319.frozen? ⟨lb, 0, none⟩ = false := by simp [World.frozen?, hT320.hl]
            go_simp
            obtain ⟨Y328, heY328⟩ : ∃ X, X = Y319.setCell ⟨lb, 0, none⟩ (.slice (some ⟨g, 0, none⟩) (n + 2) cap) := ⟨_, rfl⟩
            have hT329 := hT320.cell (.slice (some ⟨g, 0, none⟩) (n + 2) cap)
            rw [← heY328] at hT329 ⊢
            clear heY328 q330 z331 hT320
            refine hK.out _ _ ?_ (fun hHeldN => ?_)
            · exact trivial
            clear hK K hHeld
            have hHeld := hHeldN
            clear hHeldN
            (try simp only [Act.put, pu1, pu2, pu3, pu4, pu5, pu6])
            refine wpAnyH_ready (rs := [12]) (by kernel_rfl) (by simp) ?_
            refine AllReadyH.cons rfl (fun K hK => ?_) AllReadyH.nil
            rw [if_pos (by rfl)]
            refine wp_store_at 31 (.tmp 16) (.tmp 10) rfl g ((n + 1) * 11) [d0, d1, d2, d3, d4, d5, d6, d7, d8, d9, d10] (by simp [Act.eval]) (by simp [Act.eval]) 31 r5 hT329.hg (by kernel_rfl) f5 hone2 ?_
            rw [← e6]
            obtain ⟨Y332, heY332⟩ : ∃ X, X = Y328.setRow g r6 := ⟨_, rfl⟩
            have hT333 := hT329.row r6
            rw [← heY332] at hT333 ⊢
            clear heY332 hT329
            refine hK.out _ _ ?_ (fun hHeldN => ?_)
            · exact trivial
            clear hK K hHeld
            have hHeld := hHeldN
            clear hHeldN
            (try simp only [Act.put, pu1, pu2, pu3, pu4, pu5, pu6])
            refine wpAnyH_done (by kernel_rfl) ?_ _
            have hE334 := Lib.hid (hfin.out _ hT333)
            clear hT333 hHeld
            go_wp2_with fail
            go_ret
            exact ⟨rfl, hE334.out⟩
        · rw [if_pos (by rfl)]
          have q337 : w4.cell? ⟨lb, 0, none⟩ = some (.slice sa n scap) := by rw [cell_of_row w4 lb 0 _ _ _ hT4.hl]; rfl
          have z338 : w4.frozen? ⟨lb, 0, none⟩ = false := by simp [World.frozen?, hT4.hl]
          go_simp
          obtain ⟨Y335, heY335⟩ : ∃ X, X = w4.setCell ⟨lb, 0, none⟩ (.slice (some ⟨g, 0, none⟩) (n + 2) cap) := ⟨_, rfl⟩
          have hT336 := hT4.cell (.slice (some ⟨g, 0, none⟩) (n + 2) cap)
          rw [← heY335] at hT336 ⊢
          clear heY335 q337 z338 hT4
          refine hK.out _ _ ?_ (fun hHeldN => ?_)
          · exact trivial
          clear hK K hHeld
          have hHeld := hHeldN
          clear hHeldN
          (try simp only [Act.put, pu1, pu2, pu3, pu4, pu5, pu6])
          refine wpAnyH_ready (rs := [9]) (by kernel_rfl) (by simp) ?_
          refine AllReadyH.cons rfl (fun K hK => ?_) AllReadyH.nil
          rw [if_pos (by rfl)]
          refine wp_store_at 31 (.tmp 14) (.tmp 8) rfl g (n * 11) [c0, c1, c2, c3, c4, c5, c6, c7, c8, c9, c10] (by simp [Act.eval]) (by simp [Act.eval]) 31 r4 hT336.hg (by kernel_rfl) f4 hone1 ?_
          rw [← e5]
          obtain ⟨Y339, heY339⟩ : ∃ X, X = Y335.setRow g r5 := ⟨_, rfl⟩
          have hT340 := hT336.row r5
          rw [← heY339] at hT340 ⊢
          clear heY339 hT336
          refine hK.out _ _ ?_ (fun hHeldN => ?_)
          · exact trivial
          clear hK K hHeld
          have hHeld := hHeldN
          clear hHeldN
          (try simp only [Act.put, pu1, pu2, pu3, pu4, pu5, pu6])
          refine wpAnyH_take (i := 11) (v := ?vo41) rfl (by kernel_rfl) (by kernel_rfl) (by kernel_rfl) (fun _ _ _ h => h) (.inl ⟨by rfl, ?hyo41⟩) (by assumption) ?resto41
          case hyo41 => (intro w hSw; (try dsimp only at hSw); go_simp; first | done | with_reducible rfl)
          (try simp only [Act.put, pu1, pu2, pu3, pu4, pu5, pu6])
          refine wpAnyH_ready (rs := [12]) (by kernel_rfl) (by simp) ?_
          refine AllReadyH.cons rfl (fun K hK => ?_) AllReadyH.nil
          rw [if_pos (by rfl)]
          refine wp_store_at 31 (.tmp 16) (.tmp 10) rfl g ((n + 1) * 11) [d0, d1, d2, d3, d4, d5, d6, d7, d8, d9, d10] (by simp [Act.eval]) (by simp [Act.eval]) 31 r5 hT340.hg (by kernel_rfl) f5 hone2 ?_
          rw [← e6]
          obtain ⟨Y341, heY341⟩ : ∃ X, X = Y339.setRow g r6 := ⟨_, rfl⟩
          have hT342 := hT340.row r6
          rw [← heY341] at hT342 ⊢
          clear heY341 hT340
          refine hK.out _ _ ?_ (fun hHeldN => ?_)
          · exact trivial
          clear hK K hHeld
          have hHeld := hHeldN
          clear hHeldN
          (try simp only [Act.put, pu1, pu2, pu3, pu4, pu5, pu6])
          refine wpAnyH_done (by kernel_rfl) ?_ _
          have hE343 := Lib.hid (hfin.out _ hT342)
          clear hT342 hHeld
          go_wp2_with fail
          go_ret
          exact ⟨rfl, hE343.out⟩
  · refine wp_of_exec (exec_buildSlice (vs := #[(0, .agg #[.int .i64 0, .bool false, .int .i64 0, .float .f64 0, .string ⟨#[]⟩, .slice none 0 0, .int .u64 0, .slice none 0 0, .slice none 0 0, .string ⟨#[]⟩, .int .i64 0]), (1, .agg #[.int .i64 0, .bool false, .int .i64 0, .float .f64 0, .string ⟨#[]⟩, .slice none 0 0, .int .u64 0, .slice none 0 0, .slice none 0 0, .string ⟨#[]⟩, .int .i64 0])]) rfl (by simp [Act.eval]) (run_build2 _)) ?_
    obtain ⟨zb, hzb⟩ : ∃ x, x = W.drew.heap.size := ⟨_, rfl⟩
    obtain ⟨w344, hew344⟩ : ∃ X, X = W.drew.alloc (.cells #[.int .i64 0, .bool false, .int .i64 0, .float .f64 0, .string ⟨#[]⟩, .slice none 0 0, .int .u64 0, .slice none 0 0, .slice none 0 0, .string ⟨#[]⟩, .int .i64 0, .int .i64 0, .bool false, .int .i64 0, .float .f64 0, .string ⟨#[]⟩, .slice none 0 0, .int .u64 0, .slice none 0 0, .slice none 0 0, .string ⟨#[]⟩, .int .i64 0] 31) := ⟨_, rfl⟩
    have hz347 : w344.heap[zb]? = some (.cells #[.int .i64 0, .bool false, .int .i64 0, .float .f64 0, .string ⟨#[]⟩, .slice none 0 0, .int .u64 0, .slice none 0 0, .slice none 0 0, .string ⟨#[]⟩, .int .i64 0, .int .i64 0, .bool false, .int .i64 0, .float .f64 0, .string ⟨#[]⟩, .slice none 0 0, .int .u64 0, .slice none 0 0, .slice none 0 0, .string ⟨#[]⟩, .int .i64 0] 31 (0, 0)) := by rw [hew344, hzb]; exact heap_alloc_new W.drew _
    have hw346 : Below W.drew.heap.size W.drew w344 := by rw [hew344]; exact (Below.refl _ _).alloc (Nat.le_refl _) _
    have hb345 : Below W.heap.size W w344 := ((Below.refl W.heap.size W).drew).trans (Below.mono hw346 ((Below.refl W.heap.size W).drew).size)
    rw [← hew344, ← hzb]
    clear hew344 hzb
    refine hK.out _ _ ?_ (fun hHeldN => ?_)
    · exact trivial
    clear hK K hHeld
    have hHeld := hHeldN
    clear hHeldN
    (try simp only [Act.put, pu1, pu2, pu3, pu4, pu5, pu6])
    refine wpAnyH_ready (rs := [0, 2]) (by kernel_rfl) (by simp) ?_
    refine AllReadyH.cons rfl (fun K hK => ?_) (AllReadyH.cons rfl (fun K hK => ?_) AllReadyH.nil)
    · rw [if_pos (by rfl)]
      have q348 := keeps_of_below hb345 _ _ q0
      go_simp
      clear q348
      refine hK.out _ _ ?_ (fun hHeldN => ?_)
      · exact trivial
      clear hK K hHeld
      have hHeld := hHeldN
      clear hHeldN
      (try simp only [Act.put, pu1, pu2, pu3, pu4, pu5, pu6])
      refine wpAnyH_take (i := 5) (v := ?vo42) rfl (by kernel_rfl) (by kernel_rfl) (by kernel_rfl) (fun _ _ _ h => h) (.inl ⟨by rfl, ?hyo42⟩) (by assumption) ?resto42
      case hyo42 => (intro w hSw; (try dsimp only at hSw); go_simp; first | done | with_reducible rfl)
      (try simp only [Act.put, pu1, pu2, pu3, pu4, pu5, pu6])
      refine wpAnyH_take (i := 10) (v := ?vo43) rfl (by kernel_rfl) (by kernel_rfl) (by kernel_rfl) (fun _ _ _ h => h) (.inl ⟨by rfl, ?hyo43⟩) (by assumption) ?resto43
      case hyo43 => (intro w hSw; (try dsimp only at hSw); go_simp; first | done | with_reducible rfl)
      (try simp only [Act.put, pu1, pu2, pu3, pu4, pu5, pu6])
      refine wpAnyH_ready (rs := [2]) (by kernel_rfl) (by simp) ?_
      refine AllReadyH.cons rfl (fun K hK => ?_) AllReadyH.nil
      rw [if_pos (by rfl)]
      go_simp
      refine (hPK.out _ hb345).mono ?_
      rintro e w349 ⟨cs, rfl, ht352, hw351⟩
      obtain ⟨c0, c1, c2, c3, c4, c5, c6, c7, c8, c9, c10, rfl⟩ := eleven (TRep.len ht352)
      have hb350 : Below W.heap.size W w349 := (hb345).trans (Below.mono hw351 (hb345).size)
      have ht353 := TRep.keep (only_keep (w' := w349) (S' := fun b => W.heap.size ≤ b) fun b _ hs => ⟨Nat.le_trans (hb345).size hs, rfl⟩) _ _ ht352
      clear ht352
      have hz354 := (hw351.block zb (Array.getElem?_eq_some_iff.1 hz347).1).trans hz347
      clear hz347
      refine hK.out _ _ ?_ (fun hHeldN => ?_)
      · exact trivial
      clear hK K hHeld
      have hHeld := hHeldN
      clear hHeldN
      (try simp only [Act.put, pu1, pu2, pu3, pu4, pu5, pu6])
      refine wpAnyH_ready (rs := [4]) (by kernel_rfl) (by simp) ?_
      refine AllReadyH.cons rfl (fun K hK => ?_) AllReadyH.nil
      rw [if_pos (by rfl)]
      go_simp
      refine (hPV.out _ hb350).mono ?_
      rintro e w355 ⟨cs, rfl, ht358, hw357⟩
      obtain ⟨d0, d1, d2, d3, d4, d5, d6, d7, d8, d9, d10, rfl⟩ := eleven (TRep.len ht358)
      have hb356 : Below W.heap.size W w355 := (hb350).trans (Below.mono hw357 (hb350).size)
      have ht359 := TRep.keep (only_keep (w' := w355) (S' := fun b => W.heap.size ≤ b) fun b _ hs => ⟨Nat.le_trans (hb350).size hs, rfl⟩) _ _ ht358
      clear ht358
      have ht360 := TRep.keep (only_keep (w' := w355) (S' := fun b => W.heap.size ≤ b) fun b hb hs => ⟨hs, hw357.block b hb⟩) _ _ ht353
      clear ht353
      have hz361 := (hw357.block zb (Array.getElem?_eq_some_iff.1 hz354).1).trans hz354
      clear hz354
      refine hK.out _ _ ?_ (fun hHeldN => ?_)
      · exact trivial
      clear hK K hHeld
      have hHeld := hHeldN
      clear hHeldN
      (try simp only [Act.put, pu1, pu2, pu3, pu4, pu5, pu6])
      refine wpAnyH_ready (rs := [7]) (by kernel_rfl) (by simp) ?_
      refine AllReadyH.cons rfl (fun K hK => ?_) AllReadyH.nil
      refine step_append_lies _ (by rfl) _ _ _ (by rfl) B 31 i0 _ 11 152 Try.underlying22 hi0 hz0 hz1 hz2 rfl (by omega) _ n xs (by rfl) (hrowX.out w355 hb356) ⟨zb, 0, none⟩ 2 2 [.int .i64 0, .bool false, .int .i64 0, .float .f64 0, .string ⟨#[]⟩, .slice none 0 0, .int .u64 0, .slice none 0 0, .slice none 0 0, .string ⟨#[]⟩, .int .i64 0, .int .i64 0, .bool false, .int .i64 0, .float .f64 0, .string ⟨#[]⟩, .slice none 0 0, .int .u64 0, .slice none 0 0, .slice none 0 0, .string ⟨#[]⟩, .int .i64 0] (by rfl) (by rfl) (World.news_of_block (cs := #[.int .i64 0, .bool false, .int .i64 0, .float .f64 0, .string ⟨#[]⟩, .slice none 0 0, .int .u64 0, .slice none 0 0, .slice none 0 0, .string ⟨#[]⟩, .int .i64 0, .int .i64 0, .bool false, .int .i64 0, .float .f64 0, .string ⟨#[]⟩, .slice none 0 0, .int .u64 0, .slice none 0 0, .slice none 0 0, .string ⟨#[]⟩, .int .i64 0]) (t := 31) (fr := (0, 0)) hz361) (fun u hu => by simp only [List.mem_cons, List.not_mem_nil, or_false] at hu; rcases hu with rfl | rfl | rfl | rfl | rfl | rfl | rfl | rfl | rfl | rfl | rfl | rfl | rfl | rfl | rfl | rfl | rfl | rfl | rfl | rfl | rfl | rfl <;> rfl) (by omega) (by unfold maxLen; omega) (by omega) (by have := (hb356).size; omega) _ rfl ?_
      intro g cap w4 hown4 hgr4 hat4 hlt4
      obtain ⟨r4, r5, r6, s4, e5, e6, f4, f5, hrows⟩ := add_rows (cs := [c0, c1, c2, c3, c4, c5, c6, c7, c8, c9, c10]) (ds := [d0, d1, d2, d3, d4, d5, d6, d7, d8, d9, d10]) hown4 hxl rfl rfl
      have hgne : g ≠ lb := fun e => by
        rcases hat4 with h | h
        · exact hlo (ownL_some.2 (by rw [h, e]))
        · have := (hb356).size; omega
      have hl4 : w4.heap[lb]? = some (.cells #[.slice sa n scap] 22 (0, 0)) := (hgr4.block lb (by have := (hb356).size; omega) (fun e => hlo (ownL_some.2 e.symm))).trans (hlX.out w355 hb356)
      have hT4 : Touch w4 w4 g lb r4 (.slice sa n scap) := ⟨rfl, rfl, rfl, rfl, s4, hl4, fun _ _ _ => rfl, hgne⟩
      have hfin := Lib.hid (fun X (hX : Touch w4 X g lb r6 (.slice (some ⟨g, 0, none⟩) (n + 2) cap)) => hdone.out _ _ _ _ _ _ _ _ hb356 ht360 ht359 hgr4 hat4 hX hrows)
      have hone1 := TRep.ones ht360
      have hone2 := TRep.ones ht359
      clear ht360 ht359 hz361 hown4 hgr4 hat4 hrows s4 hl4
      refine hK.out _ _ ?_ (fun hHeldN => ?_)
      · exact trivial
      clear hK K hHeld
      have hHeld := hHeldN
      clear hHeldN
      (try simp only [Act.put, pu1, pu2, pu3, pu4, pu5, pu6])
      refine wpAnyH_take (i := 8) (v := ?vo44) rfl (by kernel_rfl) (by kernel_rfl) (by kernel_rfl) (fun _ _ _ h => h) (.inl ⟨by rfl, ?hyo44⟩) (by assumption) ?resto44
      case hyo44 => (intro w hSw; (try dsimp only at hSw); go_simp; first | done | with_reducible rfl)
      (try simp only [Act.put, pu1, pu2, pu3, pu4, pu5, pu6])
      refine wpAnyH_ready (rs := [9, 13]) (by kernel_rfl) (by simp) ?_
      refine AllReadyH.cons rfl (fun K hK => ?_) (AllReadyH.cons rfl (fun K hK => ?_) AllReadyH.nil)
      · rw [if_pos (by rfl)]
        refine wp_store_at 31 (.tmp 14) (.tmp 8) rfl g (n * 11) [c0, c1, c2, c3, c4, c5, c6, c7, c8, c9, c10] (by simp [Act.eval]) (by simp [Act.eval]) 31 r4 hT4.hg (by kernel_rfl) f4 hone1 ?_
        rw [← e5]
        obtain ⟨Y362, heY362⟩ : ∃ X, X = w4.setRow g r5 := ⟨_, rfl⟩
        have hT363 := hT4.row r5
        rw [← heY362] at hT363 ⊢
        clear heY362 hT4
        refine hK.out _ _ ?_ (fun hHeldN => ?_)
        · exact trivial
        clear hK K hHeld
        have hHeld := hHeldN
        clear hHeldN
        (try simp only [Act.put, pu1, pu2, pu3, pu4, pu5, pu6])
        refine wpAnyH_take (i := 11) (v := ?vo45) rfl (by kernel_rfl) (by kernel_rfl) (by kernel_rfl) (fun _ _ _ h => h) (.inl ⟨by rfl, ?hyo45⟩) (by assumption) ?resto45
        case hyo45 => (intro w hSw; (try dsimp only at hSw); go_simp; first | done | with_reducible rfl)
        (try simp only [Act.put, pu1, pu2, pu3, pu4, pu5, pu6])
        refine wpAnyH_ready (rs := [12, 13]) (by kernel_rfl) (by simp) ?_
        refine AllReadyH.cons rfl (fun K hK => ?_) (AllReadyH.cons rfl (fun K hK => ?_) AllReadyH.nil)
        · rw [if_pos (by rfl)]
          refine wp_store_at 31 (.tmp 16) (.tmp 10) rfl g ((n + 1) * 11) [d0, d1, d2, d3, d4, d5, d6, d7, d8, d9, d10] (by simp [Act.eval]) (by simp [Act.eval]) 31 r5 hT363.hg (by kernel_rfl) f5 hone2 ?_
          rw [← e6]
          obtain ⟨Y364, heY364⟩ : ∃ X, X = Y362.setRow g r6 := ⟨_, rfl⟩
          have hT365 := hT363.row r6
          rw [← heY364] at hT365 ⊢
          clear heY364 hT363
          refine hK.out _ _ ?_ (fun hHeldN => ?_)
          · exact trivial
          clear hK K hHeld
          have hHeld := hHeldN
          clear hHeldN
          (try simp only [Act.put, pu1, pu2, pu3, pu4, pu5, pu6])
          refine wpAnyH_ready (rs := [13]) (by kernel_rfl) (by simp) ?_
          refine AllReadyH.cons rfl (fun K hK => ?_) AllReadyH.nil
          rw [if_pos (by rfl)]
          have q368 : Y364.cell? ⟨lb, 0, none⟩ = some (.slice sa n scap) := by rw [cell_of_row Y364 lb 0 _ _ _ hT365.hl]; rfl
          have z369 : Y364.frozen? ⟨lb, 0, none⟩ = false := by simp [World.frozen?, hT365.hl]
          go_simp
          obtain ⟨Y366, heY366⟩ : ∃ X, X = Y364.setCell ⟨lb, 0, none⟩ (.slice (some ⟨g, 0, none⟩) (n + 2) cap) := ⟨_, rfl⟩
          have hT367 := hT365.cell (.slice (some ⟨g, 0, none⟩) (n + 2) cap)
          rw [← heY366] at hT367 ⊢
          clear heY366 q368 z369 hT365
          refine hK.out _ _ ?_ (fun hHeldN => ?_)
          · exact trivial
          clear hK K hHeld
          have hHeld := hHeldN
          clear hHeldN
          (try simp only [Act.put, pu1, pu2, pu3, pu4, pu5, pu6])
          refine wpAnyH_done (by kernel_rfl) ?_ _
          have hE370 := Lib.hid (hfin.out _ hT367)
          clear hT367 hHeld
          go_wp2_with fail
          go_ret
          exact ⟨rfl, hE370.out⟩
        · rw [if_pos (by rfl)]
          have q373 : Y362.cell? ⟨lb, 0, none⟩ = some (.slice sa n scap) := by rw [cell_of_row Y362 lb 0 _ _ _ hT363.hl]; rfl
          have z374 : Y362.frozen? ⟨lb, 0, none⟩ = false := by simp [World.frozen?, hT363.hl]
          go_simp
          obtain ⟨Y371, heY371⟩ : ∃ X, X = Y362.setCell ⟨lb, 0, none⟩ (.slice (some ⟨g, 0, none⟩) (n + 2) cap) := ⟨_, rfl⟩
          have hT372 := hT363.cell (.slice (some ⟨g, 0, none⟩) (n + 2) cap)
          rw [← heY371] at hT372 ⊢
          clear heY371 q373 z374 hT363
          refine hK.out _ _ ?_ (fun hHeldN => ?_)
          · exact trivial
          clear hK K hHeld
          have hHeld := hHeldN
          clear hHeldN
          (try simp only [Act.put, pu1, pu2, pu3, pu4, pu5, pu6])
          refine wpAnyH_ready (rs := [12]) (by kernel_rfl) (by simp) ?_
          refine AllReadyH.cons rfl (fun K hK => ?_) AllReadyH.nil
          rw [if_pos (by rfl)]
          refine wp_store_at 31 (.tmp 16) (.tmp 10) rfl g ((n + 1) * 11) [d0, d1, d2, d3, d4, d5, d6, d7, d8, d9, d10] (by simp [Act.eval]) (by simp [Act.eval]) 31 r5 hT372.hg (by kernel_rfl) f5 hone2 ?_
          rw [← e6]
          obtain ⟨Y375, heY375⟩ : ∃ X, X = Y371.setRow g r6 := ⟨_, rfl⟩
          have hT376 := hT372.row r6
          rw [← heY375] at hT376 ⊢
          clear heY375 hT372
          refine hK.out _ _ ?_ (fun hHeldN => ?_)
          · exact trivial
          clear hK K hHeld
          have hHeld := hHeldN
          clear hHeldN
          (try simp only [Act.put, pu1, pu2, pu3, pu4, pu5, pu6])
          refine wpAnyH_done (by kernel_rfl) ?_ _
          have hE377 := Lib.hid (hfin.out _ hT376)
          clear hT376 hHeld
          go_wp2_with fail
          go_ret
          exact ⟨rfl, hE377.out⟩
      · rw [if_pos (by rfl)]
        have q380 : w4.cell? ⟨lb, 0, none⟩ = some (.slice sa n scap) := by rw [cell_of_row w4 lb 0 _ _ _ hT4.hl]; rfl
        have z381 : w4.frozen? ⟨lb, 0, none⟩ = false := by simp [World.frozen?, hT4.hl]
        go_simp
        obtain ⟨Y378, heY378⟩ : ∃ X, X = w4.setCell ⟨lb, 0, none⟩ (.slice (some ⟨g, 0, none⟩) (n + 2) cap) := ⟨_, rfl⟩
        have hT379 := hT4.cell (.slice (some ⟨g, 0, none⟩) (n + 2) cap)
        rw [← heY378] at hT379 ⊢
        clear heY378 q380 z381 hT4
        refine hK.out _ _ ?_ (fun hHeldN => ?_)
        · exact trivial
        clear hK K hHeld
        have hHeld := hHeldN
        clear hHeldN
        (try simp only [Act.put, pu1, pu2, pu3, pu4, pu5, pu6])
        refine wpAnyH_ready (rs := [9]) (by kernel_rfl) (by simp) ?_
        refine AllReadyH.cons rfl (fun K hK => ?_) AllReadyH.nil
        rw [if_pos (by rfl)]
        refine wp_store_at 31 (.tmp 14) (.tmp 8) rfl g (n * 11) [c0, c1, c2, c3, c4, c5, c6, c7, c8, c9, c10] (by simp [Act.eval]) (by simp [Act.eval]) 31 r4 hT379.hg (by kernel_rfl) f4 hone1 ?_
        rw [← e5]
        obtain ⟨Y382, heY382⟩ : ∃ X, X = Y378.setRow g r5 := ⟨_, rfl⟩
        have hT383 := hT379.row r5
        rw [← heY382] at hT383 ⊢
        clear heY382 hT379
        refine hK.out _ _ ?_ (fun hHeldN => ?_)
        · exact trivial
        clear hK K hHeld
        have hHeld := hHeldN
        clear hHeldN
        (try simp only [Act.put, pu1, pu2, pu3, pu4, pu5, pu6])
        refine wpAnyH_take (i := 11) (v := ?vo46) rfl (by kernel_rfl) (by kernel_rfl) (by kernel_rfl) (fun _ _ _ h => h) (.inl ⟨by rfl, ?hyo46⟩) (by assumption) ?resto46
        case hyo46 => (intro w hSw; (try dsimp only at hSw); go_simp; first | done | with_reducible rfl)
        (try simp only [Act.put, pu1, pu2, pu3, pu4, pu5, pu6])
        refine wpAnyH_ready (rs := [12]) (by kernel_rfl) (by simp) ?_
        refine AllReadyH.cons rfl (fun K hK => ?_) AllReadyH.nil
        rw [if_pos (by rfl)]
        refine wp_store_at 31 (.tmp 16) (.tmp 10) rfl g ((n + 1) * 11) [d0, d1, d2, d3, d4, d5, d6, d7, d8, d9, d10] (by simp [Act.eval]) (by simp [Act.eval]) 31 r5 hT383.hg (by kernel_rfl) f5 hone2 ?_
        rw [← e6]
        obtain ⟨Y384, heY384⟩ : ∃ X, X = Y382.setRow g r6 := ⟨_, rfl⟩
        have hT385 := hT383.row r6
        rw [← heY384] at hT385 ⊢
        clear heY384 hT383
        refine hK.out _ _ ?_ (fun hHeldN => ?_)
        · exact trivial
        clear hK K hHeld
        have hHeld := hHeldN
        clear hHeldN
        (try simp only [Act.put, pu1, pu2, pu3, pu4, pu5, pu6])
        refine wpAnyH_done (by kernel_rfl) ?_ _
        have hE386 := Lib.hid (hfin.out _ hT385)
        clear hT385 hHeld
        go_wp2_with fail
        go_ret
        exact ⟨rfl, hE386.out⟩
    · rw [if_pos (by rfl)]
      go_simp
      refine (hPK.out _ hb345).mono ?_
      rintro e w387 ⟨cs, rfl, ht390, hw389⟩
      obtain ⟨c0, c1, c2, c3, c4, c5, c6, c7, c8, c9, c10, rfl⟩ := eleven (TRep.len ht390)
      have hb388 : Below W.heap.size W w387 := (hb345).trans (Below.mono hw389 (hb345).size)
      have ht391 := TRep.keep (only_keep (w' := w387) (S' := fun b => W.heap.size ≤ b) fun b _ hs => ⟨Nat.le_trans (hb345).size hs, rfl⟩) _ _ ht390
      clear ht390
      have hz392 := (hw389.block zb (Array.getElem?_eq_some_iff.1 hz347).1).trans hz347
      clear hz347
      refine hK.out _ _ ?_ (fun hHeldN => ?_)
      · exact trivial
      clear hK K hHeld
      have hHeld := hHeldN
      clear hHeldN
      (try simp only [Act.put, pu1, pu2, pu3, pu4, pu5, pu6])
      refine wpAnyH_ready (rs := [0, 4]) (by kernel_rfl) (by simp) ?_
      refine AllReadyH.cons rfl (fun K hK => ?_) (AllReadyH.cons rfl (fun K hK => ?_) AllReadyH.nil)
      · rw [if_pos (by rfl)]
        have q393 := keeps_of_below hb388 _ _ q0
        go_simp
        clear q393
        refine hK.out _ _ ?_ (fun hHeldN => ?_)
        · exact trivial
        clear hK K hHeld
        have hHeld := hHeldN
        clear hHeldN
        (try simp only [Act.put, pu1, pu2, pu3, pu4, pu5, pu6])
        refine wpAnyH_take (i := 5) (v := ?vo47) rfl (by kernel_rfl) (by kernel_rfl) (by kernel_rfl) (fun _ _ _ h => h) (.inl ⟨by rfl, ?hyo47⟩) (by assumption) ?resto47
        case hyo47 => (intro w hSw; (try dsimp only at hSw); go_simp; first | done | with_reducible rfl)
        (try simp only [Act.put, pu1, pu2, pu3, pu4, pu5, pu6])
        refine wpAnyH_take (i := 10) (v := ?vo48) rfl (by kernel_rfl) (by kernel_rfl) (by kernel_rfl) (fun _ _ _ h => h) (.inl ⟨by rfl, ?hyo48⟩) (by assumption) ?resto48
        case hyo48 => (intro w hSw; (try dsimp only at hSw); go_simp; first | done | with_reducible rfl)
        (try simp only [Act.put, pu1, pu2, pu3, pu4, pu5, pu6])
        refine wpAnyH_ready (rs := [4]) (by kernel_rfl) (by simp) ?_
        refine AllReadyH.cons rfl (fun K hK => ?_) AllReadyH.nil
        rw [if_pos (by rfl)]
        go_simp
        refine (hPV.out _ hb388).mono ?_
        rintro e w394 ⟨cs, rfl, ht397, hw396⟩
        obtain ⟨d0, d1, d2, d3, d4, d5, d6, d7, d8, d9, d10, rfl⟩ := eleven (TRep.len ht397)
        have hb395 : Below W.heap.size W w394 := (hb388).trans (Below.mono hw396 (hb388).size)
        have ht398 := TRep.keep (only_keep (w' := w394) (S' := fun b => W.heap.size ≤ b) fun b _ hs => ⟨Nat.le_trans (hb388).size hs, rfl⟩) _ _ ht397
        clear ht397
        have ht399 := TRep.keep (only_keep (w' := w394) (S' := fun b => W.heap.size ≤ b) fun b hb hs => ⟨hs, hw396.block b hb⟩) _ _ ht391
        clear ht391
        have hz400 := (hw396.block zb (Array.getElem?_eq_some_iff.1 hz392).1).trans hz392
        clear hz392
        refine hK.out _ _ ?_ (fun hHeldN => ?_)
        · exact trivial
        clear hK K hHeld
        have hHeld := hHeldN
        clear hHeldN
        (try simp only [Act.put, pu1, pu2, pu3, pu4, pu5, pu6])
        refine wpAnyH_ready (rs := [7]) (by kernel_rfl) (by simp) ?_
        refine AllReadyH.cons rfl (fun K hK => ?_) AllReadyH.nil
        refine step_append_lies _ (by rfl) _ _ _ (by rfl) B 31 i0 _ 11 152 Try.underlying22 hi0 hz0 hz1 hz2 rfl (by omega) _ n xs (by rfl) (hrowX.out w394 hb395) ⟨zb, 0, none⟩ 2 2 [.int .i64 0, .bool false, .int .i64 0, .float .f64 0, .string ⟨#[]⟩, .slice none 0 0, .int .u64 0, .slice none 0 0, .slice none 0 0, .string ⟨#[]⟩, .int .i64 0, .int .i64 0, .bool false, .int .i64 0, .float .f64 0, .string ⟨#[]⟩, .slice none 0 0, .int .u64 0, .slice none 0 0, .slice none 0 0, .string ⟨#[]⟩, .int .i64 0] (by rfl) (by rfl) (World.news_of_block (cs := #[.int .i64 0, .bool false, .int .i64 0, .float .f64 0, .string ⟨#[]⟩, .slice none 0 0, .int .u64 0, .slice none 0 0, .slice none 0 0, .string ⟨#[]⟩, .int .i64 0, .int .i64 0, .bool false, .int .i64 0, .float .f64 0, .string ⟨#[]⟩, .slice none 0 0, .int .u64 0, .slice none 0 0, .slice none 0 0, .string ⟨#[]⟩, .int .i64 0]) (t := 31) (fr := (0, 0)) hz400) (fun u hu => by simp only [List.mem_cons, List.not_mem_nil, or_false] at hu; rcases hu with rfl | rfl | rfl | rfl | rfl | rfl | rfl | rfl | rfl | rfl | rfl | rfl | rfl | rfl | rfl | rfl | rfl | rfl | rfl | rfl | rfl | rfl <;> rfl) (by omega) (by unfold maxLen; omega) (by omega) (by have := (hb395).size; omega) _ rfl ?_
        intro g cap w4 hown4 hgr4 hat4 hlt4
        obtain ⟨r4, r5, r6, s4, e5, e6, f4, f5, hrows⟩ := add_rows (cs := [c0, c1, c2, c3, c4, c5, c6, c7, c8, c9, c10]) (ds := [d0, d1, d2, d3, d4, d5, d6, d7, d8, d9, d10]) hown4 hxl rfl rfl
        have hgne : g ≠ lb := fun e => by
          rcases hat4 with h | h
          · exact hlo (ownL_some.2 (by rw [h, e]))
          · have := (hb395).size; omega
        have hl4 : w4.heap[lb]? = some (.cells #[.slice sa n scap] 22 (0, 0)) := (hgr4.block lb (by have := (hb395).size; omega) (fun e => hlo (ownL_some.2 e.symm))).trans (hlX.out w394 hb395)
        have hT4 : Touch w4 w4 g lb r4 (.slice sa n scap) := ⟨rfl, rfl, rfl, rfl, s4, hl4, fun _ _ _ => rfl, hgne⟩
        have hfin := Lib.hid (fun X (hX : Touch w4 X g lb r6 (.slice (some ⟨g, 0, none⟩) (n + 2) cap)) => hdone.out _ _ _ _ _ _ _ _ hb395 ht399 ht398 hgr4 hat4 hX hrows)
        have hone1 := TRep.ones ht399
        have hone2 := TRep.ones ht398
        clear ht399 ht398 hz400 hown4 hgr4 hat4 hrows s4 hl4
        refine hK.out _ _ ?_ (fun hHeldN => ?_)
        · exact trivial
        clear hK K hHeld
        have hHeld := hHeldN
        clear hHeldN
        (try simp only [Act.put, pu1, pu2, pu3, pu4, pu5, pu6])
        refine wpAnyH_take (i := 8) (v := ?vo49) rfl (by kernel_rfl) (by kernel_rfl) (by kernel_rfl) (fun _ _ _ h => h) (.inl ⟨by rfl, ?hyo49⟩) (by assumption) ?resto49
        case hyo49 => (intro w hSw; (try dsimp only at hSw); go_simp; first | done | with_reducible rfl)
        (try simp only [Act.put, pu1, pu2, pu3, pu4, pu5, pu6])
        refine wpAnyH_ready (rs := [9, 13]) (by kernel_rfl) (by simp) ?_
        refine AllReadyH.cons rfl (fun K hK => ?_) (AllReadyH.cons rfl (fun K hK => ?_) AllReadyH.nil)
        · rw [if_pos (by rfl)]
          refine wp_store_at 31 (.tmp 14) (.tmp 8) rfl g (n * 11) [c0, c1, c2, c3, c4, c5, c6, c7, c8, c9, c10] (by simp [Act.eval]) (by simp [Act.eval]) 31 r4 hT4.hg (by kernel_rfl) f4 hone1 ?_
          rw [← e5]
          obtain ⟨Y401, heY401⟩ : ∃ X, X = w4.setRow g r5 := ⟨_, rfl⟩
          have hT402 := hT4.row r5
          rw [← heY401] at hT402 ⊢
          clear heY401 hT4
          refine hK.out _ _ ?_ (fun hHeldN => ?_)
          · exact trivial
          clear hK K hHeld
          have hHeld := hHeldN
          clear hHeldN
          (try simp only [Act.put, pu1, pu2, pu3, pu4, pu5, pu6])
          refine wpAnyH_take (i := 11) (v := ?vo50) rfl (by kernel_rfl) (by kernel_rfl) (by kernel_rfl) (fun _ _ _ h => h) (.inl ⟨by rfl, ?hyo50⟩) (by assumption) ?resto50
          case hyo50 => (intro w hSw; (try dsimp only at hSw); go_simp; first | done | with_reducible rfl)
          (try simp only [Act.put, pu1, pu2, pu3, pu4, pu5, pu6])
          refine wpAnyH_ready (rs := [12, 13]) (by kernel_rfl) (by simp) ?_
          refine AllReadyH.cons rfl (fun K hK => ?_) (AllReadyH.cons rfl (fun K hK => ?_) AllReadyH.nil)
          · rw [if_pos (by rfl)]
            refine wp_store_at 31 (.tmp 16) (.tmp 10) rfl g ((n + 1) * 11) [d0, d1, d2, d3, d4, d5, d6, d7, d8, d9, d10] (by simp [Act.eval]) (by simp [Act.eval]) 31 r5 hT402.hg (by kernel_rfl) f5 hone2 ?_
            rw [← e6]
            obtain ⟨Y403, heY403⟩ : ∃ X, X = Y401.setRow g r6 := ⟨_, rfl⟩
            have hT404 := hT402.row r6
            rw [← heY403] at hT404 ⊢
            clear heY403 hT402
            refine hK.out _ _ ?_ (fun hHeldN => ?_)
            · exact trivial
            clear hK K hHeld
            have hHeld := hHeldN
            clear hHeldN
            (try simp only [Act.put, pu1, pu2, pu3, pu4, pu5, pu6])
            refine wpAnyH_ready (rs := [13]) (by kernel_rfl) (by simp) ?_
            refine AllReadyH.cons rfl (fun K hK => ?_) AllReadyH.nil
            rw [if_pos (by rfl)]
            have q407 : Y403.cell? ⟨lb, 0, none⟩ = some (.slice sa n scap) := by rw [cell_of_row Y403 lb 0 _ _ _ hT404.hl]; rfl
            have z408 : Y403.frozen? ⟨lb, 0, none⟩ = false := by simp [World.frozen?, hT404.hl]
            go_simp
            obtain ⟨Y405, heY405⟩ : ∃ X, X = Y403.setCell ⟨lb, 0, none⟩ (.slice (some ⟨g, 0, none⟩) (n + 2) cap) := ⟨_, rfl⟩
            have hT406 := hT404.cell (.slice (some ⟨g, 0, none⟩) (n + 2) cap)
            rw [← heY405] at hT406 ⊢
            clear heY405 q407 z408 hT404
            refine hK.out _ _ ?_ (fun hHeldN => ?_)
            · exact trivial
            clear hK K hHeld
            have hHeld := hHeldN
            clear hHeldN
            (try simp only [Act.put, pu1, pu2, pu3, pu4, pu5, pu6])
            refine wpAnyH_done (by kernel_rfl) ?_ _
            have hE409 := Lib.hid (hfin.out _ hT406)
            clear hT406 hHeld
            go_wp2_with fail
            go_ret
            exact ⟨rfl, hE409.out⟩
          · rw [if_pos (by rfl)]
            have q412 : Y401.cell? ⟨lb, 0, none⟩ = some (.slice sa n scap) := by rw [cell_of_row Y401 lb 0 _ _ _ hT402.hl]; rfl
            have z413 : Y401.frozen? ⟨lb, 0, none⟩ = false := by simp [World.frozen?, hT402.hl]
            go_simp
            obtain ⟨Y410, heY410⟩ : ∃ X, X = Y401.setCell ⟨lb, 0, none⟩ (.slice (some ⟨g, 0, none⟩) (n + 2) cap) := ⟨_, rfl⟩
            have hT411 := hT402.cell (.slice (some ⟨g, 0, none⟩) (n + 2) cap)
            rw [← heY410] at hT411 ⊢
            clear heY410 q412 z413 hT402
            refine hK.out _ _ ?_ (fun hHeldN => ?_)
            · exact trivial
            clear hK K hHeld
            have hHeld := hHeldN
            clear hHeldN
            (try simp only [Act.put, pu1, pu2, pu3, pu4, pu5, pu6])
            refine wpAnyH_ready (rs := [12]) (by kernel_rfl) (by simp) ?_
            refine AllReadyH.cons rfl (fun K hK => ?_) AllReadyH.nil
            rw [if_pos (by rfl)]
            refine wp_store_at 31 (.tmp 16) (.tmp 10) rfl g ((n + 1) * 11) [d0, d1, d2, d3, d4, d5, d6, d7, d8, d9, d10] (by simp [Act.eval]) (by simp [Act.eval]) 31 r5 hT411.hg (by kernel_rfl) f5 hone2 ?_
            rw [← e6]
            obtain ⟨Y414, heY414⟩ : ∃ X, X = Y410.setRow g r6 := ⟨_, rfl⟩
            have hT415 := hT411.row r6
            rw [← heY414] at hT415 ⊢
            clear heY414 hT411
            refine hK.out _ _ ?_ (fun hHeldN => ?_)
            · exact trivial
            clear hK K hHeld
            have hHeld := hHeldN
            clear hHeldN
            (try simp only [Act.put, pu1, pu2, pu3, pu4, pu5, pu6])
            refine wpAnyH_done (by kernel_rfl) ?_ _
            have hE416 := Lib.hid (hfin.out _ hT415)
            clear hT415 hHeld
            go_wp2_with fail
            go_ret
            exact ⟨rfl, hE416.out⟩
        · rw [if_pos (by rfl)]
          have q419 : w4.cell? ⟨lb, 0, none⟩ = some (.slice sa n scap) := by rw [cell_of_row w4 lb 0 _ _ _ hT4.hl]; rfl
          have z420 : w4.frozen? ⟨lb, 0, none⟩ = false := by simp [World.frozen?, hT4.hl]
          go_simp
          obtain ⟨Y417, heY417⟩ : ∃ X, X = w4.setCell ⟨lb, 0, none⟩ (.slice (some ⟨g, 0, none⟩) (n + 2) cap) := ⟨_, rfl⟩
          have hT418 := hT4.cell (.slice (some ⟨g, 0, none⟩) (n + 2) cap)
          rw [← heY417] at hT418 ⊢
          clear heY417 q419 z420 hT4
          refine hK.out _ _ ?_ (fun hHeldN => ?_)
          · exact trivial
          clear hK K hHeld
          have hHeld := hHeldN
          clear hHeldN
          (try simp only [Act.put, pu1, pu2, pu3, pu4, pu5, pu6])
          refine wpAnyH_ready (rs := [9]) (by kernel_rfl) (by simp) ?_
          refine AllReadyH.cons rfl (fun K hK => ?_) AllReadyH.nil
          rw [if_pos (by rfl)]
          refine wp_store_at 31 (.tmp 14) (.tmp 8) rfl g (n * 11) [c0, c1, c2, c3, c4, c5, c6, c7, c8, c9, c10] (by simp [Act.eval]) (by simp [Act.eval]) 31 r4 hT418.hg (by kernel_rfl) f4 hone1 ?_
          rw [← e5]
          obtain ⟨Y421, heY421⟩ : ∃ X, X = Y417.setRow g r5 := ⟨_, rfl⟩
          have hT422 := hT418.row r5
          rw [← heY421] at hT422 ⊢
          clear heY421 hT418
          refine hK.out _ _ ?_ (fun hHeldN => ?_)
          · exact trivial
          clear hK K hHeld
          have hHeld := hHeldN
          clear hHeldN
          (try simp only [Act.put, pu1, pu2, pu3, pu4, pu5, pu6])
          refine wpAnyH_take (i := 11) (v := ?vo51) rfl (by kernel_rfl) (by kernel_rfl) (by kernel_rfl) (fun _ _ _ h => h) (.inl ⟨by rfl, ?hyo51⟩) (by assumption) ?resto51
          case hyo51 => (intro w hSw; (try dsimp only at hSw); go_simp; first | done | with_reducible rfl)
          (try simp only [Act.put, pu1, pu2, pu3, pu4, pu5, pu6])
          refine wpAnyH_ready (rs := [12]) (by kernel_rfl) (by simp) ?_
          refine AllReadyH.cons rfl (fun K hK => ?_) AllReadyH.nil
          rw [if_pos (by rfl)]
          refine wp_store_at 31 (.tmp 16) (.tmp 10) rfl g ((n + 1) * 11) [d0, d1, d2, d3, d4, d5, d6, d7, d8, d9, d10] (by simp [Act.eval]) (by simp [Act.eval]) 31 r5 hT422.hg (by kernel_rfl) f5 hone2 ?_
          rw [← e6]
          obtain ⟨Y423, heY423⟩ : ∃ X, X = Y421.setRow g r6 := ⟨_, rfl⟩
          have hT424 := hT422.row r6
          rw [← heY423] at hT424 ⊢
          clear heY423 hT422
          refine hK.out _ _ ?_ (fun hHeldN => ?_)
          · exact trivial
          clear hK K hHeld
          have hHeld := hHeldN
          clear hHeldN
          (try simp only [Act.put, pu1, pu2, pu3, pu4, pu5, pu6])
          refine wpAnyH_done (by kernel_rfl) ?_ _
          have hE425 := Lib.hid (hfin.out _ hT424)
          clear hT424 hHeld
          go_wp2_with fail
          go_ret
          exact ⟨rfl, hE425.out⟩
      · rw [if_pos (by rfl)]
        go_simp
        refine (hPV.out _ hb388).mono ?_
        rintro e w426 ⟨cs, rfl, ht429, hw428⟩
        obtain ⟨d0, d1, d2, d3, d4, d5, d6, d7, d8, d9, d10, rfl⟩ := eleven (TRep.len ht429)
        have hb427 : Below W.heap.size W w426 := (hb388).trans (Below.mono hw428 (hb388).size)
        have ht430 := TRep.keep (only_keep (w' := w426) (S' := fun b => W.heap.size ≤ b) fun b _ hs => ⟨Nat.le_trans (hb388).size hs, rfl⟩) _ _ ht429
        clear ht429
        have ht431 := TRep.keep (only_keep (w' := w426) (S' := fun b => W.heap.size ≤ b) fun b hb hs => ⟨hs, hw428.block b hb⟩) _ _ ht391
        clear ht391
        have hz432 := (hw428.block zb (Array.getElem?_eq_some_iff.1 hz392).1).trans hz392
        clear hz392
        refine hK.out _ _ ?_ (fun hHeldN => ?_)
        · exact trivial
        clear hK K hHeld
        have hHeld := hHeldN
        clear hHeldN
        (try simp only [Act.put, pu1, pu2, pu3, pu4, pu5, pu6])
        refine wpAnyH_ready (rs := [0]) (by kernel_rfl) (by simp) ?_
        refine AllReadyH.cons rfl (fun K hK => ?_) AllReadyH.nil
        rw [if_pos (by rfl)]
        have q433 := keeps_of_below hb427 _ _ q0
        go_simp
        clear q433
        refine hK.out _ _ ?_ (fun hHeldN => ?_)
        · exact trivial
        clear hK K hHeld
        have hHeld := hHeldN
        clear hHeldN
        (try simp only [Act.put, pu1, pu2, pu3, pu4, pu5, pu6])
        refine wpAnyH_take (i := 5) (v := ?vo52) rfl (by kernel_rfl) (by kernel_rfl) (by kernel_rfl) (fun _ _ _ h => h) (.inl ⟨by rfl, ?hyo52⟩) (by assumption) ?resto52
        case hyo52 => (intro w hSw; (try dsimp only at hSw); go_simp; first | done | with_reducible rfl)
        (try simp only [Act.put, pu1, pu2, pu3, pu4, pu5, pu6])
        refine wpAnyH_take (i := 10) (v := ?vo53) rfl (by kernel_rfl) (by kernel_rfl) (by kernel_rfl) (fun _ _ _ h => h) (.inl ⟨by rfl, ?hyo53⟩) (by assumption) ?resto53
        case hyo53 => (intro w hSw; (try dsimp only at hSw); go_simp; first | done | with_reducible rfl)
        (try simp only [Act.put, pu1, pu2, pu3, pu4, pu5, pu6])
        refine wpAnyH_ready (rs := [7]) (by kernel_rfl) (by simp) ?_
        refine AllReadyH.cons rfl (fun K hK => ?_) AllReadyH.nil
        refine step_append_lies _ (by rfl) _ _ _ (by rfl) B 31 i0 _ 11 152 Try.underlying22 hi0 hz0 hz1 hz2 rfl (by omega) _ n xs (by rfl) (hrowX.out w426 hb427) ⟨zb, 0, none⟩ 2 2 [.int .i64 0, .bool false, .int .i64 0, .float .f64 0, .string ⟨#[]⟩, .slice none 0 0, .int .u64 0, .slice none 0 0, .slice none 0 0, .string ⟨#[]⟩, .int .i64 0, .int .i64 0, .bool false, .int .i64 0, .float .f64 0, .string ⟨#[]⟩, .slice none 0 0, .int .u64 0, .slice none 0 0, .slice none 0 0, .string ⟨#[]⟩, .int .i64 0] (by rfl) (by rfl) (World.news_of_block (cs := #[.int .i64 0, .bool false, .int .i64 0, .float .f64 0, .string ⟨#[]⟩, .slice none 0 0, .int .u64 0, .slice none 0 0, .slice none 0 0, .string ⟨#[]⟩, .int .i64 0, .int .i64 0, .bool false, .int .i64 0, .float .f64 0, .string ⟨#[]⟩, .slice none 0 0, .int .u64 0, .slice none 0 0, .slice none 0 0, .string ⟨#[]⟩, .int .i64 0]) (t := 31) (fr := (0, 0)) hz432) (fun u hu => by simp only [List.mem_cons, List.not_mem_nil, or_false] at hu; rcases hu with rfl | rfl | rfl | rfl | rfl | rfl | rfl | rfl | rfl | rfl | rfl | rfl | rfl | rfl | rfl | rfl | rfl | rfl | rfl | rfl | rfl | rfl <;> rfl) (by omega) (by unfold maxLen; omega) (by omega) (by have := (hb427).size; omega) _ rfl ?_
        intro g cap w4 hown4 hgr4 hat4 hlt4
        obtain ⟨r4, r5, r6, s4, e5, e6, f4, f5, hrows⟩ := add_rows (cs := [c0, c1, c2, c3, c4, c5, c6, c7, c8, c9, c10]) (ds := [d0, d1, d2, d3, d4, d5, d6, d7, d8, d9, d10]) hown4 hxl rfl rfl
        have hgne : g ≠ lb := fun e => by
          rcases hat4 with h | h
          · exact hlo (ownL_some.2 (by rw [h, e]))
          · have := (hb427).size; omega
        have hl4 : w4.heap[lb]? = some (.cells #[.slice sa n scap] 22 (0, 0)) := (hgr4.block lb (by have := (hb427).size; omega) (fun e => hlo (ownL_some.2 e.symm))).trans (hlX.out w426 hb427)
        have hT4 : Touch w4 w4 g lb r4 (.slice sa n scap) := ⟨rfl, rfl, rfl, rfl, s4, hl4, fun _ _ _ => rfl, hgne⟩
        have hfin := Lib.hid (fun X (hX : Touch w4 X g lb r6 (.slice (some ⟨g, 0, none⟩) (n + 2) cap)) => hdone.out _ _ _ _ _ _ _ _ hb427 ht431 ht430 hgr4 hat4 hX hrows)
        have hone1 := TRep.ones ht431
        have hone2 := TRep.ones ht430
        clear ht431 ht430 hz432 hown4 hgr4 hat4 hrows s4 hl4
        refine hK.out _ _ ?_ (fun hHeldN => ?_)
        · exact trivial
        clear hK K hHeld
        have hHeld := hHeldN
        clear hHeldN
        (try simp only [Act.put, pu1, pu2, pu3, pu4, pu5, pu6])
        refine wpAnyH_take (i := 8) (v := ?vo54) rfl (by kernel_rfl) (by kernel_rfl) (by kernel_rfl) (fun _ _ _ h => h) (.inl ⟨by rfl, ?hyo54⟩) (by assumption) ?resto54
        case hyo54 => (intro w hSw; (try dsimp only at hSw); go_simp; first | done | with_reducible rfl)
        (try simp only [Act.put, pu1, pu2, pu3, pu4, pu5, pu6])
        refine wpAnyH_ready (rs := [9, 13]) (by kernel_rfl) (by simp) ?_
        refine AllReadyH.cons rfl (fun K hK => ?_) (AllReadyH.cons rfl (fun K hK => ?_) AllReadyH.nil)
        · rw [if_pos (by rfl)]
          refine wp_store_at 31 (.tmp 14) (.tmp 8) rfl g (n * 11) [c0, c1, c2, c3, c4, c5, c6, c7, c8, c9, c10] (by simp [Act.eval]) (by simp [Act.eval]) 31 r4 hT4.hg (by kernel_rfl) f4 hone1 ?_
          rw [← e5]
          obtain ⟨Y434, heY434⟩ : ∃ X, X = w4.setRow g r5 := ⟨_, rfl⟩
          have hT435 := hT4.row r5
          rw [← heY434] at hT435 ⊢
          clear heY434 hT4
          refine hK.out _ _ ?_ (fun hHeldN => ?_)
          · exact trivial
          clear hK K hHeld
          have hHeld := hHeldN
          clear hHeldN
          (try simp only [Act.put, pu1, pu2, pu3, pu4, pu5, pu6])
          refine wpAnyH_take (i := 11) (v := ?vo55) rfl (by kernel_rfl) (by kernel_rfl) (by kernel_rfl) (fun _ _ _ h => h) (.inl ⟨by rfl, ?hyo55⟩) (by assumption) ?resto55
          case hyo55 => (intro w hSw; (try dsimp only at hSw); go_simp; first | done | with_reducible rfl)
          (try simp only [Act.put, pu1, pu2, pu3, pu4, pu5, pu6])
          refine wpAnyH_ready (rs := [12, 13]) (by kernel_rfl) (by simp) ?_
          refine AllReadyH.cons rfl (fun K hK => ?_) (AllReadyH.cons rfl (fun K hK => ?_) AllReadyH.nil)
          · rw [if_pos (by rfl)]
            refine wp_store_at 31 (.tmp 16) (.tmp 10) rfl g ((n + 1) * 11) [d0, d1, d2, d3, d4, d5, d6, d7, d8, d9, d10] (by simp [Act.eval]) (by simp [Act.eval]) 31 r5 hT435.hg (by kernel_rfl) f5 hone2 ?_
            rw [← e6]
            obtain ⟨Y436, heY436⟩ : ∃ X, X = Y434.setRow g r6 := ⟨_, rfl⟩
            have hT437 := hT435.row r6
            rw [← heY436] at hT437 ⊢
            clear heY436 hT435
            refine hK.out _ _ ?_ (fun hHeldN => ?_)
            · exact trivial
            clear hK K hHeld
            have hHeld := hHeldN
            clear hHeldN
            (try simp only [Act.put, pu1, pu2, pu3, pu4, pu5, pu6])
            refine wpAnyH_ready (rs := [13]) (by kernel_rfl) (by simp) ?_
            refine AllReadyH.cons rfl (fun K hK => ?_) AllReadyH.nil
            rw [if_pos (by rfl)]
            have q440 : Y436.cell? ⟨lb, 0, none⟩ = some (.slice sa n scap) := by rw [cell_of_row Y436 lb 0 _ _ _ hT437.hl]; rfl
            have z441 : Y436.frozen? ⟨lb, 0, none⟩ = false := by simp [World.frozen?, hT437.hl]
            go_simp
            obtain ⟨Y438, heY438⟩ : ∃ X, X = Y436.setCell ⟨lb, 0, none⟩ (.slice (some ⟨g, 0, none⟩) (n + 2) cap) := ⟨_, rfl⟩
            have hT439 := hT437.cell (.slice (some ⟨g, 0, none⟩) (n + 2) cap)
            rw [← heY438] at hT439 ⊢
            clear heY438 q440 z441 hT437
            refine hK.out _ _ ?_ (fun hHeldN => ?_)
            · exact trivial
            clear hK K hHeld
            have hHeld := hHeldN
            clear hHeldN
            (try simp only [Act.put, pu1, pu2, pu3, pu4, pu5, pu6])
            refine wpAnyH_done (by kernel_rfl) ?_ _
            have hE442 := Lib.hid (hfin.out _ hT439)
            clear hT439 hHeld
            go_wp2_with fail
            go_ret
            exact ⟨rfl, hE442.out⟩
          · rw [if_pos (by rfl)]
            have q445 : Y434.cell? ⟨lb, 0, none⟩ = some (.slice sa n scap) := by rw [cell_of_row Y434 lb 0 _ _ _ hT435.hl]; rfl
            have z446 : Y434.frozen? ⟨lb, 0, none⟩ = false := by simp [World.frozen?, hT435.hl]
            go_simp
            obtain ⟨Y443, heY443⟩ : ∃ X, X = Y434.setCell ⟨lb, 0, none⟩ (.slice (some ⟨g, 0, none⟩) (n + 2) cap) := ⟨_, rfl⟩
            have hT444 := hT435.cell (.slice (some ⟨g, 0, none⟩) (n + 2) cap)
            rw [← heY443] at hT444 ⊢
            clear heY443 q445 z446 hT435
            refine hK.out _ _ ?_ (fun hHeldN => ?_)
            · exact trivial
            clear hK K hHeld
            have hHeld := hHeldN
            clear hHeldN
            (try simp only [Act.put, pu1, pu2, pu3, pu4, pu5, pu6])
            refine wpAnyH_ready (rs := [12]) (by kernel_rfl) (by simp) ?_
            refine AllReadyH.cons rfl (fun K hK => ?_) AllReadyH.nil
            rw [if_pos (by rfl)]
            refine wp_store_at 31 (.tmp 16) (.tmp 10) rfl g ((n + 1) * 11) [d0, d1, d2, d3, d4, d5, d6, d7, d8, d9, d10] (by simp [Act.eval]) (by simp [Act.eval]) 31 r5 hT444.hg (by kernel_rfl) f5 hone2 ?_
            rw [← e6]
            obtain ⟨Y447, heY447⟩ : ∃ X, X = Y443.setRow g r6 := ⟨_, rfl⟩
            have hT448 := hT444.row r6
            rw [← heY447] at hT448 ⊢
            clear heY447 hT444
            refine hK.out _ _ ?_ (fun hHeldN => ?_)
            · exact trivial
            clear hK K hHeld
            have hHeld := hHeldN
            clear hHeldN
            (try simp only [Act.put, pu1, pu2, pu3, pu4, pu5, pu6])
            refine wpAnyH_done (by kernel_rfl) ?_ _
            have hE449 := Lib.hid (hfin.out _ hT448)
            clear hT448 hHeld
            go_wp2_with fail
            go_ret
            exact ⟨rfl, hE449.out⟩
        · rw [if_pos (by rfl)]
          have q452 : w4.cell? ⟨lb, 0, none⟩ = some (.slice sa n scap) := by rw [cell_of_row w4 lb 0 _ _ _ hT4.hl]; rfl
          have z453 : w4.frozen? ⟨lb, 0, none⟩ = false := by simp [World.frozen?, hT4.hl]
          go_simp
          obtain ⟨Y450, heY450⟩ : ∃ X, X = w4.setCell ⟨lb, 0, none⟩ (.slice (some ⟨g, 0, none⟩) (n + 2) cap) := ⟨_, rfl⟩
          have hT451 := hT4.cell (.slice (some ⟨g, 0, none⟩) (n + 2) cap)
          rw [← heY450] at hT451 ⊢
          clear heY450 q452 z453 hT4
          refine hK.out _ _ ?_ (fun hHeldN => ?_)
          · exact trivial
          clear hK K hHeld
          have hHeld := hHeldN
          clear hHeldN
          (try simp only [Act.put, pu1, pu2, pu3, pu4, pu5, pu6])
          refine wpAnyH_ready (rs := [9]) (by kernel_rfl) (by simp) ?_
          refine AllReadyH.cons rfl (fun K hK => ?_) AllReadyH.nil
          rw [if_pos (by rfl)]
          refine wp_store_at 31 (.tmp 14) (.tmp 8) rfl g (n * 11) [c0, c1, c2, c3, c4, c5, c6, c7, c8, c9, c10] (by simp [Act.eval]) (by simp [Act.eval]) 31 r4 hT451.hg (by kernel_rfl) f4 hone1 ?_
          rw [← e5]
          obtain ⟨Y454, heY454⟩ : ∃ X, X = Y450.setRow g r5 := ⟨_, rfl⟩
          have hT455 := hT451.row r5
          rw [← heY454] at hT455 ⊢
          clear heY454 hT451
          refine hK.out _ _ ?_ (fun hHeldN => ?_)
          · exact trivial
          clear hK K hHeld
          have hHeld := hHeldN
          clear hHeldN
          (try simp only [Act.put, pu1, pu2, pu3, pu4, pu5, pu6])
          refine wpAnyH_take (i := 11) (v := ?vo56) rfl (by kernel_rfl) (by kernel_rfl) (by kernel_rfl) (fun _ _ _ h => h) (.inl ⟨by rfl, ?hyo56⟩) (by assumption) ?resto56
          case hyo56 => (intro w hSw; (try dsimp only at hSw); go_simp; first | done | with_reducible rfl)
          (try simp only [Act.put, pu1, pu2, pu3, pu4, pu5, pu6])
          refine wpAnyH_ready (rs := [12]) (by kernel_rfl) (by simp) ?_
          refine AllReadyH.cons rfl (fun K hK => ?_) AllReadyH.nil
          rw [if_pos (by rfl)]
          refine wp_store_at 31 (.tmp 16) (.tmp 10) rfl g ((n + 1) * 11) [d0, d1, d2, d3, d4, d5, d6, d7, d8, d9, d10] (by simp [Act.eval]) (by simp [Act.eval]) 31 r5 hT455.hg (by kernel_rfl) f5 hone2 ?_
          rw [← e6]
          obtain ⟨Y456, heY456⟩ : ∃ X, X = Y454.setRow g r6 := ⟨_, rfl⟩
          have hT457 := hT455.row r6
          rw [← heY456] at hT457 ⊢
          clear heY456 hT455
          refine hK.out _ _ ?_ (fun hHeldN => ?_)
          · exact trivial
          clear hK K hHeld
          have hHeld := hHeldN
          clear hHeldN
          (try simp only [Act.put, pu1, pu2, pu3, pu4, pu5, pu6])
          refine wpAnyH_done (by kernel_rfl) ?_ _
          have hE458 := Lib.hid (hfin.out _ hT457)
          clear hT457 hHeld
          go_wp2_with fail
          go_ret
          exact ⟨rfl, hE458.out⟩
end Go.Proofs.Ytgmdbpplfjkjmaa
