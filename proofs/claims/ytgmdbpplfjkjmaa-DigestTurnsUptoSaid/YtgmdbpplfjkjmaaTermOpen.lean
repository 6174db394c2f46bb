/- Terms read out of an argument: what the form reads is a term in memory, and small. -/
import Derived.Test.YtgmdbpplfjkjmaaTerm
import Derived.DataReads
import Derived.ProofKit
import Derived.OpenShut
import Derived.ShutString
import Derived.ChangeOld
import Derived.Below
import Derived.Carry
import Derived.JoinedCond
namespace Go.Proofs.Ytgmdbpplfjkjmaa
open Go.ChangeShapes Go.WideShapes Go.ChangeAt Go.RowKit Go.Deep
set_option linter.unusedVariables false
set_option linter.unusedSimpArgs false

theorem bulk_one {H : Type} (d : DataW H) : 1 ≤ Rows.uptoBulk d := by
  cases d with
  | lit l => cases l <;> simp [Rows.uptoBulk]
  | nil => simp [Rows.uptoBulk]
  | ptr d => simp [Rows.uptoBulk]
  | slice elems spare => simp [Rows.uptoBulk]
  | agg parts => simp [Rows.uptoBulk]
  | iface t d => simp [Rows.uptoBulk]
  | map entries => simp [Rows.uptoBulk]
  | held h => simp [Rows.uptoBulk]
theorem bulk_part {H : Type} {d : DataW H} {l : List (DataW H)} (h : d ∈ l) : Rows.uptoBulk d ≤ Rows.uptoBulkAll l := by
  induction l with
  | nil => cases h
  | cons x r ih =>
    simp only [Rows.uptoBulkAll]
    cases List.mem_cons.1 h with
    | inl e => subst e; omega
    | inr e => have := ih e; omega
theorem bulk_length {H : Type} (l : List (DataW H)) : l.length ≤ Rows.uptoBulkAll l := by
  induction l with
  | nil => simp [Rows.uptoBulkAll]
  | cons x r ih => have := bulk_one x; simp only [Rows.uptoBulkAll, List.length_cons]; omega

variable {H : Type} {enc : TypeId × Value → H} {P : Program} {w : World} {base : Nat} {sp : Nat → Bool} {hd : Bool}
theorem trod_float {t : TypeId} {k : FloatKind} {fuel : Nat} {cs : List Value} {x : DataW H × List MemPlace} (ht : P.underlying t = some (.float k)) (h : DataW.trod enc P w base sp hd fuel t cs = some x) : ∃ n, cs = [.float k n] ∧ x = (.lit (.float k n), []) ∧ (Lit.float k n).wf = true := by
  cases fuel with
  | zero => simp [DataW.trod] at h
  | succ n =>
    unfold DataW.trod at h
    rw [ht] at h
    split at h <;> simp_all
/-- A slice that was read: its elements, each with its cells; spelt without the address' spot. -/
theorem open_row {t e : TypeId} {K : Nat} (hK : P.cellsOf e = K) (hK0 : 0 < K) {fuel : Nat} {cs : List Value} {x : DataW H × List MemPlace} (ht : P.underlying t = some (.slice e)) (h : DataW.trod enc P w base sp hd fuel t cs = some x) (hsmall : Rows.uptoBulk x.1 ≤ 1048576) :
    ∃ oa len cap, cs = [.slice oa len cap] ∧ len ≤ cap ∧ cap ≤ maxLen ∧ len ≤ 1048576 ∧ (oa = none → cap = 0) ∧ (0 < len → ∃ b o, oa = some ⟨b, o, none⟩ ∧ ∀ i, i < len → ∃ (cs' : List Value) (y : DataW H × List MemPlace) (n : Nat), cs'.length = K ∧ (∀ j, j < K → w.cell? ⟨b, o + (i * K + j), none⟩ = cs'[j]?) ∧ DataW.trod enc P w base sp hd n e cs' = some y ∧ Rows.uptoBulk y.1 < Rows.uptoBulk x.1) := by
  rcases open_slice ht h with ⟨rfl, rfl⟩ | ⟨a, len, cap, m, n, D, Pl, rfl, -, hlc, hcm, hm, rfl, hel⟩
  · exact ⟨none, 0, 0, rfl, Nat.le_refl _, by simp [maxLen], by omega, fun _ => rfl, fun h => absurd h (by omega)⟩
  · have hbl : Rows.uptoBulkAll ((List.range len).map D) + 1 ≤ Rows.uptoBulk (DataW.slice ((List.range len).map D) ((List.range (m - len)).map fun j => D (len + j))) := by
      simp only [Rows.uptoBulk]; omega
    have hln := bulk_length ((List.range len).map D)
    dsimp only at hsmall
    simp only [List.length_map, List.length_range] at hln
    refine ⟨some a, len, cap, rfl, hlc, hcm, by omega, fun h => (by cases h), fun hpos => ?_⟩
    have hmle : len ≤ m := by rw [hm]; split <;> omega
    obtain ⟨b, o, s⟩ := a
    obtain ⟨c0, hc0, -⟩ := hel 0 (by omega)
    obtain ⟨-, hl0, hg0⟩ := World.cells?_some hc0
    have hs : s = none := by
      have hx := hg0 0 (by omega)
      rw [List.getElem?_eq_getElem (by omega), Nat.zero_mul, Addr.add, if_pos rfl, Addr.add, if_pos rfl] at hx
      exact World.cell?_spot hx
    subst hs
    refine ⟨b, o, rfl, fun i hi => ?_⟩
    obtain ⟨cs', hc', ht'⟩ := hel i (by omega)
    obtain ⟨-, hl', hg'⟩ := World.cells?_some hc'
    refine ⟨cs', (D i, Pl i), n, by rw [hl', hK], fun j hj => ?_, ht', ?_⟩
    · have hx := hg' j (by omega)
      rw [Addr.add_mid, Addr.add_mid, hK] at hx
      rw [← Nat.add_assoc]
      exact hx
    · have := bulk_part (List.mem_map.2 ⟨i, List.mem_range.2 hi, rfl⟩ : D i ∈ (List.range len).map D)
      dsimp only
      omega

theorem terms_laid (n : Nat) : ∀ (b o : Nat), (∀ i, i < n → ∃ cs t, (∀ j, j < 11 → w.cell? ⟨b, o + (i * 11 + j), none⟩ = cs[j]?) ∧ TRep w t cs) → ∃ ls xs, ls.length = n ∧ TsRep w ls xs ∧ xs.length = n * 11 ∧ ∀ j, j < n * 11 → w.cell? ⟨b, o + j, none⟩ = xs[j]? := by
  induction n with
  | zero => exact fun b o _ => ⟨[], [], rfl, rfl, rfl, fun j hj => absurd hj (by omega)⟩
  | succ n ih =>
    intro b o h
    obtain ⟨cs, t, hc, ht⟩ := h 0 (by omega)
    obtain ⟨ls, xs, h1, h2, h3, h4⟩ := ih b (o + 11) (fun i hi => by
      obtain ⟨cs, t, hc, ht⟩ := h (i + 1) (by omega)
      exact ⟨cs, t, fun j hj => by rw [show o + 11 + (i * 11 + j) = o + ((i + 1) * 11 + j) from by omega]; exact hc j hj, ht⟩)
    have hl := ht.len
    refine ⟨t :: ls, cs ++ xs, by simp [h1], ⟨cs, xs, rfl, ht, h2⟩, by rw [List.length_append, hl, h3]; omega, fun j hj => ?_⟩
    by_cases hj' : j < 11
    · rw [List.getElem?_append_left (by omega)]
      have := hc j hj'
      rwa [show o + (0 * 11 + j) = o + j from by omega] at this
    · rw [List.getElem?_append_right (by omega), hl, ← h4 (j - 11) (by omega), show o + 11 + (j - 11) = o + j from by omega]
theorem entries_laid (n : Nat) : ∀ (b o : Nat), (∀ i, i < n → ∃ s cs t, w.cell? ⟨b, o + i * 12, none⟩ = some (.string s) ∧ s.size ≤ maxLen ∧ (∀ j, j < 11 → w.cell? ⟨b, o + (i * 12 + (1 + j)), none⟩ = cs[j]?) ∧ TRep w t cs) → ∃ es xs, es.length = n ∧ EsRep w es xs ∧ xs.length = n * 12 ∧ ∀ j, j < n * 12 → w.cell? ⟨b, o + j, none⟩ = xs[j]? := by
  induction n with
  | zero => exact fun b o _ => ⟨[], [], rfl, rfl, rfl, fun j hj => absurd hj (by omega)⟩
  | succ n ih =>
    intro b o h
    obtain ⟨s, cs, t, hs, hsz, hc, ht⟩ := h 0 (by omega)
    obtain ⟨es, xs, h1, h2, h3, h4⟩ := ih b (o + 12) (fun i hi => by
      obtain ⟨s, cs, t, hs, hsz, hc, ht⟩ := h (i + 1) (by omega)
      exact ⟨s, cs, t, by rw [show o + 12 + i * 12 = o + (i + 1) * 12 from by omega]; exact hs, hsz, fun j hj => by rw [show o + 12 + (i * 12 + (1 + j)) = o + ((i + 1) * 12 + (1 + j)) from by omega]; exact hc j hj, ht⟩)
    have hl := ht.len
    refine ⟨(s, t) :: es, .string s :: (cs ++ xs), by simp [h1], ⟨cs, xs, rfl, hsz, ht, h2⟩, by rw [List.length_cons, List.length_append, hl, h3]; omega, fun j hj => ?_⟩
    cases j with
    | zero => simpa using hs
    | succ j =>
      rw [List.getElem?_cons_succ]
      by_cases hj' : j < 11
      · rw [List.getElem?_append_left (by omega)]
        have := hc j hj'
        rwa [show o + (0 * 12 + (1 + j)) = o + (j + 1) from by omega] at this
      · rw [List.getElem?_append_right (by omega), hl, ← h4 (j - 11) (by omega), show o + 12 + (j - 11) = o + (j + 1) from by omega]
theorem bytes_laid (n : Nat) : ∀ (b o : Nat), (∀ i, i < n → ∃ u : UInt8, w.cell? ⟨b, o + i, none⟩ = some (.int .u8 u.toNat)) → ∃ bs : List UInt8, bs.length = n ∧ ∀ j, j < n → w.cell? ⟨b, o + j, none⟩ = (byteCells bs)[j]? := by
  induction n with
  | zero => exact fun b o _ => ⟨[], rfl, fun j hj => absurd hj (by omega)⟩
  | succ n ih =>
    intro b o h
    obtain ⟨u, hu⟩ := h 0 (by omega)
    obtain ⟨bs, h1, h2⟩ := ih b (o + 1) (fun i hi => by
      obtain ⟨u, hu⟩ := h (i + 1) (by omega)
      exact ⟨u, by rw [show o + 1 + i = o + (i + 1) from by omega]; exact hu⟩)
    refine ⟨u :: bs, by simp [h1], fun j hj => ?_⟩
    cases j with
    | zero => simpa [byteCells] using hu
    | succ j => rw [show o + (j + 1) = o + 1 + j from by omega, h2 j (by omega)]; simp [byteCells]
theorem cells_Term : Try.prog.cellsOf 31 = 11 := by kernel_rfl
theorem cells_Entry : Try.prog.cellsOf 218 = 12 := by kernel_rfl
theorem cells_one : Try.prog.cellsOf 3 = 1 ∧ Try.prog.cellsOf 4 = 1 ∧ Try.prog.cellsOf 2 = 1 ∧ Try.prog.cellsOf 25 = 1 ∧ Try.prog.cellsOf 9 = 1 ∧ Try.prog.cellsOf 26 = 1 ∧ Try.prog.cellsOf 28 = 1 ∧ Try.prog.cellsOf 22 = 1 ∧ Try.prog.cellsOf 29 = 1 ∧ Try.prog.cellsOf 5 = 1 := by refine ⟨?_, ?_, ?_, ?_, ?_, ?_, ?_, ?_, ?_, ?_⟩ <;> kernel_rfl
set_option maxRecDepth 100000 in
/-- A term's fields. -/
theorem open_fields {fuel : Nat} {cs : List Value} {x : DataW H × List MemPlace} (h : DataW.trod enc Try.prog w base sp hd fuel 31 cs = some x) :
    ∃ (c0 c1 c2 c3 c4 c5 c6 c7 c8 c9 c10 : Value) (y0 y1 y2 y3 y4 y5 y6 y7 y8 y9 y10 : DataW H × List MemPlace) (n : Nat), cs = [c0, c1, c2, c3, c4, c5, c6, c7, c8, c9, c10] ∧ x.1 = .agg [y0.1, y1.1, y2.1, y3.1, y4.1, y5.1, y6.1, y7.1, y8.1, y9.1, y10.1] ∧ DataW.trod enc Try.prog w base sp hd n 3 [c0] = some y0 ∧ DataW.trod enc Try.prog w base sp hd n 4 [c1] = some y1 ∧ DataW.trod enc Try.prog w base sp hd n 2 [c2] = some y2 ∧ DataW.trod enc Try.prog w base sp hd n 25 [c3] = some y3 ∧ DataW.trod enc Try.prog w base sp hd n 9 [c4] = some y4 ∧ DataW.trod enc Try.prog w base sp hd n 26 [c5] = some y5 ∧ DataW.trod enc Try.prog w base sp hd n 28 [c6] = some y6 ∧ DataW.trod enc Try.prog w base sp hd n 22 [c7] = some y7 ∧ DataW.trod enc Try.prog w base sp hd n 29 [c8] = some y8 ∧ DataW.trod enc Try.prog w base sp hd n 9 [c9] = some y9 ∧ DataW.trod enc Try.prog w base sp hd n 3 [c10] = some y10 := by
  obtain ⟨xs, n, -, rfl, hl, hlen, hf⟩ := DataW.trod_struct Try.underlying31 h
  rw [cells_Term] at hl
  obtain ⟨k0, k1, k2, k3, k4, k5, k6, k7, k8, -⟩ := cells_one
  match cs, hl, xs, hlen with
  | [c0, c1, c2, c3, c4, c5, c6, c7, c8, c9, c10], _, [y0, y1, y2, y3, y4, y5, y6, y7, y8, y9, y10], _ =>
    refine ⟨c0, c1, c2, c3, c4, c5, c6, c7, c8, c9, c10, y0, y1, y2, y3, y4, y5, y6, y7, y8, y9, y10, n, rfl, rfl, ?_, ?_, ?_, ?_, ?_, ?_, ?_, ?_, ?_, ?_, ?_⟩
    · simpa [k0] using hf 0 _ rfl
    · simpa [k1] using hf 1 _ rfl
    · simpa [k2] using hf 2 _ rfl
    · simpa [k3] using hf 3 _ rfl
    · simpa [k4] using hf 4 _ rfl
    · simpa [k5] using hf 5 _ rfl
    · simpa [k6] using hf 6 _ rfl
    · simpa [k7] using hf 7 _ rfl
    · simpa [k8] using hf 8 _ rfl
    · simpa [k4] using hf 9 _ rfl
    · simpa [k0] using hf 10 _ rfl

theorem bulk_agg {H : Type} {d : DataW H} {l : List (DataW H)} (hm : d ∈ l) : Rows.uptoBulk d < Rows.uptoBulk (.agg l) := by
  have := bulk_part hm
  simp only [Rows.uptoBulk]
  omega
set_option maxRecDepth 100000 in
/-- A term that was read is a term. -/
theorem open_term : ∀ (N fuel : Nat) (cs : List Value) (x : DataW H × List MemPlace), Rows.uptoBulk x.1 ≤ N → Rows.uptoBulk x.1 ≤ 1048576 → DataW.trod enc Try.prog w base sp hd fuel 31 cs = some x → ∃ t, TRep w t cs
  | 0, _, _, x, h0, _, _ => absurd (bulk_one x.1) (by omega)
  | N + 1, fuel, cs, x, hN, hs, h => by
    obtain ⟨c0, c1, c2, c3, c4, c5, c6, c7, c8, c9, c10, y0, y1, y2, y3, y4, y5, y6, y7, y8, y9, y10, n, rfl, hx, h0, h1, h2, h3, h4, h5, h6, h7, h8, h9, h10⟩ := open_fields h
    obtain ⟨k0, k1, k2, k3, k4, k5, k6, k7, k8, k9⟩ := cells_one
    obtain ⟨z0, e0, -, w0⟩ := DataW.trod_int Try.underlying3 h0
    obtain ⟨z1, e1, -⟩ := DataW.trod_bool Try.underlying4 h1
    obtain ⟨z2, e2, -, w2⟩ := DataW.trod_int Try.underlying2 h2
    obtain ⟨z3, e3, -, w3⟩ := trod_float Try.underlying25 h3
    obtain ⟨z4, e4, -, w4⟩ := DataW.trod_string Try.underlying9 h4
    obtain ⟨z6, e6, -, w6⟩ := DataW.trod_int Try.underlying28 h6
    obtain ⟨z9, e9, -, w9⟩ := DataW.trod_string Try.underlying9 h9
    obtain ⟨z10, e10, -, w10⟩ := DataW.trod_int Try.underlying3 h10
    cases e0; cases e1; cases e2; cases e3; cases e4; cases e6; cases e9; cases e10
    have b5 : Rows.uptoBulk y5.1 < Rows.uptoBulk x.1 := by rw [hx]; exact bulk_agg (by simp)
    have b7 : Rows.uptoBulk y7.1 < Rows.uptoBulk x.1 := by rw [hx]; exact bulk_agg (by simp)
    have b8 : Rows.uptoBulk y8.1 < Rows.uptoBulk x.1 := by rw [hx]; exact bulk_agg (by simp)
    obtain ⟨ob, nb, cb, e5, l5, m5, s5, d5, r5⟩ := open_row k9 (by omega) Try.underlying26 h5 (by omega)
    obtain ⟨ol, nl, cl, e7, l7, m7, s7, d7, r7⟩ := open_row cells_Term (by omega) Try.underlying22 h7 (by omega)
    obtain ⟨oe, ne, ce, e8, l8, m8, s8, d8, r8⟩ := open_row cells_Entry (by omega) Try.underlying29 h8 (by omega)
    cases e5; cases e7; cases e8
    obtain ⟨bs, hbl, hb⟩ : ∃ bs : List UInt8, bs.length = nb ∧ AtRow w (.slice ob nb cb) nb 1 (byteCells bs) := by
      by_cases hn : 0 < nb
      · obtain ⟨b, o, rfl, hr⟩ := r5 hn
        obtain ⟨bs, hbl, hb⟩ := bytes_laid (w := w) nb b o (fun i hi => by
          obtain ⟨cs', y, m, hl, hc, ht, -⟩ := hr i hi
          obtain ⟨z, ez, -, wz⟩ := DataW.trod_int Try.underlying5 ht
          subst ez
          have hz : 0 ≤ z ∧ z ≤ 255 := by simpa [Lit.wf, IntKind.min, IntKind.max, IntKind.signed, IntKind.bits] using wz
          refine ⟨UInt8.ofNat z.toNat, ?_⟩
          have := hc 0 (by omega)
          rw [Nat.add_zero, Nat.mul_one] at this
          rw [this]
          simp [UInt8.toNat_ofNat', Nat.mod_eq_of_lt (show z.toNat < 256 by omega), Int.toNat_of_nonneg hz.1])
        exact ⟨bs, hbl, some ⟨b, o, none⟩, cb, rfl, l5, m5, s5, d5, by simp [byteCells, hbl], fun _ => ⟨b, o, rfl, fun j hj => hb j (by omega)⟩⟩
      · obtain rfl : nb = 0 := by omega
        exact ⟨[], rfl, ob, cb, rfl, l5, m5, s5, d5, rfl, fun h => absurd h (by omega)⟩
    obtain ⟨ls, xl, hll, hlr, hla⟩ : ∃ ls xl, ls.length = nl ∧ TsRep w ls xl ∧ AtRow w (.slice ol nl cl) nl 11 xl := by
      by_cases hn : 0 < nl
      · obtain ⟨b, o, rfl, hr⟩ := r7 hn
        obtain ⟨ls, xs, h1, h2, h3, h4⟩ := terms_laid (w := w) nl b o (fun i hi => by
          obtain ⟨cs', y, m, hl, hc, ht, hb⟩ := hr i hi
          obtain ⟨t, ht'⟩ := open_term N m cs' y (by omega) (by omega) ht
          exact ⟨cs', t, hc, ht'⟩)
        exact ⟨ls, xs, h1, h2, some ⟨b, o, none⟩, cl, rfl, l7, m7, s7, d7, h3, fun _ => ⟨b, o, rfl, h4⟩⟩
      · obtain rfl : nl = 0 := by omega
        exact ⟨[], [], rfl, rfl, ol, cl, rfl, l7, m7, s7, d7, rfl, fun h => absurd h (by omega)⟩
    obtain ⟨es, xe, hel, her, hea⟩ : ∃ es xe, es.length = ne ∧ EsRep w es xe ∧ AtRow w (.slice oe ne ce) ne 12 xe := by
      by_cases hn : 0 < ne
      · obtain ⟨b, o, rfl, hr⟩ := r8 hn
        obtain ⟨es, xs, h1, h2, h3, h4⟩ := entries_laid (w := w) ne b o (fun i hi => by
          obtain ⟨cs', y, m, hl, hc, ht, hb⟩ := hr i hi
          obtain ⟨ys, m', -, rfl, hl', hlen, hf⟩ := DataW.trod_struct Try.underlying218 ht
          match ys, hlen with
          | [u0, u1], _ =>
            have f0 := hf 0 _ rfl
            have f1 := hf 1 _ rfl
            simp only [List.getElem_toArray, List.getElem_cons_zero, List.getElem_cons_succ] at f0 f1
            rw [k4] at f0
            rw [cells_Term] at f1
            simp only [List.drop_zero, List.getElem?_cons_zero, List.getElem?_cons_succ] at f0 f1
            obtain ⟨s, es, -, ws⟩ := DataW.trod_string Try.underlying9 f0
            have hb1 : Rows.uptoBulk u1.1 < Rows.uptoBulk (DataW.agg [u0.1, u1.1]) := bulk_agg (by simp)
            have hb2 : Rows.uptoBulk (DataW.agg [u0.1, u1.1]) < Rows.uptoBulk y8.1 := hb
            obtain ⟨t, ht'⟩ := open_term N m' _ u1 (by omega) (by omega) f1
            have hs0 : cs'[0]? = some (.string s) := by
              have := congrArg (fun l : List Value => l[0]?) es
              simpa using this
            have hc0 := hc 0 (by omega)
            rw [Nat.add_zero] at hc0
            refine ⟨s, _, t, hc0.trans hs0, ws, fun j hj => ?_, ht'⟩
            rw [hc (1 + j) (by omega), List.getElem?_take_of_lt (by omega), List.getElem?_drop])
        exact ⟨es, xs, h1, h2, some ⟨b, o, none⟩, ce, rfl, l8, m8, s8, d8, h3, fun _ => ⟨b, o, rfl, h4⟩⟩
      · obtain rfl : ne = 0 := by omega
        exact ⟨[], [], rfl, rfl, oe, ce, rfl, l8, m8, s8, d8, rfl, fun h => absurd h (by omega)⟩
    subst hbl hll hel
    exact ⟨.mk z0 z1 z2 z3 z4 bs z6 ls es z9 z10, by
      simp only [TRep]
      exact ⟨_, _, _, xl, xe, rfl, ⟨w0, w2, w3, w4, w6, w9, w10⟩, hb, hla, hlr, hea, her⟩⟩
end Go.Proofs.Ytgmdbpplfjkjmaa

/-! A list of terms in an argument. -/
namespace Go.Proofs.Ytgmdbpplfjkjmaa
open Go.ChangeShapes Go.WideShapes Go.ChangeAt Go.RowKit Go.Deep
set_option linter.unusedVariables false
set_option linter.unusedSimpArgs false

section
variable {H : Type} {enc : TypeId × Value → H} {w : World} {base : Nat} {sp : Nat → Bool} {hd : Bool}
/-- Terms that were read. -/
theorem open_terms {fuel : Nat} {cs : List Value} {x : DataW H × List MemPlace} (h : DataW.trod enc Try.prog w base sp hd fuel 22 cs = some x) (hs : Rows.uptoBulk x.1 ≤ 1048576) : ∃ sv ls xs, cs = [sv] ∧ AtRow w sv ls.length 11 xs ∧ TsRep w ls xs := by
  obtain ⟨oe, ne, ce, rfl, l8, m8, s8, d8, r8⟩ := open_row cells_Term (by omega) Try.underlying22 h hs
  by_cases hn : 0 < ne
  · obtain ⟨b, o, rfl, hr⟩ := r8 hn
    obtain ⟨ls, xs, h1, h2, h3, h4⟩ := terms_laid (w := w) ne b o (fun i hi => by
      obtain ⟨cs', y, m, hl, hc, ht, hb⟩ := hr i hi
      obtain ⟨t, ht'⟩ := open_term (Rows.uptoBulk y.1) m _ y (Nat.le_refl _) (by omega) ht
      exact ⟨cs', t, hc, ht'⟩)
    exact ⟨_, ls, xs, rfl, by rw [h1]; exact ⟨some ⟨b, o, none⟩, ce, rfl, l8, m8, s8, d8, h3, fun _ => ⟨b, o, rfl, h4⟩⟩, h2⟩
  · obtain rfl : ne = 0 := by omega
    exact ⟨_, [], [], rfl, ⟨oe, ce, rfl, l8, m8, s8, d8, rfl, fun h => absurd h (by simp)⟩, rfl⟩
end
end Go.Proofs.Ytgmdbpplfjkjmaa
