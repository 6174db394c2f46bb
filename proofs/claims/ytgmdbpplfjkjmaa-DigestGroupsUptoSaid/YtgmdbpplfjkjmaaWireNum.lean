/- wire.number, wire.text, wire.zigzag: numbers and texts put behind bytes of the call's own. -/
import Derived.Test.YtgmdbpplfjkjmaaList
import Derived.Test.YtgmdbpplfjkjmaaValEnd
import Derived.Laws.BitsAllLaws
import Derived.Lib.AppendStr
namespace Go.Proofs.Ytgmdbpplfjkjmaa
open Go.RowKit
set_option linter.unusedVariables false
set_option linter.unusedSimpArgs false

/-- A number's bytes. -/
def numB (n : Nat) : List UInt8 := if n < 128 then [UInt8.ofNat n] else UInt8.ofNat (n % 128 + 128) :: numB (n / 128)
termination_by n
decreasing_by omega
/-- What a function answers that puts bytes behind the call's own. -/
def BytesEnd (B : Nat) (l : List UInt8) (w : World) (e : Ending) (w' : World) : Prop := ∃ sv, e = .returned sv ∧ w'.ownsRow B 5 1 sv l.length (byteCells l) ∧ Below B w w'
/-- The same, and which blocks turned. -/
structure NumAt (B : Nat) (sv0 : Value) (w : World) (sv : Value) (l : List UInt8) (w' : World) : Prop where
  row : w'.ownsRow B 5 1 sv l.length (byteCells l)
  below : Below B w w'
  but : But (fun b => sv0.ownBlock = some b) w w'
  own : ∀ b, sv.ownBlock = some b → sv0.ownBlock = some b ∨ w.heap.size ≤ b
theorem NumAt.step {B : Nat} {sv0 sv : Value} {w w1 w2 : World} {o : Obj} {l l2 : List UInt8} {g cap : Nat} (h : NumAt B sv0 w sv l w1) (hB : B ≤ w.heap.size) (hgr : (w1.alloc o).grownBy w2 sv.ownBlock) (hat : sv.ownBlock = some g ∨ g = (w1.alloc o).heap.size)
    (h2 : w2.ownsRow B 5 1 (.slice (some ⟨g, 0, none⟩) (l.length + 1) cap) l2.length (byteCells l2)) : NumAt B sv0 w (.slice (some ⟨g, 0, none⟩) (l.length + 1) cap) l2 w2 := by
  have hsz := h.below.size
  refine ⟨h2, (h.below.alloc (by omega) o).grown hgr (by simp; omega) (fun k hk => (ownsRow_lt h.row k (ownL_some.2 hk)).1), (h.but.alloc o).of_grown hgr (fun i hi e => ?_), fun b hb => ?_⟩
  · rcases h.own i e with h1 | h1
    · exact h1
    · omega
  · obtain rfl : g = b := Option.some.inj hb
    rcases hat with hat | hat
    · exact h.own _ hat
    · simp at hat; exact .inr (by omega)
theorem run_buildU8 (n : Int) (W : World) : (Instr.buildSlice 26 1 #[(0, .int .u8 n)]).run Try.prog W = .ok (.slice (some ⟨W.heap.size, 0, none⟩) 1 1) (W.alloc (.cells #[.int .u8 n] 5)) := by kernel_rfl
theorem byteCells_append (a b : List UInt8) : byteCells (a ++ b) = byteCells a ++ byteCells b := by simp [byteCells]
theorem byteCells_single {m : Nat} (h : m < 256) : byteCells [UInt8.ofNat m] = [.int .u8 m] := by simp [byteCells, UInt8.toNat_ofNat', Nat.mod_eq_of_lt h]
theorem byteCells_len (a : List UInt8) : (byteCells a).length = a.length := by simp [byteCells]

theorem or128 : ∀ a : Fin 256, a.val ||| 128 = a.val % 128 + 128 := by decide +kernel
theorem or_128 (m : Nat) : bits .or .u8 ((m : Int) % 256) 128 = ((m % 128 + 128 : Nat) : Int) := by
  have h := u8_or_nat (m % 256) 128 (Nat.mod_lt _ (by decide)) (by decide)
  rw [or128 ⟨m % 256, Nat.mod_lt _ (by decide)⟩] at h
  rw [show m % 128 = m % 256 % 128 from by omega, ← h]
  rfl
theorem numB_small {n : Nat} (h : n < 128) : numB n = [UInt8.ofNat n] := by rw [numB, if_pos h]
theorem numB_big {n : Nat} (h : ¬ n < 128) : numB n = UInt8.ofNat (n % 128 + 128) :: numB (n / 128) := by rw [numB, if_neg h]
theorem numB_len : ∀ (k n : Nat), n < 128 ^ (k + 1) → (numB n).length ≤ k + 1
  | 0, n, h => by rw [numB_small (by omega)]; simp
  | k + 1, n, h => by
    by_cases hn : n < 128
    · rw [numB_small hn]; simp
    · rw [numB_big hn, List.length_cons]
      have := numB_len k (n / 128) (Nat.div_lt_of_lt_mul (by rw [Nat.pow_succ, Nat.mul_comm] at h; exact h))
      omega
theorem numB_ten {n : Nat} (h : n < 18446744073709551616) : (numB n).length ≤ 10 := numB_len 9 n (Nat.lt_of_lt_of_le h (by decide))
theorem numB_pos (n : Nat) : 1 ≤ (numB n).length := by
  by_cases hn : n < 128
  · rw [numB_small hn]; simp
  · rw [numB_big hn]; simp
set_option maxRecDepth 100000 in
set_option maxHeartbeats 800000 in
theorem number_full (n : Nat) (hn : n < 18446744073709551616) (B : Nat) (bs : List UInt8) (sv : Value) (w : World) (hB : B ≤ w.heap.size) (ho : w.ownsRow B 5 1 sv bs.length (byteCells bs)) (hlen : bs.length ≤ 1099511627776) :
    Calls Try.prog 190 #[sv, .int .u64 n] w fun e w' => ∃ sv', e = .returned sv' ∧ NumAt B sv w sv' (bs ++ numB n) w' := by
  obtain ⟨i0, hi0, hz0, hz1, hz2⟩ := info_parts Try.infoU8
  have hoH := Lib.hid ho
  clear ho
  go_enter Try.func190, Try.ntmps190
  go_wp2_with fail
  have hten := numB_ten hn
  go_loopw [0, 1] (fun sv' i wr => ∃ (m : Nat) (l : List UInt8), m < 18446744073709551616 ∧ i = .int .u64 m ∧ l ++ numB m = bs ++ numB n ∧ NumAt B sv w sv' l wr) (fun _ i _ => (intOf i).toNat)
  case atStart => exact ⟨n, bs, hn, rfl, rfl, hoH.out, Below.refl _ _, But.refl _ _, fun b h => .inl h⟩
  case round =>
    obtain ⟨m, l, hm, rfl, heq, hat0⟩ := hrel
    have hown := hat0.row
    have hb := hat0.below
    have hatH := Lib.hid hat0
    clear hat0
    have hll : l.length + (numB m).length = bs.length + (numB n).length := by rw [← List.length_append, heq, List.length_append]
    have hlp := numB_pos m
    have heqH := Lib.hid heq
    have hbs := hb.size
    clear heq
    by_cases hlt : m < 128
    · have hmi : (m : Int) < 128 := by omega
      go_wp2_with (at_builtin; refine wpList_append_lies _ rfl _ _ 26 rfl B 5 i0 _ 1 1 Try.underlying26 hi0 hz0 hz1 hz2 rfl (by omega) _ l.length (byteCells l) rfl (hown.alloc _) ⟨wr.heap.size, 0, none⟩ 1 1 [.int .u8 m] rfl rfl (World.news_of_block (cs := #[.int .u8 m]) (t := 5) (fr := (0, 0)) (heap_alloc_new wr _)) (one_single rfl) (by omega) (by unfold maxLen; omega) (by omega) (by simp; omega) _ rfl ?_; intro g2 cap2 w2 hown2 hgr2 hat2 hlt2)
      go_ret
      refine ⟨_, rfl, hatH.out.step hB hgr2 hat2 ?_⟩
      rw [← heqH.out, numB_small hlt, byteCells_append, byteCells_single (by omega), List.length_append]
      exact hown2
    · have hmi : (128 : Int) ≤ (m : Int) := by omega
      have hor := or_128 m
      have hq : ((m / 128 : Nat) : Int) = (m : Int) / 128 := Int.natCast_ediv m 128
      go_wp2_with (at_builtin; refine wpList_append_lies _ rfl _ _ 26 rfl B 5 i0 _ 1 1 Try.underlying26 hi0 hz0 hz1 hz2 rfl (by omega) _ l.length (byteCells l) rfl (hown.alloc _) ⟨wr.heap.size, 0, none⟩ 1 1 [.int .u8 ((m % 128 + 128 : Nat) : Int)] rfl rfl (World.news_of_block (cs := #[.int .u8 ((m % 128 + 128 : Nat) : Int)]) (t := 5) (fr := (0, 0)) (heap_alloc_new wr _)) (one_single rfl) (by omega) (by unfold maxLen; omega) (by omega) (by simp; omega) _ rfl ?_; intro g2 cap2 w2 hown2 hgr2 hat2 hlt2)
      go_roundw
      case rel =>
        refine ⟨m / 128, l ++ [UInt8.ofNat (m % 128 + 128)], by omega, by rw [hq], ?_, hatH.out.step hB hgr2 hat2 ?_⟩
        · rw [← heqH.out, numB_big hlt, List.append_assoc]; rfl
        · rw [byteCells_append, byteCells_single (by omega), List.length_append]
          exact hown2
      case measure => show ((m : Int) / 128).toNat < ((m : Int)).toNat; omega
theorem number_said (n : Nat) (hn : n < 18446744073709551616) (B : Nat) (bs : List UInt8) (sv : Value) (w : World) (hB : B ≤ w.heap.size) (ho : w.ownsRow B 5 1 sv bs.length (byteCells bs)) (hlen : bs.length ≤ 1099511627776) :
    Calls Try.prog 190 #[sv, .int .u64 n] w (BytesEnd B (bs ++ numB n) w) :=
  (number_full n hn B bs sv w hB ho hlen).mono fun e w' ⟨sv', h1, h2⟩ => ⟨sv', h1, h2.row, h2.below⟩
/-- zigzag. -/
def zzN (n : Int) : Nat := if 0 ≤ n then (2 * n).toNat else (-2 * n - 1).toNat
theorem xor_ones (a : Nat) (h : a < 18446744073709551616) : a ^^^ 18446744073709551615 = 18446744073709551615 - a := by
  have h1 := congrArg BitVec.toNat (BitVec.xor_allOnes (x := BitVec.ofNat 64 a))
  rw [BitVec.toNat_xor, BitVec.toNat_not, BitVec.toNat_ofNat, BitVec.toNat_allOnes, Nat.mod_eq_of_lt h] at h1
  exact h1
theorem zz_bits (n : Int) (h0 : -9223372036854775808 ≤ n) (h1 : n ≤ 9223372036854775807) : bits .xor .u64 (n % 18446744073709551616 * 2 % 18446744073709551616) (n / 9223372036854775808 % 18446744073709551616) = ((zzN n : Nat) : Int) := by
  unfold zzN
  by_cases hn : 0 ≤ n
  · rw [if_pos hn, show n / 9223372036854775808 % 18446744073709551616 = ((0 : Nat) : Int) from by omega, show n % 18446744073709551616 * 2 % 18446744073709551616 = (((2 * n).toNat : Nat) : Int) from by omega, bits_xor_u64_nat _ _ (by omega) (by decide), Nat.xor_zero]
  · rw [if_neg hn, show n / 9223372036854775808 % 18446744073709551616 = ((18446744073709551615 : Nat) : Int) from by omega, show n % 18446744073709551616 * 2 % 18446744073709551616 = (((2 * n + 18446744073709551616).toNat : Nat) : Int) from by omega, bits_xor_u64_nat _ _ (by omega) (by decide), xor_ones _ (by omega)]
    omega
theorem zzN_lt (n : Int) (h0 : -9223372036854775808 ≤ n) (h1 : n ≤ 9223372036854775807) : zzN n < 18446744073709551616 := by unfold zzN; split <;> omega
set_option maxRecDepth 100000 in
theorem zigzag_said (n : Int) (h0 : -9223372036854775808 ≤ n) (h1 : n ≤ 9223372036854775807) (w : World) : Calls Try.prog 191 #[.int .i64 n] w fun e w' => e = .returned (.int .u64 (zzN n)) ∧ w = w' := by
  have hz := zz_bits n h0 h1
  go_enter Try.func191, Try.ntmps191
  go_wp2
  go_ret
  refine ⟨?_, rfl⟩
  show Ending.returned (.int .u64 (bits .xor .u64 (IntKind.u64.wrap (IntKind.u64.wrap n * 2)) (IntKind.u64.wrap (n / 9223372036854775808)))) = _
  rw [IntKind.wrap_u64, IntKind.wrap_u64, IntKind.wrap_u64, hz]
theorem strCells_bytes (s : ByteArray) : Lib.strCells s = byteCells s.data.toList := by simp [Lib.strCells, byteCells]
/-- A text's bytes, its length ahead. -/
def textB (s : ByteArray) : List UInt8 := numB s.size ++ s.data.toList
theorem textB_len (s : ByteArray) (h : s.size ≤ 1099511627776) : (textB s).length ≤ s.size + 10 := by
  unfold textB
  have := numB_ten (n := s.size) (by omega)
  rw [List.length_append]
  have : s.data.toList.length = s.size := by simp
  omega
set_option maxRecDepth 100000 in
set_option maxHeartbeats 800000 in
theorem text_full (s : ByteArray) (B : Nat) (bs : List UInt8) (sv : Value) (w : World) (hB : B ≤ w.heap.size) (ho : w.ownsRow B 5 1 sv bs.length (byteCells bs)) (hlen : bs.length + s.size ≤ 1099511627776) :
    Calls Try.prog 192 #[sv, .string s] w fun e w' => BytesEnd B (bs ++ textB s) w e w' ∧ But (fun b => sv.ownBlock = some b) w w' := by
  obtain ⟨i0, hi0, hz0, hz1, hz2⟩ := info_parts Try.infoU8
  have hnum := Lib.hid (number_full s.size (by omega) B bs sv w hB ho (by omega))
  have hten := numB_ten (n := s.size) (by omega)
  have hwi : IntKind.u64.wrap (s.size : Int) = (s.size : Int) := by rw [IntKind.wrap_u64]; omega
  have hone1 : sv.oneCell' = true := by obtain ⟨_, _, rfl, -⟩ := ownsRow_form ho; rfl
  clear ho
  go_enter Try.func192, Try.ntmps192
  go_wp2_with fail
  refine hnum.out.mono ?_
  rintro e w1 ⟨sv1, rfl, hat⟩
  have hown := hat.row
  have hb1 := hat.below
  have hatH := Lib.hid hat
  clear hat
  have hbs := hb1.size
  have hl1 : (bs ++ numB s.size).length = bs.length + (numB s.size).length := List.length_append
  go_wp2_with (at_builtin; refine Lib.wpList_append_own_string _ rfl _ _ 26 9 rfl B 5 i0 Try.underlying26 Try.underlying9 hi0 hz0 hz1 hz2 _ _ _ rfl hown s rfl (by unfold maxLen; omega) (by omega) (by omega) ?_; intro v' w' hown' hgr' _)
  go_ret
  refine ⟨⟨_, rfl, ?_, hb1.grown hgr' (by omega) (fun k hk => (ownsRow_lt hown k (ownL_some.2 hk)).1)⟩, hatH.out.but.of_grown hgr' (fun i hi e => (hatH.out.own i e).elim id (fun h => by omega))⟩
  rw [strCells_bytes, ← byteCells_append] at hown'
  unfold textB
  rw [← List.append_assoc, List.length_append]
  have hsz : s.data.toList.length = s.size := by simp
  rw [hsz]
  exact hown'
theorem text_said (s : ByteArray) (B : Nat) (bs : List UInt8) (sv : Value) (w : World) (hB : B ≤ w.heap.size) (ho : w.ownsRow B 5 1 sv bs.length (byteCells bs)) (hlen : bs.length + s.size ≤ 1099511627776) :
    Calls Try.prog 192 #[sv, .string s] w (BytesEnd B (bs ++ textB s) w) := (text_full s B bs sv w hB ho hlen).mono fun e w' h => h.1
end Go.Proofs.Ytgmdbpplfjkjmaa
