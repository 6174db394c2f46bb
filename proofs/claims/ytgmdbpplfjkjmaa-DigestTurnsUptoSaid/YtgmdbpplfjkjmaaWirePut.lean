/- wire.number, wire.text, wire.zigzag: numbers and texts put behind bytes of the call's own. -/
import Derived.Test.YtgmdbpplfjkjmaaList
import Derived.Test.YtgmdbpplfjkjmaaValEnd
import Derived.Laws.BitsAllLaws
import Derived.Lib.AppendStr
import Derived.Laws.AppendOwnNone
namespace Go.Proofs.Ytgmdbpplfjkjmaa
open Go.RowKit
set_option linter.unusedVariables false
set_option linter.unusedSimpArgs false

/-- A number's bytes. -/
def numB (n : Nat) : List UInt8 := if n < 128 then [UInt8.ofNat n] else UInt8.ofNat (n % 128 + 128) :: numB (n / 128)
termination_by n
decreasing_by omega
/-- What a function answers that puts bytes behind the call's own. -/
def BytesEnd (B : Nat) (l : List UInt8) (w : World) (e : Ending) (w' : World) : Prop := ∃ sv, e = .returned sv ∧ w'.ownsRow B 5 1 sv l.length (byteCells l) ∧ Below B w w'
/-- The same, and which blocks turned. -/
structure NumAt (B : Nat) (sv0 : Value) (w : World) (sv : Value) (l : List UInt8) (w' : World) : Prop where
  row : w'.ownsRow B 5 1 sv l.length (byteCells l)
  below : Below B w w'
  but : But (fun b => sv0.ownBlock = some b) w w'
  own : ∀ b, sv.ownBlock = some b → sv0.ownBlock = some b ∨ w.heap.size ≤ b
theorem NumAt.step {B : Nat} {sv0 sv : Value} {w w1 w2 : World} {o : Obj} {l l2 : List UInt8} {g cap : Nat} (h : NumAt B sv0 w sv l w1) (hB : B ≤ w.heap.size) (hgr : (w1.alloc o).grownBy w2 sv.ownBlock) (hat : sv.ownBlock = some g ∨ g = (w1.alloc o).heap.size)
    (h2 : w2.ownsRow B 5 1 (.slice (some ⟨g, 0, none⟩) (l.length + 1) cap) l2.length (byteCells l2)) : NumAt B sv0 w (.slice (some ⟨g, 0, none⟩) (l.length + 1) cap) l2 w2 := by
  have hsz := h.below.size
  refine ⟨h2, (h.below.alloc (by omega) o).grown hgr (by simp; omega) (fun k hk => (ownsRow_lt h.row k (ownL_some.2 hk)).1), (h.but.alloc o).of_grown hgr (fun i hi e => ?_), fun b hb => ?_⟩
  · rcases h.own i e with h1 | h1
    · exact h1
    · omega
  · obtain rfl : g = b := Option.some.inj hb
    rcases hat with hat | hat
    · exact h.own _ hat
    · simp at hat; exact .inr (by omega)
theorem run_buildU8 (n : Int) (W : World) : (Instr.buildSlice 26 1 #[(0, .int .u8 n)]).run Try.prog W = .ok (.slice (some ⟨W.heap.size, 0, none⟩) 1 1) (W.alloc (.cells #[.int .u8 n] 5)) := by kernel_rfl
theorem byteCells_append (a b : List UInt8) : byteCells (a ++ b) = byteCells a ++ byteCells b := by simp [byteCells]
theorem byteCells_single {m : Nat} (h : m < 256) : byteCells [UInt8.ofNat m] = [.int .u8 m] := by simp [byteCells, UInt8.toNat_ofNat', Nat.mod_eq_of_lt h]
theorem byteCells_len (a : List UInt8) : (byteCells a).length = a.length := by simp [byteCells]

theorem or128 : ∀ a : Fin 256, a.val ||| 128 = a.val % 128 + 128 := by decide +kernel
theorem or_128 (m : Nat) : bits .or .u8 ((m : Int) % 256) 128 = ((m % 128 + 128 : Nat) : Int) := by
  have h := u8_or_nat (m % 256) 128 (Nat.mod_lt _ (by decide)) (by decide)
  rw [or128 ⟨m % 256, Nat.mod_lt _ (by decide)⟩] at h
  rw [show m % 128 = m % 256 % 128 from by omega, ← h]
  rfl
theorem numB_small {n : Nat} (h : n < 128) : numB n = [UInt8.ofNat n] := by rw [numB, if_pos h]
theorem numB_big {n : Nat} (h : ¬ n < 128) : numB n = UInt8.ofNat (n % 128 + 128) :: numB (n / 128) := by rw [numB, if_neg h]
theorem numB_len : ∀ (k n : Nat), n < 128 ^ (k + 1) → (numB n).length ≤ k + 1
  | 0, n, h => by rw [numB_small (by omega)]; simp
  | k + 1, n, h => by
    by_cases hn : n < 128
    · rw [numB_small hn]; simp
    · rw [numB_big hn, List.length_cons]
      have := numB_len k (n / 128) (Nat.div_lt_of_lt_mul (by rw [Nat.pow_succ, Nat.mul_comm] at h; exact h))
      omega
theorem numB_ten {n : Nat} (h : n < 18446744073709551616) : (numB n).length ≤ 10 := numB_len 9 n (Nat.lt_of_lt_of_le h (by decide))
theorem numB_pos (n : Nat) : 1 ≤ (numB n).length := by
  by_cases hn : n < 128
  · rw [numB_small hn]; simp
  · rw [numB_big hn]; simp
set_option maxRecDepth 100000 in
set_option maxHeartbeats 800000 in
theorem number_full (n : Nat) (hn : n < 18446744073709551616) (B : Nat) (bs : List UInt8) (sv : Value) (w : World) (hB : B ≤ w.heap.size) (ho : w.ownsRow B 5 1 sv bs.length (byteCells bs)) (hlen : bs.length ≤ 1099511627776) :
    Calls Try.prog 190 #[sv, .int .u64 n] w fun e w' => ∃ sv', e = .returned sv' ∧ NumAt B sv w sv' (bs ++ numB n) w' := by
  obtain ⟨i0, hi0, hz0, hz1, hz2⟩ := info_parts Try.infoU8
  have hoH := Lib.hid ho
  clear ho
  go_enter Try.func190, Try.ntmps190
  go_wp2_with fail
  have hten := numB_ten hn
  go_loopw [0, 1] (fun sv' i wr => ∃ (m : Nat) (l : List UInt8), m < 18446744073709551616 ∧ i = .int .u64 m ∧ l ++ numB m = bs ++ numB n ∧ NumAt B sv w sv' l wr) (fun _ i _ => (intOf i).toNat)
  case atStart => exact ⟨n, bs, hn, rfl, rfl, hoH.out, Below.refl _ _, But.refl _ _, fun b h => .inl h⟩
  case round =>
    obtain ⟨m, l, hm, rfl, heq, hat0⟩ := hrel
    have hown := hat0.row
    have hb := hat0.below
    have hatH := Lib.hid hat0
    clear hat0
    have hll : l.length + (numB m).length = bs.length + (numB n).length := by rw [← List.length_append, heq, List.length_append]
    have hlp := numB_pos m
    have heqH := Lib.hid heq
    have hbs := hb.size
    clear heq
    by_cases hlt : m < 128
    · have hmi : (m : Int) < 128 := by omega
      go_wp2_with (at_builtin; refine wpList_append_lies _ rfl _ _ 26 rfl B 5 i0 _ 1 1 Try.underlying26 hi0 hz0 hz1 hz2 rfl (by omega) _ l.length (byteCells l) rfl (hown.alloc _) ⟨wr.heap.size, 0, none⟩ 1 1 [.int .u8 m] rfl rfl (World.news_of_block (cs := #[.int .u8 m]) (t := 5) (fr := (0, 0)) (heap_alloc_new wr _)) (one_single rfl) (by omega) (by unfold maxLen; omega) (by omega) (by simp; omega) _ rfl ?_; intro g2 cap2 w2 hown2 hgr2 hat2 hlt2)
      go_ret
      refine ⟨_, rfl, hatH.out.step hB hgr2 hat2 ?_⟩
      rw [← heqH.out, numB_small hlt, byteCells_append, byteCells_single (by omega), List.length_append]
      exact hown2
    · have hmi : (128 : Int) ≤ (m : Int) := by omega
      have hor := or_128 m
      have hq : ((m / 128 : Nat) : Int) = (m : Int) / 128 := Int.natCast_ediv m 128
      go_wp2_with (at_builtin; refine wpList_append_lies _ rfl _ _ 26 rfl B 5 i0 _ 1 1 Try.underlying26 hi0 hz0 hz1 hz2 rfl (by omega) _ l.length (byteCells l) rfl (hown.alloc _) ⟨wr.heap.size, 0, none⟩ 1 1 [.int .u8 ((m % 128 + 128 : Nat) : Int)] rfl rfl (World.news_of_block (cs := #[.int .u8 ((m % 128 + 128 : Nat) : Int)]) (t := 5) (fr := (0, 0)) (heap_alloc_new wr _)) (one_single rfl) (by omega) (by unfold maxLen; omega) (by omega) (by simp; omega) _ rfl ?_; intro g2 cap2 w2 hown2 hgr2 hat2 hlt2)
      go_roundw
      case rel =>
        refine ⟨m / 128, l ++ [UInt8.ofNat (m % 128 + 128)], by omega, by rw [hq], ?_, hatH.out.step hB hgr2 hat2 ?_⟩
        · rw [← heqH.out, numB_big hlt, List.append_assoc]; rfl
        · rw [byteCells_append, byteCells_single (by omega), List.length_append]
          exact hown2
      case measure => show ((m : Int) / 128).toNat < ((m : Int)).toNat; omega
theorem number_said (n : Nat) (hn : n < 18446744073709551616) (B : Nat) (bs : List UInt8) (sv : Value) (w : World) (hB : B ≤ w.heap.size) (ho : w.ownsRow B 5 1 sv bs.length (byteCells bs)) (hlen : bs.length ≤ 1099511627776) :
    Calls Try.prog 190 #[sv, .int .u64 n] w (BytesEnd B (bs ++ numB n) w) :=
  (number_full n hn B bs sv w hB ho hlen).mono fun e w' ⟨sv', h1, h2⟩ => ⟨sv', h1, h2.row, h2.below⟩
/-- zigzag. -/
def zzN (n : Int) : Nat := if 0 ≤ n then (2 * n).toNat else (-2 * n - 1).toNat
theorem xor_ones (a : Nat) (h : a < 18446744073709551616) : a ^^^ 18446744073709551615 = 18446744073709551615 - a := by
  have h1 := congrArg BitVec.toNat (BitVec.xor_allOnes (x := BitVec.ofNat 64 a))
  rw [BitVec.toNat_xor, BitVec.toNat_not, BitVec.toNat_ofNat, BitVec.toNat_allOnes, Nat.mod_eq_of_lt h] at h1
  exact h1
theorem zz_bits (n : Int) (h0 : -9223372036854775808 ≤ n) (h1 : n ≤ 9223372036854775807) : bits .xor .u64 (n % 18446744073709551616 * 2 % 18446744073709551616) (n / 9223372036854775808 % 18446744073709551616) = ((zzN n : Nat) : Int) := by
  unfold zzN
  by_cases hn : 0 ≤ n
  · rw [if_pos hn, show n / 9223372036854775808 % 18446744073709551616 = ((0 : Nat) : Int) from by omega, show n % 18446744073709551616 * 2 % 18446744073709551616 = (((2 * n).toNat : Nat) : Int) from by omega, bits_xor_u64_nat _ _ (by omega) (by decide), Nat.xor_zero]
  · rw [if_neg hn, show n / 9223372036854775808 % 18446744073709551616 = ((18446744073709551615 : Nat) : Int) from by omega, show n % 18446744073709551616 * 2 % 18446744073709551616 = (((2 * n + 18446744073709551616).toNat : Nat) : Int) from by omega, bits_xor_u64_nat _ _ (by omega) (by decide), xor_ones _ (by omega)]
    omega
theorem zzN_lt (n : Int) (h0 : -9223372036854775808 ≤ n) (h1 : n ≤ 9223372036854775807) : zzN n < 18446744073709551616 := by unfold zzN; split <;> omega
set_option maxRecDepth 100000 in
theorem zigzag_said (n : Int) (h0 : -9223372036854775808 ≤ n) (h1 : n ≤ 9223372036854775807) (w : World) : Calls Try.prog 191 #[.int .i64 n] w fun e w' => e = .returned (.int .u64 (zzN n)) ∧ w = w' := by
  have hz := zz_bits n h0 h1
  go_enter Try.func191, Try.ntmps191
  go_wp2
  go_ret
  refine ⟨?_, rfl⟩
  show Ending.returned (.int .u64 (bits .xor .u64 (IntKind.u64.wrap (IntKind.u64.wrap n * 2)) (IntKind.u64.wrap (n / 9223372036854775808)))) = _
  rw [IntKind.wrap_u64, IntKind.wrap_u64, IntKind.wrap_u64, hz]
theorem strCells_bytes (s : ByteArray) : Lib.strCells s = byteCells s.data.toList := by simp [Lib.strCells, byteCells]
/-- A text's bytes, its length ahead. -/
def textB (s : ByteArray) : List UInt8 := numB s.size ++ s.data.toList
theorem textB_len (s : ByteArray) (h : s.size ≤ 1099511627776) : (textB s).length ≤ s.size + 10 := by
  unfold textB
  have := numB_ten (n := s.size) (by omega)
  rw [List.length_append]
  have : s.data.toList.length = s.size := by simp
  omega
set_option maxRecDepth 100000 in
set_option maxHeartbeats 800000 in
theorem text_full (s : ByteArray) (B : Nat) (bs : List UInt8) (sv : Value) (w : World) (hB : B ≤ w.heap.size) (ho : w.ownsRow B 5 1 sv bs.length (byteCells bs)) (hlen : bs.length + s.size ≤ 1099511627776) :
    Calls Try.prog 192 #[sv, .string s] w fun e w' => BytesEnd B (bs ++ textB s) w e w' ∧ But (fun b => sv.ownBlock = some b) w w' := by
  obtain ⟨i0, hi0, hz0, hz1, hz2⟩ := info_parts Try.infoU8
  have hnum := Lib.hid (number_full s.size (by omega) B bs sv w hB ho (by omega))
  have hten := numB_ten (n := s.size) (by omega)
  have hwi : IntKind.u64.wrap (s.size : Int) = (s.size : Int) := by rw [IntKind.wrap_u64]; omega
  have hone1 : sv.oneCell' = true := by obtain ⟨_, _, rfl, -⟩ := ownsRow_form ho; rfl
  clear ho
  go_enter Try.func192, Try.ntmps192
  go_wp2_with fail
  refine hnum.out.mono ?_
  rintro e w1 ⟨sv1, rfl, hat⟩
  have hown := hat.row
  have hb1 := hat.below
  have hatH := Lib.hid hat
  clear hat
  have hbs := hb1.size
  have hl1 : (bs ++ numB s.size).length = bs.length + (numB s.size).length := List.length_append
  go_wp2_with (at_builtin; refine Lib.wpList_append_own_string _ rfl _ _ 26 9 rfl B 5 i0 Try.underlying26 Try.underlying9 hi0 hz0 hz1 hz2 _ _ _ rfl hown s rfl (by unfold maxLen; omega) (by omega) (by omega) ?_; intro v' w' hown' hgr' _)
  go_ret
  refine ⟨⟨_, rfl, ?_, hb1.grown hgr' (by omega) (fun k hk => (ownsRow_lt hown k (ownL_some.2 hk)).1)⟩, hatH.out.but.of_grown hgr' (fun i hi e => (hatH.out.own i e).elim id (fun h => by omega))⟩
  rw [strCells_bytes, ← byteCells_append] at hown'
  unfold textB
  rw [← List.append_assoc, List.length_append]
  have hsz : s.data.toList.length = s.size := by simp
  rw [hsz]
  exact hown'
theorem text_said (s : ByteArray) (B : Nat) (bs : List UInt8) (sv : Value) (w : World) (hB : B ≤ w.heap.size) (ho : w.ownsRow B 5 1 sv bs.length (byteCells bs)) (hlen : bs.length + s.size ≤ 1099511627776) :
    Calls Try.prog 192 #[sv, .string s] w (BytesEnd B (bs ++ textB s) w) := (text_full s B bs sv w hB ho hlen).mono fun e w' h => h.1
end Go.Proofs.Ytgmdbpplfjkjmaa

/-! wire.put of values that can be. -/
namespace Go.Proofs.Ytgmdbpplfjkjmaa
open Go.RowKit
set_option linter.unusedVariables false
set_option linter.unusedSimpArgs false

/-- A float's bytes. -/
def f8 (b : Nat) : List UInt8 := [UInt8.ofNat (b / 72057594037927936 % 256), UInt8.ofNat (b / 281474976710656 % 256), UInt8.ofNat (b / 1099511627776 % 256), UInt8.ofNat (b / 4294967296 % 256), UInt8.ofNat (b / 16777216 % 256), UInt8.ofNat (b / 65536 % 256), UInt8.ofNat (b / 256 % 256), UInt8.ofNat (b % 256)]
mutual
/-- A value's bytes. -/
def encV : Val → List UInt8
  | .nil => [1]
  | .bool b => [2, bif b then 1 else 0]
  | .int n => 3 :: numB (zzN n)
  | .float b => 4 :: f8 b
  | .text s => 5 :: textB s
  | .bytes l => 6 :: (numB l.length ++ l)
  | .ref n => 7 :: numB n.toNat
  | .list l => 8 :: (numB l.length ++ encVs l)
  | .dict d => 9 :: (numB d.length ++ encDs d)
  | .record c n d => 10 :: (textB c ++ (numB n.toNat ++ (numB d.length ++ encDs d)))
  | .nothing => [11]
  | .alien _ => [0]
def encVs : List Val → List UInt8
  | [] => []
  | v :: l => encV v ++ encVs l
def encDs : List (ByteArray × Val) → List UInt8
  | [] => []
  | p :: l => encP p ++ encDs l
def encP : ByteArray × Val → List UInt8
  | (s, v) => textB s ++ encV v
end
theorem kind_said {w : World} {v : Val} {x : Value} {fs : List Nat} (h : VRep w v x fs) : Calls Try.prog 189 #[x] w fun e w' => e = .returned (.int .i64 (kindV v)) ∧ w = w' := by
  have hk := Lib.hid (kind_val h w)
  clear h
  go_enter Try.func189, Try.ntmps189
  go_wp2_with fail
  refine hk.out.mono ?_
  rintro e w1 ⟨rfl, rfl⟩
  go_wp2
  go_ret
  exact ⟨rfl, rfl⟩
def PutSaid (v : Val) : Prop := ∀ (x : Value) (fs : List Nat) (w : World) (B : Nat) (bs : List UInt8) (sv : Value), VRep w v x fs → okV v → (∀ b ∈ fs, b < B) → B ≤ w.heap.size → w.ownsRow B 5 1 sv bs.length (byteCells bs) → bs.length + (encV v).length ≤ 1099511627776 →
  Calls Try.prog 149 #[sv, x] w (BytesEnd B (bs ++ encV v) w)
theorem put_row {B : Nat} {w w1 w2 : World} {o : Obj} {bs : List UInt8} {sv : Value} {g cap m : Nat} (hb : Below B w w1) (hB : B ≤ w1.heap.size) (hown : w1.ownsRow B 5 1 sv bs.length (byteCells bs)) (hm : m < 256) (hgr : (w1.alloc o).grownBy w2 sv.ownBlock)
    (h2 : w2.ownsRow B 5 1 (.slice (some ⟨g, 0, none⟩) (bs.length + 1) cap) (bs.length + 1) (byteCells bs ++ [.int .u8 m])) : w2.ownsRow B 5 1 (.slice (some ⟨g, 0, none⟩) (bs.length + 1) cap) (bs ++ [UInt8.ofNat m]).length (byteCells (bs ++ [UInt8.ofNat m])) ∧ Below B w w2 := by
  refine ⟨?_, (hb.alloc hB o).grown hgr (by simp; omega) (fun k hk => (ownsRow_lt hown k (ownL_some.2 hk)).1)⟩
  rw [byteCells_append, byteCells_single hm, List.length_append]
  exact h2
theorem cells_one_u8 (n : Nat) (h : n < 256) : byteCells [UInt8.ofNat n] = [.int .u8 n] := byteCells_single h

set_option maxRecDepth 100000 in
set_option maxHeartbeats 800000 in
theorem put_nil : PutSaid (.nil) := by
  intro x fs w B bs sv h hv hfs hB ho hlen
  have hk := Lib.hid (kind_said h)
  simp only [VRep] at h
  obtain ⟨rfl, -⟩ := h
  obtain ⟨i0, hi0, hz0, hz1, hz2⟩ := info_parts Try.infoU8
  rw [encV] at hlen ⊢
  simp only [List.length_cons] at hlen
  have hone1 : sv.oneCell' = true := by obtain ⟨_, _, rfl, -⟩ := ownsRow_form ho; rfl
  go_enter Try.func149, Try.ntmps149
  go_wp2_with fail
  refine hk.out.mono ?_
  rintro e w1 ⟨rfl, rfl⟩
  go_wp2_with (first | (at_builtin; refine wpList_append_lies _ rfl _ _ 26 rfl B 5 i0 _ 1 1 Try.underlying26 hi0 hz0 hz1 hz2 rfl (by omega) _ bs.length (byteCells bs) rfl (ho.alloc _) ⟨w.heap.size, 0, none⟩ 1 1 [.int .u8 1] rfl rfl (World.news_of_block (cs := #[.int .u8 1]) (t := 5) (fr := (0, 0)) (heap_alloc_new w _)) (one_single rfl) (by omega) (by unfold maxLen; omega) (by omega) (by simp; omega) _ rfl ?_; intro g2 cap2 w2 hown2 hgr2 hat2 hlt2; have hp1 := put_row (Below.refl B w) hB ho (m := 1) (by decide) hgr2 hown2; have hr1 := hp1.1; have hb1 := hp1.2; have hsz1 := hb1.size; have hl1 : (bs ++ [UInt8.ofNat 1]).length = bs.length + 1 := List.length_append; clear hgr2 hat2 hlt2 hown2 hp1))
  go_ret
  exact ⟨_, rfl, hr1, hb1⟩

set_option maxRecDepth 100000 in
set_option maxHeartbeats 800000 in
theorem put_bool (b : Bool) : PutSaid (.bool b) := by
  intro x fs w B bs sv h hv hfs hB ho hlen
  have hk := Lib.hid (kind_said h)
  simp only [VRep] at h
  obtain ⟨rfl, -⟩ := h
  obtain ⟨i0, hi0, hz0, hz1, hz2⟩ := info_parts Try.infoU8
  rw [encV] at hlen ⊢
  simp only [List.length_cons] at hlen
  have hone1 : sv.oneCell' = true := by obtain ⟨_, _, rfl, -⟩ := ownsRow_form ho; rfl
  cases b
  all_goals
    go_enter Try.func149, Try.ntmps149
    go_wp2_with fail
    refine hk.out.mono ?_
    rintro e w1 ⟨rfl, rfl⟩
    go_wp2_with (first | (at_builtin; refine wpList_append_lies _ rfl _ _ 26 rfl B 5 i0 _ 1 1 Try.underlying26 hi0 hz0 hz1 hz2 rfl (by omega) _ bs.length (byteCells bs) rfl (ho.alloc _) ⟨w.heap.size, 0, none⟩ 1 1 [.int .u8 2] rfl rfl (World.news_of_block (cs := #[.int .u8 2]) (t := 5) (fr := (0, 0)) (heap_alloc_new w _)) (one_single rfl) (by omega) (by unfold maxLen; omega) (by omega) (by simp; omega) _ rfl ?_; intro g2 cap2 w2 hown2 hgr2 hat2 hlt2; have hp1 := put_row (Below.refl B w) hB ho (m := 2) (by decide) hgr2 hown2; have hr1 := hp1.1; have hb1 := hp1.2; have hsz1 := hb1.size; have hl1 : (bs ++ [UInt8.ofNat 2]).length = bs.length + 1 := List.length_append; clear hgr2 hat2 hlt2 hown2 hp1) | (at_builtin; refine wpList_append_lies _ rfl _ _ 26 rfl B 5 i0 _ 1 1 Try.underlying26 hi0 hz0 hz1 hz2 rfl (by omega) _ _ _ rfl (hr1.alloc _) ⟨w2.heap.size, 0, none⟩ 1 1 [.int .u8 0] rfl rfl (World.news_of_block (cs := #[.int .u8 0]) (t := 5) (fr := (0, 0)) (heap_alloc_new w2 _)) (one_single rfl) (by omega) (by unfold maxLen; omega) (by omega) (by simp; omega) _ rfl ?_; intro g3 cap3 w3 hown3 hgr3 hat3 hlt3) | (at_builtin; refine wpList_append_lies _ rfl _ _ 26 rfl B 5 i0 _ 1 1 Try.underlying26 hi0 hz0 hz1 hz2 rfl (by omega) _ _ _ rfl (hr1.alloc _) ⟨w2.heap.size, 0, none⟩ 1 1 [.int .u8 1] rfl rfl (World.news_of_block (cs := #[.int .u8 1]) (t := 5) (fr := (0, 0)) (heap_alloc_new w2 _)) (one_single rfl) (by omega) (by unfold maxLen; omega) (by omega) (by simp; omega) _ rfl ?_; intro g3 cap3 w3 hown3 hgr3 hat3 hlt3))
    go_ret
    have hp2 := put_row hb1 (by omega) hr1 (by decide) hgr3 hown3
    rw [hl1, List.append_assoc] at hp2
    exact ⟨_, rfl, hp2.1, hp2.2⟩

set_option maxRecDepth 100000 in
set_option maxHeartbeats 800000 in
theorem put_int (n : Int) : PutSaid (.int n) := by
  intro x fs w B bs sv h hv hfs hB ho hlen
  have hk := Lib.hid (kind_said h)
  simp only [VRep] at h
  obtain ⟨rfl, hwf, -⟩ := h
  obtain ⟨i0, hi0, hz0, hz1, hz2⟩ := info_parts Try.infoU8
  rw [encV] at hlen ⊢
  simp only [List.length_cons] at hlen
  have hone1 : sv.oneCell' = true := by obtain ⟨_, _, rfl, -⟩ := ownsRow_form ho; rfl
  have hr : -9223372036854775808 ≤ n ∧ n ≤ 9223372036854775807 := by simpa [Lit.wf, IntKind.min, IntKind.max, IntKind.signed, IntKind.bits] using hwf
  have hzz := Lib.hid (fun W => zigzag_said n hr.1 hr.2 W)
  have hzl := zzN_lt n hr.1 hr.2
  go_enter Try.func149, Try.ntmps149
  go_wp2_with fail
  refine hk.out.mono ?_
  rintro e w1 ⟨rfl, rfl⟩
  go_wp2_with (first | (at_builtin; refine wpList_append_lies _ rfl _ _ 26 rfl B 5 i0 _ 1 1 Try.underlying26 hi0 hz0 hz1 hz2 rfl (by omega) _ bs.length (byteCells bs) rfl (ho.alloc _) ⟨w.heap.size, 0, none⟩ 1 1 [.int .u8 3] rfl rfl (World.news_of_block (cs := #[.int .u8 3]) (t := 5) (fr := (0, 0)) (heap_alloc_new w _)) (one_single rfl) (by omega) (by unfold maxLen; omega) (by omega) (by simp; omega) _ rfl ?_; intro g2 cap2 w2 hown2 hgr2 hat2 hlt2; have hp1 := put_row (Below.refl B w) hB ho (m := 3) (by decide) hgr2 hown2; have hr1 := hp1.1; have hb1 := hp1.2; have hsz1 := hb1.size; have hl1 : (bs ++ [UInt8.ofNat 3]).length = bs.length + 1 := List.length_append; clear hgr2 hat2 hlt2 hown2 hp1))
  refine (hzz.out _).mono ?_
  rintro e w3 ⟨rfl, rfl⟩
  have hnum := Lib.hid (number_said (zzN n) hzl B _ _ w2 (by omega) hr1 (by omega))
  clear hr1
  go_wp2_with fail
  refine hnum.out.mono ?_
  rintro e w3 ⟨sv3, rfl, hown3, hb3⟩
  have hone3 : sv3.oneCell' = true := by obtain ⟨_, _, rfl, -⟩ := ownsRow_form hown3; rfl
  rw [List.append_assoc] at hown3
  go_wp2
  go_ret
  exact ⟨_, rfl, hown3, hb1.trans hb3⟩

set_option maxRecDepth 100000 in
set_option maxHeartbeats 800000 in
theorem put_text (s : ByteArray) : PutSaid (.text s) := by
  intro x fs w B bs sv h hv hfs hB ho hlen
  have hk := Lib.hid (kind_said h)
  simp only [VRep] at h
  obtain ⟨rfl, -, -⟩ := h
  obtain ⟨i0, hi0, hz0, hz1, hz2⟩ := info_parts Try.infoU8
  rw [encV] at hlen ⊢
  simp only [List.length_cons] at hlen
  have hone1 : sv.oneCell' = true := by obtain ⟨_, _, rfl, -⟩ := ownsRow_form ho; rfl
  have hsl : s.size ≤ (textB s).length := by unfold textB; rw [List.length_append]; have : s.data.toList.length = s.size := by simp
                                             omega
  go_enter Try.func149, Try.ntmps149
  go_wp2_with fail
  refine hk.out.mono ?_
  rintro e w1 ⟨rfl, rfl⟩
  go_wp2_with (first | (at_builtin; refine wpList_append_lies _ rfl _ _ 26 rfl B 5 i0 _ 1 1 Try.underlying26 hi0 hz0 hz1 hz2 rfl (by omega) _ bs.length (byteCells bs) rfl (ho.alloc _) ⟨w.heap.size, 0, none⟩ 1 1 [.int .u8 5] rfl rfl (World.news_of_block (cs := #[.int .u8 5]) (t := 5) (fr := (0, 0)) (heap_alloc_new w _)) (one_single rfl) (by omega) (by unfold maxLen; omega) (by omega) (by simp; omega) _ rfl ?_; intro g2 cap2 w2 hown2 hgr2 hat2 hlt2; have hp1 := put_row (Below.refl B w) hB ho (m := 5) (by decide) hgr2 hown2; have hr1 := hp1.1; have hb1 := hp1.2; have hsz1 := hb1.size; have hl1 : (bs ++ [UInt8.ofNat 5]).length = bs.length + 1 := List.length_append; clear hgr2 hat2 hlt2 hown2 hp1))
  have hnum := Lib.hid (text_said s B _ _ w2 (by omega) hr1 (by omega))
  clear hr1
  refine hnum.out.mono ?_
  rintro e w3 ⟨sv3, rfl, hown3, hb3⟩
  have hone3 : sv3.oneCell' = true := by obtain ⟨_, _, rfl, -⟩ := ownsRow_form hown3; rfl
  rw [List.append_assoc] at hown3
  go_wp2
  go_ret
  exact ⟨_, rfl, hown3, hb1.trans hb3⟩

set_option maxRecDepth 100000 in
set_option maxHeartbeats 800000 in
theorem put_ref (n : Int) : PutSaid (.ref n) := by
  intro x fs w B bs sv h hv hfs hB ho hlen
  have hk := Lib.hid (kind_said h)
  simp only [VRep] at h
  obtain ⟨rfl, hwf, -⟩ := h
  obtain ⟨i0, hi0, hz0, hz1, hz2⟩ := info_parts Try.infoU8
  rw [encV] at hlen ⊢
  simp only [List.length_cons] at hlen
  have hone1 : sv.oneCell' = true := by obtain ⟨_, _, rfl, -⟩ := ownsRow_form ho; rfl
  have hr : 0 ≤ n ∧ n ≤ 18446744073709551615 := by simpa [Lit.wf, IntKind.min, IntKind.max, IntKind.signed, IntKind.bits] using hwf
  obtain ⟨m, hm⟩ : ∃ m : Nat, n = (m : Int) := ⟨n.toNat, by omega⟩
  subst hm
  rw [Int.toNat_natCast] at hlen ⊢
  go_enter Try.func149, Try.ntmps149
  go_wp2_with fail
  refine hk.out.mono ?_
  rintro e w1 ⟨rfl, rfl⟩
  go_wp2_with (first | (at_builtin; refine wpList_append_lies _ rfl _ _ 26 rfl B 5 i0 _ 1 1 Try.underlying26 hi0 hz0 hz1 hz2 rfl (by omega) _ bs.length (byteCells bs) rfl (ho.alloc _) ⟨w.heap.size, 0, none⟩ 1 1 [.int .u8 7] rfl rfl (World.news_of_block (cs := #[.int .u8 7]) (t := 5) (fr := (0, 0)) (heap_alloc_new w _)) (one_single rfl) (by omega) (by unfold maxLen; omega) (by omega) (by simp; omega) _ rfl ?_; intro g2 cap2 w2 hown2 hgr2 hat2 hlt2; have hp1 := put_row (Below.refl B w) hB ho (m := 7) (by decide) hgr2 hown2; have hr1 := hp1.1; have hb1 := hp1.2; have hsz1 := hb1.size; have hl1 : (bs ++ [UInt8.ofNat 7]).length = bs.length + 1 := List.length_append; clear hgr2 hat2 hlt2 hown2 hp1))
  have hnum := Lib.hid (number_said m (by omega) B _ _ w2 (by omega) hr1 (by omega))
  clear hr1
  refine hnum.out.mono ?_
  rintro e w3 ⟨sv3, rfl, hown3, hb3⟩
  have hone3 : sv3.oneCell' = true := by obtain ⟨_, _, rfl, -⟩ := ownsRow_form hown3; rfl
  rw [List.append_assoc] at hown3
  go_wp2
  go_ret
  exact ⟨_, rfl, hown3, hb1.trans hb3⟩
theorem put_byte {B : Nat} {w w1 w2 : World} {o : Obj} {l l2 : List UInt8} {sv : Value} {g cap m : Nat} (hb : Below B w w1) (hB : B ≤ w1.heap.size) (hown : w1.ownsRow B 5 1 sv l.length (byteCells l)) (hm : m < 256) (hgr : (w1.alloc o).grownBy w2 sv.ownBlock)
    (h2 : w2.ownsRow B 5 1 (.slice (some ⟨g, 0, none⟩) (l.length + 1) cap) (l.length + 1) (byteCells l ++ [.int .u8 m])) (e : l2 = l ++ [UInt8.ofNat m]) : w2.ownsRow B 5 1 (.slice (some ⟨g, 0, none⟩) (l.length + 1) cap) l2.length (byteCells l2) ∧ Below B w w2 := by
  subst e; exact put_row hb hB hown hm hgr h2
theorem put_cat {B : Nat} {w w1 w2 : World} {l m : List UInt8} {sv v' : Value} (hb : Below B w w1) (hB : B ≤ w1.heap.size) (hown : w1.ownsRow B 5 1 sv l.length (byteCells l)) (hgr : w1.grownBy w2 sv.ownBlock)
    (h2 : w2.ownsRow B 5 1 v' (l.length + m.length) (byteCells l ++ byteCells m)) : w2.ownsRow B 5 1 v' (l ++ m).length (byteCells (l ++ m)) ∧ Below B w w2 := by
  refine ⟨?_, hb.grown hgr hB (fun k hk => (ownsRow_lt hown k (ownL_some.2 hk)).1)⟩
  rw [byteCells_append, List.length_append]
  exact h2

set_option maxRecDepth 100000 in
set_option maxHeartbeats 800000 in
theorem put_bytes (l : List UInt8) : PutSaid (.bytes l) := by
  intro x fs w B bs sv h hv hfs hB ho hlen
  have hk := Lib.hid (kind_said h)
  simp only [VRep] at h
  obtain ⟨xv, rfl, hx, rfl⟩ := h
  obtain ⟨a, cap, rfl, hcap, hmax, -, hform⟩ := ownsRow_form hx
  obtain ⟨i0, hi0, hz0, hz1, hz2⟩ := info_parts Try.infoU8
  rw [encV] at hlen ⊢
  simp only [List.length_cons] at hlen
  have hone1 : sv.oneCell' = true := by obtain ⟨_, _, rfl, -⟩ := ownsRow_form ho; rfl
  rw [List.length_append] at hlen
  have hwi : IntKind.u64.wrap (l.length : Int) = (l.length : Int) := by rw [IntKind.wrap_u64]; omega
  have hfsH := Lib.hid hfs
  clear hx hfs
  unfold maxLen at hmax
  have hten := numB_ten (n := l.length) (by omega)
  rcases hform with ⟨rfl, hl0, rfl⟩ | ⟨g, rfl, -, hg, hog, hcells⟩
  · obtain rfl : l = [] := List.eq_nil_of_length_eq_zero hl0
    go_enter Try.func149, Try.ntmps149
    go_wp2_with fail
    refine hk.out.mono ?_
    rintro e w1 ⟨rfl, rfl⟩
    go_wp2_with (first | (at_builtin; refine wpList_append_lies _ rfl _ _ 26 rfl B 5 i0 _ 1 1 Try.underlying26 hi0 hz0 hz1 hz2 rfl (by omega) _ bs.length (byteCells bs) rfl (ho.alloc _) ⟨w.heap.size, 0, none⟩ 1 1 [.int .u8 6] rfl rfl (World.news_of_block (cs := #[.int .u8 6]) (t := 5) (fr := (0, 0)) (heap_alloc_new w _)) (one_single rfl) (by omega) (by unfold maxLen; omega) (by omega) (by simp; omega) _ rfl ?_; intro g2 cap2 w2 hown2 hgr2 hat2 hlt2; have hp1 := put_row (Below.refl B w) hB ho (m := 6) (by decide) hgr2 hown2; have hr1 := hp1.1; have hb1 := hp1.2; have hsz1 := hb1.size; have hl1 : (bs ++ [UInt8.ofNat 6]).length = bs.length + 1 := List.length_append; clear hgr2 hat2 hlt2 hown2 hp1))
    have hnum := Lib.hid (number_said 0 (by simp) B _ _ w2 (by omega) hr1 (by omega))
    clear hr1
    refine hnum.out.mono ?_
    rintro e w3 ⟨sv3, rfl, hown3, hb3⟩
    have hone3 : sv3.oneCell' = true := by obtain ⟨_, _, rfl, -⟩ := ownsRow_form hown3; rfl
    have hsz3 := hb3.size
    have hl3 : (bs ++ [UInt8.ofNat 6] ++ numB 0).length = (bs ++ [UInt8.ofNat 6]).length + (numB 0).length := List.length_append
    go_wp2_with (at_builtin; refine wpList_append_own_none rfl _ _ 26 rfl B 5 i0 1 Try.underlying26 hi0 _ _ _ rfl hown3 rfl ?_)
    rw [List.append_assoc] at hown3
    go_ret
    exact ⟨_, rfl, by rw [List.append_nil]; exact hown3, hb1.trans hb3⟩
  · have hgB : g < B := hfsH.out g (by rw [hog]; exact List.mem_singleton.2 rfl)
    have hcl : ∀ W, Below B w W → ∀ j u, (byteCells l)[j]? = some u → W.cell? ((⟨g, 0, none⟩ : Addr).add j) = some u := by
      intro W hb j u hu
      have hj : j < l.length := by have := (List.getElem?_eq_some_iff.1 hu).1; simpa [byteCells] using this
      rw [Addr.add_mid, Nat.zero_add]
      exact (hb.cell (p := ⟨g, j, none⟩) hgB).trans ((hcells j (by omega)).trans hu)
    have hclH := Lib.hid hcl
    clear hcells hcl
    go_enter Try.func149, Try.ntmps149
    go_wp2_with fail
    refine hk.out.mono ?_
    rintro e w1 ⟨rfl, rfl⟩
    go_wp2_with (first | (at_builtin; refine wpList_append_lies _ rfl _ _ 26 rfl B 5 i0 _ 1 1 Try.underlying26 hi0 hz0 hz1 hz2 rfl (by omega) _ bs.length (byteCells bs) rfl (ho.alloc _) ⟨w.heap.size, 0, none⟩ 1 1 [.int .u8 6] rfl rfl (World.news_of_block (cs := #[.int .u8 6]) (t := 5) (fr := (0, 0)) (heap_alloc_new w _)) (one_single rfl) (by omega) (by unfold maxLen; omega) (by omega) (by simp; omega) _ rfl ?_; intro g2 cap2 w2 hown2 hgr2 hat2 hlt2; have hp1 := put_row (Below.refl B w) hB ho (m := 6) (by decide) hgr2 hown2; have hr1 := hp1.1; have hb1 := hp1.2; have hsz1 := hb1.size; have hl1 : (bs ++ [UInt8.ofNat 6]).length = bs.length + 1 := List.length_append; clear hgr2 hat2 hlt2 hown2 hp1))
    have hnum := Lib.hid (number_said l.length (by omega) B _ _ w2 (by omega) hr1 (by omega))
    clear hr1
    refine hnum.out.mono ?_
    rintro e w3 ⟨sv3, rfl, hown3, hb3⟩
    have hone3 : sv3.oneCell' = true := by obtain ⟨_, _, rfl, -⟩ := ownsRow_form hown3; rfl
    have hsz3 := hb3.size
    have hl3 : (bs ++ [UInt8.ofNat 6] ++ numB l.length).length = (bs ++ [UInt8.ofNat 6]).length + (numB l.length).length := List.length_append
    go_wp2_with (at_builtin; refine wpList_append_own _ rfl _ _ 26 rfl B 5 i0 _ 1 1 Try.underlying26 hi0 hz0 hz1 hz2 rfl (by omega) _ _ _ rfl hown3 ⟨g, 0, none⟩ l.length cap (byteCells l) rfl (by simp [byteCells]) ?c1 (byteCells_one l) (by unfold maxLen; omega) (by omega) (by omega) ?_; (case c1 => exact hclH.out _ (hb1.trans hb3)); intro v' w4 hown4 hgr4 _)
    have hp4 := put_cat (m := l) (hb1.trans hb3) (by omega) hown3 hgr4 hown4
    rw [List.append_assoc, List.append_assoc] at hp4
    go_ret
    exact ⟨_, rfl, hp4.1, hp4.2⟩

theorem bits_of_float (x : Nat) (W : World) : (callFunc 146 #[.float .f64 x]).run Try.prog W = .ok (.value (.int .u64 x)) W := by kernel_rfl

set_option maxRecDepth 100000 in
set_option maxHeartbeats 800000 in
theorem put_float (b : Nat) : PutSaid (.float b) := by
  intro x fs w B bs sv h hv hfs hB ho hlen
  have hk := Lib.hid (kind_said h)
  simp only [VRep] at h
  obtain ⟨rfl, hwf, -⟩ := h
  obtain ⟨i0, hi0, hz0, hz1, hz2⟩ := info_parts Try.infoU8
  rw [encV] at hlen ⊢
  simp only [List.length_cons] at hlen
  have hone1 : sv.oneCell' = true := by obtain ⟨_, _, rfl, -⟩ := ownsRow_form ho; rfl
  have hfb := fun W => bits_of_float b W
  have hbl : b < 18446744073709551616 := by simpa [Lit.wf] using hwf
  have h8 : ∀ j, ((f8 b).take j).length ≤ 8 := fun j => by rw [List.length_take]; simp [f8]; omega
  go_enter Try.func149, Try.ntmps149
  go_wp2_with fail
  refine hk.out.mono ?_
  rintro e w1 ⟨rfl, rfl⟩
  go_wp2_with (first | (at_builtin; refine wpList_append_lies _ rfl _ _ 26 rfl B 5 i0 _ 1 1 Try.underlying26 hi0 hz0 hz1 hz2 rfl (by omega) _ bs.length (byteCells bs) rfl (ho.alloc _) ⟨w.heap.size, 0, none⟩ 1 1 [.int .u8 4] rfl rfl (World.news_of_block (cs := #[.int .u8 4]) (t := 5) (fr := (0, 0)) (heap_alloc_new w _)) (one_single rfl) (by omega) (by unfold maxLen; omega) (by omega) (by simp; omega) _ rfl ?_; intro g2 cap2 w2 hown2 hgr2 hat2 hlt2; have hp1 := put_row (Below.refl B w) hB ho (m := 4) (by decide) hgr2 hown2; have hr1 := hp1.1; have hb1 := hp1.2; have hsz1 := hb1.size; have hl1 : (bs ++ [UInt8.ofNat 4]).length = bs.length + 1 := List.length_append; clear hgr2 hat2 hlt2 hown2 hp1))
  have hrH := Lib.hid hr1
  clear hr1
  go_loopw [0, 9] (fun sv i wr => ∃ (j : Nat) (z : Int), i = .int .i64 z ∧ ((z = 56 ∧ j = 0) ∨ (z = 48 ∧ j = 1) ∨ (z = 40 ∧ j = 2) ∨ (z = 32 ∧ j = 3) ∨ (z = 24 ∧ j = 4) ∨ (z = 16 ∧ j = 5) ∨ (z = 8 ∧ j = 6) ∨ (z = 0 ∧ j = 7) ∨ (z = -8 ∧ j = 8)) ∧ wr.ownsRow B 5 1 sv (bs ++ 4 :: (f8 b).take j).length (byteCells (bs ++ 4 :: (f8 b).take j)) ∧ Below B w wr) (fun _ i _ => (intOf i + 8).toNat)
  case atStart => exact ⟨0, 56, rfl, by omega, hrH.out, hb1⟩
  case round =>
    obtain ⟨j, z, rfl, hz, hown, hb⟩ := hrel
    have hsz := hb.size
    have hlj : (bs ++ 4 :: (f8 b).take j).length ≤ bs.length + 9 := by rw [List.length_append, List.length_cons]; have := h8 j; omega
    clear h8
    obtain ⟨L, hL⟩ : ∃ L, L = bs ++ 4 :: (f8 b).take j := ⟨_, rfl⟩
    rw [← hL] at hown hlj
    have hLH := Lib.hid hL
    clear hL
    rcases hz with ⟨rfl, rfl⟩ | ⟨rfl, rfl⟩ | ⟨rfl, rfl⟩ | ⟨rfl, rfl⟩ | ⟨rfl, rfl⟩ | ⟨rfl, rfl⟩ | ⟨rfl, rfl⟩ | ⟨rfl, rfl⟩ | ⟨rfl, rfl⟩
    · have hfl : (f8 b).take 1 = (f8 b).take 0 ++ [UInt8.ofNat (b / 72057594037927936)] := (by unfold f8; rw [Nat.mod_eq_of_lt (show b / 72057594037927936 < 256 by omega)]; rfl)
      go_wp2_with (at_builtin; refine wpList_append_lies _ rfl _ _ 26 rfl B 5 i0 _ 1 1 Try.underlying26 hi0 hz0 hz1 hz2 rfl (by omega) _ _ _ rfl (hown.alloc _) ⟨wr.heap.size, 0, none⟩ 1 1 [.int .u8 ((b / 72057594037927936 : Nat) : Int)] rfl rfl (World.news_of_block (cs := #[.int .u8 ((b / 72057594037927936 : Nat) : Int)]) (t := 5) (fr := (0, 0)) (heap_alloc_new wr _)) (one_single rfl) (by omega) (by unfold maxLen; omega) (by omega) (by simp; omega) _ rfl ?_; intro g2 cap2 w2 hown2 hgr2 hat2 hlt2)
      have hp := put_byte hb (by omega) hown (m := b / 72057594037927936) (by omega) hgr2 hown2 (l2 := bs ++ 4 :: (f8 b).take 1) (by rw [hLH.out, hfl]; simp)
      go_roundw
      case rel => exact ⟨1, 48, rfl, by omega, hp.1, hp.2⟩
      case measure => decide
    · have hfl : (f8 b).take 2 = (f8 b).take 1 ++ [UInt8.ofNat (b / 281474976710656 % 256)] := rfl
      go_wp2_with (at_builtin; refine wpList_append_lies _ rfl _ _ 26 rfl B 5 i0 _ 1 1 Try.underlying26 hi0 hz0 hz1 hz2 rfl (by omega) _ _ _ rfl (hown.alloc _) ⟨wr.heap.size, 0, none⟩ 1 1 [.int .u8 ((b / 281474976710656 % 256 : Nat) : Int)] rfl rfl (World.news_of_block (cs := #[.int .u8 ((b / 281474976710656 % 256 : Nat) : Int)]) (t := 5) (fr := (0, 0)) (heap_alloc_new wr _)) (one_single rfl) (by omega) (by unfold maxLen; omega) (by omega) (by simp; omega) _ rfl ?_; intro g2 cap2 w2 hown2 hgr2 hat2 hlt2)
      have hp := put_byte hb (by omega) hown (m := b / 281474976710656 % 256) (Nat.mod_lt _ (by decide)) hgr2 hown2 (l2 := bs ++ 4 :: (f8 b).take 2) (by rw [hLH.out, hfl]; simp)
      go_roundw
      case rel => exact ⟨2, 40, rfl, by omega, hp.1, hp.2⟩
      case measure => decide
    · have hfl : (f8 b).take 3 = (f8 b).take 2 ++ [UInt8.ofNat (b / 1099511627776 % 256)] := rfl
      go_wp2_with (at_builtin; refine wpList_append_lies _ rfl _ _ 26 rfl B 5 i0 _ 1 1 Try.underlying26 hi0 hz0 hz1 hz2 rfl (by omega) _ _ _ rfl (hown.alloc _) ⟨wr.heap.size, 0, none⟩ 1 1 [.int .u8 ((b / 1099511627776 % 256 : Nat) : Int)] rfl rfl (World.news_of_block (cs := #[.int .u8 ((b / 1099511627776 % 256 : Nat) : Int)]) (t := 5) (fr := (0, 0)) (heap_alloc_new wr _)) (one_single rfl) (by omega) (by unfold maxLen; omega) (by omega) (by simp; omega) _ rfl ?_; intro g2 cap2 w2 hown2 hgr2 hat2 hlt2)
      have hp := put_byte hb (by omega) hown (m := b / 1099511627776 % 256) (Nat.mod_lt _ (by decide)) hgr2 hown2 (l2 := bs ++ 4 :: (f8 b).take 3) (by rw [hLH.out, hfl]; simp)
      go_roundw
      case rel => exact ⟨3, 32, rfl, by omega, hp.1, hp.2⟩
      case measure => decide
    · have hfl : (f8 b).take 4 = (f8 b).take 3 ++ [UInt8.ofNat (b / 4294967296 % 256)] := rfl
      go_wp2_with (at_builtin; refine wpList_append_lies _ rfl _ _ 26 rfl B 5 i0 _ 1 1 Try.underlying26 hi0 hz0 hz1 hz2 rfl (by omega) _ _ _ rfl (hown.alloc _) ⟨wr.heap.size, 0, none⟩ 1 1 [.int .u8 ((b / 4294967296 % 256 : Nat) : Int)] rfl rfl (World.news_of_block (cs := #[.int .u8 ((b / 4294967296 % 256 : Nat) : Int)]) (t := 5) (fr := (0, 0)) (heap_alloc_new wr _)) (one_single rfl) (by omega) (by unfold maxLen; omega) (by omega) (by simp; omega) _ rfl ?_; intro g2 cap2 w2 hown2 hgr2 hat2 hlt2)
      have hp := put_byte hb (by omega) hown (m := b / 4294967296 % 256) (Nat.mod_lt _ (by decide)) hgr2 hown2 (l2 := bs ++ 4 :: (f8 b).take 4) (by rw [hLH.out, hfl]; simp)
      go_roundw
      case rel => exact ⟨4, 24, rfl, by omega, hp.1, hp.2⟩
      case measure => decide
    · have hfl : (f8 b).take 5 = (f8 b).take 4 ++ [UInt8.ofNat (b / 16777216 % 256)] := rfl
      go_wp2_with (at_builtin; refine wpList_append_lies _ rfl _ _ 26 rfl B 5 i0 _ 1 1 Try.underlying26 hi0 hz0 hz1 hz2 rfl (by omega) _ _ _ rfl (hown.alloc _) ⟨wr.heap.size, 0, none⟩ 1 1 [.int .u8 ((b / 16777216 % 256 : Nat) : Int)] rfl rfl (World.news_of_block (cs := #[.int .u8 ((b / 16777216 % 256 : Nat) : Int)]) (t := 5) (fr := (0, 0)) (heap_alloc_new wr _)) (one_single rfl) (by omega) (by unfold maxLen; omega) (by omega) (by simp; omega) _ rfl ?_; intro g2 cap2 w2 hown2 hgr2 hat2 hlt2)
      have hp := put_byte hb (by omega) hown (m := b / 16777216 % 256) (Nat.mod_lt _ (by decide)) hgr2 hown2 (l2 := bs ++ 4 :: (f8 b).take 5) (by rw [hLH.out, hfl]; simp)
      go_roundw
      case rel => exact ⟨5, 16, rfl, by omega, hp.1, hp.2⟩
      case measure => decide
    · have hfl : (f8 b).take 6 = (f8 b).take 5 ++ [UInt8.ofNat (b / 65536 % 256)] := rfl
      go_wp2_with (at_builtin; refine wpList_append_lies _ rfl _ _ 26 rfl B 5 i0 _ 1 1 Try.underlying26 hi0 hz0 hz1 hz2 rfl (by omega) _ _ _ rfl (hown.alloc _) ⟨wr.heap.size, 0, none⟩ 1 1 [.int .u8 ((b / 65536 % 256 : Nat) : Int)] rfl rfl (World.news_of_block (cs := #[.int .u8 ((b / 65536 % 256 : Nat) : Int)]) (t := 5) (fr := (0, 0)) (heap_alloc_new wr _)) (one_single rfl) (by omega) (by unfold maxLen; omega) (by omega) (by simp; omega) _ rfl ?_; intro g2 cap2 w2 hown2 hgr2 hat2 hlt2)
      have hp := put_byte hb (by omega) hown (m := b / 65536 % 256) (Nat.mod_lt _ (by decide)) hgr2 hown2 (l2 := bs ++ 4 :: (f8 b).take 6) (by rw [hLH.out, hfl]; simp)
      go_roundw
      case rel => exact ⟨6, 8, rfl, by omega, hp.1, hp.2⟩
      case measure => decide
    · have hfl : (f8 b).take 7 = (f8 b).take 6 ++ [UInt8.ofNat (b / 256 % 256)] := rfl
      go_wp2_with (at_builtin; refine wpList_append_lies _ rfl _ _ 26 rfl B 5 i0 _ 1 1 Try.underlying26 hi0 hz0 hz1 hz2 rfl (by omega) _ _ _ rfl (hown.alloc _) ⟨wr.heap.size, 0, none⟩ 1 1 [.int .u8 ((b / 256 % 256 : Nat) : Int)] rfl rfl (World.news_of_block (cs := #[.int .u8 ((b / 256 % 256 : Nat) : Int)]) (t := 5) (fr := (0, 0)) (heap_alloc_new wr _)) (one_single rfl) (by omega) (by unfold maxLen; omega) (by omega) (by simp; omega) _ rfl ?_; intro g2 cap2 w2 hown2 hgr2 hat2 hlt2)
      have hp := put_byte hb (by omega) hown (m := b / 256 % 256) (Nat.mod_lt _ (by decide)) hgr2 hown2 (l2 := bs ++ 4 :: (f8 b).take 7) (by rw [hLH.out, hfl]; simp)
      go_roundw
      case rel => exact ⟨7, 0, rfl, by omega, hp.1, hp.2⟩
      case measure => decide
    · have hfl : (f8 b).take 8 = (f8 b).take 7 ++ [UInt8.ofNat (b % 256)] := rfl
      go_wp2_with (at_builtin; refine wpList_append_lies _ rfl _ _ 26 rfl B 5 i0 _ 1 1 Try.underlying26 hi0 hz0 hz1 hz2 rfl (by omega) _ _ _ rfl (hown.alloc _) ⟨wr.heap.size, 0, none⟩ 1 1 [.int .u8 ((b % 256 : Nat) : Int)] rfl rfl (World.news_of_block (cs := #[.int .u8 ((b % 256 : Nat) : Int)]) (t := 5) (fr := (0, 0)) (heap_alloc_new wr _)) (one_single rfl) (by omega) (by unfold maxLen; omega) (by omega) (by simp; omega) _ rfl ?_; intro g2 cap2 w2 hown2 hgr2 hat2 hlt2)
      have hp := put_byte hb (by omega) hown (m := b % 256) (Nat.mod_lt _ (by decide)) hgr2 hown2 (l2 := bs ++ 4 :: (f8 b).take 8) (by rw [hLH.out, hfl]; simp)
      go_roundw
      case rel => exact ⟨8, -8, rfl, by omega, hp.1, hp.2⟩
      case measure => decide
    · have hall : (f8 b).take 8 = f8 b := rfl
      rw [hLH.out, hall] at hown
      go_wp2
      go_ret
      exact ⟨_, rfl, hown, hb⟩

end Go.Proofs.Ytgmdbpplfjkjmaa
