/- value.cmp, truth, place; slices.Compare at bytes; the order of values of no parts. -/
import Derived.Test.YtgmdbpplfjkjmaaCmpEq
import Derived.Test.YtgmdbpplfjkjmaaWirePut
namespace Go.Proofs.Ytgmdbpplfjkjmaa
open Go.RowKit
set_option linter.unusedVariables false
set_option linter.unusedSimpArgs false

theorem vcmp_int (x y : Int) (w : World) : Calls Try.prog 226 #[.int .i64 x, .int .i64 y] w fun e w' => e = .returned (.int .i64 (cmpI x y)) ∧ w = w' := by
  unfold cmpI
  by_cases h1 : x < y
  · rw [if_pos h1]
    go_enter Try.func226, Try.ntmps226
    go_wp2
    go_ret
    exact ⟨rfl, rfl⟩
  · rw [if_neg h1]
    by_cases h2 : y < x
    · rw [if_pos h2]
      go_enter Try.func226, Try.ntmps226
      go_wp2
      go_ret
      exact ⟨rfl, rfl⟩
    · rw [if_neg h2]
      go_enter Try.func226, Try.ntmps226
      go_wp2
      go_ret
      exact ⟨rfl, rfl⟩
theorem vcmp_int64 (x y : Int) (w : World) : Calls Try.prog 229 #[.int .i64 x, .int .i64 y] w fun e w' => e = .returned (.int .i64 (cmpI x y)) ∧ w = w' := by
  unfold cmpI
  by_cases h1 : x < y
  · rw [if_pos h1]
    go_enter Try.func229, Try.ntmps229
    go_wp2
    go_ret
    exact ⟨rfl, rfl⟩
  · rw [if_neg h1]
    by_cases h2 : y < x
    · rw [if_pos h2]
      go_enter Try.func229, Try.ntmps229
      go_wp2
      go_ret
      exact ⟨rfl, rfl⟩
    · rw [if_neg h2]
      go_enter Try.func229, Try.ntmps229
      go_wp2
      go_ret
      exact ⟨rfl, rfl⟩
theorem vcmp_uint64 (x y : Int) (w : World) : Calls Try.prog 230 #[.int .u64 x, .int .u64 y] w fun e w' => e = .returned (.int .i64 (cmpI x y)) ∧ w = w' := by
  unfold cmpI
  by_cases h1 : x < y
  · rw [if_pos h1]
    go_enter Try.func230, Try.ntmps230
    go_wp2
    go_ret
    exact ⟨rfl, rfl⟩
  · rw [if_neg h1]
    by_cases h2 : y < x
    · rw [if_pos h2]
      go_enter Try.func230, Try.ntmps230
      go_wp2
      go_ret
      exact ⟨rfl, rfl⟩
    · rw [if_neg h2]
      go_enter Try.func230, Try.ntmps230
      go_wp2
      go_ret
      exact ⟨rfl, rfl⟩
theorem vcmp_ref (x y : Int) (w : World) : Calls Try.prog 234 #[.int .u64 x, .int .u64 y] w fun e w' => e = .returned (.int .i64 (cmpI x y)) ∧ w = w' := by
  unfold cmpI
  by_cases h1 : x < y
  · rw [if_pos h1]
    go_enter Try.func234, Try.ntmps234
    go_wp2
    go_ret
    exact ⟨rfl, rfl⟩
  · rw [if_neg h1]
    by_cases h2 : y < x
    · rw [if_pos h2]
      go_enter Try.func234, Try.ntmps234
      go_wp2
      go_ret
      exact ⟨rfl, rfl⟩
    · rw [if_neg h2]
      go_enter Try.func234, Try.ntmps234
      go_wp2
      go_ret
      exact ⟨rfl, rfl⟩
theorem vcmp_string (s q : ByteArray) (w : World) : Calls Try.prog 232 #[.string s, .string q] w fun e w' => e = .returned (.int .i64 (lexN (ordT s.data.toList) (ordT q.data.toList))) ∧ w = w' := by
  rw [lex_text, ← toList_data, ← toList_data]
  obtain ⟨c, hc⟩ : ∃ c : Int, c = (if Op.bytesLess s.toList q.toList = true then -1 else if Op.bytesLess q.toList s.toList = true then 1 else 0) := ⟨_, rfl⟩
  rw [← hc]
  have hcH := Lib.hid hc
  clear hc
  go_enter Try.func232, Try.ntmps232
  go_wp2
  all_goals go_ret
  all_goals refine ⟨?_, rfl⟩
  all_goals rw [hcH.out]
  all_goals first
    | (simp_all; done)
    | (have hx : Op.bytesLess q.toList s.toList = true := Decidable.byContradiction fun hx => by
         have e := less_total s.toList q.toList (by simp_all) (by simpa using hx)
         simp_all
       simp_all; done)
theorem truth_said (b : Bool) (w : World) : Calls Try.prog 228 #[.bool b] w fun e w' => e = .returned (.int .i64 (bif b then 1 else 0)) ∧ w = w' := by
  cases b
  all_goals
    go_enter Try.func228, Try.ntmps228
    go_wp2
    go_ret
    exact ⟨rfl, rfl⟩
set_option maxRecDepth 100000 in
theorem vplace_said (x : Nat) (hx : x < 18446744073709551616) (w : World) : Calls Try.prog 231 #[.float .f64 x] w fun e w' => e = .returned (.int .u64 (placeN x)) ∧ w = w' := by
  have hfb := fun W => bits_of_float x W
  by_cases h : 9223372036854775808 ≤ x
  · have hi : (9223372036854775808 : Int) ≤ (x : Int) := by omega
    have hp : ((placeN x : Nat) : Int) = 18446744073709551615 - (x : Int) := by unfold placeN; rw [if_pos h]; omega
    have hs : (x : Int) / 9223372036854775808 = 1 := by omega
    rw [hp]
    go_enter Try.func231, Try.ntmps231
    go_wp2
    go_ret
    refine ⟨?_, rfl⟩
    have hm : IntKind.u64.max = ((18446744073709551615 : Nat) : Int) := rfl
    show Ending.returned (.int .u64 (bits .xor .u64 IntKind.u64.max (x : Int))) = _
    rw [hm, bits_xor_u64_nat _ _ (by decide) hx, Nat.xor_comm, xor_ones _ hx]
    exact ret_int (by omega)
  · have hi : ¬ (9223372036854775808 : Int) ≤ (x : Int) := by omega
    have hp : ((placeN x : Nat) : Int) = (x : Int) + 9223372036854775808 := by unfold placeN; rw [if_neg h]; omega
    have hs : (x : Int) / 9223372036854775808 = 0 := by omega
    rw [hp]
    go_enter Try.func231, Try.ntmps231
    go_wp2
    go_ret
    refine ⟨?_, rfl⟩
    show Ending.returned (.int .u64 (bits .or .u64 (x : Int) ((9223372036854775808 : Nat) : Int))) = _
    rw [bits_or_u64_nat _ _ hx (by decide), Nat.or_comm, show (9223372036854775808 : Nat) = 2 ^ 63 * 1 from rfl, ← Nat.two_pow_add_eq_or_of_lt (by omega)]
    exact ret_int (by omega)
theorem nan_byte (x : Int) (w : World) : Calls Try.prog 269 #[.int .u8 x] w fun e w' => e = .returned (.bool false) ∧ w = w' := by
  go_enter Try.func269, Try.ntmps269
  go_wp2
  go_ret
  exact ⟨by simp, rfl⟩
theorem cmp_byte (x y : Int) (w : World) : Calls Try.prog 262 #[.int .u8 x, .int .u8 y] w fun e w' => e = .returned (.int .i64 (cmpI x y)) ∧ w = w' := by
  unfold cmpI
  by_cases h1 : x < y
  · rw [if_pos h1]
    go_enter Try.func262, Try.ntmps262
    go_wp2_with (go_at_call 269; refine (nan_byte _ _).mono ?_; rintro e w' ⟨rfl, rfl⟩)
    go_ret
    exact ⟨rfl, rfl⟩
  · rw [if_neg h1]
    by_cases h2 : y < x
    · rw [if_pos h2]
      go_enter Try.func262, Try.ntmps262
      go_wp2_with (go_at_call 269; refine (nan_byte _ _).mono ?_; rintro e w' ⟨rfl, rfl⟩)
      go_ret
      exact ⟨rfl, rfl⟩
    · rw [if_neg h2]
      go_enter Try.func262, Try.ntmps262
      go_wp2_with (go_at_call 269; refine (nan_byte _ _).mono ?_; rintro e w' ⟨rfl, rfl⟩)
      go_ret
      exact ⟨rfl, rfl⟩
theorem ordT_step {l m : List UInt8} {k : Nat} {a b : UInt8} (h : l[k]? = some a) (h' : m[k]? = some b) : lexN (ordT (l.drop k)) (ordT (m.drop k)) = if cmpI a.toNat b.toNat = 0 then lexN (ordT (l.drop (k + 1))) (ordT (m.drop (k + 1))) else cmpI a.toNat b.toNat := by
  obtain ⟨hk, rfl⟩ := List.getElem?_eq_some_iff.1 h
  obtain ⟨hk', rfl⟩ := List.getElem?_eq_some_iff.1 h'
  rw [List.drop_eq_getElem_cons hk, List.drop_eq_getElem_cons hk']
  simp only [ordT, List.map_cons, List.cons_append]
  by_cases e : l[k].toNat = m[k].toNat
  · rw [e, lex_same, if_pos (by unfold cmpI; rw [if_neg (by omega), if_neg (by omega)])]
  · rw [lex_head _ _ (by omega), if_neg (fun h0 => e (by have := cmpI_zero h0; omega)), cmpI_congr (a := (l[k].toNat : Int)) (b := (m[k].toNat : Int)) (by omega) (by omega)]
theorem ordT_end {l m : List UInt8} {k : Nat} (h : k = l.length ∨ k = m.length) (hl : k ≤ l.length) (hm : k ≤ m.length) : lexN (ordT (l.drop k)) (ordT (m.drop k)) = cmpI l.length m.length := by
  rcases Nat.lt_trichotomy l.length m.length with c | c | c
  · obtain rfl : k = l.length := by omega
    rw [List.drop_length, List.drop_eq_getElem_cons c]
    unfold cmpI
    rw [if_pos (by omega)]
    simp only [ordT, List.map_cons, List.map_nil, List.cons_append, List.nil_append]
    rw [lexN_cons, if_pos (by omega)]
  · rw [List.drop_eq_nil_of_le (by omega), List.drop_eq_nil_of_le (by omega), lexN_self]
    unfold cmpI
    rw [if_neg (by omega), if_neg (by omega)]
  · obtain rfl : k = m.length := by omega
    rw [List.drop_length, List.drop_eq_getElem_cons c]
    unfold cmpI
    rw [if_neg (by omega), if_pos (by omega)]
    simp only [ordT, List.map_cons, List.map_nil, List.cons_append, List.nil_append]
    rw [lexN_cons, if_neg (by omega), if_pos (by omega)]
theorem cmpI_lens {n m : Nat} {k : Nat} (h : k = n) (hm : n < m) : cmpI n m = -1 := by unfold cmpI; rw [if_pos (by omega)]
set_option maxRecDepth 100000 in
set_option maxHeartbeats 1600000 in
theorem compare_bytes (l m : List UInt8) (x y : Value) (w : World) (hx : w.ownsRow 0 5 1 x l.length (byteCells l)) (hy : w.ownsRow 0 5 1 y m.length (byteCells m)) :
    Calls Try.prog 233 #[x, y] w fun e w' => e = .returned (.int .i64 (lexN (ordT l) (ordT m))) ∧ w = w' := by
  obtain ⟨a, cap, rfl, hcap, hmax, -, hform⟩ := ownsRow_form hx
  obtain ⟨a', cap', rfl, hcap', hmax', -, hform'⟩ := ownsRow_form hy
  unfold maxLen at hmax hmax'
  have hf := Lib.hid hform
  have hf' := Lib.hid hform'
  obtain ⟨R, hR⟩ : ∃ R : Int, R = lexN (ordT l) (ordT m) := ⟨_, rfl⟩
  rw [← hR]
  have hRH := Lib.hid hR.symm
  clear hR hx hy hform hform'
  go_enter Try.func233, Try.ntmps233
  go_wp2_with fail
  go_loop [11] (fun i => ∃ k : Nat, k ≤ l.length ∧ k ≤ m.length ∧ i = .int .i64 k ∧ lexN (ordT (l.drop k)) (ordT (m.drop k)) = R) (fun i => l.length - (intOf i).toNat)
  case atStart => exact ⟨0, Nat.zero_le _, Nat.zero_le _, rfl, hRH.out⟩
  case round =>
    obtain ⟨k, hk, hk', rfl, hkR⟩ := hrel
    have hkH := Lib.hid hkR
    clear hkR
    by_cases h1 : k < l.length
    · have l1 : (k : Int) < (l.length : Int) := by omega
      rcases hf.out with ⟨-, h0', -⟩ | ⟨g, rfl, -, hg, -, hcells⟩
      · omega
      obtain ⟨c, hc⟩ : ∃ c, l[k]? = some c := ⟨_, List.getElem?_eq_getElem h1⟩
      have hc1 : w.cell? ⟨g, k, none⟩ = some (.int .u8 c.toNat) := (hcells k (by omega)).trans (by simp [byteCells, hc])
      by_cases h2 : k < m.length
      · have l2 : ¬ (m.length : Int) ≤ (k : Int) := by omega
        rcases hf'.out with ⟨-, h0', -⟩ | ⟨g', rfl, -, hg', -, hcells'⟩
        · omega
        obtain ⟨d, hd⟩ : ∃ d, m[k]? = some d := ⟨_, List.getElem?_eq_getElem h2⟩
        have hd1 : w.cell? ⟨g', k, none⟩ = some (.int .u8 d.toNat) := (hcells' k (by omega)).trans (by simp [byteCells, hd])
        have hst := Lib.hid (hkH.out.symm.trans (ordT_step hc hd))
        obtain ⟨r, hr⟩ : ∃ r : Int, r = cmpI c.toNat d.toNat := ⟨_, rfl⟩
        have hcmp0 := fun W => cmp_byte c.toNat d.toNat W
        rw [← hr] at hst hcmp0
        have hcmp := Lib.hid hcmp0
        clear hcmp0 hr hc hd hcells hcells'
        by_cases hr0 : r = 0
        · subst hr0
          have hnext := Lib.hid hst.out.symm
          rw [if_pos rfl] at hnext
          go_wp2_with (go_at_call 262; refine (hcmp.out _).mono ?_; rintro e w' ⟨rfl, rfl⟩)
          go_round
          case rel => exact ⟨k + 1, by omega, by omega, by go_num, hnext.out⟩
          case measure => simp [intOf]; omega
        · have hrb : (r != 0) = true := by simpa using hr0
          have hne := Lib.hid hst.out
          rw [if_neg hr0] at hne
          clear hr0
          go_wp2_with (go_at_call 262; refine (hcmp.out _).mono ?_; rintro e w' ⟨rfl, rfl⟩)
          go_ret
          exact ⟨ret_int hne.out.symm, rfl⟩
      · have hend := Lib.hid (hkH.out.symm.trans (ordT_end (by omega) (by omega) (by omega)))
        have l2 : (m.length : Int) ≤ (k : Int) := by omega
        clear hc hcells
        go_wp2_with fail
        go_ret
        exact ⟨ret_int (by rw [hend.out]; unfold cmpI; rw [if_neg (by omega), if_pos (by omega)]), rfl⟩
    · have hend := Lib.hid (hkH.out.symm.trans (ordT_end (by omega) (by omega) (by omega)))
      have l1 : ¬ (k : Int) < (l.length : Int) := by omega
      by_cases h2 : l.length < m.length
      · have l2 : (l.length : Int) < (m.length : Int) := by omega
        go_wp2_with fail
        go_ret
        exact ⟨ret_int (by rw [hend.out]; unfold cmpI; rw [if_pos (by omega)]), rfl⟩
      · have l2 : ¬ (l.length : Int) < (m.length : Int) := by omega
        go_wp2_with fail
        go_ret
        exact ⟨ret_int (by rw [hend.out]; unfold cmpI; rw [if_neg (by omega), if_neg (by omega)]), rfl⟩
end Go.Proofs.Ytgmdbpplfjkjmaa
