/- digest.Sum of any value. -/
import Derived.Test.YtgmdbpplfjkjmaaDigEnc
namespace Go.Proofs.Ytgmdbpplfjkjmaa
open Go.RowKit
set_option linter.unusedVariables false
set_option linter.unusedSimpArgs false

/-- The sum's step. -/
def fnvS (h : Nat) (c : UInt8) : Nat := (h ^^^ c.toNat) * 1099511628211 % 18446744073709551616
def fnvB (l : List UInt8) : Nat := l.foldl fnvS 14695981039346656037
theorem fnvS_lt (h : Nat) (c : UInt8) : fnvS h c < 18446744073709551616 := Nat.mod_lt _ (by decide)
theorem fnv_step (H : Nat) (hH : H < 18446744073709551616) (c : UInt8) : IntKind.u64.wrap (bits .xor .u64 (H : Int) (c.toNat : Int) * 1099511628211) = ((fnvS H c : Nat) : Int) := by
  rw [bits_xor_u64_nat _ _ hH (Nat.lt_trans c.toNat_lt (by decide)), IntKind.wrap_u64]
  unfold fnvS
  omega
theorem byteCells_at {l : List UInt8} {k : Nat} {c : UInt8} (h : l[k]? = some c) : (byteCells l)[k]? = some (.int .u8 c.toNat) := by simp [byteCells, h]
theorem fold_drop {l : List UInt8} {k : Nat} {c : UInt8} (h : l[k]? = some c) (H : Nat) : (l.drop k).foldl fnvS H = (l.drop (k + 1)).foldl fnvS (fnvS H c) := by
  have hk := (List.getElem?_eq_some_iff.1 h).1
  have e := (List.getElem?_eq_some_iff.1 h).2
  rw [List.drop_eq_getElem_cons hk, e, List.foldl_cons]
set_option maxRecDepth 100000 in
set_option maxHeartbeats 800000 in
theorem sum_ok {w : World} {v : Val} {x : Value} {fs : List Nat} (h : VRep w v x fs) (hn : numsV v) (hok : okB v = true) : Calls Try.prog 28 #[x] w fun e w' => e = .returned (.tuple #[.int .u64 (fnvB (encV v)), .int .i64 0]) ∧ Below w.heap.size w w' := by
  have henc := Lib.hid (encode_ok h hn hok)
  have hsm := enc_small hn hok
  have hx := h.one
  clear h hok hn
  generalize encV v = l at *
  go_enter Try.func28, Try.ntmps28
  go_wp2_with fail
  refine henc.out.mono ?_
  rintro e w1 ⟨sv, rfl, hown, hb1⟩
  obtain ⟨a, cap, rfl, hcap, hmax, -, hform⟩ := ownsRow_form hown
  have hformH := Lib.hid hform
  clear hown hform
  go_wp2_with fail
  go_loop [6, 19] (fun hv i => ∃ (k H : Nat), k ≤ l.length ∧ i = .int .i64 k ∧ hv = .int .u64 H ∧ H < 18446744073709551616 ∧ (l.drop k).foldl fnvS H = fnvB l) (fun _ i => l.length - (intOf i).toNat)
  case atStart => exact ⟨0, 14695981039346656037, Nat.zero_le _, rfl, rfl, by decide, by rw [List.drop_zero]; rfl⟩
  case round =>
    obtain ⟨k, H, hk, rfl, rfl, hH, heq⟩ := hrel
    by_cases hlt : k < l.length
    · rcases hformH.out with ⟨-, h0, -⟩ | ⟨g, rfl, -, -, -, hc⟩
      · omega
      obtain ⟨c, hcc⟩ : ∃ c, l[k]? = some c := ⟨_, List.getElem?_eq_getElem hlt⟩
      have hcell := (hc k (by omega)).trans (byteCells_at hcc)
      have hst := fnv_step H hH c
      have hcu : IntKind.u64.wrap (c.toNat : Int) = (c.toNat : Int) := by have := c.toNat_lt; rw [IntKind.wrap_u64]; omega
      have hheq := Lib.hid ((fold_drop hcc H).symm.trans heq)
      clear hc heq hcc
      go_wp2
      go_round
      case rel => exact ⟨k + 1, fnvS H c, by omega, by go_num, by first | rfl | rw [← hst] | rw [hcu, hst] | rw [hst], fnvS_lt H c, hheq.out⟩
      case measure => simp [intOf]; omega
    · obtain rfl : k = l.length := by omega
      rw [List.drop_length] at heq
      obtain rfl : H = fnvB l := heq
      go_wp2
      go_ret2
      exact ⟨rfl, hb1⟩
set_option maxRecDepth 100000 in
theorem sum_bad {w : World} {v : Val} {x : Value} {fs : List Nat} (h : VRep w v x fs) (hok : okB v = false) : Calls Try.prog 28 #[x] w fun e w' => e = .returned (.tuple #[.int .u64 0, .int .i64 (whyF v)]) ∧ Below w.heap.size w w' := by
  have henc := Lib.hid (encode_bad h hok)
  have hne : (whyF v != 0) = true := by simpa using why_bad hok
  have hx := h.one
  clear h hok
  generalize whyF v = y at *
  go_enter Try.func28, Try.ntmps28
  go_wp2_with fail
  refine henc.out.mono ?_
  rintro e w1 ⟨rfl, hb1⟩
  go_wp2
  go_ret2
  exact ⟨rfl, hb1⟩
end Go.Proofs.Ytgmdbpplfjkjmaa
