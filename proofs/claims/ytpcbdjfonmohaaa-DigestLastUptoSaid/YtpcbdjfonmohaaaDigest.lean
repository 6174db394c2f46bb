/- wire.Encode, digest.Key, digest.Sum; tenonref03.Encode, tenonref05.Sum. -/
import Derived.Test.YtpcbdjfonmohaaaEncLen
import Derived.Test.YtpcbdjfonmohaaaRefBytesL
namespace Go.Proofs.Ytpcbdjfonmohaaa
open Go.RowKit
set_option linter.unusedVariables false
set_option linter.unusedSimpArgs false

theorem enc_small {v : Val} (hn : numsV v) (h : okB v = true) : (encV v).length ≤ 1099511627776 := by
  have h1 := enc_len v hn 1 ⟨0, 0, 0⟩ (by decide) (by decide) h
  have h2 := partF_n v 1 ⟨0, 0, 0⟩ (by decide) (by decide)
  have h3 : ((encV v).length : Int) + 42 ≤ 70000 * ((partF v 1 ⟨0, 0, 0⟩).2.n - 0) := h1
  omega
theorem conv_own {w : World} {B : Nat} {v : Value} {bs : List UInt8} (h : w.ownsRow B 5 1 v bs.length (byteCells bs)) : (convert 28 9 v).run Try.prog w = .ok (.string ⟨bs.toArray⟩) w := by
  obtain ⟨oa, cap, rfl, hcap, hmax, -, hf⟩ := ownsRow_form h
  rcases hf with ⟨rfl, h0, rfl⟩ | ⟨g, rfl, -, -, -, hc⟩
  · obtain rfl : bs = [] := List.eq_nil_of_length_eq_zero h0
    exact run_convert_bytes_zero w _ _ Try.underlying28 Try.underlying5 none 0 _ Try.underlying9
  · refine run_convert_bytes_back w _ _ _ ⟨g, 0, none⟩ cap bs Try.underlying28 Try.underlying5 Try.underlying9 ?_
    intro i hi
    have := hc i (by omega)
    rw [Addr.add_mid, Nat.zero_add, this]
    simp [byteCells, List.getElem?_eq_getElem hi]
/-- What Encode answers. -/
def EncOk (l : List UInt8) (w : World) (e : Ending) (w' : World) : Prop := ∃ sv, e = .returned (.tuple #[sv, .int .i64 0]) ∧ w'.ownsRow w.heap.size 5 1 sv l.length (byteCells l) ∧ Below w.heap.size w w'
def EncBad (y : Int) (w : World) (e : Ending) (w' : World) : Prop := e = .returned (.tuple #[.slice none 0 0, .int .i64 y]) ∧ Below w.heap.size w w'
set_option maxRecDepth 100000 in
theorem encode_ok {w : World} {v : Val} {x : Value} {fs : List Nat} (h : VRep w v x fs) (hn : numsV v) (hok : okB v = true) : Calls Try.prog 98 #[x] w (EncOk (encV v) w) := by
  have hlt := VRep.lt v x fs h
  have hck := Check_any h
  have hx := h.one
  rw [check_ok hok] at hck
  have hckH := Lib.hid hck
  have hput := Lib.hid (fun W (hb : Below w.heap.size w W) => put_any v x fs W w.heap.size [] (.slice none 0 0) (VRep.keep _ _ _ h (fun b hm => hb.block b (hlt b hm))) (okV_check hok) hlt hb.size ⟨rfl, .inl ⟨rfl, rfl⟩⟩ (by have := enc_small hn hok; simpa using this))
  clear h hck hlt hok hn
  go_enter Try.func98, Try.ntmps98
  go_wp2_with fail
  refine hckH.out.mono ?_
  rintro e w1 ⟨rfl, hb1⟩
  go_wp2_with fail
  refine (hput.out _ hb1).mono ?_
  rintro e w2 ⟨sv, rfl, hown, hb2⟩
  have hone : sv.oneCell' = true := by obtain ⟨_, _, rfl, -⟩ := ownsRow_form hown; rfl
  have hownH := Lib.hid hown
  clear hown
  go_wp2
  go_ret2
  exact ⟨_, rfl, hownH.out, hb1.trans hb2⟩
set_option maxRecDepth 100000 in
theorem encode_bad {w : World} {v : Val} {x : Value} {fs : List Nat} (h : VRep w v x fs) (hok : okB v = false) : Calls Try.prog 98 #[x] w (EncBad (whyF v) w) := by
  have hck := Check_any h
  have hx := h.one
  have hne : ¬ (checkF v).2 = 0 := why_bad hok
  have hckH := Lib.hid hck
  unfold whyF
  generalize checkF v = cf at *
  obtain ⟨a, y⟩ := cf
  have hy : (y != 0) = true := by simpa using hne
  clear h hck hok hne
  go_enter Try.func98, Try.ntmps98
  go_wp2_with fail
  refine hckH.out.mono ?_
  rintro e w1 ⟨rfl, hb1⟩
  go_wp2
  go_ret2
  exact ⟨rfl, hb1⟩
set_option maxRecDepth 100000 in
theorem key_ok {w : World} {v : Val} {x : Value} {fs : List Nat} (h : VRep w v x fs) (hn : numsV v) (hok : okB v = true) : Calls Try.prog 59 #[x] w fun e w' => e = .returned (.tuple #[.string ⟨(encV v).toArray⟩, .int .i64 0]) ∧ Below w.heap.size w w' := by
  have henc := Lib.hid (encode_ok h hn hok)
  have hx := h.one
  clear h hok hn
  go_enter Try.func59, Try.ntmps59
  go_wp2_with fail
  refine henc.out.mono ?_
  rintro e w1 ⟨sv, rfl, hown, hb1⟩
  have hone : sv.oneCell' = true := by obtain ⟨_, _, rfl, -⟩ := ownsRow_form hown; rfl
  have hcv := conv_own hown
  clear hown
  go_wp2
  go_ret2
  exact ⟨rfl, hb1⟩
set_option maxRecDepth 100000 in
theorem key_bad {w : World} {v : Val} {x : Value} {fs : List Nat} (h : VRep w v x fs) (hok : okB v = false) : Calls Try.prog 59 #[x] w fun e w' => e = .returned (.tuple #[.string ⟨#[]⟩, .int .i64 (whyF v)]) ∧ Below w.heap.size w w' := by
  have henc := Lib.hid (encode_bad h hok)
  have hx := h.one
  have hcv := fun W => conv_own (w := W) (B := 0) (v := .slice none 0 0) (bs := []) ⟨rfl, .inl ⟨rfl, rfl⟩⟩
  clear h hok
  go_enter Try.func59, Try.ntmps59
  go_wp2_with fail
  refine henc.out.mono ?_
  rintro e w1 ⟨rfl, hb1⟩
  go_wp2
  go_ret2
  exact ⟨rfl, hb1⟩
/-- The sum's step. -/
def fnvS (h : Nat) (c : UInt8) : Nat := (h ^^^ c.toNat) * 1099511628211 % 18446744073709551616
def fnvB (l : List UInt8) : Nat := l.foldl fnvS 14695981039346656037
theorem fnvS_lt (h : Nat) (c : UInt8) : fnvS h c < 18446744073709551616 := Nat.mod_lt _ (by decide)
theorem fnv_step (H : Nat) (hH : H < 18446744073709551616) (c : UInt8) : IntKind.u64.wrap (bits .xor .u64 (H : Int) (c.toNat : Int) * 1099511628211) = ((fnvS H c : Nat) : Int) := by
  rw [bits_xor_u64_nat _ _ hH (Nat.lt_trans c.toNat_lt (by decide)), IntKind.wrap_u64]
  unfold fnvS
  omega
theorem byteCells_at {l : List UInt8} {k : Nat} {c : UInt8} (h : l[k]? = some c) : (byteCells l)[k]? = some (.int .u8 c.toNat) := by simp [byteCells, h]
theorem fold_drop {l : List UInt8} {k : Nat} {c : UInt8} (h : l[k]? = some c) (H : Nat) : (l.drop k).foldl fnvS H = (l.drop (k + 1)).foldl fnvS (fnvS H c) := by
  have hk := (List.getElem?_eq_some_iff.1 h).1
  have e := (List.getElem?_eq_some_iff.1 h).2
  rw [List.drop_eq_getElem_cons hk, e, List.foldl_cons]
set_option maxRecDepth 100000 in
set_option maxHeartbeats 800000 in
theorem sum_ok {w : World} {v : Val} {x : Value} {fs : List Nat} (h : VRep w v x fs) (hn : numsV v) (hok : okB v = true) : Calls Try.prog 62 #[x] w fun e w' => e = .returned (.tuple #[.int .u64 (fnvB (encV v)), .int .i64 0]) ∧ Below w.heap.size w w' := by
  have henc := Lib.hid (encode_ok h hn hok)
  have hsm := enc_small hn hok
  have hx := h.one
  clear h hok hn
  generalize encV v = l at *
  go_enter Try.func62, Try.ntmps62
  go_wp2_with fail
  refine henc.out.mono ?_
  rintro e w1 ⟨sv, rfl, hown, hb1⟩
  obtain ⟨a, cap, rfl, hcap, hmax, -, hform⟩ := ownsRow_form hown
  have hformH := Lib.hid hform
  clear hown hform
  go_wp2_with fail
  go_loop [6, 19] (fun hv i => ∃ (k H : Nat), k ≤ l.length ∧ i = .int .i64 k ∧ hv = .int .u64 H ∧ H < 18446744073709551616 ∧ (l.drop k).foldl fnvS H = fnvB l) (fun _ i => l.length - (intOf i).toNat)
  case atStart => exact ⟨0, 14695981039346656037, Nat.zero_le _, rfl, rfl, by decide, by rw [List.drop_zero]; rfl⟩
  case round =>
    obtain ⟨k, H, hk, rfl, rfl, hH, heq⟩ := hrel
    by_cases hlt : k < l.length
    · rcases hformH.out with ⟨-, h0, -⟩ | ⟨g, rfl, -, -, -, hc⟩
      · omega
      obtain ⟨c, hcc⟩ : ∃ c, l[k]? = some c := ⟨_, List.getElem?_eq_getElem hlt⟩
      have hcell := (hc k (by omega)).trans (byteCells_at hcc)
      have hst := fnv_step H hH c
      have hcu : IntKind.u64.wrap (c.toNat : Int) = (c.toNat : Int) := by have := c.toNat_lt; rw [IntKind.wrap_u64]; omega
      have hheq := Lib.hid ((fold_drop hcc H).symm.trans heq)
      clear hc heq hcc
      go_wp2
      go_round
      case rel => exact ⟨k + 1, fnvS H c, by omega, by go_num, by first | rfl | rw [← hst] | rw [hcu, hst] | rw [hst], fnvS_lt H c, hheq.out⟩
      case measure => simp [intOf]; omega
    · obtain rfl : k = l.length := by omega
      rw [List.drop_length] at heq
      obtain rfl : H = fnvB l := heq
      go_wp2
      go_ret2
      exact ⟨rfl, hb1⟩
set_option maxRecDepth 100000 in
theorem sum_bad {w : World} {v : Val} {x : Value} {fs : List Nat} (h : VRep w v x fs) (hok : okB v = false) : Calls Try.prog 62 #[x] w fun e w' => e = .returned (.tuple #[.int .u64 0, .int .i64 (whyF v)]) ∧ Below w.heap.size w w' := by
  have henc := Lib.hid (encode_bad h hok)
  have hne : (whyF v != 0) = true := by simpa using why_bad hok
  have hx := h.one
  clear h hok
  generalize whyF v = y at *
  go_enter Try.func62, Try.ntmps62
  go_wp2_with fail
  refine henc.out.mono ?_
  rintro e w1 ⟨rfl, hb1⟩
  go_wp2
  go_ret2
  exact ⟨rfl, hb1⟩
set_option maxRecDepth 100000 in
theorem refEncode_ok (t : Term) (cs : List Value) (w : World) (h : TRep w t cs) (hok : okB (builtV t) = true) : Calls Try.prog 61 #[.agg cs.toArray] w (EncOk (encV (builtV t)) w) := by
  have hbel : ∀ cs : Array Value, Below w.heap.size w (w.alloc (.cells cs 34)) := fun cs => (Below.refl _ _).alloc (Nat.le_refl _) _
  have hckH := Lib.hid (fun W (hb : Below w.heap.size w W) => refCheck_any t cs W (TRep.keep (keeps_of_below hb) t cs h))
  have hbyH := Lib.hid (fun W (hb : Below w.heap.size w W) => refBytes_any t cs W (TRep.keep (keeps_of_below hb) t cs h) (okV_check hok) (enc_small (nums_built t cs h) hok))
  rw [check_ok hok] at hckH
  have hone := TRep.ones h
  obtain ⟨c0, c1, c2, c3, c4, c5, c6, c7, c8, c9, c10, rfl⟩ := eleven (TRep.len h)
  have hbox : (w.alloc (.cells #[c0, c1, c2, c3, c4, c5, c6, c7, c8, c9, c10] 34)).heap[w.heap.size]? = some (.cells #[c0, c1, c2, c3, c4, c5, c6, c7, c8, c9, c10] 34 (0, 0)) := heap_alloc_new w _
  have hboxH := Lib.hid hbox
  clear h hok hbox
  go_enter Try.func61, Try.ntmps61
  go_wp2_with fail
  refine (hckH.out _ (hbel _)).mono ?_
  rintro e w1 ⟨rfl, hb1⟩
  have hB1 := (hb1.block w.heap.size (by simp)).trans hboxH.out
  have hbw1 : Below w.heap.size w w1 := (hbel _).trans (below_le hb1 (by simp))
  have q0 : w1.cell? ⟨w.heap.size, 0, none⟩ = some c0 := block_cells hB1 0
  have q1 : w1.cell? ⟨w.heap.size, 1, none⟩ = some c1 := block_cells hB1 1
  have q2 : w1.cell? ⟨w.heap.size, 2, none⟩ = some c2 := block_cells hB1 2
  have q3 : w1.cell? ⟨w.heap.size, 3, none⟩ = some c3 := block_cells hB1 3
  have q4 : w1.cell? ⟨w.heap.size, 4, none⟩ = some c4 := block_cells hB1 4
  have q5 : w1.cell? ⟨w.heap.size, 5, none⟩ = some c5 := block_cells hB1 5
  have q6 : w1.cell? ⟨w.heap.size, 6, none⟩ = some c6 := block_cells hB1 6
  have q7 : w1.cell? ⟨w.heap.size, 7, none⟩ = some c7 := block_cells hB1 7
  have q8 : w1.cell? ⟨w.heap.size, 8, none⟩ = some c8 := block_cells hB1 8
  have q9 : w1.cell? ⟨w.heap.size, 9, none⟩ = some c9 := block_cells hB1 9
  have q10 : w1.cell? ⟨w.heap.size, 10, none⟩ = some c10 := block_cells hB1 10
  clear hb1 hB1
  go_wp2_with fail
  refine (hbyH.out _ hbw1).mono ?_
  rintro e w2 ⟨sv, rfl, hown, hb2⟩
  have hone2 : sv.oneCell' = true := by obtain ⟨_, _, rfl, -⟩ := ownsRow_form hown; rfl
  have hownH := Lib.hid (ownsRow_base hown hbw1.size)
  have hbw2 : Below w.heap.size w w2 := hbw1.trans (below_le hb2 hbw1.size)
  clear hown
  go_wp2
  go_ret2
  exact ⟨_, rfl, hownH.out, hbw2⟩
set_option maxRecDepth 100000 in
theorem refEncode_bad (t : Term) (cs : List Value) (w : World) (h : TRep w t cs) (hok : okB (builtV t) = false) : Calls Try.prog 61 #[.agg cs.toArray] w (EncBad (whyF (builtV t)) w) := by
  have hbel : ∀ cs : Array Value, Below w.heap.size w (w.alloc (.cells cs 34)) := fun cs => (Below.refl _ _).alloc (Nat.le_refl _) _
  have hckH := Lib.hid (fun W (hb : Below w.heap.size w W) => refCheck_any t cs W (TRep.keep (keeps_of_below hb) t cs h))
  have hne : ¬ (checkF (builtV t)).2 = 0 := why_bad hok
  unfold whyF
  generalize checkF (builtV t) = cf at *
  obtain ⟨a, y⟩ := cf
  have hy : (y != 0) = true := by simpa using hne
  have hone := TRep.ones h
  obtain ⟨c0, c1, c2, c3, c4, c5, c6, c7, c8, c9, c10, rfl⟩ := eleven (TRep.len h)
  clear h hok hne
  go_enter Try.func61, Try.ntmps61
  go_wp2_with fail
  refine (hckH.out _ (hbel _)).mono ?_
  rintro e w1 ⟨rfl, hb1⟩
  have hbw1 : Below w.heap.size w w1 := (hbel _).trans (below_le hb1 (by simp))
  go_wp2
  go_ret2
  exact ⟨rfl, hbw1⟩
set_option maxRecDepth 100000 in
set_option maxHeartbeats 800000 in
theorem refSum_ok (t : Term) (cs : List Value) (w : World) (h : TRep w t cs) (hok : okB (builtV t) = true) : Calls Try.prog 63 #[.agg cs.toArray] w fun e w' => e = .returned (.tuple #[.int .u64 (fnvB (encV (builtV t))), .int .i64 0]) ∧ Below w.heap.size w w' := by
  have hbel : ∀ cs : Array Value, Below w.heap.size w (w.alloc (.cells cs 34)) := fun cs => (Below.refl _ _).alloc (Nat.le_refl _) _
  have henc := Lib.hid (fun W (hb : Below w.heap.size w W) => refEncode_ok t cs W (TRep.keep (keeps_of_below hb) t cs h) hok)
  have hsm := enc_small (nums_built t cs h) hok
  have hone := TRep.ones h
  obtain ⟨c0, c1, c2, c3, c4, c5, c6, c7, c8, c9, c10, rfl⟩ := eleven (TRep.len h)
  clear h hok
  generalize encV (builtV t) = l at *
  go_enter Try.func63, Try.ntmps63
  go_wp2_with fail
  refine (henc.out _ (hbel _)).mono ?_
  rintro e w1 ⟨sv, rfl, hown, hb1⟩
  have hbw1 : Below w.heap.size w w1 := (hbel _).trans (below_le hb1 (by simp))
  obtain ⟨a, cap, rfl, hcap, hmax, -, hform⟩ := ownsRow_form hown
  have hformH := Lib.hid hform
  clear hown hform hb1
  go_wp2_with fail
  go_loop [6, 7] (fun hv i => ∃ (k H : Nat), k ≤ l.length ∧ i = .int .i64 k ∧ hv = .int .u64 H ∧ H < 18446744073709551616 ∧ (l.drop k).foldl fnvS H = fnvB l) (fun _ i => l.length - (intOf i).toNat)
  case atStart => exact ⟨0, 14695981039346656037, Nat.zero_le _, rfl, rfl, by decide, by rw [List.drop_zero]; rfl⟩
  case round =>
    obtain ⟨k, H, hk, rfl, rfl, hH, heq⟩ := hrel
    by_cases hlt : k < l.length
    · rcases hformH.out with ⟨-, h0, -⟩ | ⟨g, rfl, -, -, -, hc⟩
      · omega
      obtain ⟨c, hcc⟩ : ∃ c, l[k]? = some c := ⟨_, List.getElem?_eq_getElem hlt⟩
      have hcell := (hc k (by omega)).trans (byteCells_at hcc)
      have hst := fnv_step H hH c
      have hcu : IntKind.u64.wrap (c.toNat : Int) = (c.toNat : Int) := by have := c.toNat_lt; rw [IntKind.wrap_u64]; omega
      have hheq := Lib.hid ((fold_drop hcc H).symm.trans heq)
      clear hc heq hcc
      go_wp2
      go_round
      case rel => exact ⟨k + 1, fnvS H c, by omega, by go_num, by first | rfl | rw [← hst] | rw [hcu, hst] | rw [hst], fnvS_lt H c, hheq.out⟩
      case measure => simp [intOf]; omega
    · obtain rfl : k = l.length := by omega
      rw [List.drop_length] at heq
      obtain rfl : H = fnvB l := heq
      go_wp2
      go_ret2
      exact ⟨rfl, hbw1⟩
set_option maxRecDepth 100000 in
theorem refSum_bad (t : Term) (cs : List Value) (w : World) (h : TRep w t cs) (hok : okB (builtV t) = false) : Calls Try.prog 63 #[.agg cs.toArray] w fun e w' => e = .returned (.tuple #[.int .u64 0, .int .i64 (whyF (builtV t))]) ∧ Below w.heap.size w w' := by
  have hbel : ∀ cs : Array Value, Below w.heap.size w (w.alloc (.cells cs 34)) := fun cs => (Below.refl _ _).alloc (Nat.le_refl _) _
  have henc := Lib.hid (fun W (hb : Below w.heap.size w W) => refEncode_bad t cs W (TRep.keep (keeps_of_below hb) t cs h) hok)
  have hne : (whyF (builtV t) != 0) = true := by simpa using why_bad hok
  have hone := TRep.ones h
  obtain ⟨c0, c1, c2, c3, c4, c5, c6, c7, c8, c9, c10, rfl⟩ := eleven (TRep.len h)
  clear h hok
  generalize whyF (builtV t) = y at *
  go_enter Try.func63, Try.ntmps63
  go_wp2_with fail
  refine (henc.out _ (hbel _)).mono ?_
  rintro e w1 ⟨rfl, hb1⟩
  have hbw1 : Below w.heap.size w w1 := (hbel _).trans (below_le hb1 (by simp))
  go_wp2
  go_ret2
  exact ⟨rfl, hbw1⟩
end Go.Proofs.Ytpcbdjfonmohaaa
