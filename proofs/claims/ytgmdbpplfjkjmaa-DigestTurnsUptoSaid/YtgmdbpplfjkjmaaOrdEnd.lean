/- value.cmp, truth, place; slices.Compare at bytes; the order of values of no parts. -/
import Derived.Test.YtgmdbpplfjkjmaaOrder
import Derived.Test.YtgmdbpplfjkjmaaWirePut
import Derived.Test.YtgmdbpplfjkjmaaGrew
import Derived.Test.YtgmdbpplfjkjmaaValPart
namespace Go.Proofs.Ytgmdbpplfjkjmaa
open Go.RowKit
set_option linter.unusedVariables false
set_option linter.unusedSimpArgs false

theorem vcmp_int (x y : Int) (w : World) : Calls Try.prog 226 #[.int .i64 x, .int .i64 y] w fun e w' => e = .returned (.int .i64 (cmpI x y)) ∧ w = w' := by
  unfold cmpI
  by_cases h1 : x < y
  · rw [if_pos h1]
    go_enter Try.func226, Try.ntmps226
    go_wp2
    go_ret
    exact ⟨rfl, rfl⟩
  · rw [if_neg h1]
    by_cases h2 : y < x
    · rw [if_pos h2]
      go_enter Try.func226, Try.ntmps226
      go_wp2
      go_ret
      exact ⟨rfl, rfl⟩
    · rw [if_neg h2]
      go_enter Try.func226, Try.ntmps226
      go_wp2
      go_ret
      exact ⟨rfl, rfl⟩
theorem vcmp_int64 (x y : Int) (w : World) : Calls Try.prog 229 #[.int .i64 x, .int .i64 y] w fun e w' => e = .returned (.int .i64 (cmpI x y)) ∧ w = w' := by
  unfold cmpI
  by_cases h1 : x < y
  · rw [if_pos h1]
    go_enter Try.func229, Try.ntmps229
    go_wp2
    go_ret
    exact ⟨rfl, rfl⟩
  · rw [if_neg h1]
    by_cases h2 : y < x
    · rw [if_pos h2]
      go_enter Try.func229, Try.ntmps229
      go_wp2
      go_ret
      exact ⟨rfl, rfl⟩
    · rw [if_neg h2]
      go_enter Try.func229, Try.ntmps229
      go_wp2
      go_ret
      exact ⟨rfl, rfl⟩
theorem vcmp_uint64 (x y : Int) (w : World) : Calls Try.prog 230 #[.int .u64 x, .int .u64 y] w fun e w' => e = .returned (.int .i64 (cmpI x y)) ∧ w = w' := by
  unfold cmpI
  by_cases h1 : x < y
  · rw [if_pos h1]
    go_enter Try.func230, Try.ntmps230
    go_wp2
    go_ret
    exact ⟨rfl, rfl⟩
  · rw [if_neg h1]
    by_cases h2 : y < x
    · rw [if_pos h2]
      go_enter Try.func230, Try.ntmps230
      go_wp2
      go_ret
      exact ⟨rfl, rfl⟩
    · rw [if_neg h2]
      go_enter Try.func230, Try.ntmps230
      go_wp2
      go_ret
      exact ⟨rfl, rfl⟩
theorem vcmp_ref (x y : Int) (w : World) : Calls Try.prog 234 #[.int .u64 x, .int .u64 y] w fun e w' => e = .returned (.int .i64 (cmpI x y)) ∧ w = w' := by
  unfold cmpI
  by_cases h1 : x < y
  · rw [if_pos h1]
    go_enter Try.func234, Try.ntmps234
    go_wp2
    go_ret
    exact ⟨rfl, rfl⟩
  · rw [if_neg h1]
    by_cases h2 : y < x
    · rw [if_pos h2]
      go_enter Try.func234, Try.ntmps234
      go_wp2
      go_ret
      exact ⟨rfl, rfl⟩
    · rw [if_neg h2]
      go_enter Try.func234, Try.ntmps234
      go_wp2
      go_ret
      exact ⟨rfl, rfl⟩
theorem vcmp_string (s q : ByteArray) (w : World) : Calls Try.prog 232 #[.string s, .string q] w fun e w' => e = .returned (.int .i64 (lexN (ordT s.data.toList) (ordT q.data.toList))) ∧ w = w' := by
  rw [lex_text, ← toList_data, ← toList_data]
  obtain ⟨c, hc⟩ : ∃ c : Int, c = (if Op.bytesLess s.toList q.toList = true then -1 else if Op.bytesLess q.toList s.toList = true then 1 else 0) := ⟨_, rfl⟩
  rw [← hc]
  have hcH := Lib.hid hc
  clear hc
  go_enter Try.func232, Try.ntmps232
  go_wp2
  all_goals go_ret
  all_goals refine ⟨?_, rfl⟩
  all_goals rw [hcH.out]
  all_goals first
    | (simp_all; done)
    | (have hx : Op.bytesLess q.toList s.toList = true := Decidable.byContradiction fun hx => by
         have e := less_total s.toList q.toList (by simp_all) (by simpa using hx)
         simp_all
       simp_all; done)
theorem truth_said (b : Bool) (w : World) : Calls Try.prog 228 #[.bool b] w fun e w' => e = .returned (.int .i64 (bif b then 1 else 0)) ∧ w = w' := by
  cases b
  all_goals
    go_enter Try.func228, Try.ntmps228
    go_wp2
    go_ret
    exact ⟨rfl, rfl⟩
set_option maxRecDepth 100000 in
theorem vplace_said (x : Nat) (hx : x < 18446744073709551616) (w : World) : Calls Try.prog 231 #[.float .f64 x] w fun e w' => e = .returned (.int .u64 (placeN x)) ∧ w = w' := by
  have hfb := fun W => bits_of_float x W
  by_cases h : 9223372036854775808 ≤ x
  · have hi : (9223372036854775808 : Int) ≤ (x : Int) := by omega
    have hp : ((placeN x : Nat) : Int) = 18446744073709551615 - (x : Int) := by unfold placeN; rw [if_pos h]; omega
    have hs : (x : Int) / 9223372036854775808 = 1 := by omega
    rw [hp]
    go_enter Try.func231, Try.ntmps231
    go_wp2
    go_ret
    refine ⟨?_, rfl⟩
    have hm : IntKind.u64.max = ((18446744073709551615 : Nat) : Int) := rfl
    show Ending.returned (.int .u64 (bits .xor .u64 IntKind.u64.max (x : Int))) = _
    rw [hm, bits_xor_u64_nat _ _ (by decide) hx, Nat.xor_comm, xor_ones _ hx]
    exact ret_int (by omega)
  · have hi : ¬ (9223372036854775808 : Int) ≤ (x : Int) := by omega
    have hp : ((placeN x : Nat) : Int) = (x : Int) + 9223372036854775808 := by unfold placeN; rw [if_neg h]; omega
    have hs : (x : Int) / 9223372036854775808 = 0 := by omega
    rw [hp]
    go_enter Try.func231, Try.ntmps231
    go_wp2
    go_ret
    refine ⟨?_, rfl⟩
    show Ending.returned (.int .u64 (bits .or .u64 (x : Int) ((9223372036854775808 : Nat) : Int))) = _
    rw [bits_or_u64_nat _ _ hx (by decide), Nat.or_comm, show (9223372036854775808 : Nat) = 2 ^ 63 * 1 from rfl, ← Nat.two_pow_add_eq_or_of_lt (by omega)]
    exact ret_int (by omega)
theorem nan_byte (x : Int) (w : World) : Calls Try.prog 269 #[.int .u8 x] w fun e w' => e = .returned (.bool false) ∧ w = w' := by
  go_enter Try.func269, Try.ntmps269
  go_wp2
  go_ret
  exact ⟨by simp, rfl⟩
theorem cmp_byte (x y : Int) (w : World) : Calls Try.prog 262 #[.int .u8 x, .int .u8 y] w fun e w' => e = .returned (.int .i64 (cmpI x y)) ∧ w = w' := by
  unfold cmpI
  by_cases h1 : x < y
  · rw [if_pos h1]
    go_enter Try.func262, Try.ntmps262
    go_wp2_with (go_at_call 269; refine (nan_byte _ _).mono ?_; rintro e w' ⟨rfl, rfl⟩)
    go_ret
    exact ⟨rfl, rfl⟩
  · rw [if_neg h1]
    by_cases h2 : y < x
    · rw [if_pos h2]
      go_enter Try.func262, Try.ntmps262
      go_wp2_with (go_at_call 269; refine (nan_byte _ _).mono ?_; rintro e w' ⟨rfl, rfl⟩)
      go_ret
      exact ⟨rfl, rfl⟩
    · rw [if_neg h2]
      go_enter Try.func262, Try.ntmps262
      go_wp2_with (go_at_call 269; refine (nan_byte _ _).mono ?_; rintro e w' ⟨rfl, rfl⟩)
      go_ret
      exact ⟨rfl, rfl⟩
theorem ordT_step {l m : List UInt8} {k : Nat} {a b : UInt8} (h : l[k]? = some a) (h' : m[k]? = some b) : lexN (ordT (l.drop k)) (ordT (m.drop k)) = if cmpI a.toNat b.toNat = 0 then lexN (ordT (l.drop (k + 1))) (ordT (m.drop (k + 1))) else cmpI a.toNat b.toNat := by
  obtain ⟨hk, rfl⟩ := List.getElem?_eq_some_iff.1 h
  obtain ⟨hk', rfl⟩ := List.getElem?_eq_some_iff.1 h'
  rw [List.drop_eq_getElem_cons hk, List.drop_eq_getElem_cons hk']
  simp only [ordT, List.map_cons, List.cons_append]
  by_cases e : l[k].toNat = m[k].toNat
  · rw [e, lex_same, if_pos (by unfold cmpI; rw [if_neg (by omega), if_neg (by omega)])]
  · rw [lex_head _ _ (by omega), if_neg (fun h0 => e (by have := cmpI_zero h0; omega)), cmpI_congr (a := (l[k].toNat : Int)) (b := (m[k].toNat : Int)) (by omega) (by omega)]
theorem ordT_end {l m : List UInt8} {k : Nat} (h : k = l.length ∨ k = m.length) (hl : k ≤ l.length) (hm : k ≤ m.length) : lexN (ordT (l.drop k)) (ordT (m.drop k)) = cmpI l.length m.length := by
  rcases Nat.lt_trichotomy l.length m.length with c | c | c
  · obtain rfl : k = l.length := by omega
    rw [List.drop_length, List.drop_eq_getElem_cons c]
    unfold cmpI
    rw [if_pos (by omega)]
    simp only [ordT, List.map_cons, List.map_nil, List.cons_append, List.nil_append]
    rw [lexN_cons, if_pos (by omega)]
  · rw [List.drop_eq_nil_of_le (by omega), List.drop_eq_nil_of_le (by omega), lexN_self]
    unfold cmpI
    rw [if_neg (by omega), if_neg (by omega)]
  · obtain rfl : k = m.length := by omega
    rw [List.drop_length, List.drop_eq_getElem_cons c]
    unfold cmpI
    rw [if_neg (by omega), if_pos (by omega)]
    simp only [ordT, List.map_cons, List.map_nil, List.cons_append, List.nil_append]
    rw [lexN_cons, if_neg (by omega), if_pos (by omega)]
theorem cmpI_lens {n m : Nat} {k : Nat} (h : k = n) (hm : n < m) : cmpI n m = -1 := by unfold cmpI; rw [if_pos (by omega)]
set_option maxRecDepth 100000 in
set_option maxHeartbeats 1600000 in
theorem compare_bytes (l m : List UInt8) (x y : Value) (w : World) (hx : w.ownsRow 0 5 1 x l.length (byteCells l)) (hy : w.ownsRow 0 5 1 y m.length (byteCells m)) :
    Calls Try.prog 233 #[x, y] w fun e w' => e = .returned (.int .i64 (lexN (ordT l) (ordT m))) ∧ w = w' := by
  obtain ⟨a, cap, rfl, hcap, hmax, -, hform⟩ := ownsRow_form hx
  obtain ⟨a', cap', rfl, hcap', hmax', -, hform'⟩ := ownsRow_form hy
  unfold maxLen at hmax hmax'
  have hf := Lib.hid hform
  have hf' := Lib.hid hform'
  obtain ⟨R, hR⟩ : ∃ R : Int, R = lexN (ordT l) (ordT m) := ⟨_, rfl⟩
  rw [← hR]
  have hRH := Lib.hid hR.symm
  clear hR hx hy hform hform'
  go_enter Try.func233, Try.ntmps233
  go_wp2_with fail
  go_loop [11] (fun i => ∃ k : Nat, k ≤ l.length ∧ k ≤ m.length ∧ i = .int .i64 k ∧ lexN (ordT (l.drop k)) (ordT (m.drop k)) = R) (fun i => l.length - (intOf i).toNat)
  case atStart => exact ⟨0, Nat.zero_le _, Nat.zero_le _, rfl, hRH.out⟩
  case round =>
    obtain ⟨k, hk, hk', rfl, hkR⟩ := hrel
    have hkH := Lib.hid hkR
    clear hkR
    by_cases h1 : k < l.length
    · have l1 : (k : Int) < (l.length : Int) := by omega
      rcases hf.out with ⟨-, h0', -⟩ | ⟨g, rfl, -, hg, -, hcells⟩
      · omega
      obtain ⟨c, hc⟩ : ∃ c, l[k]? = some c := ⟨_, List.getElem?_eq_getElem h1⟩
      have hc1 : w.cell? ⟨g, k, none⟩ = some (.int .u8 c.toNat) := (hcells k (by omega)).trans (by simp [byteCells, hc])
      by_cases h2 : k < m.length
      · have l2 : ¬ (m.length : Int) ≤ (k : Int) := by omega
        rcases hf'.out with ⟨-, h0', -⟩ | ⟨g', rfl, -, hg', -, hcells'⟩
        · omega
        obtain ⟨d, hd⟩ : ∃ d, m[k]? = some d := ⟨_, List.getElem?_eq_getElem h2⟩
        have hd1 : w.cell? ⟨g', k, none⟩ = some (.int .u8 d.toNat) := (hcells' k (by omega)).trans (by simp [byteCells, hd])
        have hst := Lib.hid (hkH.out.symm.trans (ordT_step hc hd))
        obtain ⟨r, hr⟩ : ∃ r : Int, r = cmpI c.toNat d.toNat := ⟨_, rfl⟩
        have hcmp0 := fun W => cmp_byte c.toNat d.toNat W
        rw [← hr] at hst hcmp0
        have hcmp := Lib.hid hcmp0
        clear hcmp0 hr hc hd hcells hcells'
        by_cases hr0 : r = 0
        · subst hr0
          have hnext := Lib.hid hst.out.symm
          rw [if_pos rfl] at hnext
          go_wp2_with (go_at_call 262; refine (hcmp.out _).mono ?_; rintro e w' ⟨rfl, rfl⟩)
          go_round
          case rel => exact ⟨k + 1, by omega, by omega, by go_num, hnext.out⟩
          case measure => simp [intOf]; omega
        · have hrb : (r != 0) = true := by simpa using hr0
          have hne := Lib.hid hst.out
          rw [if_neg hr0] at hne
          clear hr0
          go_wp2_with (go_at_call 262; refine (hcmp.out _).mono ?_; rintro e w' ⟨rfl, rfl⟩)
          go_ret
          exact ⟨ret_int hne.out.symm, rfl⟩
      · have hend := Lib.hid (hkH.out.symm.trans (ordT_end (by omega) (by omega) (by omega)))
        have l2 : (m.length : Int) ≤ (k : Int) := by omega
        clear hc hcells
        go_wp2_with fail
        go_ret
        exact ⟨ret_int (by rw [hend.out]; unfold cmpI; rw [if_neg (by omega), if_pos (by omega)]), rfl⟩
    · have hend := Lib.hid (hkH.out.symm.trans (ordT_end (by omega) (by omega) (by omega)))
      have l1 : ¬ (k : Int) < (l.length : Int) := by omega
      by_cases h2 : l.length < m.length
      · have l2 : (l.length : Int) < (m.length : Int) := by omega
        go_wp2_with fail
        go_ret
        exact ⟨ret_int (by rw [hend.out]; unfold cmpI; rw [if_pos (by omega)]), rfl⟩
      · have l2 : ¬ (l.length : Int) < (m.length : Int) := by omega
        go_wp2_with fail
        go_ret
        exact ⟨ret_int (by rw [hend.out]; unfold cmpI; rw [if_neg (by omega), if_neg (by omega)]), rfl⟩
end Go.Proofs.Ytgmdbpplfjkjmaa

/-! value.order of any two values: the order of values. -/
namespace Go.Proofs.Ytgmdbpplfjkjmaa
open Go.RowKit Go.Sort
set_option linter.unusedVariables false
set_option linter.unusedSimpArgs false

theorem VRep.grew {w w' : World} {v : Val} {x : Value} {fs : List Nat} (h : VRep w v x fs) (hg : Grew w w') : VRep w' v x fs := VRep.keep v x fs h (fun b hb => hg.below.block b (VRep.lt _ _ _ h b hb))
def OrderSaid (v : Val) : Prop := ∀ (u : Val) (x y : Value) (fs gs : List Nat) (w : World), VRep w v x fs → VRep w u y gs → okV v → okV u →
  Calls Try.prog 185 #[x, y] w fun e w' => e = .returned (.int .i64 (cmpV v u)) ∧ Grew w w'
def orderF : Value := .func (.func 185) #[] #[]
def fieldF : Value := .func (.func 237) #[] #[]
set_option maxRecDepth 100000 in
set_option maxHeartbeats 1600000 in
theorem cmpfunc_list (l m : List Val) (ih : ∀ v ∈ l, OrderSaid v) (x y : Value) (xs ys : List Value) (gs hs : List Nat) (w : World) (hx : w.ownsRow 0 20 1 x l.length xs) (hxs : VsRep w l xs gs)
    (hy : w.ownsRow 0 20 1 y m.length ys) (hys : VsRep w m ys hs) (hok : okVs l) (hok' : okVs m) :
    Calls Try.prog 235 #[x, y, .func (.func 185) #[] #[]] w fun e w' => e = .returned (.int .i64 (lexN (ordVs l) (ordVs m))) ∧ Grew w w' := by
  obtain ⟨a, cap, rfl, hcap, hmax, -, hform⟩ := ownsRow_form hx
  obtain ⟨a', cap', rfl, hcap', hmax', -, hform'⟩ := ownsRow_form hy
  unfold maxLen at hmax hmax'
  have hf := Lib.hid hform
  have hf' := Lib.hid hform'
  have hdat := Lib.hid (VsRep.at l xs gs hxs)
  have hdat' := Lib.hid (VsRep.at m ys hs hys)
  have ihH := Lib.hid ih
  have hokH := Lib.hid (okVs_mem l hok)
  have hokH' := Lib.hid (okVs_mem m hok')
  obtain ⟨R, hR⟩ : ∃ R : Int, R = lexN (ordVs l) (ordVs m) := ⟨_, rfl⟩
  rw [← hR]
  have hRH := Lib.hid hR.symm
  clear hR hx hy hform hform' hxs hys ih hok hok'
  go_enter Try.func235, Try.ntmps235
  go_wp2_with fail
  go_loopw [13] (fun i wr => ∃ k : Nat, k ≤ l.length ∧ k ≤ m.length ∧ i = .int .i64 k ∧ lexN (ordVs (l.drop k)) (ordVs (m.drop k)) = R ∧ Grew w wr) (fun i _ => l.length - (intOf i).toNat)
  case atStart => exact ⟨0, Nat.zero_le _, Nat.zero_le _, rfl, hRH.out, Grew.refl _⟩
  case round =>
    obtain ⟨k, hk, hk', rfl, hkR, hg⟩ := hrel
    have hkH := Lib.hid hkR
    have hgH := Lib.hid hg
    clear hkR
    by_cases h1 : k < l.length
    · have l1 : (k : Int) < (l.length : Int) := by omega
      rcases hf.out with ⟨-, h0', -⟩ | ⟨g, rfl, -, hgs, -, hcells⟩
      · omega
      obtain ⟨v, hv⟩ : ∃ c, l[k]? = some c := ⟨_, List.getElem?_eq_getElem h1⟩
      obtain ⟨vx, fv, e1, e2, -⟩ := hdat.out k _ hv
      have hvone := e2.one
      have hc1 : wr.cell? ⟨g, k, none⟩ = some vx := (hg.below.cell (p := ⟨g, k, none⟩) hgs).trans ((hcells k (by omega)).trans e1)
      by_cases h2 : k < m.length
      · have l2 : ¬ (m.length : Int) ≤ (k : Int) := by omega
        rcases hf'.out with ⟨-, h0', -⟩ | ⟨g', rfl, -, hgs', -, hcells'⟩
        · omega
        obtain ⟨u, hu⟩ : ∃ c, m[k]? = some c := ⟨_, List.getElem?_eq_getElem h2⟩
        obtain ⟨uy, fu, e3, e4, -⟩ := hdat'.out k _ hu
        have huone := e4.one
        have hd1 : wr.cell? ⟨g', k, none⟩ = some uy := (hg.below.cell (p := ⟨g', k, none⟩) hgs').trans ((hcells' k (by omega)).trans e3)
        have hst0 := hkH.out.symm.trans (vs_step hv hu)
        have hord0 := ihH.out v (List.mem_of_getElem? hv) u vx uy fv fu wr (e2.grew hg) (e4.grew hg) (hokH.out _ (List.mem_of_getElem? hv)) (hokH'.out _ (List.mem_of_getElem? hu))
        obtain ⟨r, hr⟩ : ∃ r : Int, r = cmpV v u := ⟨_, rfl⟩
        rw [← hr] at hst0 hord0
        have hst := Lib.hid hst0
        have hord := Lib.hid hord0
        clear hst0 hord0 hr hv hu hcells hcells' e1 e2 e3 e4 hg
        by_cases hr0 : r = 0
        · subst hr0
          have hnext := Lib.hid hst.out.symm
          rw [if_pos rfl] at hnext
          go_wp2_with fail
          refine hord.out.mono ?_
          rintro e w' ⟨rfl, hg2⟩
          go_wp2_with fail
          go_roundw
          case rel => exact ⟨k + 1, by omega, by omega, by go_num, hnext.out, hgH.out.trans hg2⟩
          case measure => simp [intOf]; omega
        · have hrb : (r != 0) = true := by simpa using hr0
          have hne := Lib.hid hst.out
          rw [if_neg hr0] at hne
          clear hr0
          go_wp2_with fail
          refine hord.out.mono ?_
          rintro e w' ⟨rfl, hg2⟩
          go_wp2_with fail
          go_ret
          exact ⟨ret_int hne.out.symm, hgH.out.trans hg2⟩
      · have hend := Lib.hid (hkH.out.symm.trans (vs_end (by omega) (by omega) (by omega)))
        have l2 : (m.length : Int) ≤ (k : Int) := by omega
        clear hv e1 e2 hcells hg
        go_wp2_with fail
        go_ret
        exact ⟨ret_int (by rw [hend.out]; unfold cmpI; rw [if_neg (by omega), if_pos (by omega)]), hgH.out⟩
    · have hend := Lib.hid (hkH.out.symm.trans (vs_end (by omega) (by omega) (by omega)))
      have l1 : ¬ (k : Int) < (l.length : Int) := by omega
      clear hg
      by_cases h2 : l.length < m.length
      · have l2 : (l.length : Int) < (m.length : Int) := by omega
        go_wp2_with fail
        go_ret
        exact ⟨ret_int (by rw [hend.out]; unfold cmpI; rw [if_pos (by omega)]), hgH.out⟩
      · have l2 : ¬ (l.length : Int) < (m.length : Int) := by omega
        go_wp2_with fail
        go_ret
        exact ⟨ret_int (by rw [hend.out]; unfold cmpI; rw [if_neg (by omega), if_neg (by omega)]), hgH.out⟩
set_option maxRecDepth 100000 in
theorem field_said (s q : ByteArray) (v u : Val) (ih : OrderSaid v) (x y : Value) (fs gs : List Nat) (w : World) (h : VRep w v x fs) (h' : VRep w u y gs) (ho : okV v) (ho' : okV u) :
    Calls Try.prog 237 #[.agg #[.string s, x], .agg #[.string q, y]] w fun e w' => e = .returned (.int .i64 (if lexN (ordT s.data.toList) (ordT q.data.toList) = 0 then cmpV v u else lexN (ordT s.data.toList) (ordT q.data.toList))) ∧ Grew w w' := by
  have hx := h.one
  have hy := h'.one
  have hg2 : Grew w ((w.alloc (.cells #[.string s, x] 220)).alloc (.cells #[.string q, y] 220)) := ((Grew.refl w).alloc _).alloc _
  have hord := Lib.hid (ih u x y fs gs _ (h.grew hg2) (h'.grew hg2) ho ho')
  have hg2H := Lib.hid hg2
  clear h h' ih hg2
  obtain ⟨c, hcd⟩ : ∃ c : Int, c = lexN (ordT s.data.toList) (ordT q.data.toList) := ⟨_, rfl⟩
  have htxt0 := fun W => vcmp_string s q W
  rw [← hcd] at htxt0 ⊢
  have htxt := Lib.hid htxt0
  clear htxt0 hcd
  by_cases hc0 : c = 0
  · subst hc0
    rw [if_pos rfl]
    go_enter Try.func237, Try.ntmps237
    go_wp2_with fail
    refine (htxt.out _).mono ?_
    rintro e w3 ⟨rfl, rfl⟩
    go_wp2_with fail
    refine hord.out.mono ?_
    rintro e w3 ⟨rfl, hg3⟩
    go_wp2
    go_ret
    exact ⟨rfl, hg2H.out.trans hg3⟩
  · rw [if_neg hc0]
    have hcb : (c != 0) = true := by simpa using hc0
    clear hc0 hord
    go_enter Try.func237, Try.ntmps237
    go_wp2_with fail
    refine (htxt.out _).mono ?_
    rintro e w3 ⟨rfl, rfl⟩
    go_wp2
    go_ret
    exact ⟨rfl, hg2H.out⟩
set_option maxRecDepth 100000 in
set_option maxHeartbeats 1600000 in
theorem cmpfunc_dict (l m : List (ByteArray × Val)) (ih : ∀ v ∈ l.map (·.2), OrderSaid v) (x y : Value) (xs ys : List Value) (gs hs : List Nat) (w : World) (hx : w.ownsRow 0 220 2 x l.length xs) (hxs : DsRep w l xs gs)
    (hy : w.ownsRow 0 220 2 y m.length ys) (hys : DsRep w m ys hs) (hok : okDs l) (hok' : okDs m) :
    Calls Try.prog 236 #[x, y, .func (.func 237) #[] #[]] w fun e w' => e = .returned (.int .i64 (lexN (ordDs l) (ordDs m))) ∧ Grew w w' := by
  obtain ⟨a, cap, rfl, hcap, hmax, -, hform⟩ := ownsRow_form hx
  obtain ⟨a', cap', rfl, hcap', hmax', -, hform'⟩ := ownsRow_form hy
  unfold maxLen at hmax hmax'
  have hf := Lib.hid hform
  have hf' := Lib.hid hform'
  have hdat := Lib.hid (DsRep.at l xs gs hxs)
  have hdat' := Lib.hid (DsRep.at m ys hs hys)
  have ihH := Lib.hid ih
  have hokH := Lib.hid (okDs_mem l hok)
  have hokH' := Lib.hid (okDs_mem m hok')
  obtain ⟨R, hR⟩ : ∃ R : Int, R = lexN (ordDs l) (ordDs m) := ⟨_, rfl⟩
  rw [← hR]
  have hRH := Lib.hid hR.symm
  clear hR hx hy hform hform' hxs hys ih hok hok'
  go_enter Try.func236, Try.ntmps236
  go_wp2_with fail
  go_loopw [13] (fun i wr => ∃ k : Nat, k ≤ l.length ∧ k ≤ m.length ∧ i = .int .i64 k ∧ lexN (ordDs (l.drop k)) (ordDs (m.drop k)) = R ∧ Grew w wr) (fun i _ => l.length - (intOf i).toNat)
  case atStart => exact ⟨0, Nat.zero_le _, Nat.zero_le _, rfl, hRH.out, Grew.refl _⟩
  case round =>
    obtain ⟨k, hk, hk', rfl, hkR, hg⟩ := hrel
    have hkH := Lib.hid hkR
    have hgH := Lib.hid hg
    clear hkR
    by_cases h1 : k < l.length
    · have l1 : (k : Int) < (l.length : Int) := by omega
      rcases hf.out with ⟨-, h0', -⟩ | ⟨g, rfl, -, hgs, -, hcells⟩
      · omega
      obtain ⟨⟨s, v⟩, hv⟩ : ∃ c, l[k]? = some c := ⟨_, List.getElem?_eq_getElem h1⟩
      obtain ⟨vx, fv, e0, e1, e2, -⟩ := hdat.out k _ hv
      have hvone := e2.one
      have hc0 : wr.cell? ⟨g, k * 2, none⟩ = some (.string s) := (hg.below.cell (p := ⟨g, k * 2, none⟩) hgs).trans ((hcells (k * 2) (by omega)).trans e0)
      have hc1 : wr.cell? ⟨g, k * 2 + 1, none⟩ = some vx := (hg.below.cell (p := ⟨g, k * 2 + 1, none⟩) hgs).trans ((hcells (k * 2 + 1) (by omega)).trans e1)
      have hgr : g < wr.heap.size := Nat.lt_of_lt_of_le hgs hg.size
      by_cases h2 : k < m.length
      · have l2 : ¬ (m.length : Int) ≤ (k : Int) := by omega
        rcases hf'.out with ⟨-, h0', -⟩ | ⟨g', rfl, -, hgs', -, hcells'⟩
        · omega
        obtain ⟨⟨q, u⟩, hu⟩ : ∃ c, m[k]? = some c := ⟨_, List.getElem?_eq_getElem h2⟩
        obtain ⟨uy, fu, e3, e4, e5, -⟩ := hdat'.out k _ hu
        have huone := e5.one
        have hd0 : wr.cell? ⟨g', k * 2, none⟩ = some (.string q) := (hg.below.cell (p := ⟨g', k * 2, none⟩) hgs').trans ((hcells' (k * 2) (by omega)).trans e3)
        have hd1 : wr.cell? ⟨g', k * 2 + 1, none⟩ = some uy := (hg.below.cell (p := ⟨g', k * 2 + 1, none⟩) hgs').trans ((hcells' (k * 2 + 1) (by omega)).trans e4)
        have hgr' : g' < wr.heap.size := Nat.lt_of_lt_of_le hgs' hg.size
        have hst0 := hkH.out.symm.trans (ds_step hv hu)
        have hga : Grew wr (((wr.alloc (.cells #[.string s, vx] 220)).alloc (.cells #[.string q, uy] 220))) := ((Grew.refl wr).alloc _).alloc _
        have hord0 := field_said s q v u (ihH.out v (List.mem_map.2 ⟨_, List.mem_of_getElem? hv, rfl⟩)) vx uy fv fu _ (e2.grew (hg.trans hga)) (e5.grew (hg.trans hga)) (hokH.out _ (List.mem_of_getElem? hv)) (hokH'.out _ (List.mem_of_getElem? hu))
        have hgaH := Lib.hid hga
        have hst1 : (if (if lexN (ordT s.data.toList) (ordT q.data.toList) = 0 then cmpV v u else lexN (ordT s.data.toList) (ordT q.data.toList)) = 0 then lexN (ordDs (l.drop (k + 1))) (ordDs (m.drop (k + 1))) else (if lexN (ordT s.data.toList) (ordT q.data.toList) = 0 then cmpV v u else lexN (ordT s.data.toList) (ordT q.data.toList))) = R := by
          rw [hst0]
          by_cases c1 : lexN (ordT s.data.toList) (ordT q.data.toList) = 0
          · rw [if_pos c1, if_pos c1]
          · rw [if_neg c1, if_neg c1, if_neg c1]
        obtain ⟨r, hr⟩ : ∃ r : Int, r = (if lexN (ordT s.data.toList) (ordT q.data.toList) = 0 then cmpV v u else lexN (ordT s.data.toList) (ordT q.data.toList)) := ⟨_, rfl⟩
        rw [← hr] at hst1 hord0
        have hst := Lib.hid hst1
        have hord := Lib.hid hord0
        clear hst0 hst1 hord0 hr hv hu hcells hcells' e0 e1 e2 e3 e4 e5 hg hga
        by_cases hr0 : r = 0
        · subst hr0
          have hnext := Lib.hid hst.out
          rw [if_pos rfl] at hnext
          go_wp2_with fail
          refine hord.out.mono ?_
          rintro e w' ⟨rfl, hg2⟩
          go_wp2_with fail
          go_roundw
          case rel => exact ⟨k + 1, by omega, by omega, by go_num, hnext.out, hgH.out.trans (hgaH.out.trans hg2)⟩
          case measure => simp [intOf]; omega
        · have hrb : (r != 0) = true := by simpa using hr0
          have hne := Lib.hid hst.out
          rw [if_neg hr0] at hne
          clear hr0
          go_wp2_with fail
          refine hord.out.mono ?_
          rintro e w' ⟨rfl, hg2⟩
          go_wp2_with fail
          go_ret
          exact ⟨ret_int hne.out, hgH.out.trans (hgaH.out.trans hg2)⟩
      · have hend := Lib.hid (hkH.out.symm.trans (ds_end (by omega) (by omega) (by omega)))
        have l2 : (m.length : Int) ≤ (k : Int) := by omega
        have hga := Lib.hid ((hg).alloc (.cells #[.string s, vx] 220))
        clear hv e0 e1 e2 hcells hg
        go_wp2_with fail
        go_ret
        exact ⟨ret_int (by rw [hend.out]; unfold cmpI; rw [if_neg (by omega), if_pos (by omega)]), hga.out⟩
    · have hend := Lib.hid (hkH.out.symm.trans (ds_end (by omega) (by omega) (by omega)))
      have l1 : ¬ (k : Int) < (l.length : Int) := by omega
      clear hg
      by_cases h2 : l.length < m.length
      · have l2 : (l.length : Int) < (m.length : Int) := by omega
        go_wp2_with fail
        go_ret
        exact ⟨ret_int (by rw [hend.out]; unfold cmpI; rw [if_pos (by omega)]), hgH.out⟩
      · have l2 : ¬ (l.length : Int) < (m.length : Int) := by omega
        go_wp2_with fail
        go_ret
        exact ⟨ret_int (by rw [hend.out]; unfold cmpI; rw [if_neg (by omega), if_neg (by omega)]), hgH.out⟩
end Go.Proofs.Ytgmdbpplfjkjmaa

/-! value.order of any two values that can be: 'order_any'. -/
namespace Go.Proofs.Ytgmdbpplfjkjmaa
open Go.RowKit Go.Sort
set_option linter.unusedVariables false
set_option linter.unusedSimpArgs false

@[go_sem] theorem tf_0 (xt : TypeId) (v : Value) (W : World) : (Instr.typeAssert (.iface 4 v) xt 4 false).run Try.prog W = .ok v W := by kernel_rfl
@[go_sem] theorem tf_1 (xt : TypeId) (v : Value) (W : World) : (Instr.typeAssert (.iface 2 v) xt 2 false).run Try.prog W = .ok v W := by kernel_rfl
@[go_sem] theorem tf_2 (xt : TypeId) (v : Value) (W : World) : (Instr.typeAssert (.iface 25 v) xt 25 false).run Try.prog W = .ok v W := by kernel_rfl
@[go_sem] theorem tf_3 (xt : TypeId) (v : Value) (W : World) : (Instr.typeAssert (.iface 9 v) xt 9 false).run Try.prog W = .ok v W := by kernel_rfl
@[go_sem] theorem tf_4 (xt : TypeId) (v : Value) (W : World) : (Instr.typeAssert (.iface 26 v) xt 26 false).run Try.prog W = .ok v W := by kernel_rfl
@[go_sem] theorem tf_5 (xt : TypeId) (v : Value) (W : World) : (Instr.typeAssert (.iface 28 v) xt 28 false).run Try.prog W = .ok v W := by kernel_rfl
@[go_sem] theorem tf_6 (xt : TypeId) (v : Value) (W : World) : (Instr.typeAssert (.iface 128 v) xt 128 false).run Try.prog W = .ok v W := by kernel_rfl
@[go_sem] theorem tf_7 (xt : TypeId) (v : Value) (W : World) : (Instr.typeAssert (.iface 130 v) xt 130 false).run Try.prog W = .ok v W := by kernel_rfl
@[go_sem] theorem tf_8 (xt : TypeId) (v : Value) (W : World) : (Instr.typeAssert (.iface 132 v) xt 132 false).run Try.prog W = .ok v W := by kernel_rfl
theorem okV_kind {v : Val} (ho : okV v) : 0 ≤ kindV v := by cases v <;> first | exact ho.elim | (simp [kindV])
theorem vcmp_self (x : Int) (w : World) : Calls Try.prog 226 #[.int .i64 x, .int .i64 x] w fun e w' => e = .returned (.int .i64 0) ∧ w = w' :=
  (vcmp_int x x w).mono fun _ _ ⟨he, hw⟩ => ⟨he.trans (ret_int (by unfold cmpI; rw [if_neg (by omega), if_neg (by omega)])), hw⟩
set_option maxRecDepth 100000 in
theorem order_kinds (v u : Val) (x y : Value) (fs gs : List Nat) (w : World) (h : VRep w v x fs) (h' : VRep w u y gs) (ho : okV v) (ho' : okV u) (hne : kindV v ≠ kindV u) :
    Calls Try.prog 185 #[x, y] w fun e w' => e = .returned (.int .i64 (cmpV v u)) ∧ Grew w w' := by
  rw [cmpV_kinds ho ho' hne (okV_kind ho) (okV_kind ho')]
  have hk := Lib.hid (fun W => kind_val h W)
  have hk' := Lib.hid (fun W => kind_val h' W)
  have hx := h.one
  have hy := h'.one
  have hcb : (cmpI (kindV v) (kindV u) != 0) = true := by simpa using fun h0 => hne (cmpI_zero h0)
  clear h h' ho ho' hne
  go_enter Try.func185, Try.ntmps185
  go_wp2_with fail
  refine (hk.out _).mono ?_
  rintro e w1 ⟨rfl, rfl⟩
  go_wp2_with fail
  refine (hk'.out _).mono ?_
  rintro e w1 ⟨rfl, rfl⟩
  go_wp2_with fail
  refine (vcmp_int _ _ _).mono ?_
  rintro e w1 ⟨rfl, rfl⟩
  go_wp2
  go_ret
  exact ⟨rfl, Grew.refl _⟩
set_option maxRecDepth 100000 in
set_option maxHeartbeats 800000 in
theorem order_nil (x y : Value) (fs gs : List Nat) (w : World) (h : VRep w (.nil) x fs) (h' : VRep w (.nil) y gs) (ho : okV (.nil)) (ho' : okV (.nil)) :
    Calls Try.prog 185 #[x, y] w fun e w' => e = .returned (.int .i64 (cmpV (.nil) (.nil))) ∧ Grew w w' := by
  have hk := Lib.hid (fun W => kind_val h W)
  have hk' := Lib.hid (fun W => kind_val h' W)
  simp only [VRep] at h h'
  obtain ⟨rfl, -⟩ := h
  obtain ⟨rfl, -⟩ := h'
  rw [cmpV_self]
  clear ho ho'
  go_enter Try.func185, Try.ntmps185
  go_wp2_with fail
  refine (hk.out _).mono ?_
  rintro e w1 ⟨rfl, rfl⟩
  go_wp2_with fail
  refine (hk'.out _).mono ?_
  rintro e w1 ⟨rfl, rfl⟩
  go_wp2_with fail
  refine (vcmp_self _ _).mono ?_
  rintro e w1 ⟨rfl, rfl⟩
  go_wp2
  go_ret
  exact ⟨rfl, Grew.refl _⟩
set_option maxRecDepth 100000 in
set_option maxHeartbeats 800000 in
theorem order_bool (b c : Bool) (x y : Value) (fs gs : List Nat) (w : World) (h : VRep w (.bool b) x fs) (h' : VRep w (.bool c) y gs) (ho : okV (.bool b)) (ho' : okV (.bool c)) :
    Calls Try.prog 185 #[x, y] w fun e w' => e = .returned (.int .i64 (cmpV (.bool b) (.bool c))) ∧ Grew w w' := by
  have hk := Lib.hid (fun W => kind_val h W)
  have hk' := Lib.hid (fun W => kind_val h' W)
  simp only [VRep] at h h'
  obtain ⟨rfl, -⟩ := h
  obtain ⟨rfl, -⟩ := h'
  rw [cmpV_bool]
  clear ho ho'
  go_enter Try.func185, Try.ntmps185
  go_wp2_with fail
  refine (hk.out _).mono ?_
  rintro e w1 ⟨rfl, rfl⟩
  go_wp2_with fail
  refine (hk'.out _).mono ?_
  rintro e w1 ⟨rfl, rfl⟩
  go_wp2_with fail
  refine (vcmp_self _ _).mono ?_
  rintro e w1 ⟨rfl, rfl⟩
  go_wp2_with fail
  go_quiet (first | (go_at_call 228; exact Calls.quiet_of_same ((truth_said _ _).mono fun _ _ ⟨he, hw⟩ => ⟨he, hw.symm⟩)) | (go_at_call 226; exact Calls.quiet_of_same ((vcmp_int _ _ _).mono fun _ _ ⟨he, hw⟩ => ⟨he, hw.symm⟩)))
  go_wp2
  go_ret
  exact ⟨rfl, (Grew.refl _).drewN _⟩
set_option maxRecDepth 100000 in
set_option maxHeartbeats 800000 in
theorem order_int (n m : Int) (x y : Value) (fs gs : List Nat) (w : World) (h : VRep w (.int n) x fs) (h' : VRep w (.int m) y gs) (ho : okV (.int n)) (ho' : okV (.int m)) :
    Calls Try.prog 185 #[x, y] w fun e w' => e = .returned (.int .i64 (cmpV (.int n) (.int m))) ∧ Grew w w' := by
  have hk := Lib.hid (fun W => kind_val h W)
  have hk' := Lib.hid (fun W => kind_val h' W)
  simp only [VRep] at h h'
  obtain ⟨rfl, hn, -⟩ := h
  obtain ⟨rfl, hm, -⟩ := h'
  have r1 : -9223372036854775808 ≤ n ∧ n ≤ 9223372036854775807 := by simpa [Lit.wf, IntKind.min, IntKind.max, IntKind.signed, IntKind.bits] using hn
  have r2 : -9223372036854775808 ≤ m ∧ m ≤ 9223372036854775807 := by simpa [Lit.wf, IntKind.min, IntKind.max, IntKind.signed, IntKind.bits] using hm
  rw [cmpV_int r1.1 r2.1]
  clear ho ho' hn hm r1 r2
  go_enter Try.func185, Try.ntmps185
  go_wp2_with fail
  refine (hk.out _).mono ?_
  rintro e w1 ⟨rfl, rfl⟩
  go_wp2_with fail
  refine (hk'.out _).mono ?_
  rintro e w1 ⟨rfl, rfl⟩
  go_wp2_with fail
  refine (vcmp_self _ _).mono ?_
  rintro e w1 ⟨rfl, rfl⟩
  go_wp2_with fail
  refine (vcmp_int64 _ _ _).mono ?_
  rintro e w1 ⟨rfl, rfl⟩
  go_wp2
  go_ret
  exact ⟨rfl, Grew.refl _⟩
set_option maxRecDepth 100000 in
set_option maxHeartbeats 800000 in
theorem order_float (a c : Nat) (x y : Value) (fs gs : List Nat) (w : World) (h : VRep w (.float a) x fs) (h' : VRep w (.float c) y gs) (ho : okV (.float a)) (ho' : okV (.float c)) :
    Calls Try.prog 185 #[x, y] w fun e w' => e = .returned (.int .i64 (cmpV (.float a) (.float c))) ∧ Grew w w' := by
  have hk := Lib.hid (fun W => kind_val h W)
  have hk' := Lib.hid (fun W => kind_val h' W)
  simp only [VRep] at h h'
  obtain ⟨rfl, hn, -⟩ := h
  obtain ⟨rfl, hm, -⟩ := h'
  have r1 : a < 18446744073709551616 := by simpa [Lit.wf] using hn
  have r2 : c < 18446744073709551616 := by simpa [Lit.wf] using hm
  rw [cmpV_float]
  clear ho ho' hn hm
  have r1H := Lib.hid r1
  have r2H := Lib.hid r2
  clear r1 r2
  go_enter Try.func185, Try.ntmps185
  go_wp2_with fail
  refine (hk.out _).mono ?_
  rintro e w1 ⟨rfl, rfl⟩
  go_wp2_with fail
  refine (hk'.out _).mono ?_
  rintro e w1 ⟨rfl, rfl⟩
  go_wp2_with fail
  refine (vcmp_self _ _).mono ?_
  rintro e w1 ⟨rfl, rfl⟩
  go_wp2_with fail
  go_quiet (first | (go_at_call 231; exact Calls.quiet_of_same ((vplace_said _ (by first | exact r1H.out | exact r2H.out) _).mono fun _ _ ⟨he, hw⟩ => ⟨he, hw.symm⟩)) | (go_at_call 230; exact Calls.quiet_of_same ((vcmp_uint64 _ _ _).mono fun _ _ ⟨he, hw⟩ => ⟨he, hw.symm⟩)))
  go_wp2
  go_ret
  exact ⟨rfl, (Grew.refl _).drewN _⟩
set_option maxRecDepth 100000 in
set_option maxHeartbeats 800000 in
theorem order_text (s q : ByteArray) (x y : Value) (fs gs : List Nat) (w : World) (h : VRep w (.text s) x fs) (h' : VRep w (.text q) y gs) (ho : okV (.text s)) (ho' : okV (.text q)) :
    Calls Try.prog 185 #[x, y] w fun e w' => e = .returned (.int .i64 (cmpV (.text s) (.text q))) ∧ Grew w w' := by
  have hk := Lib.hid (fun W => kind_val h W)
  have hk' := Lib.hid (fun W => kind_val h' W)
  simp only [VRep] at h h'
  obtain ⟨rfl, -⟩ := h
  obtain ⟨rfl, -⟩ := h'
  rw [cmpV_text]
  clear ho ho'
  go_enter Try.func185, Try.ntmps185
  go_wp2_with fail
  refine (hk.out _).mono ?_
  rintro e w1 ⟨rfl, rfl⟩
  go_wp2_with fail
  refine (hk'.out _).mono ?_
  rintro e w1 ⟨rfl, rfl⟩
  go_wp2_with fail
  refine (vcmp_self _ _).mono ?_
  rintro e w1 ⟨rfl, rfl⟩
  go_wp2_with fail
  refine (vcmp_string _ _ _).mono ?_
  rintro e w1 ⟨rfl, rfl⟩
  go_wp2
  go_ret
  exact ⟨rfl, Grew.refl _⟩
set_option maxRecDepth 100000 in
set_option maxHeartbeats 800000 in
theorem order_bytes (l m : List UInt8) (x y : Value) (fs gs : List Nat) (w : World) (h : VRep w (.bytes l) x fs) (h' : VRep w (.bytes m) y gs) (ho : okV (.bytes l)) (ho' : okV (.bytes m)) :
    Calls Try.prog 185 #[x, y] w fun e w' => e = .returned (.int .i64 (cmpV (.bytes l) (.bytes m))) ∧ Grew w w' := by
  have hk := Lib.hid (fun W => kind_val h W)
  have hk' := Lib.hid (fun W => kind_val h' W)
  simp only [VRep] at h h'
  obtain ⟨sv, rfl, hrow, -⟩ := h
  obtain ⟨sv', rfl, hrow', -⟩ := h'
  have hone : sv.oneCell' = true := by obtain ⟨_, _, rfl, -⟩ := ownsRow_form hrow; rfl
  have hone' : sv'.oneCell' = true := by obtain ⟨_, _, rfl, -⟩ := ownsRow_form hrow'; rfl
  have hc := Lib.hid (compare_bytes l m sv sv' w hrow hrow')
  rw [cmpV_bytes]
  clear ho ho' hrow hrow'
  go_enter Try.func185, Try.ntmps185
  go_wp2_with fail
  refine (hk.out _).mono ?_
  rintro e w1 ⟨rfl, rfl⟩
  go_wp2_with fail
  refine (hk'.out _).mono ?_
  rintro e w1 ⟨rfl, rfl⟩
  go_wp2_with fail
  refine (vcmp_self _ _).mono ?_
  rintro e w1 ⟨rfl, rfl⟩
  go_wp2_with fail
  refine (hc.out).mono ?_
  rintro e w1 ⟨rfl, rfl⟩
  go_wp2
  go_ret
  exact ⟨rfl, Grew.refl _⟩
set_option maxRecDepth 100000 in
set_option maxHeartbeats 800000 in
theorem order_ref (n m : Int) (x y : Value) (fs gs : List Nat) (w : World) (h : VRep w (.ref n) x fs) (h' : VRep w (.ref m) y gs) (ho : okV (.ref n)) (ho' : okV (.ref m)) :
    Calls Try.prog 185 #[x, y] w fun e w' => e = .returned (.int .i64 (cmpV (.ref n) (.ref m))) ∧ Grew w w' := by
  have hk := Lib.hid (fun W => kind_val h W)
  have hk' := Lib.hid (fun W => kind_val h' W)
  simp only [VRep] at h h'
  obtain ⟨rfl, hn, -⟩ := h
  obtain ⟨rfl, hm, -⟩ := h'
  have r1 : 0 ≤ n ∧ n ≤ 18446744073709551615 := by simpa [Lit.wf, IntKind.min, IntKind.max, IntKind.signed, IntKind.bits] using hn
  have r2 : 0 ≤ m ∧ m ≤ 18446744073709551615 := by simpa [Lit.wf, IntKind.min, IntKind.max, IntKind.signed, IntKind.bits] using hm
  rw [cmpV_ref r1.1 r2.1]
  clear ho ho' hn hm r1 r2
  go_enter Try.func185, Try.ntmps185
  go_wp2_with fail
  refine (hk.out _).mono ?_
  rintro e w1 ⟨rfl, rfl⟩
  go_wp2_with fail
  refine (hk'.out _).mono ?_
  rintro e w1 ⟨rfl, rfl⟩
  go_wp2_with fail
  refine (vcmp_self _ _).mono ?_
  rintro e w1 ⟨rfl, rfl⟩
  go_wp2_with fail
  refine (vcmp_ref _ _ _).mono ?_
  rintro e w1 ⟨rfl, rfl⟩
  go_wp2
  go_ret
  exact ⟨rfl, Grew.refl _⟩
set_option maxRecDepth 100000 in
set_option maxHeartbeats 800000 in
theorem order_list (l m : List Val) (ih : ∀ v ∈ l, OrderSaid v) (x y : Value) (fs gs : List Nat) (w : World) (h : VRep w (.list l) x fs) (h' : VRep w (.list m) y gs) (ho : okV (.list l)) (ho' : okV (.list m)) :
    Calls Try.prog 185 #[x, y] w fun e w' => e = .returned (.int .i64 (cmpV (.list l) (.list m))) ∧ Grew w w' := by
  have hk := Lib.hid (fun W => kind_val h W)
  have hk' := Lib.hid (fun W => kind_val h' W)
  simp only [VRep] at h h'
  obtain ⟨sv, xs, g1, rfl, hrow, hxs, -⟩ := h
  obtain ⟨sv', ys, g2, rfl, hrow', hys, -⟩ := h'
  have hone : sv.oneCell' = true := by obtain ⟨_, _, rfl, -⟩ := ownsRow_form hrow; rfl
  have hone' : sv'.oneCell' = true := by obtain ⟨_, _, rfl, -⟩ := ownsRow_form hrow'; rfl
  have hc := Lib.hid (cmpfunc_list l m ih sv sv' xs ys g1 g2 w hrow hxs hrow' hys ho.2 ho'.2)
  rw [cmpV_list]
  clear ho ho' hrow hrow' hxs hys ih
  go_enter Try.func185, Try.ntmps185
  go_wp2_with fail
  refine (hk.out _).mono ?_
  rintro e w1 ⟨rfl, rfl⟩
  go_wp2_with fail
  refine (hk'.out _).mono ?_
  rintro e w1 ⟨rfl, rfl⟩
  go_wp2_with fail
  refine (vcmp_self _ _).mono ?_
  rintro e w1 ⟨rfl, rfl⟩
  go_wp2_with fail
  refine (hc.out).mono ?_
  rintro e w1 ⟨rfl, hg⟩
  go_wp2
  go_ret
  exact ⟨rfl, hg⟩
set_option maxRecDepth 100000 in
set_option maxHeartbeats 800000 in
theorem order_dict (l m : List (ByteArray × Val)) (ih : ∀ v ∈ l.map (·.2), OrderSaid v) (x y : Value) (fs gs : List Nat) (w : World) (h : VRep w (.dict l) x fs) (h' : VRep w (.dict m) y gs) (ho : okV (.dict l)) (ho' : okV (.dict m)) :
    Calls Try.prog 185 #[x, y] w fun e w' => e = .returned (.int .i64 (cmpV (.dict l) (.dict m))) ∧ Grew w w' := by
  have hk := Lib.hid (fun W => kind_val h W)
  have hk' := Lib.hid (fun W => kind_val h' W)
  simp only [VRep] at h h'
  obtain ⟨sv, xs, g1, rfl, hrow, hxs, -⟩ := h
  obtain ⟨sv', ys, g2, rfl, hrow', hys, -⟩ := h'
  have hone : sv.oneCell' = true := by obtain ⟨_, _, rfl, -⟩ := ownsRow_form hrow; rfl
  have hone' : sv'.oneCell' = true := by obtain ⟨_, _, rfl, -⟩ := ownsRow_form hrow'; rfl
  have hc := Lib.hid (cmpfunc_dict l m ih sv sv' xs ys g1 g2 w hrow hxs hrow' hys ho.2 ho'.2)
  rw [cmpV_dict]
  clear ho ho' hrow hrow' hxs hys ih
  go_enter Try.func185, Try.ntmps185
  go_wp2_with fail
  refine (hk.out _).mono ?_
  rintro e w1 ⟨rfl, rfl⟩
  go_wp2_with fail
  refine (hk'.out _).mono ?_
  rintro e w1 ⟨rfl, rfl⟩
  go_wp2_with fail
  refine (vcmp_self _ _).mono ?_
  rintro e w1 ⟨rfl, rfl⟩
  go_wp2_with fail
  refine (hc.out).mono ?_
  rintro e w1 ⟨rfl, hg⟩
  go_wp2
  go_ret
  exact ⟨rfl, hg⟩
set_option maxRecDepth 100000 in
set_option maxHeartbeats 800000 in
theorem order_record (c c' : ByteArray) (n n' : Int) (l m : List (ByteArray × Val)) (ih : ∀ v ∈ l.map (·.2), OrderSaid v) (x y : Value) (fs gs : List Nat) (w : World) (h : VRep w (.record c n l) x fs) (h' : VRep w (.record c' n' m) y gs) (ho : okV (.record c n l)) (ho' : okV (.record c' n' m)) :
    Calls Try.prog 185 #[x, y] w fun e w' => e = .returned (.int .i64 (cmpV (.record c n l) (.record c' n' m))) ∧ Grew w w' := by
  have hk := Lib.hid (fun W => kind_val h W)
  have hk' := Lib.hid (fun W => kind_val h' W)
  simp only [VRep] at h h'
  obtain ⟨b, sv, xs, g1, rfl, hblk, -, -, hrow, hxs, -⟩ := h
  obtain ⟨b', sv', ys, g2, rfl, hblk', -, -, hrow', hys, -⟩ := h'
  have hone : sv.oneCell' = true := by obtain ⟨_, _, rfl, -⟩ := ownsRow_form hrow; rfl
  have hone' : sv'.oneCell' = true := by obtain ⟨_, _, rfl, -⟩ := ownsRow_form hrow'; rfl
  have hlt : b < w.heap.size := (Array.getElem?_eq_some_iff.1 hblk).1
  have hlt' : b' < w.heap.size := (Array.getElem?_eq_some_iff.1 hblk').1
  have hcl : ∀ i v, (#[Value.string c, .int .i64 n, sv] : Array Value)[i]? = some v → w.cell? ⟨b, i, none⟩ = some v := fun i v hv => by rw [World.cell?, hblk]; exact hv
  have hcl' : ∀ i v, (#[Value.string c', .int .i64 n', sv'] : Array Value)[i]? = some v → w.cell? ⟨b', i, none⟩ = some v := fun i v hv => by rw [World.cell?, hblk']; exact hv
  have q0 := hcl 0 _ rfl
  have q1 := hcl 1 _ rfl
  have q2 := hcl 2 _ rfl
  have p0 := hcl' 0 _ rfl
  have p1 := hcl' 1 _ rfl
  have p2 := hcl' 2 _ rfl
  have hc := Lib.hid (fun W (hg : Grew w W) => cmpfunc_dict l m ih sv sv' xs ys g1 g2 W (ownsRow_keep hrow (fun b hb => hg.below.block b (ownsRow_lt hrow b hb).2)) (DsRep.keep l xs g1 hxs (fun b hb => hg.below.block b (DsRep.lt _ _ _ hxs b hb))) (ownsRow_keep hrow' (fun b hb => hg.below.block b (ownsRow_lt hrow' b hb).2)) (DsRep.keep m ys g2 hys (fun b hb => hg.below.block b (DsRep.lt _ _ _ hys b hb))) ho.2 ho'.2)
  obtain ⟨-, v0, v1, -⟩ := record_own ho.1
  obtain ⟨-, v2, v3, -⟩ := record_own ho'.1
  have hrec0 := cmpV_record c c' (by omega : 0 ≤ n) (by omega : 0 ≤ n') l m
  obtain ⟨r, hr⟩ : ∃ r : Int, r = lexN (ordT c.data.toList) (ordT c'.data.toList) := ⟨_, rfl⟩
  obtain ⟨r3, hr3⟩ : ∃ r : Int, r = cmpV (.record c n l) (.record c' n' m) := ⟨_, rfl⟩
  obtain ⟨r4, hr4⟩ : ∃ r : Int, r = lexN (ordDs l) (ordDs m) := ⟨_, rfl⟩
  have htxt0 := fun W => vcmp_string c c' W
  rw [← hr] at htxt0 hrec0
  rw [← hr4] at hrec0 hc
  rw [← hr3] at hrec0 ⊢
  have htxt := Lib.hid htxt0
  have hrec := Lib.hid hrec0
  clear htxt0 hrec0 hr hr3 hr4 hcl hcl' hblk hblk' hrow hrow' hxs hys ih ho ho'
  go_enter Try.func185, Try.ntmps185
  go_wp2_with fail
  refine (hk.out _).mono ?_
  rintro e w1 ⟨rfl, rfl⟩
  go_wp2_with fail
  refine (hk'.out _).mono ?_
  rintro e w1 ⟨rfl, rfl⟩
  go_wp2_with fail
  refine (vcmp_self _ _).mono ?_
  rintro e w1 ⟨rfl, rfl⟩
  go_wp2_with fail
  go_quiet ((go_at_call 232; exact Calls.quiet_of_same ((htxt.out _).mono fun _ _ ⟨he, hw⟩ => ⟨he, hw.symm⟩)))
  have hg1 : Grew w (w.drewN nq) := (Grew.refl w).drewN nq
  have s0 : (w.drewN nq).cell? ⟨b, 1, none⟩ = some (.int .i64 n) := q1
  have s1 : (w.drewN nq).cell? ⟨b, 2, none⟩ = some sv := q2
  have t0 : (w.drewN nq).cell? ⟨b', 1, none⟩ = some (.int .i64 n') := p1
  have t1 : (w.drewN nq).cell? ⟨b', 2, none⟩ = some sv' := p2
  have hz : (w.drewN nq).heap.size = w.heap.size := rfl
  have hl1 : b < (w.drewN nq).heap.size := hlt
  have hl2 : b' < (w.drewN nq).heap.size := hlt'
  clear q0 q1 q2 p0 p1 p2 hz
  revert hg1 s0 s1 t0 t1 hl1 hl2
  generalize w.drewN nq = w1
  intro hg1 s0 s1 t0 t1 hl1 hl2
  by_cases hc0 : r = 0
  · subst hc0
    rw [if_pos rfl] at hrec
    go_wp2_with fail
    go_quiet ((go_at_call 226; exact Calls.quiet_of_same ((vcmp_int _ _ _).mono fun _ _ ⟨he, hw⟩ => ⟨he, hw.symm⟩)))
    rename_i nq1
    have hg2 : Grew w (w1.drewN nq) := hg1.drewN nq
    have s2 : (w1.drewN nq).cell? ⟨b, 2, none⟩ = some sv := s1
    have t2 : (w1.drewN nq).cell? ⟨b', 2, none⟩ = some sv' := t1
    have hl3 : b < (w1.drewN nq).heap.size := hl1
    have hl4 : b' < (w1.drewN nq).heap.size := hl2
    clear s0 s1 t0 t1
    revert hg2 s2 t2 hl3 hl4
    generalize w1.drewN nq = w2
    intro hg2 s2 t2 hl3 hl4
    by_cases hvv : n = n'
    · subst hvv
      rw [if_pos rfl] at hrec
      rw [show cmpI n n = 0 from by unfold cmpI; rw [if_neg (by omega), if_neg (by omega)]]
      go_wp2_with fail
      have s3 := fun k os => cell_grown hl3 s2 k os
      have t3 := fun k os => cell_grown hl4 t2 k os
      have hcc := Lib.hid (fun k os => hc.out (grow (w2.drewN k) os) (hg2.trans ⟨⟨k, os⟩, rfl⟩))
      have mixed : Try.prog.follows .mixedOrders = true := by kernel_rfl
      go_quiet_grown ((go_at_call 236; exact Calls.in_grown (hcc.out _ _)))
      go_wp2
      go_ret
      exact ⟨ret_int hrec.out.symm, hg2.trans ⟨⟨_, _⟩, rfl⟩⟩
    · rw [if_neg hvv] at hrec
      have hcb : (cmpI n n' != 0) = true := by simpa using fun h0 => hvv (cmpI_zero h0)
      clear hvv
      go_wp2
      go_ret
      exact ⟨ret_int hrec.out.symm, hg2⟩
  · have hcb : (r != 0) = true := by simpa using hc0
    rw [if_neg hc0] at hrec
    clear hc0
    go_wp2
    go_ret
    exact ⟨ret_int hrec.out.symm, hg1⟩
theorem order_any : ∀ v : Val, OrderSaid v := val_ind fun v ih => by
  intro u x y fs gs w h h' ho ho'
  by_cases hk : kindV v = kindV u
  · cases v <;> cases u <;> first
      | exact ho.elim
      | exact ho'.elim
      | (exfalso; simp [kindV] at hk; done)
      | exact order_nil x y fs gs w h h' ho ho'
      | exact order_bool _ _ x y fs gs w h h' ho ho'
      | exact order_int _ _ x y fs gs w h h' ho ho'
      | exact order_float _ _ x y fs gs w h h' ho ho'
      | exact order_text _ _ x y fs gs w h h' ho ho'
      | exact order_bytes _ _ x y fs gs w h h' ho ho'
      | exact order_ref _ _ x y fs gs w h h' ho ho'
      | exact order_list _ _ ih x y fs gs w h h' ho ho'
      | exact order_dict _ _ ih x y fs gs w h h' ho ho'
      | exact order_record _ _ _ _ _ _ ih x y fs gs w h h' ho ho'
  · exact order_kinds v u x y fs gs w h h' ho ho' hk
end Go.Proofs.Ytgmdbpplfjkjmaa
