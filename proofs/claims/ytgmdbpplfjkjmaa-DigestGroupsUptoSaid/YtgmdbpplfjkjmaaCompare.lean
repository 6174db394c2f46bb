/- tenonref01.Compare: the order of values. -/
import Derived.Test.YtgmdbpplfjkjmaaLexO
namespace Go.Proofs.Ytgmdbpplfjkjmaa
open Go.RowKit
set_option linter.unusedVariables false
set_option linter.unusedSimpArgs false

/-- A comparison's answer. -/
def CmpEnd (c : Int) (w : World) (e : Ending) (w' : World) : Prop := e = .returned (.int .i64 c) ∧ Below w.heap.size w w'
set_option maxRecDepth 100000 in
theorem flag_said (b : Bool) (w : World) : Calls Try.prog 142 #[.bool b] w fun e w' => e = .returned (.int .u64 (bif b then 1 else 0)) ∧ w = w' := by
  cases b
  all_goals
    go_enter Try.func142, Try.ntmps142
    go_wp2
    go_ret
    exact ⟨rfl, rfl⟩
set_option maxRecDepth 100000 in
theorem place_said (x : Nat) (hx : x < 18446744073709551616) (w : World) : Calls Try.prog 143 #[.float .f64 x] w fun e w' => e = .returned (.int .u64 (placeN x)) ∧ w = w' := by
  have hfb := fun W => bits_of_float x W
  by_cases h : 9223372036854775808 ≤ x
  · have hi : (9223372036854775808 : Int) ≤ (x : Int) := by omega
    have hp : ((placeN x : Nat) : Int) = 18446744073709551615 - (x : Int) := by unfold placeN; rw [if_pos h]; omega
    rw [hp]
    go_enter Try.func143, Try.ntmps143
    go_wp2
    go_ret
    refine ⟨?_, rfl⟩
    have hm : IntKind.u64.max = ((18446744073709551615 : Nat) : Int) := rfl
    show Ending.returned (.int .u64 (bits .xor .u64 IntKind.u64.max (x : Int))) = _
    rw [hm, bits_xor_u64_nat _ _ (by decide) hx, Nat.xor_comm, xor_ones _ hx]
    exact ret_int (by omega)
  · have hi : ¬ (9223372036854775808 : Int) ≤ (x : Int) := by omega
    have hp : ((placeN x : Nat) : Int) = (x : Int) + 9223372036854775808 := by unfold placeN; rw [if_neg h]; omega
    rw [hp]
    go_enter Try.func143, Try.ntmps143
    go_wp2
    go_ret
    exact ⟨rfl, rfl⟩
theorem ok_kind {k : Int} {b : Bool} {n : Int} {fl : Nat} {tx : ByteArray} {bs : List UInt8} {rf : Int} {ls : List Term} {es : List (ByteArray × Term)} {cl : ByteArray} {ver : Int} (h : okV (builtV (.mk k b n fl tx bs rf ls es cl ver))) : 1 ≤ k ∧ k ≤ 10 ∧ kindV (builtV (.mk k b n fl tx bs rf ls es cl ver)) = k := by
  by_cases hk : 1 ≤ k ∧ k ≤ 10
  · refine ⟨hk.1, hk.2, ?_⟩
    have : k = 1 ∨ k = 2 ∨ k = 3 ∨ k = 4 ∨ k = 5 ∨ k = 6 ∨ k = 7 ∨ k = 8 ∨ k = 9 ∨ k = 10 := by omega
    rcases this with rfl | rfl | rfl | rfl | rfl | rfl | rfl | rfl | rfl | rfl <;> (rw [builtV]; rfl)
  · exfalso
    rw [builtV, show (k == 1) = false by simp; omega, show (k == 2) = false by simp; omega, show (k == 3) = false by simp; omega, show (k == 4) = false by simp; omega, show (k == 5) = false by simp; omega, show (k == 6) = false by simp; omega, show (k == 7) = false by simp; omega, show (k == 8) = false by simp; omega, show (k == 9) = false by simp; omega, show (k == 10) = false by simp; omega] at h
    simp only [cond_false] at h
    cases hk2 : k == 11 <;> rw [hk2] at h <;> exact h
section
variable (b b' : Bool) (n n' : Int) (fl fl' : Nat) (tx tx' : ByteArray) (bs bs' : List UInt8) (rf rf' : Int) (ls ls' : List Term) (es es' : List (ByteArray × Term)) (cl cl' : ByteArray) (ver ver' : Int)

set_option maxRecDepth 100000 in
set_option maxHeartbeats 1600000 in
theorem cmp_kinds (k k' : Int) (hkk : (k != k') = true) (cs ds : List Value) (w : World) (h : TRep w (.mk k b n fl tx bs rf ls es cl ver) cs) (h' : TRep w (.mk k' b' n' fl' tx' bs' rf' ls' es' cl' ver') ds) (hok : okV (builtV (.mk k b n fl tx bs rf ls es cl ver))) (hok' : okV (builtV (.mk k' b' n' fl' tx' bs' rf' ls' es' cl' ver'))) :
    Calls Try.prog 77 #[.agg cs.toArray, .agg ds.toArray] w (CmpEnd (cmpV (builtV (.mk k b n fl tx bs rf ls es cl ver)) (builtV (.mk k' b' n' fl' tx' bs' rf' ls' es' cl' ver'))) w) := by
  simp only [TRep] at h h'
  obtain ⟨sb, sl, se, xl, xe, rfl, ⟨hk, hn, hf, ht, hr, hc, hv⟩, hrb, hrl, htl, hre, hte⟩ := h
  obtain ⟨sb', sl', se', xl', xe', rfl, ⟨hk', hn', hf', ht', hr', hc', hv'⟩, hrb', hrl', htl', hre', hte'⟩ := h'
  have hrbH := Lib.hid hrb
  have hrlH := Lib.hid hrl
  have hreH := Lib.hid hre
  have hrbH' := Lib.hid hrb'
  have hrlH' := Lib.hid hrl'
  have hreH' := Lib.hid hre'
  have htlH := Lib.hid htl
  have htlH' := Lib.hid htl'
  have hteH := Lib.hid hte
  have hteH' := Lib.hid hte'
  obtain ⟨ob, ocb, rfl, -⟩ := hrb
  obtain ⟨ol, ocl, rfl, -⟩ := hrl
  obtain ⟨oe, oce, rfl, -⟩ := hre
  obtain ⟨ob', ocb', rfl, -⟩ := hrb'
  obtain ⟨ol', ocl', rfl, -⟩ := hrl'
  obtain ⟨oe', oce', rfl, -⟩ := hre'
  have hb2 : Below w.heap.size w ((w.alloc (.cells #[.int .i64 k, .bool b, .int .i64 n, .float .f64 fl, .string tx, .slice ob bs.length ocb, .int .u64 rf, .slice ol ls.length ocl, .slice oe es.length oce, .string cl, .int .i64 ver] 31)).alloc (.cells #[.int .i64 k', .bool b', .int .i64 n', .float .f64 fl', .string tx', .slice ob' bs'.length ocb', .int .u64 rf', .slice ol' ls'.length ocl', .slice oe' es'.length oce', .string cl', .int .i64 ver'] 31)) := ((Below.refl _ _).alloc (Nat.le_refl _) _).alloc (by simp) _
  have k1 := ok_kind hok
  have k2 := ok_kind hok'
  have hne : ¬ k = k' := by simpa using hkk
  have w1 : IntKind.u64.wrap k = k := by rw [IntKind.wrap_u64]; omega
  have w2 : IntKind.u64.wrap k' = k' := by rw [IntKind.wrap_u64]; omega
  have hP0 := (cmpV_kinds hok hok' (by rw [k1.2.2, k2.2.2]; exact hne) (by omega) (by omega))
  rw [k1.2.2, k2.2.2] at hP0
  have hP := Lib.hid hP0
  clear k1 k2 hne hok hok' hP0
  clear htl hte htl' hte'
  go_enter Try.func77, Try.ntmps77
  go_wp2_with fail
  refine (numbers_said _ _ _).mono ?_
  rintro e w3 ⟨rfl, rfl⟩
  go_wp2
  go_ret
  exact ⟨ret_int hP.out.symm, hb2⟩

set_option maxRecDepth 100000 in
set_option maxHeartbeats 1600000 in
theorem cmp_nil (cs ds : List Value) (w : World) (h : TRep w (.mk 1 b n fl tx bs rf ls es cl ver) cs) (h' : TRep w (.mk 1 b' n' fl' tx' bs' rf' ls' es' cl' ver') ds) (hok : okV (builtV (.mk 1 b n fl tx bs rf ls es cl ver))) (hok' : okV (builtV (.mk 1 b' n' fl' tx' bs' rf' ls' es' cl' ver'))) :
    Calls Try.prog 77 #[.agg cs.toArray, .agg ds.toArray] w (CmpEnd (cmpV (builtV (.mk 1 b n fl tx bs rf ls es cl ver)) (builtV (.mk 1 b' n' fl' tx' bs' rf' ls' es' cl' ver'))) w) := by
  simp only [TRep] at h h'
  obtain ⟨sb, sl, se, xl, xe, rfl, ⟨hk, hn, hf, ht, hr, hc, hv⟩, hrb, hrl, htl, hre, hte⟩ := h
  obtain ⟨sb', sl', se', xl', xe', rfl, ⟨hk', hn', hf', ht', hr', hc', hv'⟩, hrb', hrl', htl', hre', hte'⟩ := h'
  have hrbH := Lib.hid hrb
  have hrlH := Lib.hid hrl
  have hreH := Lib.hid hre
  have hrbH' := Lib.hid hrb'
  have hrlH' := Lib.hid hrl'
  have hreH' := Lib.hid hre'
  have htlH := Lib.hid htl
  have htlH' := Lib.hid htl'
  have hteH := Lib.hid hte
  have hteH' := Lib.hid hte'
  obtain ⟨ob, ocb, rfl, -⟩ := hrb
  obtain ⟨ol, ocl, rfl, -⟩ := hrl
  obtain ⟨oe, oce, rfl, -⟩ := hre
  obtain ⟨ob', ocb', rfl, -⟩ := hrb'
  obtain ⟨ol', ocl', rfl, -⟩ := hrl'
  obtain ⟨oe', oce', rfl, -⟩ := hre'
  have hb2 : Below w.heap.size w ((w.alloc (.cells #[.int .i64 1, .bool b, .int .i64 n, .float .f64 fl, .string tx, .slice ob bs.length ocb, .int .u64 rf, .slice ol ls.length ocl, .slice oe es.length oce, .string cl, .int .i64 ver] 31)).alloc (.cells #[.int .i64 1, .bool b', .int .i64 n', .float .f64 fl', .string tx', .slice ob' bs'.length ocb', .int .u64 rf', .slice ol' ls'.length ocl', .slice oe' es'.length oce', .string cl', .int .i64 ver'] 31)) := ((Below.refl _ _).alloc (Nat.le_refl _) _).alloc (by simp) _
  have e1 : builtV (.mk 1 b n fl tx bs rf ls es cl ver) = .nil := by rw [builtV]; rfl
  have e2 : builtV (.mk 1 b' n' fl' tx' bs' rf' ls' es' cl' ver') = .nil := by rw [builtV]; rfl
  rw [e1, e2]
  clear htl hte htl' hte'
  go_enter Try.func77, Try.ntmps77
  go_wp2
  go_ret
  exact ⟨ret_int (cmpV_self _).symm, hb2⟩

set_option maxRecDepth 100000 in
set_option maxHeartbeats 1600000 in
theorem cmp_int (cs ds : List Value) (w : World) (h : TRep w (.mk 3 b n fl tx bs rf ls es cl ver) cs) (h' : TRep w (.mk 3 b' n' fl' tx' bs' rf' ls' es' cl' ver') ds) (hok : okV (builtV (.mk 3 b n fl tx bs rf ls es cl ver))) (hok' : okV (builtV (.mk 3 b' n' fl' tx' bs' rf' ls' es' cl' ver'))) :
    Calls Try.prog 77 #[.agg cs.toArray, .agg ds.toArray] w (CmpEnd (cmpV (builtV (.mk 3 b n fl tx bs rf ls es cl ver)) (builtV (.mk 3 b' n' fl' tx' bs' rf' ls' es' cl' ver'))) w) := by
  simp only [TRep] at h h'
  obtain ⟨sb, sl, se, xl, xe, rfl, ⟨hk, hn, hf, ht, hr, hc, hv⟩, hrb, hrl, htl, hre, hte⟩ := h
  obtain ⟨sb', sl', se', xl', xe', rfl, ⟨hk', hn', hf', ht', hr', hc', hv'⟩, hrb', hrl', htl', hre', hte'⟩ := h'
  have hrbH := Lib.hid hrb
  have hrlH := Lib.hid hrl
  have hreH := Lib.hid hre
  have hrbH' := Lib.hid hrb'
  have hrlH' := Lib.hid hrl'
  have hreH' := Lib.hid hre'
  have htlH := Lib.hid htl
  have htlH' := Lib.hid htl'
  have hteH := Lib.hid hte
  have hteH' := Lib.hid hte'
  obtain ⟨ob, ocb, rfl, -⟩ := hrb
  obtain ⟨ol, ocl, rfl, -⟩ := hrl
  obtain ⟨oe, oce, rfl, -⟩ := hre
  obtain ⟨ob', ocb', rfl, -⟩ := hrb'
  obtain ⟨ol', ocl', rfl, -⟩ := hrl'
  obtain ⟨oe', oce', rfl, -⟩ := hre'
  have hb2 : Below w.heap.size w ((w.alloc (.cells #[.int .i64 3, .bool b, .int .i64 n, .float .f64 fl, .string tx, .slice ob bs.length ocb, .int .u64 rf, .slice ol ls.length ocl, .slice oe es.length oce, .string cl, .int .i64 ver] 31)).alloc (.cells #[.int .i64 3, .bool b', .int .i64 n', .float .f64 fl', .string tx', .slice ob' bs'.length ocb', .int .u64 rf', .slice ol' ls'.length ocl', .slice oe' es'.length oce', .string cl', .int .i64 ver'] 31)) := ((Below.refl _ _).alloc (Nat.le_refl _) _).alloc (by simp) _
  have e1 : builtV (.mk 3 b n fl tx bs rf ls es cl ver) = .int n := by rw [builtV]; rfl
  have e2 : builtV (.mk 3 b' n' fl' tx' bs' rf' ls' es' cl' ver') = .int n' := by rw [builtV]; rfl
  rw [e1, e2]
  have r1 : -9223372036854775808 ≤ n ∧ n ≤ 9223372036854775807 := by simpa [Lit.wf, IntKind.min, IntKind.max, IntKind.signed, IntKind.bits] using hn
  have r2 : -9223372036854775808 ≤ n' ∧ n' ≤ 9223372036854775807 := by simpa [Lit.wf, IntKind.min, IntKind.max, IntKind.signed, IntKind.bits] using hn'
  rw [cmpV_int r1.1 r2.1]
  clear e1 e2
  clear htl hte htl' hte'
  go_enter Try.func77, Try.ntmps77
  go_wp2_with fail
  refine (numbers_said _ _ _).mono ?_
  rintro e w3 ⟨rfl, rfl⟩
  go_wp2
  go_ret
  refine ⟨ret_int (cmpI_congr ?_ ?_), hb2⟩
  all_goals
    rw [IntKind.wrap_u64, IntKind.wrap_u64, IntKind.wrap_u64, IntKind.wrap_u64]
    omega

set_option maxRecDepth 100000 in
set_option maxHeartbeats 1600000 in
theorem cmp_ref (cs ds : List Value) (w : World) (h : TRep w (.mk 7 b n fl tx bs rf ls es cl ver) cs) (h' : TRep w (.mk 7 b' n' fl' tx' bs' rf' ls' es' cl' ver') ds) (hok : okV (builtV (.mk 7 b n fl tx bs rf ls es cl ver))) (hok' : okV (builtV (.mk 7 b' n' fl' tx' bs' rf' ls' es' cl' ver'))) :
    Calls Try.prog 77 #[.agg cs.toArray, .agg ds.toArray] w (CmpEnd (cmpV (builtV (.mk 7 b n fl tx bs rf ls es cl ver)) (builtV (.mk 7 b' n' fl' tx' bs' rf' ls' es' cl' ver'))) w) := by
  simp only [TRep] at h h'
  obtain ⟨sb, sl, se, xl, xe, rfl, ⟨hk, hn, hf, ht, hr, hc, hv⟩, hrb, hrl, htl, hre, hte⟩ := h
  obtain ⟨sb', sl', se', xl', xe', rfl, ⟨hk', hn', hf', ht', hr', hc', hv'⟩, hrb', hrl', htl', hre', hte'⟩ := h'
  have hrbH := Lib.hid hrb
  have hrlH := Lib.hid hrl
  have hreH := Lib.hid hre
  have hrbH' := Lib.hid hrb'
  have hrlH' := Lib.hid hrl'
  have hreH' := Lib.hid hre'
  have htlH := Lib.hid htl
  have htlH' := Lib.hid htl'
  have hteH := Lib.hid hte
  have hteH' := Lib.hid hte'
  obtain ⟨ob, ocb, rfl, -⟩ := hrb
  obtain ⟨ol, ocl, rfl, -⟩ := hrl
  obtain ⟨oe, oce, rfl, -⟩ := hre
  obtain ⟨ob', ocb', rfl, -⟩ := hrb'
  obtain ⟨ol', ocl', rfl, -⟩ := hrl'
  obtain ⟨oe', oce', rfl, -⟩ := hre'
  have hb2 : Below w.heap.size w ((w.alloc (.cells #[.int .i64 7, .bool b, .int .i64 n, .float .f64 fl, .string tx, .slice ob bs.length ocb, .int .u64 rf, .slice ol ls.length ocl, .slice oe es.length oce, .string cl, .int .i64 ver] 31)).alloc (.cells #[.int .i64 7, .bool b', .int .i64 n', .float .f64 fl', .string tx', .slice ob' bs'.length ocb', .int .u64 rf', .slice ol' ls'.length ocl', .slice oe' es'.length oce', .string cl', .int .i64 ver'] 31)) := ((Below.refl _ _).alloc (Nat.le_refl _) _).alloc (by simp) _
  have e1 : builtV (.mk 7 b n fl tx bs rf ls es cl ver) = .ref rf := by rw [builtV]; rfl
  have e2 : builtV (.mk 7 b' n' fl' tx' bs' rf' ls' es' cl' ver') = .ref rf' := by rw [builtV]; rfl
  have r1 : 0 ≤ rf := by have : 0 ≤ rf ∧ rf ≤ 18446744073709551615 := by simpa [Lit.wf, IntKind.min, IntKind.max, IntKind.signed, IntKind.bits] using hr
                         omega
  have r2 : 0 ≤ rf' := by have : 0 ≤ rf' ∧ rf' ≤ 18446744073709551615 := by simpa [Lit.wf, IntKind.min, IntKind.max, IntKind.signed, IntKind.bits] using hr'
                          omega
  rw [e1, e2, cmpV_ref r1 r2]
  clear e1 e2
  clear htl hte htl' hte'
  go_enter Try.func77, Try.ntmps77
  go_wp2_with fail
  refine (numbers_said _ _ _).mono ?_
  rintro e w3 ⟨rfl, rfl⟩
  go_wp2
  go_ret
  exact ⟨rfl, hb2⟩

set_option maxRecDepth 100000 in
set_option maxHeartbeats 1600000 in
theorem cmp_text (cs ds : List Value) (w : World) (h : TRep w (.mk 5 b n fl tx bs rf ls es cl ver) cs) (h' : TRep w (.mk 5 b' n' fl' tx' bs' rf' ls' es' cl' ver') ds) (hok : okV (builtV (.mk 5 b n fl tx bs rf ls es cl ver))) (hok' : okV (builtV (.mk 5 b' n' fl' tx' bs' rf' ls' es' cl' ver'))) :
    Calls Try.prog 77 #[.agg cs.toArray, .agg ds.toArray] w (CmpEnd (cmpV (builtV (.mk 5 b n fl tx bs rf ls es cl ver)) (builtV (.mk 5 b' n' fl' tx' bs' rf' ls' es' cl' ver'))) w) := by
  simp only [TRep] at h h'
  obtain ⟨sb, sl, se, xl, xe, rfl, ⟨hk, hn, hf, ht, hr, hc, hv⟩, hrb, hrl, htl, hre, hte⟩ := h
  obtain ⟨sb', sl', se', xl', xe', rfl, ⟨hk', hn', hf', ht', hr', hc', hv'⟩, hrb', hrl', htl', hre', hte'⟩ := h'
  have hrbH := Lib.hid hrb
  have hrlH := Lib.hid hrl
  have hreH := Lib.hid hre
  have hrbH' := Lib.hid hrb'
  have hrlH' := Lib.hid hrl'
  have hreH' := Lib.hid hre'
  have htlH := Lib.hid htl
  have htlH' := Lib.hid htl'
  have hteH := Lib.hid hte
  have hteH' := Lib.hid hte'
  obtain ⟨ob, ocb, rfl, -⟩ := hrb
  obtain ⟨ol, ocl, rfl, -⟩ := hrl
  obtain ⟨oe, oce, rfl, -⟩ := hre
  obtain ⟨ob', ocb', rfl, -⟩ := hrb'
  obtain ⟨ol', ocl', rfl, -⟩ := hrl'
  obtain ⟨oe', oce', rfl, -⟩ := hre'
  have hb2 : Below w.heap.size w ((w.alloc (.cells #[.int .i64 5, .bool b, .int .i64 n, .float .f64 fl, .string tx, .slice ob bs.length ocb, .int .u64 rf, .slice ol ls.length ocl, .slice oe es.length oce, .string cl, .int .i64 ver] 31)).alloc (.cells #[.int .i64 5, .bool b', .int .i64 n', .float .f64 fl', .string tx', .slice ob' bs'.length ocb', .int .u64 rf', .slice ol' ls'.length ocl', .slice oe' es'.length oce', .string cl', .int .i64 ver'] 31)) := ((Below.refl _ _).alloc (Nat.le_refl _) _).alloc (by simp) _
  have e1 : builtV (.mk 5 b n fl tx bs rf ls es cl ver) = .text tx := by rw [builtV]; rfl
  have e2 : builtV (.mk 5 b' n' fl' tx' bs' rf' ls' es' cl' ver') = .text tx' := by rw [builtV]; rfl
  rw [e1, e2, cmpV_text]
  clear e1 e2
  clear htl hte htl' hte'
  go_enter Try.func77, Try.ntmps77
  go_wp2_with fail
  refine (texts_is _ _ _).mono ?_
  rintro e w3 ⟨rfl, rfl⟩
  go_wp2
  go_ret
  exact ⟨rfl, hb2⟩

set_option maxRecDepth 100000 in
set_option maxHeartbeats 1600000 in
theorem cmp_bytes (cs ds : List Value) (w : World) (h : TRep w (.mk 6 b n fl tx bs rf ls es cl ver) cs) (h' : TRep w (.mk 6 b' n' fl' tx' bs' rf' ls' es' cl' ver') ds) (hok : okV (builtV (.mk 6 b n fl tx bs rf ls es cl ver))) (hok' : okV (builtV (.mk 6 b' n' fl' tx' bs' rf' ls' es' cl' ver'))) :
    Calls Try.prog 77 #[.agg cs.toArray, .agg ds.toArray] w (CmpEnd (cmpV (builtV (.mk 6 b n fl tx bs rf ls es cl ver)) (builtV (.mk 6 b' n' fl' tx' bs' rf' ls' es' cl' ver'))) w) := by
  simp only [TRep] at h h'
  obtain ⟨sb, sl, se, xl, xe, rfl, ⟨hk, hn, hf, ht, hr, hc, hv⟩, hrb, hrl, htl, hre, hte⟩ := h
  obtain ⟨sb', sl', se', xl', xe', rfl, ⟨hk', hn', hf', ht', hr', hc', hv'⟩, hrb', hrl', htl', hre', hte'⟩ := h'
  have hrbH := Lib.hid hrb
  have hrlH := Lib.hid hrl
  have hreH := Lib.hid hre
  have hrbH' := Lib.hid hrb'
  have hrlH' := Lib.hid hrl'
  have hreH' := Lib.hid hre'
  have htlH := Lib.hid htl
  have htlH' := Lib.hid htl'
  have hteH := Lib.hid hte
  have hteH' := Lib.hid hte'
  obtain ⟨ob, ocb, rfl, -⟩ := hrb
  obtain ⟨ol, ocl, rfl, -⟩ := hrl
  obtain ⟨oe, oce, rfl, -⟩ := hre
  obtain ⟨ob', ocb', rfl, -⟩ := hrb'
  obtain ⟨ol', ocl', rfl, -⟩ := hrl'
  obtain ⟨oe', oce', rfl, -⟩ := hre'
  have hb2 : Below w.heap.size w ((w.alloc (.cells #[.int .i64 6, .bool b, .int .i64 n, .float .f64 fl, .string tx, .slice ob bs.length ocb, .int .u64 rf, .slice ol ls.length ocl, .slice oe es.length oce, .string cl, .int .i64 ver] 31)).alloc (.cells #[.int .i64 6, .bool b', .int .i64 n', .float .f64 fl', .string tx', .slice ob' bs'.length ocb', .int .u64 rf', .slice ol' ls'.length ocl', .slice oe' es'.length oce', .string cl', .int .i64 ver'] 31)) := ((Below.refl _ _).alloc (Nat.le_refl _) _).alloc (by simp) _
  have e1 : builtV (.mk 6 b n fl tx bs rf ls es cl ver) = .bytes bs := by rw [builtV]; rfl
  have e2 : builtV (.mk 6 b' n' fl' tx' bs' rf' ls' es' cl' ver') = .bytes bs' := by rw [builtV]; rfl
  rw [e1, e2, cmpV_bytes]
  have cv1 := conv_bytes (hrbH.out.keep (keeps_of_below hb2))
  have cv2 := conv_bytes (hrbH'.out.keep (keeps_of_below hb2))
  clear e1 e2
  clear htl hte htl' hte'
  go_enter Try.func77, Try.ntmps77
  go_wp2_with fail
  refine (texts_is _ _ _).mono ?_
  rintro e w3 ⟨rfl, rfl⟩
  go_wp2
  go_ret
  exact ⟨rfl, hb2⟩

set_option maxRecDepth 100000 in
set_option maxHeartbeats 1600000 in
theorem cmp_bool (cs ds : List Value) (w : World) (h : TRep w (.mk 2 b n fl tx bs rf ls es cl ver) cs) (h' : TRep w (.mk 2 b' n' fl' tx' bs' rf' ls' es' cl' ver') ds) (hok : okV (builtV (.mk 2 b n fl tx bs rf ls es cl ver))) (hok' : okV (builtV (.mk 2 b' n' fl' tx' bs' rf' ls' es' cl' ver'))) :
    Calls Try.prog 77 #[.agg cs.toArray, .agg ds.toArray] w (CmpEnd (cmpV (builtV (.mk 2 b n fl tx bs rf ls es cl ver)) (builtV (.mk 2 b' n' fl' tx' bs' rf' ls' es' cl' ver'))) w) := by
  simp only [TRep] at h h'
  obtain ⟨sb, sl, se, xl, xe, rfl, ⟨hk, hn, hf, ht, hr, hc, hv⟩, hrb, hrl, htl, hre, hte⟩ := h
  obtain ⟨sb', sl', se', xl', xe', rfl, ⟨hk', hn', hf', ht', hr', hc', hv'⟩, hrb', hrl', htl', hre', hte'⟩ := h'
  have hrbH := Lib.hid hrb
  have hrlH := Lib.hid hrl
  have hreH := Lib.hid hre
  have hrbH' := Lib.hid hrb'
  have hrlH' := Lib.hid hrl'
  have hreH' := Lib.hid hre'
  have htlH := Lib.hid htl
  have htlH' := Lib.hid htl'
  have hteH := Lib.hid hte
  have hteH' := Lib.hid hte'
  obtain ⟨ob, ocb, rfl, -⟩ := hrb
  obtain ⟨ol, ocl, rfl, -⟩ := hrl
  obtain ⟨oe, oce, rfl, -⟩ := hre
  obtain ⟨ob', ocb', rfl, -⟩ := hrb'
  obtain ⟨ol', ocl', rfl, -⟩ := hrl'
  obtain ⟨oe', oce', rfl, -⟩ := hre'
  have hb2 : Below w.heap.size w ((w.alloc (.cells #[.int .i64 2, .bool b, .int .i64 n, .float .f64 fl, .string tx, .slice ob bs.length ocb, .int .u64 rf, .slice ol ls.length ocl, .slice oe es.length oce, .string cl, .int .i64 ver] 31)).alloc (.cells #[.int .i64 2, .bool b', .int .i64 n', .float .f64 fl', .string tx', .slice ob' bs'.length ocb', .int .u64 rf', .slice ol' ls'.length ocl', .slice oe' es'.length oce', .string cl', .int .i64 ver'] 31)) := ((Below.refl _ _).alloc (Nat.le_refl _) _).alloc (by simp) _
  have e1 : builtV (.mk 2 b n fl tx bs rf ls es cl ver) = .bool b := by rw [builtV]; rfl
  have e2 : builtV (.mk 2 b' n' fl' tx' bs' rf' ls' es' cl' ver') = .bool b' := by rw [builtV]; rfl
  rw [e1, e2, cmpV_bool]
  clear e1 e2
  clear htl hte htl' hte'
  go_enter Try.func77, Try.ntmps77
  go_wp2_with fail
  have hSk : ((w.alloc (.cells #[.int .i64 2, .bool b, .int .i64 n, .float .f64 fl, .string tx, .slice ob bs.length ocb, .int .u64 rf, .slice ol ls.length ocl, .slice oe es.length oce, .string cl, .int .i64 ver] 31)).alloc (.cells #[.int .i64 2, .bool b', .int .i64 n', .float .f64 fl', .string tx', .slice ob' bs'.length ocb', .int .u64 rf', .slice ol' ls'.length ocl', .slice oe' es'.length oce', .string cl', .int .i64 ver'] 31)).drew.cell? ⟨w.heap.size, 1, none⟩ = some (.bool b) ∧ ((w.alloc (.cells #[.int .i64 2, .bool b, .int .i64 n, .float .f64 fl, .string tx, .slice ob bs.length ocb, .int .u64 rf, .slice ol ls.length ocl, .slice oe es.length oce, .string cl, .int .i64 ver] 31)).alloc (.cells #[.int .i64 2, .bool b', .int .i64 n', .float .f64 fl', .string tx', .slice ob' bs'.length ocb', .int .u64 rf', .slice ol' ls'.length ocl', .slice oe' es'.length oce', .string cl', .int .i64 ver'] 31)).drew.cell? ⟨w.heap.size + 1, 1, none⟩ = some (.bool b') := ⟨by simp [go_sem], by simp [go_sem]⟩
  refine wp_region_held_drew (S := (fun w' => w'.cell? ⟨w.heap.size, 1, none⟩ = some (.bool b) ∧ w'.cell? ⟨w.heap.size + 1, 1, none⟩ = some (.bool b'))) (by kernel_rfl) ?_ (fun hHeld => ?_)
  · exact hSk
  refine wpAnyH_take (i := 0) (v := ?vdb1) rfl (by kernel_rfl) (by kernel_rfl) (by kernel_rfl) (fun _ _ _ h => h) (.inl ⟨by rfl, ?hydb1⟩) (by assumption) ?restdb1
  case hydb1 => (intro w hSw; (try dsimp only at hSw); go_simp; first | done | with_reducible rfl)
  (try simp only [Act.put, List.setIfInBounds_toArray, List.set_cons_zero, List.set_cons_succ, List.getElem_toArray, List.getElem_cons_zero, List.getElem_cons_succ])
  refine wpAnyH_take (i := 1) (v := ?vdb2) rfl (by kernel_rfl) (by kernel_rfl) (by kernel_rfl) (fun _ _ _ h => h) (.inl ⟨by rfl, ?hydb2⟩) (by assumption) ?restdb2
  case hydb2 => (intro w hSw; (try dsimp only at hSw); go_simp; first | done | with_reducible rfl)
  (try simp only [Act.put, List.setIfInBounds_toArray, List.set_cons_zero, List.set_cons_succ, List.getElem_toArray, List.getElem_cons_zero, List.getElem_cons_succ])
  refine wpAnyH_take (i := 3) (v := ?vdb3) rfl (by kernel_rfl) (by kernel_rfl) (by kernel_rfl) (fun _ _ _ h => h) (.inl ⟨by rfl, ?hydb3⟩) (by assumption) ?restdb3
  case hydb3 => (intro w hSw; (try dsimp only at hSw); go_simp; first | done | with_reducible rfl)
  (try simp only [Act.put, List.setIfInBounds_toArray, List.set_cons_zero, List.set_cons_succ, List.getElem_toArray, List.getElem_cons_zero, List.getElem_cons_succ])
  refine wpAnyH_take (i := 4) (v := ?vdb4) rfl (by kernel_rfl) (by kernel_rfl) (by kernel_rfl) (fun _ _ _ h => h) (.inl ⟨by rfl, ?hydb4⟩) (by assumption) ?restdb4
  case hydb4 => (intro w hSw; (try dsimp only at hSw); go_simp; first | done | with_reducible rfl)
  (try simp only [Act.put, List.setIfInBounds_toArray, List.set_cons_zero, List.set_cons_succ, List.getElem_toArray, List.getElem_cons_zero, List.getElem_cons_succ])
  refine wpAnyH_ready (rs := [2]) (by kernel_rfl) (by simp) ?_
  refine AllReadyH.cons rfl (fun K hK => ?_) AllReadyH.nil
  rw [if_pos (by rfl)]
  go_simp
  refine (flag_said b _).mono ?_
  rintro e wz ⟨rfl, rfl⟩
  refine hK.out _ _ ?_ (fun hHeldN => ?_)
  · exact hSk
  clear hK K hHeld
  have hHeld := hHeldN
  clear hHeldN
  (try simp only [Act.put, List.setIfInBounds_toArray, List.set_cons_zero, List.set_cons_succ, List.getElem_toArray, List.getElem_cons_zero, List.getElem_cons_succ])
  refine wpAnyH_ready (rs := [5]) (by kernel_rfl) (by simp) ?_
  refine AllReadyH.cons rfl (fun K hK => ?_) AllReadyH.nil
  rw [if_pos (by rfl)]
  go_simp
  refine (flag_said b' _).mono ?_
  rintro e wz ⟨rfl, rfl⟩
  refine hK.out _ _ ?_ (fun hHeldN => ?_)
  · exact hSk
  clear hK K hHeld
  have hHeld := hHeldN
  clear hHeldN
  (try simp only [Act.put, List.setIfInBounds_toArray, List.set_cons_zero, List.set_cons_succ, List.getElem_toArray, List.getElem_cons_zero, List.getElem_cons_succ])
  refine wpAnyH_ready (rs := [6]) (by kernel_rfl) (by simp) ?_
  refine AllReadyH.cons rfl (fun K hK => ?_) AllReadyH.nil
  rw [if_pos (by rfl)]
  go_simp
  refine (numbers_said _ _ _).mono ?_
  rintro e wz ⟨rfl, rfl⟩
  refine hK.out _ _ ?_ (fun hHeldN => ?_)
  · exact hSk
  clear hK K hHeld
  have hHeld := hHeldN
  clear hHeldN
  (try simp only [Act.put, List.setIfInBounds_toArray, List.set_cons_zero, List.set_cons_succ, List.getElem_toArray, List.getElem_cons_zero, List.getElem_cons_succ])
  refine wpAnyH_take (i := 7) (v := ?vdb5) rfl (by kernel_rfl) (by kernel_rfl) (by kernel_rfl) (fun _ _ _ h => h) (.inl ⟨by rfl, ?hydb5⟩) (by assumption) ?restdb5
  case hydb5 => (intro w hSw; (try dsimp only at hSw); go_simp; first | done | with_reducible rfl)
  (try simp only [Act.put, List.setIfInBounds_toArray, List.set_cons_zero, List.set_cons_succ, List.getElem_toArray, List.getElem_cons_zero, List.getElem_cons_succ])
  refine wpAnyH_done (by kernel_rfl) ?_ _
  go_wp2_with fail
  go_ret
  exact ⟨rfl, hb2.drew⟩

set_option maxRecDepth 100000 in
set_option maxHeartbeats 1600000 in
theorem cmp_float (cs ds : List Value) (w : World) (h : TRep w (.mk 4 b n fl tx bs rf ls es cl ver) cs) (h' : TRep w (.mk 4 b' n' fl' tx' bs' rf' ls' es' cl' ver') ds) (hok : okV (builtV (.mk 4 b n fl tx bs rf ls es cl ver))) (hok' : okV (builtV (.mk 4 b' n' fl' tx' bs' rf' ls' es' cl' ver'))) :
    Calls Try.prog 77 #[.agg cs.toArray, .agg ds.toArray] w (CmpEnd (cmpV (builtV (.mk 4 b n fl tx bs rf ls es cl ver)) (builtV (.mk 4 b' n' fl' tx' bs' rf' ls' es' cl' ver'))) w) := by
  simp only [TRep] at h h'
  obtain ⟨sb, sl, se, xl, xe, rfl, ⟨hk, hn, hf, ht, hr, hc, hv⟩, hrb, hrl, htl, hre, hte⟩ := h
  obtain ⟨sb', sl', se', xl', xe', rfl, ⟨hk', hn', hf', ht', hr', hc', hv'⟩, hrb', hrl', htl', hre', hte'⟩ := h'
  have hrbH := Lib.hid hrb
  have hrlH := Lib.hid hrl
  have hreH := Lib.hid hre
  have hrbH' := Lib.hid hrb'
  have hrlH' := Lib.hid hrl'
  have hreH' := Lib.hid hre'
  have htlH := Lib.hid htl
  have htlH' := Lib.hid htl'
  have hteH := Lib.hid hte
  have hteH' := Lib.hid hte'
  obtain ⟨ob, ocb, rfl, -⟩ := hrb
  obtain ⟨ol, ocl, rfl, -⟩ := hrl
  obtain ⟨oe, oce, rfl, -⟩ := hre
  obtain ⟨ob', ocb', rfl, -⟩ := hrb'
  obtain ⟨ol', ocl', rfl, -⟩ := hrl'
  obtain ⟨oe', oce', rfl, -⟩ := hre'
  have hb2 : Below w.heap.size w ((w.alloc (.cells #[.int .i64 4, .bool b, .int .i64 n, .float .f64 fl, .string tx, .slice ob bs.length ocb, .int .u64 rf, .slice ol ls.length ocl, .slice oe es.length oce, .string cl, .int .i64 ver] 31)).alloc (.cells #[.int .i64 4, .bool b', .int .i64 n', .float .f64 fl', .string tx', .slice ob' bs'.length ocb', .int .u64 rf', .slice ol' ls'.length ocl', .slice oe' es'.length oce', .string cl', .int .i64 ver'] 31)) := ((Below.refl _ _).alloc (Nat.le_refl _) _).alloc (by simp) _
  have e1 : builtV (.mk 4 b n fl tx bs rf ls es cl ver) = .float fl := by rw [builtV]; rfl
  have e2 : builtV (.mk 4 b' n' fl' tx' bs' rf' ls' es' cl' ver') = .float fl' := by rw [builtV]; rfl
  rw [e1, e2, cmpV_float]
  have r1 : fl < 18446744073709551616 := by simpa [Lit.wf] using hf
  have r2 : fl' < 18446744073709551616 := by simpa [Lit.wf] using hf'
  clear e1 e2
  clear htl hte htl' hte'
  go_enter Try.func77, Try.ntmps77
  go_wp2_with fail
  have hSk : ((w.alloc (.cells #[.int .i64 4, .bool b, .int .i64 n, .float .f64 fl, .string tx, .slice ob bs.length ocb, .int .u64 rf, .slice ol ls.length ocl, .slice oe es.length oce, .string cl, .int .i64 ver] 31)).alloc (.cells #[.int .i64 4, .bool b', .int .i64 n', .float .f64 fl', .string tx', .slice ob' bs'.length ocb', .int .u64 rf', .slice ol' ls'.length ocl', .slice oe' es'.length oce', .string cl', .int .i64 ver'] 31)).drew.cell? ⟨w.heap.size, 3, none⟩ = some (.float .f64 fl) ∧ ((w.alloc (.cells #[.int .i64 4, .bool b, .int .i64 n, .float .f64 fl, .string tx, .slice ob bs.length ocb, .int .u64 rf, .slice ol ls.length ocl, .slice oe es.length oce, .string cl, .int .i64 ver] 31)).alloc (.cells #[.int .i64 4, .bool b', .int .i64 n', .float .f64 fl', .string tx', .slice ob' bs'.length ocb', .int .u64 rf', .slice ol' ls'.length ocl', .slice oe' es'.length oce', .string cl', .int .i64 ver'] 31)).drew.cell? ⟨w.heap.size + 1, 3, none⟩ = some (.float .f64 fl') := ⟨by simp [go_sem], by simp [go_sem]⟩
  refine wp_region_held_drew (S := (fun w' => w'.cell? ⟨w.heap.size, 3, none⟩ = some (.float .f64 fl) ∧ w'.cell? ⟨w.heap.size + 1, 3, none⟩ = some (.float .f64 fl'))) (by kernel_rfl) ?_ (fun hHeld => ?_)
  · exact hSk
  refine wpAnyH_take (i := 0) (v := ?vdf1) rfl (by kernel_rfl) (by kernel_rfl) (by kernel_rfl) (fun _ _ _ h => h) (.inl ⟨by rfl, ?hydf1⟩) (by assumption) ?restdf1
  case hydf1 => (intro w hSw; (try dsimp only at hSw); go_simp; first | done | with_reducible rfl)
  (try simp only [Act.put, List.setIfInBounds_toArray, List.set_cons_zero, List.set_cons_succ, List.getElem_toArray, List.getElem_cons_zero, List.getElem_cons_succ])
  refine wpAnyH_take (i := 1) (v := ?vdf2) rfl (by kernel_rfl) (by kernel_rfl) (by kernel_rfl) (fun _ _ _ h => h) (.inl ⟨by rfl, ?hydf2⟩) (by assumption) ?restdf2
  case hydf2 => (intro w hSw; (try dsimp only at hSw); go_simp; first | done | with_reducible rfl)
  (try simp only [Act.put, List.setIfInBounds_toArray, List.set_cons_zero, List.set_cons_succ, List.getElem_toArray, List.getElem_cons_zero, List.getElem_cons_succ])
  refine wpAnyH_take (i := 3) (v := ?vdf3) rfl (by kernel_rfl) (by kernel_rfl) (by kernel_rfl) (fun _ _ _ h => h) (.inl ⟨by rfl, ?hydf3⟩) (by assumption) ?restdf3
  case hydf3 => (intro w hSw; (try dsimp only at hSw); go_simp; first | done | with_reducible rfl)
  (try simp only [Act.put, List.setIfInBounds_toArray, List.set_cons_zero, List.set_cons_succ, List.getElem_toArray, List.getElem_cons_zero, List.getElem_cons_succ])
  refine wpAnyH_take (i := 4) (v := ?vdf4) rfl (by kernel_rfl) (by kernel_rfl) (by kernel_rfl) (fun _ _ _ h => h) (.inl ⟨by rfl, ?hydf4⟩) (by assumption) ?restdf4
  case hydf4 => (intro w hSw; (try dsimp only at hSw); go_simp; first | done | with_reducible rfl)
  (try simp only [Act.put, List.setIfInBounds_toArray, List.set_cons_zero, List.set_cons_succ, List.getElem_toArray, List.getElem_cons_zero, List.getElem_cons_succ])
  refine wpAnyH_ready (rs := [2]) (by kernel_rfl) (by simp) ?_
  refine AllReadyH.cons rfl (fun K hK => ?_) AllReadyH.nil
  rw [if_pos (by rfl)]
  go_simp
  refine (place_said fl r1 _).mono ?_
  rintro e wz ⟨rfl, rfl⟩
  refine hK.out _ _ ?_ (fun hHeldN => ?_)
  · exact hSk
  clear hK K hHeld
  have hHeld := hHeldN
  clear hHeldN
  (try simp only [Act.put, List.setIfInBounds_toArray, List.set_cons_zero, List.set_cons_succ, List.getElem_toArray, List.getElem_cons_zero, List.getElem_cons_succ])
  refine wpAnyH_ready (rs := [5]) (by kernel_rfl) (by simp) ?_
  refine AllReadyH.cons rfl (fun K hK => ?_) AllReadyH.nil
  rw [if_pos (by rfl)]
  go_simp
  refine (place_said fl' r2 _).mono ?_
  rintro e wz ⟨rfl, rfl⟩
  refine hK.out _ _ ?_ (fun hHeldN => ?_)
  · exact hSk
  clear hK K hHeld
  have hHeld := hHeldN
  clear hHeldN
  (try simp only [Act.put, List.setIfInBounds_toArray, List.set_cons_zero, List.set_cons_succ, List.getElem_toArray, List.getElem_cons_zero, List.getElem_cons_succ])
  refine wpAnyH_ready (rs := [6]) (by kernel_rfl) (by simp) ?_
  refine AllReadyH.cons rfl (fun K hK => ?_) AllReadyH.nil
  rw [if_pos (by rfl)]
  go_simp
  refine (numbers_said _ _ _).mono ?_
  rintro e wz ⟨rfl, rfl⟩
  refine hK.out _ _ ?_ (fun hHeldN => ?_)
  · exact hSk
  clear hK K hHeld
  have hHeld := hHeldN
  clear hHeldN
  (try simp only [Act.put, List.setIfInBounds_toArray, List.set_cons_zero, List.set_cons_succ, List.getElem_toArray, List.getElem_cons_zero, List.getElem_cons_succ])
  refine wpAnyH_take (i := 7) (v := ?vdf5) rfl (by kernel_rfl) (by kernel_rfl) (by kernel_rfl) (fun _ _ _ h => h) (.inl ⟨by rfl, ?hydf5⟩) (by assumption) ?restdf5
  case hydf5 => (intro w hSw; (try dsimp only at hSw); go_simp; first | done | with_reducible rfl)
  (try simp only [Act.put, List.setIfInBounds_toArray, List.set_cons_zero, List.set_cons_succ, List.getElem_toArray, List.getElem_cons_zero, List.getElem_cons_succ])
  refine wpAnyH_done (by kernel_rfl) ?_ _
  go_wp2_with fail
  go_ret
  exact ⟨rfl, hb2.drew⟩
end
end Go.Proofs.Ytgmdbpplfjkjmaa
