/- tenonmake.Same of any terms. -/
import Derived.Test.YtgmdbpplfjkjmaaSame
import Derived.BigQuiet
import Derived.Deep.QuietTactic
import Derived.Laws.IdiomStrings
import Derived.Shelf.Bytes.SlSmallAll
namespace Go.Proofs.Ytgmdbpplfjkjmaa
open Go.RowKit
set_option linter.unusedVariables false
set_option linter.unusedSimpArgs false

theorem float_bits (x : Nat) (W : World) : (callFunc 146 #[.float .f64 x]).run Try.prog W = .ok (.value (.int .u64 x)) W := by kernel_rfl
theorem bytes_loop (bs : ByteArray) : ∀ (m i : Nat) (r : List UInt8), bs.size - i = m → ByteArray.toList.loop bs i r = r.reverse ++ bs.data.toList.drop i
  | 0, i, r, h => by
    rw [ByteArray.toList.loop]
    have : ¬ i < bs.size := by omega
    have hl : bs.data.toList.length = bs.size := rfl
    rw [if_neg this, List.drop_eq_nil_of_le (by omega)]; simp
  | m+1, i, r, h => by
    rw [ByteArray.toList.loop]
    have hi : i < bs.size := by omega
    have hl : bs.data.toList.length = bs.size := rfl
    rw [if_pos hi, bytes_loop bs m (i+1) _ (by omega), List.drop_eq_getElem_cons (i := i) (by omega)]
    have hd : i < bs.data.size := hi
    have e : bs.get! i = bs.data.toList[i] := by
      obtain ⟨d⟩ := bs
      show d[i]! = d.toList[i]
      rw [getElem!_pos d i hd]; rfl
    simp [e]
theorem bytes_list (l : List UInt8) : (⟨l.toArray⟩ : ByteArray).toList = l := by
  unfold ByteArray.toList
  rw [bytes_loop _ _ 0 [] rfl]
  simp
/-- 'string(b)' of bytes that came in. -/
theorem conv_bytes {w : World} {v : Value} {bs : List UInt8} (h : AtRow w v bs.length 1 (byteCells bs)) : (convert 26 9 v).run Try.prog w = .ok (.string ⟨bs.toArray⟩) w := by
  obtain ⟨oa, cap, rfl, hcap, hmax, hsm, hnil, hxl, hcells⟩ := h
  by_cases hp : 0 < bs.length
  · obtain ⟨b, o, rfl, hc⟩ := hcells hp
    refine run_convert_bytes_back w _ _ _ ⟨b, o, none⟩ cap bs Try.underlying26 Try.underlying5 Try.underlying9 ?_
    intro i hi
    have := hc i (by omega)
    rw [Addr.add_mid, this]
    simp [byteCells, List.getElem?_eq_getElem hi]
  · obtain rfl : bs = [] := List.eq_nil_of_length_eq_zero (by omega)
    exact run_convert_bytes_zero w _ _ Try.underlying26 Try.underlying5 oa cap _ Try.underlying9
section
variable (b b' : Bool) (n n' : Int) (fl fl' : Nat) (tx tx' : ByteArray) (bs bs' : List UInt8) (rf rf' : Int) (ls ls' : List Term) (es es' : List (ByteArray × Term)) (cl cl' : ByteArray) (ver ver' : Int)
set_option maxRecDepth 100000 in
set_option maxHeartbeats 1600000 in
theorem same_kinds (k k' : Int) (hk : (k != k') = true) (cs ds : List Value) (w : World) (h : TRep w (.mk k b n fl tx bs rf ls es cl ver) cs) (h' : TRep w (.mk k' b' n' fl' tx' bs' rf' ls' es' cl' ver') ds) :
    Calls Try.prog 78 #[.agg cs.toArray, .agg ds.toArray] w fun e w' => e = .returned (.bool (false)) ∧ Below w.heap.size w w' := by
  simp only [TRep] at h h'
  obtain ⟨sb, sl, se, xl, xe, rfl, -⟩ := h
  obtain ⟨sb', sl', se', xl', xe', rfl, -⟩ := h'
  go_enter Try.func78, Try.ntmps78
  go_wp2
  go_ret
  exact ⟨rfl, (((Below.refl _ _).alloc (Nat.le_refl _) _).alloc (by simp only [size_alloc]; omega) _)⟩

set_option maxRecDepth 100000 in
set_option maxHeartbeats 1600000 in
theorem same_both (k : Int) (hk : k = 1 ∨ k = 11) (cs ds : List Value) (w : World) (h : TRep w (.mk k b n fl tx bs rf ls es cl ver) cs) (h' : TRep w (.mk k b' n' fl' tx' bs' rf' ls' es' cl' ver') ds) :
    Calls Try.prog 78 #[.agg cs.toArray, .agg ds.toArray] w fun e w' => e = .returned (.bool (true)) ∧ Below w.heap.size w w' := by
  simp only [TRep] at h h'
  obtain ⟨sb, sl, se, xl, xe, rfl, -⟩ := h
  obtain ⟨sb', sl', se', xl', xe', rfl, -⟩ := h'
  rcases hk with rfl | rfl
  all_goals go_enter Try.func78, Try.ntmps78
  all_goals go_wp2
  all_goals go_ret
  all_goals exact ⟨rfl, (((Below.refl _ _).alloc (Nat.le_refl _) _).alloc (by simp only [size_alloc]; omega) _)⟩

set_option maxRecDepth 100000 in
set_option maxHeartbeats 1600000 in
theorem same_bool (cs ds : List Value) (w : World) (h : TRep w (.mk 2 b n fl tx bs rf ls es cl ver) cs) (h' : TRep w (.mk 2 b' n' fl' tx' bs' rf' ls' es' cl' ver') ds) :
    Calls Try.prog 78 #[.agg cs.toArray, .agg ds.toArray] w fun e w' => e = .returned (.bool (b == b')) ∧ Below w.heap.size w w' := by
  simp only [TRep] at h h'
  obtain ⟨sb, sl, se, xl, xe, rfl, -⟩ := h
  obtain ⟨sb', sl', se', xl', xe', rfl, -⟩ := h'
  go_enter Try.func78, Try.ntmps78
  go_wp2
  go_ret
  exact ⟨rfl, (((Below.refl _ _).alloc (Nat.le_refl _) _).alloc (by simp only [size_alloc]; omega) _)⟩

set_option maxRecDepth 100000 in
set_option maxHeartbeats 1600000 in
theorem same_int (cs ds : List Value) (w : World) (h : TRep w (.mk 3 b n fl tx bs rf ls es cl ver) cs) (h' : TRep w (.mk 3 b' n' fl' tx' bs' rf' ls' es' cl' ver') ds) :
    Calls Try.prog 78 #[.agg cs.toArray, .agg ds.toArray] w fun e w' => e = .returned (.bool (n == n')) ∧ Below w.heap.size w w' := by
  simp only [TRep] at h h'
  obtain ⟨sb, sl, se, xl, xe, rfl, -⟩ := h
  obtain ⟨sb', sl', se', xl', xe', rfl, -⟩ := h'
  go_enter Try.func78, Try.ntmps78
  go_wp2
  go_ret
  exact ⟨rfl, (((Below.refl _ _).alloc (Nat.le_refl _) _).alloc (by simp only [size_alloc]; omega) _)⟩

set_option maxRecDepth 100000 in
set_option maxHeartbeats 1600000 in
theorem same_float (cs ds : List Value) (w : World) (h : TRep w (.mk 4 b n fl tx bs rf ls es cl ver) cs) (h' : TRep w (.mk 4 b' n' fl' tx' bs' rf' ls' es' cl' ver') ds) :
    Calls Try.prog 78 #[.agg cs.toArray, .agg ds.toArray] w fun e w' => e = .returned (.bool ((fl : Int) == (fl' : Int))) ∧ Below w.heap.size w w' := by
  simp only [TRep] at h h'
  obtain ⟨sb, sl, se, xl, xe, rfl, -⟩ := h
  obtain ⟨sb', sl', se', xl', xe', rfl, -⟩ := h'
  have hfb := float_bits
  go_enter Try.func78, Try.ntmps78
  go_wp2_with fail
  go_quiet (fail)
  go_wp2_with fail
  go_ret
  exact ⟨rfl, Below.drewN' (((Below.refl _ _).alloc (Nat.le_refl _) _).alloc (by simp only [size_alloc]; omega) _) _⟩

set_option maxRecDepth 100000 in
set_option maxHeartbeats 1600000 in
theorem same_text (cs ds : List Value) (w : World) (h : TRep w (.mk 5 b n fl tx bs rf ls es cl ver) cs) (h' : TRep w (.mk 5 b' n' fl' tx' bs' rf' ls' es' cl' ver') ds) :
    Calls Try.prog 78 #[.agg cs.toArray, .agg ds.toArray] w fun e w' => e = .returned (.bool (tx.toList == tx'.toList)) ∧ Below w.heap.size w w' := by
  simp only [TRep] at h h'
  obtain ⟨sb, sl, se, xl, xe, rfl, -⟩ := h
  obtain ⟨sb', sl', se', xl', xe', rfl, -⟩ := h'
  go_enter Try.func78, Try.ntmps78
  go_wp2
  go_ret
  exact ⟨rfl, (((Below.refl _ _).alloc (Nat.le_refl _) _).alloc (by simp only [size_alloc]; omega) _)⟩

set_option maxRecDepth 100000 in
set_option maxHeartbeats 1600000 in
theorem same_bytes (cs ds : List Value) (w : World) (h : TRep w (.mk 6 b n fl tx bs rf ls es cl ver) cs) (h' : TRep w (.mk 6 b' n' fl' tx' bs' rf' ls' es' cl' ver') ds) :
    Calls Try.prog 78 #[.agg cs.toArray, .agg ds.toArray] w fun e w' => e = .returned (.bool (bs == bs')) ∧ Below w.heap.size w w' := by
  simp only [TRep] at h h'
  obtain ⟨sb, sl, se, xl, xe, rfl, -, hab, -⟩ := h
  obtain ⟨sb', sl', se', xl', xe', rfl, -, hab', -⟩ := h'
  have hW : Below w.heap.size w ((w.alloc (.cells #[.int .i64 6, .bool b, .int .i64 n, .float .f64 fl, .string tx, sb, .int .u64 rf, sl, se, .string cl, .int .i64 ver] 31)).alloc (.cells #[.int .i64 6, .bool b', .int .i64 n', .float .f64 fl', .string tx', sb', .int .u64 rf', sl', se', .string cl', .int .i64 ver'] 31)) := (((Below.refl _ _).alloc (Nat.le_refl _) _).alloc (by simp only [size_alloc]; omega) _)
  have hc1 := conv_bytes (hab.keep (keeps_of_below hW))
  have hc2 := conv_bytes (hab'.keep (keeps_of_below hW))
  have hbe : ((⟨bs.toArray⟩ : ByteArray).toList == (⟨bs'.toArray⟩ : ByteArray).toList) = (bs == bs') := by simp [bytes_list]
  clear hab hab'
  go_enter Try.func78, Try.ntmps78
  go_wp2
  go_ret
  exact ⟨by rw [← hbe]; rfl, hW⟩

set_option maxRecDepth 100000 in
set_option maxHeartbeats 1600000 in
theorem same_ref (cs ds : List Value) (w : World) (h : TRep w (.mk 7 b n fl tx bs rf ls es cl ver) cs) (h' : TRep w (.mk 7 b' n' fl' tx' bs' rf' ls' es' cl' ver') ds) :
    Calls Try.prog 78 #[.agg cs.toArray, .agg ds.toArray] w fun e w' => e = .returned (.bool (rf == rf')) ∧ Below w.heap.size w w' := by
  simp only [TRep] at h h'
  obtain ⟨sb, sl, se, xl, xe, rfl, -⟩ := h
  obtain ⟨sb', sl', se', xl', xe', rfl, -⟩ := h'
  go_enter Try.func78, Try.ntmps78
  go_wp2
  go_ret
  exact ⟨rfl, (((Below.refl _ _).alloc (Nat.le_refl _) _).alloc (by simp only [size_alloc]; omega) _)⟩

set_option maxRecDepth 100000 in
set_option maxHeartbeats 1600000 in
theorem same_list (ih : ∀ u ∈ ls, SameSaid u) (cs ds : List Value) (w : World) (h : TRep w (.mk 8 b n fl tx bs rf ls es cl ver) cs) (h' : TRep w (.mk 8 b' n' fl' tx' bs' rf' ls' es' cl' ver') ds) :
    Calls Try.prog 78 #[.agg cs.toArray, .agg ds.toArray] w fun e w' => e = .returned (.bool (sameTs ls ls')) ∧ Below w.heap.size w w' := by
  simp only [TRep] at h h'
  obtain ⟨sb, sl, se, xl, xe, rfl, -, -, ha, ht, -⟩ := h
  obtain ⟨sb', sl', se', xl', xe', rfl, -, -, ha', ht', -⟩ := h'
  have hW : Below w.heap.size w ((w.alloc (.cells #[.int .i64 8, .bool b, .int .i64 n, .float .f64 fl, .string tx, sb, .int .u64 rf, sl, se, .string cl, .int .i64 ver] 31)).alloc (.cells #[.int .i64 8, .bool b', .int .i64 n', .float .f64 fl', .string tx', sb', .int .u64 rf', sl', se', .string cl', .int .i64 ver'] 31)) := (((Below.refl _ _).alloc (Nat.le_refl _) _).alloc (by simp only [size_alloc]; omega) _)
  have hl := Lib.hid (lists_same ls ls' ih sl sl' xl xl' _ (ha.keep (keeps_of_below hW)) (TsRep.keep (keeps_of_below hW) _ _ ht) (ha'.keep (keeps_of_below hW)) (TsRep.keep (keeps_of_below hW) _ _ ht'))
  have hWH := Lib.hid hW
  clear ha ha' ht ht' ih hW
  go_enter Try.func78, Try.ntmps78
  go_wp2_with fail
  refine hl.out.mono ?_
  rintro e w1 ⟨rfl, hb⟩
  go_wp2_with fail
  go_ret
  exact ⟨rfl, hWH.out.trans (below_le hb (by simp only [size_alloc]; omega))⟩

set_option maxRecDepth 100000 in
set_option maxHeartbeats 1600000 in
theorem same_dict (ih : ∀ u ∈ es.map (·.2), SameSaid u) (cs ds : List Value) (w : World) (h : TRep w (.mk 9 b n fl tx bs rf ls es cl ver) cs) (h' : TRep w (.mk 9 b' n' fl' tx' bs' rf' ls' es' cl' ver') ds) :
    Calls Try.prog 78 #[.agg cs.toArray, .agg ds.toArray] w fun e w' => e = .returned (.bool (sameEs es es')) ∧ Below w.heap.size w w' := by
  simp only [TRep] at h h'
  obtain ⟨sb, sl, se, xl, xe, rfl, -, -, -, -, ha, ht⟩ := h
  obtain ⟨sb', sl', se', xl', xe', rfl, -, -, -, -, ha', ht'⟩ := h'
  have hW : Below w.heap.size w ((w.alloc (.cells #[.int .i64 9, .bool b, .int .i64 n, .float .f64 fl, .string tx, sb, .int .u64 rf, sl, se, .string cl, .int .i64 ver] 31)).alloc (.cells #[.int .i64 9, .bool b', .int .i64 n', .float .f64 fl', .string tx', sb', .int .u64 rf', sl', se', .string cl', .int .i64 ver'] 31)) := (((Below.refl _ _).alloc (Nat.le_refl _) _).alloc (by simp only [size_alloc]; omega) _)
  have hl := Lib.hid (entries_same es es' ih se se' xe xe' _ (ha.keep (keeps_of_below hW)) (EsRep.keep (keeps_of_below hW) _ _ ht) (ha'.keep (keeps_of_below hW)) (EsRep.keep (keeps_of_below hW) _ _ ht'))
  have hWH := Lib.hid hW
  clear ha ha' ht ht' ih hW
  go_enter Try.func78, Try.ntmps78
  go_wp2_with fail
  refine hl.out.mono ?_
  rintro e w1 ⟨rfl, hb⟩
  go_wp2_with fail
  go_ret
  exact ⟨rfl, hWH.out.trans (below_le hb (by simp only [size_alloc]; omega))⟩

set_option maxRecDepth 100000 in
set_option maxHeartbeats 1600000 in
theorem same_rec (ih : ∀ u ∈ es.map (·.2), SameSaid u) (hc : (cl.toList == cl'.toList) = true) (hv : (ver == ver') = true) (cs ds : List Value) (w : World) (h : TRep w (.mk 10 b n fl tx bs rf ls es cl ver) cs) (h' : TRep w (.mk 10 b' n' fl' tx' bs' rf' ls' es' cl' ver') ds) :
    Calls Try.prog 78 #[.agg cs.toArray, .agg ds.toArray] w fun e w' => e = .returned (.bool (sameEs es es')) ∧ Below w.heap.size w w' := by
  simp only [TRep] at h h'
  obtain ⟨sb, sl, se, xl, xe, rfl, -, -, -, -, ha, ht⟩ := h
  obtain ⟨sb', sl', se', xl', xe', rfl, -, -, -, -, ha', ht'⟩ := h'
  have hW : Below w.heap.size w ((w.alloc (.cells #[.int .i64 10, .bool b, .int .i64 n, .float .f64 fl, .string tx, sb, .int .u64 rf, sl, se, .string cl, .int .i64 ver] 31)).alloc (.cells #[.int .i64 10, .bool b', .int .i64 n', .float .f64 fl', .string tx', sb', .int .u64 rf', sl', se', .string cl', .int .i64 ver'] 31)) := (((Below.refl _ _).alloc (Nat.le_refl _) _).alloc (by simp only [size_alloc]; omega) _)
  have hl := Lib.hid (entries_same es es' ih se se' xe xe' _ (ha.keep (keeps_of_below hW)) (EsRep.keep (keeps_of_below hW) _ _ ht) (ha'.keep (keeps_of_below hW)) (EsRep.keep (keeps_of_below hW) _ _ ht'))
  have hWH := Lib.hid hW
  clear ha ha' ht ht' ih hW
  go_enter Try.func78, Try.ntmps78
  go_wp2_with fail
  refine hl.out.mono ?_
  rintro e w1 ⟨rfl, hb⟩
  go_wp2_with fail
  go_ret
  exact ⟨rfl, hWH.out.trans (below_le hb (by simp only [size_alloc]; omega))⟩

set_option maxRecDepth 100000 in
set_option maxHeartbeats 1600000 in
theorem same_rec_class (hc : (cl.toList == cl'.toList) = false) (cs ds : List Value) (w : World) (h : TRep w (.mk 10 b n fl tx bs rf ls es cl ver) cs) (h' : TRep w (.mk 10 b' n' fl' tx' bs' rf' ls' es' cl' ver') ds) :
    Calls Try.prog 78 #[.agg cs.toArray, .agg ds.toArray] w fun e w' => e = .returned (.bool (false)) ∧ Below w.heap.size w w' := by
  simp only [TRep] at h h'
  obtain ⟨sb, sl, se, xl, xe, rfl, -⟩ := h
  obtain ⟨sb', sl', se', xl', xe', rfl, -⟩ := h'
  go_enter Try.func78, Try.ntmps78
  go_wp2
  go_ret
  exact ⟨rfl, (((Below.refl _ _).alloc (Nat.le_refl _) _).alloc (by simp only [size_alloc]; omega) _)⟩

set_option maxRecDepth 100000 in
set_option maxHeartbeats 1600000 in
theorem same_rec_ver (hc : (cl.toList == cl'.toList) = true) (hv : (ver == ver') = false) (cs ds : List Value) (w : World) (h : TRep w (.mk 10 b n fl tx bs rf ls es cl ver) cs) (h' : TRep w (.mk 10 b' n' fl' tx' bs' rf' ls' es' cl' ver') ds) :
    Calls Try.prog 78 #[.agg cs.toArray, .agg ds.toArray] w fun e w' => e = .returned (.bool (false)) ∧ Below w.heap.size w w' := by
  simp only [TRep] at h h'
  obtain ⟨sb, sl, se, xl, xe, rfl, -⟩ := h
  obtain ⟨sb', sl', se', xl', xe', rfl, -⟩ := h'
  go_enter Try.func78, Try.ntmps78
  go_wp2
  go_ret
  exact ⟨rfl, (((Below.refl _ _).alloc (Nat.le_refl _) _).alloc (by simp only [size_alloc]; omega) _)⟩

set_option maxRecDepth 100000 in
set_option maxHeartbeats 1600000 in
theorem same_other (k : Int) (k1 : (k == 1) = false) (k2 : (k == 2) = false) (k3 : (k == 3) = false) (k4 : (k == 4) = false) (k5 : (k == 5) = false) (k6 : (k == 6) = false) (k7 : (k == 7) = false) (k8 : (k == 8) = false) (k9 : (k == 9) = false) (k10 : (k == 10) = false) (k11 : (k == 11) = false) (cs ds : List Value) (w : World) (h : TRep w (.mk k b n fl tx bs rf ls es cl ver) cs) (h' : TRep w (.mk k b' n' fl' tx' bs' rf' ls' es' cl' ver') ds) :
    Calls Try.prog 78 #[.agg cs.toArray, .agg ds.toArray] w fun e w' => e = .returned (.bool (false)) ∧ Below w.heap.size w w' := by
  simp only [TRep] at h h'
  obtain ⟨sb, sl, se, xl, xe, rfl, -⟩ := h
  obtain ⟨sb', sl', se', xl', xe', rfl, -⟩ := h'
  have kk : (k != k) = false := by simp
  go_enter Try.func78, Try.ntmps78
  go_wp2
  go_ret
  exact ⟨rfl, (((Below.refl _ _).alloc (Nat.le_refl _) _).alloc (by simp only [size_alloc]; omega) _)⟩

end
theorem same_any : ∀ t, SameSaid t := term_all fun t ih => by
  obtain ⟨k, b, n, fl, tx, bs, rf, ls, es, cl, ver⟩ := t
  have ihl : ∀ u ∈ ls, SameSaid u := fun u hu => ih u (List.mem_append_left _ hu)
  have ihe : ∀ u ∈ es.map (·.2), SameSaid u := fun u hu => ih u (List.mem_append_right _ hu)
  clear ih
  rintro ⟨k', b', n', fl', tx', bs', rf', ls', es', cl', ver'⟩ cs ds w h h'
  rw [sameT]
  cases hk : (k == k') with
  | false => exact same_kinds b b' n n' fl fl' tx tx' bs bs' rf rf' ls ls' es es' cl cl' ver ver' k k' (by simpa using hk) cs ds w h h'
  | true =>
    obtain rfl : k = k' := by simpa using hk
    simp only [Bool.not_true, cond_false]
    by_cases h1 : k = 1 ∨ k = 11
    · have := same_both b b' n n' fl fl' tx tx' bs bs' rf rf' ls ls' es es' cl cl' ver ver' k h1 cs ds w h h'
      rcases h1 with rfl | rfl <;> exact this
    have e1 : (k == 1) = false := by simp; omega
    have e11 : (k == 11) = false := by simp; omega
    rw [e1, e11]
    simp only [Bool.or_self, cond_false]
    by_cases h2 : k = 2
    · subst h2; exact same_bool b b' n n' fl fl' tx tx' bs bs' rf rf' ls ls' es es' cl cl' ver ver'  cs ds w h h'
    have e2 : (k == 2) = false := by simpa using h2
    rw [e2]
    simp only [cond_false]
    by_cases h3 : k = 3
    · subst h3; exact same_int b b' n n' fl fl' tx tx' bs bs' rf rf' ls ls' es es' cl cl' ver ver'  cs ds w h h'
    have e3 : (k == 3) = false := by simpa using h3
    rw [e3]
    simp only [cond_false]
    by_cases h4 : k = 4
    · subst h4; exact same_float b b' n n' fl fl' tx tx' bs bs' rf rf' ls ls' es es' cl cl' ver ver'  cs ds w h h'
    have e4 : (k == 4) = false := by simpa using h4
    rw [e4]
    simp only [cond_false]
    by_cases h5 : k = 5
    · subst h5; exact same_text b b' n n' fl fl' tx tx' bs bs' rf rf' ls ls' es es' cl cl' ver ver'  cs ds w h h'
    have e5 : (k == 5) = false := by simpa using h5
    rw [e5]
    simp only [cond_false]
    by_cases h6 : k = 6
    · subst h6; exact same_bytes b b' n n' fl fl' tx tx' bs bs' rf rf' ls ls' es es' cl cl' ver ver'  cs ds w h h'
    have e6 : (k == 6) = false := by simpa using h6
    rw [e6]
    simp only [cond_false]
    by_cases h7 : k = 7
    · subst h7; exact same_ref b b' n n' fl fl' tx tx' bs bs' rf rf' ls ls' es es' cl cl' ver ver'  cs ds w h h'
    have e7 : (k == 7) = false := by simpa using h7
    rw [e7]
    simp only [cond_false]
    by_cases h8 : k = 8
    · subst h8; exact same_list b b' n n' fl fl' tx tx' bs bs' rf rf' ls ls' es es' cl cl' ver ver' ihl cs ds w h h'
    have e8 : (k == 8) = false := by simpa using h8
    rw [e8]
    simp only [cond_false]
    by_cases h9 : k = 9
    · subst h9; exact same_dict b b' n n' fl fl' tx tx' bs bs' rf rf' ls ls' es es' cl cl' ver ver' ihe cs ds w h h'
    have e9 : (k == 9) = false := by simpa using h9
    rw [e9]
    simp only [cond_false]
    by_cases h10 : k = 10
    · subst h10
      show Calls _ _ _ _ (fun e w' => e = .returned (.bool (cl.toList == cl'.toList && (ver == ver' && sameEs es es'))) ∧ _)
      cases hc : (cl.toList == cl'.toList) with
      | false => exact same_rec_class b b' n n' fl fl' tx tx' bs bs' rf rf' ls ls' es es' cl cl' ver ver' hc cs ds w h h'
      | true =>
        cases hv : (ver == ver') with
        | false => exact same_rec_ver b b' n n' fl fl' tx tx' bs bs' rf rf' ls ls' es es' cl cl' ver ver' hc hv cs ds w h h'
        | true => exact same_rec b b' n n' fl fl' tx tx' bs bs' rf rf' ls ls' es es' cl cl' ver ver' ihe hc hv cs ds w h h'
    have e10 : (k == 10) = false := by simpa using h10
    rw [e10]
    exact same_other b b' n n' fl fl' tx tx' bs bs' rf rf' ls ls' es es' cl cl' ver ver' k e1 e2 e3 e4 e5 e6 e7 e8 e9 e10 e11 cs ds w h h'
end Go.Proofs.Ytgmdbpplfjkjmaa
