/- value.order of any two values that can be: 'order_any'. -/
import Derived.Test.YtgmdbpplfjkjmaaOrd
namespace Go.Proofs.Ytgmdbpplfjkjmaa
open Go.RowKit Go.Sort
set_option linter.unusedVariables false
set_option linter.unusedSimpArgs false

@[go_sem] theorem tf_0 (xt : TypeId) (v : Value) (W : World) : (Instr.typeAssert (.iface 4 v) xt 4 false).run Try.prog W = .ok v W := by kernel_rfl
@[go_sem] theorem tf_1 (xt : TypeId) (v : Value) (W : World) : (Instr.typeAssert (.iface 2 v) xt 2 false).run Try.prog W = .ok v W := by kernel_rfl
@[go_sem] theorem tf_2 (xt : TypeId) (v : Value) (W : World) : (Instr.typeAssert (.iface 25 v) xt 25 false).run Try.prog W = .ok v W := by kernel_rfl
@[go_sem] theorem tf_3 (xt : TypeId) (v : Value) (W : World) : (Instr.typeAssert (.iface 9 v) xt 9 false).run Try.prog W = .ok v W := by kernel_rfl
@[go_sem] theorem tf_4 (xt : TypeId) (v : Value) (W : World) : (Instr.typeAssert (.iface 26 v) xt 26 false).run Try.prog W = .ok v W := by kernel_rfl
@[go_sem] theorem tf_5 (xt : TypeId) (v : Value) (W : World) : (Instr.typeAssert (.iface 28 v) xt 28 false).run Try.prog W = .ok v W := by kernel_rfl
@[go_sem] theorem tf_6 (xt : TypeId) (v : Value) (W : World) : (Instr.typeAssert (.iface 128 v) xt 128 false).run Try.prog W = .ok v W := by kernel_rfl
@[go_sem] theorem tf_7 (xt : TypeId) (v : Value) (W : World) : (Instr.typeAssert (.iface 130 v) xt 130 false).run Try.prog W = .ok v W := by kernel_rfl
@[go_sem] theorem tf_8 (xt : TypeId) (v : Value) (W : World) : (Instr.typeAssert (.iface 132 v) xt 132 false).run Try.prog W = .ok v W := by kernel_rfl
theorem okV_kind {v : Val} (ho : okV v) : 0 ≤ kindV v := by cases v <;> first | exact ho.elim | (simp [kindV])
theorem vcmp_self (x : Int) (w : World) : Calls Try.prog 226 #[.int .i64 x, .int .i64 x] w fun e w' => e = .returned (.int .i64 0) ∧ w = w' :=
  (vcmp_int x x w).mono fun _ _ ⟨he, hw⟩ => ⟨he.trans (ret_int (by unfold cmpI; rw [if_neg (by omega), if_neg (by omega)])), hw⟩
set_option maxRecDepth 100000 in
theorem order_kinds (v u : Val) (x y : Value) (fs gs : List Nat) (w : World) (h : VRep w v x fs) (h' : VRep w u y gs) (ho : okV v) (ho' : okV u) (hne : kindV v ≠ kindV u) :
    Calls Try.prog 185 #[x, y] w fun e w' => e = .returned (.int .i64 (cmpV v u)) ∧ Grew w w' := by
  rw [cmpV_kinds ho ho' hne (okV_kind ho) (okV_kind ho')]
  have hk := Lib.hid (fun W => kind_val h W)
  have hk' := Lib.hid (fun W => kind_val h' W)
  have hx := h.one
  have hy := h'.one
  have hcb : (cmpI (kindV v) (kindV u) != 0) = true := by simpa using fun h0 => hne (cmpI_zero h0)
  clear h h' ho ho' hne
  go_enter Try.func185, Try.ntmps185
  go_wp2_with fail
  refine (hk.out _).mono ?_
  rintro e w1 ⟨rfl, rfl⟩
  go_wp2_with fail
  refine (hk'.out _).mono ?_
  rintro e w1 ⟨rfl, rfl⟩
  go_wp2_with fail
  refine (vcmp_int _ _ _).mono ?_
  rintro e w1 ⟨rfl, rfl⟩
  go_wp2
  go_ret
  exact ⟨rfl, Grew.refl _⟩
set_option maxRecDepth 100000 in
set_option maxHeartbeats 800000 in
theorem order_nil (x y : Value) (fs gs : List Nat) (w : World) (h : VRep w (.nil) x fs) (h' : VRep w (.nil) y gs) (ho : okV (.nil)) (ho' : okV (.nil)) :
    Calls Try.prog 185 #[x, y] w fun e w' => e = .returned (.int .i64 (cmpV (.nil) (.nil))) ∧ Grew w w' := by
  have hk := Lib.hid (fun W => kind_val h W)
  have hk' := Lib.hid (fun W => kind_val h' W)
  simp only [VRep] at h h'
  obtain ⟨rfl, -⟩ := h
  obtain ⟨rfl, -⟩ := h'
  rw [cmpV_self]
  clear ho ho'
  go_enter Try.func185, Try.ntmps185
  go_wp2_with fail
  refine (hk.out _).mono ?_
  rintro e w1 ⟨rfl, rfl⟩
  go_wp2_with fail
  refine (hk'.out _).mono ?_
  rintro e w1 ⟨rfl, rfl⟩
  go_wp2_with fail
  refine (vcmp_self _ _).mono ?_
  rintro e w1 ⟨rfl, rfl⟩
  go_wp2
  go_ret
  exact ⟨rfl, Grew.refl _⟩
set_option maxRecDepth 100000 in
set_option maxHeartbeats 800000 in
theorem order_bool (b c : Bool) (x y : Value) (fs gs : List Nat) (w : World) (h : VRep w (.bool b) x fs) (h' : VRep w (.bool c) y gs) (ho : okV (.bool b)) (ho' : okV (.bool c)) :
    Calls Try.prog 185 #[x, y] w fun e w' => e = .returned (.int .i64 (cmpV (.bool b) (.bool c))) ∧ Grew w w' := by
  have hk := Lib.hid (fun W => kind_val h W)
  have hk' := Lib.hid (fun W => kind_val h' W)
  simp only [VRep] at h h'
  obtain ⟨rfl, -⟩ := h
  obtain ⟨rfl, -⟩ := h'
  rw [cmpV_bool]
  clear ho ho'
  go_enter Try.func185, Try.ntmps185
  go_wp2_with fail
  refine (hk.out _).mono ?_
  rintro e w1 ⟨rfl, rfl⟩
  go_wp2_with fail
  refine (hk'.out _).mono ?_
  rintro e w1 ⟨rfl, rfl⟩
  go_wp2_with fail
  refine (vcmp_self _ _).mono ?_
  rintro e w1 ⟨rfl, rfl⟩
  go_wp2_with fail
  go_quiet (first | (go_at_call 228; exact Calls.quiet_of_same ((truth_said _ _).mono fun _ _ ⟨he, hw⟩ => ⟨he, hw.symm⟩)) | (go_at_call 226; exact Calls.quiet_of_same ((vcmp_int _ _ _).mono fun _ _ ⟨he, hw⟩ => ⟨he, hw.symm⟩)))
  go_wp2
  go_ret
  exact ⟨rfl, (Grew.refl _).drewN _⟩
set_option maxRecDepth 100000 in
set_option maxHeartbeats 800000 in
theorem order_int (n m : Int) (x y : Value) (fs gs : List Nat) (w : World) (h : VRep w (.int n) x fs) (h' : VRep w (.int m) y gs) (ho : okV (.int n)) (ho' : okV (.int m)) :
    Calls Try.prog 185 #[x, y] w fun e w' => e = .returned (.int .i64 (cmpV (.int n) (.int m))) ∧ Grew w w' := by
  have hk := Lib.hid (fun W => kind_val h W)
  have hk' := Lib.hid (fun W => kind_val h' W)
  simp only [VRep] at h h'
  obtain ⟨rfl, hn, -⟩ := h
  obtain ⟨rfl, hm, -⟩ := h'
  have r1 : -9223372036854775808 ≤ n ∧ n ≤ 9223372036854775807 := by simpa [Lit.wf, IntKind.min, IntKind.max, IntKind.signed, IntKind.bits] using hn
  have r2 : -9223372036854775808 ≤ m ∧ m ≤ 9223372036854775807 := by simpa [Lit.wf, IntKind.min, IntKind.max, IntKind.signed, IntKind.bits] using hm
  rw [cmpV_int r1.1 r2.1]
  clear ho ho' hn hm r1 r2
  go_enter Try.func185, Try.ntmps185
  go_wp2_with fail
  refine (hk.out _).mono ?_
  rintro e w1 ⟨rfl, rfl⟩
  go_wp2_with fail
  refine (hk'.out _).mono ?_
  rintro e w1 ⟨rfl, rfl⟩
  go_wp2_with fail
  refine (vcmp_self _ _).mono ?_
  rintro e w1 ⟨rfl, rfl⟩
  go_wp2_with fail
  refine (vcmp_int64 _ _ _).mono ?_
  rintro e w1 ⟨rfl, rfl⟩
  go_wp2
  go_ret
  exact ⟨rfl, Grew.refl _⟩
set_option maxRecDepth 100000 in
set_option maxHeartbeats 800000 in
theorem order_float (a c : Nat) (x y : Value) (fs gs : List Nat) (w : World) (h : VRep w (.float a) x fs) (h' : VRep w (.float c) y gs) (ho : okV (.float a)) (ho' : okV (.float c)) :
    Calls Try.prog 185 #[x, y] w fun e w' => e = .returned (.int .i64 (cmpV (.float a) (.float c))) ∧ Grew w w' := by
  have hk := Lib.hid (fun W => kind_val h W)
  have hk' := Lib.hid (fun W => kind_val h' W)
  simp only [VRep] at h h'
  obtain ⟨rfl, hn, -⟩ := h
  obtain ⟨rfl, hm, -⟩ := h'
  have r1 : a < 18446744073709551616 := by simpa [Lit.wf] using hn
  have r2 : c < 18446744073709551616 := by simpa [Lit.wf] using hm
  rw [cmpV_float]
  clear ho ho' hn hm
  have r1H := Lib.hid r1
  have r2H := Lib.hid r2
  clear r1 r2
  go_enter Try.func185, Try.ntmps185
  go_wp2_with fail
  refine (hk.out _).mono ?_
  rintro e w1 ⟨rfl, rfl⟩
  go_wp2_with fail
  refine (hk'.out _).mono ?_
  rintro e w1 ⟨rfl, rfl⟩
  go_wp2_with fail
  refine (vcmp_self _ _).mono ?_
  rintro e w1 ⟨rfl, rfl⟩
  go_wp2_with fail
  go_quiet (first | (go_at_call 231; exact Calls.quiet_of_same ((vplace_said _ (by first | exact r1H.out | exact r2H.out) _).mono fun _ _ ⟨he, hw⟩ => ⟨he, hw.symm⟩)) | (go_at_call 230; exact Calls.quiet_of_same ((vcmp_uint64 _ _ _).mono fun _ _ ⟨he, hw⟩ => ⟨he, hw.symm⟩)))
  go_wp2
  go_ret
  exact ⟨rfl, (Grew.refl _).drewN _⟩
set_option maxRecDepth 100000 in
set_option maxHeartbeats 800000 in
theorem order_text (s q : ByteArray) (x y : Value) (fs gs : List Nat) (w : World) (h : VRep w (.text s) x fs) (h' : VRep w (.text q) y gs) (ho : okV (.text s)) (ho' : okV (.text q)) :
    Calls Try.prog 185 #[x, y] w fun e w' => e = .returned (.int .i64 (cmpV (.text s) (.text q))) ∧ Grew w w' := by
  have hk := Lib.hid (fun W => kind_val h W)
  have hk' := Lib.hid (fun W => kind_val h' W)
  simp only [VRep] at h h'
  obtain ⟨rfl, -⟩ := h
  obtain ⟨rfl, -⟩ := h'
  rw [cmpV_text]
  clear ho ho'
  go_enter Try.func185, Try.ntmps185
  go_wp2_with fail
  refine (hk.out _).mono ?_
  rintro e w1 ⟨rfl, rfl⟩
  go_wp2_with fail
  refine (hk'.out _).mono ?_
  rintro e w1 ⟨rfl, rfl⟩
  go_wp2_with fail
  refine (vcmp_self _ _).mono ?_
  rintro e w1 ⟨rfl, rfl⟩
  go_wp2_with fail
  refine (vcmp_string _ _ _).mono ?_
  rintro e w1 ⟨rfl, rfl⟩
  go_wp2
  go_ret
  exact ⟨rfl, Grew.refl _⟩
set_option maxRecDepth 100000 in
set_option maxHeartbeats 800000 in
theorem order_bytes (l m : List UInt8) (x y : Value) (fs gs : List Nat) (w : World) (h : VRep w (.bytes l) x fs) (h' : VRep w (.bytes m) y gs) (ho : okV (.bytes l)) (ho' : okV (.bytes m)) :
    Calls Try.prog 185 #[x, y] w fun e w' => e = .returned (.int .i64 (cmpV (.bytes l) (.bytes m))) ∧ Grew w w' := by
  have hk := Lib.hid (fun W => kind_val h W)
  have hk' := Lib.hid (fun W => kind_val h' W)
  simp only [VRep] at h h'
  obtain ⟨sv, rfl, hrow, -⟩ := h
  obtain ⟨sv', rfl, hrow', -⟩ := h'
  have hone : sv.oneCell' = true := by obtain ⟨_, _, rfl, -⟩ := ownsRow_form hrow; rfl
  have hone' : sv'.oneCell' = true := by obtain ⟨_, _, rfl, -⟩ := ownsRow_form hrow'; rfl
  have hc := Lib.hid (compare_bytes l m sv sv' w hrow hrow')
  rw [cmpV_bytes]
  clear ho ho' hrow hrow'
  go_enter Try.func185, Try.ntmps185
  go_wp2_with fail
  refine (hk.out _).mono ?_
  rintro e w1 ⟨rfl, rfl⟩
  go_wp2_with fail
  refine (hk'.out _).mono ?_
  rintro e w1 ⟨rfl, rfl⟩
  go_wp2_with fail
  refine (vcmp_self _ _).mono ?_
  rintro e w1 ⟨rfl, rfl⟩
  go_wp2_with fail
  refine (hc.out).mono ?_
  rintro e w1 ⟨rfl, rfl⟩
  go_wp2
  go_ret
  exact ⟨rfl, Grew.refl _⟩
set_option maxRecDepth 100000 in
set_option maxHeartbeats 800000 in
theorem order_ref (n m : Int) (x y : Value) (fs gs : List Nat) (w : World) (h : VRep w (.ref n) x fs) (h' : VRep w (.ref m) y gs) (ho : okV (.ref n)) (ho' : okV (.ref m)) :
    Calls Try.prog 185 #[x, y] w fun e w' => e = .returned (.int .i64 (cmpV (.ref n) (.ref m))) ∧ Grew w w' := by
  have hk := Lib.hid (fun W => kind_val h W)
  have hk' := Lib.hid (fun W => kind_val h' W)
  simp only [VRep] at h h'
  obtain ⟨rfl, hn, -⟩ := h
  obtain ⟨rfl, hm, -⟩ := h'
  have r1 : 0 ≤ n ∧ n ≤ 18446744073709551615 := by simpa [Lit.wf, IntKind.min, IntKind.max, IntKind.signed, IntKind.bits] using hn
  have r2 : 0 ≤ m ∧ m ≤ 18446744073709551615 := by simpa [Lit.wf, IntKind.min, IntKind.max, IntKind.signed, IntKind.bits] using hm
  rw [cmpV_ref r1.1 r2.1]
  clear ho ho' hn hm r1 r2
  go_enter Try.func185, Try.ntmps185
  go_wp2_with fail
  refine (hk.out _).mono ?_
  rintro e w1 ⟨rfl, rfl⟩
  go_wp2_with fail
  refine (hk'.out _).mono ?_
  rintro e w1 ⟨rfl, rfl⟩
  go_wp2_with fail
  refine (vcmp_self _ _).mono ?_
  rintro e w1 ⟨rfl, rfl⟩
  go_wp2_with fail
  refine (vcmp_ref _ _ _).mono ?_
  rintro e w1 ⟨rfl, rfl⟩
  go_wp2
  go_ret
  exact ⟨rfl, Grew.refl _⟩
set_option maxRecDepth 100000 in
set_option maxHeartbeats 800000 in
theorem order_list (l m : List Val) (ih : ∀ v ∈ l, OrderSaid v) (x y : Value) (fs gs : List Nat) (w : World) (h : VRep w (.list l) x fs) (h' : VRep w (.list m) y gs) (ho : okV (.list l)) (ho' : okV (.list m)) :
    Calls Try.prog 185 #[x, y] w fun e w' => e = .returned (.int .i64 (cmpV (.list l) (.list m))) ∧ Grew w w' := by
  have hk := Lib.hid (fun W => kind_val h W)
  have hk' := Lib.hid (fun W => kind_val h' W)
  simp only [VRep] at h h'
  obtain ⟨sv, xs, g1, rfl, hrow, hxs, -⟩ := h
  obtain ⟨sv', ys, g2, rfl, hrow', hys, -⟩ := h'
  have hone : sv.oneCell' = true := by obtain ⟨_, _, rfl, -⟩ := ownsRow_form hrow; rfl
  have hone' : sv'.oneCell' = true := by obtain ⟨_, _, rfl, -⟩ := ownsRow_form hrow'; rfl
  have hc := Lib.hid (cmpfunc_list l m ih sv sv' xs ys g1 g2 w hrow hxs hrow' hys ho.2 ho'.2)
  rw [cmpV_list]
  clear ho ho' hrow hrow' hxs hys ih
  go_enter Try.func185, Try.ntmps185
  go_wp2_with fail
  refine (hk.out _).mono ?_
  rintro e w1 ⟨rfl, rfl⟩
  go_wp2_with fail
  refine (hk'.out _).mono ?_
  rintro e w1 ⟨rfl, rfl⟩
  go_wp2_with fail
  refine (vcmp_self _ _).mono ?_
  rintro e w1 ⟨rfl, rfl⟩
  go_wp2_with fail
  refine (hc.out).mono ?_
  rintro e w1 ⟨rfl, hg⟩
  go_wp2
  go_ret
  exact ⟨rfl, hg⟩
set_option maxRecDepth 100000 in
set_option maxHeartbeats 800000 in
theorem order_dict (l m : List (ByteArray × Val)) (ih : ∀ v ∈ l.map (·.2), OrderSaid v) (x y : Value) (fs gs : List Nat) (w : World) (h : VRep w (.dict l) x fs) (h' : VRep w (.dict m) y gs) (ho : okV (.dict l)) (ho' : okV (.dict m)) :
    Calls Try.prog 185 #[x, y] w fun e w' => e = .returned (.int .i64 (cmpV (.dict l) (.dict m))) ∧ Grew w w' := by
  have hk := Lib.hid (fun W => kind_val h W)
  have hk' := Lib.hid (fun W => kind_val h' W)
  simp only [VRep] at h h'
  obtain ⟨sv, xs, g1, rfl, hrow, hxs, -⟩ := h
  obtain ⟨sv', ys, g2, rfl, hrow', hys, -⟩ := h'
  have hone : sv.oneCell' = true := by obtain ⟨_, _, rfl, -⟩ := ownsRow_form hrow; rfl
  have hone' : sv'.oneCell' = true := by obtain ⟨_, _, rfl, -⟩ := ownsRow_form hrow'; rfl
  have hc := Lib.hid (cmpfunc_dict l m ih sv sv' xs ys g1 g2 w hrow hxs hrow' hys ho.2 ho'.2)
  rw [cmpV_dict]
  clear ho ho' hrow hrow' hxs hys ih
  go_enter Try.func185, Try.ntmps185
  go_wp2_with fail
  refine (hk.out _).mono ?_
  rintro e w1 ⟨rfl, rfl⟩
  go_wp2_with fail
  refine (hk'.out _).mono ?_
  rintro e w1 ⟨rfl, rfl⟩
  go_wp2_with fail
  refine (vcmp_self _ _).mono ?_
  rintro e w1 ⟨rfl, rfl⟩
  go_wp2_with fail
  refine (hc.out).mono ?_
  rintro e w1 ⟨rfl, hg⟩
  go_wp2
  go_ret
  exact ⟨rfl, hg⟩
set_option maxRecDepth 100000 in
set_option maxHeartbeats 800000 in
theorem order_record (c c' : ByteArray) (n n' : Int) (l m : List (ByteArray × Val)) (ih : ∀ v ∈ l.map (·.2), OrderSaid v) (x y : Value) (fs gs : List Nat) (w : World) (h : VRep w (.record c n l) x fs) (h' : VRep w (.record c' n' m) y gs) (ho : okV (.record c n l)) (ho' : okV (.record c' n' m)) :
    Calls Try.prog 185 #[x, y] w fun e w' => e = .returned (.int .i64 (cmpV (.record c n l) (.record c' n' m))) ∧ Grew w w' := by
  have hk := Lib.hid (fun W => kind_val h W)
  have hk' := Lib.hid (fun W => kind_val h' W)
  simp only [VRep] at h h'
  obtain ⟨b, sv, xs, g1, rfl, hblk, -, -, hrow, hxs, -⟩ := h
  obtain ⟨b', sv', ys, g2, rfl, hblk', -, -, hrow', hys, -⟩ := h'
  have hone : sv.oneCell' = true := by obtain ⟨_, _, rfl, -⟩ := ownsRow_form hrow; rfl
  have hone' : sv'.oneCell' = true := by obtain ⟨_, _, rfl, -⟩ := ownsRow_form hrow'; rfl
  have hlt : b < w.heap.size := (Array.getElem?_eq_some_iff.1 hblk).1
  have hlt' : b' < w.heap.size := (Array.getElem?_eq_some_iff.1 hblk').1
  have hcl : ∀ i v, (#[Value.string c, .int .i64 n, sv] : Array Value)[i]? = some v → w.cell? ⟨b, i, none⟩ = some v := fun i v hv => by rw [World.cell?, hblk]; exact hv
  have hcl' : ∀ i v, (#[Value.string c', .int .i64 n', sv'] : Array Value)[i]? = some v → w.cell? ⟨b', i, none⟩ = some v := fun i v hv => by rw [World.cell?, hblk']; exact hv
  have q0 := hcl 0 _ rfl
  have q1 := hcl 1 _ rfl
  have q2 := hcl 2 _ rfl
  have p0 := hcl' 0 _ rfl
  have p1 := hcl' 1 _ rfl
  have p2 := hcl' 2 _ rfl
  have hc := Lib.hid (fun W (hg : Grew w W) => cmpfunc_dict l m ih sv sv' xs ys g1 g2 W (ownsRow_keep hrow (fun b hb => hg.below.block b (ownsRow_lt hrow b hb).2)) (DsRep.keep l xs g1 hxs (fun b hb => hg.below.block b (DsRep.lt _ _ _ hxs b hb))) (ownsRow_keep hrow' (fun b hb => hg.below.block b (ownsRow_lt hrow' b hb).2)) (DsRep.keep m ys g2 hys (fun b hb => hg.below.block b (DsRep.lt _ _ _ hys b hb))) ho.2 ho'.2)
  obtain ⟨-, v0, v1, -⟩ := record_own ho.1
  obtain ⟨-, v2, v3, -⟩ := record_own ho'.1
  have hrec0 := cmpV_record c c' (by omega : 0 ≤ n) (by omega : 0 ≤ n') l m
  obtain ⟨r, hr⟩ : ∃ r : Int, r = lexN (ordT c.data.toList) (ordT c'.data.toList) := ⟨_, rfl⟩
  obtain ⟨r3, hr3⟩ : ∃ r : Int, r = cmpV (.record c n l) (.record c' n' m) := ⟨_, rfl⟩
  obtain ⟨r4, hr4⟩ : ∃ r : Int, r = lexN (ordDs l) (ordDs m) := ⟨_, rfl⟩
  have htxt0 := fun W => vcmp_string c c' W
  rw [← hr] at htxt0 hrec0
  rw [← hr4] at hrec0 hc
  rw [← hr3] at hrec0 ⊢
  have htxt := Lib.hid htxt0
  have hrec := Lib.hid hrec0
  clear htxt0 hrec0 hr hr3 hr4 hcl hcl' hblk hblk' hrow hrow' hxs hys ih ho ho'
  go_enter Try.func185, Try.ntmps185
  go_wp2_with fail
  refine (hk.out _).mono ?_
  rintro e w1 ⟨rfl, rfl⟩
  go_wp2_with fail
  refine (hk'.out _).mono ?_
  rintro e w1 ⟨rfl, rfl⟩
  go_wp2_with fail
  refine (vcmp_self _ _).mono ?_
  rintro e w1 ⟨rfl, rfl⟩
  go_wp2_with fail
  go_quiet ((go_at_call 232; exact Calls.quiet_of_same ((htxt.out _).mono fun _ _ ⟨he, hw⟩ => ⟨he, hw.symm⟩)))
  have hg1 : Grew w (w.drewN nq) := (Grew.refl w).drewN nq
  have s0 : (w.drewN nq).cell? ⟨b, 1, none⟩ = some (.int .i64 n) := q1
  have s1 : (w.drewN nq).cell? ⟨b, 2, none⟩ = some sv := q2
  have t0 : (w.drewN nq).cell? ⟨b', 1, none⟩ = some (.int .i64 n') := p1
  have t1 : (w.drewN nq).cell? ⟨b', 2, none⟩ = some sv' := p2
  have hz : (w.drewN nq).heap.size = w.heap.size := rfl
  have hl1 : b < (w.drewN nq).heap.size := hlt
  have hl2 : b' < (w.drewN nq).heap.size := hlt'
  clear q0 q1 q2 p0 p1 p2 hz
  revert hg1 s0 s1 t0 t1 hl1 hl2
  generalize w.drewN nq = w1
  intro hg1 s0 s1 t0 t1 hl1 hl2
  by_cases hc0 : r = 0
  · subst hc0
    rw [if_pos rfl] at hrec
    go_wp2_with fail
    go_quiet ((go_at_call 226; exact Calls.quiet_of_same ((vcmp_int _ _ _).mono fun _ _ ⟨he, hw⟩ => ⟨he, hw.symm⟩)))
    rename_i nq1
    have hg2 : Grew w (w1.drewN nq) := hg1.drewN nq
    have s2 : (w1.drewN nq).cell? ⟨b, 2, none⟩ = some sv := s1
    have t2 : (w1.drewN nq).cell? ⟨b', 2, none⟩ = some sv' := t1
    have hl3 : b < (w1.drewN nq).heap.size := hl1
    have hl4 : b' < (w1.drewN nq).heap.size := hl2
    clear s0 s1 t0 t1
    revert hg2 s2 t2 hl3 hl4
    generalize w1.drewN nq = w2
    intro hg2 s2 t2 hl3 hl4
    by_cases hvv : n = n'
    · subst hvv
      rw [if_pos rfl] at hrec
      rw [show cmpI n n = 0 from by unfold cmpI; rw [if_neg (by omega), if_neg (by omega)]]
      go_wp2_with fail
      have s3 := fun k os => cell_grown hl3 s2 k os
      have t3 := fun k os => cell_grown hl4 t2 k os
      have hcc := Lib.hid (fun k os => hc.out (grow (w2.drewN k) os) (hg2.trans ⟨⟨k, os⟩, rfl⟩))
      have mixed : Try.prog.follows .mixedOrders = true := by kernel_rfl
      go_quiet_grown ((go_at_call 236; exact Calls.in_grown (hcc.out _ _)))
      go_wp2
      go_ret
      exact ⟨ret_int hrec.out.symm, hg2.trans ⟨⟨_, _⟩, rfl⟩⟩
    · rw [if_neg hvv] at hrec
      have hcb : (cmpI n n' != 0) = true := by simpa using fun h0 => hvv (cmpI_zero h0)
      clear hvv
      go_wp2
      go_ret
      exact ⟨ret_int hrec.out.symm, hg2⟩
  · have hcb : (r != 0) = true := by simpa using hc0
    rw [if_neg hc0] at hrec
    clear hc0
    go_wp2
    go_ret
    exact ⟨ret_int hrec.out.symm, hg1⟩
theorem order_any : ∀ v : Val, OrderSaid v := val_ind fun v ih => by
  intro u x y fs gs w h h' ho ho'
  by_cases hk : kindV v = kindV u
  · cases v <;> cases u <;> first
      | exact ho.elim
      | exact ho'.elim
      | (exfalso; simp [kindV] at hk; done)
      | exact order_nil x y fs gs w h h' ho ho'
      | exact order_bool _ _ x y fs gs w h h' ho ho'
      | exact order_int _ _ x y fs gs w h h' ho ho'
      | exact order_float _ _ x y fs gs w h h' ho ho'
      | exact order_text _ _ x y fs gs w h h' ho ho'
      | exact order_bytes _ _ x y fs gs w h h' ho ho'
      | exact order_ref _ _ x y fs gs w h h' ho ho'
      | exact order_list _ _ ih x y fs gs w h h' ho ho'
      | exact order_dict _ _ ih x y fs gs w h h' ho ho'
      | exact order_record _ _ _ _ _ _ ih x y fs gs w h h' ho ho'
  · exact order_kinds v u x y fs gs w h h' ho ho' hk
end Go.Proofs.Ytgmdbpplfjkjmaa
