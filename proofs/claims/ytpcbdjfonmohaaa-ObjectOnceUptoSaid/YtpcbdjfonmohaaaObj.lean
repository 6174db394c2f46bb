/- object: holds, isName, caught, asked. -/
import Derived.Test.YtpcbdjfonmohaaaTry
import Derived.Test.YtpcbdjfonmohaaaValName
import Derived.Test.YtpcbdjfonmohaaaFetch
namespace Go.Proofs.Ytpcbdjfonmohaaa
open Go.RowKit
set_option linter.unusedVariables false
set_option linter.unusedSimpArgs false

theorem obj_nil (W : World) : (binOp .eql 74 .nilIface .nilIface).run Try.prog W = .ok (.bool true) W := by kernel_rfl
theorem obj_some (u : TypeId) (x : Value) (W : World) : (binOp .eql 74 (.iface u x) .nilIface).run Try.prog W = .ok (.bool false) W := by kernel_rfl
theorem assert_thing (x : Value) (W : World) : (Instr.typeAssert (.iface 92 x) 74 92 true).run Try.prog W = .ok (.tuple #[x, .bool true]) W := by
  have hu := Try.underlying92
  simp [Instr.typeAssert, run_underlying hu]
theorem thing_ptr_zero (W : World) : (do pure (Value.tuple #[← zeroValue 92, .bool false]) : Sem Value).run Try.prog W = .ok (.tuple #[(.pointer none), .bool false]) W := by kernel_rfl
theorem assert_other (u : TypeId) (hu : u ≠ 92) (x : Value) (W : World) : (Instr.typeAssert (.iface u x) 74 92 true).run Try.prog W = .ok (.tuple #[.pointer none, .bool false]) W := by
  have hz := thing_ptr_zero W
  have hv := Try.underlying92
  simp [Instr.typeAssert, run_underlying hv, hu] at hz ⊢
section
variable (w : World)
theorem holds_nil : Calls Try.prog 86 #[.nilIface] w fun e w' => e = .returned (.int .i64 1) ∧ w' = w := by
  have h1 := obj_nil
  go_enter Try.func86, Try.ntmps86
  go_wp2
  go_ret
  exact ⟨rfl, rfl⟩
theorem holds_hollow : Calls Try.prog 86 #[.iface 92 (.pointer none)] w fun e w' => e = .returned (.int .i64 2) ∧ w' = w := by
  have h1 := fun W => obj_some 92 (.pointer none) W
  have h2 := fun W => assert_thing (.pointer none) W
  go_enter Try.func86, Try.ntmps86
  go_wp2
  go_ret
  exact ⟨rfl, rfl⟩
theorem holds_thing (a : Addr) : Calls Try.prog 86 #[.iface 92 (.pointer (some a))] w fun e w' => e = .returned (.int .i64 0) ∧ w' = w := by
  have h1 := fun W => obj_some 92 (.pointer (some a)) W
  have h2 := fun W => assert_thing (.pointer (some a)) W
  go_enter Try.func86, Try.ntmps86
  go_wp2
  go_ret
  exact ⟨rfl, rfl⟩
theorem holds_other (u : TypeId) (hu : u ≠ 92) (x : Value) : Calls Try.prog 86 #[.iface u x] w fun e w' => e = .returned (.int .i64 0) ∧ w' = w := by
  have h1 := fun W => obj_some u x W
  have h2 := fun W => assert_other u hu x W
  go_enter Try.func86, Try.ntmps86
  go_wp2
  go_ret
  exact ⟨rfl, rfl⟩
theorem Holds_of (o : Value) (ho : o.oneCell' = true) (n : Int) (h : Calls Try.prog 86 #[o] w fun e w' => e = .returned (.int .i64 n) ∧ w' = w) : Calls Try.prog 82 #[o] w fun e w' => e = .returned (.int .i64 n) ∧ w' = w := by
  have hH := Lib.hid h
  clear h
  go_enter Try.func82, Try.ntmps82
  go_wp2_with fail
  refine hH.out.mono ?_
  rintro e w' ⟨rfl, rfl⟩
  go_wp2
  go_ret
  exact ⟨rfl, rfl⟩
end
set_option maxRecDepth 100000 in
theorem isName_any (s : ByteArray) (w : World) : Calls Try.prog 89 #[.string s] w fun e w' => e = .returned (.bool (nameOk s)) ∧ Below w.heap.size w w' := by
  by_cases h0 : s.size = 0
  · have hn := Lib.hid (nameOk_head (s := s) (by omega))
    have hz := toList_nil h0
    clear h0
    go_enter Try.func89, Try.ntmps89
    go_wp2
    go_ret
    exact ⟨ret_bool hn.out.symm, Below.refl _ _⟩
  · have hz := toList_cons h0
    have hf := Lib.hid (first_getD (s := s) (by omega))
    obtain ⟨w1, cap, hconv, hcell, hb, hsz⟩ := bytes_of s w
    have hcelL := Lib.hid hcell
    clear hsz hcell
    by_cases h1 : 32 < s.size
    · have hn := Lib.hid (nameOk_head (s := s) (by omega))
      go_enter Try.func89, Try.ntmps89
      go_wp2
      go_ret
      exact ⟨ret_bool hn.out.symm, Below.refl _ _⟩
    · by_cases h2 : 97 ≤ (s[0]'(by omega)).toNat
      · have hall := Lib.hid (fun (h3 : (s.data.toList.getD 0 0).toNat ≤ 122) => nameOk_all (s := s) (by omega) (by omega) (by rw [← hf.out]; exact h2) h3)
        have hfar := Lib.hid (fun (h3 : ¬ (s.data.toList.getD 0 0).toNat ≤ 122) => nameOk_head (s := s) (fun h => h3 h.2.2.2))
        have g1 : ((s.size : Nat) : Int) ≤ 32 := by omega
        have g2 : (97 : Int) ≤ ((s[0]'(by omega)).toNat : Int) := by omega
        have d1 : decide (32 < (s.size : Int)) = false := by simp; omega
        have d2 : decide (((s[0]'(by omega)).toNat : Int) < 97) = false := by simp; omega
        have hge := Lib.hid (show 97 ≤ (s.data.toList.getD 0 0).toNat by rw [← hf.out]; exact h2)
        clear h2 hf
        go_enter Try.func89, Try.ntmps89
        go_wp2
        clear d1 d2 hconv hz
        go_loop [20] (fun i => ∃ k : Nat, k ≤ s.size ∧ i = .int .i64 k ∧ ∀ j, j < k → nameCh (s.data.toList.getD j 0) = true) (fun i => s.size - (intOf i).toNat)
        case atStart => exact ⟨0, Nat.zero_le _, rfl, fun j hj => absurd hj (Nat.not_lt_zero _)⟩
        case round =>
          obtain ⟨k, hk, rfl, hpre⟩ := hrel
          have hprE := Lib.hid hpre
          clear hpre
          by_cases hlt : k < s.size
          · have hc := hcelL.out k hlt
            have hbad0 := nameOk_bad (s := s) hlt
            generalize hcv : s.data.toList.getD k 0 = c at hc hbad0
            have hcV := Lib.hid hcv
            have hbad := Lib.hid hbad0
            clear hcv hbad0
            have hc2 : (c.toNat : Int) < 256 := by have := c.toNat_lt; omega
            go_wp2
            all_goals first
              | (go_round
                 case rel => exact ⟨k + 1, by omega, by go_num, pre_snoc hprE hcV (by unfold nameCh; rw [decide_eq_true_eq]; simp at *; omega)⟩
                 case measure => simp [intOf]; omega)
              | (go_ret; exact ⟨ret_bool (hbad.out (by unfold nameCh; rw [decide_eq_false_iff_not]; simp at *; omega)).symm, hb⟩)
          · obtain rfl : k = s.size := by omega
            have h3 : (s.data.toList.getD 0 0).toNat ≤ 122 := by
              have h4 := hprE.out 0 (by omega)
              have h5 := hge.out
              unfold nameCh at h4
              rw [decide_eq_true_eq] at h4
              omega
            go_wp2
            go_ret
            exact ⟨ret_bool (hall.out h3 hprE.out).symm, hb⟩
      · have hn := Lib.hid (nameOk_head (s := s) (fun ⟨_, _, a, b⟩ => h2 (by rw [hf.out]; exact a)))
        clear hf
        go_enter Try.func89, Try.ntmps89
        go_wp2
        all_goals go_ret
        all_goals exact ⟨ret_bool hn.out.symm, Below.refl _ _⟩
/-- The world in which caught calls. -/
def caughtW (w : World) : World := w.alloc (.cells #[.bool true] 4)
set_option maxRecDepth 100000 in
theorem caught1_idle (b : Nat) (w : World) (hb : w.cell? ⟨b, 0, none⟩ = some (.bool false)) :
    CallsD Try.prog 133 #[.pointer (some ⟨b, 0, none⟩)] .returning w fun e u' w' => e = .returned (.tuple #[]) ∧ u' = .returning ∧ w = w' := by
  refine callsD_of_wpS Try.func133 rfl fun c₀ cs hu => ?_
  refine wpS_of_wp ?_
  simp only [Try.ntmps133, List.size_toArray, List.length_cons, List.length_nil, Nat.reduceAdd, Nat.reduceSub, Array.replicate_succ, Array.replicate_zero, List.push_toArray, List.append_toArray, List.nil_append, List.cons_append]
  go_wp2
  exact ⟨rfl, .returning, by rw [← hu], _, results_none rfl _ _ _, rfl, rfl, rfl⟩
set_option maxRecDepth 100000 in
/-- caught, of what returns. -/
theorem caught_ret (F : FuncId) (caps : Array Value) (w : World) (R : World → Prop) (hF : ∀ (args : Array Value) (W : World), (callFunc F args).run Try.prog W = .ok (.enter F args) W) (hcall : Calls Try.prog F caps (caughtW w) fun e w' => (∃ v, e = .returned v) ∧ w'.heap[w.heap.size]? = some (.cells #[.bool true] 4 (0, 0)) ∧ R w') :
    Calls Try.prog 114 #[.func (.func F) #[] caps] w fun e w'' => e = .returned (.bool false) ∧ ∃ w', R w' ∧ w'' = w'.setCell ⟨w.heap.size, 0, none⟩ (.bool false) := by
  have hmf : ∀ (fn : Fn) (first cap : Array Value) (w : World), (Instr.makeFunc fn first cap).run Try.prog w = .ok (.func fn first cap) w := fun _ _ _ _ => rfl
  have hcH := Lib.hid hcall
  clear hcall
  unfold caughtW at hcH
  go_enter_defers Try.func114, Try.ntmps114
  go_wp2_with fail
  refine hcH.out.mono ?_
  rintro e w' ⟨⟨v, rfl⟩, hk, hR⟩
  have k1 : w'.cell? ⟨w.heap.size, 0, none⟩ = some (.bool true) := by simp [World.cell?, hk]
  have f1 : w'.frozen? ⟨w.heap.size, 0, none⟩ = false := by simp [World.frozen?, hk]
  have hRH := Lib.hid hR
  clear hk hR
  go_wp2
  refine leaves_cons (f := 133) (args := #[.pointer (some ⟨w.heap.size, 0, none⟩)]) (by simp) (by simp [go_sem]) ?_
  refine (caught1_idle _ _ (World.cell?_setCell_same _ _ _ k1)).mono ?_
  rintro e u' w'' ⟨rfl, rfl, rfl⟩
  refine ⟨.bool false, ?_, rfl, w', hRH.out, rfl⟩
  simp [results, Try.results114, go_sem, k1, f1]
/-- asked, of what returns. -/
theorem asked_ret (F : FuncId) (caps : Array Value) (w : World) (R : World → Prop) (hF : ∀ (args : Array Value) (W : World), (callFunc F args).run Try.prog W = .ok (.enter F args) W) (hcall : Calls Try.prog F caps (caughtW w) fun e w' => (∃ v, e = .returned v) ∧ w'.heap[w.heap.size]? = some (.cells #[.bool true] 4 (0, 0)) ∧ R w') :
    Calls Try.prog 87 #[.func (.func F) #[] caps] w fun e w'' => e = .returned (.int .i64 0) ∧ ∃ w', R w' ∧ w'' = w'.setCell ⟨w.heap.size, 0, none⟩ (.bool false) := by
  have hc := Lib.hid (caught_ret F caps w R hF hcall)
  clear hcall
  go_enter Try.func87, Try.ntmps87
  go_wp2_with fail
  refine hc.out.mono ?_
  rintro e w2 ⟨rfl, hR⟩
  have hRH := Lib.hid hR
  clear hR
  go_wp2
  go_ret
  exact ⟨rfl, hRH.out⟩
end Go.Proofs.Ytpcbdjfonmohaaa
