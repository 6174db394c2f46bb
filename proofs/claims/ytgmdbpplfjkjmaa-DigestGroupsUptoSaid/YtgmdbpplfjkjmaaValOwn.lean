/- The walk of value.own: what is wrong with a part itself. -/
import Derived.Test.YtgmdbpplfjkjmaaValKind
import Derived.Test.YtgmdbpplfjkjmaaValFields
namespace Go.Proofs.Ytgmdbpplfjkjmaa
open Go.RowKit
set_option linter.unusedVariables false
set_option linter.unusedSimpArgs false

set_option maxRecDepth 100000 in
theorem own_over {w : World} {v : Val} {x : Value} {fs : List Nat} (h : VRep w v x fs) (n deep : Int) (W : World) (ho : 16384 ≤ n ∨ 64 < deep) :
    Calls Try.prog 224 #[x, .int .i64 n, .int .i64 deep] W fun e w' => e = .returned (.int .i64 (ownF v n deep)) ∧ Below W.heap.size W w' := by
  have hk := Lib.hid (kind_val h)
  have hf : ownF v n deep = (if kindV v = 11 then 7 else if kindV v = 0 then 6 else 2) := if_pos ho
  rw [hf]
  clear h hf
  generalize kindV v = kv at *
  by_cases hn : 16384 ≤ n
  · clear ho
    go_enter Try.func224, Try.ntmps224
    go_wp2_with (go_at_call 227; refine (hk.out _).mono ?_; rintro e w' ⟨rfl, rfl⟩)
    all_goals go_ret
    all_goals exact ⟨ret_int (by simp_all), Below.refl _ _⟩
  · have hd : 64 < deep := by omega
    clear ho
    go_enter Try.func224, Try.ntmps224
    go_wp2_with (go_at_call 227; refine (hk.out _).mono ?_; rintro e w' ⟨rfl, rfl⟩)
    all_goals go_ret
    all_goals exact ⟨ret_int (by simp_all), Below.refl _ _⟩

set_option maxRecDepth 100000 in
theorem own_under {w : World} {v : Val} {x : Value} {fs : List Nat} (h : VRep w v x fs) (n deep : Int) (h1 : n < 16384) (h2 : deep ≤ 64) :
    Calls Try.prog 224 #[x, .int .i64 n, .int .i64 deep] w fun e w' => e = .returned (.int .i64 (ownIn v)) ∧ Below w.heap.size w w' := by
  have hkind := Lib.hid (kind_val h)
  cases v <;> simp only [VRep] at h
  case nil =>
    obtain ⟨rfl, _⟩ := h
    go_enter Try.func224, Try.ntmps224
    go_wp2_with ((go_at_call 227; refine (hkind.out _).mono ?_; rintro e w' ⟨rfl, rfl⟩))
    go_ret
    exact ⟨rfl, Below.refl _ _⟩
  case bool =>
    obtain ⟨rfl, _⟩ := h
    go_enter Try.func224, Try.ntmps224
    go_wp2_with ((go_at_call 227; refine (hkind.out _).mono ?_; rintro e w' ⟨rfl, rfl⟩))
    go_ret
    exact ⟨rfl, Below.refl _ _⟩
  case int =>
    obtain ⟨rfl, _⟩ := h
    go_enter Try.func224, Try.ntmps224
    go_wp2_with ((go_at_call 227; refine (hkind.out _).mono ?_; rintro e w' ⟨rfl, rfl⟩))
    go_ret
    exact ⟨rfl, Below.refl _ _⟩
  case float =>
    obtain ⟨rfl, _⟩ := h
    go_enter Try.func224, Try.ntmps224
    go_wp2_with ((go_at_call 227; refine (hkind.out _).mono ?_; rintro e w' ⟨rfl, rfl⟩))
    go_ret
    exact ⟨rfl, Below.refl _ _⟩
  case ref =>
    obtain ⟨rfl, _⟩ := h
    go_enter Try.func224, Try.ntmps224
    go_wp2_with ((go_at_call 227; refine (hkind.out _).mono ?_; rintro e w' ⟨rfl, rfl⟩))
    go_ret
    exact ⟨rfl, Below.refl _ _⟩
  case text s =>
    obtain ⟨rfl, hs, _⟩ := h
    unfold maxLen at hs
    go_enter Try.func224, Try.ntmps224
    go_wp2_with (fail)
    all_goals go_ret
    all_goals exact ⟨ret_int (by simp only [ownIn]; first | rw [if_pos (by omega)] | rw [if_neg (by omega)]), Below.refl _ _⟩
  case bytes l =>
    obtain ⟨sv, rfl, ho, _⟩ := h
    obtain ⟨a, cap, rfl, hc, hm, -⟩ := ownsRow_form ho
    unfold maxLen at hm
    go_enter Try.func224, Try.ntmps224
    go_wp2_with (fail)
    all_goals go_ret
    all_goals exact ⟨ret_int (by simp only [ownIn]; first | rw [if_pos (by omega)] | rw [if_neg (by omega)]), Below.refl _ _⟩
  case list l =>
    obtain ⟨sv, _, _, rfl, ho, _⟩ := h
    obtain ⟨a, cap, rfl, hc, hm, -⟩ := ownsRow_form ho
    unfold maxLen at hm
    go_enter Try.func224, Try.ntmps224
    go_wp2_with (fail)
    all_goals go_ret
    all_goals exact ⟨ret_int (by simp only [ownIn]; first | rw [if_pos (by omega)] | rw [if_neg (by omega)]), Below.refl _ _⟩
  case dict d =>
    obtain ⟨sv, xs, gs, rfl, ho, hd, _⟩ := h
    have hf := Lib.hid (fields_any d sv xs gs w ho hd)
    clear ho hd
    go_enter Try.func224, Try.ntmps224
    go_wp2_with ((go_at_call 260; refine hf.out.mono ?_; rintro e w' ⟨rfl, hb⟩))
    go_ret
    exact ⟨rfl, hb⟩
  case nothing =>
    obtain ⟨rfl, _⟩ := h
    go_enter Try.func224, Try.ntmps224
    go_wp2_with ((go_at_call 227; refine (hkind.out _).mono ?_; rintro e w' ⟨rfl, rfl⟩))
    go_ret
    exact ⟨rfl, Below.refl _ _⟩
  case alien u =>
    obtain ⟨y, rfl, hk, _⟩ := h
    obtain ⟨k1, k2, k3, k4, k5, k6, k7, k8, k9⟩ := kinded_no hk
    clear hk
    go_enter Try.func224, Try.ntmps224
    go_wp2_with ((go_at_call 227; refine (hkind.out _).mono ?_; rintro e w' ⟨rfl, rfl⟩))
    go_ret
    exact ⟨rfl, Below.refl _ _⟩
  case record c m d =>
    obtain ⟨b, sv, xs, gs, rfl, hr, hc, hm, ho, hd, _⟩ := h
    obtain ⟨r0, r1, r2, hbl, -⟩ := recCells hr
    have hname := Lib.hid (name_any c w)
    have hfl := Lib.hid (fun (w' : World) (hb : Below w.heap.size w w') => fields_any d sv xs gs w' (ownsRow_keep ho (fun k hk => hb.block k (ownsRow_lt ho k hk).2)) (DsRep.keep d xs gs hd (fun k hk => hb.block k (DsRep.lt d xs gs hd k hk))))
    clear hr ho hd hkind
    cases hno : nameOk c with
    | false =>
      have hname2 := Lib.hid (by have := hname.out; rw [hno] at this; exact this)
      clear hname
      go_enter Try.func224, Try.ntmps224
      go_wp2_with ((go_at_call 261; refine hname2.out.mono ?_; rintro e w' ⟨rfl, hb⟩))
      go_ret
      exact ⟨ret_int (by simp [ownIn, hno]), hb⟩
    | true =>
      have hname2 := Lib.hid (by have := hname.out; rw [hno] at this; exact this)
      clear hname
      go_enter Try.func224, Try.ntmps224
      go_wp2_with (first | (go_at_call 261; refine hname2.out.mono ?_; rintro e w' ⟨rfl, hb⟩; obtain ⟨q0, q1, q2⟩ : w'.cell? ⟨b, 0, none⟩ = some (.string c) ∧ w'.cell? ⟨b, 1, none⟩ = some (.int .i64 m) ∧ w'.cell? ⟨b, 2, none⟩ = some sv := ⟨(hb.cell hbl).trans r0, (hb.cell hbl).trans r1, (hb.cell hbl).trans r2⟩; clear r0 r1 r2) | (go_at_call 260; refine (hfl.out _ (by assumption)).mono ?_; rintro e w'' ⟨rfl, hb2⟩))
      all_goals go_ret
      all_goals first
        | exact ⟨ret_int (by simp only [ownIn, hno]; rw [if_neg (by decide), if_pos (by omega)]), hb⟩
        | exact ⟨ret_int (by simp only [ownIn, hno]; rw [if_neg (by decide), if_neg (by omega)]), hb.trans (hb2.mono hb.size)⟩

theorem own_any {w : World} {v : Val} {x : Value} {fs : List Nat} (h : VRep w v x fs) (n deep : Int) :
    Calls Try.prog 224 #[x, .int .i64 n, .int .i64 deep] w fun e w' => e = .returned (.int .i64 (ownF v n deep)) ∧ Below w.heap.size w w' := by
  by_cases ho : 16384 ≤ n ∨ 64 < deep
  · exact own_over h n deep w ho
  · have : ownF v n deep = ownIn v := if_neg ho
    rw [this]
    exact own_under h n deep (by omega) (by omega)
end Go.Proofs.Ytgmdbpplfjkjmaa
