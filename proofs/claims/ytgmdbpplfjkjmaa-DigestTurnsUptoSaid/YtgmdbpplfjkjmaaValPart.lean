/- The walk of value.kind: the number of a value's kind. -/
import Derived.Test.YtgmdbpplfjkjmaaVal
import Derived.Deep.RegionHeld3
import Derived.Deep.AppendLies
import Derived.BigQuiet
import Derived.Deep.QuietTactic
namespace Go.Proofs.Ytgmdbpplfjkjmaa
open Go.RowKit
set_option linter.unusedVariables false
set_option linter.unusedSimpArgs false

/-- A value's kind, by the dynamic type. -/
def kindOf (u : TypeId) (v : Value) : Int :=
  if u = 4 then 2 else if u = 2 then 3 else if u = 25 then 4 else if u = 9 then 5 else if u = 26 then 6 else if u = 28 then 7 else
  if u = 128 then 8 else if u = 130 then 9 else if u = 132 then (match v with | .pointer none => 11 | _ => 10) else 0

theorem kind_nil (w : World) : Calls Try.prog 227 #[.nilIface] w fun e w' => e = .returned (.int .i64 1) ∧ w = w' := by
  go_enter Try.func227, Try.ntmps227
  go_wp2
  go_ret
  exact ⟨rfl, rfl⟩

set_option maxRecDepth 100000 in
theorem kind_any (u : TypeId) (v : Value) (w : World) (h : u ≠ 132) : Calls Try.prog 227 #[.iface u v] w fun e w' => e = .returned (.int .i64 (kindOf u v)) ∧ w = w' := by
  go_enter Try.func227, Try.ntmps227
  go_wp2
  all_goals go_ret
  all_goals exact ⟨ret_int (by simp [kindOf, *]), rfl⟩

theorem kind_rec (a : Addr) (w : World) : Calls Try.prog 227 #[.iface 132 (.pointer (some a))] w fun e w' => e = .returned (.int .i64 10) ∧ w = w' := by
  go_enter Try.func227, Try.ntmps227
  go_wp2
  go_ret
  exact ⟨rfl, rfl⟩
theorem kind_nothing (w : World) : Calls Try.prog 227 #[.iface 132 (.pointer none)] w fun e w' => e = .returned (.int .i64 11) ∧ w = w' := by
  go_enter Try.func227, Try.ntmps227
  go_wp2
  go_ret
  exact ⟨rfl, rfl⟩

theorem kind_val {w : World} {v : Val} {x : Value} {fs : List Nat} (h : VRep w v x fs) (W : World) : Calls Try.prog 227 #[x] W fun e w' => e = .returned (.int .i64 (kindV v)) ∧ W = w' := by
  cases v <;> simp only [VRep] at h
  case nil => obtain ⟨rfl, _⟩ := h; exact kind_nil W
  case bytes => obtain ⟨_, rfl, _⟩ := h; exact kind_any _ _ W (by decide)
  case list => obtain ⟨_, _, _, rfl, _⟩ := h; exact kind_any _ _ W (by decide)
  case dict => obtain ⟨_, _, _, rfl, _⟩ := h; exact kind_any _ _ W (by decide)
  case record => obtain ⟨_, _, _, _, rfl, _⟩ := h; exact kind_rec _ W
  case nothing => obtain ⟨rfl, _⟩ := h; exact kind_nothing W
  case alien u =>
    obtain ⟨y, rfl, hk, _⟩ := h
    obtain ⟨h1, h2, h3, h4, h5, h6, h7, h8, h9⟩ := kinded_no hk
    exact (kind_any u y W h9).mono fun e w' ⟨he, hw⟩ => ⟨by rw [he]; exact ret_int (by simp [kindOf, kindV, *]), hw⟩
  all_goals obtain ⟨rfl, _⟩ := h; exact kind_any _ _ W (by decide)
end Go.Proofs.Ytgmdbpplfjkjmaa

/-! The walk of value.fields: whether fields' names are names that rise. -/
namespace Go.Proofs.Ytgmdbpplfjkjmaa
open Go.RowKit
set_option linter.unusedVariables false
set_option linter.unusedSimpArgs false

set_option maxRecDepth 100000 in
set_option maxHeartbeats 800000 in
theorem fields_any (d : List (ByteArray × Val)) (sv : Value) (xs : List Value) (gs : List Nat) (w : World) (ho : w.ownsRow 0 220 2 sv d.length xs) (hd : DsRep w d xs gs) :
    Calls Try.prog 260 #[sv] w fun e w' => e = .returned (.int .i64 (fieldsF d)) ∧ Below w.heap.size w w' := by
  obtain ⟨a, cap, rfl, hcap, hmax, hlen, hform⟩ := ownsRow_form ho
  unfold maxLen at hmax
  have hdat := Lib.hid (DsRep.at d xs gs hd)
  clear ho hd
  by_cases hl : 4096 < d.length
  · have hf := Lib.hid (fieldsF_long hl)
    go_enter Try.func260, Try.ntmps260
    go_wp2
    go_ret
    exact ⟨ret_int hf.out.symm, Below.refl _ _⟩
  · have hbadF := Lib.hid (fun k => fieldsF_bad (d := d) (by omega) (k := k))
    have hokF := Lib.hid (fieldsF_ok (d := d) (by omega))
    have hl' : ((d.length : Nat) : Int) ≤ 4096 := by omega
    have hformH := Lib.hid hform
    clear hform hlen
    go_enter Try.func260, Try.ntmps260
    go_wp2
    go_loopw [10] (fun i wr => ∃ k : Nat, k ≤ d.length ∧ i = .int .i64 k ∧ (∀ j, j < k → badName d j = false) ∧ Below w.heap.size w wr) (fun i _ => d.length - (intOf i).toNat)
    case atStart => exact ⟨0, Nat.zero_le _, rfl, fun j hj => absurd hj (Nat.not_lt_zero _), Below.refl _ _⟩
    case round =>
      obtain ⟨k, hk, rfl, hpre, hb⟩ := hrel
      have hpreH := Lib.hid hpre
      clear hpre
      by_cases hlt : k < d.length
      · rcases hformH.out with ⟨-, h0, -⟩ | ⟨g, rfl, -, hg, -, hcells⟩
        · omega
        · obtain ⟨⟨s, v⟩, hp⟩ : ∃ p, d[k]? = some p := ⟨_, List.getElem?_eq_getElem hlt⟩
          obtain ⟨x, f, e1, e2, e3, -⟩ := hdat.out k _ hp
          have hx1 := e3.one
          have hpH := Lib.hid hp
          clear hp
          have hc0 := (hb.cell (p := ⟨g, k * 2, none⟩) hg).trans ((hcells (k * 2) (by omega)).trans e1)
          have hc1 := (hb.cell (p := ⟨g, k * 2 + 1, none⟩) hg).trans ((hcells (k * 2 + 1) (by omega)).trans e2)
          clear e1 e2 e3
          have hname := name_any s
          have hg' : g < wr.heap.size := Nat.lt_of_lt_of_le hg hb.size
          go_wp2_with fail
          generalize hW : wr.alloc (Obj.cells #[Value.string s, x] 220) = W
          have hbW : Below w.heap.size w W := hW ▸ hb.alloc hb.size _
          have hB0 : W.cell? ⟨wr.heap.size, 0, none⟩ = some (.string s) := by rw [← hW]; simp [go_sem]
          have hBs : wr.heap.size < W.heap.size := by rw [← hW]; simp
          have hbw : Below wr.heap.size wr W := hW ▸ (Below.refl _ _).alloc (Nat.le_refl _) _
          clear hW
          cases hno : nameOk s with
          | false =>
            have hfin := Lib.hid (hbadF.out k hlt (badName_name hpH.out hno))
            simp only [hno] at hname
            have hnameH := Lib.hid hname
            clear hname hno
            refine wp_region_held_drew (S := (fun w' => w'.cell? ⟨wr.heap.size, 0, none⟩ = some (.string s))) (by kernel_rfl) ?_ (fun hHeld => ?_)
            · exact hB0
            refine wpAnyH_take (i := 0) (v := ?vf0) rfl (by kernel_rfl) (by kernel_rfl) (by kernel_rfl) (fun _ _ _ h => h) (.inl ⟨by rfl, ?hyf0⟩) (by assumption) ?restf0
            case hyf0 => (intro w hSw; (try dsimp only at hSw); go_simp; first | done | with_reducible rfl)
            (try simp only [Act.put, pu1, pu2, pu3, pu4, pu5, pu6])
            refine wpAnyH_take (i := 1) (v := ?vf1) rfl (by kernel_rfl) (by kernel_rfl) (by kernel_rfl) (fun _ _ _ h => h) (.inl ⟨by rfl, ?hyf1⟩) (by assumption) ?restf1
            case hyf1 => (intro w hSw; (try dsimp only at hSw); go_simp; first | done | with_reducible rfl)
            (try simp only [Act.put, pu1, pu2, pu3, pu4, pu5, pu6])
            refine wpAnyH_ready (rs := [2]) (by kernel_rfl) (by simp) ?_
            refine AllReadyH.cons rfl (fun K hK => ?_) AllReadyH.nil
            rw [if_pos (by rfl)]
            go_simp
            refine (hnameH.out _).mono ?_
            rintro e w' ⟨rfl, hb1⟩
            refine hK.out _ _ ?_ (fun hHeld2 => ?_)
            · exact (hb1.cell hBs).trans hB0
            clear hK K
            (try simp only [Act.put, pu1, pu2, pu3, pu4, pu5, pu6])
            refine wpAnyH_take (i := 3) (v := ?vf3) rfl (by kernel_rfl) (by kernel_rfl) (by kernel_rfl) (fun _ _ _ h => h) (.inl ⟨by rfl, ?hyf3⟩) (by assumption) ?restf3
            case hyf3 => (intro w hSw; (try dsimp only at hSw); go_simp; first | done | with_reducible rfl)
            (try simp only [Act.put, pu1, pu2, pu3, pu4, pu5, pu6])
            refine wpAnyH_take (i := 4) (v := ?vf4) rfl (by kernel_rfl) (by kernel_rfl) (by kernel_rfl) (fun _ _ _ h => h) (.inl ⟨by rfl, ?hyf4⟩) (by assumption) ?restf4
            case hyf4 => (intro w hSw; (try dsimp only at hSw); go_simp; first | done | with_reducible rfl)
            (try simp only [Act.put, pu1, pu2, pu3, pu4, pu5, pu6])
            refine wpAnyH_take (i := 5) (v := undef) rfl (by kernel_rfl) (by kernel_rfl) (by kernel_rfl) (fun _ _ _ h => h) (.inr ⟨by rfl, rfl⟩) (by assumption) ?_
            (try simp only [Act.put, pu1, pu2, pu3, pu4, pu5, pu6])
            refine wpAnyH_take (i := 6) (v := undef) rfl (by kernel_rfl) (by kernel_rfl) (by kernel_rfl) (fun _ _ _ h => h) (.inr ⟨by rfl, rfl⟩) (by assumption) ?_
            (try simp only [Act.put, pu1, pu2, pu3, pu4, pu5, pu6])
            refine wpAnyH_take (i := 7) (v := undef) rfl (by kernel_rfl) (by kernel_rfl) (by kernel_rfl) (fun _ _ _ h => h) (.inr ⟨by rfl, rfl⟩) (by assumption) ?_
            (try simp only [Act.put, pu1, pu2, pu3, pu4, pu5, pu6])
            refine wpAnyH_take (i := 8) (v := undef) rfl (by kernel_rfl) (by kernel_rfl) (by kernel_rfl) (fun _ _ _ h => h) (.inr ⟨by rfl, rfl⟩) (by assumption) ?_
            (try simp only [Act.put, pu1, pu2, pu3, pu4, pu5, pu6])
            refine wpAnyH_take (i := 9) (v := undef) rfl (by kernel_rfl) (by kernel_rfl) (by kernel_rfl) (fun _ _ _ h => h) (.inr ⟨by rfl, rfl⟩) (by assumption) ?_
            (try simp only [Act.put, pu1, pu2, pu3, pu4, pu5, pu6])
            refine wpAnyH_take (i := 10) (v := undef) rfl (by kernel_rfl) (by kernel_rfl) (by kernel_rfl) (fun _ _ _ h => h) (.inr ⟨by rfl, rfl⟩) (by assumption) ?_
            (try simp only [Act.put, pu1, pu2, pu3, pu4, pu5, pu6])
            refine wpAnyH_take (i := 11) (v := undef) rfl (by kernel_rfl) (by kernel_rfl) (by kernel_rfl) (fun _ _ _ h => h) (.inr ⟨by rfl, rfl⟩) (by assumption) ?_
            (try simp only [Act.put, pu1, pu2, pu3, pu4, pu5, pu6])
            refine wpAnyH_take (i := 12) (v := undef) rfl (by kernel_rfl) (by kernel_rfl) (by kernel_rfl) (fun _ _ _ h => h) (.inr ⟨by rfl, rfl⟩) (by assumption) ?_
            (try simp only [Act.put, pu1, pu2, pu3, pu4, pu5, pu6])
            refine wpAnyH_take (i := 13) (v := undef) rfl (by kernel_rfl) (by kernel_rfl) (by kernel_rfl) (fun _ _ _ h => h) (.inr ⟨by rfl, rfl⟩) (by assumption) ?_
            (try simp only [Act.put, pu1, pu2, pu3, pu4, pu5, pu6])
            refine wpAnyH_take (i := 14) (v := undef) rfl (by kernel_rfl) (by kernel_rfl) (by kernel_rfl) (fun _ _ _ h => h) (.inr ⟨by rfl, rfl⟩) (by assumption) ?_
            (try simp only [Act.put, pu1, pu2, pu3, pu4, pu5, pu6])
            refine wpAnyH_take (i := 15) (v := undef) rfl (by kernel_rfl) (by kernel_rfl) (by kernel_rfl) (fun _ _ _ h => h) (.inr ⟨by rfl, rfl⟩) (by assumption) ?_
            (try simp only [Act.put, pu1, pu2, pu3, pu4, pu5, pu6])
            refine wpAnyH_take (i := 16) (v := undef) rfl (by kernel_rfl) (by kernel_rfl) (by kernel_rfl) (fun _ _ _ h => h) (.inr ⟨by rfl, rfl⟩) (by assumption) ?_
            (try simp only [Act.put, pu1, pu2, pu3, pu4, pu5, pu6])
            refine wpAnyH_take (i := 17) (v := undef) rfl (by kernel_rfl) (by kernel_rfl) (by kernel_rfl) (fun _ _ _ h => h) (.inr ⟨by rfl, rfl⟩) (by assumption) ?_
            (try simp only [Act.put, pu1, pu2, pu3, pu4, pu5, pu6])
            refine wpAnyH_take (i := 18) (v := ?vf18) rfl (by kernel_rfl) (by kernel_rfl) (by kernel_rfl) (fun _ _ _ h => h) (.inl ⟨by rfl, ?hyf18⟩) (by assumption) ?restf18
            case hyf18 => (intro w hSw; (try dsimp only at hSw); go_simp; first | done | with_reducible rfl)
            (try simp only [Act.put, pu1, pu2, pu3, pu4, pu5, pu6])
            refine wpAnyH_done (by kernel_rfl) ?_ _
            go_wp2_with fail
            go_ret
            exact ⟨ret_int hfin.out.symm, hbW.drew.trans (hb1.mono hbW.size)⟩
          | true =>
            simp only [hno] at hname
            have hnameH := Lib.hid hname
            clear hname
            by_cases hk0 : k = 0
            · have hbad := Lib.hid (badName_zero hk0 hpH.out hno)
              have hkz : ((k : Nat) : Int) ≤ 0 := by omega
              have hkd : decide ((0 : Nat) < k) = false := by simp; omega
              clear hk0 hno
              refine wp_region_held_drew (S := (fun w' => w'.cell? ⟨wr.heap.size, 0, none⟩ = some (.string s))) (by kernel_rfl) ?_ (fun hHeld => ?_)
              · exact hB0
              refine wpAnyH_take (i := 0) (v := ?vz0) rfl (by kernel_rfl) (by kernel_rfl) (by kernel_rfl) (fun _ _ _ h => h) (.inl ⟨by rfl, ?hyz0⟩) (by assumption) ?restz0
              case hyz0 => (intro w hSw; (try dsimp only at hSw); go_simp; first | done | with_reducible rfl)
              (try simp only [Act.put, pu1, pu2, pu3, pu4, pu5, pu6])
              refine wpAnyH_take (i := 1) (v := ?vz1) rfl (by kernel_rfl) (by kernel_rfl) (by kernel_rfl) (fun _ _ _ h => h) (.inl ⟨by rfl, ?hyz1⟩) (by assumption) ?restz1
              case hyz1 => (intro w hSw; (try dsimp only at hSw); go_simp; first | done | with_reducible rfl)
              (try simp only [Act.put, pu1, pu2, pu3, pu4, pu5, pu6])
              refine wpAnyH_ready (rs := [2]) (by kernel_rfl) (by simp) ?_
              refine AllReadyH.cons rfl (fun K hK => ?_) AllReadyH.nil
              rw [if_pos (by rfl)]
              go_simp
              refine (hnameH.out _).mono ?_
              rintro e w' ⟨rfl, hb1⟩
              refine hK.out _ _ ?_ (fun hHeld2 => ?_)
              · exact (hb1.cell hBs).trans hB0
              clear hK K
              (try simp only [Act.put, pu1, pu2, pu3, pu4, pu5, pu6])
              refine wpAnyH_take (i := 3) (v := ?vz3) rfl (by kernel_rfl) (by kernel_rfl) (by kernel_rfl) (fun _ _ _ h => h) (.inl ⟨by rfl, ?hyz3⟩) (by assumption) ?restz3
              case hyz3 => (intro w hSw; (try dsimp only at hSw); go_simp; first | done | with_reducible rfl)
              (try simp only [Act.put, pu1, pu2, pu3, pu4, pu5, pu6])
              refine wpAnyH_take (i := 4) (v := ?vz4) rfl (by kernel_rfl) (by kernel_rfl) (by kernel_rfl) (fun _ _ _ h => h) (.inl ⟨by rfl, ?hyz4⟩) (by assumption) ?restz4
              case hyz4 => (intro w hSw; (try dsimp only at hSw); go_simp; first | done | with_reducible rfl)
              (try simp only [Act.put, pu1, pu2, pu3, pu4, pu5, pu6])
              refine wpAnyH_take (i := 5) (v := ?vz5) rfl (by kernel_rfl) (by kernel_rfl) (by kernel_rfl) (fun _ _ _ h => h) (.inl ⟨by rfl, ?hyz5⟩) (by assumption) ?restz5
              case hyz5 => (intro w hSw; (try dsimp only at hSw); go_simp; first | done | with_reducible rfl)
              (try simp only [Act.put, pu1, pu2, pu3, pu4, pu5, pu6])
              refine wpAnyH_take (i := 6) (v := ?vz6) rfl (by kernel_rfl) (by kernel_rfl) (by kernel_rfl) (fun _ _ _ h => h) (.inl ⟨by rfl, ?hyz6⟩) (by assumption) ?restz6
              case hyz6 => (intro w hSw; (try dsimp only at hSw); go_simp; first | done | with_reducible rfl)
              (try simp only [Act.put, pu1, pu2, pu3, pu4, pu5, pu6])
              refine wpAnyH_take (i := 7) (v := ?vz7) rfl (by kernel_rfl) (by kernel_rfl) (by kernel_rfl) (fun _ _ _ h => h) (.inl ⟨by rfl, ?hyz7⟩) (by assumption) ?restz7
              case hyz7 => (intro w hSw; (try dsimp only at hSw); go_simp; first | done | with_reducible rfl)
              (try simp only [Act.put, pu1, pu2, pu3, pu4, pu5, pu6])
              refine wpAnyH_take (i := 8) (v := undef) rfl (by kernel_rfl) (by kernel_rfl) (by kernel_rfl) (fun _ _ _ h => h) (.inr ⟨by rfl, rfl⟩) (by assumption) ?_
              (try simp only [Act.put, pu1, pu2, pu3, pu4, pu5, pu6])
              refine wpAnyH_take (i := 9) (v := undef) rfl (by kernel_rfl) (by kernel_rfl) (by kernel_rfl) (fun _ _ _ h => h) (.inr ⟨by rfl, rfl⟩) (by assumption) ?_
              (try simp only [Act.put, pu1, pu2, pu3, pu4, pu5, pu6])
              refine wpAnyH_take (i := 10) (v := undef) rfl (by kernel_rfl) (by kernel_rfl) (by kernel_rfl) (fun _ _ _ h => h) (.inr ⟨by rfl, rfl⟩) (by assumption) ?_
              (try simp only [Act.put, pu1, pu2, pu3, pu4, pu5, pu6])
              refine wpAnyH_take (i := 11) (v := undef) rfl (by kernel_rfl) (by kernel_rfl) (by kernel_rfl) (fun _ _ _ h => h) (.inr ⟨by rfl, rfl⟩) (by assumption) ?_
              (try simp only [Act.put, pu1, pu2, pu3, pu4, pu5, pu6])
              refine wpAnyH_take (i := 12) (v := undef) rfl (by kernel_rfl) (by kernel_rfl) (by kernel_rfl) (fun _ _ _ h => h) (.inr ⟨by rfl, rfl⟩) (by assumption) ?_
              (try simp only [Act.put, pu1, pu2, pu3, pu4, pu5, pu6])
              refine wpAnyH_take (i := 13) (v := undef) rfl (by kernel_rfl) (by kernel_rfl) (by kernel_rfl) (fun _ _ _ h => h) (.inr ⟨by rfl, rfl⟩) (by assumption) ?_
              (try simp only [Act.put, pu1, pu2, pu3, pu4, pu5, pu6])
              refine wpAnyH_take (i := 14) (v := undef) rfl (by kernel_rfl) (by kernel_rfl) (by kernel_rfl) (fun _ _ _ h => h) (.inr ⟨by rfl, rfl⟩) (by assumption) ?_
              (try simp only [Act.put, pu1, pu2, pu3, pu4, pu5, pu6])
              refine wpAnyH_take (i := 15) (v := undef) rfl (by kernel_rfl) (by kernel_rfl) (by kernel_rfl) (fun _ _ _ h => h) (.inr ⟨by rfl, rfl⟩) (by assumption) ?_
              (try simp only [Act.put, pu1, pu2, pu3, pu4, pu5, pu6])
              refine wpAnyH_take (i := 16) (v := undef) rfl (by kernel_rfl) (by kernel_rfl) (by kernel_rfl) (fun _ _ _ h => h) (.inr ⟨by rfl, rfl⟩) (by assumption) ?_
              (try simp only [Act.put, pu1, pu2, pu3, pu4, pu5, pu6])
              refine wpAnyH_take (i := 17) (v := ?vz17) rfl (by kernel_rfl) (by kernel_rfl) (by kernel_rfl) (fun _ _ _ h => h) (.inl ⟨by rfl, ?hyz17⟩) (by assumption) ?restz17
              case hyz17 => (intro w hSw; (try dsimp only at hSw); go_simp; first | done | with_reducible rfl)
              (try simp only [Act.put, pu1, pu2, pu3, pu4, pu5, pu6])
              refine wpAnyH_take (i := 18) (v := ?vz18) rfl (by kernel_rfl) (by kernel_rfl) (by kernel_rfl) (fun _ _ _ h => h) (.inl ⟨by rfl, ?hyz18⟩) (by assumption) ?restz18
              case hyz18 => (intro w hSw; (try dsimp only at hSw); go_simp; first | done | with_reducible rfl)
              (try simp only [Act.put, pu1, pu2, pu3, pu4, pu5, pu6])
              refine wpAnyH_done (by kernel_rfl) ?_ _
              go_wp2_with fail
              go_roundw
              case rel => exact ⟨k + 1, by omega, by go_num, all_snoc hpreH hbad.out, hbW.drew.trans (hb1.mono hbW.size)⟩
              case measure => simp [intOf]; omega
            · obtain ⟨j, hj⟩ : ∃ j, k = j + 1 := ⟨k - 1, by omega⟩
              obtain ⟨⟨q, vq⟩, hq⟩ : ∃ p, d[j]? = some p := ⟨_, List.getElem?_eq_getElem (by omega)⟩
              obtain ⟨_, _, eq1, -⟩ := hdat.out j _ hq
              have hbad := Lib.hid (badName_succ hj hpH.out hq hno)
              have hgW : g < W.heap.size := Nat.lt_of_lt_of_le hg hbW.size
              have hBq : W.cell? ⟨g, j * 2, none⟩ = some (.string q) := (hbW.cell (p := ⟨g, j * 2, none⟩) hg).trans ((hcells (j * 2) (by omega)).trans eq1)
              obtain ⟨B, hB⟩ : ∃ B, B = leS s q := ⟨_, rfl⟩
              have hBl := Lib.hid hB
              have hle : (Op.bytesLess s.toList q.toList || s.toList == q.toList) = B := hB.symm
              clear hB
              have hw1 : IntKind.i64.wrap ((k : Int) - 1) = (j : Int) := by rw [IntWalk.i64_in _ (by omega)]; omega
              have hj0 : (0 : Int) ≤ (j : Int) := by omega
              have hj1 : (j : Int) < ((d.length : Nat) : Int) := by omega
              have hkd : decide ((0 : Nat) < k) = true := by simp; omega
              clear hk0 hno hq eq1 hj
              refine wp_region_held_drew (S := (fun w' => w'.cell? ⟨wr.heap.size, 0, none⟩ = some (.string s) ∧ w'.cell? ⟨g, j * 2, none⟩ = some (.string q))) (by kernel_rfl) ?_ (fun hHeld => ?_)
              · exact ⟨hB0, hBq⟩
              refine wpAnyH_take (i := 0) (v := ?vq0) rfl (by kernel_rfl) (by kernel_rfl) (by kernel_rfl) (fun _ _ _ h => h) (.inl ⟨by rfl, ?hyq0⟩) (by assumption) ?restq0
              case hyq0 => (intro w hSw; (try dsimp only at hSw); go_simp; first | done | with_reducible rfl)
              (try simp only [Act.put, pu1, pu2, pu3, pu4, pu5, pu6])
              refine wpAnyH_take (i := 1) (v := ?vq1) rfl (by kernel_rfl) (by kernel_rfl) (by kernel_rfl) (fun _ _ _ h => h) (.inl ⟨by rfl, ?hyq1⟩) (by assumption) ?restq1
              case hyq1 => (intro w hSw; (try dsimp only at hSw); go_simp; first | done | with_reducible rfl)
              (try simp only [Act.put, pu1, pu2, pu3, pu4, pu5, pu6])
              refine wpAnyH_ready (rs := [2]) (by kernel_rfl) (by simp) ?_
              refine AllReadyH.cons rfl (fun K hK => ?_) AllReadyH.nil
              rw [if_pos (by rfl)]
              go_simp
              refine (hnameH.out _).mono ?_
              rintro e w' ⟨rfl, hb1⟩
              refine hK.out _ _ ?_ (fun hHeld2 => ?_)
              · exact ⟨(hb1.cell hBs).trans hB0, (hb1.cell hgW).trans hBq⟩
              clear hK K
              (try simp only [Act.put, pu1, pu2, pu3, pu4, pu5, pu6])
              refine wpAnyH_take (i := 3) (v := ?vq3) rfl (by kernel_rfl) (by kernel_rfl) (by kernel_rfl) (fun _ _ _ h => h) (.inl ⟨by rfl, ?hyq3⟩) (by assumption) ?restq3
              case hyq3 => (intro w hSw; (try dsimp only at hSw); go_simp; first | done | with_reducible rfl)
              (try simp only [Act.put, pu1, pu2, pu3, pu4, pu5, pu6])
              refine wpAnyH_take (i := 4) (v := ?vq4) rfl (by kernel_rfl) (by kernel_rfl) (by kernel_rfl) (fun _ _ _ h => h) (.inl ⟨by rfl, ?hyq4⟩) (by assumption) ?restq4
              case hyq4 => (intro w hSw; (try dsimp only at hSw); go_simp; first | done | with_reducible rfl)
              (try simp only [Act.put, pu1, pu2, pu3, pu4, pu5, pu6])
              refine wpAnyH_take (i := 5) (v := ?vq5) rfl (by kernel_rfl) (by kernel_rfl) (by kernel_rfl) (fun _ _ _ h => h) (.inl ⟨by rfl, ?hyq5⟩) (by assumption) ?restq5
              case hyq5 => (intro w hSw; (try dsimp only at hSw); go_simp; first | done | with_reducible rfl)
              (try simp only [Act.put, pu1, pu2, pu3, pu4, pu5, pu6])
              refine wpAnyH_take (i := 6) (v := ?vq6) rfl (by kernel_rfl) (by kernel_rfl) (by kernel_rfl) (fun _ _ _ h => h) (.inl ⟨by rfl, ?hyq6⟩) (by assumption) ?restq6
              case hyq6 => (intro w hSw; (try dsimp only at hSw); go_simp; first | done | with_reducible rfl)
              (try simp only [Act.put, pu1, pu2, pu3, pu4, pu5, pu6])
              refine wpAnyH_take (i := 7) (v := ?vq7) rfl (by kernel_rfl) (by kernel_rfl) (by kernel_rfl) (fun _ _ _ h => h) (.inl ⟨by rfl, ?hyq7⟩) (by assumption) ?restq7
              case hyq7 => (intro w hSw; (try dsimp only at hSw); go_simp; first | done | with_reducible rfl)
              (try simp only [Act.put, pu1, pu2, pu3, pu4, pu5, pu6])
              refine wpAnyH_take (i := 8) (v := ?vq8) rfl (by kernel_rfl) (by kernel_rfl) (by kernel_rfl) (fun _ _ _ h => h) (.inl ⟨by rfl, ?hyq8⟩) (by assumption) ?restq8
              case hyq8 => (intro w hSw; (try dsimp only at hSw); go_simp; first | done | with_reducible rfl)
              (try simp only [Act.put, pu1, pu2, pu3, pu4, pu5, pu6])
              refine wpAnyH_take (i := 9) (v := ?vq9) rfl (by kernel_rfl) (by kernel_rfl) (by kernel_rfl) (fun _ _ _ h => h) (.inl ⟨by rfl, ?hyq9⟩) (by assumption) ?restq9
              case hyq9 => (intro w hSw; (try dsimp only at hSw); go_simp; first | done | with_reducible rfl)
              (try simp only [Act.put, pu1, pu2, pu3, pu4, pu5, pu6])
              refine wpAnyH_take (i := 10) (v := ?vq10) rfl (by kernel_rfl) (by kernel_rfl) (by kernel_rfl) (fun _ _ _ h => h) (.inl ⟨by rfl, ?hyq10⟩) (by assumption) ?restq10
              case hyq10 => (intro w hSw; (try dsimp only at hSw); go_simp; first | done | with_reducible rfl)
              (try simp only [Act.put, pu1, pu2, pu3, pu4, pu5, pu6])
              refine wpAnyH_take (i := 11) (v := ?vq11) rfl (by kernel_rfl) (by kernel_rfl) (by kernel_rfl) (fun _ _ _ h => h) (.inl ⟨by rfl, ?hyq11⟩) (by assumption) ?restq11
              case hyq11 => (intro w hSw; (try dsimp only at hSw); go_simp; first | done | with_reducible rfl)
              (try simp only [Act.put, pu1, pu2, pu3, pu4, pu5, pu6])
              refine wpAnyH_take (i := 12) (v := ?vq12) rfl (by kernel_rfl) (by kernel_rfl) (by kernel_rfl) (fun _ _ _ h => h) (.inl ⟨by rfl, ?hyq12⟩) (by assumption) ?restq12
              case hyq12 => (intro w hSw; (try dsimp only at hSw); go_simp; first | done | with_reducible rfl)
              (try simp only [Act.put, pu1, pu2, pu3, pu4, pu5, pu6])
              refine wpAnyH_take (i := 13) (v := ?vq13) rfl (by kernel_rfl) (by kernel_rfl) (by kernel_rfl) (fun _ _ _ h => h) (.inl ⟨by rfl, ?hyq13⟩) (by assumption) ?restq13
              case hyq13 => (intro w hSw; (try dsimp only at hSw); go_simp; first | done | with_reducible rfl)
              (try simp only [Act.put, pu1, pu2, pu3, pu4, pu5, pu6])
              refine wpAnyH_take (i := 14) (v := ?vq14) rfl (by kernel_rfl) (by kernel_rfl) (by kernel_rfl) (fun _ _ _ h => h) (.inl ⟨by rfl, ?hyq14⟩) (by assumption) ?restq14
              case hyq14 => (intro w hSw; (try dsimp only at hSw); go_simp; first | done | with_reducible rfl)
              (try simp only [Act.put, pu1, pu2, pu3, pu4, pu5, pu6])
              refine wpAnyH_take (i := 15) (v := ?vq15) rfl (by kernel_rfl) (by kernel_rfl) (by kernel_rfl) (fun _ _ _ h => h) (.inl ⟨by rfl, ?hyq15⟩) (by assumption) ?restq15
              case hyq15 => (intro w hSw; (try dsimp only at hSw); go_simp; first | done | with_reducible rfl)
              (try simp only [Act.put, pu1, pu2, pu3, pu4, pu5, pu6])
              refine wpAnyH_take (i := 16) (v := ?vq16) rfl (by kernel_rfl) (by kernel_rfl) (by kernel_rfl) (fun _ _ _ h => h) (.inl ⟨by rfl, ?hyq16⟩) (by assumption) ?restq16
              case hyq16 => (intro w hSw; (try dsimp only at hSw); go_simp; first | done | with_reducible rfl)
              (try simp only [Act.put, pu1, pu2, pu3, pu4, pu5, pu6])
              refine wpAnyH_take (i := 17) (v := ?vq17) rfl (by kernel_rfl) (by kernel_rfl) (by kernel_rfl) (fun _ _ _ h => h) (.inl ⟨by rfl, ?hyq17⟩) (by assumption) ?restq17
              case hyq17 => (intro w hSw; (try dsimp only at hSw); go_simp; first | done | with_reducible rfl)
              (try simp only [Act.put, pu1, pu2, pu3, pu4, pu5, pu6])
              refine wpAnyH_take (i := 18) (v := ?vq18) rfl (by kernel_rfl) (by kernel_rfl) (by kernel_rfl) (fun _ _ _ h => h) (.inl ⟨by rfl, ?hyq18⟩) (by assumption) ?restq18
              case hyq18 => (intro w hSw; (try dsimp only at hSw); go_simp; first | done | with_reducible rfl)
              (try simp only [Act.put, pu1, pu2, pu3, pu4, pu5, pu6])
              refine wpAnyH_done (by kernel_rfl) ?_ _
              go_wp2_with fail
              · rename_i hB
                go_ret
                exact ⟨ret_int (hbadF.out k hlt (hbad.out.trans (hBl.out.symm.trans hB))).symm, hbW.drew.trans (hb1.mono hbW.size)⟩
              · rename_i hB
                go_roundw
                case rel => exact ⟨k + 1, by omega, by go_num, all_snoc hpreH (hbad.out.trans (hBl.out.symm.trans hB)), hbW.drew.trans (hb1.mono hbW.size)⟩
                case measure => simp [intOf]; omega
      · obtain rfl : k = d.length := by omega
        go_wp2_with fail
        go_ret
        exact ⟨ret_int (hokF.out hpreH.out).symm, hb⟩
end Go.Proofs.Ytgmdbpplfjkjmaa

/-! The walk of value.own: what is wrong with a part itself. -/
namespace Go.Proofs.Ytgmdbpplfjkjmaa
open Go.RowKit
set_option linter.unusedVariables false
set_option linter.unusedSimpArgs false

set_option maxRecDepth 100000 in
theorem own_over {w : World} {v : Val} {x : Value} {fs : List Nat} (h : VRep w v x fs) (n deep : Int) (W : World) (ho : 16384 ≤ n ∨ 64 < deep) :
    Calls Try.prog 224 #[x, .int .i64 n, .int .i64 deep] W fun e w' => e = .returned (.int .i64 (ownF v n deep)) ∧ Below W.heap.size W w' := by
  have hk := Lib.hid (kind_val h)
  have hf : ownF v n deep = (if kindV v = 11 then 7 else if kindV v = 0 then 6 else 2) := if_pos ho
  rw [hf]
  clear h hf
  generalize kindV v = kv at *
  by_cases hn : 16384 ≤ n
  · clear ho
    go_enter Try.func224, Try.ntmps224
    go_wp2_with (go_at_call 227; refine (hk.out _).mono ?_; rintro e w' ⟨rfl, rfl⟩)
    all_goals go_ret
    all_goals exact ⟨ret_int (by simp_all), Below.refl _ _⟩
  · have hd : 64 < deep := by omega
    clear ho
    go_enter Try.func224, Try.ntmps224
    go_wp2_with (go_at_call 227; refine (hk.out _).mono ?_; rintro e w' ⟨rfl, rfl⟩)
    all_goals go_ret
    all_goals exact ⟨ret_int (by simp_all), Below.refl _ _⟩

set_option maxRecDepth 100000 in
theorem own_under {w : World} {v : Val} {x : Value} {fs : List Nat} (h : VRep w v x fs) (n deep : Int) (h1 : n < 16384) (h2 : deep ≤ 64) :
    Calls Try.prog 224 #[x, .int .i64 n, .int .i64 deep] w fun e w' => e = .returned (.int .i64 (ownIn v)) ∧ Below w.heap.size w w' := by
  have hkind := Lib.hid (kind_val h)
  cases v <;> simp only [VRep] at h
  case nil =>
    obtain ⟨rfl, _⟩ := h
    go_enter Try.func224, Try.ntmps224
    go_wp2_with ((go_at_call 227; refine (hkind.out _).mono ?_; rintro e w' ⟨rfl, rfl⟩))
    go_ret
    exact ⟨rfl, Below.refl _ _⟩
  case bool =>
    obtain ⟨rfl, _⟩ := h
    go_enter Try.func224, Try.ntmps224
    go_wp2_with ((go_at_call 227; refine (hkind.out _).mono ?_; rintro e w' ⟨rfl, rfl⟩))
    go_ret
    exact ⟨rfl, Below.refl _ _⟩
  case int =>
    obtain ⟨rfl, _⟩ := h
    go_enter Try.func224, Try.ntmps224
    go_wp2_with ((go_at_call 227; refine (hkind.out _).mono ?_; rintro e w' ⟨rfl, rfl⟩))
    go_ret
    exact ⟨rfl, Below.refl _ _⟩
  case float =>
    obtain ⟨rfl, _⟩ := h
    go_enter Try.func224, Try.ntmps224
    go_wp2_with ((go_at_call 227; refine (hkind.out _).mono ?_; rintro e w' ⟨rfl, rfl⟩))
    go_ret
    exact ⟨rfl, Below.refl _ _⟩
  case ref =>
    obtain ⟨rfl, _⟩ := h
    go_enter Try.func224, Try.ntmps224
    go_wp2_with ((go_at_call 227; refine (hkind.out _).mono ?_; rintro e w' ⟨rfl, rfl⟩))
    go_ret
    exact ⟨rfl, Below.refl _ _⟩
  case text s =>
    obtain ⟨rfl, hs, _⟩ := h
    unfold maxLen at hs
    go_enter Try.func224, Try.ntmps224
    go_wp2_with (fail)
    all_goals go_ret
    all_goals exact ⟨ret_int (by simp only [ownIn]; first | rw [if_pos (by omega)] | rw [if_neg (by omega)]), Below.refl _ _⟩
  case bytes l =>
    obtain ⟨sv, rfl, ho, _⟩ := h
    obtain ⟨a, cap, rfl, hc, hm, -⟩ := ownsRow_form ho
    unfold maxLen at hm
    go_enter Try.func224, Try.ntmps224
    go_wp2_with (fail)
    all_goals go_ret
    all_goals exact ⟨ret_int (by simp only [ownIn]; first | rw [if_pos (by omega)] | rw [if_neg (by omega)]), Below.refl _ _⟩
  case list l =>
    obtain ⟨sv, _, _, rfl, ho, _⟩ := h
    obtain ⟨a, cap, rfl, hc, hm, -⟩ := ownsRow_form ho
    unfold maxLen at hm
    go_enter Try.func224, Try.ntmps224
    go_wp2_with (fail)
    all_goals go_ret
    all_goals exact ⟨ret_int (by simp only [ownIn]; first | rw [if_pos (by omega)] | rw [if_neg (by omega)]), Below.refl _ _⟩
  case dict d =>
    obtain ⟨sv, xs, gs, rfl, ho, hd, _⟩ := h
    have hf := Lib.hid (fields_any d sv xs gs w ho hd)
    clear ho hd
    go_enter Try.func224, Try.ntmps224
    go_wp2_with ((go_at_call 260; refine hf.out.mono ?_; rintro e w' ⟨rfl, hb⟩))
    go_ret
    exact ⟨rfl, hb⟩
  case nothing =>
    obtain ⟨rfl, _⟩ := h
    go_enter Try.func224, Try.ntmps224
    go_wp2_with ((go_at_call 227; refine (hkind.out _).mono ?_; rintro e w' ⟨rfl, rfl⟩))
    go_ret
    exact ⟨rfl, Below.refl _ _⟩
  case alien u =>
    obtain ⟨y, rfl, hk, _⟩ := h
    obtain ⟨k1, k2, k3, k4, k5, k6, k7, k8, k9⟩ := kinded_no hk
    clear hk
    go_enter Try.func224, Try.ntmps224
    go_wp2_with ((go_at_call 227; refine (hkind.out _).mono ?_; rintro e w' ⟨rfl, rfl⟩))
    go_ret
    exact ⟨rfl, Below.refl _ _⟩
  case record c m d =>
    obtain ⟨b, sv, xs, gs, rfl, hr, hc, hm, ho, hd, _⟩ := h
    obtain ⟨r0, r1, r2, hbl, -⟩ := recCells hr
    have hname := Lib.hid (name_any c w)
    have hfl := Lib.hid (fun (w' : World) (hb : Below w.heap.size w w') => fields_any d sv xs gs w' (ownsRow_keep ho (fun k hk => hb.block k (ownsRow_lt ho k hk).2)) (DsRep.keep d xs gs hd (fun k hk => hb.block k (DsRep.lt d xs gs hd k hk))))
    clear hr ho hd hkind
    cases hno : nameOk c with
    | false =>
      have hname2 := Lib.hid (by have := hname.out; rw [hno] at this; exact this)
      clear hname
      go_enter Try.func224, Try.ntmps224
      go_wp2_with ((go_at_call 261; refine hname2.out.mono ?_; rintro e w' ⟨rfl, hb⟩))
      go_ret
      exact ⟨ret_int (by simp [ownIn, hno]), hb⟩
    | true =>
      have hname2 := Lib.hid (by have := hname.out; rw [hno] at this; exact this)
      clear hname
      go_enter Try.func224, Try.ntmps224
      go_wp2_with (first | (go_at_call 261; refine hname2.out.mono ?_; rintro e w' ⟨rfl, hb⟩; obtain ⟨q0, q1, q2⟩ : w'.cell? ⟨b, 0, none⟩ = some (.string c) ∧ w'.cell? ⟨b, 1, none⟩ = some (.int .i64 m) ∧ w'.cell? ⟨b, 2, none⟩ = some sv := ⟨(hb.cell hbl).trans r0, (hb.cell hbl).trans r1, (hb.cell hbl).trans r2⟩; clear r0 r1 r2) | (go_at_call 260; refine (hfl.out _ (by assumption)).mono ?_; rintro e w'' ⟨rfl, hb2⟩))
      all_goals go_ret
      all_goals first
        | exact ⟨ret_int (by simp only [ownIn, hno]; rw [if_neg (by decide), if_pos (by omega)]), hb⟩
        | exact ⟨ret_int (by simp only [ownIn, hno]; rw [if_neg (by decide), if_neg (by omega)]), hb.trans (hb2.mono hb.size)⟩

theorem own_any {w : World} {v : Val} {x : Value} {fs : List Nat} (h : VRep w v x fs) (n deep : Int) :
    Calls Try.prog 224 #[x, .int .i64 n, .int .i64 deep] w fun e w' => e = .returned (.int .i64 (ownF v n deep)) ∧ Below w.heap.size w w' := by
  by_cases ho : 16384 ≤ n ∨ 64 < deep
  · exact own_over h n deep w ho
  · have : ownF v n deep = ownIn v := if_neg ho
    rw [this]
    exact own_under h n deep (by omega) (by omega)
end Go.Proofs.Ytgmdbpplfjkjmaa

/-! The walks of (*count).all and (*count).part: a value's parts are counted and looked at. -/
namespace Go.Proofs.Ytgmdbpplfjkjmaa
open Go.RowKit
set_option linter.unusedVariables false
set_option linter.unusedSimpArgs false

/-- The contract of (*count).part at a value. -/
def PartSaid (v : Val) : Prop := ∀ (x : Value) (fs : List Nat) (w : World) (cb : Nat) (c : Cnt) (deep : Int), VRep w v x fs → cb ∉ fs → w.heap[cb]? = some (cntObj c) → 0 ≤ c.n → c.n ≤ 16384 → 1 ≤ deep → deep ≤ 65 →
  Calls Try.prog 184 #[.pointer (some ⟨cb, 0, none⟩), x, .int .i64 deep] w fun e w' => e = .returned (.bool (partF v deep c).1) ∧ w'.heap[cb]? = some (cntObj (partF v deep c).2) ∧ But (· = cb) w w'

theorem cntCells {w : World} {b : Nat} {c : Cnt} (h : w.heap[b]? = some (cntObj c)) :
    w.cell? ⟨b, 0, none⟩ = some (.int .i64 c.n) ∧ w.cell? ⟨b, 1, none⟩ = some (.int .i64 c.dp) ∧ w.cell? ⟨b, 2, none⟩ = some (.int .i64 c.why) ∧ b < w.heap.size ∧ (∀ o, w.frozen? ⟨b, o, none⟩ = false) := recCells h

theorem dparts_drop {d : List (ByteArray × Val)} {k : Nat} {p : ByteArray × Val} (h : d[k]? = some p) (deep : Int) (c : Cnt) :
    dpartsF (d.drop k) deep c = (match partF p.2 deep c with | (true, c') => dpartsF (d.drop (k + 1)) deep c' | (false, c') => (false, c')) := by
  have hk : k < d.length := (List.getElem?_eq_some_iff.1 h).1
  have e : d[k] = p := (List.getElem?_eq_some_iff.1 h).2
  rw [List.drop_eq_getElem_cons hk, dpartsF, dpartF_snd, e]
  cases partF p.2 deep c with
  | mk a b => cases a <;> rfl
theorem parts_drop {d : List Val} {k : Nat} {p : Val} (h : d[k]? = some p) (deep : Int) (c : Cnt) :
    partsF (d.drop k) deep c = (match partF p deep c with | (true, c') => partsF (d.drop (k + 1)) deep c' | (false, c') => (false, c')) := by
  have hk : k < d.length := (List.getElem?_eq_some_iff.1 h).1
  have e : d[k] = p := (List.getElem?_eq_some_iff.1 h).2
  rw [List.drop_eq_getElem_cons hk, partsF, e]
  cases partF p deep c with
  | mk a b => cases a <;> rfl

set_option maxRecDepth 100000 in
set_option maxHeartbeats 800000 in
theorem all_of (d : List (ByteArray × Val)) (ih : ∀ u ∈ d.map (·.2), PartSaid u) (sv : Value) (xs : List Value) (gs : List Nat) (w : World) (cb : Nat) (c : Cnt) (deep : Int)
    (ho : w.ownsRow 0 220 2 sv d.length xs) (hd : DsRep w d xs gs) (hcb : cb ∉ ownL sv ++ gs) (hc : w.heap[cb]? = some (cntObj c)) (h0 : 0 ≤ c.n) (h1 : c.n ≤ 16384) (h2 : 0 ≤ deep) (h3 : deep ≤ 64) :
    Calls Try.prog 225 #[.pointer (some ⟨cb, 0, none⟩), sv, .int .i64 deep] w fun e w' => e = .returned (.bool (dpartsF d (deep + 1) c).1) ∧ w'.heap[cb]? = some (cntObj (dpartsF d (deep + 1) c).2) ∧ But (· = cb) w w' := by
  obtain ⟨a, cap, rfl, hcap, hmax, hlen, hform⟩ := ownsRow_form ho
  unfold maxLen at hmax
  have hdat := Lib.hid (DsRep.at d xs gs hd)
  have hgs := Lib.hid (DsRep.lt d xs gs hd)
  have hformH := Lib.hid hform
  have ihH := Lib.hid ih
  have hcbH := Lib.hid hcb
  have hcH := Lib.hid hc
  obtain ⟨ob, hob⟩ : ∃ ob, ob = dpartsF d (deep + 1) c := ⟨_, rfl⟩
  have hobH := Lib.hid hob
  clear ho hd hform ih hcb hlen hc hob
  go_enter Try.func225, Try.ntmps225
  go_wp2
  go_loopw [11] (fun i wr => ∃ (k : Nat) (ck : Cnt), k ≤ d.length ∧ i = .int .i64 k ∧ dpartsF (d.drop k) (deep + 1) ck = dpartsF d (deep + 1) c ∧ 0 ≤ ck.n ∧ ck.n ≤ 16384 ∧ wr.heap[cb]? = some (cntObj ck) ∧ But (· = cb) w wr) (fun i _ => d.length - (intOf i).toNat)
  case atStart => exact ⟨0, c, Nat.zero_le _, rfl, by simp, h0, h1, hcH.out, But.refl _ _⟩
  case round =>
    obtain ⟨k, ck, hk, rfl, heq, hn0, hn1, hck, hb⟩ := hrel
    have heqH := Lib.hid heq
    have hckH := Lib.hid hck
    clear heq hck
    by_cases hlt : k < d.length
    · rcases hformH.out with ⟨-, h0', -⟩ | ⟨g, rfl, -, hg, hown, hcells⟩
      · omega
      · obtain ⟨⟨s, v⟩, hp⟩ : ∃ p, d[k]? = some p := ⟨_, List.getElem?_eq_getElem hlt⟩
        obtain ⟨x, f, e1, e2, e3, e4, -⟩ := hdat.out k _ hp
        have hx1 := e3.one
        have hgc : ¬ g = cb := fun e => hcbH.out (by rw [hown, e]; exact List.mem_append_left _ (List.mem_singleton.2 rfl))
        have hfc : ∀ b ∈ f, ¬ b = cb := fun b hbf e => hcbH.out (List.mem_append_right _ (e ▸ e4 b hbf))
        have hc0 := (hb.cell (p := ⟨g, k * 2, none⟩) hg hgc).trans ((hcells (k * 2) (by omega)).trans e1)
        have hc1 := (hb.cell (p := ⟨g, k * 2 + 1, none⟩) hg hgc).trans ((hcells (k * 2 + 1) (by omega)).trans e2)
        have hdrop := Lib.hid (dparts_drop hp (deep + 1) ck)
        have hrep := Lib.hid (VRep.but e3 hb hfc)
        have hih := Lib.hid (ihH.out v (List.mem_map.2 ⟨_, hp |> List.mem_of_getElem?, rfl⟩) x f)
        have hcbs := Lib.hid (fun (e : cb ∈ f) => hfc cb e rfl)
        have hcblt := (Array.getElem?_eq_some_iff.1 hckH.out).1
        have hnb := Lib.hid (partF_n v (deep + 1) ck hn0 hn1)
        clear e1 e2 e3 e4 hcells hp hgc hfc
        cases hr : partF v (deep + 1) ck with
        | mk ok c' =>
        have hrH := Lib.hid hr
        clear hr
        cases ok with
        | true =>
          go_wp2_with (go_at_call 184; refine (hih.out _ cb ck _ (VRep.but hrep.out (But.alloc (But.refl (fun _ => False) _) _) (fun _ _ f => f)) hcbs.out ((Below.heap_alloc _ _ _ hcblt).trans hckH.out) hn0 hn1 (by omega) (by omega)).mono ?_; rw [hrH.out]; rintro e w' ⟨rfl, hc', hb'⟩)
          have hnb' := hnb.out
          rw [hrH.out] at hnb'
          go_roundw
          case rel => exact ⟨k + 1, c', by omega, by go_num, by rw [← heqH.out, hdrop.out, hrH.out], hnb'.1, hnb'.2, hc', (hb.alloc _).trans hb'⟩
          case measure => simp [intOf]; omega
        | false =>
          go_wp2_with (go_at_call 184; refine (hih.out _ cb ck _ (VRep.but hrep.out (But.alloc (But.refl (fun _ => False) _) _) (fun _ _ f => f)) hcbs.out ((Below.heap_alloc _ _ _ hcblt).trans hckH.out) hn0 hn1 (by omega) (by omega)).mono ?_; rw [hrH.out]; rintro e w' ⟨rfl, hc', hb'⟩)
          have hfin : dpartsF d (deep + 1) c = (false, c') := by rw [← heqH.out, hdrop.out, hrH.out]
          go_ret
          rw [hfin]
          exact ⟨rfl, hc', (hb.alloc _).trans hb'⟩
    · obtain rfl : k = d.length := by omega
      have hfin : dpartsF d (deep + 1) c = (true, ck) := by rw [← heqH.out, List.drop_length]; rfl
      have hfinH := Lib.hid hfin
      clear hfin
      go_wp2
      go_ret
      rw [hfinH.out]
      exact ⟨rfl, hckH.out, hb⟩

set_option maxRecDepth 100000 in
theorem part_bad (v : Val) (x : Value) (fs : List Nat) (w : World) (cb : Nat) (c : Cnt) (deep : Int) (h : VRep w v x fs) (hc : w.heap[cb]? = some (cntObj c)) (how : ¬ ownF v c.n deep = 0) :
    Calls Try.prog 184 #[.pointer (some ⟨cb, 0, none⟩), x, .int .i64 deep] w fun e w' => e = .returned (.bool (partF v deep c).1) ∧ w'.heap[cb]? = some (cntObj (partF v deep c).2) ∧ But (· = cb) w w' := by
  rw [partF_bad how]
  obtain ⟨c0, c1, c2, hlt, hfz⟩ := cntCells hc
  have hown := Lib.hid (own_any h c.n deep)
  have hcH := Lib.hid hc
  have hfzH := Lib.hid hfz
  generalize ownF v c.n deep = why at *
  have hne : (why != 0) = true := by simpa using how
  clear h hc hfz how
  go_enter Try.func184, Try.ntmps184
  go_wp2_with (go_at_call 224; refine hown.out.mono ?_; rintro e w1 ⟨rfl, hb⟩; have q2 := (hb.cell (p := ⟨cb, 2, none⟩) hlt).trans c2; have z2 := (hb.frozen (p := ⟨cb, 2, none⟩) hlt).trans (hfzH.out 2); clear c0 c1 c2)
  go_ret
  exact ⟨rfl, setCell_block ((hb.block cb hlt).trans hcH.out) 2 _, ((But.refl (· = cb) w).of_below hb (fun i hi h => absurd hi (by omega))).setCell (p := ⟨cb, 2, none⟩) (fun _ => rfl) _⟩

/-- What the first steps leave of the count. -/
theorem part_world {w w1 : World} {cb : Nat} {c : Cnt} (hb : Below w.heap.size w w1) (hc : w.heap[cb]? = some (cntObj c)) (hlt : cb < w.heap.size) (a b : Int) :
    (((w1.setCell ⟨cb, 2, none⟩ (.int .i64 0)).setCell ⟨cb, 0, none⟩ (.int .i64 a)).setCell ⟨cb, 1, none⟩ (.int .i64 b)).heap[cb]? = some (cntObj ⟨a, b, 0⟩) ∧
    But (· = cb) w (((w1.setCell ⟨cb, 2, none⟩ (.int .i64 0)).setCell ⟨cb, 0, none⟩ (.int .i64 a)).setCell ⟨cb, 1, none⟩ (.int .i64 b)) :=
  ⟨setCell_block (setCell_block (setCell_block ((hb.block cb hlt).trans hc) 2 _) 0 _) 1 _,
   ((((But.refl (· = cb) w).of_below hb (fun i hi h => absurd hi (by omega))).setCell (p := ⟨cb, 2, none⟩) (fun _ => rfl) _).setCell (p := ⟨cb, 0, none⟩) (fun _ => rfl) _).setCell (p := ⟨cb, 1, none⟩) (fun _ => rfl) _⟩

set_option maxRecDepth 100000 in
theorem part_nil  : PartSaid (.nil) := by
  intro x fs w cb c deep h hcb hc h0 h1 h2 h3
  by_cases how : ownF (.nil) c.n deep = 0
  · obtain ⟨c0, c1, c2, hlt, hfz⟩ := cntCells hc
    have hown0 := own_any h c.n deep
    have hn1 := ownF_n how
    have hd1 := ownF_deep how
    have hfin : partF (.nil) deep c = (true, ⟨c.n + 1, max c.dp deep, 0⟩) := by rw [partF]; exact if_pos how
    rw [hfin]
    clear hfin
    rw [how] at hown0
    have hown := Lib.hid hown0
    have hcH := Lib.hid hc
    have hfzH := Lib.hid hfz
    simp only [VRep] at h
    obtain ⟨rfl, _⟩ := h
    clear hc hfz how hown0
    go_enter Try.func184, Try.ntmps184
    go_wp2_with (go_at_call 224; refine hown.out.mono ?_; rintro e w1 ⟨rfl, hb⟩; have q0 := (hb.cell (p := ⟨cb, 0, none⟩) hlt).trans c0; have q1 := (hb.cell (p := ⟨cb, 1, none⟩) hlt).trans c1; have q2 := (hb.cell (p := ⟨cb, 2, none⟩) hlt).trans c2; have z0 := (hb.frozen (p := ⟨cb, 0, none⟩) hlt).trans (hfzH.out 0); have z1 := (hb.frozen (p := ⟨cb, 1, none⟩) hlt).trans (hfzH.out 1); have z2 := (hb.frozen (p := ⟨cb, 2, none⟩) hlt).trans (hfzH.out 2); clear c0 c1 c2)
    go_ret
    exact ⟨rfl, part_world hb hcH.out hlt _ _⟩
  · exact part_bad _ _ _ _ _ _ _ h hc how

set_option maxRecDepth 100000 in
theorem part_bool (b : Bool) : PartSaid (.bool b) := by
  intro x fs w cb c deep h hcb hc h0 h1 h2 h3
  by_cases how : ownF (.bool b) c.n deep = 0
  · obtain ⟨c0, c1, c2, hlt, hfz⟩ := cntCells hc
    have hown0 := own_any h c.n deep
    have hn1 := ownF_n how
    have hd1 := ownF_deep how
    have hfin : partF (.bool b) deep c = (true, ⟨c.n + 1, max c.dp deep, 0⟩) := by rw [partF]; exact if_pos how
    rw [hfin]
    clear hfin
    rw [how] at hown0
    have hown := Lib.hid hown0
    have hcH := Lib.hid hc
    have hfzH := Lib.hid hfz
    simp only [VRep] at h
    obtain ⟨rfl, _⟩ := h
    clear hc hfz how hown0
    go_enter Try.func184, Try.ntmps184
    go_wp2_with (go_at_call 224; refine hown.out.mono ?_; rintro e w1 ⟨rfl, hb⟩; have q0 := (hb.cell (p := ⟨cb, 0, none⟩) hlt).trans c0; have q1 := (hb.cell (p := ⟨cb, 1, none⟩) hlt).trans c1; have q2 := (hb.cell (p := ⟨cb, 2, none⟩) hlt).trans c2; have z0 := (hb.frozen (p := ⟨cb, 0, none⟩) hlt).trans (hfzH.out 0); have z1 := (hb.frozen (p := ⟨cb, 1, none⟩) hlt).trans (hfzH.out 1); have z2 := (hb.frozen (p := ⟨cb, 2, none⟩) hlt).trans (hfzH.out 2); clear c0 c1 c2)
    go_ret
    exact ⟨rfl, part_world hb hcH.out hlt _ _⟩
  · exact part_bad _ _ _ _ _ _ _ h hc how

set_option maxRecDepth 100000 in
theorem part_int (n : Int) : PartSaid (.int n) := by
  intro x fs w cb c deep h hcb hc h0 h1 h2 h3
  by_cases how : ownF (.int n) c.n deep = 0
  · obtain ⟨c0, c1, c2, hlt, hfz⟩ := cntCells hc
    have hown0 := own_any h c.n deep
    have hn1 := ownF_n how
    have hd1 := ownF_deep how
    have hfin : partF (.int n) deep c = (true, ⟨c.n + 1, max c.dp deep, 0⟩) := by rw [partF]; exact if_pos how
    rw [hfin]
    clear hfin
    rw [how] at hown0
    have hown := Lib.hid hown0
    have hcH := Lib.hid hc
    have hfzH := Lib.hid hfz
    simp only [VRep] at h
    obtain ⟨rfl, _⟩ := h
    clear hc hfz how hown0
    go_enter Try.func184, Try.ntmps184
    go_wp2_with (go_at_call 224; refine hown.out.mono ?_; rintro e w1 ⟨rfl, hb⟩; have q0 := (hb.cell (p := ⟨cb, 0, none⟩) hlt).trans c0; have q1 := (hb.cell (p := ⟨cb, 1, none⟩) hlt).trans c1; have q2 := (hb.cell (p := ⟨cb, 2, none⟩) hlt).trans c2; have z0 := (hb.frozen (p := ⟨cb, 0, none⟩) hlt).trans (hfzH.out 0); have z1 := (hb.frozen (p := ⟨cb, 1, none⟩) hlt).trans (hfzH.out 1); have z2 := (hb.frozen (p := ⟨cb, 2, none⟩) hlt).trans (hfzH.out 2); clear c0 c1 c2)
    go_ret
    exact ⟨rfl, part_world hb hcH.out hlt _ _⟩
  · exact part_bad _ _ _ _ _ _ _ h hc how

set_option maxRecDepth 100000 in
theorem part_float (b : Nat) : PartSaid (.float b) := by
  intro x fs w cb c deep h hcb hc h0 h1 h2 h3
  by_cases how : ownF (.float b) c.n deep = 0
  · obtain ⟨c0, c1, c2, hlt, hfz⟩ := cntCells hc
    have hown0 := own_any h c.n deep
    have hn1 := ownF_n how
    have hd1 := ownF_deep how
    have hfin : partF (.float b) deep c = (true, ⟨c.n + 1, max c.dp deep, 0⟩) := by rw [partF]; exact if_pos how
    rw [hfin]
    clear hfin
    rw [how] at hown0
    have hown := Lib.hid hown0
    have hcH := Lib.hid hc
    have hfzH := Lib.hid hfz
    simp only [VRep] at h
    obtain ⟨rfl, _⟩ := h
    clear hc hfz how hown0
    go_enter Try.func184, Try.ntmps184
    go_wp2_with (go_at_call 224; refine hown.out.mono ?_; rintro e w1 ⟨rfl, hb⟩; have q0 := (hb.cell (p := ⟨cb, 0, none⟩) hlt).trans c0; have q1 := (hb.cell (p := ⟨cb, 1, none⟩) hlt).trans c1; have q2 := (hb.cell (p := ⟨cb, 2, none⟩) hlt).trans c2; have z0 := (hb.frozen (p := ⟨cb, 0, none⟩) hlt).trans (hfzH.out 0); have z1 := (hb.frozen (p := ⟨cb, 1, none⟩) hlt).trans (hfzH.out 1); have z2 := (hb.frozen (p := ⟨cb, 2, none⟩) hlt).trans (hfzH.out 2); clear c0 c1 c2)
    go_ret
    exact ⟨rfl, part_world hb hcH.out hlt _ _⟩
  · exact part_bad _ _ _ _ _ _ _ h hc how

set_option maxRecDepth 100000 in
theorem part_text (s : ByteArray) : PartSaid (.text s) := by
  intro x fs w cb c deep h hcb hc h0 h1 h2 h3
  by_cases how : ownF (.text s) c.n deep = 0
  · obtain ⟨c0, c1, c2, hlt, hfz⟩ := cntCells hc
    have hown0 := own_any h c.n deep
    have hn1 := ownF_n how
    have hd1 := ownF_deep how
    have hfin : partF (.text s) deep c = (true, ⟨c.n + 1, max c.dp deep, 0⟩) := by rw [partF]; exact if_pos how
    rw [hfin]
    clear hfin
    rw [how] at hown0
    have hown := Lib.hid hown0
    have hcH := Lib.hid hc
    have hfzH := Lib.hid hfz
    simp only [VRep] at h
    obtain ⟨rfl, _⟩ := h
    clear hc hfz how hown0
    go_enter Try.func184, Try.ntmps184
    go_wp2_with (go_at_call 224; refine hown.out.mono ?_; rintro e w1 ⟨rfl, hb⟩; have q0 := (hb.cell (p := ⟨cb, 0, none⟩) hlt).trans c0; have q1 := (hb.cell (p := ⟨cb, 1, none⟩) hlt).trans c1; have q2 := (hb.cell (p := ⟨cb, 2, none⟩) hlt).trans c2; have z0 := (hb.frozen (p := ⟨cb, 0, none⟩) hlt).trans (hfzH.out 0); have z1 := (hb.frozen (p := ⟨cb, 1, none⟩) hlt).trans (hfzH.out 1); have z2 := (hb.frozen (p := ⟨cb, 2, none⟩) hlt).trans (hfzH.out 2); clear c0 c1 c2)
    go_ret
    exact ⟨rfl, part_world hb hcH.out hlt _ _⟩
  · exact part_bad _ _ _ _ _ _ _ h hc how

set_option maxRecDepth 100000 in
theorem part_ref (n : Int) : PartSaid (.ref n) := by
  intro x fs w cb c deep h hcb hc h0 h1 h2 h3
  by_cases how : ownF (.ref n) c.n deep = 0
  · obtain ⟨c0, c1, c2, hlt, hfz⟩ := cntCells hc
    have hown0 := own_any h c.n deep
    have hn1 := ownF_n how
    have hd1 := ownF_deep how
    have hfin : partF (.ref n) deep c = (true, ⟨c.n + 1, max c.dp deep, 0⟩) := by rw [partF]; exact if_pos how
    rw [hfin]
    clear hfin
    rw [how] at hown0
    have hown := Lib.hid hown0
    have hcH := Lib.hid hc
    have hfzH := Lib.hid hfz
    simp only [VRep] at h
    obtain ⟨rfl, _⟩ := h
    clear hc hfz how hown0
    go_enter Try.func184, Try.ntmps184
    go_wp2_with (go_at_call 224; refine hown.out.mono ?_; rintro e w1 ⟨rfl, hb⟩; have q0 := (hb.cell (p := ⟨cb, 0, none⟩) hlt).trans c0; have q1 := (hb.cell (p := ⟨cb, 1, none⟩) hlt).trans c1; have q2 := (hb.cell (p := ⟨cb, 2, none⟩) hlt).trans c2; have z0 := (hb.frozen (p := ⟨cb, 0, none⟩) hlt).trans (hfzH.out 0); have z1 := (hb.frozen (p := ⟨cb, 1, none⟩) hlt).trans (hfzH.out 1); have z2 := (hb.frozen (p := ⟨cb, 2, none⟩) hlt).trans (hfzH.out 2); clear c0 c1 c2)
    go_ret
    exact ⟨rfl, part_world hb hcH.out hlt _ _⟩
  · exact part_bad _ _ _ _ _ _ _ h hc how

set_option maxRecDepth 100000 in
theorem part_bytes (l : List UInt8) : PartSaid (.bytes l) := by
  intro x fs w cb c deep h hcb hc h0 h1 h2 h3
  by_cases how : ownF (.bytes l) c.n deep = 0
  · obtain ⟨c0, c1, c2, hlt, hfz⟩ := cntCells hc
    have hown0 := own_any h c.n deep
    have hn1 := ownF_n how
    have hd1 := ownF_deep how
    have hfin : partF (.bytes l) deep c = (true, ⟨c.n + 1, max c.dp deep, 0⟩) := by rw [partF]; exact if_pos how
    rw [hfin]
    clear hfin
    rw [how] at hown0
    have hown := Lib.hid hown0
    have hcH := Lib.hid hc
    have hfzH := Lib.hid hfz
    simp only [VRep] at h
    obtain ⟨sv, rfl, _⟩ := h
    clear hc hfz how hown0
    go_enter Try.func184, Try.ntmps184
    go_wp2_with (go_at_call 224; refine hown.out.mono ?_; rintro e w1 ⟨rfl, hb⟩; have q0 := (hb.cell (p := ⟨cb, 0, none⟩) hlt).trans c0; have q1 := (hb.cell (p := ⟨cb, 1, none⟩) hlt).trans c1; have q2 := (hb.cell (p := ⟨cb, 2, none⟩) hlt).trans c2; have z0 := (hb.frozen (p := ⟨cb, 0, none⟩) hlt).trans (hfzH.out 0); have z1 := (hb.frozen (p := ⟨cb, 1, none⟩) hlt).trans (hfzH.out 1); have z2 := (hb.frozen (p := ⟨cb, 2, none⟩) hlt).trans (hfzH.out 2); clear c0 c1 c2)
    go_ret
    exact ⟨rfl, part_world hb hcH.out hlt _ _⟩
  · exact part_bad _ _ _ _ _ _ _ h hc how

theorem part_nothing : PartSaid .nothing := by
  intro x fs w cb c deep h hcb hc h0 h1 h2 h3
  exact part_bad _ _ _ _ _ _ _ h hc (by unfold ownF kindV ownIn; split <;> simp)

theorem part_alien (u : TypeId) : PartSaid (.alien u) := by
  intro x fs w cb c deep h hcb hc h0 h1 h2 h3
  exact part_bad _ _ _ _ _ _ _ h hc (by unfold ownF kindV ownIn; split <;> simp)

set_option maxRecDepth 100000 in
theorem part_dict (d : List (ByteArray × Val)) (ih : ∀ u ∈ d.map (·.2), PartSaid u) : PartSaid (.dict d) := by
  intro x fs w cb c deep h hcb hc h0 h1 h2 h3
  by_cases how : ownF (.dict d) c.n deep = 0
  · obtain ⟨c0, c1, c2, hlt, hfz⟩ := cntCells hc
    have hown0 := own_any h c.n deep
    have hn1 := ownF_n how
    have hd1 := ownF_deep how
    rw [how] at hown0
    have hown := Lib.hid hown0
    have hcH := Lib.hid hc
    have hfzH := Lib.hid hfz
    simp only [VRep] at h
    obtain ⟨sv, xs, gs, rfl, ho, hd, rfl⟩ := h
    have hfin : partF (.dict d) deep c = dpartsF d (deep + 1) ⟨c.n + 1, max c.dp deep, 0⟩ := by rw [partF]; exact if_pos how
    rw [hfin]
    have hall := Lib.hid (fun (W : World) (hW : W.heap[cb]? = some (cntObj ⟨c.n + 1, max c.dp deep, 0⟩) ∧ But (· = cb) w W) =>
      all_of d ih sv xs gs W cb ⟨c.n + 1, max c.dp deep, 0⟩ deep (ownsRow_but ho hW.2 (fun b hb e => hcb (by rw [← e]; exact List.mem_append_left _ hb))) (DsRep.but hd hW.2 (fun b hb e => hcb (by rw [← e]; exact List.mem_append_right _ hb))) hcb hW.1 (by dsimp only; omega) (by dsimp only; omega) (by omega) hd1)
    clear hc hfz how hown0 ho hd ih hfin
    go_enter Try.func184, Try.ntmps184
    go_wp2_with (go_at_call 224; refine hown.out.mono ?_; rintro e w1 ⟨rfl, hb⟩; have q0 := (hb.cell (p := ⟨cb, 0, none⟩) hlt).trans c0; have q1 := (hb.cell (p := ⟨cb, 1, none⟩) hlt).trans c1; have q2 := (hb.cell (p := ⟨cb, 2, none⟩) hlt).trans c2; have z0 := (hb.frozen (p := ⟨cb, 0, none⟩) hlt).trans (hfzH.out 0); have z1 := (hb.frozen (p := ⟨cb, 1, none⟩) hlt).trans (hfzH.out 1); have z2 := (hb.frozen (p := ⟨cb, 2, none⟩) hlt).trans (hfzH.out 2); clear c0 c1 c2)
    refine (hall.out _ (part_world hb hcH.out hlt _ _)).mono ?_
    rintro e w2 ⟨rfl, hc2, hb2⟩
    have hb3 := (part_world hb hcH.out hlt (c.n + 1) (max c.dp deep)).2.trans hb2
    go_wp2
    go_ret
    exact ⟨rfl, hc2, hb3⟩
  · exact part_bad _ _ _ _ _ _ _ h hc how

set_option maxRecDepth 100000 in
set_option maxHeartbeats 800000 in
theorem part_record (s : ByteArray) (m : Int) (d : List (ByteArray × Val)) (ih : ∀ u ∈ d.map (·.2), PartSaid u) : PartSaid (.record s m d) := by
  intro x fs w cb c deep h hcb hc h0 h1 h2 h3
  by_cases how : ownF (.record s m d) c.n deep = 0
  · obtain ⟨c0, c1, c2, hlt, hfz⟩ := cntCells hc
    have hown0 := own_any h c.n deep
    have hn1 := ownF_n how
    have hd1 := ownF_deep how
    rw [how] at hown0
    have hown := Lib.hid hown0
    have hcH := Lib.hid hc
    have hfzH := Lib.hid hfz
    simp only [VRep] at h
    obtain ⟨b, sv, xs, gs, rfl, hr, -, -, ho, hd, rfl⟩ := h
    have hfin : partF (.record s m d) deep c = dpartsF d (deep + 1) ⟨c.n + 1, max c.dp deep, 0⟩ := by rw [partF]; exact if_pos how
    rw [hfin]
    obtain ⟨-, -, r2, hbl, -⟩ := recCells hr
    have hcb2 : cb ∉ ownL sv ++ gs := fun e => hcb (List.mem_cons_of_mem _ e)
    have hbc : ¬ b = cb := fun e => hcb (by rw [e]; exact List.mem_cons_self)
    have hbc' : ¬ cb = b := fun e => hbc e.symm
    have hall := Lib.hid (fun (W : World) (hW : W.heap[cb]? = some (cntObj ⟨c.n + 1, max c.dp deep, 0⟩) ∧ But (· = cb) w W) =>
      all_of d ih sv xs gs W cb ⟨c.n + 1, max c.dp deep, 0⟩ deep (ownsRow_but ho hW.2 (fun b hb e => hcb2 (by rw [← e]; exact List.mem_append_left _ hb))) (DsRep.but hd hW.2 (fun b hb e => hcb2 (by rw [← e]; exact List.mem_append_right _ hb))) hcb2 hW.1 (by dsimp only; omega) (by dsimp only; omega) (by omega) hd1)
    clear hc hfz how hown0 ho hd ih hfin hcb hcb2 hr
    go_enter Try.func184, Try.ntmps184
    go_wp2_with (go_at_call 224; refine hown.out.mono ?_; rintro e w1 ⟨rfl, hb⟩; have q0 := (hb.cell (p := ⟨cb, 0, none⟩) hlt).trans c0; have q1 := (hb.cell (p := ⟨cb, 1, none⟩) hlt).trans c1; have q2 := (hb.cell (p := ⟨cb, 2, none⟩) hlt).trans c2; have z0 := (hb.frozen (p := ⟨cb, 0, none⟩) hlt).trans (hfzH.out 0); have z1 := (hb.frozen (p := ⟨cb, 1, none⟩) hlt).trans (hfzH.out 1); have z2 := (hb.frozen (p := ⟨cb, 2, none⟩) hlt).trans (hfzH.out 2); clear c0 c1 c2; have q3 := (hb.cell (p := ⟨b, 2, none⟩) hbl).trans r2; clear r2)
    refine (hall.out _ (part_world hb hcH.out hlt _ _)).mono ?_
    rintro e w2 ⟨rfl, hc2, hb2⟩
    have hb3 := (part_world hb hcH.out hlt (c.n + 1) (max c.dp deep)).2.trans hb2
    go_wp2
    go_ret
    exact ⟨rfl, hc2, hb3⟩
  · exact part_bad _ _ _ _ _ _ _ h hc how

set_option maxRecDepth 100000 in
set_option maxHeartbeats 800000 in
theorem part_list (l : List Val) (ih : ∀ u ∈ l, PartSaid u) : PartSaid (.list l) := by
  intro x fs w cb c deep h hcb hc h0 h1 h2 h3
  by_cases how : ownF (.list l) c.n deep = 0
  · obtain ⟨c0, c1, c2, hlt, hfz⟩ := cntCells hc
    have hown0 := own_any h c.n deep
    have hn1 := ownF_n how
    have hd1 := ownF_deep how
    rw [how] at hown0
    have hown := Lib.hid hown0
    have hcH := Lib.hid hc
    have hfzH := Lib.hid hfz
    simp only [VRep] at h
    obtain ⟨sv, xs, gs, rfl, ho, hd, rfl⟩ := h
    have hfin : partF (.list l) deep c = partsF l (deep + 1) ⟨c.n + 1, max c.dp deep, 0⟩ := by rw [partF]; exact if_pos how
    rw [hfin]
    obtain ⟨a, cap, rfl, hcap, hmax, hlen, hform⟩ := ownsRow_form ho
    unfold maxLen at hmax
    have hdat := Lib.hid (VsRep.at l xs gs hd)
    have hformH := Lib.hid hform
    have ihH := Lib.hid ih
    have hcbH := Lib.hid hcb
    clear hc hfz how hown0 ho hd ih hfin hcb hform hlen
    go_enter Try.func184, Try.ntmps184
    go_wp2_with (go_at_call 224; refine hown.out.mono ?_; rintro e w1 ⟨rfl, hb⟩; have q0 := (hb.cell (p := ⟨cb, 0, none⟩) hlt).trans c0; have q1 := (hb.cell (p := ⟨cb, 1, none⟩) hlt).trans c1; have q2 := (hb.cell (p := ⟨cb, 2, none⟩) hlt).trans c2; have z0 := (hb.frozen (p := ⟨cb, 0, none⟩) hlt).trans (hfzH.out 0); have z1 := (hb.frozen (p := ⟨cb, 1, none⟩) hlt).trans (hfzH.out 1); have z2 := (hb.frozen (p := ⟨cb, 2, none⟩) hlt).trans (hfzH.out 2); clear c0 c1 c2)
    have hw3 := part_world hb hcH.out hlt (c.n + 1) (max c.dp deep)
    generalize ((w1.setCell ⟨cb, 2, none⟩ (Value.int .i64 0)).setCell ⟨cb, 0, none⟩ (Value.int .i64 (c.n + 1))).setCell ⟨cb, 1, none⟩ (Value.int .i64 (max c.dp deep)) = w3 at hw3 ⊢
    obtain ⟨hc3, hb3⟩ := hw3
    have hc3H := Lib.hid hc3
    clear hc3 q0 q1 q2 z0 z1 z2 hb
    generalize hmx : max c.dp deep = mx at *
    have hmxH := Lib.hid hmx
    clear hmx
    go_loopw [49] (fun i wr => ∃ (k : Nat) (ck : Cnt), k ≤ l.length ∧ i = .int .i64 k ∧ partsF (l.drop k) (deep + 1) ck = partsF l (deep + 1) ⟨c.n + 1, mx, 0⟩ ∧ 0 ≤ ck.n ∧ ck.n ≤ 16384 ∧ wr.heap[cb]? = some (cntObj ck) ∧ But (· = cb) w wr) (fun i _ => l.length - (intOf i).toNat)
    case atStart => exact ⟨0, _, Nat.zero_le _, rfl, by simp, by dsimp only; omega, by dsimp only; omega, hc3H.out, hb3⟩
    case round =>
      obtain ⟨k, ck, hk, rfl, heq, hn0, hn2, hck, hb⟩ := hrel
      have heqH := Lib.hid heq
      have hckH := Lib.hid hck
      clear heq hck
      by_cases hlt2 : k < l.length
      · rcases hformH.out with ⟨-, h0', -⟩ | ⟨g, rfl, -, hg, hown', hcells⟩
        · omega
        · obtain ⟨v, hp⟩ : ∃ p, l[k]? = some p := ⟨_, List.getElem?_eq_getElem hlt2⟩
          obtain ⟨x, f, e1, e3, e4⟩ := hdat.out k _ hp
          have hgc : ¬ g = cb := fun e => hcbH.out (by rw [hown', e]; exact List.mem_append_left _ (List.mem_singleton.2 rfl))
          have hfc : ∀ b ∈ f, ¬ b = cb := fun b hbf e => hcbH.out (List.mem_append_right _ (e ▸ e4 b hbf))
          have hc0 := (hb.cell (p := ⟨g, k, none⟩) hg hgc).trans ((hcells k (by omega)).trans e1)
          have hdrop := Lib.hid (parts_drop hp (deep + 1) ck)
          have hrep := Lib.hid (VRep.but e3 hb hfc)
          have hih := Lib.hid (ihH.out v (List.mem_of_getElem? hp) x f)
          have hcbs := Lib.hid (fun (e : cb ∈ f) => hfc cb e rfl)
          have hnb := Lib.hid (partF_n v (deep + 1) ck hn0 hn2)
          clear e1 e3 e4 hcells hp hgc hfc
          cases hr : partF v (deep + 1) ck with
          | mk ok c' =>
          have hrH := Lib.hid hr
          clear hr
          cases ok with
          | true =>
            go_wp2_with (go_at_call 184; refine (hih.out _ cb ck _ hrep.out hcbs.out hckH.out hn0 hn2 (by omega) (by omega)).mono ?_; rw [hrH.out]; rintro e w' ⟨rfl, hc', hb'⟩)
            have hnb' := hnb.out
            rw [hrH.out] at hnb'
            go_roundw
            case rel => exact ⟨k + 1, c', by omega, by go_num, by rw [← heqH.out, hdrop.out, hrH.out], hnb'.1, hnb'.2, hc', hb.trans hb'⟩
            case measure => simp [intOf]; omega
          | false =>
            go_wp2_with (go_at_call 184; refine (hih.out _ cb ck _ hrep.out hcbs.out hckH.out hn0 hn2 (by omega) (by omega)).mono ?_; rw [hrH.out]; rintro e w' ⟨rfl, hc', hb'⟩)
            have hfin : partsF l (deep + 1) ⟨c.n + 1, mx, 0⟩ = (false, c') := by rw [← heqH.out, hdrop.out, hrH.out]
            go_ret
            rw [hmxH.out, hfin]
            exact ⟨rfl, hc', hb.trans hb'⟩
      · obtain rfl : k = l.length := by omega
        have hfin : partsF l (deep + 1) ⟨c.n + 1, mx, 0⟩ = (true, ck) := by rw [← heqH.out, List.drop_length]; rfl
        have hfinH := Lib.hid hfin
        clear hfin
        go_wp2
        go_ret
        rw [hmxH.out, hfinH.out]
        exact ⟨rfl, hckH.out, hb⟩
  · exact part_bad _ _ _ _ _ _ _ h hc how

theorem part_any : ∀ v, PartSaid v := val_ind fun v ih => by
  cases v with
  | nil => exact part_nil
  | bool b => exact part_bool b
  | int n => exact part_int n
  | float b => exact part_float b
  | text s => exact part_text s
  | bytes l => exact part_bytes l
  | ref n => exact part_ref n
  | list l => exact part_list l ih
  | dict d => exact part_dict d ih
  | record s n d => exact part_record s n d ih
  | nothing => exact part_nothing
  | alien u => exact part_alien u
end Go.Proofs.Ytgmdbpplfjkjmaa

/-! The walks of value.check and value.Check. -/
namespace Go.Proofs.Ytgmdbpplfjkjmaa
open Go.RowKit
set_option linter.unusedVariables false
set_option linter.unusedSimpArgs false

set_option maxRecDepth 100000 in
theorem check_any {w : World} {v : Val} {x : Value} {fs : List Nat} (h : VRep w v x fs) :
    Calls Try.prog 135 #[x] w fun e w' => e = .returned (.tuple #[.int .i64 (checkF v).1, .int .i64 (checkF v).2]) ∧ Below w.heap.size w w' := by
  have hl := VRep.lt v x fs h
  have hp := Lib.hid (fun (W : World) (hW : W.heap[w.heap.size]? = some (cntObj ⟨0, 0, 0⟩)) (hb : But (fun _ => False) w W) =>
    part_any v x fs W w.heap.size ⟨0, 0, 0⟩ 1 (VRep.but h hb (fun _ _ f => f)) (fun e => by have := hl _ e; omega) hW (by decide) (by decide) (by decide) (by decide))
  have hcheck : checkF v = (match partF v 1 ⟨0, 0, 0⟩ with | (true, _) => (0, 0) | (false, c) => (c.n, c.why)) := rfl
  clear h hl
  cases hr : partF v 1 ⟨0, 0, 0⟩ with
  | mk ok c =>
  rw [hr] at hcheck
  have hrH := Lib.hid hr
  clear hr
  cases ok with
  | true =>
    rw [hcheck]
    clear hcheck
    go_enter Try.func135, Try.ntmps135
    go_wp2_with (go_at_call 184; refine (hp.out _ (heap_alloc_new w _) (But.alloc (But.refl _ _) _)).mono ?_; rw [hrH.out]; rintro e w2 ⟨rfl, hc2, hb2⟩)
    go_ret2
    exact ⟨rfl, hb2.new_below⟩
  | false =>
    rw [hcheck]
    clear hcheck
    go_enter Try.func135, Try.ntmps135
    go_wp2_with (go_at_call 184; refine (hp.out _ (heap_alloc_new w _) (But.alloc (But.refl _ _) _)).mono ?_; rw [hrH.out]; rintro e w2 ⟨rfl, hc2, hb2⟩)
    obtain ⟨q0, -, q2, -, -⟩ := cntCells hc2
    go_quiet (fail)
    go_wp2
    go_ret2
    exact ⟨rfl, Below.drewN' hb2.new_below nq⟩
theorem Check_any {w : World} {v : Val} {x : Value} {fs : List Nat} (h : VRep w v x fs) :
    Calls Try.prog 70 #[x] w fun e w' => e = .returned (.tuple #[.int .i64 (checkF v).1, .int .i64 (checkF v).2]) ∧ Below w.heap.size w w' := by
  have hc := Lib.hid (check_any h)
  clear h
  go_enter Try.func70, Try.ntmps70
  go_wp2_with (go_at_call 135; refine hc.out.mono ?_; rintro e w2 ⟨rfl, hb2⟩)
  go_ret2
  exact ⟨rfl, hb2⟩
end Go.Proofs.Ytgmdbpplfjkjmaa
