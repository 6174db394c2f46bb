/- object.Thing: its identity. -/
import Derived.Test.YtpcbdjfonmohaaaValEnd
import Derived.Test.YtpcbdjfonmohaaaGet
namespace Go.Proofs.Ytpcbdjfonmohaaa
open Go.RowKit
set_option linter.unusedVariables false
set_option linter.unusedSimpArgs false

theorem thing_id (b : Nat) (id : Int) (sv : Value) (w : World) (h : w.cell? ⟨b, 0, none⟩ = some (.int .u64 id)) :
    Calls Try.prog 53 #[.pointer (some ⟨b, 0, none⟩)] w fun e w' => e = .returned (.int .u64 id) ∧ w' = w := by
  go_enter Try.func53, Try.ntmps53
  go_wp2
  go_ret
  exact ⟨rfl, rfl⟩
theorem thing_id_nil (w : World) : Calls Try.prog 53 #[.pointer none] w fun e w' => e = .returned (.int .u64 0) ∧ w' = w := by
  go_enter Try.func53, Try.ntmps53
  go_wp2
  go_ret
  exact ⟨rfl, rfl⟩
set_option maxRecDepth 100000 in
theorem thing_get_nil (w : World) (name : ByteArray) : Calls Try.prog 52 #[.pointer none, .string name] w fun e w' => e = .returned (.tuple #[.nilIface, .bool false]) ∧ Below w.heap.size w w' := by
  go_enter Try.func52, Try.ntmps52
  go_wp2
  go_ret2
  exact ⟨rfl, (Below.refl _ _).alloc (Nat.le_refl _) _⟩
end Go.Proofs.Ytpcbdjfonmohaaa

/-! object.Thing: what it has under a name. -/
namespace Go.Proofs.Ytpcbdjfonmohaaa
open Go.RowKit
set_option linter.unusedVariables false
set_option linter.unusedSimpArgs false

set_option maxRecDepth 100000 in
theorem tget1_said (s : ByteArray) (x : Value) (hx : x.oneCell' = true) (name : ByteArray) (nb : Nat) (w : World) (hn : w.cell? ⟨nb, 0, none⟩ = some (.string name)) :
    Calls Try.prog 95 #[.agg #[.string s, x], .pointer (some ⟨nb, 0, none⟩)] w fun e w' => e = .returned (.bool (s.toList == name.toList)) ∧ Below w.heap.size w w' := by
  have hlt := cell_lt hn
  go_enter Try.func95, Try.ntmps95
  go_wp2
  go_ret
  exact ⟨rfl, (Below.refl _ _).alloc (Nat.le_refl _) _⟩

set_option maxRecDepth 100000 in
set_option maxHeartbeats 800000 in
theorem tindex_said (d : List (ByteArray × Val)) (sv : Value) (xs : List Value) (gs : List Nat) (w : World) (name : ByteArray) (nb : Nat) (hn : w.cell? ⟨nb, 0, none⟩ = some (.string name))
    (ho : w.ownsRow 0 133 2 sv d.length xs) (hd : DsRep w d xs gs) :
    Calls Try.prog 75 #[sv, .func (.func 95) #[] #[.pointer (some ⟨nb, 0, none⟩)]] w fun e w' => e = .returned (.int .i64 (idxFrom 0 d name)) ∧ Below w.heap.size w w' := by
  obtain ⟨a, cap, rfl, hcap, hmax, hlen, hform⟩ := ownsRow_form ho
  unfold maxLen at hmax
  have hdat := Lib.hid (DsRep.at d xs gs hd)
  have hformH := Lib.hid hform
  have hltn := cell_lt hn
  have hnH := Lib.hid hn
  obtain ⟨ob, hob⟩ : ∃ ob, ob = idxFrom 0 d name := ⟨_, rfl⟩
  have hobH := Lib.hid hob
  have hF1 : ∀ (args : Array Value) (W : World), (callFunc 95 args).run Try.prog W = .ok (.enter 95 args) W := fun _ _ => by kernel_rfl
  rw [← hob]
  clear ho hd hform hlen hn hob
  go_enter Try.func75, Try.ntmps75
  go_wp2
  go_loopw [8] (fun i wr => ∃ (k : Nat), k ≤ d.length ∧ i = .int .i64 k ∧ idxFrom k (d.drop k) name = ob ∧ Below w.heap.size w wr) (fun i _ => d.length - (intOf i).toNat)
  case atStart => exact ⟨0, Nat.zero_le _, rfl, by rw [hobH.out]; simp, Below.refl _ _⟩
  case round =>
    obtain ⟨k, hk, rfl, heq, hb⟩ := hrel
    have heqH := Lib.hid heq
    clear heq
    by_cases hlt : k < d.length
    · rcases hformH.out with ⟨-, h0', -⟩ | ⟨g, rfl, -, hg, hown, hcells⟩
      · omega
      · obtain ⟨⟨s, v⟩, hp⟩ : ∃ p, d[k]? = some p := ⟨_, List.getElem?_eq_getElem hlt⟩
        obtain ⟨x, f, e1, e2, e3, e4, -⟩ := hdat.out k _ hp
        have hx1 := e3.one
        have hc0 := (hb.cell (p := ⟨g, k * 2, none⟩) hg).trans ((hcells (k * 2) (by omega)).trans e1)
        have hc1 := (hb.cell (p := ⟨g, k * 2 + 1, none⟩) hg).trans ((hcells (k * 2 + 1) (by omega)).trans e2)
        have hdrop := Lib.hid (idx_drop hp name)
        have hnr := Lib.hid ((hb.cell (p := ⟨nb, 0, none⟩) hltn).trans hnH.out)
        clear e1 e2 e3 e4 hcells hp
        cases hr : (s.toList == name.toList) with
        | true =>
          have hrH := Lib.hid hr
          clear hr
          go_wp2_with (go_at_call 95; refine (tget1_said s x hx1 name nb _ hnr.out).mono ?_; rw [hrH.out]; rintro e w' ⟨rfl, hb'⟩)
          have hfin : ob = (k : Int) := by rw [← heqH.out, hdrop.out, hrH.out]; rfl
          go_ret
          rw [hfin]
          exact ⟨rfl, hb.trans (below_le hb' hb.size)⟩
        | false =>
          have hrH := Lib.hid hr
          clear hr
          go_wp2_with (go_at_call 95; refine (tget1_said s x hx1 name nb _ hnr.out).mono ?_; rw [hrH.out]; rintro e w' ⟨rfl, hb'⟩)
          go_roundw
          case rel => exact ⟨k + 1, by omega, by go_num, by rw [← heqH.out, hdrop.out, hrH.out]; rfl, hb.trans (below_le hb' hb.size)⟩
          case measure => simp [intOf]; omega
    · obtain rfl : k = d.length := by omega
      have hfin : ob = -1 := by rw [← heqH.out, List.drop_length]; rfl
      have hfinH := Lib.hid hfin
      clear hfin
      go_wp2
      go_ret
      rw [hfinH.out]
      exact ⟨rfl, hb⟩
theorem keeps_of_below' {w w' : World} (hb : Below w.heap.size w w') : ∀ a u, w.cell? a = some u → w'.cell? a = some u := fun a u h => (hb.cell (World.block_lt_of_cell? _ _ h)).trans h
set_option maxRecDepth 100000 in
set_option maxHeartbeats 800000 in
/-- What a thing has under a name: Q is any fact of the world that stays. -/
theorem thing_get (tb : Nat) (d : List (ByteArray × Val)) (sv : Value) (xs : List Value) (gs : List Nat) (w : World) (name : ByteArray) (hsv : w.cell? ⟨tb, 1, none⟩ = some sv) (hown0 : w.ownsRow 0 133 2 sv d.length xs) (hd0 : DsRep w d xs gs) :
    Calls Try.prog 52 #[.pointer (some ⟨tb, 0, none⟩), .string name] w (GetEnd (fieldOf d name) fun w' => Below w.heap.size w w') := by
  have hmf : ∀ (fn : Fn) (first cap : Array Value) (w : World), (Instr.makeFunc fn first cap).run Try.prog w = .ok (.func fn first cap) w := fun _ _ _ _ => rfl
  obtain ⟨o, ho⟩ : ∃ o, o = fieldOf d name := ⟨_, rfl⟩
  have hoH := Lib.hid ho
  rw [← ho]
  clear ho
  obtain ⟨w1, hw1⟩ : ∃ w1, w1 = w.alloc (.cells #[.string name] 9) := ⟨_, rfl⟩
  have hq : Below w.heap.size w w1 := by rw [hw1]; exact (Below.refl _ _).alloc (Nat.le_refl _) _
  have hqH := Lib.hid hq
  have hn : w1.cell? ⟨w.heap.size, 0, none⟩ = some (.string name) := by rw [hw1]; exact oneCellAt (heap_alloc_at _ rfl)
  have r2 := keeps_of_below' hq _ _ hsv
  have hown := ownsRow_keep hown0 (fun b hb => hq.block b (ownsRow_lt hown0 b hb).2)
  have hd := DsRep.but hd0 (below_but0 hq) (fun _ _ f => f)
  have hix := Lib.hid (tindex_said d sv xs gs w1 name w.heap.size hn hown hd)
  obtain ⟨a, cap, rfl, hcap, hmax, hlen, hform⟩ := ownsRow_form hown
  unfold maxLen at hmax
  have hformH := Lib.hid hform
  have hdat := Lib.hid (DsRep.at d xs gs hd)
  have hbl := cell_lt r2
  have hblw := cell_lt hsv
  subst hw1
  clear hq hn hown hd hown0 hd0 hform hlen
  go_enter Try.func52, Try.ntmps52
  rcases find_idx d 0 name with ⟨hi, hf⟩ | ⟨j, ⟨s, u⟩, hi, hp, hf⟩
  · have hoe : o = none := hoH.out.trans hf
    subst hoe
    clear hf
    go_wp2_with (go_at_call 75; refine hix.out.mono ?_; rintro e w2 ⟨rfl, hb⟩; rw [hi])
    go_ret2
    exact ⟨rfl, _, hqH.out, hb⟩
  · have hoe : o = some u := hoH.out.trans hf
    subst hoe
    rw [Nat.zero_add] at hi
    have hj : j < d.length := (List.getElem?_eq_some_iff.1 hp).1
    obtain ⟨x, f, e1, e2, e3, e4, -⟩ := hdat.out j _ hp
    have hx1 := e3.one
    rcases hformH.out with ⟨-, h0', -⟩ | ⟨gb, rfl, -, hgb, hown, hcells⟩
    · omega
    have hc1 := (hcells (j * 2 + 1) (by omega)).trans e2
    have he3 := Lib.hid e3
    clear hf hp e1 e2 e3 e4 hcells hown
    cases hok : okB u with
    | true =>
      have hokH := Lib.hid hok
      clear hok
      go_wp2_with (go_at_call 75; refine hix.out.mono ?_; rintro e w2 ⟨rfl, hb⟩; rw [hi]; have q2 := (hb.cell (p := ⟨tb, 1, none⟩) hbl).trans r2; have q1 := (hb.cell (p := ⟨gb, j * 2 + 1, none⟩) hgb).trans hc1; clear r2 hc1)
      have hcp := Lib.hid (Copy_ok (VRep.but he3.out (below_but0 hb) (fun _ _ f => f)) hokH.out)
      go_wp2_with (go_at_call 77; refine hcp.out.mono ?_; rintro e w3 ⟨y, gy, rfl, hy, hyn, hyb, hb3⟩; have hy1 := hy.one; have hyH := Lib.hid hy; clear hy)
      go_ret2
      exact ⟨y, _, rfl, hqH.out, hb.trans (below_le hb3 hb.size), (fun h => absurd (hokH.out.symm.trans h) (by decide)), fun _ => ⟨gy, hyH.out, hyn, fun k hk => Nat.le_trans hb.size (hyb k hk)⟩⟩
    | false =>
      have hokH := Lib.hid hok
      clear hok
      go_wp2_with (go_at_call 75; refine hix.out.mono ?_; rintro e w2 ⟨rfl, hb⟩; rw [hi]; have q2 := (hb.cell (p := ⟨tb, 1, none⟩) hbl).trans r2; have q1 := (hb.cell (p := ⟨gb, j * 2 + 1, none⟩) hgb).trans hc1; clear r2 hc1)
      have hcp := Lib.hid (Copy_bad (VRep.but he3.out (below_but0 hb) (fun _ _ f => f)) hokH.out)
      go_wp2_with (go_at_call 77; refine hcp.out.mono ?_; rintro e w3 ⟨rfl, hb3⟩)
      go_ret2
      exact ⟨.nilIface, _, rfl, hqH.out, hb.trans (below_le hb3 hb.size), fun _ => rfl, fun h => absurd (hokH.out.symm.trans h) (by decide)⟩
end Go.Proofs.Ytpcbdjfonmohaaa

/-! object.New. -/
namespace Go.Proofs.Ytpcbdjfonmohaaa
open Go.RowKit
set_option linter.unusedVariables false
set_option linter.unusedSimpArgs false

theorem thing_new_zero (sv : Value) (w : World) : Calls Try.prog 46 #[.int .u64 0, sv] w fun e w' => e = .returned (.tuple #[.pointer none, .int .i64 1]) ∧ Below w.heap.size w w' := by
  go_enter Try.func46, Try.ntmps46
  go_wp2
  go_ret2
  exact ⟨rfl, Below.refl _ _⟩
/-- A thing that was made. -/
def ThingMade (d : List (ByteArray × Val)) (id : Int) (w : World) (e : Ending) (w' : World) : Prop :=
  ∃ b sv xs gs, e = .returned (.tuple #[.pointer (some ⟨b, 0, none⟩), .int .i64 0]) ∧ w.heap.size ≤ b ∧ w'.cell? ⟨b, 0, none⟩ = some (.int .u64 id) ∧ w'.cell? ⟨b, 1, none⟩ = some sv ∧ w'.ownsRow 0 133 2 sv d.length xs ∧ DsRep w' d xs gs ∧ (∀ k ∈ ownL sv ++ gs, w.heap.size ≤ k) ∧ Below w.heap.size w w'
section
variable (d : List (ByteArray × Val)) (sv : Value) (xs : List Value) (gs : List Nat) (w : World) (id : Int) (hid : (id == 0) = false) (ho : w.ownsRow 0 133 2 sv d.length xs) (hd : DsRep w d xs gs)
include hid ho hd
theorem thing_new_bad (hok : okB (.dict d) = false) : Calls Try.prog 46 #[.int .u64 id, sv] w fun e w' => e = .returned (.tuple #[.pointer none, .int .i64 (whyF (.dict d))]) ∧ Below w.heap.size w w' := by
  have hne : (whyF (.dict d) != 0) = true := by simpa using why_bad hok
  have hcp := Lib.hid (Copy_bad (w := w) (v := .dict d) (x := .iface 63 sv) (fs := ownL sv ++ gs) ⟨sv, xs, gs, rfl, ho, hd, rfl⟩ hok)
  obtain ⟨a, cap, rfl, -⟩ := ownsRow_form ho
  clear ho hd
  go_enter Try.func46, Try.ntmps46
  go_wp2_with fail
  refine hcp.out.mono ?_
  rintro e w1 ⟨rfl, hb⟩
  go_wp2_with fail
  go_ret2
  exact ⟨rfl, hb⟩
theorem thing_new_ok (hok : okB (.dict d) = true) : Calls Try.prog 46 #[.int .u64 id, sv] w (ThingMade d id w) := by
  have hcp := Lib.hid (Copy_ok (w := w) (v := .dict d) (x := .iface 63 sv) (fs := ownL sv ++ gs) ⟨sv, xs, gs, rfl, ho, hd, rfl⟩ hok)
  obtain ⟨a, cap, rfl, -⟩ := ownsRow_form ho
  have hta : ∀ (p : Value) (W : World), (Instr.typeAssert (.iface 63 p) 20 63 false).run Try.prog W = .ok p W := fun _ _ => by kernel_rfl
  clear ho hd
  go_enter Try.func46, Try.ntmps46
  go_wp2_with fail
  refine hcp.out.mono ?_
  rintro e w1 ⟨y, gy, rfl, ⟨sv1, xs1, gs1, rfl, ho1, hd1, rfl⟩, hyn, hyb, hb⟩
  obtain ⟨a1, cap1, rfl, -⟩ := ownsRow_form ho1
  have hH := Lib.hid (And.intro ho1 (And.intro hd1 hyb))
  clear ho1 hd1 hyb
  go_wp2_with fail
  go_ret2
  obtain ⟨ho1, hd1, hyb⟩ := hH.out
  have hal : Below w1.heap.size w1 (w1.alloc (.cells #[.int .u64 id, .slice a1 d.length cap1] 160)) := (Below.refl _ _).alloc (Nat.le_refl _) _
  have hx := heap_alloc_new w1 (.cells #[.int .u64 id, .slice a1 d.length cap1] 160)
  exact ⟨w1.heap.size, _, xs1, gs1, rfl, hb.size, cell_of_row _ _ 0 _ _ (0, 0) hx, cell_of_row _ _ 1 _ _ (0, 0) hx, ownsRow_keep ho1 (fun b hb' => hal.block b (ownsRow_lt ho1 b hb').2), DsRep.but hd1 (below_but0 hal) (fun _ _ f => f), hyb, hb.alloc hb.size _⟩
end
end Go.Proofs.Ytpcbdjfonmohaaa
