/- Ghosts by themselves: what they are asked. -/
import Derived.Test.YtpcbdjfonmohaaaFetch
namespace Go.Proofs.Ytpcbdjfonmohaaa
open Go.RowKit
set_option linter.unusedVariables false
set_option linter.unusedSimpArgs false

theorem cell_lt {w : World} {a : Addr} {v : Value} (hn : w.cell? a = some v) : a.block < w.heap.size := by
  unfold World.cell? at hn
  cases h : w.heap[a.block]? with
  | none => simp [h] at hn
  | some o => exact (Array.getElem?_eq_some_iff.1 h).1

set_option maxRecDepth 100000 in
theorem get1_said (s : ByteArray) (x : Value) (hx : x.oneCell' = true) (name : ByteArray) (nb : Nat) (w : World) (hn : w.cell? ⟨nb, 0, none⟩ = some (.string name)) :
    Calls Try.prog 76 #[.agg #[.string s, x], .pointer (some ⟨nb, 0, none⟩)] w fun e w' => e = .returned (.bool (s.toList == name.toList)) ∧ Below w.heap.size w w' := by
  have hlt := cell_lt hn
  go_enter Try.func76, Try.ntmps76
  go_wp2
  go_ret
  exact ⟨rfl, (Below.refl _ _).alloc (Nat.le_refl _) _⟩

/-- The first field of a name, from number k on; -1: there is none. -/
def idxFrom : Nat → List (ByteArray × Val) → ByteArray → Int
  | _, [], _ => -1
  | k, p :: l, n => bif p.1.toList == n.toList then (k : Int) else idxFrom (k + 1) l n
theorem idx_drop {d : List (ByteArray × Val)} {k : Nat} {p : ByteArray × Val} (h : d[k]? = some p) (n : ByteArray) :
    idxFrom k (d.drop k) n = bif p.1.toList == n.toList then (k : Int) else idxFrom (k + 1) (d.drop (k + 1)) n := by
  have hk : k < d.length := (List.getElem?_eq_some_iff.1 h).1
  have e : d[k] = p := (List.getElem?_eq_some_iff.1 h).2
  rw [List.drop_eq_getElem_cons hk, idxFrom, e]
theorem idx_at : ∀ (d : List (ByteArray × Val)) (k : Nat) (n : ByteArray), idxFrom k d n = -1 ∨ ∃ j p, idxFrom k d n = ((k + j : Nat) : Int) ∧ d[j]? = some p ∧ p.1.toList = n.toList
  | [], k, n => .inl rfl
  | p :: l, k, n => by
    unfold idxFrom
    cases h : p.1.toList == n.toList with
    | true => exact .inr ⟨0, p, rfl, rfl, by simpa using h⟩
    | false =>
      rcases idx_at l (k + 1) n with h | ⟨j, q, h1, h2, h3⟩
      · exact .inl h
      · exact .inr ⟨j + 1, q, by rw [show k + (j + 1) = k + 1 + j from by omega]; exact h1, h2, h3⟩

set_option maxRecDepth 100000 in
set_option maxHeartbeats 800000 in
theorem index_said (d : List (ByteArray × Val)) (sv : Value) (xs : List Value) (gs : List Nat) (w : World) (name : ByteArray) (nb : Nat) (hn : w.cell? ⟨nb, 0, none⟩ = some (.string name))
    (ho : w.ownsRow 0 133 2 sv d.length xs) (hd : DsRep w d xs gs) :
    Calls Try.prog 75 #[sv, .func (.func 76) #[] #[.pointer (some ⟨nb, 0, none⟩)]] w fun e w' => e = .returned (.int .i64 (idxFrom 0 d name)) ∧ Below w.heap.size w w' := by
  obtain ⟨a, cap, rfl, hcap, hmax, hlen, hform⟩ := ownsRow_form ho
  unfold maxLen at hmax
  have hdat := Lib.hid (DsRep.at d xs gs hd)
  have hformH := Lib.hid hform
  have hltn := cell_lt hn
  have hnH := Lib.hid hn
  obtain ⟨ob, hob⟩ : ∃ ob, ob = idxFrom 0 d name := ⟨_, rfl⟩
  have hobH := Lib.hid hob
  have hF1 : ∀ (args : Array Value) (W : World), (callFunc 76 args).run Try.prog W = .ok (.enter 76 args) W := fun _ _ => by kernel_rfl
  rw [← hob]
  clear ho hd hform hlen hn hob
  go_enter Try.func75, Try.ntmps75
  go_wp2
  go_loopw [8] (fun i wr => ∃ (k : Nat), k ≤ d.length ∧ i = .int .i64 k ∧ idxFrom k (d.drop k) name = ob ∧ Below w.heap.size w wr) (fun i _ => d.length - (intOf i).toNat)
  case atStart => exact ⟨0, Nat.zero_le _, rfl, by rw [hobH.out]; simp, Below.refl _ _⟩
  case round =>
    obtain ⟨k, hk, rfl, heq, hb⟩ := hrel
    have heqH := Lib.hid heq
    clear heq
    by_cases hlt : k < d.length
    · rcases hformH.out with ⟨-, h0', -⟩ | ⟨g, rfl, -, hg, hown, hcells⟩
      · omega
      · obtain ⟨⟨s, v⟩, hp⟩ : ∃ p, d[k]? = some p := ⟨_, List.getElem?_eq_getElem hlt⟩
        obtain ⟨x, f, e1, e2, e3, e4, -⟩ := hdat.out k _ hp
        have hx1 := e3.one
        have hc0 := (hb.cell (p := ⟨g, k * 2, none⟩) hg).trans ((hcells (k * 2) (by omega)).trans e1)
        have hc1 := (hb.cell (p := ⟨g, k * 2 + 1, none⟩) hg).trans ((hcells (k * 2 + 1) (by omega)).trans e2)
        have hdrop := Lib.hid (idx_drop hp name)
        have hnr := Lib.hid ((hb.cell (p := ⟨nb, 0, none⟩) hltn).trans hnH.out)
        clear e1 e2 e3 e4 hcells hp
        cases hr : (s.toList == name.toList) with
        | true =>
          have hrH := Lib.hid hr
          clear hr
          go_wp2_with (go_at_call 76; refine (get1_said s x hx1 name nb _ hnr.out).mono ?_; rw [hrH.out]; rintro e w' ⟨rfl, hb'⟩)
          have hfin : ob = (k : Int) := by rw [← heqH.out, hdrop.out, hrH.out]; rfl
          go_ret
          rw [hfin]
          exact ⟨rfl, hb.trans (below_le hb' hb.size)⟩
        | false =>
          have hrH := Lib.hid hr
          clear hr
          go_wp2_with (go_at_call 76; refine (get1_said s x hx1 name nb _ hnr.out).mono ?_; rw [hrH.out]; rintro e w' ⟨rfl, hb'⟩)
          go_roundw
          case rel => exact ⟨k + 1, by omega, by go_num, by rw [← heqH.out, hdrop.out, hrH.out]; rfl, hb.trans (below_le hb' hb.size)⟩
          case measure => simp [intOf]; omega
    · obtain rfl : k = d.length := by omega
      have hfin : ob = -1 := by rw [← heqH.out, List.drop_length]; rfl
      have hfinH := Lib.hid hfin
      clear hfin
      go_wp2
      go_ret
      rw [hfinH.out]
      exact ⟨rfl, hb⟩
end Go.Proofs.Ytpcbdjfonmohaaa
