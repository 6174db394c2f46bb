/- wire.Encode of any value. -/
import Derived.Test.YtgmdbpplfjkjmaaEncInj
import Derived.Test.YtgmdbpplfjkjmaaSameT
namespace Go.Proofs.Ytgmdbpplfjkjmaa
open Go.RowKit
set_option linter.unusedVariables false
set_option linter.unusedSimpArgs false

theorem enc_small {v : Val} (hn : numsV v) (h : okB v = true) : (encV v).length ≤ 1099511627776 := by
  have h1 := enc_len v hn 1 ⟨0, 0, 0⟩ (by decide) (by decide) h
  have h2 := partF_n v 1 ⟨0, 0, 0⟩ (by decide) (by decide)
  have h3 : ((encV v).length : Int) + 42 ≤ 70000 * ((partF v 1 ⟨0, 0, 0⟩).2.n - 0) := h1
  omega
theorem conv_own {w : World} {B : Nat} {v : Value} {bs : List UInt8} (h : w.ownsRow B 5 1 v bs.length (byteCells bs)) : (convert 26 9 v).run Try.prog w = .ok (.string ⟨bs.toArray⟩) w := by
  obtain ⟨oa, cap, rfl, hcap, hmax, -, hf⟩ := ownsRow_form h
  rcases hf with ⟨rfl, h0, rfl⟩ | ⟨g, rfl, -, -, -, hc⟩
  · obtain rfl : bs = [] := List.eq_nil_of_length_eq_zero h0
    exact run_convert_bytes_zero w _ _ Try.underlying26 Try.underlying5 none 0 _ Try.underlying9
  · refine run_convert_bytes_back w _ _ _ ⟨g, 0, none⟩ cap bs Try.underlying26 Try.underlying5 Try.underlying9 ?_
    intro i hi
    have := hc i (by omega)
    rw [Addr.add_mid, Nat.zero_add, this]
    simp [byteCells, List.getElem?_eq_getElem hi]
/-- What Encode answers. -/
def EncOk (l : List UInt8) (w : World) (e : Ending) (w' : World) : Prop := ∃ sv, e = .returned (.tuple #[sv, .int .i64 0]) ∧ w'.ownsRow w.heap.size 5 1 sv l.length (byteCells l) ∧ Below w.heap.size w w'
def EncBad (y : Int) (w : World) (e : Ending) (w' : World) : Prop := e = .returned (.tuple #[.slice none 0 0, .int .i64 y]) ∧ Below w.heap.size w w'
set_option maxRecDepth 100000 in
theorem encode_ok {w : World} {v : Val} {x : Value} {fs : List Nat} (h : VRep w v x fs) (hn : numsV v) (hok : okB v = true) : Calls Try.prog 80 #[x] w (EncOk (encV v) w) := by
  have hlt := VRep.lt v x fs h
  have hck := Check_any h
  have hx := h.one
  rw [check_ok hok] at hck
  have hckH := Lib.hid hck
  have hput := Lib.hid (fun W (hb : Below w.heap.size w W) => put_any v x fs W w.heap.size [] (.slice none 0 0) (VRep.keep _ _ _ h (fun b hm => hb.block b (hlt b hm))) (okV_check hok) hlt hb.size ⟨rfl, .inl ⟨rfl, rfl⟩⟩ (by have := enc_small hn hok; simpa using this))
  clear h hck hlt hok hn
  go_enter Try.func80, Try.ntmps80
  go_wp2_with fail
  refine hckH.out.mono ?_
  rintro e w1 ⟨rfl, hb1⟩
  go_wp2_with fail
  refine (hput.out _ hb1).mono ?_
  rintro e w2 ⟨sv, rfl, hown, hb2⟩
  have hone : sv.oneCell' = true := by obtain ⟨_, _, rfl, -⟩ := ownsRow_form hown; rfl
  have hownH := Lib.hid hown
  clear hown
  go_wp2
  go_ret2
  exact ⟨_, rfl, hownH.out, hb1.trans hb2⟩
set_option maxRecDepth 100000 in
theorem encode_bad {w : World} {v : Val} {x : Value} {fs : List Nat} (h : VRep w v x fs) (hok : okB v = false) : Calls Try.prog 80 #[x] w (EncBad (whyF v) w) := by
  have hck := Check_any h
  have hx := h.one
  have hne : ¬ (checkF v).2 = 0 := why_bad hok
  have hckH := Lib.hid hck
  unfold whyF
  generalize checkF v = cf at *
  obtain ⟨a, y⟩ := cf
  have hy : (y != 0) = true := by simpa using hne
  clear h hck hok hne
  go_enter Try.func80, Try.ntmps80
  go_wp2_with fail
  refine hckH.out.mono ?_
  rintro e w1 ⟨rfl, hb1⟩
  go_wp2
  go_ret2
  exact ⟨rfl, hb1⟩
end Go.Proofs.Ytgmdbpplfjkjmaa
