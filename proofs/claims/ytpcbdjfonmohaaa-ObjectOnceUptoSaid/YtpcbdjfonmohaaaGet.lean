/- lazy.New and (*Ghost).Get. -/
import Derived.Test.YtpcbdjfonmohaaaAsk
namespace Go.Proofs.Ytpcbdjfonmohaaa
open Go.RowKit
set_option linter.unusedVariables false
set_option linter.unusedSimpArgs false

@[go_sem] theorem eql_fetcher_nil (fn : Fn) (first caps : Array Value) (W : World) : (binOp .eql 43 (.func fn first caps) .nilFunc).run Try.prog W = .ok (.bool false) W := by kernel_rfl
theorem New_said (F : FuncId) (caps : Array Value) (id : Int) (w : World) (hid : (id == 0) = false) :
    Calls Try.prog 21 #[.int .u64 id, .func (.func F) #[] caps] w fun e w' => e = .returned (.tuple #[.pointer (some ⟨w.heap.size, 0, none⟩), .int .i64 0]) ∧ w'.heap[w.heap.size]? = some (ghostObj id (.func (.func F) #[] caps) none false 0 none) ∧ Below w.heap.size w w' := by
  go_enter Try.func21, Try.ntmps21
  go_wp2_with fail
  go_ret2
  exact ⟨rfl, heap_alloc_at _ rfl, (Below.refl _ _).alloc (Nat.le_refl _) _⟩

/-- The value under a name. -/
def fieldOf (d : List (ByteArray × Val)) (name : ByteArray) : Option Val := (d.find? (fun p => p.1.toList == name.toList)).map (·.2)
theorem find_idx : ∀ (d : List (ByteArray × Val)) (k : Nat) (n : ByteArray), (idxFrom k d n = -1 ∧ fieldOf d n = none) ∨ ∃ j p, idxFrom k d n = ((k + j : Nat) : Int) ∧ d[j]? = some p ∧ fieldOf d n = some p.2
  | [], k, n => .inl ⟨rfl, rfl⟩
  | p :: l, k, n => by
    unfold idxFrom
    cases h : p.1.toList == n.toList with
    | true => exact .inr ⟨0, p, rfl, rfl, by unfold fieldOf; rw [List.find?_cons, h]; rfl⟩
    | false =>
      have e : fieldOf (p :: l) n = fieldOf l n := by unfold fieldOf; rw [List.find?_cons, h]
      rw [e]
      rcases find_idx l (k + 1) n with h | ⟨j, q, h1, h2, h3⟩
      · exact .inl h
      · exact .inr ⟨j + 1, q, by rw [show k + (j + 1) = k + 1 + j from by omega]; exact h1, h2, h3⟩
/-- What Get tells. -/
def GetEnd (o : Option Val) (Q : World → Prop) (e : Ending) (w'' : World) : Prop := match o with
  | none => e = .returned (.tuple #[.nilIface, .bool false]) ∧ ∃ w', Q w' ∧ Below w'.heap.size w' w''
  | some u => ∃ y w', e = .returned (.tuple #[y, .bool true]) ∧ Q w' ∧ Below w'.heap.size w' w'' ∧ (okB u = false → y = .nilIface) ∧ (okB u = true → ∃ gs, VRep w'' u y gs ∧ gs.Nodup ∧ ∀ b ∈ gs, w'.heap.size ≤ b)

set_option maxRecDepth 100000 in
set_option maxHeartbeats 800000 in
theorem Get_has (w : World) (g : Nat) (c : ByteArray) (n : Int) (d : List (ByteArray × Val)) (name : ByteArray) (Q : World → Prop)
    (h0 : Calls Try.prog 74 #[.pointer (some ⟨g, 0, none⟩)] (w.alloc (.cells #[.string name] 9)) (AskHas c n d fun w' => Q w' ∧ w'.cell? ⟨w.heap.size, 0, none⟩ = some (.string name))) :
    Calls Try.prog 23 #[.pointer (some ⟨g, 0, none⟩), .string name] w (GetEnd (fieldOf d name) Q) := by
  have h := Lib.hid h0
  have hmf : ∀ (fn : Fn) (first cap : Array Value) (w : World), (Instr.makeFunc fn first cap).run Try.prog w = .ok (.func fn first cap) w := fun _ _ _ _ => rfl
  clear h0
  obtain ⟨o, ho⟩ : ∃ o, o = fieldOf d name := ⟨_, rfl⟩
  have hoH := Lib.hid ho
  rw [← ho]
  clear ho
  go_enter Try.func23, Try.ntmps23
  go_wp2_with fail
  refine h.out.mono ?_
  rintro e w1 ⟨b, fs, rfl, ⟨hq, hn⟩, hv⟩
  obtain ⟨b', sv, xs, gs, e0, hr, -, -, hown, hd, -⟩ := hv
  cases e0
  obtain ⟨r0, r1, r2, -⟩ := recCells hr
  have hqH := Lib.hid hq
  have hix := Lib.hid (index_said d sv xs gs w1 name w.heap.size hn hown hd)
  obtain ⟨a, cap, rfl, hcap, hmax, hlen, hform⟩ := ownsRow_form hown
  unfold maxLen at hmax
  have hformH := Lib.hid hform
  have hdat := Lib.hid (DsRep.at d xs gs hd)
  have hbl := cell_lt r2
  clear hq hr hn hown hd r0 r1 hform hlen
  rcases find_idx d 0 name with ⟨hi, hf⟩ | ⟨j, ⟨s, u⟩, hi, hp, hf⟩
  · have hoe : o = none := hoH.out.trans hf
    subst hoe
    clear hf
    go_wp2_with (go_at_call 75; refine hix.out.mono ?_; rintro e w2 ⟨rfl, hb⟩; rw [hi])
    go_ret2
    exact ⟨rfl, w1, hqH.out, hb⟩
  · have hoe : o = some u := hoH.out.trans hf
    subst hoe
    rw [Nat.zero_add] at hi
    have hj : j < d.length := (List.getElem?_eq_some_iff.1 hp).1
    obtain ⟨x, f, e1, e2, e3, e4, -⟩ := hdat.out j _ hp
    have hx1 := e3.one
    rcases hformH.out with ⟨-, h0', -⟩ | ⟨gb, rfl, -, hgb, hown, hcells⟩
    · omega
    have hc1 := (hcells (j * 2 + 1) (by omega)).trans e2
    have he3 := Lib.hid e3
    clear hf hp e1 e2 e3 e4 hcells hown
    cases hok : okB u with
    | true =>
      have hokH := Lib.hid hok
      clear hok
      go_wp2_with (go_at_call 75; refine hix.out.mono ?_; rintro e w2 ⟨rfl, hb⟩; rw [hi]; have q2 := (hb.cell (p := ⟨b, 2, none⟩) hbl).trans r2; have q1 := (hb.cell (p := ⟨gb, j * 2 + 1, none⟩) hgb).trans hc1; clear r2 hc1)
      have hcp := Lib.hid (Copy_ok (VRep.but he3.out (below_but0 hb) (fun _ _ f => f)) hokH.out)
      go_wp2_with (go_at_call 77; refine hcp.out.mono ?_; rintro e w3 ⟨y, gy, rfl, hy, hyn, hyb, hb3⟩; have hy1 := hy.one; have hyH := Lib.hid hy; clear hy)
      go_ret2
      exact ⟨y, w1, rfl, hqH.out, hb.trans (below_le hb3 hb.size), (fun h => absurd (hokH.out.symm.trans h) (by decide)), fun _ => ⟨gy, hyH.out, hyn, fun k hk => Nat.le_trans hb.size (hyb k hk)⟩⟩
    | false =>
      have hokH := Lib.hid hok
      clear hok
      go_wp2_with (go_at_call 75; refine hix.out.mono ?_; rintro e w2 ⟨rfl, hb⟩; rw [hi]; have q2 := (hb.cell (p := ⟨b, 2, none⟩) hbl).trans r2; have q1 := (hb.cell (p := ⟨gb, j * 2 + 1, none⟩) hgb).trans hc1; clear r2 hc1)
      have hcp := Lib.hid (Copy_bad (VRep.but he3.out (below_but0 hb) (fun _ _ f => f)) hokH.out)
      go_wp2_with (go_at_call 77; refine hcp.out.mono ?_; rintro e w3 ⟨rfl, hb3⟩)
      go_ret2
      exact ⟨.nilIface, w1, rfl, hqH.out, hb.trans (below_le hb3 hb.size), fun _ => rfl, fun h => absurd (hokH.out.symm.trans h) (by decide)⟩
end Go.Proofs.Ytpcbdjfonmohaaa
