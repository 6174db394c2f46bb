/- tenonlaw12.lives comes out true. -/
import Derived.Test.YtpcbdjfonmohaaaAsks
namespace Go.Proofs.Ytpcbdjfonmohaaa
open Go.RowKit
set_option linter.unusedVariables false
set_option linter.unusedSimpArgs false

theorem lives_counts (nb g : Nat) (id : Int) : Counts 72 #[.pointer (some ⟨nb, 0, none⟩)] id annV nb g (fun _ => True) where
  enters := fun _ _ => by kernel_rfl
  ok := annV_ok
  isrec := ⟨_, _, _, rfl⟩
  fetch := fun w gb k _ hn hne => lives_fetch nb k w g gb id hn hne
  keep := fun _ _ _ _ => trivial

/-- The state of the first example's ghost. -/
abbrev AnnSt (nb g : Nat) (w : World) (k : Int) (has : Bool) : Prop := Cted 7 (.func (.func 72) #[] #[.pointer (some ⟨nb, 0, none⟩)]) annV nb g (fun _ => True) w k has
theorem annSt_cnt {nb g : Nat} {w : World} {k : Int} {has : Bool} (h : AnnSt nb g w k has) : w.cell? ⟨nb, 0, none⟩ = some (.int .i64 k) := (intCell h.cnt).1
theorem below_two {w w1 w2 : World} {nb g : Nat} (hb : Below w.heap.size w w1) (h : But (fun b => b = nb ∨ b = g) w1 w2) (h1 : w.heap.size ≤ nb) (h2 : w.heap.size ≤ g) : Below w.heap.size w w2 :=
  hb.trans (h.below' hb.size (fun i hi e => by omega))
set_option maxRecDepth 100000 in
set_option maxHeartbeats 1600000 in
theorem lives_said (w : World) : Calls Try.prog 18 #[] w fun e w' => e = .returned (.bool true) ∧ Below w.heap.size w w' := by
  have hmf : ∀ (fn : Fn) (first cap : Array Value) (w : World), (Instr.makeFunc fn first cap).run Try.prog w = .ok (.func fn first cap) w := fun _ _ _ _ => rfl
  have heq : ∀ W : World, (binOp .eql 20 (.iface 9 (.string sAnn)) (.iface 9 (.string { data := #[97, 110, 110] }))).run Try.prog W = .ok (.bool true) W := fun _ => by kernel_rfl
  have hsp : sPerson.toList = [112, 101, 114, 115, 111, 110] := by kernel_rfl
  have hC := Lib.hid (lives_counts w.heap.size (w.heap.size + 1) 7)
  have hnew := Lib.hid (New_said 72 #[.pointer (some ⟨w.heap.size, 0, none⟩)] 7 (w.alloc (.cells #[.int .i64 0] 3)) (by decide))
  go_enter Try.func18, Try.ntmps18
  go_wp2_with fail
  refine hnew.out.mono ?_
  simp only [size_alloc]
  rintro e w1 ⟨rfl, hg, hb⟩
  have s1 : Hid (AnnSt w.heap.size (w.heap.size + 1) w1 0 false) := Lib.hid ⟨(hb.block _ (Nat.lt_succ_self _)).trans (heap_alloc_at _ rfl), ⟨0, hg⟩, by omega, trivial⟩
  have b1 : Hid (Below w.heap.size w w1) := Lib.hid (((Below.refl _ _).alloc (Nat.le_refl _) _).trans (hb.mono (Nat.le_succ _)))
  have c1 := annSt_cnt s1.out
  clear hg hb
  go_wp2_with fail
  refine (Loaded_cted s1.out).mono ?_
  rintro e w1' ⟨rfl, rfl⟩
  go_wp2_with fail
  refine (Get_cted hC.out _ s1.out).mono ?_
  rw [show fieldOf annD { data := #[110, 97, 109, 101] } = some (.text sAnn) from by kernel_rfl]
  rintro e w3 ⟨y, w2, rfl, ⟨hs2, hb2⟩, hb3, -, hy⟩
  obtain ⟨gs, ⟨rfl, -⟩, -⟩ := hy (by kernel_rfl)
  rw [show cntBy 0 false = 1 from by kernel_rfl] at hs2
  have s3 : Hid (AnnSt w.heap.size (w.heap.size + 1) w3 1 true) := Lib.hid (Cted.but hC.out hs2 (below_but0 hb3))
  have b3 : Hid (Below w.heap.size w w3) := Lib.hid ((below_two b1.out hb2 (Nat.le_refl _) (by omega)).trans (below_le hb3 (below_two b1.out hb2 (Nat.le_refl _) (by omega)).size))
  have c3 := annSt_cnt s3.out
  clear hs2 hb2 hb3 hy c1 s1 b1
  go_wp2_with fail
  refine (Get_cted hC.out _ s3.out).mono ?_
  rw [show fieldOf annD { data := #[97, 103, 101] } = none from by kernel_rfl]
  rintro e w5 ⟨rfl, w4, ⟨hs4, hb4⟩, hb5⟩
  rw [show cntBy 1 true = 1 from rfl] at hs4
  have s5 : Hid (AnnSt w.heap.size (w.heap.size + 1) w5 1 true) := Lib.hid (Cted.but hC.out hs4 (below_but0 hb5))
  have b5 : Hid (Below w.heap.size w w5) := Lib.hid ((below_two b3.out hb4 (Nat.le_refl _) (by omega)).trans (below_le hb5 (below_two b3.out hb4 (Nat.le_refl _) (by omega)).size))
  have c5 := annSt_cnt s5.out
  clear hs4 hb4 hb5 c3 s3 b3
  go_wp2_with fail
  refine (Loaded_cted s5.out).mono ?_
  rintro e w5' ⟨rfl, rfl⟩
  go_wp2_with fail
  refine (Forget_cted hC.out s5.out).mono ?_
  rintro e w6 ⟨rfl, hs6, hb6⟩
  have s6 := Lib.hid hs6
  have b6 : Hid (Below w.heap.size w w6) := Lib.hid (below_two b5.out hb6 (Nat.le_refl _) (by omega))
  clear hs6 hb6 c5 s5 b5
  go_wp2_with fail
  refine (Class_cted hC.out s6.out).mono ?_
  rintro e w7 ⟨rfl, hs7, hb7⟩
  rw [show cntBy 1 false = 2 from by kernel_rfl] at hs7
  have s7 : Hid (AnnSt w.heap.size (w.heap.size + 1) w7 2 true) := Lib.hid hs7
  have b7 : Hid (Below w.heap.size w w7) := Lib.hid (below_two b6.out hb7 (Nat.le_refl _) (by omega))
  have c7 := annSt_cnt s7.out
  clear hs7 hb7 s6 b6
  go_wp2_with fail
  refine (Version_cted hC.out s7.out).mono ?_
  rintro e w8 ⟨rfl, hs8, hb8⟩
  have s8 : Hid (AnnSt w.heap.size (w.heap.size + 1) w8 2 true) := Lib.hid hs8
  have b8 : Hid (Below w.heap.size w w8) := Lib.hid (below_two b7.out hb8 (Nat.le_refl _) (by omega))
  have c8 := annSt_cnt s8.out
  clear hs8 hb8 s7 b7 c7
  go_wp2_with fail
  go_ret
  exact ⟨rfl, b8.out⟩
end Go.Proofs.Ytpcbdjfonmohaaa
