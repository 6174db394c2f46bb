/- object.Must of what is lacking: a panic of the runtime's. -/
import Derived.Test.YtpcbdjfonmohaaaObjThing
namespace Go.Proofs.Ytpcbdjfonmohaaa
open Go.RowKit
set_option linter.unusedVariables false
set_option linter.unusedSimpArgs false

theorem held_cell1 {w : World} {b : Nat} {v : Value} {t : TypeId} (h : w.heap[b]? = some (.cells #[v] t (0, 0))) : w.cell? ⟨b, 0, none⟩ = some v := by simp [World.cell?, h]
theorem must_dies (x : Value) (W : World) : ∃ a W', (Instr.typeAssert (.iface 92 x) 74 148 false).run Try.prog W = .halt (.panic (.iface Try.prog.rt.typeAssertionError (.pointer (some a)))) W' ∧ Below W.heap.size W W' := by
  have hu := Try.underlying148
  have h : (Try.prog.info? 92).map (fun i => match Try.prog.underlying 148 with | some (.interface want) => (lacking want i.methods).isEmpty | _ => true) = some false := by kernel_rfl
  simp only [hu] at h
  obtain ⟨i, hi, hl⟩ := Option.map_eq_some_iff.1 h
  obtain ⟨m, hm⟩ := missingMethod_some (fun e => by rw [e] at hl; cases hl)
  simp [Instr.typeAssert, run_underlying hu, typeInfo, hi, hm, runtimePanic, goPanic, newVar]
  have h15 := Try.underlying15
  simp [elemOf, run_underlying h15, newRow]
  exact ⟨_, _, ⟨rfl, rfl⟩, (Below.refl _ _).alloc (Nat.le_refl _) _⟩
theorem tae_rt : lacksRT Try.prog.rt.typeAssertionError = some true := by kernel_rfl
theorem Must_dies (x : Value) (hx : x.oneCell' = true) (w : World) : Calls Try.prog 81 #[.iface 92 x] w fun e w' => (∃ v, e = .panicked [{ v, recovered := false }] ∧ PanicIs v 1 9) ∧ Below w.heap.size w w' := by
  obtain ⟨a, w2, hrun, hb⟩ := must_dies x w
  have hbH := Lib.hid hb
  clear hb
  go_enter Try.func81, Try.ntmps81
  go_wp2
  exact ⟨rfl, ⟨_, rfl, .rt _ _ tae_rt⟩, hbH.out⟩
theorem lives1_dies (b tb : Nat) (w : World) (h : w.cell? ⟨b, 0, none⟩ = some (.pointer (some ⟨tb, 0, none⟩))) : Calls Try.prog 80 #[.pointer (some ⟨b, 0, none⟩)] w fun e w' => (∃ v, e = .panicked [{ v, recovered := false }] ∧ PanicIs v 1 9) ∧ Below w.heap.size w w' := by
  have hm := Lib.hid (Must_dies (.pointer (some ⟨tb, 0, none⟩)) rfl w)
  go_enter Try.func80, Try.ntmps80
  go_wp2_with fail
  refine hm.out.mono ?_
  rintro e w2 ⟨⟨v, rfl, hp⟩, hb⟩
  exact ⟨rfl, ⟨v, rfl, hp⟩, hb⟩
theorem lives10_enters : ∀ (args : Array Value) (W : World), (callFunc 80 args).run Try.prog W = .ok (.enter 80 args) W := fun _ _ => by kernel_rfl
theorem try_dies (b tb : Nat) (w : World) (h : w.cell? ⟨b, 0, none⟩ = some (.pointer (some ⟨tb, 0, none⟩))) : Calls Try.prog 14 #[.func (.func 80) #[] #[.pointer (some ⟨b, 0, none⟩)]] w fun e w' => e = .returned (.tuple #[.int .i64 1, .int .i64 9]) ∧ Below w.heap.size w w' := by
  have hl := cell_lt h
  have hbw : Below w.heap.size w (tryW w) := ((Below.refl _ _).alloc (Nat.le_refl _) _).alloc (by simp) _
  have hts : (tryW w).heap.size = w.heap.size + 2 := by simp [tryW]
  refine (try_panic 80 _ w (fun w' => Below (tryW w).heap.size (tryW w) w') 1 9 lives10_enters ((lives1_dies b tb (tryW w) ((hbw.cell (p := ⟨b, 0, none⟩) hl).trans h)).mono fun e w' ⟨hp, hb⟩ => ⟨hp, ⟨?_, ?_⟩, hb⟩)).mono ?_
  · rw [hb.block _ (by omega)]
    unfold tryW
    rw [Below.heap_alloc _ _ _ (by simp)]
    exact heap_alloc_new _ _
  · rw [hb.block _ (by omega)]
    exact heap_alloc_at _ (by simp)
  · rintro e w'' ⟨rfl, w', hb, -, rfl⟩
    exact ⟨rfl, (hbw.trans (below_le hb (by omega))).trans ((tried_but w w' 1 9).below' (by have := hb.size; omega) (fun i hi e => by omega))⟩
/-- What lives asks of a new thing. -/
def livesD : List (ByteArray × Val) := [(⟨#[97]⟩, .int 1)]
theorem livesD_ok : okB (.dict livesD) = true := by kernel_rfl
theorem livesD_at : fieldOf livesD ⟨#[97]⟩ = some (.int 1) := by kernel_rfl
theorem name_a : nameOk ⟨#[97]⟩ = true := by kernel_rfl
theorem name_ann : nameOk ⟨#[97, 110, 110]⟩ = true := by kernel_rfl
theorem livesD_rep (w : World) : (w.alloc (.cells #[.string ⟨#[97]⟩, .iface 2 (.int .i64 1)] 133)).ownsRow 0 133 2 (.slice (some ⟨w.heap.size, 0, none⟩) 1 1) livesD.length [.string ⟨#[97]⟩, .iface 2 (.int .i64 1)] ∧ DsRep (w.alloc (.cells #[.string ⟨#[97]⟩, .iface 2 (.int .i64 1)] 133)) livesD [.string ⟨#[97]⟩, .iface 2 (.int .i64 1)] [] :=
  ⟨⟨rfl, .inr ⟨w.heap.size, 1, #[.string ⟨#[97]⟩, .iface 2 (.int .i64 1)], rfl, Nat.zero_le _, heap_alloc_new _ _, Nat.le_refl _, by simp [maxLen], rfl, rfl⟩⟩, ⟨_, [], [], [], rfl, by simp [maxLen, ByteArray.size], ⟨rfl, by kernel_rfl, rfl⟩, ⟨rfl, rfl⟩, rfl⟩⟩
set_option maxRecDepth 100000 in
set_option maxHeartbeats 1600000 in
theorem lives10_said (w : World) : Calls Try.prog 40 #[] w fun e w' => e = .returned (.bool true) ∧ Below w.heap.size w w' := by
  have hrep := Lib.hid (livesD_rep w)
  have hnew := Lib.hid (thing_new_ok livesD (.slice (some ⟨w.heap.size, 0, none⟩) 1 1) [.string ⟨#[97]⟩, .iface 2 (.int .i64 1)] [] _ 7 (by decide) (livesD_rep w).1 (livesD_rep w).2 livesD_ok)
  have hmf : ∀ (fn : Fn) (first cap : Array Value) (w : World), (Instr.makeFunc fn first cap).run Try.prog w = .ok (.func fn first cap) w := fun _ _ _ _ => rfl
  go_enter Try.func40, Try.ntmps40
  go_wp2_with fail
  refine hnew.out.mono ?_
  rintro e w1 ⟨tb, sv, xs, gs, rfl, htb, h0, h1, hown, hds, hgs, hb1⟩
  have hb1w : Below w.heap.size w w1 := ((Below.refl w.heap.size w).alloc (Nat.le_refl _) _).trans (below_le hb1 (by simp))
  have hgetH := Lib.hid (fun W (hb : Below w1.heap.size w1 W) => thing_told tb livesD sv xs gs W ⟨#[97]⟩ ((hb.cell (p := ⟨tb, 1, none⟩) (cell_lt h1)).trans h1) (ownsRow_keep hown (fun b hb' => hb.block b (ownsRow_lt hown b hb').2)) (DsRep.but hds (below_but0 hb) (fun _ _ f => f)) livesD_at (v := .int 1) (by kernel_rfl))
  have hb1H := Lib.hid hb1w
  clear hnew h0 h1 hown hds hgs hb1 hb1w
  go_wp2_with fail
  have hbA : Below w1.heap.size w1 (w1.alloc (.cells #[.pointer (some ⟨tb, 0, none⟩)] 92)) := (Below.refl _ _).alloc (Nat.le_refl _) _
  refine (Ask_told tb ⟨#[97]⟩ name_a _ (v := .int 1) (by kernel_rfl) (fun W hb => hgetH.out W (hbA.trans (below_le hb hbA.size)))).mono ?_
  rintro e w2 ⟨y, gy, rfl, hv, -, -, hb2⟩
  obtain ⟨rfl, -, -⟩ := hv
  have c1 : w2.cell? ⟨w1.heap.size, 0, none⟩ = some (.pointer (some ⟨tb, 0, none⟩)) := (hb2.cell (p := ⟨w1.heap.size, 0, none⟩) (by simp)).trans (held_cell1 (heap_alloc_new w1 _))
  have hb2w := Lib.hid (hb1H.out.trans ((hbA.trans (below_le hb2 hbA.size)).mono hb1H.out.size))
  clear hb2 hbA
  go_wp2_with fail
  refine (try_dies w1.heap.size tb w2 c1).mono ?_
  rintro e w3 ⟨rfl, hb3⟩
  have c2 := (hb3.cell (p := ⟨w1.heap.size, 0, none⟩) (cell_lt c1)).trans c1
  have hb3w := Lib.hid (hb2w.out.trans (below_le hb3 hb2w.out.size))
  have heq : ∀ W, (binOp .eql 20 (.iface 2 (.int .i64 1)) (.iface 2 (.int .i64 1))).run Try.prog W = .ok (.bool true) W := fun _ => by kernel_rfl
  clear hb3 c1
  go_wp2_with fail
  refine (give_thing w3 ⟨tb, 0, none⟩ ⟨#[97, 110, 110]⟩ name_ann).mono ?_
  rintro e w4 ⟨rfl, hb4⟩
  have c3 := (hb4.cell (p := ⟨w1.heap.size, 0, none⟩) (cell_lt c2)).trans c2
  have hb4w := Lib.hid (hb3w.out.trans (below_le hb4 hb3w.out.size))
  clear hb4 c2
  go_wp2_with fail
  refine (Holds_of w4 _ rfl 2 (holds_hollow w4)).mono ?_
  rintro e w5 ⟨rfl, rfl⟩
  go_wp2_with fail
  refine (Holds_of w5 _ rfl 1 (holds_nil w5)).mono ?_
  rintro e w6 ⟨rfl, rfl⟩
  go_wp2_with fail
  refine (Holds_of w6 _ rfl 0 (holds_thing w6 _)).mono ?_
  rintro e w7 ⟨rfl, rfl⟩
  go_wp2
  go_ret
  exact ⟨rfl, hb4w.out⟩
end Go.Proofs.Ytpcbdjfonmohaaa
