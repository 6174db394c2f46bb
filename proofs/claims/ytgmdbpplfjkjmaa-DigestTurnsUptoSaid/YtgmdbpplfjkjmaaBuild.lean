/- Operations that build a field or a row of one element out of a value that takes one cell, whatever its shape. -/
import Derived.Test.YtgmdbpplfjkjmaaBase
namespace Go.Proofs.Ytgmdbpplfjkjmaa
open Go.RowKit
set_option linter.unusedVariables false
set_option linter.unusedSimpArgs false

theorem run_buildField (s : ByteArray) (y : Value) (h : y.oneCell' = true) (W : World) : (Instr.build 220 #[(0, .string s), (1, y)]).run Try.prog W = .ok (.agg #[.string s, y]) W := by
  cases y <;> first | (cases h; done) | kernel_rfl
theorem run_buildAny1 (y : Value) (h : y.oneCell' = true) (W : World) : (Instr.buildSlice 128 1 #[(0, y)]).run Try.prog W = .ok (.slice (some ⟨W.heap.size, 0, none⟩) 1 1) (W.alloc (.cells #[y] 20)) := by
  cases y <;> first | (cases h; done) | kernel_rfl
theorem run_buildField1 (s : ByteArray) (y : Value) (W : World) : (Instr.buildSlice 130 1 #[(0, .agg #[.string s, y])]).run Try.prog W = .ok (.slice (some ⟨W.heap.size, 0, none⟩) 1 1) (W.alloc (.cells #[.string s, y] 220)) := by
  kernel_rfl

theorem exec_build {P : Program} {a : Act} {o : Oper} {T : TypeId} {parts : Array (Nat × Operand)} {vs : Array (Nat × Value)} {v : Value} {W W' : World} (ho : o.op = .build T parts) (hp : (parts.map fun (i, x) => (i, a.eval x)) = vs)
    (hr : (Instr.build T vs).run P W = .ok v W') : (execOp a.eval o).run P W = .ok (.value v) W' := by
  subst hp
  have e : execOp a.eval o = (do pure (Next.value (← Instr.build T (parts.map fun (i, x) => (i, a.eval x))))) := by unfold execOp; rw [ho]
  rw [e]
  simp [Sem.run_bind, Sem.run_pure, hr, Result.andThen]
theorem exec_buildSlice {P : Program} {a : Act} {o : Oper} {T : TypeId} {n : Nat} {parts : Array (Nat × Operand)} {vs : Array (Nat × Value)} {v : Value} {W W' : World} (ho : o.op = .buildSlice T n parts) (hp : (parts.map fun (i, x) => (i, a.eval x)) = vs)
    (hr : (Instr.buildSlice T n vs).run P W = .ok v W') : (execOp a.eval o).run P W = .ok (.value v) W' := by
  subst hp
  have e : execOp a.eval o = (do pure (Next.value (← Instr.buildSlice T n (parts.map fun (i, x) => (i, a.eval x))))) := by unfold execOp; rw [ho]
  rw [e]
  simp [Sem.run_bind, Sem.run_pure, hr, Result.andThen]
/-- An operation that comes to a value. -/
theorem wp_of_exec {P : Program} {o : Oper} {a : Act} {K : Act → World → Prop} {Q : Exit → Act → World → Prop} {w w' : World} {v : Value} (h : (execOp a.eval o).run P w = .ok (.value v) w') (hk : K (a.put o.dst v) w') : o.wp P a w K Q := by
  unfold Oper.wp; rw [h]; exact hk
theorem wpList_of_exec {P : Program} {ops : Array Oper} {rest : List Oper} {o : Oper} {a : Act} {Q : Exit → Act → World → Prop} {w w' : World} {v : Value} (hg : o.guard = none) (h : (execOp a.eval o).run P w = .ok (.value v) w')
    (hk : wpList P ops Q rest (a.put o.dst v) w') : wpList P ops Q (o :: rest) a w :=
  wpList_plain hg fun _ hK => wp_of_exec h (hK _ _ hk)
end Go.Proofs.Ytgmdbpplfjkjmaa
