/- object.Try: a call, and what it panicked with. -/
import Derived.Test.YtpcbdjfonmohaaaVal
import Derived.Recover
import Derived.Defers
import Derived.Laws.Panics
import Derived.Laws.PanicsMore
import Derived.Stop.Asserts
namespace Go.Proofs.Ytpcbdjfonmohaaa
open Go.RowKit
set_option linter.unusedVariables false
set_option linter.unusedSimpArgs false

/-- 'x := recover()' alone in its region. -/
theorem wpS_recover {P : Program} {id : Nat} {o : Oper} {Q : Exit → Act → List Frame → World → Prop} {a : Act} {cs : List Frame} {w : World} (ho : o.op = .call { callee := .builtin .recover, args := #[], argTypes := #[] }) (hg : o.guard = none)
    (h : match recoverD cs with | some (v, cs') => Q .normal (a.put o.dst v) cs' w | none => Q .normal (a.put o.dst .nilIface) cs w) : (Code.region id #[o] false).wpS P Q a cs w := by
  apply wpS_region
  have e : (execOp a.eval o).run P w = .ok .recover w := by unfold execOp; rw [ho]; rfl
  simp only [List.size_toArray, List.length_cons, List.length_nil, Nat.zero_add, List.range_one, wpOpsS, List.getElem?_toArray, List.getElem?_cons_zero, Region.wanted, hg, if_true, e]
  cases hr : recoverD cs with
  | none => rw [hr] at h; exact h
  | some x => obtain ⟨v, cs'⟩ := x; rw [hr] at h; exact h

theorem try1_idle (p q : Addr) (w : World) :
    CallsD Try.prog 69 #[.pointer (some p), .pointer (some q)] .returning w fun e u' w' => e = .returned (.tuple #[]) ∧ u' = .returning ∧ w = w' := by
  refine callsD_of_wpS Try.func69 rfl fun c₀ cs hu => ?_
  apply wpS_seq
  refine wpS_recover rfl rfl ?_
  have hrec : recoverD (c₀ :: cs) = none := by simp [recoverD, hu]
  rw [hrec]
  simp only [Exit.thenS]
  refine wpS_of_wp ?_
  simp only [Try.ntmps69, List.size_toArray, List.length_cons, List.length_nil, Nat.reduceAdd, Nat.reduceSub, Array.replicate_succ, Array.replicate_zero, List.push_toArray, List.append_toArray, List.nil_append, List.cons_append, Act.put, List.setIfInBounds_toArray, List.set_cons_zero, List.set_cons_succ]
  go_wp2
  exact ⟨rfl, .returning, by rw [← hu], _, results_none rfl _ _ _, rfl, rfl, rfl⟩

/-- Which interface methods a dynamic type has: closed facts. -/
noncomputable def lacksRT (u : TypeId) : Option Bool := (Try.prog.info? u).map (fun i => match Try.prog.underlying 127 with | some (.interface want) => (lacking want i.methods).isEmpty | _ => false)
noncomputable def lacksErr (u : TypeId) : Option Bool := (Try.prog.info? u).map (fun i => match Try.prog.underlying 129 with | some (.interface want) => (lacking want i.methods).isEmpty | _ => false)
theorem no_rt (u : TypeId) (h : lacksRT u = some false) (x : Value) (W : World) : (Instr.typeAssert (.iface u x) 20 127 true).run Try.prog W = .ok (.tuple #[.nilIface, .bool false]) W := by
  unfold lacksRT at h
  simp only [Try.underlying127] at h
  exact run_typeAssert_lacksB Try.underlying127 h (by kernel_rfl) x _ W
theorem is_rt (u : TypeId) (h : lacksRT u = some true) (x : Value) (W : World) : (Instr.typeAssert (.iface u x) 20 127 true).run Try.prog W = .ok (.tuple #[.iface u x, .bool true]) W := by
  unfold lacksRT at h
  simp only [Try.underlying127] at h
  exact run_typeAssert_hasB Try.underlying127 h x _ W
theorem no_err (u : TypeId) (h : lacksErr u = some false) (x : Value) (W : World) : (Instr.typeAssert (.iface u x) 20 129 true).run Try.prog W = .ok (.tuple #[.nilIface, .bool false]) W := by
  unfold lacksErr at h
  simp only [Try.underlying129] at h
  exact run_typeAssert_lacksB Try.underlying129 h (by kernel_rfl) x _ W
theorem is_err (u : TypeId) (h : lacksErr u = some true) (x : Value) (W : World) : (Instr.typeAssert (.iface u x) 20 129 true).run Try.prog W = .ok (.tuple #[.iface u x, .bool true]) W := by
  unfold lacksErr at h
  simp only [Try.underlying129] at h
  exact run_typeAssert_hasB Try.underlying129 h x _ W

/-- What a panic with 'v' has come to, behind recover. -/
def caughtBy (v : Value) (older : List PanicEntry) : FrameMode := .panicking ({ v, recovered := true } :: older)
section
variable (b c : Nat) (hbc : ¬ b = c) (w : World) (x0 y0 : Value) (hb : w.cell? ⟨b, 0, none⟩ = some x0) (hfb : w.frozen? ⟨b, 0, none⟩ = false) (hc : w.cell? ⟨c, 0, none⟩ = some y0) (hfc : w.frozen? ⟨c, 0, none⟩ = false) (older : List PanicEntry)
include hbc hb hfb hc hfc
theorem try1_rt (u : TypeId) (x : Value) (h1 : ∀ W : World, (Instr.typeAssert (.iface u x) 20 127 true).run Try.prog W = .ok (.tuple #[.iface u x, .bool true]) W) :
    CallsD Try.prog 69 #[.pointer (some ⟨b, 0, none⟩), .pointer (some ⟨c, 0, none⟩)] (.panicking ({ v := .iface u x, recovered := false } :: older)) w fun e u' w' =>
      e = .returned (.tuple #[]) ∧ u' = caughtBy (.iface u x) older ∧ (w.setCell ⟨b, 0, none⟩ (.int .i64 1)).setCell ⟨c, 0, none⟩ (.int .i64 9) = w' := by
  refine callsD_of_wpS Try.func69 rfl fun c₀ cs hu => ?_
  apply wpS_seq
  refine wpS_recover rfl rfl ?_
  have hrec : recoverD (c₀ :: cs) = some (.iface u x, { c₀ with mode := .panicking ({ v := .iface u x, recovered := true } :: older) } :: cs) := by simp [recoverD, hu]
  rw [hrec]
  simp only [Exit.thenS]
  refine wpS_of_wp ?_
  simp only [Try.ntmps69, List.size_toArray, List.length_cons, List.length_nil, Nat.reduceAdd, Nat.reduceSub, Array.replicate_succ, Array.replicate_zero, List.push_toArray, List.append_toArray, List.nil_append, List.cons_append, Act.put, List.setIfInBounds_toArray, List.set_cons_zero, List.set_cons_succ]
  clear hu hrec
  go_wp2
  exact ⟨rfl, _, rfl, _, results_none rfl _ _ _, rfl, rfl, rfl⟩

theorem try1_errno (n : Int) :
    CallsD Try.prog 69 #[.pointer (some ⟨b, 0, none⟩), .pointer (some ⟨c, 0, none⟩)] (.panicking ({ v := .iface 22 (.int .i64 n), recovered := false } :: older)) w fun e u' w' =>
      e = .returned (.tuple #[]) ∧ u' = caughtBy (.iface 22 (.int .i64 n)) older ∧ (w.setCell ⟨b, 0, none⟩ (.int .i64 2)).setCell ⟨c, 0, none⟩ (.int .i64 n) = w' := by
  have h1 := fun (x : Value) (W : World) => no_rt 22 (by kernel_rfl) x W
  refine callsD_of_wpS Try.func69 rfl fun c₀ cs hu => ?_
  apply wpS_seq
  refine wpS_recover rfl rfl ?_
  have hrec : recoverD (c₀ :: cs) = some (.iface 22 (.int .i64 n), { c₀ with mode := .panicking ({ v := .iface 22 (.int .i64 n), recovered := true } :: older) } :: cs) := by simp [recoverD, hu]
  rw [hrec]
  simp only [Exit.thenS]
  refine wpS_of_wp ?_
  simp only [Try.ntmps69, List.size_toArray, List.length_cons, List.length_nil, Nat.reduceAdd, Nat.reduceSub, Array.replicate_succ, Array.replicate_zero, List.push_toArray, List.append_toArray, List.nil_append, List.cons_append, Act.put, List.setIfInBounds_toArray, List.set_cons_zero, List.set_cons_succ]
  clear hu hrec
  go_wp2
  exact ⟨rfl, _, rfl, _, results_none rfl _ _ _, rfl, rfl, rfl⟩

theorem try1_error (u : TypeId) (x : Value) (hu22 : u ≠ 22) (h1 : ∀ W : World, (Instr.typeAssert (.iface u x) 20 127 true).run Try.prog W = .ok (.tuple #[.nilIface, .bool false]) W)
    (h2 : ∀ W : World, (Instr.typeAssert (.iface u x) 20 129 true).run Try.prog W = .ok (.tuple #[.iface u x, .bool true]) W) :
    CallsD Try.prog 69 #[.pointer (some ⟨b, 0, none⟩), .pointer (some ⟨c, 0, none⟩)] (.panicking ({ v := .iface u x, recovered := false } :: older)) w fun e u' w' =>
      e = .returned (.tuple #[]) ∧ u' = caughtBy (.iface u x) older ∧ (w.setCell ⟨b, 0, none⟩ (.int .i64 3)).setCell ⟨c, 0, none⟩ (.int .i64 9) = w' := by
  refine callsD_of_wpS Try.func69 rfl fun c₀ cs hu => ?_
  apply wpS_seq
  refine wpS_recover rfl rfl ?_
  have hrec : recoverD (c₀ :: cs) = some (.iface u x, { c₀ with mode := .panicking ({ v := .iface u x, recovered := true } :: older) } :: cs) := by simp [recoverD, hu]
  rw [hrec]
  simp only [Exit.thenS]
  refine wpS_of_wp ?_
  simp only [Try.ntmps69, List.size_toArray, List.length_cons, List.length_nil, Nat.reduceAdd, Nat.reduceSub, Array.replicate_succ, Array.replicate_zero, List.push_toArray, List.append_toArray, List.nil_append, List.cons_append, Act.put, List.setIfInBounds_toArray, List.set_cons_zero, List.set_cons_succ]
  clear hu hrec
  go_wp2
  exact ⟨rfl, _, rfl, _, results_none rfl _ _ _, rfl, rfl, rfl⟩

theorem try1_text (s : ByteArray) :
    CallsD Try.prog 69 #[.pointer (some ⟨b, 0, none⟩), .pointer (some ⟨c, 0, none⟩)] (.panicking ({ v := .iface 9 (.string s), recovered := false } :: older)) w fun e u' w' =>
      e = .returned (.tuple #[]) ∧ u' = caughtBy (.iface 9 (.string s)) older ∧ (w.setCell ⟨b, 0, none⟩ (.int .i64 4)).setCell ⟨c, 0, none⟩ (.int .i64 9) = w' := by
  have h1 := fun (x : Value) (W : World) => no_rt 9 (by kernel_rfl) x W
  have h2 := fun (x : Value) (W : World) => no_err 9 (by kernel_rfl) x W
  refine callsD_of_wpS Try.func69 rfl fun c₀ cs hu => ?_
  apply wpS_seq
  refine wpS_recover rfl rfl ?_
  have hrec : recoverD (c₀ :: cs) = some (.iface 9 (.string s), { c₀ with mode := .panicking ({ v := .iface 9 (.string s), recovered := true } :: older) } :: cs) := by simp [recoverD, hu]
  rw [hrec]
  simp only [Exit.thenS]
  refine wpS_of_wp ?_
  simp only [Try.ntmps69, List.size_toArray, List.length_cons, List.length_nil, Nat.reduceAdd, Nat.reduceSub, Array.replicate_succ, Array.replicate_zero, List.push_toArray, List.append_toArray, List.nil_append, List.cons_append, Act.put, List.setIfInBounds_toArray, List.set_cons_zero, List.set_cons_succ]
  clear hu hrec
  go_wp2
  exact ⟨rfl, _, rfl, _, results_none rfl _ _ _, rfl, rfl, rfl⟩

theorem try1_other (u : TypeId) (x : Value) (hu22 : u ≠ 22) (hu9 : u ≠ 9) (h1 : ∀ W : World, (Instr.typeAssert (.iface u x) 20 127 true).run Try.prog W = .ok (.tuple #[.nilIface, .bool false]) W)
    (h2 : ∀ W : World, (Instr.typeAssert (.iface u x) 20 129 true).run Try.prog W = .ok (.tuple #[.nilIface, .bool false]) W) :
    CallsD Try.prog 69 #[.pointer (some ⟨b, 0, none⟩), .pointer (some ⟨c, 0, none⟩)] (.panicking ({ v := .iface u x, recovered := false } :: older)) w fun e u' w' =>
      e = .returned (.tuple #[]) ∧ u' = caughtBy (.iface u x) older ∧ (w.setCell ⟨b, 0, none⟩ (.int .i64 5)).setCell ⟨c, 0, none⟩ (.int .i64 9) = w' := by
  refine callsD_of_wpS Try.func69 rfl fun c₀ cs hu => ?_
  apply wpS_seq
  refine wpS_recover rfl rfl ?_
  have hrec : recoverD (c₀ :: cs) = some (.iface u x, { c₀ with mode := .panicking ({ v := .iface u x, recovered := true } :: older) } :: cs) := by simp [recoverD, hu]
  rw [hrec]
  simp only [Exit.thenS]
  refine wpS_of_wp ?_
  simp only [Try.ntmps69, List.size_toArray, List.length_cons, List.length_nil, Nat.reduceAdd, Nat.reduceSub, Array.replicate_succ, Array.replicate_zero, List.push_toArray, List.append_toArray, List.nil_append, List.cons_append, Act.put, List.setIfInBounds_toArray, List.set_cons_zero, List.set_cons_succ]
  clear hu hrec
  go_wp2
  exact ⟨rfl, _, rfl, _, results_none rfl _ _ _, rfl, rfl, rfl⟩
end

/-- What a panic's value is told as. -/
inductive PanicIs : Value → Int → Int → Prop
  | rt (u : TypeId) (x : Value) (h : lacksRT u = some true) : PanicIs (.iface u x) 1 9
  | errno (n : Int) : PanicIs (.iface 22 (.int .i64 n)) 2 n
  | error (u : TypeId) (x : Value) (hu : u ≠ 22) (h : lacksRT u = some false) (h2 : lacksErr u = some true) : PanicIs (.iface u x) 3 9
  | text (s : ByteArray) : PanicIs (.iface 9 (.string s)) 4 9
  | other (u : TypeId) (x : Value) (hu : u ≠ 22) (hs : u ≠ 9) (h : lacksRT u = some false) (h2 : lacksErr u = some false) : PanicIs (.iface u x) 5 9
theorem PanicIs.pos {v : Value} {k n : Int} (h : PanicIs v k n) : 1 ≤ k ∧ k ≤ 5 := by cases h <;> omega
theorem PanicIs.iface {v : Value} {k n : Int} (h : PanicIs v k n) : ∃ u x, v = .iface u x := by cases h <;> exact ⟨_, _, rfl⟩

theorem try1_panic {v : Value} {k n : Int} (hv : PanicIs v k n) (b c : Nat) (hbc : ¬ b = c) (w : World) (x0 y0 : Value) (hb : w.cell? ⟨b, 0, none⟩ = some x0) (hfb : w.frozen? ⟨b, 0, none⟩ = false) (hc : w.cell? ⟨c, 0, none⟩ = some y0) (hfc : w.frozen? ⟨c, 0, none⟩ = false) (older : List PanicEntry) :
    CallsD Try.prog 69 #[.pointer (some ⟨b, 0, none⟩), .pointer (some ⟨c, 0, none⟩)] (.panicking ({ v, recovered := false } :: older)) w fun e u' w' =>
      e = .returned (.tuple #[]) ∧ u' = caughtBy v older ∧ (w.setCell ⟨b, 0, none⟩ (.int .i64 k)).setCell ⟨c, 0, none⟩ (.int .i64 n) = w' := by
  cases hv with
  | rt u x h => exact try1_rt b c hbc w x0 y0 hb hfb hc hfc older u x (is_rt u h x)
  | errno n => exact try1_errno b c hbc w x0 y0 hb hfb hc hfc older n
  | error u x hu h h2 => exact try1_error b c hbc w x0 y0 hb hfb hc hfc older u x hu (no_rt u h x) (is_err u h2 x)
  | text s => exact try1_text b c hbc w x0 y0 hb hfb hc hfc older s
  | other u x hu hs h h2 => exact try1_other b c hbc w x0 y0 hb hfb hc hfc older u x hu hs (no_rt u h x) (no_err u h2 x)

/-- The world in which the function that is tried is called: two variables for the results. -/
def tryW (w : World) : World := (w.alloc (.cells #[.int .i64 0] 3)).alloc (.cells #[.int .i64 0] 22)
def TryKeeps (w w' : World) : Prop := w'.heap[w.heap.size]? = some (.cells #[.int .i64 0] 3 (0, 0)) ∧ w'.heap[w.heap.size + 1]? = some (.cells #[.int .i64 0] 22 (0, 0))

@[go_sem] theorem eql_fn_nil (fn : Fn) (first caps : Array Value) (W : World) : (binOp .eql 1 (.func fn first caps) .nilFunc).run Try.prog W = .ok (.bool false) W := by kernel_rfl
@[go_sem] theorem eql_nil_fn (W : World) : (binOp .eql 1 .nilFunc .nilFunc).run Try.prog W = .ok (.bool true) W := by kernel_rfl
theorem tryKept {w w' : World} (h : TryKeeps w w') : w'.cell? ⟨w.heap.size, 0, none⟩ = some (.int .i64 0) ∧ w'.cell? ⟨w.heap.size + 1, 0, none⟩ = some (.int .i64 0) ∧ w'.frozen? ⟨w.heap.size, 0, none⟩ = false ∧ w'.frozen? ⟨w.heap.size + 1, 0, none⟩ = false :=
  ⟨by simp [World.cell?, h.1], by simp [World.cell?, h.2], by simp [World.frozen?, h.1], by simp [World.frozen?, h.2]⟩
/-- Behind Try: the two results' variables are written, nothing else. -/
def tried (w w' : World) (k n : Int) : World := (w'.setCell ⟨w.heap.size, 0, none⟩ (.int .i64 k)).setCell ⟨w.heap.size + 1, 0, none⟩ (.int .i64 n)

set_option maxRecDepth 100000 in
theorem try_ret (F : FuncId) (caps : Array Value) (w : World) (R : World → Prop) (hF : ∀ (args : Array Value) (W : World), (callFunc F args).run Try.prog W = .ok (.enter F args) W) (hcall : Calls Try.prog F caps (tryW w) fun e w' => (∃ v, e = .returned v) ∧ TryKeeps w w' ∧ R w') :
    Calls Try.prog 14 #[.func (.func F) #[] caps] w fun e w'' => e = .returned (.tuple #[.int .i64 0, .int .i64 0]) ∧ ∃ w', R w' ∧ TryKeeps w w' ∧ w'' = tried w w' 0 0 := by
  have hmf : ∀ (fn : Fn) (first cap : Array Value) (w : World), (Instr.makeFunc fn first cap).run Try.prog w = .ok (.func fn first cap) w := fun _ _ _ _ => rfl
  have hcH := Lib.hid hcall
  clear hcall
  go_enter_defers Try.func14, Try.ntmps14
  go_wp2_with fail
  refine hcH.out.mono ?_
  rintro e w' ⟨⟨v, rfl⟩, hk, hR⟩
  obtain ⟨k1, k2, f1, f2⟩ := tryKept hk
  have hkH := Lib.hid hk
  have hRH := Lib.hid hR
  clear hk hR
  go_wp2
  refine leaves_cons (f := 69) (args := #[.pointer (some ⟨w.heap.size, 0, none⟩), .pointer (some ⟨w.heap.size + 1, 0, none⟩)]) (by simp) (by simp [go_sem]) ?_
  refine (try1_idle _ _ _).mono ?_
  rintro e u' w'' ⟨rfl, rfl, rfl⟩
  refine ⟨.tuple #[.int .i64 0, .int .i64 0], ?_, rfl, w', hRH.out, hkH.out, rfl⟩
  simp [results, Try.results14, go_sem, k1, k2, f1, f2]
set_option maxRecDepth 100000 in
theorem try_panic (F : FuncId) (caps : Array Value) (w : World) (R : World → Prop) (k n : Int) (hF : ∀ (args : Array Value) (W : World), (callFunc F args).run Try.prog W = .ok (.enter F args) W) (hcall : Calls Try.prog F caps (tryW w) fun e w' => (∃ v, e = .panicked [{ v, recovered := false }] ∧ PanicIs v k n) ∧ TryKeeps w w' ∧ R w') :
    Calls Try.prog 14 #[.func (.func F) #[] caps] w fun e w'' => e = .returned (.tuple #[.int .i64 k, .int .i64 n]) ∧ ∃ w', R w' ∧ TryKeeps w w' ∧ w'' = tried w w' k n := by
  have hmf : ∀ (fn : Fn) (first cap : Array Value) (w : World), (Instr.makeFunc fn first cap).run Try.prog w = .ok (.func fn first cap) w := fun _ _ _ _ => rfl
  have hcH := Lib.hid hcall
  clear hcall
  go_enter_defers Try.func14, Try.ntmps14
  go_wp2_with fail
  refine hcH.out.mono ?_
  rintro e w' ⟨⟨v, rfl, hv⟩, hk, hR⟩
  obtain ⟨k1, k2, f1, f2⟩ := tryKept hk
  have hkH := Lib.hid hk
  have hRH := Lib.hid hR
  clear hk hR
  refine leaves_cons (f := 69) (args := #[.pointer (some ⟨w.heap.size, 0, none⟩), .pointer (some ⟨w.heap.size + 1, 0, none⟩)]) (by simp) (by simp [go_sem]) ?_
  refine (try1_panic hv _ _ (by omega) _ _ _ k1 f1 k2 f2 _).mono ?_
  rintro e u' w'' ⟨rfl, rfl, rfl⟩
  refine ⟨.tuple #[.int .i64 k, .int .i64 n], ?_, rfl, w', hRH.out, hkH.out, rfl⟩
  simp [results, Try.results14, go_sem, k1, k2, f1, f2]
end Go.Proofs.Ytpcbdjfonmohaaa
