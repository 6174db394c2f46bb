/- tenonmake's objects: what their dynamic types have. -/
import Derived.Test.YtpcbdjfonmohaaaCore
namespace Go.Proofs.Ytpcbdjfonmohaaa
open Go.RowKit
set_option linter.unusedVariables false
set_option linter.unusedSimpArgs false
/-- All blocks but one stand. -/
def SameBut (B cb : Nat) (w W : World) : Prop := ∀ b, B ≤ b → b < w.heap.size → ¬ b = cb → W.heap[b]? = w.heap[b]?
/-- An object has an ability, and its methods get the core. -/
def Able (it : TypeId) (ms : List (String × FuncId)) (o : Value) (B cb : Nat) (w : World) : Prop := ∃ T v, o = .iface T v ∧ T ≠ 92 ∧ (∀ W, (Instr.typeAssert (.iface T v) 74 it true).run Try.prog W = .ok (.tuple #[.iface T v, .bool true]) W) ∧
  ∀ m ∈ ms, ∀ W, SameBut B cb w W → ∀ n, (method (n + 1) T v m.1).run Try.prog W = .ok (m.2, .agg #[.pointer (some ⟨cb, 0, none⟩)]) W
def ownedMs : List (String × FuncId) := [("Owner", 179), ("Give", 178)]
def lazyMs : List (String × FuncId) := [("Loaded", 181), ("Load", 180)]
theorem Able.move {it : TypeId} {ms : List (String × FuncId)} {o : Value} {B cb : Nat} {w W : World} (h : Able it ms o B cb w) (hs : SameBut B cb w W) (hz : w.heap.size ≤ W.heap.size) : Able it ms o B cb W := by
  obtain ⟨T, v, h1, h2, h3, h4⟩ := h
  exact ⟨T, v, h1, h2, h3, fun m hm W' hW n => h4 m hm W' (fun b h5 h6 h7 => (hW b h5 (Nat.lt_of_lt_of_le h6 hz) h7).trans (hs b h5 h6 h7)) n⟩
theorem loads_pair {w : World} {a : Addr} {v : Value} {f : FuncId} (h : w.cell? a = some v) : (do pure (f, Value.agg (← loadCells a 1)) : Sem (FuncId × Value)).run Try.prog w = .ok (f, .agg #[v]) w := by
  simp [loadCells, go_sem, h]

theorem owned_value_4 (B cb : Nat) (w : World) : Able 148 ownedMs (.iface 260 (.agg #[.pointer (some ⟨cb, 0, none⟩), .pointer (some ⟨cb, 0, none⟩)])) B cb w :=
  ⟨_, _, rfl, by decide, fun W => run_typeAssert_hasB Try.underlying148 (by kernel_rfl) _ _ W, by
    unfold ownedMs
    simp only [List.forall_mem_cons, List.not_mem_nil, false_implies, implies_true, and_true]
    exact ⟨fun W _ n => by kernel_rfl, fun W _ n => by kernel_rfl⟩⟩
theorem owned_pointer_4 (B cb pb : Nat) (w : World) (h : w.heap[pb]? = some (.cells #[.pointer (some ⟨cb, 0, none⟩), .pointer (some ⟨cb, 0, none⟩)] 260 (0, 0))) (hne : ¬ pb = cb) (hB : B ≤ pb) : Able 148 ownedMs (.iface 239 (.pointer (some ⟨pb, 0, none⟩))) B cb w :=
  ⟨_, _, rfl, by decide, fun W => run_typeAssert_hasB Try.underlying148 (by kernel_rfl) _ _ W, by
    have hc : ∀ W, SameBut B cb w W → W.cell? ⟨pb, 1, none⟩ = some (.pointer (some ⟨cb, 0, none⟩)) := fun W hW => by
      have h2 := (hW pb hB (Array.getElem?_eq_some_iff.1 h).1 hne).trans h
      simp [World.cell?, h2]
    unfold ownedMs
    simp only [List.forall_mem_cons, List.not_mem_nil, false_implies, implies_true, and_true]
    refine ⟨fun W hW n => ?_, fun W hW n => ?_⟩
    · exact (show _ = _ from (show (method (n + 1) 239 (.pointer (some ⟨pb, 0, none⟩)) "Owner").run Try.prog W = (do pure (179, Value.agg (← loadCells ⟨pb, 1, none⟩ 1)) : Sem (FuncId × Value)).run Try.prog W from by kernel_rfl)).trans (loads_pair (hc W hW))
    · exact (show _ = _ from (show (method (n + 1) 239 (.pointer (some ⟨pb, 0, none⟩)) "Give").run Try.prog W = (do pure (178, Value.agg (← loadCells ⟨pb, 1, none⟩ 1)) : Sem (FuncId × Value)).run Try.prog W from by kernel_rfl)).trans (loads_pair (hc W hW))⟩
theorem owned_value_5 (B cb : Nat) (w : World) : Able 148 ownedMs (.iface 262 (.agg #[.pointer (some ⟨cb, 0, none⟩), .pointer (some ⟨cb, 0, none⟩), .pointer (some ⟨cb, 0, none⟩)])) B cb w :=
  ⟨_, _, rfl, by decide, fun W => run_typeAssert_hasB Try.underlying148 (by kernel_rfl) _ _ W, by
    unfold ownedMs
    simp only [List.forall_mem_cons, List.not_mem_nil, false_implies, implies_true, and_true]
    exact ⟨fun W _ n => by kernel_rfl, fun W _ n => by kernel_rfl⟩⟩
theorem owned_pointer_5 (B cb pb : Nat) (w : World) (h : w.heap[pb]? = some (.cells #[.pointer (some ⟨cb, 0, none⟩), .pointer (some ⟨cb, 0, none⟩), .pointer (some ⟨cb, 0, none⟩)] 262 (0, 0))) (hne : ¬ pb = cb) (hB : B ≤ pb) : Able 148 ownedMs (.iface 240 (.pointer (some ⟨pb, 0, none⟩))) B cb w :=
  ⟨_, _, rfl, by decide, fun W => run_typeAssert_hasB Try.underlying148 (by kernel_rfl) _ _ W, by
    have hc : ∀ W, SameBut B cb w W → W.cell? ⟨pb, 2, none⟩ = some (.pointer (some ⟨cb, 0, none⟩)) := fun W hW => by
      have h2 := (hW pb hB (Array.getElem?_eq_some_iff.1 h).1 hne).trans h
      simp [World.cell?, h2]
    unfold ownedMs
    simp only [List.forall_mem_cons, List.not_mem_nil, false_implies, implies_true, and_true]
    refine ⟨fun W hW n => ?_, fun W hW n => ?_⟩
    · exact (show _ = _ from (show (method (n + 1) 240 (.pointer (some ⟨pb, 0, none⟩)) "Owner").run Try.prog W = (do pure (179, Value.agg (← loadCells ⟨pb, 2, none⟩ 1)) : Sem (FuncId × Value)).run Try.prog W from by kernel_rfl)).trans (loads_pair (hc W hW))
    · exact (show _ = _ from (show (method (n + 1) 240 (.pointer (some ⟨pb, 0, none⟩)) "Give").run Try.prog W = (do pure (178, Value.agg (← loadCells ⟨pb, 2, none⟩ 1)) : Sem (FuncId × Value)).run Try.prog W from by kernel_rfl)).trans (loads_pair (hc W hW))⟩
theorem owned_value_6 (B cb : Nat) (w : World) : Able 148 ownedMs (.iface 264 (.agg #[.pointer (some ⟨cb, 0, none⟩), .pointer (some ⟨cb, 0, none⟩), .pointer (some ⟨cb, 0, none⟩)])) B cb w :=
  ⟨_, _, rfl, by decide, fun W => run_typeAssert_hasB Try.underlying148 (by kernel_rfl) _ _ W, by
    unfold ownedMs
    simp only [List.forall_mem_cons, List.not_mem_nil, false_implies, implies_true, and_true]
    exact ⟨fun W _ n => by kernel_rfl, fun W _ n => by kernel_rfl⟩⟩
theorem owned_pointer_6 (B cb pb : Nat) (w : World) (h : w.heap[pb]? = some (.cells #[.pointer (some ⟨cb, 0, none⟩), .pointer (some ⟨cb, 0, none⟩), .pointer (some ⟨cb, 0, none⟩)] 264 (0, 0))) (hne : ¬ pb = cb) (hB : B ≤ pb) : Able 148 ownedMs (.iface 241 (.pointer (some ⟨pb, 0, none⟩))) B cb w :=
  ⟨_, _, rfl, by decide, fun W => run_typeAssert_hasB Try.underlying148 (by kernel_rfl) _ _ W, by
    have hc : ∀ W, SameBut B cb w W → W.cell? ⟨pb, 2, none⟩ = some (.pointer (some ⟨cb, 0, none⟩)) := fun W hW => by
      have h2 := (hW pb hB (Array.getElem?_eq_some_iff.1 h).1 hne).trans h
      simp [World.cell?, h2]
    unfold ownedMs
    simp only [List.forall_mem_cons, List.not_mem_nil, false_implies, implies_true, and_true]
    refine ⟨fun W hW n => ?_, fun W hW n => ?_⟩
    · exact (show _ = _ from (show (method (n + 1) 241 (.pointer (some ⟨pb, 0, none⟩)) "Owner").run Try.prog W = (do pure (179, Value.agg (← loadCells ⟨pb, 2, none⟩ 1)) : Sem (FuncId × Value)).run Try.prog W from by kernel_rfl)).trans (loads_pair (hc W hW))
    · exact (show _ = _ from (show (method (n + 1) 241 (.pointer (some ⟨pb, 0, none⟩)) "Give").run Try.prog W = (do pure (178, Value.agg (← loadCells ⟨pb, 2, none⟩ 1)) : Sem (FuncId × Value)).run Try.prog W from by kernel_rfl)).trans (loads_pair (hc W hW))⟩
theorem owned_value_7 (B cb : Nat) (w : World) : Able 148 ownedMs (.iface 266 (.agg #[.pointer (some ⟨cb, 0, none⟩), .pointer (some ⟨cb, 0, none⟩), .pointer (some ⟨cb, 0, none⟩), .pointer (some ⟨cb, 0, none⟩)])) B cb w :=
  ⟨_, _, rfl, by decide, fun W => run_typeAssert_hasB Try.underlying148 (by kernel_rfl) _ _ W, by
    unfold ownedMs
    simp only [List.forall_mem_cons, List.not_mem_nil, false_implies, implies_true, and_true]
    exact ⟨fun W _ n => by kernel_rfl, fun W _ n => by kernel_rfl⟩⟩
theorem owned_pointer_7 (B cb pb : Nat) (w : World) (h : w.heap[pb]? = some (.cells #[.pointer (some ⟨cb, 0, none⟩), .pointer (some ⟨cb, 0, none⟩), .pointer (some ⟨cb, 0, none⟩), .pointer (some ⟨cb, 0, none⟩)] 266 (0, 0))) (hne : ¬ pb = cb) (hB : B ≤ pb) : Able 148 ownedMs (.iface 242 (.pointer (some ⟨pb, 0, none⟩))) B cb w :=
  ⟨_, _, rfl, by decide, fun W => run_typeAssert_hasB Try.underlying148 (by kernel_rfl) _ _ W, by
    have hc : ∀ W, SameBut B cb w W → W.cell? ⟨pb, 3, none⟩ = some (.pointer (some ⟨cb, 0, none⟩)) := fun W hW => by
      have h2 := (hW pb hB (Array.getElem?_eq_some_iff.1 h).1 hne).trans h
      simp [World.cell?, h2]
    unfold ownedMs
    simp only [List.forall_mem_cons, List.not_mem_nil, false_implies, implies_true, and_true]
    refine ⟨fun W hW n => ?_, fun W hW n => ?_⟩
    · exact (show _ = _ from (show (method (n + 1) 242 (.pointer (some ⟨pb, 0, none⟩)) "Owner").run Try.prog W = (do pure (179, Value.agg (← loadCells ⟨pb, 3, none⟩ 1)) : Sem (FuncId × Value)).run Try.prog W from by kernel_rfl)).trans (loads_pair (hc W hW))
    · exact (show _ = _ from (show (method (n + 1) 242 (.pointer (some ⟨pb, 0, none⟩)) "Give").run Try.prog W = (do pure (178, Value.agg (← loadCells ⟨pb, 3, none⟩ 1)) : Sem (FuncId × Value)).run Try.prog W from by kernel_rfl)).trans (loads_pair (hc W hW))⟩
theorem lazy_value_8 (B cb : Nat) (w : World) : Able 207 lazyMs (.iface 268 (.agg #[.pointer (some ⟨cb, 0, none⟩), .pointer (some ⟨cb, 0, none⟩)])) B cb w :=
  ⟨_, _, rfl, by decide, fun W => run_typeAssert_hasB Try.underlying207 (by kernel_rfl) _ _ W, by
    unfold lazyMs
    simp only [List.forall_mem_cons, List.not_mem_nil, false_implies, implies_true, and_true]
    exact ⟨fun W _ n => by kernel_rfl, fun W _ n => by kernel_rfl⟩⟩
theorem lazy_pointer_8 (B cb pb : Nat) (w : World) (h : w.heap[pb]? = some (.cells #[.pointer (some ⟨cb, 0, none⟩), .pointer (some ⟨cb, 0, none⟩)] 268 (0, 0))) (hne : ¬ pb = cb) (hB : B ≤ pb) : Able 207 lazyMs (.iface 243 (.pointer (some ⟨pb, 0, none⟩))) B cb w :=
  ⟨_, _, rfl, by decide, fun W => run_typeAssert_hasB Try.underlying207 (by kernel_rfl) _ _ W, by
    have hc : ∀ W, SameBut B cb w W → W.cell? ⟨pb, 1, none⟩ = some (.pointer (some ⟨cb, 0, none⟩)) := fun W hW => by
      have h2 := (hW pb hB (Array.getElem?_eq_some_iff.1 h).1 hne).trans h
      simp [World.cell?, h2]
    unfold lazyMs
    simp only [List.forall_mem_cons, List.not_mem_nil, false_implies, implies_true, and_true]
    refine ⟨fun W hW n => ?_, fun W hW n => ?_⟩
    · exact (show _ = _ from (show (method (n + 1) 243 (.pointer (some ⟨pb, 0, none⟩)) "Loaded").run Try.prog W = (do pure (181, Value.agg (← loadCells ⟨pb, 1, none⟩ 1)) : Sem (FuncId × Value)).run Try.prog W from by kernel_rfl)).trans (loads_pair (hc W hW))
    · exact (show _ = _ from (show (method (n + 1) 243 (.pointer (some ⟨pb, 0, none⟩)) "Load").run Try.prog W = (do pure (180, Value.agg (← loadCells ⟨pb, 1, none⟩ 1)) : Sem (FuncId × Value)).run Try.prog W from by kernel_rfl)).trans (loads_pair (hc W hW))⟩
theorem lazy_value_9 (B cb : Nat) (w : World) : Able 207 lazyMs (.iface 270 (.agg #[.pointer (some ⟨cb, 0, none⟩), .pointer (some ⟨cb, 0, none⟩), .pointer (some ⟨cb, 0, none⟩)])) B cb w :=
  ⟨_, _, rfl, by decide, fun W => run_typeAssert_hasB Try.underlying207 (by kernel_rfl) _ _ W, by
    unfold lazyMs
    simp only [List.forall_mem_cons, List.not_mem_nil, false_implies, implies_true, and_true]
    exact ⟨fun W _ n => by kernel_rfl, fun W _ n => by kernel_rfl⟩⟩
theorem lazy_pointer_9 (B cb pb : Nat) (w : World) (h : w.heap[pb]? = some (.cells #[.pointer (some ⟨cb, 0, none⟩), .pointer (some ⟨cb, 0, none⟩), .pointer (some ⟨cb, 0, none⟩)] 270 (0, 0))) (hne : ¬ pb = cb) (hB : B ≤ pb) : Able 207 lazyMs (.iface 244 (.pointer (some ⟨pb, 0, none⟩))) B cb w :=
  ⟨_, _, rfl, by decide, fun W => run_typeAssert_hasB Try.underlying207 (by kernel_rfl) _ _ W, by
    have hc : ∀ W, SameBut B cb w W → W.cell? ⟨pb, 2, none⟩ = some (.pointer (some ⟨cb, 0, none⟩)) := fun W hW => by
      have h2 := (hW pb hB (Array.getElem?_eq_some_iff.1 h).1 hne).trans h
      simp [World.cell?, h2]
    unfold lazyMs
    simp only [List.forall_mem_cons, List.not_mem_nil, false_implies, implies_true, and_true]
    refine ⟨fun W hW n => ?_, fun W hW n => ?_⟩
    · exact (show _ = _ from (show (method (n + 1) 244 (.pointer (some ⟨pb, 0, none⟩)) "Loaded").run Try.prog W = (do pure (181, Value.agg (← loadCells ⟨pb, 2, none⟩ 1)) : Sem (FuncId × Value)).run Try.prog W from by kernel_rfl)).trans (loads_pair (hc W hW))
    · exact (show _ = _ from (show (method (n + 1) 244 (.pointer (some ⟨pb, 0, none⟩)) "Load").run Try.prog W = (do pure (180, Value.agg (← loadCells ⟨pb, 2, none⟩ 1)) : Sem (FuncId × Value)).run Try.prog W from by kernel_rfl)).trans (loads_pair (hc W hW))⟩
theorem lazy_value_10 (B cb : Nat) (w : World) : Able 207 lazyMs (.iface 272 (.agg #[.pointer (some ⟨cb, 0, none⟩), .pointer (some ⟨cb, 0, none⟩), .pointer (some ⟨cb, 0, none⟩)])) B cb w :=
  ⟨_, _, rfl, by decide, fun W => run_typeAssert_hasB Try.underlying207 (by kernel_rfl) _ _ W, by
    unfold lazyMs
    simp only [List.forall_mem_cons, List.not_mem_nil, false_implies, implies_true, and_true]
    exact ⟨fun W _ n => by kernel_rfl, fun W _ n => by kernel_rfl⟩⟩
theorem lazy_pointer_10 (B cb pb : Nat) (w : World) (h : w.heap[pb]? = some (.cells #[.pointer (some ⟨cb, 0, none⟩), .pointer (some ⟨cb, 0, none⟩), .pointer (some ⟨cb, 0, none⟩)] 272 (0, 0))) (hne : ¬ pb = cb) (hB : B ≤ pb) : Able 207 lazyMs (.iface 245 (.pointer (some ⟨pb, 0, none⟩))) B cb w :=
  ⟨_, _, rfl, by decide, fun W => run_typeAssert_hasB Try.underlying207 (by kernel_rfl) _ _ W, by
    have hc : ∀ W, SameBut B cb w W → W.cell? ⟨pb, 2, none⟩ = some (.pointer (some ⟨cb, 0, none⟩)) := fun W hW => by
      have h2 := (hW pb hB (Array.getElem?_eq_some_iff.1 h).1 hne).trans h
      simp [World.cell?, h2]
    unfold lazyMs
    simp only [List.forall_mem_cons, List.not_mem_nil, false_implies, implies_true, and_true]
    refine ⟨fun W hW n => ?_, fun W hW n => ?_⟩
    · exact (show _ = _ from (show (method (n + 1) 245 (.pointer (some ⟨pb, 0, none⟩)) "Loaded").run Try.prog W = (do pure (181, Value.agg (← loadCells ⟨pb, 2, none⟩ 1)) : Sem (FuncId × Value)).run Try.prog W from by kernel_rfl)).trans (loads_pair (hc W hW))
    · exact (show _ = _ from (show (method (n + 1) 245 (.pointer (some ⟨pb, 0, none⟩)) "Load").run Try.prog W = (do pure (180, Value.agg (← loadCells ⟨pb, 2, none⟩ 1)) : Sem (FuncId × Value)).run Try.prog W from by kernel_rfl)).trans (loads_pair (hc W hW))⟩
theorem lazy_value_11 (B cb : Nat) (w : World) : Able 207 lazyMs (.iface 274 (.agg #[.pointer (some ⟨cb, 0, none⟩), .pointer (some ⟨cb, 0, none⟩), .pointer (some ⟨cb, 0, none⟩), .pointer (some ⟨cb, 0, none⟩)])) B cb w :=
  ⟨_, _, rfl, by decide, fun W => run_typeAssert_hasB Try.underlying207 (by kernel_rfl) _ _ W, by
    unfold lazyMs
    simp only [List.forall_mem_cons, List.not_mem_nil, false_implies, implies_true, and_true]
    exact ⟨fun W _ n => by kernel_rfl, fun W _ n => by kernel_rfl⟩⟩
theorem lazy_pointer_11 (B cb pb : Nat) (w : World) (h : w.heap[pb]? = some (.cells #[.pointer (some ⟨cb, 0, none⟩), .pointer (some ⟨cb, 0, none⟩), .pointer (some ⟨cb, 0, none⟩), .pointer (some ⟨cb, 0, none⟩)] 274 (0, 0))) (hne : ¬ pb = cb) (hB : B ≤ pb) : Able 207 lazyMs (.iface 246 (.pointer (some ⟨pb, 0, none⟩))) B cb w :=
  ⟨_, _, rfl, by decide, fun W => run_typeAssert_hasB Try.underlying207 (by kernel_rfl) _ _ W, by
    have hc : ∀ W, SameBut B cb w W → W.cell? ⟨pb, 3, none⟩ = some (.pointer (some ⟨cb, 0, none⟩)) := fun W hW => by
      have h2 := (hW pb hB (Array.getElem?_eq_some_iff.1 h).1 hne).trans h
      simp [World.cell?, h2]
    unfold lazyMs
    simp only [List.forall_mem_cons, List.not_mem_nil, false_implies, implies_true, and_true]
    refine ⟨fun W hW n => ?_, fun W hW n => ?_⟩
    · exact (show _ = _ from (show (method (n + 1) 246 (.pointer (some ⟨pb, 0, none⟩)) "Loaded").run Try.prog W = (do pure (181, Value.agg (← loadCells ⟨pb, 3, none⟩ 1)) : Sem (FuncId × Value)).run Try.prog W from by kernel_rfl)).trans (loads_pair (hc W hW))
    · exact (show _ = _ from (show (method (n + 1) 246 (.pointer (some ⟨pb, 0, none⟩)) "Load").run Try.prog W = (do pure (180, Value.agg (← loadCells ⟨pb, 3, none⟩ 1)) : Sem (FuncId × Value)).run Try.prog W from by kernel_rfl)).trans (loads_pair (hc W hW))⟩
theorem owned_value_12 (B cb : Nat) (w : World) : Able 148 ownedMs (.iface 276 (.agg #[.pointer (some ⟨cb, 0, none⟩), .pointer (some ⟨cb, 0, none⟩), .pointer (some ⟨cb, 0, none⟩)])) B cb w :=
  ⟨_, _, rfl, by decide, fun W => run_typeAssert_hasB Try.underlying148 (by kernel_rfl) _ _ W, by
    unfold ownedMs
    simp only [List.forall_mem_cons, List.not_mem_nil, false_implies, implies_true, and_true]
    exact ⟨fun W _ n => by kernel_rfl, fun W _ n => by kernel_rfl⟩⟩
theorem owned_pointer_12 (B cb pb : Nat) (w : World) (h : w.heap[pb]? = some (.cells #[.pointer (some ⟨cb, 0, none⟩), .pointer (some ⟨cb, 0, none⟩), .pointer (some ⟨cb, 0, none⟩)] 276 (0, 0))) (hne : ¬ pb = cb) (hB : B ≤ pb) : Able 148 ownedMs (.iface 247 (.pointer (some ⟨pb, 0, none⟩))) B cb w :=
  ⟨_, _, rfl, by decide, fun W => run_typeAssert_hasB Try.underlying148 (by kernel_rfl) _ _ W, by
    have hc : ∀ W, SameBut B cb w W → W.cell? ⟨pb, 1, none⟩ = some (.pointer (some ⟨cb, 0, none⟩)) := fun W hW => by
      have h2 := (hW pb hB (Array.getElem?_eq_some_iff.1 h).1 hne).trans h
      simp [World.cell?, h2]
    unfold ownedMs
    simp only [List.forall_mem_cons, List.not_mem_nil, false_implies, implies_true, and_true]
    refine ⟨fun W hW n => ?_, fun W hW n => ?_⟩
    · exact (show _ = _ from (show (method (n + 1) 247 (.pointer (some ⟨pb, 0, none⟩)) "Owner").run Try.prog W = (do pure (179, Value.agg (← loadCells ⟨pb, 1, none⟩ 1)) : Sem (FuncId × Value)).run Try.prog W from by kernel_rfl)).trans (loads_pair (hc W hW))
    · exact (show _ = _ from (show (method (n + 1) 247 (.pointer (some ⟨pb, 0, none⟩)) "Give").run Try.prog W = (do pure (178, Value.agg (← loadCells ⟨pb, 1, none⟩ 1)) : Sem (FuncId × Value)).run Try.prog W from by kernel_rfl)).trans (loads_pair (hc W hW))⟩
theorem lazy_value_12 (B cb : Nat) (w : World) : Able 207 lazyMs (.iface 276 (.agg #[.pointer (some ⟨cb, 0, none⟩), .pointer (some ⟨cb, 0, none⟩), .pointer (some ⟨cb, 0, none⟩)])) B cb w :=
  ⟨_, _, rfl, by decide, fun W => run_typeAssert_hasB Try.underlying207 (by kernel_rfl) _ _ W, by
    unfold lazyMs
    simp only [List.forall_mem_cons, List.not_mem_nil, false_implies, implies_true, and_true]
    exact ⟨fun W _ n => by kernel_rfl, fun W _ n => by kernel_rfl⟩⟩
theorem lazy_pointer_12 (B cb pb : Nat) (w : World) (h : w.heap[pb]? = some (.cells #[.pointer (some ⟨cb, 0, none⟩), .pointer (some ⟨cb, 0, none⟩), .pointer (some ⟨cb, 0, none⟩)] 276 (0, 0))) (hne : ¬ pb = cb) (hB : B ≤ pb) : Able 207 lazyMs (.iface 247 (.pointer (some ⟨pb, 0, none⟩))) B cb w :=
  ⟨_, _, rfl, by decide, fun W => run_typeAssert_hasB Try.underlying207 (by kernel_rfl) _ _ W, by
    have hc : ∀ W, SameBut B cb w W → W.cell? ⟨pb, 2, none⟩ = some (.pointer (some ⟨cb, 0, none⟩)) := fun W hW => by
      have h2 := (hW pb hB (Array.getElem?_eq_some_iff.1 h).1 hne).trans h
      simp [World.cell?, h2]
    unfold lazyMs
    simp only [List.forall_mem_cons, List.not_mem_nil, false_implies, implies_true, and_true]
    refine ⟨fun W hW n => ?_, fun W hW n => ?_⟩
    · exact (show _ = _ from (show (method (n + 1) 247 (.pointer (some ⟨pb, 0, none⟩)) "Loaded").run Try.prog W = (do pure (181, Value.agg (← loadCells ⟨pb, 2, none⟩ 1)) : Sem (FuncId × Value)).run Try.prog W from by kernel_rfl)).trans (loads_pair (hc W hW))
    · exact (show _ = _ from (show (method (n + 1) 247 (.pointer (some ⟨pb, 0, none⟩)) "Load").run Try.prog W = (do pure (180, Value.agg (← loadCells ⟨pb, 2, none⟩ 1)) : Sem (FuncId × Value)).run Try.prog W from by kernel_rfl)).trans (loads_pair (hc W hW))⟩
theorem owned_value_13 (B cb : Nat) (w : World) : Able 148 ownedMs (.iface 278 (.agg #[.pointer (some ⟨cb, 0, none⟩), .pointer (some ⟨cb, 0, none⟩), .pointer (some ⟨cb, 0, none⟩), .pointer (some ⟨cb, 0, none⟩)])) B cb w :=
  ⟨_, _, rfl, by decide, fun W => run_typeAssert_hasB Try.underlying148 (by kernel_rfl) _ _ W, by
    unfold ownedMs
    simp only [List.forall_mem_cons, List.not_mem_nil, false_implies, implies_true, and_true]
    exact ⟨fun W _ n => by kernel_rfl, fun W _ n => by kernel_rfl⟩⟩
theorem owned_pointer_13 (B cb pb : Nat) (w : World) (h : w.heap[pb]? = some (.cells #[.pointer (some ⟨cb, 0, none⟩), .pointer (some ⟨cb, 0, none⟩), .pointer (some ⟨cb, 0, none⟩), .pointer (some ⟨cb, 0, none⟩)] 278 (0, 0))) (hne : ¬ pb = cb) (hB : B ≤ pb) : Able 148 ownedMs (.iface 248 (.pointer (some ⟨pb, 0, none⟩))) B cb w :=
  ⟨_, _, rfl, by decide, fun W => run_typeAssert_hasB Try.underlying148 (by kernel_rfl) _ _ W, by
    have hc : ∀ W, SameBut B cb w W → W.cell? ⟨pb, 2, none⟩ = some (.pointer (some ⟨cb, 0, none⟩)) := fun W hW => by
      have h2 := (hW pb hB (Array.getElem?_eq_some_iff.1 h).1 hne).trans h
      simp [World.cell?, h2]
    unfold ownedMs
    simp only [List.forall_mem_cons, List.not_mem_nil, false_implies, implies_true, and_true]
    refine ⟨fun W hW n => ?_, fun W hW n => ?_⟩
    · exact (show _ = _ from (show (method (n + 1) 248 (.pointer (some ⟨pb, 0, none⟩)) "Owner").run Try.prog W = (do pure (179, Value.agg (← loadCells ⟨pb, 2, none⟩ 1)) : Sem (FuncId × Value)).run Try.prog W from by kernel_rfl)).trans (loads_pair (hc W hW))
    · exact (show _ = _ from (show (method (n + 1) 248 (.pointer (some ⟨pb, 0, none⟩)) "Give").run Try.prog W = (do pure (178, Value.agg (← loadCells ⟨pb, 2, none⟩ 1)) : Sem (FuncId × Value)).run Try.prog W from by kernel_rfl)).trans (loads_pair (hc W hW))⟩
theorem lazy_value_13 (B cb : Nat) (w : World) : Able 207 lazyMs (.iface 278 (.agg #[.pointer (some ⟨cb, 0, none⟩), .pointer (some ⟨cb, 0, none⟩), .pointer (some ⟨cb, 0, none⟩), .pointer (some ⟨cb, 0, none⟩)])) B cb w :=
  ⟨_, _, rfl, by decide, fun W => run_typeAssert_hasB Try.underlying207 (by kernel_rfl) _ _ W, by
    unfold lazyMs
    simp only [List.forall_mem_cons, List.not_mem_nil, false_implies, implies_true, and_true]
    exact ⟨fun W _ n => by kernel_rfl, fun W _ n => by kernel_rfl⟩⟩
theorem lazy_pointer_13 (B cb pb : Nat) (w : World) (h : w.heap[pb]? = some (.cells #[.pointer (some ⟨cb, 0, none⟩), .pointer (some ⟨cb, 0, none⟩), .pointer (some ⟨cb, 0, none⟩), .pointer (some ⟨cb, 0, none⟩)] 278 (0, 0))) (hne : ¬ pb = cb) (hB : B ≤ pb) : Able 207 lazyMs (.iface 248 (.pointer (some ⟨pb, 0, none⟩))) B cb w :=
  ⟨_, _, rfl, by decide, fun W => run_typeAssert_hasB Try.underlying207 (by kernel_rfl) _ _ W, by
    have hc : ∀ W, SameBut B cb w W → W.cell? ⟨pb, 3, none⟩ = some (.pointer (some ⟨cb, 0, none⟩)) := fun W hW => by
      have h2 := (hW pb hB (Array.getElem?_eq_some_iff.1 h).1 hne).trans h
      simp [World.cell?, h2]
    unfold lazyMs
    simp only [List.forall_mem_cons, List.not_mem_nil, false_implies, implies_true, and_true]
    refine ⟨fun W hW n => ?_, fun W hW n => ?_⟩
    · exact (show _ = _ from (show (method (n + 1) 248 (.pointer (some ⟨pb, 0, none⟩)) "Loaded").run Try.prog W = (do pure (181, Value.agg (← loadCells ⟨pb, 3, none⟩ 1)) : Sem (FuncId × Value)).run Try.prog W from by kernel_rfl)).trans (loads_pair (hc W hW))
    · exact (show _ = _ from (show (method (n + 1) 248 (.pointer (some ⟨pb, 0, none⟩)) "Load").run Try.prog W = (do pure (180, Value.agg (← loadCells ⟨pb, 3, none⟩ 1)) : Sem (FuncId × Value)).run Try.prog W from by kernel_rfl)).trans (loads_pair (hc W hW))⟩
theorem owned_value_14 (B cb : Nat) (w : World) : Able 148 ownedMs (.iface 280 (.agg #[.pointer (some ⟨cb, 0, none⟩), .pointer (some ⟨cb, 0, none⟩), .pointer (some ⟨cb, 0, none⟩), .pointer (some ⟨cb, 0, none⟩)])) B cb w :=
  ⟨_, _, rfl, by decide, fun W => run_typeAssert_hasB Try.underlying148 (by kernel_rfl) _ _ W, by
    unfold ownedMs
    simp only [List.forall_mem_cons, List.not_mem_nil, false_implies, implies_true, and_true]
    exact ⟨fun W _ n => by kernel_rfl, fun W _ n => by kernel_rfl⟩⟩
theorem owned_pointer_14 (B cb pb : Nat) (w : World) (h : w.heap[pb]? = some (.cells #[.pointer (some ⟨cb, 0, none⟩), .pointer (some ⟨cb, 0, none⟩), .pointer (some ⟨cb, 0, none⟩), .pointer (some ⟨cb, 0, none⟩)] 280 (0, 0))) (hne : ¬ pb = cb) (hB : B ≤ pb) : Able 148 ownedMs (.iface 249 (.pointer (some ⟨pb, 0, none⟩))) B cb w :=
  ⟨_, _, rfl, by decide, fun W => run_typeAssert_hasB Try.underlying148 (by kernel_rfl) _ _ W, by
    have hc : ∀ W, SameBut B cb w W → W.cell? ⟨pb, 2, none⟩ = some (.pointer (some ⟨cb, 0, none⟩)) := fun W hW => by
      have h2 := (hW pb hB (Array.getElem?_eq_some_iff.1 h).1 hne).trans h
      simp [World.cell?, h2]
    unfold ownedMs
    simp only [List.forall_mem_cons, List.not_mem_nil, false_implies, implies_true, and_true]
    refine ⟨fun W hW n => ?_, fun W hW n => ?_⟩
    · exact (show _ = _ from (show (method (n + 1) 249 (.pointer (some ⟨pb, 0, none⟩)) "Owner").run Try.prog W = (do pure (179, Value.agg (← loadCells ⟨pb, 2, none⟩ 1)) : Sem (FuncId × Value)).run Try.prog W from by kernel_rfl)).trans (loads_pair (hc W hW))
    · exact (show _ = _ from (show (method (n + 1) 249 (.pointer (some ⟨pb, 0, none⟩)) "Give").run Try.prog W = (do pure (178, Value.agg (← loadCells ⟨pb, 2, none⟩ 1)) : Sem (FuncId × Value)).run Try.prog W from by kernel_rfl)).trans (loads_pair (hc W hW))⟩
theorem lazy_value_14 (B cb : Nat) (w : World) : Able 207 lazyMs (.iface 280 (.agg #[.pointer (some ⟨cb, 0, none⟩), .pointer (some ⟨cb, 0, none⟩), .pointer (some ⟨cb, 0, none⟩), .pointer (some ⟨cb, 0, none⟩)])) B cb w :=
  ⟨_, _, rfl, by decide, fun W => run_typeAssert_hasB Try.underlying207 (by kernel_rfl) _ _ W, by
    unfold lazyMs
    simp only [List.forall_mem_cons, List.not_mem_nil, false_implies, implies_true, and_true]
    exact ⟨fun W _ n => by kernel_rfl, fun W _ n => by kernel_rfl⟩⟩
theorem lazy_pointer_14 (B cb pb : Nat) (w : World) (h : w.heap[pb]? = some (.cells #[.pointer (some ⟨cb, 0, none⟩), .pointer (some ⟨cb, 0, none⟩), .pointer (some ⟨cb, 0, none⟩), .pointer (some ⟨cb, 0, none⟩)] 280 (0, 0))) (hne : ¬ pb = cb) (hB : B ≤ pb) : Able 207 lazyMs (.iface 249 (.pointer (some ⟨pb, 0, none⟩))) B cb w :=
  ⟨_, _, rfl, by decide, fun W => run_typeAssert_hasB Try.underlying207 (by kernel_rfl) _ _ W, by
    have hc : ∀ W, SameBut B cb w W → W.cell? ⟨pb, 3, none⟩ = some (.pointer (some ⟨cb, 0, none⟩)) := fun W hW => by
      have h2 := (hW pb hB (Array.getElem?_eq_some_iff.1 h).1 hne).trans h
      simp [World.cell?, h2]
    unfold lazyMs
    simp only [List.forall_mem_cons, List.not_mem_nil, false_implies, implies_true, and_true]
    refine ⟨fun W hW n => ?_, fun W hW n => ?_⟩
    · exact (show _ = _ from (show (method (n + 1) 249 (.pointer (some ⟨pb, 0, none⟩)) "Loaded").run Try.prog W = (do pure (181, Value.agg (← loadCells ⟨pb, 3, none⟩ 1)) : Sem (FuncId × Value)).run Try.prog W from by kernel_rfl)).trans (loads_pair (hc W hW))
    · exact (show _ = _ from (show (method (n + 1) 249 (.pointer (some ⟨pb, 0, none⟩)) "Load").run Try.prog W = (do pure (180, Value.agg (← loadCells ⟨pb, 3, none⟩ 1)) : Sem (FuncId × Value)).run Try.prog W from by kernel_rfl)).trans (loads_pair (hc W hW))⟩
theorem owned_value_15 (B cb : Nat) (w : World) : Able 148 ownedMs (.iface 201 (.agg #[.pointer (some ⟨cb, 0, none⟩), .pointer (some ⟨cb, 0, none⟩), .pointer (some ⟨cb, 0, none⟩), .pointer (some ⟨cb, 0, none⟩), .pointer (some ⟨cb, 0, none⟩)])) B cb w :=
  ⟨_, _, rfl, by decide, fun W => run_typeAssert_hasB Try.underlying148 (by kernel_rfl) _ _ W, by
    unfold ownedMs
    simp only [List.forall_mem_cons, List.not_mem_nil, false_implies, implies_true, and_true]
    exact ⟨fun W _ n => by kernel_rfl, fun W _ n => by kernel_rfl⟩⟩
theorem owned_pointer_15 (B cb pb : Nat) (w : World) (h : w.heap[pb]? = some (.cells #[.pointer (some ⟨cb, 0, none⟩), .pointer (some ⟨cb, 0, none⟩), .pointer (some ⟨cb, 0, none⟩), .pointer (some ⟨cb, 0, none⟩), .pointer (some ⟨cb, 0, none⟩)] 201 (0, 0))) (hne : ¬ pb = cb) (hB : B ≤ pb) : Able 148 ownedMs (.iface 250 (.pointer (some ⟨pb, 0, none⟩))) B cb w :=
  ⟨_, _, rfl, by decide, fun W => run_typeAssert_hasB Try.underlying148 (by kernel_rfl) _ _ W, by
    have hc : ∀ W, SameBut B cb w W → W.cell? ⟨pb, 3, none⟩ = some (.pointer (some ⟨cb, 0, none⟩)) := fun W hW => by
      have h2 := (hW pb hB (Array.getElem?_eq_some_iff.1 h).1 hne).trans h
      simp [World.cell?, h2]
    unfold ownedMs
    simp only [List.forall_mem_cons, List.not_mem_nil, false_implies, implies_true, and_true]
    refine ⟨fun W hW n => ?_, fun W hW n => ?_⟩
    · exact (show _ = _ from (show (method (n + 1) 250 (.pointer (some ⟨pb, 0, none⟩)) "Owner").run Try.prog W = (do pure (179, Value.agg (← loadCells ⟨pb, 3, none⟩ 1)) : Sem (FuncId × Value)).run Try.prog W from by kernel_rfl)).trans (loads_pair (hc W hW))
    · exact (show _ = _ from (show (method (n + 1) 250 (.pointer (some ⟨pb, 0, none⟩)) "Give").run Try.prog W = (do pure (178, Value.agg (← loadCells ⟨pb, 3, none⟩ 1)) : Sem (FuncId × Value)).run Try.prog W from by kernel_rfl)).trans (loads_pair (hc W hW))⟩
theorem lazy_value_15 (B cb : Nat) (w : World) : Able 207 lazyMs (.iface 201 (.agg #[.pointer (some ⟨cb, 0, none⟩), .pointer (some ⟨cb, 0, none⟩), .pointer (some ⟨cb, 0, none⟩), .pointer (some ⟨cb, 0, none⟩), .pointer (some ⟨cb, 0, none⟩)])) B cb w :=
  ⟨_, _, rfl, by decide, fun W => run_typeAssert_hasB Try.underlying207 (by kernel_rfl) _ _ W, by
    unfold lazyMs
    simp only [List.forall_mem_cons, List.not_mem_nil, false_implies, implies_true, and_true]
    exact ⟨fun W _ n => by kernel_rfl, fun W _ n => by kernel_rfl⟩⟩
theorem lazy_pointer_15 (B cb pb : Nat) (w : World) (h : w.heap[pb]? = some (.cells #[.pointer (some ⟨cb, 0, none⟩), .pointer (some ⟨cb, 0, none⟩), .pointer (some ⟨cb, 0, none⟩), .pointer (some ⟨cb, 0, none⟩), .pointer (some ⟨cb, 0, none⟩)] 201 (0, 0))) (hne : ¬ pb = cb) (hB : B ≤ pb) : Able 207 lazyMs (.iface 250 (.pointer (some ⟨pb, 0, none⟩))) B cb w :=
  ⟨_, _, rfl, by decide, fun W => run_typeAssert_hasB Try.underlying207 (by kernel_rfl) _ _ W, by
    have hc : ∀ W, SameBut B cb w W → W.cell? ⟨pb, 4, none⟩ = some (.pointer (some ⟨cb, 0, none⟩)) := fun W hW => by
      have h2 := (hW pb hB (Array.getElem?_eq_some_iff.1 h).1 hne).trans h
      simp [World.cell?, h2]
    unfold lazyMs
    simp only [List.forall_mem_cons, List.not_mem_nil, false_implies, implies_true, and_true]
    refine ⟨fun W hW n => ?_, fun W hW n => ?_⟩
    · exact (show _ = _ from (show (method (n + 1) 250 (.pointer (some ⟨pb, 0, none⟩)) "Loaded").run Try.prog W = (do pure (181, Value.agg (← loadCells ⟨pb, 4, none⟩ 1)) : Sem (FuncId × Value)).run Try.prog W from by kernel_rfl)).trans (loads_pair (hc W hW))
    · exact (show _ = _ from (show (method (n + 1) 250 (.pointer (some ⟨pb, 0, none⟩)) "Load").run Try.prog W = (do pure (180, Value.agg (← loadCells ⟨pb, 4, none⟩ 1)) : Sem (FuncId × Value)).run Try.prog W from by kernel_rfl)).trans (loads_pair (hc W hW))⟩
theorem owned_loose (B cb : Nat) (sv : Value) (w : World) : Able 148 ownedMs (.iface 205 (.agg #[.pointer (some ⟨cb, 0, none⟩), .pointer (some ⟨cb, 0, none⟩), .pointer (some ⟨cb, 0, none⟩), .pointer (some ⟨cb, 0, none⟩), .pointer (some ⟨cb, 0, none⟩), sv])) B cb w :=
  ⟨_, _, rfl, by decide, fun W => run_typeAssert_hasB Try.underlying148 (by kernel_rfl) _ _ W, by
    unfold ownedMs
    simp only [List.forall_mem_cons, List.not_mem_nil, false_implies, implies_true, and_true]
    exact ⟨fun W _ n => by kernel_rfl, fun W _ n => by kernel_rfl⟩⟩
theorem lazy_loose (B cb : Nat) (sv : Value) (w : World) : Able 207 lazyMs (.iface 205 (.agg #[.pointer (some ⟨cb, 0, none⟩), .pointer (some ⟨cb, 0, none⟩), .pointer (some ⟨cb, 0, none⟩), .pointer (some ⟨cb, 0, none⟩), .pointer (some ⟨cb, 0, none⟩), sv])) B cb w :=
  ⟨_, _, rfl, by decide, fun W => run_typeAssert_hasB Try.underlying207 (by kernel_rfl) _ _ W, by
    unfold lazyMs
    simp only [List.forall_mem_cons, List.not_mem_nil, false_implies, implies_true, and_true]
    exact ⟨fun W _ n => by kernel_rfl, fun W _ n => by kernel_rfl⟩⟩
end Go.Proofs.Ytpcbdjfonmohaaa
