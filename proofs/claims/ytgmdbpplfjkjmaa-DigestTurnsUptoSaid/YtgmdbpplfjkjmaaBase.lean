/- Words that all walks of this seat use: what a conversion of a string to bytes leaves, what a two-valued assertion gives, endings. Plain lemmas. -/
import Derived.Test.YtgmdbpplfjkjmaaChecked
import Derived.WalkKit
import Derived.KernelRfl
import Derived.Lib.Hide
import Derived.Lib.ConvBytes
import Derived.WalkSpells
import Derived.WalkLawsBesides
import Derived.Outline
import Derived.Lib.MinMax
import Derived.WideLaws
import Derived.Laws.EntriesVeiled
namespace Go.Proofs.Ytgmdbpplfjkjmaa
open Go.RowKit

/-- Short names for the laws with which a state's temporaries are written out. -/
theorem pu1 {α : Type _} {l : List α} {i : Nat} {a : α} : l.toArray.setIfInBounds i a = (l.set i a).toArray := List.setIfInBounds_toArray ..
theorem pu2 {α : Type _} {a b : α} {l : List α} : (a :: l).set 0 b = b :: l := rfl
theorem pu3 {α : Type _} {a b : α} {l : List α} {n : Nat} : (a :: l).set (n + 1) b = a :: l.set n b := rfl
theorem pu4 {α : Type _} {l : List α} {i : Nat} (h : i < l.toArray.size) : l.toArray[i] = l[i]'(by simpa using h) := rfl
theorem pu5 {α : Type _} {a : α} {l : List α} (h : 0 < (a :: l).length) : (a :: l)[0] = a := rfl
theorem pu6 {α : Type _} {a : α} {l : List α} {i : Nat} (h : i + 1 < (a :: l).length) : (a :: l)[i + 1] = l[i]'(Nat.lt_of_succ_lt_succ h) := rfl

theorem all_snoc {P : Nat → Prop} {k : Nat} (h : Hid (∀ j, j < k → P j)) (hk : P k) : ∀ j, j < k + 1 → P j := fun j hj => by
  rcases Nat.lt_or_ge j k with h1 | h1
  · exact h.out j h1
  · obtain rfl : j = k := by omega
    exact hk
theorem ret_int {k : IntKind} {a b : Int} (h : a = b) : Ending.returned (.int k a) = .returned (.int k b) := by rw [h]
theorem ret_bool {a b : Bool} (h : a = b) : Ending.returned (.bool a) = .returned (.bool b) := by rw [h]

/-- '[]byte(s)': a new row with the bytes of s. -/
theorem bytes_of (s : ByteArray) (w : World) : ∃ w1 cap, (convert 9 26 (.string s)).run Try.prog w = .ok (.slice (some ⟨w.heap.size, 0, none⟩) s.size cap) w1 ∧
    (∀ j, j < s.size → w1.cell? ⟨w.heap.size, j, none⟩ = some (.int .u8 (s.data.toList.getD j 0).toNat)) ∧ Below w.heap.size w w1 ∧ w1.heap.size = w.heap.size + 1 := by
  refine ⟨_, _, Lib.run_convert_string_bytes w 9 26 5 s Try.underlying9 Try.underlying26 Try.underlying5, fun j hj => Lib.bytesWorld_cell w _ s j hj, ⟨?_, ?_, ?_, ?_, fun k hk => Lib.bytesWorld_at_old w _ s k hk⟩, Lib.bytesWorld_size w _ s⟩
  all_goals simp [Lib.bytesWorld, World.freeze, World.alloc, World.drew, -World.alloc_eq, -World.drew_eq]

/-! The two-valued assertion of an interface value to a concrete type. -/
theorem zero_bool (W : World) : (do pure (Value.tuple #[← zeroValue 4, .bool false]) : Sem Value).run Try.prog W = .ok (.tuple #[(.bool false), .bool false]) W := by kernel_rfl
@[go_sem] theorem ta_bool (xt u : TypeId) (v : Value) (W : World) : (Instr.typeAssert (.iface u v) xt 4 true).run Try.prog W = .ok (if u = 4 then .tuple #[v, .bool true] else .tuple #[(.bool false), .bool false]) W := by
  have e : (Instr.typeAssert (.iface u v) xt 4 true).run Try.prog W = (if u = 4 then (pure (Value.tuple #[v, .bool true]) : Sem Value) else (do pure (Value.tuple #[← zeroValue 4, .bool false]))).run Try.prog W := by kernel_rfl
  rw [e]
  by_cases h : u = 4
  · rw [if_pos h, if_pos h]; rfl
  · rw [if_neg h, if_neg h]; exact zero_bool W
@[go_sem] theorem tn_bool (xt : TypeId) (W : World) : (Instr.typeAssert .nilIface xt 4 true).run Try.prog W = .ok (.tuple #[(.bool false), .bool false]) W := by
  have e : (Instr.typeAssert .nilIface xt 4 true).run Try.prog W = (do pure (Value.tuple #[← zeroValue 4, .bool false]) : Sem Value).run Try.prog W := by kernel_rfl
  rw [e]; exact zero_bool W
theorem zero_int64 (W : World) : (do pure (Value.tuple #[← zeroValue 2, .bool false]) : Sem Value).run Try.prog W = .ok (.tuple #[(.int .i64 0), .bool false]) W := by kernel_rfl
@[go_sem] theorem ta_int64 (xt u : TypeId) (v : Value) (W : World) : (Instr.typeAssert (.iface u v) xt 2 true).run Try.prog W = .ok (if u = 2 then .tuple #[v, .bool true] else .tuple #[(.int .i64 0), .bool false]) W := by
  have e : (Instr.typeAssert (.iface u v) xt 2 true).run Try.prog W = (if u = 2 then (pure (Value.tuple #[v, .bool true]) : Sem Value) else (do pure (Value.tuple #[← zeroValue 2, .bool false]))).run Try.prog W := by kernel_rfl
  rw [e]
  by_cases h : u = 2
  · rw [if_pos h, if_pos h]; rfl
  · rw [if_neg h, if_neg h]; exact zero_int64 W
@[go_sem] theorem tn_int64 (xt : TypeId) (W : World) : (Instr.typeAssert .nilIface xt 2 true).run Try.prog W = .ok (.tuple #[(.int .i64 0), .bool false]) W := by
  have e : (Instr.typeAssert .nilIface xt 2 true).run Try.prog W = (do pure (Value.tuple #[← zeroValue 2, .bool false]) : Sem Value).run Try.prog W := by kernel_rfl
  rw [e]; exact zero_int64 W
theorem zero_float64 (W : World) : (do pure (Value.tuple #[← zeroValue 25, .bool false]) : Sem Value).run Try.prog W = .ok (.tuple #[(.float .f64 0), .bool false]) W := by kernel_rfl
@[go_sem] theorem ta_float64 (xt u : TypeId) (v : Value) (W : World) : (Instr.typeAssert (.iface u v) xt 25 true).run Try.prog W = .ok (if u = 25 then .tuple #[v, .bool true] else .tuple #[(.float .f64 0), .bool false]) W := by
  have e : (Instr.typeAssert (.iface u v) xt 25 true).run Try.prog W = (if u = 25 then (pure (Value.tuple #[v, .bool true]) : Sem Value) else (do pure (Value.tuple #[← zeroValue 25, .bool false]))).run Try.prog W := by kernel_rfl
  rw [e]
  by_cases h : u = 25
  · rw [if_pos h, if_pos h]; rfl
  · rw [if_neg h, if_neg h]; exact zero_float64 W
@[go_sem] theorem tn_float64 (xt : TypeId) (W : World) : (Instr.typeAssert .nilIface xt 25 true).run Try.prog W = .ok (.tuple #[(.float .f64 0), .bool false]) W := by
  have e : (Instr.typeAssert .nilIface xt 25 true).run Try.prog W = (do pure (Value.tuple #[← zeroValue 25, .bool false]) : Sem Value).run Try.prog W := by kernel_rfl
  rw [e]; exact zero_float64 W
theorem zero_string (W : World) : (do pure (Value.tuple #[← zeroValue 9, .bool false]) : Sem Value).run Try.prog W = .ok (.tuple #[(.string ⟨#[]⟩), .bool false]) W := by kernel_rfl
@[go_sem] theorem ta_string (xt u : TypeId) (v : Value) (W : World) : (Instr.typeAssert (.iface u v) xt 9 true).run Try.prog W = .ok (if u = 9 then .tuple #[v, .bool true] else .tuple #[(.string ⟨#[]⟩), .bool false]) W := by
  have e : (Instr.typeAssert (.iface u v) xt 9 true).run Try.prog W = (if u = 9 then (pure (Value.tuple #[v, .bool true]) : Sem Value) else (do pure (Value.tuple #[← zeroValue 9, .bool false]))).run Try.prog W := by kernel_rfl
  rw [e]
  by_cases h : u = 9
  · rw [if_pos h, if_pos h]; rfl
  · rw [if_neg h, if_neg h]; exact zero_string W
@[go_sem] theorem tn_string (xt : TypeId) (W : World) : (Instr.typeAssert .nilIface xt 9 true).run Try.prog W = .ok (.tuple #[(.string ⟨#[]⟩), .bool false]) W := by
  have e : (Instr.typeAssert .nilIface xt 9 true).run Try.prog W = (do pure (Value.tuple #[← zeroValue 9, .bool false]) : Sem Value).run Try.prog W := by kernel_rfl
  rw [e]; exact zero_string W
theorem zero_bytes (W : World) : (do pure (Value.tuple #[← zeroValue 26, .bool false]) : Sem Value).run Try.prog W = .ok (.tuple #[(.slice none 0 0), .bool false]) W := by kernel_rfl
@[go_sem] theorem ta_bytes (xt u : TypeId) (v : Value) (W : World) : (Instr.typeAssert (.iface u v) xt 26 true).run Try.prog W = .ok (if u = 26 then .tuple #[v, .bool true] else .tuple #[(.slice none 0 0), .bool false]) W := by
  have e : (Instr.typeAssert (.iface u v) xt 26 true).run Try.prog W = (if u = 26 then (pure (Value.tuple #[v, .bool true]) : Sem Value) else (do pure (Value.tuple #[← zeroValue 26, .bool false]))).run Try.prog W := by kernel_rfl
  rw [e]
  by_cases h : u = 26
  · rw [if_pos h, if_pos h]; rfl
  · rw [if_neg h, if_neg h]; exact zero_bytes W
@[go_sem] theorem tn_bytes (xt : TypeId) (W : World) : (Instr.typeAssert .nilIface xt 26 true).run Try.prog W = .ok (.tuple #[(.slice none 0 0), .bool false]) W := by
  have e : (Instr.typeAssert .nilIface xt 26 true).run Try.prog W = (do pure (Value.tuple #[← zeroValue 26, .bool false]) : Sem Value).run Try.prog W := by kernel_rfl
  rw [e]; exact zero_bytes W
theorem zero_ref (W : World) : (do pure (Value.tuple #[← zeroValue 28, .bool false]) : Sem Value).run Try.prog W = .ok (.tuple #[(.int .u64 0), .bool false]) W := by kernel_rfl
@[go_sem] theorem ta_ref (xt u : TypeId) (v : Value) (W : World) : (Instr.typeAssert (.iface u v) xt 28 true).run Try.prog W = .ok (if u = 28 then .tuple #[v, .bool true] else .tuple #[(.int .u64 0), .bool false]) W := by
  have e : (Instr.typeAssert (.iface u v) xt 28 true).run Try.prog W = (if u = 28 then (pure (Value.tuple #[v, .bool true]) : Sem Value) else (do pure (Value.tuple #[← zeroValue 28, .bool false]))).run Try.prog W := by kernel_rfl
  rw [e]
  by_cases h : u = 28
  · rw [if_pos h, if_pos h]; rfl
  · rw [if_neg h, if_neg h]; exact zero_ref W
@[go_sem] theorem tn_ref (xt : TypeId) (W : World) : (Instr.typeAssert .nilIface xt 28 true).run Try.prog W = .ok (.tuple #[(.int .u64 0), .bool false]) W := by
  have e : (Instr.typeAssert .nilIface xt 28 true).run Try.prog W = (do pure (Value.tuple #[← zeroValue 28, .bool false]) : Sem Value).run Try.prog W := by kernel_rfl
  rw [e]; exact zero_ref W
theorem zero_list (W : World) : (do pure (Value.tuple #[← zeroValue 128, .bool false]) : Sem Value).run Try.prog W = .ok (.tuple #[(.slice none 0 0), .bool false]) W := by kernel_rfl
@[go_sem] theorem ta_list (xt u : TypeId) (v : Value) (W : World) : (Instr.typeAssert (.iface u v) xt 128 true).run Try.prog W = .ok (if u = 128 then .tuple #[v, .bool true] else .tuple #[(.slice none 0 0), .bool false]) W := by
  have e : (Instr.typeAssert (.iface u v) xt 128 true).run Try.prog W = (if u = 128 then (pure (Value.tuple #[v, .bool true]) : Sem Value) else (do pure (Value.tuple #[← zeroValue 128, .bool false]))).run Try.prog W := by kernel_rfl
  rw [e]
  by_cases h : u = 128
  · rw [if_pos h, if_pos h]; rfl
  · rw [if_neg h, if_neg h]; exact zero_list W
@[go_sem] theorem tn_list (xt : TypeId) (W : World) : (Instr.typeAssert .nilIface xt 128 true).run Try.prog W = .ok (.tuple #[(.slice none 0 0), .bool false]) W := by
  have e : (Instr.typeAssert .nilIface xt 128 true).run Try.prog W = (do pure (Value.tuple #[← zeroValue 128, .bool false]) : Sem Value).run Try.prog W := by kernel_rfl
  rw [e]; exact zero_list W
theorem zero_dict (W : World) : (do pure (Value.tuple #[← zeroValue 130, .bool false]) : Sem Value).run Try.prog W = .ok (.tuple #[(.slice none 0 0), .bool false]) W := by kernel_rfl
@[go_sem] theorem ta_dict (xt u : TypeId) (v : Value) (W : World) : (Instr.typeAssert (.iface u v) xt 130 true).run Try.prog W = .ok (if u = 130 then .tuple #[v, .bool true] else .tuple #[(.slice none 0 0), .bool false]) W := by
  have e : (Instr.typeAssert (.iface u v) xt 130 true).run Try.prog W = (if u = 130 then (pure (Value.tuple #[v, .bool true]) : Sem Value) else (do pure (Value.tuple #[← zeroValue 130, .bool false]))).run Try.prog W := by kernel_rfl
  rw [e]
  by_cases h : u = 130
  · rw [if_pos h, if_pos h]; rfl
  · rw [if_neg h, if_neg h]; exact zero_dict W
@[go_sem] theorem tn_dict (xt : TypeId) (W : World) : (Instr.typeAssert .nilIface xt 130 true).run Try.prog W = .ok (.tuple #[(.slice none 0 0), .bool false]) W := by
  have e : (Instr.typeAssert .nilIface xt 130 true).run Try.prog W = (do pure (Value.tuple #[← zeroValue 130, .bool false]) : Sem Value).run Try.prog W := by kernel_rfl
  rw [e]; exact zero_dict W
theorem zero_rec (W : World) : (do pure (Value.tuple #[← zeroValue 132, .bool false]) : Sem Value).run Try.prog W = .ok (.tuple #[(.pointer none), .bool false]) W := by kernel_rfl
@[go_sem] theorem ta_rec (xt u : TypeId) (v : Value) (W : World) : (Instr.typeAssert (.iface u v) xt 132 true).run Try.prog W = .ok (if u = 132 then .tuple #[v, .bool true] else .tuple #[(.pointer none), .bool false]) W := by
  have e : (Instr.typeAssert (.iface u v) xt 132 true).run Try.prog W = (if u = 132 then (pure (Value.tuple #[v, .bool true]) : Sem Value) else (do pure (Value.tuple #[← zeroValue 132, .bool false]))).run Try.prog W := by kernel_rfl
  rw [e]
  by_cases h : u = 132
  · rw [if_pos h, if_pos h]; rfl
  · rw [if_neg h, if_neg h]; exact zero_rec W
@[go_sem] theorem tn_rec (xt : TypeId) (W : World) : (Instr.typeAssert .nilIface xt 132 true).run Try.prog W = .ok (.tuple #[(.pointer none), .bool false]) W := by
  have e : (Instr.typeAssert .nilIface xt 132 true).run Try.prog W = (do pure (Value.tuple #[← zeroValue 132, .bool false]) : Sem Value).run Try.prog W := by kernel_rfl
  rw [e]; exact zero_rec W
theorem zero_errno (W : World) : (do pure (Value.tuple #[← zeroValue 33, .bool false]) : Sem Value).run Try.prog W = .ok (.tuple #[(.int .i64 0), .bool false]) W := by kernel_rfl
@[go_sem] theorem ta_errno (xt u : TypeId) (v : Value) (W : World) : (Instr.typeAssert (.iface u v) xt 33 true).run Try.prog W = .ok (if u = 33 then .tuple #[v, .bool true] else .tuple #[(.int .i64 0), .bool false]) W := by
  have e : (Instr.typeAssert (.iface u v) xt 33 true).run Try.prog W = (if u = 33 then (pure (Value.tuple #[v, .bool true]) : Sem Value) else (do pure (Value.tuple #[← zeroValue 33, .bool false]))).run Try.prog W := by kernel_rfl
  rw [e]
  by_cases h : u = 33
  · rw [if_pos h, if_pos h]; rfl
  · rw [if_neg h, if_neg h]; exact zero_errno W
@[go_sem] theorem tn_errno (xt : TypeId) (W : World) : (Instr.typeAssert .nilIface xt 33 true).run Try.prog W = .ok (.tuple #[(.int .i64 0), .bool false]) W := by
  have e : (Instr.typeAssert .nilIface xt 33 true).run Try.prog W = (do pure (Value.tuple #[← zeroValue 33, .bool false]) : Sem Value).run Try.prog W := by kernel_rfl
  rw [e]; exact zero_errno W

/-- 'x == nil' of an 'any'. -/
@[go_sem] theorem eql_any_nil (u : TypeId) (v : Value) (W : World) : (binOp .eql 20 (.iface u v) .nilIface).run Try.prog W = .ok (.bool false) W := by kernel_rfl
@[go_sem] theorem eql_nil_any (W : World) : (binOp .eql 20 .nilIface .nilIface).run Try.prog W = .ok (.bool true) W := by kernel_rfl

/-- A store of a value that is known to take one cell. -/
@[go_sem] theorem run_store_one (P : Program) (w : World) (a : Addr) (v : Value) (m : Mode) (h : v.oneCell' = true) : (store a v m).run P w = stored P w a v m := run_store P w a _ m h
theorem setCell_block {w : World} {b : Nat} {cs : Array Value} {t : TypeId} {fr : Nat × Nat} (h : w.heap[b]? = some (.cells cs t fr)) (o : Nat) (v : Value) :
    (w.setCell ⟨b, o, none⟩ v).heap[b]? = some (.cells (cs.setIfInBounds o v) t fr) := by
  simp [World.setCell, Array.getElem?_modify, h]
end Go.Proofs.Ytgmdbpplfjkjmaa
