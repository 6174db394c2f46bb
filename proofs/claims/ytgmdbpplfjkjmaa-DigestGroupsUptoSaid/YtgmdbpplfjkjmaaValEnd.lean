/- The walk of value.Copy; when Check says that nothing is wrong. -/
import Derived.Test.YtgmdbpplfjkjmaaValCopied
namespace Go.Proofs.Ytgmdbpplfjkjmaa
open Go.RowKit
set_option linter.unusedVariables false
set_option linter.unusedSimpArgs false

/-- Check finds nothing wrong. -/
def okB (v : Val) : Bool := (partF v 1 ⟨0, 0, 0⟩).1
/-- What Check finds wrong. -/
def whyF (v : Val) : Int := (checkF v).2

theorem stepF_why {v : Val} {deep : Int} {c : Cnt} {kids : Cnt → Bool × Cnt} (hk : ∀ c', (kids c').1 = false → (kids c').2.why ≠ 0) (h : (stepF v deep c kids).1 = false) : (stepF v deep c kids).2.why ≠ 0 := by
  unfold stepF at h ⊢
  split
  · rename_i ho; rw [if_pos ho] at h; exact hk _ h
  · rename_i ho; exact ho
mutual
theorem partF_why : ∀ (v : Val) (deep : Int) (c : Cnt), (partF v deep c).1 = false → (partF v deep c).2.why ≠ 0
  | .list l, deep, c => by rw [partF]; exact stepF_why (fun c' => partsF_why l _ c')
  | .dict d, deep, c => by rw [partF]; exact stepF_why (fun c' => dpartsF_why d _ c')
  | .record _ _ d, deep, c => by rw [partF]; exact stepF_why (fun c' => dpartsF_why d _ c')
  | .nil, deep, c => by rw [partF]; exact stepF_why (fun c' h => by cases h)
  | .bool _, deep, c => by rw [partF]; exact stepF_why (fun c' h => by cases h)
  | .int _, deep, c => by rw [partF]; exact stepF_why (fun c' h => by cases h)
  | .float _, deep, c => by rw [partF]; exact stepF_why (fun c' h => by cases h)
  | .text _, deep, c => by rw [partF]; exact stepF_why (fun c' h => by cases h)
  | .bytes _, deep, c => by rw [partF]; exact stepF_why (fun c' h => by cases h)
  | .ref _, deep, c => by rw [partF]; exact stepF_why (fun c' h => by cases h)
  | .nothing, deep, c => by rw [partF]; exact stepF_why (fun c' h => by cases h)
  | .alien _, deep, c => by rw [partF]; exact stepF_why (fun c' h => by cases h)
theorem partsF_why : ∀ (l : List Val) (deep : Int) (c : Cnt), (partsF l deep c).1 = false → (partsF l deep c).2.why ≠ 0
  | [], _, _ => by rw [partsF]; intro h; cases h
  | v :: l, deep, c => by
    have h1 := partF_why v deep c
    rw [partsF]
    split
    · exact partsF_why l _ _
    · rename_i c' e; rw [e] at h1; exact h1
theorem dpartsF_why : ∀ (l : List (ByteArray × Val)) (deep : Int) (c : Cnt), (dpartsF l deep c).1 = false → (dpartsF l deep c).2.why ≠ 0
  | [], _, _ => by rw [dpartsF]; intro h; cases h
  | p :: l, deep, c => by
    have h1 := dpartF_why p deep c
    rw [dpartsF]
    split
    · exact dpartsF_why l _ _
    · rename_i c' e; rw [e] at h1; exact h1
theorem dpartF_why : ∀ (p : ByteArray × Val) (deep : Int) (c : Cnt), (dpartF p deep c).1 = false → (dpartF p deep c).2.why ≠ 0
  | (_, v), deep, c => by rw [dpartF]; exact partF_why v deep c
end
theorem check_ok {v : Val} (h : okB v = true) : checkF v = (0, 0) := by
  unfold checkF; unfold okB at h
  split
  · rfl
  · rename_i c e; rw [e] at h; cases h
theorem why_bad {v : Val} (h : okB v = false) : whyF v ≠ 0 := by
  unfold whyF checkF; unfold okB at h
  have := partF_why v 1 ⟨0, 0, 0⟩ h
  split
  · rename_i c e; rw [e] at h; cases h
  · rename_i c e; rw [e] at this; exact this
theorem why_ok {v : Val} (h : okB v = true) : whyF v = 0 := by unfold whyF; rw [check_ok h]

/-- A copy has been handed back, and OK. -/
def CopyOK (v : Val) (w : World) (e : Ending) (w' : World) : Prop := ∃ y gs, e = .returned (.tuple #[y, .int .i64 0]) ∧ VRep w' v y gs ∧ gs.Nodup ∧ (∀ b ∈ gs, w.heap.size ≤ b) ∧ Below w.heap.size w w'

theorem Copy_ok {w : World} {v : Val} {x : Value} {fs : List Nat} (h : VRep w v x fs) (hok : okB v = true) : Calls Try.prog 139 #[x] w (CopyOK v w) := by
  have hc := check_any h
  rw [check_ok hok] at hc
  have hcH := Lib.hid hc
  have hcp := Lib.hid (fun W (hb : Below w.heap.size w W) => copied_any v x fs W (VRep.but h (below_but0 hb) (fun _ _ f => f)) (okV_check hok))
  clear h hok hc
  go_enter Try.func139, Try.ntmps139
  go_wp2_with (first | (go_at_call 135; refine hcH.out.mono ?_; rintro e w1 ⟨rfl, hb1⟩) | (go_at_call 187; refine (hcp.out _ hb1).mono ?_; rintro e w2 ⟨y, gy, rfl, hy, hyn, hyb, hb2⟩))
  go_ret2
  exact ⟨y, gy, rfl, hy, hyn, fun b hb => Nat.le_trans hb1.size (hyb b hb), hb1.trans (hb2.mono hb1.size)⟩
theorem Copy_bad {w : World} {v : Val} {x : Value} {fs : List Nat} (h : VRep w v x fs) (hok : okB v = false) : Calls Try.prog 139 #[x] w fun e w' => e = .returned (.tuple #[.nilIface, .int .i64 (whyF v)]) ∧ Below w.heap.size w w' := by
  have hc := check_any h
  have hne : (whyF v != 0) = true := by simpa using why_bad hok
  have hcH : Hid (Calls Try.prog 135 #[x] w fun e w' => e = .returned (.tuple #[.int .i64 (checkF v).1, .int .i64 (whyF v)]) ∧ Below w.heap.size w w') := Lib.hid hc
  clear h hok hc
  go_enter Try.func139, Try.ntmps139
  go_wp2_with (go_at_call 135; refine hcH.out.mono ?_; rintro e w1 ⟨rfl, hb1⟩)
  go_ret2
  exact ⟨rfl, hb1⟩
end Go.Proofs.Ytgmdbpplfjkjmaa
