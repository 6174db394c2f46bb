/- tenonmake.Record. -/
import Derived.Test.YtpcbdjfonmohaaaBuiltEnd
namespace Go.Proofs.Ytpcbdjfonmohaaa
open Go.RowKit
set_option linter.unusedVariables false
set_option linter.unusedSimpArgs false

/-- Whether a value is a record. -/
def isRecB : Val → Bool
  | .record .. => true
  | _ => false
/-- What Record hands back. -/
def RecEnd (v : Val) (w : World) (e : Ending) (w' : World) : Prop :=
  (isRecB v = true → ∃ a fs, e = .returned (.pointer (some a)) ∧ VRep w' v (.iface 37 (.pointer (some a))) fs ∧ fs.Nodup ∧ ∀ k ∈ fs, w.heap.size ≤ k) ∧ (isRecB v = false → e = .returned (.pointer none))
theorem isRec_ex {v : Val} (h : isRecB v = true) : ∃ c n d, v = .record c n d := by
  cases v with
  | record c n d => exact ⟨c, n, d, rfl⟩
  | _ => cases h
set_option maxRecDepth 100000 in
theorem record_said (t : Term) (cs : List Value) (w : World) (ht : TRep w t cs) : Calls Try.prog 19 #[.agg cs.toArray] w fun e w' => RecEnd (builtV t) w e w' ∧ Below w.heap.size w w' := by
  obtain ⟨c0, c1, c2, c3, c4, c5, c6, c7, c8, c9, c10, rfl⟩ := eleven ht.len
  have hbt := Lib.hid (fun W (hb : Below w.heap.size w W) => built_any t _ W (TRep.keep (keeps_of_below hb) _ _ ht))
  obtain ⟨v, hv⟩ : ∃ v, v = builtV t := ⟨_, rfl⟩
  rw [← hv] at hbt ⊢
  clear ht hv
  go_enter Try.func19, Try.ntmps19
  go_wp2_with fail
  refine (hbt.out _ ((Below.refl _ _).alloc (Nat.le_refl _) _)).mono ?_
  rintro e w' ⟨y, gs, rfl, hy, hyn, hyb, hb⟩
  have hb' : Hid (Below w.heap.size w w') := Lib.hid (((Below.refl w.heap.size w).alloc (Nat.le_refl _) _).trans (below_le hb (by simp)))
  have hyH := Lib.hid hy
  have hyb' : Hid (∀ k ∈ gs, w.heap.size ≤ k) := Lib.hid (fun k hk => Nat.le_trans (by simp) (hyb k hk))
  clear hb hyb
  cases hr : isRecB v with
  | true =>
    obtain ⟨c, n, d, rfl⟩ := isRec_ex hr
    obtain ⟨b, sv, xs, hs, rfl, -⟩ := hy
    clear hr
    go_wp2_with fail
    go_ret
    exact ⟨⟨fun _ => ⟨_, gs, rfl, hyH.out, hyn, hyb'.out⟩, fun h => (by cases h)⟩, hb'.out⟩
  | false =>
    have hrH := Lib.hid hr
    have hno : (∃ u z, y = .iface u z ∧ (u = 37 → z = .pointer none)) ∨ y = .nilIface := by
      cases v with
      | nil => exact .inr hy.1
      | bool b => exact .inl ⟨_, _, hy.1, fun h => (by cases h)⟩
      | int b => exact .inl ⟨_, _, hy.1, fun h => (by cases h)⟩
      | float b => exact .inl ⟨_, _, hy.1, fun h => (by cases h)⟩
      | text b => exact .inl ⟨_, _, hy.1, fun h => (by cases h)⟩
      | bytes b => obtain ⟨sv, e, -⟩ := hy; exact .inl ⟨_, _, e, fun h => (by cases h)⟩
      | ref b => exact .inl ⟨_, _, hy.1, fun h => (by cases h)⟩
      | list b => obtain ⟨sv, xs, gs, e, -⟩ := hy; exact .inl ⟨_, _, e, fun h => (by cases h)⟩
      | dict b => obtain ⟨sv, xs, gs, e, -⟩ := hy; exact .inl ⟨_, _, e, fun h => (by cases h)⟩
      | record c n d => cases hr
      | nothing => exact .inl ⟨_, _, hy.1, fun _ => rfl⟩
      | alien u =>
        obtain ⟨z, e, hk, -⟩ := hy
        exact .inl ⟨_, _, e, fun h => by subst h; cases hk⟩
    clear hy hr
    rcases hno with ⟨u, z, rfl, hz⟩ | rfl
    · by_cases hu : u = 37
      · have hz' := hz hu
        subst hu hz'
        clear hz
        go_wp2_with fail
        go_ret
        exact ⟨⟨fun h => absurd (hrH.out.symm.trans h) (by decide), fun _ => rfl⟩, hb'.out⟩
      · clear hz
        go_wp2_with fail
        go_ret
        exact ⟨⟨fun h => absurd (hrH.out.symm.trans h) (by decide), fun _ => rfl⟩, hb'.out⟩
    · go_wp2_with fail
      go_ret
      exact ⟨⟨fun h => absurd (hrH.out.symm.trans h) (by decide), fun _ => rfl⟩, hb'.out⟩
end Go.Proofs.Ytpcbdjfonmohaaa
