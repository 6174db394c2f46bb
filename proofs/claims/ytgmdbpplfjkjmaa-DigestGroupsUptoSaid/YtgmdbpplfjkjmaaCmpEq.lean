/- Compare's order is nought just where the values are one. -/
import Derived.Test.YtgmdbpplfjkjmaaCompareE
namespace Go.Proofs.Ytgmdbpplfjkjmaa
open Go.RowKit
set_option linter.unusedVariables false
set_option linter.unusedSimpArgs false

theorem cmpI_zero {x y : Int} (h : cmpI x y = 0) : x = y := by
  unfold cmpI at h
  split at h
  · omega
  · split at h <;> omega
theorem ordT_inj {l m : List UInt8} (h : lexN (ordT l) (ordT m) = 0) : l = m := by
  have h1 := lexN_eq h
  unfold ordT at h1
  have h2 := List.append_cancel_right h1
  have hinj : Function.Injective (fun b : UInt8 => b.toNat + 1) := fun a b hab => UInt8.toNat_inj.1 (by simpa using hab)
  exact (List.map_inj_right (fun a b hab => hinj hab)).1 h2
def CmpEq (v : Val) : Prop := numsV v → okV v → ∀ u, numsV u → okV u → cmpV v u = 0 → v = u
theorem vs_eq : ∀ (l : List Val), (∀ v ∈ l, CmpEq v) → numsVs l → okVs l → ∀ (m : List Val), numsVs m → okVs m → lexN (ordVs l) (ordVs m) = 0 → l = m
  | [], _, _, _, [], _, _, _ => rfl
  | [], _, _, _, y :: m, _, _, h => by rw [ordVs, ordVs] at h; simp [lexN] at h
  | x :: l, _, _, _, [], _, _, h => by rw [ordVs, ordVs] at h; simp [lexN] at h
  | x :: l, ih, hn, ho, y :: m, hn', ho', h => by
    rw [lex_vs] at h
    by_cases h0 : cmpV x y = 0
    · rw [if_pos h0] at h
      rw [ih x (List.mem_cons_self ..) hn.1 ho.1 y hn'.1 ho'.1 h0, vs_eq l (fun v hv => ih v (List.mem_cons_of_mem _ hv)) hn.2 ho.2 m hn'.2 ho'.2 h]
    · rw [if_neg h0] at h; exact absurd h h0
theorem ds_eq : ∀ (l : List (ByteArray × Val)), (∀ v ∈ l.map (·.2), CmpEq v) → numsDs l → okDs l → ∀ (m : List (ByteArray × Val)), numsDs m → okDs m → lexN (ordDs l) (ordDs m) = 0 → l = m
  | [], _, _, _, [], _, _, _ => rfl
  | [], _, _, _, y :: m, _, _, h => by rw [ordDs, ordDs] at h; simp [lexN] at h
  | x :: l, _, _, _, [], _, _, h => by rw [ordDs, ordDs] at h; simp [lexN] at h
  | (s, x) :: l, ih, hn, ho, (t, y) :: m, hn', ho', h => by
    rw [lex_ds] at h
    by_cases h1 : lexN (ordT s.data.toList) (ordT t.data.toList) = 0
    · rw [if_pos h1] at h
      by_cases h0 : cmpV x y = 0
      · rw [if_pos h0] at h
        rw [ih x (by simp) hn.1 ho.1 y hn'.1 ho'.1 h0, ds_eq l (fun v hv => ih v (by rw [List.map_cons]; exact List.mem_cons_of_mem _ hv)) hn.2 ho.2 m hn'.2 ho'.2 h,
          ByteArray.ext (Array.ext' (ordT_inj h1))]
      · rw [if_neg h0] at h; exact absurd h h0
    · rw [if_neg h1] at h; exact absurd h h1
theorem cmp_zero : ∀ v : Val, CmpEq v := val_ind fun v ih hn ho u hn' ho' h => by
  have hpos : ∀ {v : Val}, okV v → 0 ≤ kindV v := fun {v} ho => by cases v <;> first | exact ho.elim | (simp [kindV])
  by_cases hk : kindV v = kindV u
  · cases v <;> cases u <;> first
      | rfl
      | exact ho.elim
      | exact ho'.elim
      | (exfalso; simp [kindV] at hk; done)
      | skip
    · rename_i b c
      rw [cmpV_bool] at h
      cases b <;> cases c <;> first | rfl | (simp [cmpI] at h)
    · rename_i n m
      rw [cmpV_int hn.1 hn'.1] at h
      rw [cmpI_zero h]
    · rename_i x y
      rw [cmpV_float] at h
      rw [(placeN_inj hn hn').1 (cmpI_zero h)]
    · rename_i s t
      rw [cmpV_text] at h
      rw [ByteArray.ext (Array.ext' (ordT_inj h))]
    · rename_i s t
      rw [cmpV_bytes] at h
      rw [ordT_inj h]
    · rename_i n m
      rw [cmpV_ref hn.1 hn'.1] at h
      rw [cmpI_zero h]
    · rename_i l m
      rw [cmpV_list] at h
      rw [vs_eq l ih hn ho.2 m hn' ho'.2 h]
    · rename_i l m
      rw [cmpV_dict] at h
      rw [ds_eq l ih hn ho.2 m hn' ho'.2 h]
    · rename_i c n l c' n' m
      obtain ⟨-, v0, v1, -⟩ := record_own ho.1
      obtain ⟨-, v2, v3, -⟩ := record_own ho'.1
      rw [cmpV_record c c' (by omega) (by omega)] at h
      by_cases h1 : lexN (ordT c.data.toList) (ordT c'.data.toList) = 0
      · rw [if_pos h1] at h
        by_cases h2 : n = n'
        · rw [if_pos h2] at h
          rw [ByteArray.ext (Array.ext' (ordT_inj h1)), h2, ds_eq l ih hn ho.2 m hn' ho'.2 h]
        · rw [if_neg h2] at h; exact absurd (cmpI_zero h) h2
      · rw [if_neg h1] at h; exact absurd h h1
  · rw [cmpV_kinds ho ho' hk (hpos ho) (hpos ho')] at h
    exact absurd (cmpI_zero h) hk
theorem cmpV_eq {v u : Val} (hn : numsV v) (hn' : numsV u) (ho : okV v) (ho' : okV u) (h : cmpV v u = 0) : v = u := cmp_zero v hn ho u hn' ho' h
end Go.Proofs.Ytgmdbpplfjkjmaa
