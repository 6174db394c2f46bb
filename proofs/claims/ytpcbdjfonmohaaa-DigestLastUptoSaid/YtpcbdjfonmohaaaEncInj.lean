/- Values that can be and have the same bytes are the same. -/
import Derived.Test.YtpcbdjfonmohaaaEncLen
namespace Go.Proofs.Ytpcbdjfonmohaaa
open Go.RowKit
set_option linter.unusedVariables false
set_option linter.unusedSimpArgs false

theorem ofNat_inj {a b : Nat} (ha : a < 256) (hb : b < 256) (h : UInt8.ofNat a = UInt8.ofNat b) : a = b := by
  have h1 := congrArg UInt8.toNat h
  rw [UInt8.toNat_ofNat', UInt8.toNat_ofNat', Nat.mod_eq_of_lt ha, Nat.mod_eq_of_lt hb] at h1
  exact h1
theorem numB_inj : ∀ (k m : Nat), m ≤ k → ∀ (n : Nat) (r s : List UInt8), numB m ++ r = numB n ++ s → m = n ∧ r = s := by
  intro k
  induction k with
  | zero =>
    intro m hm n r s h
    obtain rfl : m = 0 := by omega
    rw [numB_small (by omega)] at h
    by_cases hn : n < 128
    · rw [numB_small hn] at h
      injection h with h1 h2
      exact ⟨ofNat_inj (by omega) (by omega) h1, h2⟩
    · rw [numB_big hn] at h
      injection h with h1 h2
      exact absurd (ofNat_inj (by omega) (by omega) h1) (by omega)
  | succ k ih =>
    intro m hm n r s h
    by_cases hm1 : m < 128
    · rw [numB_small hm1] at h
      by_cases hn : n < 128
      · rw [numB_small hn] at h
        injection h with h1 h2
        exact ⟨ofNat_inj (by omega) (by omega) h1, h2⟩
      · rw [numB_big hn] at h
        injection h with h1 h2
        exact absurd (ofNat_inj (by omega) (by omega) h1) (by omega)
    · rw [numB_big hm1] at h
      by_cases hn : n < 128
      · rw [numB_small hn] at h
        injection h with h1 h2
        exact absurd (ofNat_inj (by omega) (by omega) h1) (by omega)
      · rw [numB_big hn] at h
        injection h with h1 h2
        have e := ofNat_inj (by omega) (by omega) h1
        obtain ⟨h3, h4⟩ := ih (m / 128) (by omega) (n / 128) r s h2
        exact ⟨by omega, h4⟩
theorem num_inj {m n : Nat} {r s : List UInt8} (h : numB m ++ r = numB n ++ s) : m = n ∧ r = s := numB_inj m m (Nat.le_refl _) n r s h
theorem text_inj {x y : ByteArray} {r s : List UInt8} (h : textB x ++ r = textB y ++ s) : x = y ∧ r = s := by
  unfold textB at h
  rw [List.append_assoc, List.append_assoc] at h
  obtain ⟨h1, h2⟩ := num_inj h
  have hx : x.data.toList.length = x.size := by simp
  have hy : y.data.toList.length = y.size := by simp
  obtain ⟨h3, h4⟩ := List.append_inj h2 (by omega)
  exact ⟨ByteArray.ext (Array.ext' h3), h4⟩
theorem bytes_inj {x y : List UInt8} {r s : List UInt8} (h : numB x.length ++ x ++ r = numB y.length ++ y ++ s) : x = y ∧ r = s := by
  rw [List.append_assoc, List.append_assoc] at h
  obtain ⟨h1, h2⟩ := num_inj h
  exact List.append_inj h2 h1
theorem f8_inj {b c : Nat} (hb : b < 18446744073709551616) (hc : c < 18446744073709551616) {r s : List UInt8} (h : f8 b ++ r = f8 c ++ s) : b = c ∧ r = s := by
  unfold f8 at h
  injection h with h0 h
  injection h with h1 h
  injection h with h2 h
  injection h with h3 h
  injection h with h4 h
  injection h with h5 h
  injection h with h6 h
  injection h with h7 h
  have e0 := ofNat_inj (Nat.mod_lt _ (by decide)) (Nat.mod_lt _ (by decide)) h0
  have e1 := ofNat_inj (Nat.mod_lt _ (by decide)) (Nat.mod_lt _ (by decide)) h1
  have e2 := ofNat_inj (Nat.mod_lt _ (by decide)) (Nat.mod_lt _ (by decide)) h2
  have e3 := ofNat_inj (Nat.mod_lt _ (by decide)) (Nat.mod_lt _ (by decide)) h3
  have e4 := ofNat_inj (Nat.mod_lt _ (by decide)) (Nat.mod_lt _ (by decide)) h4
  have e5 := ofNat_inj (Nat.mod_lt _ (by decide)) (Nat.mod_lt _ (by decide)) h5
  have e6 := ofNat_inj (Nat.mod_lt _ (by decide)) (Nat.mod_lt _ (by decide)) h6
  have e7 := ofNat_inj (Nat.mod_lt _ (by decide)) (Nat.mod_lt _ (by decide)) h7
  refine ⟨?_, h⟩
  clear h0 h1 h2 h3 h4 h5 h6 h7 h
  have s1 : b / 256 % 256 + 256 * (b / 65536) = b / 256 := by omega
  have s2 : c / 256 % 256 + 256 * (c / 65536) = c / 256 := by omega
  have g7 : b / 72057594037927936 = c / 72057594037927936 := by omega
  have g6 : b / 281474976710656 = c / 281474976710656 := by omega
  have g5 : b / 1099511627776 = c / 1099511627776 := by omega
  have g4 : b / 4294967296 = c / 4294967296 := by omega
  have g3 : b / 16777216 = c / 16777216 := by omega
  have g2 : b / 65536 = c / 65536 := by omega
  have g1 : b / 256 = c / 256 := by omega
  omega
theorem zz_inj {m n : Int} (h : zzN m = zzN n) : m = n := by unfold zzN at h; split at h <;> split at h <;> omega
def EncInj (v : Val) : Prop := numsV v → okV v → ∀ (u : Val), numsV u → okV u → ∀ (r s : List UInt8), encV v ++ r = encV u ++ s → v = u ∧ r = s
theorem encVs_inj : ∀ (l : List Val), (∀ v ∈ l, EncInj v) → numsVs l → okVs l → ∀ (m : List Val), numsVs m → okVs m → l.length = m.length → ∀ (r s : List UInt8), encVs l ++ r = encVs m ++ s → l = m ∧ r = s
  | [], _, _, _, [], _, _, _, r, s, h => ⟨rfl, by rw [encVs] at h; exact h⟩
  | [], _, _, _, _ :: _, _, _, e, _, _, _ => by simp at e
  | _ :: _, _, _, _, [], _, _, e, _, _, _ => by simp at e
  | v :: l, ih, hn, ho, u :: m, hn', ho', e, r, s, h => by
    rw [encVs, encVs, List.append_assoc, List.append_assoc] at h
    obtain ⟨rfl, h2⟩ := ih v (List.mem_cons_self ..) hn.1 ho.1 u hn'.1 ho'.1 _ _ h
    obtain ⟨rfl, h3⟩ := encVs_inj l (fun x hx => ih x (List.mem_cons_of_mem _ hx)) hn.2 ho.2 m hn'.2 ho'.2 (by simpa using e) _ _ h2
    exact ⟨rfl, h3⟩
theorem encDs_inj : ∀ (l : List (ByteArray × Val)), (∀ v ∈ l.map (·.2), EncInj v) → numsDs l → okDs l → ∀ (m : List (ByteArray × Val)), numsDs m → okDs m → l.length = m.length → ∀ (r s : List UInt8), encDs l ++ r = encDs m ++ s → l = m ∧ r = s
  | [], _, _, _, [], _, _, _, r, s, h => ⟨rfl, by rw [encDs] at h; exact h⟩
  | [], _, _, _, _ :: _, _, _, e, _, _, _ => by simp at e
  | _ :: _, _, _, _, [], _, _, e, _, _, _ => by simp at e
  | (x, v) :: l, ih, hn, ho, (y, u) :: m, hn', ho', e, r, s, h => by
    rw [encDs, encDs, encP, encP, List.append_assoc, List.append_assoc, List.append_assoc, List.append_assoc] at h
    obtain ⟨rfl, h1⟩ := text_inj h
    obtain ⟨rfl, h2⟩ := ih v (by simp) hn.1 ho.1 u hn'.1 ho'.1 _ _ h1
    obtain ⟨rfl, h3⟩ := encDs_inj l (fun x hx => ih x (by rw [List.map_cons]; exact List.mem_cons_of_mem _ hx)) hn.2 ho.2 m hn'.2 ho'.2 (by simpa using e) _ _ h2
    exact ⟨rfl, h3⟩
theorem enc_inj : ∀ v : Val, EncInj v := val_ind fun v ih hn ho u hn' ho' r s h => by
  have hk : kindV v = kindV u := by
    cases v <;> cases u <;> first | rfl | exact ho.elim | exact ho'.elim | (rw [encV, encV] at h; injection h with h1 h2; exact absurd h1 (by decide))
  cases v with
  | nil => cases u <;> first | (rw [encV] at h; injection h with h1 h2; exact ⟨rfl, h2⟩) | exact absurd hk (by simp [kindV]) | exact ho'.elim
  | bool b =>
    cases u with
    | bool c =>
      rw [encV, encV] at h
      injection h with h1 h2
      injection h2 with h2 h3
      refine ⟨?_, h3⟩
      cases b <;> cases c <;> first | rfl | exact absurd h2 (by decide)
    | _ => exact absurd hk (by simp [kindV])
  | int n =>
    cases u with
    | int m =>
      rw [encV, encV] at h
      injection h with h1 h2
      obtain ⟨h3, h4⟩ := num_inj h2
      exact ⟨by rw [zz_inj h3], h4⟩
    | _ => exact absurd hk (by simp [kindV])
  | float b =>
    cases u with
    | float c =>
      rw [encV, encV] at h
      injection h with h1 h2
      obtain ⟨h3, h4⟩ := f8_inj hn hn' h2
      exact ⟨by rw [h3], h4⟩
    | _ => exact absurd hk (by simp [kindV])
  | text x =>
    cases u with
    | text y =>
      rw [encV, encV] at h
      injection h with h1 h2
      obtain ⟨h3, h4⟩ := text_inj h2
      exact ⟨by rw [h3], h4⟩
    | _ => exact absurd hk (by simp [kindV])
  | bytes x =>
    cases u with
    | bytes y =>
      rw [encV, encV] at h
      injection h with h1 h2
      obtain ⟨h3, h4⟩ := bytes_inj h2
      exact ⟨by rw [h3], h4⟩
    | _ => exact absurd hk (by simp [kindV])
  | ref n =>
    cases u with
    | ref m =>
      rw [encV, encV] at h
      injection h with h1 h2
      obtain ⟨h3, h4⟩ := num_inj h2
      have a1 : 0 ≤ n := hn.1
      have a2 : 0 ≤ m := hn'.1
      exact ⟨by rw [show n = m by omega], h4⟩
    | _ => exact absurd hk (by simp [kindV])
  | list l =>
    cases u with
    | list m =>
      rw [encV, encV] at h
      injection h with h1 h2
      have h2 : (numB l.length ++ encVs l) ++ r = (numB m.length ++ encVs m) ++ s := h2
      rw [List.append_assoc, List.append_assoc] at h2
      obtain ⟨h3, h4⟩ := num_inj h2
      obtain ⟨h5, h6⟩ := encVs_inj l ih hn ho.2 m hn' ho'.2 h3 _ _ h4
      exact ⟨by rw [h5], h6⟩
    | _ => exact absurd hk (by simp [kindV])
  | dict l =>
    cases u with
    | dict m =>
      rw [encV, encV] at h
      injection h with h1 h2
      have h2 : (numB l.length ++ encDs l) ++ r = (numB m.length ++ encDs m) ++ s := h2
      rw [List.append_assoc, List.append_assoc] at h2
      obtain ⟨h3, h4⟩ := num_inj h2
      obtain ⟨h5, h6⟩ := encDs_inj l ih hn ho.2 m hn' ho'.2 h3 _ _ h4
      exact ⟨by rw [h5], h6⟩
    | _ => exact absurd hk (by simp [kindV])
  | record x n l =>
    cases u with
    | record y k m =>
      obtain ⟨-, a1, -, -⟩ := record_own ho.1
      obtain ⟨-, a2, -, -⟩ := record_own ho'.1
      rw [encV, encV] at h
      injection h with h1 h2
      have h2 : (textB x ++ (numB n.toNat ++ (numB l.length ++ encDs l))) ++ r = (textB y ++ (numB k.toNat ++ (numB m.length ++ encDs m))) ++ s := h2
      rw [List.append_assoc, List.append_assoc, List.append_assoc, List.append_assoc, List.append_assoc, List.append_assoc] at h2
      obtain ⟨h3, h4⟩ := text_inj h2
      obtain ⟨h5, h6⟩ := num_inj h4
      obtain ⟨h7, h8⟩ := num_inj h6
      obtain ⟨h9, h10⟩ := encDs_inj l ih hn ho.2 m hn' ho'.2 h7 _ _ h8
      exact ⟨by rw [h3, h9, show n = k by omega], h10⟩
    | _ => exact absurd hk (by simp [kindV])
  | nothing => exact ho.elim
  | alien u => exact ho.elim
/-- The bytes tell the values apart. -/
theorem enc_same {v u : Val} (hn : numsV v) (ho : okV v) (hn' : numsV u) (ho' : okV u) : encV v = encV u ↔ v = u :=
  ⟨fun h => (enc_inj v hn ho u hn' ho' [] [] (by rw [List.append_nil, List.append_nil, h])).1, fun h => by rw [h]⟩
end Go.Proofs.Ytpcbdjfonmohaaa
