/- How long a value's bytes are at most; that values with the same bytes are the same. -/
import Derived.Test.YtgmdbpplfjkjmaaWireEnc
import Derived.Test.YtgmdbpplfjkjmaaRefPart
import Derived.Test.YtgmdbpplfjkjmaaBuilt
namespace Go.Proofs.Ytgmdbpplfjkjmaa
open Go.RowKit
set_option linter.unusedVariables false
set_option linter.unusedSimpArgs false

theorem nameOk_size {s : ByteArray} (h : nameOk s = true) : s.size ≤ 32 := by
  apply Decidable.byContradiction
  intro hn
  have := nameOk_head (s := s) (by omega)
  rw [h] at this
  cases this
theorem fieldsF_names {d : List (ByteArray × Val)} (h : fieldsF d = 0) : ∀ p ∈ d, nameOk p.1 = true := fun p hp => by
  have hl : d.length ≤ 4096 := by
    apply Decidable.byContradiction
    intro hn
    have := fieldsF_long (d := d) (by omega)
    omega
  obtain ⟨k, hk⟩ := List.getElem?_of_mem hp
  cases hno : nameOk p.1 with
  | true => rfl
  | false =>
    have := fieldsF_bad hl (List.getElem?_eq_some_iff.1 hk).1 (badName_name hk hno)
    omega
mutual
/-- A value's numbers are what their types bear. -/
def numsV : Val → Prop
  | .int n => -9223372036854775808 ≤ n ∧ n ≤ 9223372036854775807
  | .float b => b < 18446744073709551616
  | .ref n => 0 ≤ n ∧ n ≤ 18446744073709551615
  | .list l => numsVs l
  | .dict d => numsDs d
  | .record _ _ d => numsDs d
  | .nil => True
  | .bool _ => True
  | .text _ => True
  | .bytes _ => True
  | .nothing => True
  | .alien _ => True
def numsVs : List Val → Prop
  | [] => True
  | v :: l => numsV v ∧ numsVs l
def numsDs : List (ByteArray × Val) → Prop
  | [] => True
  | p :: l => numsP p ∧ numsDs l
def numsP : ByteArray × Val → Prop
  | (_, v) => numsV v
end
theorem numsVs_mem : ∀ (l : List Val), numsVs l → ∀ v ∈ l, numsV v
  | [], _, v, h => by cases h
  | u :: l, hs, v, h => by
    rw [numsVs] at hs
    rcases List.mem_cons.1 h with rfl | h
    · exact hs.1
    · exact numsVs_mem l hs.2 v h
theorem numsDs_mem : ∀ (l : List (ByteArray × Val)), numsDs l → ∀ u ∈ l.map (·.2), numsV u
  | [], _, v, h => by cases h
  | (s, u) :: l, hs, v, h => by
    rw [numsDs, numsP] at hs
    rw [List.map_cons] at h
    rcases List.mem_cons.1 h with rfl | h
    · exact hs.1
    · exact numsDs_mem l hs.2 v h
/-- What Built makes of a term has such numbers. -/
theorem nums_built {w : World} : ∀ (t : Term), (∀ cs, TRep w t cs → numsV (builtV t)) := term_all fun t ih => by
  obtain ⟨k, b, n, fl, tx, bs, rf, ls, es, cl, ver⟩ := t
  intro cs h
  simp only [TRep] at h
  obtain ⟨sb, sl, se, xl, xe, rfl, ⟨-, hn, hf, -, hr, -, -⟩, -, -, hls, -, hes⟩ := h
  have hn' : -9223372036854775808 ≤ n ∧ n ≤ 9223372036854775807 := by simpa [Lit.wf, IntKind.min, IntKind.max, IntKind.signed, IntKind.bits] using hn
  have hr' : 0 ≤ rf ∧ rf ≤ 18446744073709551615 := by simpa [Lit.wf, IntKind.min, IntKind.max, IntKind.signed, IntKind.bits] using hr
  have hf' : fl < 18446744073709551616 := by simpa [Lit.wf] using hf
  have hVs : ∀ (l : List Term) (xs : List Value), TsRep w l xs → (∀ u ∈ l, ∀ cs, TRep w u cs → numsV (builtV u)) → numsVs (builtVs l) := by
    intro l
    induction l with
    | nil => intro xs _ _; rw [builtVs, numsVs]; trivial
    | cons u l il =>
      rintro xs ⟨cs, ys, -, h1, h2⟩ hu
      rw [builtVs, numsVs]
      exact ⟨hu u List.mem_cons_self cs h1, il ys h2 (fun v hv => hu v (List.mem_cons_of_mem _ hv))⟩
  have hDs : ∀ (l : List (ByteArray × Term)) (xs : List Value), EsRep w l xs → (∀ u ∈ l.map (·.2), ∀ cs, TRep w u cs → numsV (builtV u)) → numsDs (builtEs l) := by
    intro l
    induction l with
    | nil => intro xs _ _; rw [builtEs, numsDs]; trivial
    | cons p l il =>
      obtain ⟨s, u⟩ := p
      rintro xs ⟨cs, ys, -, -, h1, h2⟩ hu
      rw [builtEs, builtE, numsDs, numsP]
      exact ⟨hu u (by simp) cs h1, il ys h2 (fun v hv => hu v (List.mem_cons_of_mem _ hv))⟩
  have h1 := hVs ls xl hls (fun u hu => ih u (List.mem_append_left _ hu))
  have h2 := hDs es xe hes (fun u hu => ih u (List.mem_append_right _ hu))
  rw [builtV]
  cases (k == 1) <;> cases (k == 2) <;> cases (k == 3) <;> cases (k == 4) <;> cases (k == 5) <;> cases (k == 6) <;> cases (k == 7) <;> cases (k == 8) <;> cases (k == 9) <;> cases (k == 10) <;> cases (k == 11) <;> simp only [cond_true, cond_false, numsV] <;> first | trivial | exact hn' | exact hf' | exact hr' | exact h1 | exact h2
theorem encVs_len : ∀ (l : List Val), (∀ v ∈ l, ∀ (deep : Int) (c : Cnt), 0 ≤ c.n → c.n ≤ 16384 → (partF v deep c).1 = true → ((encV v).length : Int) + 42 ≤ 70000 * ((partF v deep c).2.n - c.n)) →
    ∀ (deep : Int) (c : Cnt), 0 ≤ c.n → c.n ≤ 16384 → (partsF l deep c).1 = true → ((encVs l).length : Int) ≤ 70000 * ((partsF l deep c).2.n - c.n)
  | [], _, deep, c, _, _, _ => by rw [partsF, encVs]; simp
  | v :: l, h, deep, c, h0, h1, hp => by
    rw [partsF] at hp ⊢
    have hv := h v (List.mem_cons_self ..) deep c h0 h1
    have hn := partF_n v deep c h0 h1
    cases e : partF v deep c with
    | mk ok c1 =>
      rw [e] at hp hv hn
      cases ok with
      | false => cases hp
      | true =>
        have h2 := encVs_len l (fun u hu => h u (List.mem_cons_of_mem _ hu)) deep c1 hn.1 hn.2 hp
        have hv' : ((encV v).length : Int) + 42 ≤ 70000 * (c1.n - c.n) := hv rfl
        rw [encVs, List.length_append]
        show (((encV v).length + (encVs l).length : Nat) : Int) ≤ 70000 * ((partsF l deep c1).2.n - c.n)
        have h2' : ((encVs l).length : Int) ≤ 70000 * ((partsF l deep c1).2.n - c1.n) := h2
        omega
theorem encDs_len : ∀ (d : List (ByteArray × Val)), (∀ v ∈ d.map (·.2), ∀ (deep : Int) (c : Cnt), 0 ≤ c.n → c.n ≤ 16384 → (partF v deep c).1 = true → ((encV v).length : Int) + 42 ≤ 70000 * ((partF v deep c).2.n - c.n)) → (∀ p ∈ d, nameOk p.1 = true) →
    ∀ (deep : Int) (c : Cnt), 0 ≤ c.n → c.n ≤ 16384 → (partsF (d.map (·.2)) deep c).1 = true → ((encDs d).length : Int) ≤ 70000 * ((partsF (d.map (·.2)) deep c).2.n - c.n)
  | [], _, _, deep, c, _, _, _ => by rw [List.map_nil, partsF, encDs]; simp
  | (s, v) :: l, h, hnm, deep, c, h0, h1, hp => by
    rw [List.map_cons, partsF] at hp ⊢
    have hv := h v (by simp) deep c h0 h1
    have hn := partF_n v deep c h0 h1
    have hs : s.size ≤ 32 := nameOk_size (hnm (s, v) (List.mem_cons_self ..))
    have ht := textB_len s (by omega)
    cases e : partF v deep c with
    | mk ok c1 =>
      rw [e] at hp hv hn
      cases ok with
      | false => cases hp
      | true =>
        have h2 := encDs_len l (fun u hu => h u (by rw [List.map_cons]; exact List.mem_cons_of_mem _ hu)) (fun p hp => hnm p (List.mem_cons_of_mem _ hp)) deep c1 hn.1 hn.2 hp
        have hv' : ((encV v).length : Int) + 42 ≤ 70000 * (c1.n - c.n) := hv rfl
        rw [encDs, encP, List.length_append, List.length_append]
        show (((textB s).length + (encV v).length + (encDs l).length : Nat) : Int) ≤ 70000 * ((partsF (l.map (·.2)) deep c1).2.n - c.n)
        have h2' : ((encDs l).length : Int) ≤ 70000 * ((partsF (l.map (·.2)) deep c1).2.n - c1.n) := h2
        have hs' : s.size ≤ 32 := hs
        omega
theorem record_own {c : ByteArray} {n : Int} {d : List (ByteArray × Val)} (h : ownIn (.record c n d) = 0) : nameOk c = true ∧ 1 ≤ n ∧ n ≤ 1000 ∧ fieldsF d = 0 := by
  have h1 : (if nameOk c = false then (8 : Int) else if n < 1 ∨ 1000 < n then 1 else fieldsF d) = 0 := h
  split at h1
  · omega
  · split at h1
    · omega
    · rename_i hc hn
      exact ⟨by simpa using hc, by omega, by omega, h1⟩
theorem enc_len : ∀ (v : Val), numsV v → ∀ (deep : Int) (c : Cnt), 0 ≤ c.n → c.n ≤ 16384 → (partF v deep c).1 = true → ((encV v).length : Int) + 42 ≤ 70000 * ((partF v deep c).2.n - c.n) := val_ind fun v ih hnum deep c h0 h1 h => by
  rw [partF_subs] at h ⊢
  unfold stepF at h ⊢
  split at h
  · rename_i ho
    rw [if_pos ho]
    have hin := ownF_in ho
    have hc := ownF_n ho
    have hc0 : 0 ≤ (⟨c.n + 1, max c.dp deep, 0⟩ : Cnt).n := by show 0 ≤ c.n + 1; omega
    have hc1 : (⟨c.n + 1, max c.dp deep, 0⟩ : Cnt).n ≤ 16384 := by show c.n + 1 ≤ 16384; omega
    have hleaf : subs v = [] → (partsF (subs v) (deep + 1) ⟨c.n + 1, max c.dp deep, 0⟩).2.n = c.n + 1 := fun e => by rw [e, partsF]
    show ((encV v).length : Int) + 42 ≤ 70000 * ((partsF (subs v) (deep + 1) ⟨c.n + 1, max c.dp deep, 0⟩).2.n - c.n)
    cases v with
    | nil => rw [hleaf rfl, encV]; simp; omega
    | bool b => rw [hleaf rfl, encV]; simp; omega
    | int n =>
      rw [hleaf rfl, encV, List.length_cons]
      have := numB_ten (zzN_lt n hnum.1 hnum.2)
      omega
    | float b => rw [hleaf rfl, encV]; simp [f8]; omega
    | text s =>
      have h2 : (if 65536 < s.size then (2 : Int) else 0) = 0 := hin
      have hs : s.size ≤ 65536 := by split at h2 <;> omega
      have := textB_len s (by omega)
      rw [hleaf rfl, encV, List.length_cons]; omega
    | bytes l =>
      have h2 : (if 65536 < l.length then (2 : Int) else 0) = 0 := hin
      have hs : l.length ≤ 65536 := by split at h2 <;> omega
      have := numB_ten (n := l.length) (by omega)
      rw [hleaf rfl, encV, List.length_cons, List.length_append]; omega
    | ref n =>
      have hr : 0 ≤ n ∧ n ≤ 18446744073709551615 := hnum
      have := numB_ten (n := n.toNat) (by omega)
      rw [hleaf rfl, encV, List.length_cons]; omega
    | list l =>
      have h2 : (if 4096 < l.length then (2 : Int) else 0) = 0 := hin
      have hs : l.length ≤ 4096 := by split at h2 <;> omega
      have hl := encVs_len l (fun u hu => ih u hu (numsVs_mem l hnum u hu)) (deep + 1) ⟨c.n + 1, max c.dp deep, 0⟩ hc0 hc1 h
      have := numB_ten (n := l.length) (by omega)
      have hl' : ((encVs l).length : Int) ≤ 70000 * ((partsF l (deep + 1) ⟨c.n + 1, max c.dp deep, 0⟩).2.n - (c.n + 1)) := hl
      rw [encV, List.length_cons, List.length_append]
      show (((numB l.length).length + (encVs l).length + 1 : Nat) : Int) + 42 ≤ 70000 * ((partsF l (deep + 1) ⟨c.n + 1, max c.dp deep, 0⟩).2.n - c.n)
      omega
    | dict d =>
      have hl := encDs_len d (fun u hu => ih u hu (numsDs_mem d hnum u hu)) (fieldsF_names hin) (deep + 1) ⟨c.n + 1, max c.dp deep, 0⟩ hc0 hc1 h
      have hdl : d.length ≤ 4096 := by
        apply Decidable.byContradiction
        intro hn
        have h3 := fieldsF_long (d := d) (by omega)
        have h4 : fieldsF d = 0 := hin
        omega
      have := numB_ten (n := d.length) (by omega)
      have hl' : ((encDs d).length : Int) ≤ 70000 * ((partsF (d.map (·.2)) (deep + 1) ⟨c.n + 1, max c.dp deep, 0⟩).2.n - (c.n + 1)) := hl
      rw [encV, List.length_cons, List.length_append]
      show (((numB d.length).length + (encDs d).length + 1 : Nat) : Int) + 42 ≤ 70000 * ((partsF (d.map (·.2)) (deep + 1) ⟨c.n + 1, max c.dp deep, 0⟩).2.n - c.n)
      omega
    | record s n d =>
      obtain ⟨hs, hn0, hn1, hf⟩ := record_own hin
      have hl := encDs_len d (fun u hu => ih u hu (numsDs_mem d hnum u hu)) (fieldsF_names hf) (deep + 1) ⟨c.n + 1, max c.dp deep, 0⟩ hc0 hc1 h
      have hdl : d.length ≤ 4096 := by
        apply Decidable.byContradiction
        intro hn
        have h3 := fieldsF_long (d := d) (by omega)
        omega
      have h5 := numB_ten (n := d.length) (by omega)
      have h6 := numB_ten (n := n.toNat) (by omega)
      have hsz := nameOk_size hs
      have ht := textB_len s (by omega)
      have hl' : ((encDs d).length : Int) ≤ 70000 * ((partsF (d.map (·.2)) (deep + 1) ⟨c.n + 1, max c.dp deep, 0⟩).2.n - (c.n + 1)) := hl
      rw [encV, List.length_cons, List.length_append, List.length_append, List.length_append]
      show (((textB s).length + ((numB n.toNat).length + ((numB d.length).length + (encDs d).length)) + 1 : Nat) : Int) + 42 ≤ 70000 * ((partsF (d.map (·.2)) (deep + 1) ⟨c.n + 1, max c.dp deep, 0⟩).2.n - c.n)
      omega
    | nothing => exact absurd hin (by decide)
    | alien u => exact absurd (show (6 : Int) = 0 from hin) (by decide)
  · cases h
end Go.Proofs.Ytgmdbpplfjkjmaa

/-! Values that can be and have the same bytes are the same. -/
namespace Go.Proofs.Ytgmdbpplfjkjmaa
open Go.RowKit
set_option linter.unusedVariables false
set_option linter.unusedSimpArgs false

theorem ofNat_inj {a b : Nat} (ha : a < 256) (hb : b < 256) (h : UInt8.ofNat a = UInt8.ofNat b) : a = b := by
  have h1 := congrArg UInt8.toNat h
  rw [UInt8.toNat_ofNat', UInt8.toNat_ofNat', Nat.mod_eq_of_lt ha, Nat.mod_eq_of_lt hb] at h1
  exact h1
theorem numB_inj : ∀ (k m : Nat), m ≤ k → ∀ (n : Nat) (r s : List UInt8), numB m ++ r = numB n ++ s → m = n ∧ r = s := by
  intro k
  induction k with
  | zero =>
    intro m hm n r s h
    obtain rfl : m = 0 := by omega
    rw [numB_small (by omega)] at h
    by_cases hn : n < 128
    · rw [numB_small hn] at h
      injection h with h1 h2
      exact ⟨ofNat_inj (by omega) (by omega) h1, h2⟩
    · rw [numB_big hn] at h
      injection h with h1 h2
      exact absurd (ofNat_inj (by omega) (by omega) h1) (by omega)
  | succ k ih =>
    intro m hm n r s h
    by_cases hm1 : m < 128
    · rw [numB_small hm1] at h
      by_cases hn : n < 128
      · rw [numB_small hn] at h
        injection h with h1 h2
        exact ⟨ofNat_inj (by omega) (by omega) h1, h2⟩
      · rw [numB_big hn] at h
        injection h with h1 h2
        exact absurd (ofNat_inj (by omega) (by omega) h1) (by omega)
    · rw [numB_big hm1] at h
      by_cases hn : n < 128
      · rw [numB_small hn] at h
        injection h with h1 h2
        exact absurd (ofNat_inj (by omega) (by omega) h1) (by omega)
      · rw [numB_big hn] at h
        injection h with h1 h2
        have e := ofNat_inj (by omega) (by omega) h1
        obtain ⟨h3, h4⟩ := ih (m / 128) (by omega) (n / 128) r s h2
        exact ⟨by omega, h4⟩
theorem num_inj {m n : Nat} {r s : List UInt8} (h : numB m ++ r = numB n ++ s) : m = n ∧ r = s := numB_inj m m (Nat.le_refl _) n r s h
theorem text_inj {x y : ByteArray} {r s : List UInt8} (h : textB x ++ r = textB y ++ s) : x = y ∧ r = s := by
  unfold textB at h
  rw [List.append_assoc, List.append_assoc] at h
  obtain ⟨h1, h2⟩ := num_inj h
  have hx : x.data.toList.length = x.size := by simp
  have hy : y.data.toList.length = y.size := by simp
  obtain ⟨h3, h4⟩ := List.append_inj h2 (by omega)
  exact ⟨ByteArray.ext (Array.ext' h3), h4⟩
theorem bytes_inj {x y : List UInt8} {r s : List UInt8} (h : numB x.length ++ x ++ r = numB y.length ++ y ++ s) : x = y ∧ r = s := by
  rw [List.append_assoc, List.append_assoc] at h
  obtain ⟨h1, h2⟩ := num_inj h
  exact List.append_inj h2 h1
theorem f8_inj {b c : Nat} (hb : b < 18446744073709551616) (hc : c < 18446744073709551616) {r s : List UInt8} (h : f8 b ++ r = f8 c ++ s) : b = c ∧ r = s := by
  unfold f8 at h
  injection h with h0 h
  injection h with h1 h
  injection h with h2 h
  injection h with h3 h
  injection h with h4 h
  injection h with h5 h
  injection h with h6 h
  injection h with h7 h
  have e0 := ofNat_inj (Nat.mod_lt _ (by decide)) (Nat.mod_lt _ (by decide)) h0
  have e1 := ofNat_inj (Nat.mod_lt _ (by decide)) (Nat.mod_lt _ (by decide)) h1
  have e2 := ofNat_inj (Nat.mod_lt _ (by decide)) (Nat.mod_lt _ (by decide)) h2
  have e3 := ofNat_inj (Nat.mod_lt _ (by decide)) (Nat.mod_lt _ (by decide)) h3
  have e4 := ofNat_inj (Nat.mod_lt _ (by decide)) (Nat.mod_lt _ (by decide)) h4
  have e5 := ofNat_inj (Nat.mod_lt _ (by decide)) (Nat.mod_lt _ (by decide)) h5
  have e6 := ofNat_inj (Nat.mod_lt _ (by decide)) (Nat.mod_lt _ (by decide)) h6
  have e7 := ofNat_inj (Nat.mod_lt _ (by decide)) (Nat.mod_lt _ (by decide)) h7
  refine ⟨?_, h⟩
  clear h0 h1 h2 h3 h4 h5 h6 h7 h
  have s1 : b / 256 % 256 + 256 * (b / 65536) = b / 256 := by omega
  have s2 : c / 256 % 256 + 256 * (c / 65536) = c / 256 := by omega
  have g7 : b / 72057594037927936 = c / 72057594037927936 := by omega
  have g6 : b / 281474976710656 = c / 281474976710656 := by omega
  have g5 : b / 1099511627776 = c / 1099511627776 := by omega
  have g4 : b / 4294967296 = c / 4294967296 := by omega
  have g3 : b / 16777216 = c / 16777216 := by omega
  have g2 : b / 65536 = c / 65536 := by omega
  have g1 : b / 256 = c / 256 := by omega
  omega
theorem zz_inj {m n : Int} (h : zzN m = zzN n) : m = n := by unfold zzN at h; split at h <;> split at h <;> omega
def EncInj (v : Val) : Prop := numsV v → okV v → ∀ (u : Val), numsV u → okV u → ∀ (r s : List UInt8), encV v ++ r = encV u ++ s → v = u ∧ r = s
theorem encVs_inj : ∀ (l : List Val), (∀ v ∈ l, EncInj v) → numsVs l → okVs l → ∀ (m : List Val), numsVs m → okVs m → l.length = m.length → ∀ (r s : List UInt8), encVs l ++ r = encVs m ++ s → l = m ∧ r = s
  | [], _, _, _, [], _, _, _, r, s, h => ⟨rfl, by rw [encVs] at h; exact h⟩
  | [], _, _, _, _ :: _, _, _, e, _, _, _ => by simp at e
  | _ :: _, _, _, _, [], _, _, e, _, _, _ => by simp at e
  | v :: l, ih, hn, ho, u :: m, hn', ho', e, r, s, h => by
    rw [encVs, encVs, List.append_assoc, List.append_assoc] at h
    obtain ⟨rfl, h2⟩ := ih v (List.mem_cons_self ..) hn.1 ho.1 u hn'.1 ho'.1 _ _ h
    obtain ⟨rfl, h3⟩ := encVs_inj l (fun x hx => ih x (List.mem_cons_of_mem _ hx)) hn.2 ho.2 m hn'.2 ho'.2 (by simpa using e) _ _ h2
    exact ⟨rfl, h3⟩
theorem encDs_inj : ∀ (l : List (ByteArray × Val)), (∀ v ∈ l.map (·.2), EncInj v) → numsDs l → okDs l → ∀ (m : List (ByteArray × Val)), numsDs m → okDs m → l.length = m.length → ∀ (r s : List UInt8), encDs l ++ r = encDs m ++ s → l = m ∧ r = s
  | [], _, _, _, [], _, _, _, r, s, h => ⟨rfl, by rw [encDs] at h; exact h⟩
  | [], _, _, _, _ :: _, _, _, e, _, _, _ => by simp at e
  | _ :: _, _, _, _, [], _, _, e, _, _, _ => by simp at e
  | (x, v) :: l, ih, hn, ho, (y, u) :: m, hn', ho', e, r, s, h => by
    rw [encDs, encDs, encP, encP, List.append_assoc, List.append_assoc, List.append_assoc, List.append_assoc] at h
    obtain ⟨rfl, h1⟩ := text_inj h
    obtain ⟨rfl, h2⟩ := ih v (by simp) hn.1 ho.1 u hn'.1 ho'.1 _ _ h1
    obtain ⟨rfl, h3⟩ := encDs_inj l (fun x hx => ih x (by rw [List.map_cons]; exact List.mem_cons_of_mem _ hx)) hn.2 ho.2 m hn'.2 ho'.2 (by simpa using e) _ _ h2
    exact ⟨rfl, h3⟩
theorem enc_inj : ∀ v : Val, EncInj v := val_ind fun v ih hn ho u hn' ho' r s h => by
  have hk : kindV v = kindV u := by
    cases v <;> cases u <;> first | rfl | exact ho.elim | exact ho'.elim | (rw [encV, encV] at h; injection h with h1 h2; exact absurd h1 (by decide))
  cases v with
  | nil => cases u <;> first | (rw [encV] at h; injection h with h1 h2; exact ⟨rfl, h2⟩) | exact absurd hk (by simp [kindV]) | exact ho'.elim
  | bool b =>
    cases u with
    | bool c =>
      rw [encV, encV] at h
      injection h with h1 h2
      injection h2 with h2 h3
      refine ⟨?_, h3⟩
      cases b <;> cases c <;> first | rfl | exact absurd h2 (by decide)
    | _ => exact absurd hk (by simp [kindV])
  | int n =>
    cases u with
    | int m =>
      rw [encV, encV] at h
      injection h with h1 h2
      obtain ⟨h3, h4⟩ := num_inj h2
      exact ⟨by rw [zz_inj h3], h4⟩
    | _ => exact absurd hk (by simp [kindV])
  | float b =>
    cases u with
    | float c =>
      rw [encV, encV] at h
      injection h with h1 h2
      obtain ⟨h3, h4⟩ := f8_inj hn hn' h2
      exact ⟨by rw [h3], h4⟩
    | _ => exact absurd hk (by simp [kindV])
  | text x =>
    cases u with
    | text y =>
      rw [encV, encV] at h
      injection h with h1 h2
      obtain ⟨h3, h4⟩ := text_inj h2
      exact ⟨by rw [h3], h4⟩
    | _ => exact absurd hk (by simp [kindV])
  | bytes x =>
    cases u with
    | bytes y =>
      rw [encV, encV] at h
      injection h with h1 h2
      obtain ⟨h3, h4⟩ := bytes_inj h2
      exact ⟨by rw [h3], h4⟩
    | _ => exact absurd hk (by simp [kindV])
  | ref n =>
    cases u with
    | ref m =>
      rw [encV, encV] at h
      injection h with h1 h2
      obtain ⟨h3, h4⟩ := num_inj h2
      have a1 : 0 ≤ n := hn.1
      have a2 : 0 ≤ m := hn'.1
      exact ⟨by rw [show n = m by omega], h4⟩
    | _ => exact absurd hk (by simp [kindV])
  | list l =>
    cases u with
    | list m =>
      rw [encV, encV] at h
      injection h with h1 h2
      have h2 : (numB l.length ++ encVs l) ++ r = (numB m.length ++ encVs m) ++ s := h2
      rw [List.append_assoc, List.append_assoc] at h2
      obtain ⟨h3, h4⟩ := num_inj h2
      obtain ⟨h5, h6⟩ := encVs_inj l ih hn ho.2 m hn' ho'.2 h3 _ _ h4
      exact ⟨by rw [h5], h6⟩
    | _ => exact absurd hk (by simp [kindV])
  | dict l =>
    cases u with
    | dict m =>
      rw [encV, encV] at h
      injection h with h1 h2
      have h2 : (numB l.length ++ encDs l) ++ r = (numB m.length ++ encDs m) ++ s := h2
      rw [List.append_assoc, List.append_assoc] at h2
      obtain ⟨h3, h4⟩ := num_inj h2
      obtain ⟨h5, h6⟩ := encDs_inj l ih hn ho.2 m hn' ho'.2 h3 _ _ h4
      exact ⟨by rw [h5], h6⟩
    | _ => exact absurd hk (by simp [kindV])
  | record x n l =>
    cases u with
    | record y k m =>
      obtain ⟨-, a1, -, -⟩ := record_own ho.1
      obtain ⟨-, a2, -, -⟩ := record_own ho'.1
      rw [encV, encV] at h
      injection h with h1 h2
      have h2 : (textB x ++ (numB n.toNat ++ (numB l.length ++ encDs l))) ++ r = (textB y ++ (numB k.toNat ++ (numB m.length ++ encDs m))) ++ s := h2
      rw [List.append_assoc, List.append_assoc, List.append_assoc, List.append_assoc, List.append_assoc, List.append_assoc] at h2
      obtain ⟨h3, h4⟩ := text_inj h2
      obtain ⟨h5, h6⟩ := num_inj h4
      obtain ⟨h7, h8⟩ := num_inj h6
      obtain ⟨h9, h10⟩ := encDs_inj l ih hn ho.2 m hn' ho'.2 h7 _ _ h8
      exact ⟨by rw [h3, h9, show n = k by omega], h10⟩
    | _ => exact absurd hk (by simp [kindV])
  | nothing => exact ho.elim
  | alien u => exact ho.elim
/-- The bytes tell the values apart. -/
theorem enc_same {v u : Val} (hn : numsV v) (ho : okV v) (hn' : numsV u) (ho' : okV u) : encV v = encV u ↔ v = u :=
  ⟨fun h => (enc_inj v hn ho u hn' ho' [] [] (by rw [List.append_nil, List.append_nil, h])).1, fun h => by rw [h]⟩
end Go.Proofs.Ytgmdbpplfjkjmaa
