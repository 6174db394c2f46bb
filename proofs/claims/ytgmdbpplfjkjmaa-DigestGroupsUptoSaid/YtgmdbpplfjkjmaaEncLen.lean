/- How long a value's bytes are at most; that values with the same bytes are the same. -/
import Derived.Test.YtgmdbpplfjkjmaaWireEnc
import Derived.Test.YtgmdbpplfjkjmaaRefPart
import Derived.Test.YtgmdbpplfjkjmaaBuilt
namespace Go.Proofs.Ytgmdbpplfjkjmaa
open Go.RowKit
set_option linter.unusedVariables false
set_option linter.unusedSimpArgs false

theorem nameOk_size {s : ByteArray} (h : nameOk s = true) : s.size ≤ 32 := by
  apply Decidable.byContradiction
  intro hn
  have := nameOk_head (s := s) (by omega)
  rw [h] at this
  cases this
theorem fieldsF_names {d : List (ByteArray × Val)} (h : fieldsF d = 0) : ∀ p ∈ d, nameOk p.1 = true := fun p hp => by
  have hl : d.length ≤ 4096 := by
    apply Decidable.byContradiction
    intro hn
    have := fieldsF_long (d := d) (by omega)
    omega
  obtain ⟨k, hk⟩ := List.getElem?_of_mem hp
  cases hno : nameOk p.1 with
  | true => rfl
  | false =>
    have := fieldsF_bad hl (List.getElem?_eq_some_iff.1 hk).1 (badName_name hk hno)
    omega
mutual
/-- A value's numbers are what their types bear. -/
def numsV : Val → Prop
  | .int n => -9223372036854775808 ≤ n ∧ n ≤ 9223372036854775807
  | .float b => b < 18446744073709551616
  | .ref n => 0 ≤ n ∧ n ≤ 18446744073709551615
  | .list l => numsVs l
  | .dict d => numsDs d
  | .record _ _ d => numsDs d
  | .nil => True
  | .bool _ => True
  | .text _ => True
  | .bytes _ => True
  | .nothing => True
  | .alien _ => True
def numsVs : List Val → Prop
  | [] => True
  | v :: l => numsV v ∧ numsVs l
def numsDs : List (ByteArray × Val) → Prop
  | [] => True
  | p :: l => numsP p ∧ numsDs l
def numsP : ByteArray × Val → Prop
  | (_, v) => numsV v
end
theorem numsVs_mem : ∀ (l : List Val), numsVs l → ∀ v ∈ l, numsV v
  | [], _, v, h => by cases h
  | u :: l, hs, v, h => by
    rw [numsVs] at hs
    rcases List.mem_cons.1 h with rfl | h
    · exact hs.1
    · exact numsVs_mem l hs.2 v h
theorem numsDs_mem : ∀ (l : List (ByteArray × Val)), numsDs l → ∀ u ∈ l.map (·.2), numsV u
  | [], _, v, h => by cases h
  | (s, u) :: l, hs, v, h => by
    rw [numsDs, numsP] at hs
    rw [List.map_cons] at h
    rcases List.mem_cons.1 h with rfl | h
    · exact hs.1
    · exact numsDs_mem l hs.2 v h
/-- What Built makes of a term has such numbers. -/
theorem nums_built {w : World} : ∀ (t : Term), (∀ cs, TRep w t cs → numsV (builtV t)) := term_all fun t ih => by
  obtain ⟨k, b, n, fl, tx, bs, rf, ls, es, cl, ver⟩ := t
  intro cs h
  simp only [TRep] at h
  obtain ⟨sb, sl, se, xl, xe, rfl, ⟨-, hn, hf, -, hr, -, -⟩, -, -, hls, -, hes⟩ := h
  have hn' : -9223372036854775808 ≤ n ∧ n ≤ 9223372036854775807 := by simpa [Lit.wf, IntKind.min, IntKind.max, IntKind.signed, IntKind.bits] using hn
  have hr' : 0 ≤ rf ∧ rf ≤ 18446744073709551615 := by simpa [Lit.wf, IntKind.min, IntKind.max, IntKind.signed, IntKind.bits] using hr
  have hf' : fl < 18446744073709551616 := by simpa [Lit.wf] using hf
  have hVs : ∀ (l : List Term) (xs : List Value), TsRep w l xs → (∀ u ∈ l, ∀ cs, TRep w u cs → numsV (builtV u)) → numsVs (builtVs l) := by
    intro l
    induction l with
    | nil => intro xs _ _; rw [builtVs, numsVs]; trivial
    | cons u l il =>
      rintro xs ⟨cs, ys, -, h1, h2⟩ hu
      rw [builtVs, numsVs]
      exact ⟨hu u List.mem_cons_self cs h1, il ys h2 (fun v hv => hu v (List.mem_cons_of_mem _ hv))⟩
  have hDs : ∀ (l : List (ByteArray × Term)) (xs : List Value), EsRep w l xs → (∀ u ∈ l.map (·.2), ∀ cs, TRep w u cs → numsV (builtV u)) → numsDs (builtEs l) := by
    intro l
    induction l with
    | nil => intro xs _ _; rw [builtEs, numsDs]; trivial
    | cons p l il =>
      obtain ⟨s, u⟩ := p
      rintro xs ⟨cs, ys, -, -, h1, h2⟩ hu
      rw [builtEs, builtE, numsDs, numsP]
      exact ⟨hu u (by simp) cs h1, il ys h2 (fun v hv => hu v (List.mem_cons_of_mem _ hv))⟩
  have h1 := hVs ls xl hls (fun u hu => ih u (List.mem_append_left _ hu))
  have h2 := hDs es xe hes (fun u hu => ih u (List.mem_append_right _ hu))
  rw [builtV]
  cases (k == 1) <;> cases (k == 2) <;> cases (k == 3) <;> cases (k == 4) <;> cases (k == 5) <;> cases (k == 6) <;> cases (k == 7) <;> cases (k == 8) <;> cases (k == 9) <;> cases (k == 10) <;> cases (k == 11) <;> simp only [cond_true, cond_false, numsV] <;> first | trivial | exact hn' | exact hf' | exact hr' | exact h1 | exact h2
theorem encVs_len : ∀ (l : List Val), (∀ v ∈ l, ∀ (deep : Int) (c : Cnt), 0 ≤ c.n → c.n ≤ 16384 → (partF v deep c).1 = true → ((encV v).length : Int) + 42 ≤ 70000 * ((partF v deep c).2.n - c.n)) →
    ∀ (deep : Int) (c : Cnt), 0 ≤ c.n → c.n ≤ 16384 → (partsF l deep c).1 = true → ((encVs l).length : Int) ≤ 70000 * ((partsF l deep c).2.n - c.n)
  | [], _, deep, c, _, _, _ => by rw [partsF, encVs]; simp
  | v :: l, h, deep, c, h0, h1, hp => by
    rw [partsF] at hp ⊢
    have hv := h v (List.mem_cons_self ..) deep c h0 h1
    have hn := partF_n v deep c h0 h1
    cases e : partF v deep c with
    | mk ok c1 =>
      rw [e] at hp hv hn
      cases ok with
      | false => cases hp
      | true =>
        have h2 := encVs_len l (fun u hu => h u (List.mem_cons_of_mem _ hu)) deep c1 hn.1 hn.2 hp
        have hv' : ((encV v).length : Int) + 42 ≤ 70000 * (c1.n - c.n) := hv rfl
        rw [encVs, List.length_append]
        show (((encV v).length + (encVs l).length : Nat) : Int) ≤ 70000 * ((partsF l deep c1).2.n - c.n)
        have h2' : ((encVs l).length : Int) ≤ 70000 * ((partsF l deep c1).2.n - c1.n) := h2
        omega
theorem encDs_len : ∀ (d : List (ByteArray × Val)), (∀ v ∈ d.map (·.2), ∀ (deep : Int) (c : Cnt), 0 ≤ c.n → c.n ≤ 16384 → (partF v deep c).1 = true → ((encV v).length : Int) + 42 ≤ 70000 * ((partF v deep c).2.n - c.n)) → (∀ p ∈ d, nameOk p.1 = true) →
    ∀ (deep : Int) (c : Cnt), 0 ≤ c.n → c.n ≤ 16384 → (partsF (d.map (·.2)) deep c).1 = true → ((encDs d).length : Int) ≤ 70000 * ((partsF (d.map (·.2)) deep c).2.n - c.n)
  | [], _, _, deep, c, _, _, _ => by rw [List.map_nil, partsF, encDs]; simp
  | (s, v) :: l, h, hnm, deep, c, h0, h1, hp => by
    rw [List.map_cons, partsF] at hp ⊢
    have hv := h v (by simp) deep c h0 h1
    have hn := partF_n v deep c h0 h1
    have hs : s.size ≤ 32 := nameOk_size (hnm (s, v) (List.mem_cons_self ..))
    have ht := textB_len s (by omega)
    cases e : partF v deep c with
    | mk ok c1 =>
      rw [e] at hp hv hn
      cases ok with
      | false => cases hp
      | true =>
        have h2 := encDs_len l (fun u hu => h u (by rw [List.map_cons]; exact List.mem_cons_of_mem _ hu)) (fun p hp => hnm p (List.mem_cons_of_mem _ hp)) deep c1 hn.1 hn.2 hp
        have hv' : ((encV v).length : Int) + 42 ≤ 70000 * (c1.n - c.n) := hv rfl
        rw [encDs, encP, List.length_append, List.length_append]
        show (((textB s).length + (encV v).length + (encDs l).length : Nat) : Int) ≤ 70000 * ((partsF (l.map (·.2)) deep c1).2.n - c.n)
        have h2' : ((encDs l).length : Int) ≤ 70000 * ((partsF (l.map (·.2)) deep c1).2.n - c1.n) := h2
        have hs' : s.size ≤ 32 := hs
        omega
theorem record_own {c : ByteArray} {n : Int} {d : List (ByteArray × Val)} (h : ownIn (.record c n d) = 0) : nameOk c = true ∧ 1 ≤ n ∧ n ≤ 1000 ∧ fieldsF d = 0 := by
  have h1 : (if nameOk c = false then (8 : Int) else if n < 1 ∨ 1000 < n then 1 else fieldsF d) = 0 := h
  split at h1
  · omega
  · split at h1
    · omega
    · rename_i hc hn
      exact ⟨by simpa using hc, by omega, by omega, h1⟩
theorem enc_len : ∀ (v : Val), numsV v → ∀ (deep : Int) (c : Cnt), 0 ≤ c.n → c.n ≤ 16384 → (partF v deep c).1 = true → ((encV v).length : Int) + 42 ≤ 70000 * ((partF v deep c).2.n - c.n) := val_ind fun v ih hnum deep c h0 h1 h => by
  rw [partF_subs] at h ⊢
  unfold stepF at h ⊢
  split at h
  · rename_i ho
    rw [if_pos ho]
    have hin := ownF_in ho
    have hc := ownF_n ho
    have hc0 : 0 ≤ (⟨c.n + 1, max c.dp deep, 0⟩ : Cnt).n := by show 0 ≤ c.n + 1; omega
    have hc1 : (⟨c.n + 1, max c.dp deep, 0⟩ : Cnt).n ≤ 16384 := by show c.n + 1 ≤ 16384; omega
    have hleaf : subs v = [] → (partsF (subs v) (deep + 1) ⟨c.n + 1, max c.dp deep, 0⟩).2.n = c.n + 1 := fun e => by rw [e, partsF]
    show ((encV v).length : Int) + 42 ≤ 70000 * ((partsF (subs v) (deep + 1) ⟨c.n + 1, max c.dp deep, 0⟩).2.n - c.n)
    cases v with
    | nil => rw [hleaf rfl, encV]; simp; omega
    | bool b => rw [hleaf rfl, encV]; simp; omega
    | int n =>
      rw [hleaf rfl, encV, List.length_cons]
      have := numB_ten (zzN_lt n hnum.1 hnum.2)
      omega
    | float b => rw [hleaf rfl, encV]; simp [f8]; omega
    | text s =>
      have h2 : (if 65536 < s.size then (2 : Int) else 0) = 0 := hin
      have hs : s.size ≤ 65536 := by split at h2 <;> omega
      have := textB_len s (by omega)
      rw [hleaf rfl, encV, List.length_cons]; omega
    | bytes l =>
      have h2 : (if 65536 < l.length then (2 : Int) else 0) = 0 := hin
      have hs : l.length ≤ 65536 := by split at h2 <;> omega
      have := numB_ten (n := l.length) (by omega)
      rw [hleaf rfl, encV, List.length_cons, List.length_append]; omega
    | ref n =>
      have hr : 0 ≤ n ∧ n ≤ 18446744073709551615 := hnum
      have := numB_ten (n := n.toNat) (by omega)
      rw [hleaf rfl, encV, List.length_cons]; omega
    | list l =>
      have h2 : (if 4096 < l.length then (2 : Int) else 0) = 0 := hin
      have hs : l.length ≤ 4096 := by split at h2 <;> omega
      have hl := encVs_len l (fun u hu => ih u hu (numsVs_mem l hnum u hu)) (deep + 1) ⟨c.n + 1, max c.dp deep, 0⟩ hc0 hc1 h
      have := numB_ten (n := l.length) (by omega)
      have hl' : ((encVs l).length : Int) ≤ 70000 * ((partsF l (deep + 1) ⟨c.n + 1, max c.dp deep, 0⟩).2.n - (c.n + 1)) := hl
      rw [encV, List.length_cons, List.length_append]
      show (((numB l.length).length + (encVs l).length + 1 : Nat) : Int) + 42 ≤ 70000 * ((partsF l (deep + 1) ⟨c.n + 1, max c.dp deep, 0⟩).2.n - c.n)
      omega
    | dict d =>
      have hl := encDs_len d (fun u hu => ih u hu (numsDs_mem d hnum u hu)) (fieldsF_names hin) (deep + 1) ⟨c.n + 1, max c.dp deep, 0⟩ hc0 hc1 h
      have hdl : d.length ≤ 4096 := by
        apply Decidable.byContradiction
        intro hn
        have h3 := fieldsF_long (d := d) (by omega)
        have h4 : fieldsF d = 0 := hin
        omega
      have := numB_ten (n := d.length) (by omega)
      have hl' : ((encDs d).length : Int) ≤ 70000 * ((partsF (d.map (·.2)) (deep + 1) ⟨c.n + 1, max c.dp deep, 0⟩).2.n - (c.n + 1)) := hl
      rw [encV, List.length_cons, List.length_append]
      show (((numB d.length).length + (encDs d).length + 1 : Nat) : Int) + 42 ≤ 70000 * ((partsF (d.map (·.2)) (deep + 1) ⟨c.n + 1, max c.dp deep, 0⟩).2.n - c.n)
      omega
    | record s n d =>
      obtain ⟨hs, hn0, hn1, hf⟩ := record_own hin
      have hl := encDs_len d (fun u hu => ih u hu (numsDs_mem d hnum u hu)) (fieldsF_names hf) (deep + 1) ⟨c.n + 1, max c.dp deep, 0⟩ hc0 hc1 h
      have hdl : d.length ≤ 4096 := by
        apply Decidable.byContradiction
        intro hn
        have h3 := fieldsF_long (d := d) (by omega)
        omega
      have h5 := numB_ten (n := d.length) (by omega)
      have h6 := numB_ten (n := n.toNat) (by omega)
      have hsz := nameOk_size hs
      have ht := textB_len s (by omega)
      have hl' : ((encDs d).length : Int) ≤ 70000 * ((partsF (d.map (·.2)) (deep + 1) ⟨c.n + 1, max c.dp deep, 0⟩).2.n - (c.n + 1)) := hl
      rw [encV, List.length_cons, List.length_append, List.length_append, List.length_append]
      show (((textB s).length + ((numB n.toNat).length + ((numB d.length).length + (encDs d).length)) + 1 : Nat) : Int) + 42 ≤ 70000 * ((partsF (d.map (·.2)) (deep + 1) ⟨c.n + 1, max c.dp deep, 0⟩).2.n - c.n)
      omega
    | nothing => exact absurd hin (by decide)
    | alien u => exact absurd (show (6 : Int) = 0 from hin) (by decide)
  · cases h
end Go.Proofs.Ytgmdbpplfjkjmaa
