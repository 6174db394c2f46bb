/- A term without what plays no part; what plain says of a value that can be, it says. -/
import Derived.Test.YtgmdbpplfjkjmaaSameT
import Derived.Test.YtgmdbpplfjkjmaaPlainT
import Derived.Test.YtgmdbpplfjkjmaaRefPart
namespace Go.Proofs.Ytgmdbpplfjkjmaa
open Go.RowKit
set_option linter.unusedVariables false
set_option linter.unusedSimpArgs false

mutual
/-- Clean. -/
def cleanT : Term → Term
  | .mk k b n fl tx bs rf ls es cl ver => bif k == 2 then .mk 2 b 0 0 ⟨#[]⟩ [] 0 [] [] ⟨#[]⟩ 0 else bif k == 3 then .mk 3 false n 0 ⟨#[]⟩ [] 0 [] [] ⟨#[]⟩ 0 else bif k == 4 then .mk 4 false 0 fl ⟨#[]⟩ [] 0 [] [] ⟨#[]⟩ 0 else
      bif k == 5 then .mk 5 false 0 0 tx [] 0 [] [] ⟨#[]⟩ 0 else bif k == 6 then .mk 6 false 0 0 ⟨#[]⟩ bs 0 [] [] ⟨#[]⟩ 0 else bif k == 7 then .mk 7 false 0 0 ⟨#[]⟩ [] rf [] [] ⟨#[]⟩ 0 else
      bif k == 8 then .mk 8 false 0 0 ⟨#[]⟩ [] 0 (cleanTs ls) [] ⟨#[]⟩ 0 else bif k == 10 then .mk 10 false 0 0 ⟨#[]⟩ [] 0 [] (cleanEs es) cl ver else bif k == 9 then .mk 9 false 0 0 ⟨#[]⟩ [] 0 [] (cleanEs es) ⟨#[]⟩ 0 else tK k
def cleanTs : List Term → List Term
  | [] => []
  | t :: l => cleanT t :: cleanTs l
def cleanEs : List (ByteArray × Term) → List (ByteArray × Term)
  | [] => []
  | p :: l => (p.1, cleanE p) :: cleanEs l
def cleanE : ByteArray × Term → Term
  | (_, t) => cleanT t
end
theorem cleanTs_eq : ∀ l : List Term, cleanTs l = l.map cleanT
  | [] => by rw [cleanTs]; rfl
  | t :: l => by rw [cleanTs, cleanTs_eq l]; rfl
theorem cleanEs_eq : ∀ l : List (ByteArray × Term), cleanEs l = l.map fun p => (p.1, cleanT p.2)
  | [] => by rw [cleanEs]; rfl
  | (s, t) :: l => by rw [cleanEs, cleanEs_eq l, cleanE]; rfl
theorem ownF_mono {v : Val} {n deep n' deep' : Int} (h : ownF v n deep = 0) (hn : n' ≤ n) (hd : deep' ≤ deep) : ownF v n' deep' = 0 := by
  have h1 : ¬ (16384 ≤ n ∨ 64 < deep) := fun h1 => by
    unfold ownF at h
    rw [if_pos h1] at h
    split at h <;> (try split at h) <;> omega
  unfold ownF at h ⊢
  rw [if_neg h1] at h
  rw [if_neg (by omega)]
  exact h
theorem partsF_mono : ∀ (l : List Val), (∀ v ∈ l, ∀ (deep : Int) (c : Cnt) (deep' : Int) (c' : Cnt), (partF v deep c).1 = true → deep' ≤ deep → c'.n ≤ c.n → (partF v deep' c').1 = true ∧ (partF v deep' c').2.n + c.n ≤ (partF v deep c).2.n + c'.n) →
    ∀ (deep : Int) (c : Cnt) (deep' : Int) (c' : Cnt), (partsF l deep c).1 = true → deep' ≤ deep → c'.n ≤ c.n → (partsF l deep' c').1 = true ∧ (partsF l deep' c').2.n + c.n ≤ (partsF l deep c).2.n + c'.n
  | [], _, deep, c, deep', c', _, _, hn => by rw [partsF, partsF]; exact ⟨rfl, by show c'.n + c.n ≤ c.n + c'.n; omega⟩
  | v :: l, h, deep, c, deep', c', h1, hd, hn => by
    rw [partsF] at h1 ⊢
    have hv := h v (List.mem_cons_self ..) deep c deep' c'
    cases e : partF v deep c with
    | mk ok c1 =>
      rw [e] at h1 hv
      cases ok with
      | false => cases h1
      | true =>
        obtain ⟨g1, g2⟩ := hv rfl hd hn
        cases e' : partF v deep' c' with
        | mk ok' c1' =>
          rw [e'] at g1 g2
          obtain rfl : ok' = true := g1
          have g2' : c1'.n + c.n ≤ c1.n + c'.n := g2
          obtain ⟨r1, r2⟩ := partsF_mono l (fun u hu => h u (List.mem_cons_of_mem _ hu)) deep c1 deep' c1' h1 hd (by omega)
          refine ⟨r1, ?_⟩
          rw [partsF, e]
          show (partsF l deep' c1').2.n + c.n ≤ (partsF l deep c1).2.n + c'.n
          omega
theorem partF_mono : ∀ (v : Val) (deep : Int) (c : Cnt) (deep' : Int) (c' : Cnt), (partF v deep c).1 = true → deep' ≤ deep → c'.n ≤ c.n → (partF v deep' c').1 = true ∧ (partF v deep' c').2.n + c.n ≤ (partF v deep c).2.n + c'.n :=
  val_ind fun v ih deep c deep' c' h hd hn => by
    rw [partF_subs] at h ⊢
    rw [partF_subs v deep c]
    unfold stepF at h ⊢
    split at h
    · rename_i ho
      rw [if_pos (ownF_mono ho hn hd), if_pos ho]
      obtain ⟨r1, r2⟩ := partsF_mono _ ih _ _ (deep' + 1) ⟨c'.n + 1, max c'.dp deep', 0⟩ h (by omega) (by show c'.n + 1 ≤ c.n + 1; omega)
      refine ⟨r1, ?_⟩
      show (partsF (subs v) (deep' + 1) ⟨c'.n + 1, max c'.dp deep', 0⟩).2.n + c.n ≤ (partsF (subs v) (deep + 1) ⟨c.n + 1, max c.dp deep, 0⟩).2.n + c'.n
      have r2' : (partsF (subs v) (deep' + 1) ⟨c'.n + 1, max c'.dp deep', 0⟩).2.n + (c.n + 1) ≤ (partsF (subs v) (deep + 1) ⟨c.n + 1, max c.dp deep, 0⟩).2.n + (c'.n + 1) := r2
      omega
    · cases h
theorem partsF_mem : ∀ (l : List Val) (deep : Int) (c : Cnt), 0 ≤ c.n → c.n ≤ 16384 → (partsF l deep c).1 = true → ∀ u ∈ l, ∃ c', 0 ≤ c'.n ∧ (partF u deep c').1 = true
  | [], _, _, _, _, _, u, hu => by cases hu
  | v :: l, deep, c, h0, h1, h, u, hu => by
    rw [partsF] at h
    have hn := partF_n v deep c h0 h1
    cases e : partF v deep c with
    | mk ok c1 =>
      rw [e] at h hn
      cases ok with
      | false => cases h
      | true =>
        rcases List.mem_cons.1 hu with rfl | hu
        · exact ⟨c, h0, by rw [e]⟩
        · exact partsF_mem l deep c1 hn.1 hn.2 h u hu
theorem kids_ok {v : Val} {deep : Int} {c : Cnt} (h0 : 0 ≤ c.n) (h : (partF v deep c).1 = true) : ∀ u ∈ subs v, ∃ c', 0 ≤ c'.n ∧ (partF u (deep + 1) c').1 = true := by
  rw [partF_subs] at h
  unfold stepF at h
  split at h
  · rename_i ho
    have := ownF_n ho
    exact partsF_mem _ _ _ (show 0 ≤ c.n + 1 by omega) (show c.n + 1 ≤ 16384 by omega) h
  · cases h
theorem sub_ok {v : Val} (h : okB v = true) : ∀ u ∈ subs v, okB u = true := fun u hu => by
  obtain ⟨c', h0, h1⟩ := kids_ok (c := ⟨0, 0, 0⟩) (Int.le_refl _) h u hu
  exact (partF_mono u _ c' 1 ⟨0, 0, 0⟩ h1 (by omega) h0).1

theorem part_deep {v : Val} {deep : Int} {c : Cnt} (h : (partF v deep c).1 = true) : ownF v c.n deep = 0 := by
  rw [partF_subs] at h
  unfold stepF at h
  split at h
  · assumption
  · cases h
theorem plain_clean : ∀ (t : Term) (deep : Int) (c : Cnt) (e : Int), 0 ≤ c.n → (partF (builtV t) deep c).1 = true → e ≤ deep + 300 → plainT (builtV t) e = cleanT t := term_all fun t ih => by
  intro deep c e h0 h he
  have hown := part_deep h
  have hd := ownF_deep hown
  have hin := ownF_in hown
  have hkids := kids_ok h0 h
  have hde : decide (400 < e) = false := by simp; omega
  obtain ⟨k, b, n, fl, tx, bs, rf, ls, es, cl, ver⟩ := t
  by_cases h1 : k = 1
  · subst h1; rw [builtV, cleanT]; simp only [Int.reduceBEq, cond_true, cond_false]; rw [plainT, hde]; rfl
  by_cases h2 : k = 2
  · subst h2; rw [builtV, cleanT]; simp only [Int.reduceBEq, cond_true, cond_false]; rw [plainT, hde]; rfl
  by_cases h3 : k = 3
  · subst h3; rw [builtV, cleanT]; simp only [Int.reduceBEq, cond_true, cond_false]; rw [plainT, hde]; rfl
  by_cases h4 : k = 4
  · subst h4; rw [builtV, cleanT]; simp only [Int.reduceBEq, cond_true, cond_false]; rw [plainT, hde]; rfl
  by_cases h5 : k = 5
  · subst h5; rw [builtV, cleanT]; simp only [Int.reduceBEq, cond_true, cond_false]; rw [plainT, hde]; rfl
  by_cases h6 : k = 6
  · subst h6; rw [builtV, cleanT]; simp only [Int.reduceBEq, cond_true, cond_false]; rw [plainT, hde]; rfl
  by_cases h7 : k = 7
  · subst h7; rw [builtV, cleanT]; simp only [Int.reduceBEq, cond_true, cond_false]; rw [plainT, hde]; rfl
  by_cases h8 : k = 8
  · subst h8
    have hb : builtV (.mk 8 b n fl tx bs rf ls es cl ver) = .list (builtVs ls) := by rw [builtV]; rfl
    rw [hb] at hkids ⊢
    rw [plainT, hde, cleanT]
    simp only [Int.reduceBEq, cond_true, cond_false]
    have : plainTs (builtVs ls) (e + 1) = cleanTs ls := by
      rw [plainTs_eq, builtVs_eq, cleanTs_eq, List.map_map]
      refine List.map_congr_left fun u hu => ?_
      obtain ⟨c', g0, g1⟩ := hkids (builtV u) (by show builtV u ∈ builtVs ls; rw [builtVs_eq]; exact List.mem_map.2 ⟨u, hu, rfl⟩)
      exact ih u (List.mem_append_left _ hu) (deep + 1) c' (e + 1) g0 g1 (by omega)
    rw [this]
  have hes : ∀ (hs : ∀ u ∈ es.map (·.2), ∃ c', 0 ≤ c'.n ∧ (partF (builtV u) (deep + 1) c').1 = true), plainEs (builtEs es) (e + 1) = cleanEs es := fun hs => by
    rw [plainEs_eq, builtEs_eq, cleanEs_eq, List.map_map]
    refine List.map_congr_left fun p hp => ?_
    have hm : p.2 ∈ es.map (·.2) := List.mem_map.2 ⟨p, hp, rfl⟩
    obtain ⟨c', g0, g1⟩ := hs p.2 hm
    show (p.1, plainT (builtV p.2) (e + 1)) = (p.1, cleanT p.2)
    rw [ih p.2 (List.mem_append_right _ hm) (deep + 1) c' (e + 1) g0 g1 (by omega)]
  have hsub : (builtEs es).map (·.2) = (es.map (·.2)).map builtV := by rw [builtEs_eq, List.map_map, List.map_map]; rfl
  by_cases h9 : k = 9
  · subst h9
    have hb : builtV (.mk 9 b n fl tx bs rf ls es cl ver) = .dict (builtEs es) := by rw [builtV]; rfl
    rw [hb] at hkids ⊢
    rw [plainT, hde, cleanT]
    simp only [Int.reduceBEq, cond_true, cond_false]
    rw [hes fun u hu => hkids (builtV u) (by show builtV u ∈ (builtEs es).map (·.2); rw [hsub]; exact List.mem_map.2 ⟨u, hu, rfl⟩)]
  by_cases h10 : k = 10
  · subst h10
    have hb : builtV (.mk 10 b n fl tx bs rf ls es cl ver) = .record cl ver (builtEs es) := by rw [builtV]; rfl
    rw [hb] at hkids ⊢
    rw [plainT, hde, cleanT]
    simp only [Int.reduceBEq, cond_true, cond_false]
    rw [hes fun u hu => hkids (builtV u) (by show builtV u ∈ (builtEs es).map (·.2); rw [hsub]; exact List.mem_map.2 ⟨u, hu, rfl⟩)]
  exfalso
  rw [builtV, show (k == 1) = false by simp; omega, show (k == 2) = false by simp; omega, show (k == 3) = false by simp; omega, show (k == 4) = false by simp; omega, show (k == 5) = false by simp; omega, show (k == 6) = false by simp; omega, show (k == 7) = false by simp; omega, show (k == 8) = false by simp; omega, show (k == 9) = false by simp; omega, show (k == 10) = false by simp; omega] at hin
  simp only [cond_false] at hin
  cases hk : k == 11 <;> rw [hk] at hin <;> simp [ownIn] at hin
/-- A term that can be is the same as itself, cleaned. -/
theorem same_clean : ∀ (t : Term) (deep : Int) (c : Cnt), 0 ≤ c.n → (partF (builtV t) deep c).1 = true → sameT (cleanT t) (cleanT t) = true := term_all fun t ih => by
  intro deep c h0 h
  have hin := ownF_in (part_deep h)
  have hkids := kids_ok h0 h
  obtain ⟨k, b, n, fl, tx, bs, rf, ls, es, cl, ver⟩ := t
  have hss : ∀ (l : List Term), (∀ u ∈ l, sameT u u = true) → sameTs l l = true := by
    intro l
    induction l with
    | nil => intro _; rw [sameTs]
    | cons u l ihl => intro hl; rw [sameTs, hl u (List.mem_cons_self ..), ihl (fun x hx => hl x (List.mem_cons_of_mem _ hx))]; rfl
  have hse : ∀ (l : List (ByteArray × Term)), (∀ p ∈ l, sameT p.2 p.2 = true) → sameEs l l = true := by
    intro l
    induction l with
    | nil => intro _; rw [sameEs]
    | cons p l ihl =>
      intro hl
      have h1 := hl p (List.mem_cons_self ..)
      obtain ⟨s, t⟩ := p
      rw [sameEs, sameP, h1, ihl (fun x hx => hl x (List.mem_cons_of_mem _ hx))]
      simp
  have hsub : (builtEs es).map (·.2) = (es.map (·.2)).map builtV := by rw [builtEs_eq, List.map_map, List.map_map]; rfl
  have hes : ∀ (hs : ∀ u ∈ es.map (·.2), ∃ c', 0 ≤ c'.n ∧ (partF (builtV u) (deep + 1) c').1 = true), sameEs (cleanEs es) (cleanEs es) = true := fun hs => hse _ fun p hp => by
    rw [cleanEs_eq] at hp
    obtain ⟨q, hq, rfl⟩ := List.mem_map.1 hp
    have hm : q.2 ∈ es.map (·.2) := List.mem_map.2 ⟨q, hq, rfl⟩
    obtain ⟨c', g0, g1⟩ := hs q.2 hm
    exact ih q.2 (List.mem_append_right _ hm) (deep + 1) c' g0 g1
  by_cases h1 : k = 1
  · subst h1; rw [cleanT]; simp only [Int.reduceBEq, cond_true, cond_false, tK]; rw [sameT]; rfl
  by_cases h2 : k = 2
  · subst h2; rw [cleanT]; simp only [Int.reduceBEq, cond_true, cond_false]; rw [sameT]; simp
  by_cases h3 : k = 3
  · subst h3; rw [cleanT]; simp only [Int.reduceBEq, cond_true, cond_false]; rw [sameT]; simp
  by_cases h4 : k = 4
  · subst h4; rw [cleanT]; simp only [Int.reduceBEq, cond_true, cond_false]; rw [sameT]; simp
  by_cases h5 : k = 5
  · subst h5; rw [cleanT]; simp only [Int.reduceBEq, cond_true, cond_false]; rw [sameT]; simp
  by_cases h6 : k = 6
  · subst h6; rw [cleanT]; simp only [Int.reduceBEq, cond_true, cond_false]; rw [sameT]; simp
  by_cases h7 : k = 7
  · subst h7; rw [cleanT]; simp only [Int.reduceBEq, cond_true, cond_false]; rw [sameT]; simp
  by_cases h8 : k = 8
  · subst h8
    have hb : builtV (.mk 8 b n fl tx bs rf ls es cl ver) = .list (builtVs ls) := by rw [builtV]; rfl
    rw [hb] at hkids
    rw [cleanT]; simp only [Int.reduceBEq, cond_true, cond_false]; rw [sameT]
    simp only [Int.reduceBEq, cond_true, cond_false, Bool.or_false, Bool.false_or, Bool.not_true, beq_self_eq_true]
    refine hss _ fun u hu => ?_
    rw [cleanTs_eq] at hu
    obtain ⟨q, hq, rfl⟩ := List.mem_map.1 hu
    obtain ⟨c', g0, g1⟩ := hkids (builtV q) (by show builtV q ∈ builtVs ls; rw [builtVs_eq]; exact List.mem_map.2 ⟨q, hq, rfl⟩)
    exact ih q (List.mem_append_left _ hq) (deep + 1) c' g0 g1
  by_cases h9 : k = 9
  · subst h9
    have hb : builtV (.mk 9 b n fl tx bs rf ls es cl ver) = .dict (builtEs es) := by rw [builtV]; rfl
    rw [hb] at hkids
    rw [cleanT]; simp only [Int.reduceBEq, cond_true, cond_false]; rw [sameT]
    simp only [Int.reduceBEq, cond_true, cond_false, Bool.or_false, Bool.false_or, Bool.not_true, beq_self_eq_true]
    exact hes fun u hu => hkids (builtV u) (by show builtV u ∈ (builtEs es).map (·.2); rw [hsub]; exact List.mem_map.2 ⟨u, hu, rfl⟩)
  by_cases h10 : k = 10
  · subst h10
    have hb : builtV (.mk 10 b n fl tx bs rf ls es cl ver) = .record cl ver (builtEs es) := by rw [builtV]; rfl
    rw [hb] at hkids
    rw [cleanT]; simp only [Int.reduceBEq, cond_true, cond_false]; rw [sameT]
    simp only [Int.reduceBEq, cond_true, cond_false, Bool.or_false, Bool.false_or, Bool.not_true, beq_self_eq_true, Bool.true_and]
    exact hes fun u hu => hkids (builtV u) (by show builtV u ∈ (builtEs es).map (·.2); rw [hsub]; exact List.mem_map.2 ⟨u, hu, rfl⟩)
  exfalso
  rw [builtV, show (k == 1) = false by simp; omega, show (k == 2) = false by simp; omega, show (k == 3) = false by simp; omega, show (k == 4) = false by simp; omega, show (k == 5) = false by simp; omega, show (k == 6) = false by simp; omega, show (k == 7) = false by simp; omega, show (k == 8) = false by simp; omega, show (k == 9) = false by simp; omega, show (k == 10) = false by simp; omega] at hin
  simp only [cond_false] at hin
  cases hk : k == 11 <;> rw [hk] at hin <;> simp [ownIn] at hin
/-- What Is answers of a term that can be, built and cleaned. -/
theorem is_same {t : Term} (h : okB (builtV t) = true) : sameT (plainT (builtV t) 0) (cleanT t) = true := by
  rw [plain_clean t 1 ⟨0, 0, 0⟩ 0 (Int.le_refl _) h (by omega)]
  exact same_clean t 1 ⟨0, 0, 0⟩ (Int.le_refl _) h
theorem clean_nil : cleanT (tK 1) = tK 1 := by unfold tK; rw [cleanT]; rfl
theorem is_nil : sameT (plainT .nil 0) (cleanT (tK 1)) = true := by
  rw [plainT, clean_nil]
  show sameT (tK 1) (tK 1) = true
  unfold tK
  rw [sameT]; rfl
theorem entries_law {es : List (ByteArray × Term)} (h : okB (.dict (builtEs es)) = true) : sameEs (plainEs (builtEs es) 1) (cleanEs es) = true := by
  have hb : builtV (.mk 9 false 0 0 ⟨#[]⟩ [] 0 [] es ⟨#[]⟩ 0) = .dict (builtEs es) := by rw [builtV]; rfl
  have h1 : sameT (plainT (builtV (.mk 9 false 0 0 ⟨#[]⟩ [] 0 [] es ⟨#[]⟩ 0)) 0) (cleanT (.mk 9 false 0 0 ⟨#[]⟩ [] 0 [] es ⟨#[]⟩ 0)) = true := is_same (by rw [hb]; exact h)
  rw [hb, plainT, cleanT] at h1
  simp only [Int.reduceBEq, cond_true, cond_false, show decide ((400 : Int) < 0) = false from rfl] at h1
  rw [sameT] at h1
  simpa using h1
end Go.Proofs.Ytgmdbpplfjkjmaa

/-! A term that can be is the same as its own value's plain form. -/
namespace Go.Proofs.Ytgmdbpplfjkjmaa
open Go.RowKit
set_option linter.unusedVariables false
set_option linter.unusedSimpArgs false

/-- A term that can be is the same as itself, cleaned. -/
theorem same_raw : ∀ (t : Term) (deep : Int) (c : Cnt), 0 ≤ c.n → (partF (builtV t) deep c).1 = true → sameT (cleanT t) t = true := term_all fun t ih => by
  intro deep c h0 h
  have hin := ownF_in (part_deep h)
  have hkids := kids_ok h0 h
  obtain ⟨k, b, n, fl, tx, bs, rf, ls, es, cl, ver⟩ := t
  have hss : ∀ (l : List Term), (∀ u ∈ l, sameT (cleanT u) u = true) → sameTs (l.map cleanT) l = true := by
    intro l
    induction l with
    | nil => intro _; rw [List.map_nil, sameTs]
    | cons u l ihl => intro hl; rw [List.map_cons, sameTs, hl u (List.mem_cons_self ..), ihl (fun x hx => hl x (List.mem_cons_of_mem _ hx))]; rfl
  have hse : ∀ (l : List (ByteArray × Term)), (∀ p ∈ l, sameT (cleanT p.2) p.2 = true) → sameEs (l.map fun p => (p.1, cleanT p.2)) l = true := by
    intro l
    induction l with
    | nil => intro _; rw [List.map_nil, sameEs]
    | cons p l ihl =>
      intro hl
      have h1 := hl p (List.mem_cons_self ..)
      obtain ⟨s, t⟩ := p
      rw [List.map_cons, sameEs, sameP, h1, ihl (fun x hx => hl x (List.mem_cons_of_mem _ hx))]
      simp
  have hsub : (builtEs es).map (·.2) = (es.map (·.2)).map builtV := by rw [builtEs_eq, List.map_map, List.map_map]; rfl
  have hes : ∀ (hs : ∀ u ∈ es.map (·.2), ∃ c', 0 ≤ c'.n ∧ (partF (builtV u) (deep + 1) c').1 = true), sameEs (cleanEs es) es = true := fun hs => by
    rw [cleanEs_eq]
    refine hse _ fun q hq => ?_
    have hm : q.2 ∈ es.map (·.2) := List.mem_map.2 ⟨q, hq, rfl⟩
    obtain ⟨c', g0, g1⟩ := hs q.2 hm
    exact ih q.2 (List.mem_append_right _ hm) (deep + 1) c' g0 g1
  by_cases h1 : k = 1
  · subst h1; rw [cleanT]; simp only [Int.reduceBEq, cond_true, cond_false, tK]; rw [sameT]; rfl
  by_cases h2 : k = 2
  · subst h2; rw [cleanT]; simp only [Int.reduceBEq, cond_true, cond_false]; rw [sameT]; simp
  by_cases h3 : k = 3
  · subst h3; rw [cleanT]; simp only [Int.reduceBEq, cond_true, cond_false]; rw [sameT]; simp
  by_cases h4 : k = 4
  · subst h4; rw [cleanT]; simp only [Int.reduceBEq, cond_true, cond_false]; rw [sameT]; simp
  by_cases h5 : k = 5
  · subst h5; rw [cleanT]; simp only [Int.reduceBEq, cond_true, cond_false]; rw [sameT]; simp
  by_cases h6 : k = 6
  · subst h6; rw [cleanT]; simp only [Int.reduceBEq, cond_true, cond_false]; rw [sameT]; simp
  by_cases h7 : k = 7
  · subst h7; rw [cleanT]; simp only [Int.reduceBEq, cond_true, cond_false]; rw [sameT]; simp
  by_cases h8 : k = 8
  · subst h8
    have hb : builtV (.mk 8 b n fl tx bs rf ls es cl ver) = .list (builtVs ls) := by rw [builtV]; rfl
    rw [hb] at hkids
    rw [cleanT]; simp only [Int.reduceBEq, cond_true, cond_false]; rw [sameT]
    simp only [Int.reduceBEq, cond_true, cond_false, Bool.or_false, Bool.false_or, Bool.not_true, beq_self_eq_true]
    rw [cleanTs_eq]
    refine hss _ fun q hq => ?_
    obtain ⟨c', g0, g1⟩ := hkids (builtV q) (by show builtV q ∈ builtVs ls; rw [builtVs_eq]; exact List.mem_map.2 ⟨q, hq, rfl⟩)
    exact ih q (List.mem_append_left _ hq) (deep + 1) c' g0 g1
  by_cases h9 : k = 9
  · subst h9
    have hb : builtV (.mk 9 b n fl tx bs rf ls es cl ver) = .dict (builtEs es) := by rw [builtV]; rfl
    rw [hb] at hkids
    rw [cleanT]; simp only [Int.reduceBEq, cond_true, cond_false]; rw [sameT]
    simp only [Int.reduceBEq, cond_true, cond_false, Bool.or_false, Bool.false_or, Bool.not_true, beq_self_eq_true]
    exact hes fun u hu => hkids (builtV u) (by show builtV u ∈ (builtEs es).map (·.2); rw [hsub]; exact List.mem_map.2 ⟨u, hu, rfl⟩)
  by_cases h10 : k = 10
  · subst h10
    have hb : builtV (.mk 10 b n fl tx bs rf ls es cl ver) = .record cl ver (builtEs es) := by rw [builtV]; rfl
    rw [hb] at hkids
    rw [cleanT]; simp only [Int.reduceBEq, cond_true, cond_false]; rw [sameT]
    simp only [Int.reduceBEq, cond_true, cond_false, Bool.or_false, Bool.false_or, Bool.not_true, beq_self_eq_true, Bool.true_and]
    exact hes fun u hu => hkids (builtV u) (by show builtV u ∈ (builtEs es).map (·.2); rw [hsub]; exact List.mem_map.2 ⟨u, hu, rfl⟩)
  exfalso
  rw [builtV, show (k == 1) = false by simp; omega, show (k == 2) = false by simp; omega, show (k == 3) = false by simp; omega, show (k == 4) = false by simp; omega, show (k == 5) = false by simp; omega, show (k == 6) = false by simp; omega, show (k == 7) = false by simp; omega, show (k == 8) = false by simp; omega, show (k == 9) = false by simp; omega, show (k == 10) = false by simp; omega] at hin
  simp only [cond_false] at hin
  cases hk : k == 11 <;> rw [hk] at hin <;> simp [ownIn] at hin
/-- What Is answers of a term that can be, and of what it is built to. -/
theorem is_own {t : Term} (h : okB (builtV t) = true) : sameT (plainT (builtV t) 0) t = true := by
  rw [plain_clean t 1 ⟨0, 0, 0⟩ 0 (Int.le_refl _) h (by omega)]
  exact same_raw t 1 ⟨0, 0, 0⟩ (Int.le_refl _) h
end Go.Proofs.Ytgmdbpplfjkjmaa
