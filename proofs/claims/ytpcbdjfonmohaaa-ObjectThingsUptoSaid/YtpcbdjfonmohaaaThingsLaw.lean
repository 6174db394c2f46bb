/- What plain says of a value that can be, Clean says of its term: the plain law of ObjectThings; and law10's got. -/
import Derived.Test.YtpcbdjfonmohaaaRefClean
import Derived.Test.YtpcbdjfonmohaaaRefPart
import Derived.Test.YtpcbdjfonmohaaaSameT
import Derived.Test.YtpcbdjfonmohaaaThing
namespace Go.Proofs.Ytpcbdjfonmohaaa
open Go.RowKit
set_option linter.unusedVariables false
set_option linter.unusedSimpArgs false

theorem ownF_mono {v : Val} {n deep n' deep' : Int} (h : ownF v n deep = 0) (hn : n' ≤ n) (hd : deep' ≤ deep) : ownF v n' deep' = 0 := by
  have h1 : ¬ (16384 ≤ n ∨ 64 < deep) := fun h1 => by
    unfold ownF at h
    rw [if_pos h1] at h
    split at h <;> (try split at h) <;> omega
  unfold ownF at h ⊢
  rw [if_neg h1] at h
  rw [if_neg (by omega)]
  exact h
theorem partsF_mono : ∀ (l : List Val), (∀ v ∈ l, ∀ (deep : Int) (c : Cnt) (deep' : Int) (c' : Cnt), (partF v deep c).1 = true → deep' ≤ deep → c'.n ≤ c.n → (partF v deep' c').1 = true ∧ (partF v deep' c').2.n + c.n ≤ (partF v deep c).2.n + c'.n) →
    ∀ (deep : Int) (c : Cnt) (deep' : Int) (c' : Cnt), (partsF l deep c).1 = true → deep' ≤ deep → c'.n ≤ c.n → (partsF l deep' c').1 = true ∧ (partsF l deep' c').2.n + c.n ≤ (partsF l deep c).2.n + c'.n
  | [], _, deep, c, deep', c', _, _, hn => by rw [partsF, partsF]; exact ⟨rfl, by show c'.n + c.n ≤ c.n + c'.n; omega⟩
  | v :: l, h, deep, c, deep', c', h1, hd, hn => by
    rw [partsF] at h1 ⊢
    have hv := h v (List.mem_cons_self ..) deep c deep' c'
    cases e : partF v deep c with
    | mk ok c1 =>
      rw [e] at h1 hv
      cases ok with
      | false => cases h1
      | true =>
        obtain ⟨g1, g2⟩ := hv rfl hd hn
        cases e' : partF v deep' c' with
        | mk ok' c1' =>
          rw [e'] at g1 g2
          obtain rfl : ok' = true := g1
          have g2' : c1'.n + c.n ≤ c1.n + c'.n := g2
          obtain ⟨r1, r2⟩ := partsF_mono l (fun u hu => h u (List.mem_cons_of_mem _ hu)) deep c1 deep' c1' h1 hd (by omega)
          refine ⟨r1, ?_⟩
          rw [partsF, e]
          show (partsF l deep' c1').2.n + c.n ≤ (partsF l deep c1).2.n + c'.n
          omega
theorem partF_mono : ∀ (v : Val) (deep : Int) (c : Cnt) (deep' : Int) (c' : Cnt), (partF v deep c).1 = true → deep' ≤ deep → c'.n ≤ c.n → (partF v deep' c').1 = true ∧ (partF v deep' c').2.n + c.n ≤ (partF v deep c).2.n + c'.n :=
  val_ind fun v ih deep c deep' c' h hd hn => by
    rw [partF_subs] at h ⊢
    rw [partF_subs v deep c]
    unfold stepF at h ⊢
    split at h
    · rename_i ho
      rw [if_pos (ownF_mono ho hn hd), if_pos ho]
      obtain ⟨r1, r2⟩ := partsF_mono _ ih _ _ (deep' + 1) ⟨c'.n + 1, max c'.dp deep', 0⟩ h (by omega) (by show c'.n + 1 ≤ c.n + 1; omega)
      refine ⟨r1, ?_⟩
      show (partsF (subs v) (deep' + 1) ⟨c'.n + 1, max c'.dp deep', 0⟩).2.n + c.n ≤ (partsF (subs v) (deep + 1) ⟨c.n + 1, max c.dp deep, 0⟩).2.n + c'.n
      have r2' : (partsF (subs v) (deep' + 1) ⟨c'.n + 1, max c'.dp deep', 0⟩).2.n + (c.n + 1) ≤ (partsF (subs v) (deep + 1) ⟨c.n + 1, max c.dp deep, 0⟩).2.n + (c'.n + 1) := r2
      omega
    · cases h
theorem partsF_mem : ∀ (l : List Val) (deep : Int) (c : Cnt), 0 ≤ c.n → c.n ≤ 16384 → (partsF l deep c).1 = true → ∀ u ∈ l, ∃ c', 0 ≤ c'.n ∧ (partF u deep c').1 = true
  | [], _, _, _, _, _, u, hu => by cases hu
  | v :: l, deep, c, h0, h1, h, u, hu => by
    rw [partsF] at h
    have hn := partF_n v deep c h0 h1
    cases e : partF v deep c with
    | mk ok c1 =>
      rw [e] at h hn
      cases ok with
      | false => cases h
      | true =>
        rcases List.mem_cons.1 hu with rfl | hu
        · exact ⟨c, h0, by rw [e]⟩
        · exact partsF_mem l deep c1 hn.1 hn.2 h u hu
theorem kids_ok {v : Val} {deep : Int} {c : Cnt} (h0 : 0 ≤ c.n) (h : (partF v deep c).1 = true) : ∀ u ∈ subs v, ∃ c', 0 ≤ c'.n ∧ (partF u (deep + 1) c').1 = true := by
  rw [partF_subs] at h
  unfold stepF at h
  split at h
  · rename_i ho
    have := ownF_n ho
    exact partsF_mem _ _ _ (show 0 ≤ c.n + 1 by omega) (show c.n + 1 ≤ 16384 by omega) h
  · cases h
theorem sub_ok {v : Val} (h : okB v = true) : ∀ u ∈ subs v, okB u = true := fun u hu => by
  obtain ⟨c', h0, h1⟩ := kids_ok (c := ⟨0, 0, 0⟩) (Int.le_refl _) h u hu
  exact (partF_mono u _ c' 1 ⟨0, 0, 0⟩ h1 (by omega) h0).1

theorem part_deep {v : Val} {deep : Int} {c : Cnt} (h : (partF v deep c).1 = true) : ownF v c.n deep = 0 := by
  rw [partF_subs] at h
  unfold stepF at h
  split at h
  · assumption
  · cases h
theorem plain_clean : ∀ (t : Term) (deep : Int) (c : Cnt) (e : Int), 0 ≤ c.n → (partF (builtV t) deep c).1 = true → e ≤ deep + 300 → plainT (builtV t) e = cleanT t := term_all fun t ih => by
  intro deep c e h0 h he
  have hown := part_deep h
  have hd := ownF_deep hown
  have hin := ownF_in hown
  have hkids := kids_ok h0 h
  have hde : decide (400 < e) = false := by simp; omega
  obtain ⟨k, b, n, fl, tx, bs, rf, ls, es, cl, ver⟩ := t
  by_cases h1 : k = 1
  · subst h1; rw [builtV, cleanT]; simp only [Int.reduceBEq, cond_true, cond_false]; rw [plainT, hde]; rfl
  by_cases h2 : k = 2
  · subst h2; rw [builtV, cleanT]; simp only [Int.reduceBEq, cond_true, cond_false]; rw [plainT, hde]; rfl
  by_cases h3 : k = 3
  · subst h3; rw [builtV, cleanT]; simp only [Int.reduceBEq, cond_true, cond_false]; rw [plainT, hde]; rfl
  by_cases h4 : k = 4
  · subst h4; rw [builtV, cleanT]; simp only [Int.reduceBEq, cond_true, cond_false]; rw [plainT, hde]; rfl
  by_cases h5 : k = 5
  · subst h5; rw [builtV, cleanT]; simp only [Int.reduceBEq, cond_true, cond_false]; rw [plainT, hde]; rfl
  by_cases h6 : k = 6
  · subst h6; rw [builtV, cleanT]; simp only [Int.reduceBEq, cond_true, cond_false]; rw [plainT, hde]; rfl
  by_cases h7 : k = 7
  · subst h7; rw [builtV, cleanT]; simp only [Int.reduceBEq, cond_true, cond_false]; rw [plainT, hde]; rfl
  by_cases h8 : k = 8
  · subst h8
    have hb : builtV (.mk 8 b n fl tx bs rf ls es cl ver) = .list (builtVs ls) := by rw [builtV]; rfl
    rw [hb] at hkids ⊢
    rw [plainT, hde, cleanT]
    simp only [Int.reduceBEq, cond_true, cond_false]
    have : plainTs (builtVs ls) (e + 1) = cleanTs ls := by
      rw [plainTs_eq, builtVs_eq, cleanTs_eq, List.map_map]
      refine List.map_congr_left fun u hu => ?_
      obtain ⟨c', g0, g1⟩ := hkids (builtV u) (by show builtV u ∈ builtVs ls; rw [builtVs_eq]; exact List.mem_map.2 ⟨u, hu, rfl⟩)
      exact ih u (List.mem_append_left _ hu) (deep + 1) c' (e + 1) g0 g1 (by omega)
    rw [this]
  have hes : ∀ (hs : ∀ u ∈ es.map (·.2), ∃ c', 0 ≤ c'.n ∧ (partF (builtV u) (deep + 1) c').1 = true), plainEs (builtEs es) (e + 1) = cleanEs es := fun hs => by
    rw [plainEs_eq, builtEs_eq, cleanEs_eq, List.map_map]
    refine List.map_congr_left fun p hp => ?_
    have hm : p.2 ∈ es.map (·.2) := List.mem_map.2 ⟨p, hp, rfl⟩
    obtain ⟨c', g0, g1⟩ := hs p.2 hm
    show (p.1, plainT (builtV p.2) (e + 1)) = (p.1, cleanT p.2)
    rw [ih p.2 (List.mem_append_right _ hm) (deep + 1) c' (e + 1) g0 g1 (by omega)]
  have hsub : (builtEs es).map (·.2) = (es.map (·.2)).map builtV := by rw [builtEs_eq, List.map_map, List.map_map]; rfl
  by_cases h9 : k = 9
  · subst h9
    have hb : builtV (.mk 9 b n fl tx bs rf ls es cl ver) = .dict (builtEs es) := by rw [builtV]; rfl
    rw [hb] at hkids ⊢
    rw [plainT, hde, cleanT]
    simp only [Int.reduceBEq, cond_true, cond_false]
    rw [hes fun u hu => hkids (builtV u) (by show builtV u ∈ (builtEs es).map (·.2); rw [hsub]; exact List.mem_map.2 ⟨u, hu, rfl⟩)]
  by_cases h10 : k = 10
  · subst h10
    have hb : builtV (.mk 10 b n fl tx bs rf ls es cl ver) = .record cl ver (builtEs es) := by rw [builtV]; rfl
    rw [hb] at hkids ⊢
    rw [plainT, hde, cleanT]
    simp only [Int.reduceBEq, cond_true, cond_false]
    rw [hes fun u hu => hkids (builtV u) (by show builtV u ∈ (builtEs es).map (·.2); rw [hsub]; exact List.mem_map.2 ⟨u, hu, rfl⟩)]
  exfalso
  rw [builtV, show (k == 1) = false by simp; omega, show (k == 2) = false by simp; omega, show (k == 3) = false by simp; omega, show (k == 4) = false by simp; omega, show (k == 5) = false by simp; omega, show (k == 6) = false by simp; omega, show (k == 7) = false by simp; omega, show (k == 8) = false by simp; omega, show (k == 9) = false by simp; omega, show (k == 10) = false by simp; omega] at hin
  simp only [cond_false] at hin
  cases hk : k == 11 <;> rw [hk] at hin <;> simp [ownIn] at hin
/-- A term that can be is the same as itself, cleaned. -/
theorem same_clean : ∀ (t : Term) (deep : Int) (c : Cnt), 0 ≤ c.n → (partF (builtV t) deep c).1 = true → sameT (cleanT t) (cleanT t) = true := term_all fun t ih => by
  intro deep c h0 h
  have hin := ownF_in (part_deep h)
  have hkids := kids_ok h0 h
  obtain ⟨k, b, n, fl, tx, bs, rf, ls, es, cl, ver⟩ := t
  have hss : ∀ (l : List Term), (∀ u ∈ l, sameT u u = true) → sameTs l l = true := by
    intro l
    induction l with
    | nil => intro _; rw [sameTs]
    | cons u l ihl => intro hl; rw [sameTs, hl u (List.mem_cons_self ..), ihl (fun x hx => hl x (List.mem_cons_of_mem _ hx))]; rfl
  have hse : ∀ (l : List (ByteArray × Term)), (∀ p ∈ l, sameT p.2 p.2 = true) → sameEs l l = true := by
    intro l
    induction l with
    | nil => intro _; rw [sameEs]
    | cons p l ihl =>
      intro hl
      have h1 := hl p (List.mem_cons_self ..)
      obtain ⟨s, t⟩ := p
      rw [sameEs, sameP, h1, ihl (fun x hx => hl x (List.mem_cons_of_mem _ hx))]
      simp
  have hsub : (builtEs es).map (·.2) = (es.map (·.2)).map builtV := by rw [builtEs_eq, List.map_map, List.map_map]; rfl
  have hes : ∀ (hs : ∀ u ∈ es.map (·.2), ∃ c', 0 ≤ c'.n ∧ (partF (builtV u) (deep + 1) c').1 = true), sameEs (cleanEs es) (cleanEs es) = true := fun hs => hse _ fun p hp => by
    rw [cleanEs_eq] at hp
    obtain ⟨q, hq, rfl⟩ := List.mem_map.1 hp
    have hm : q.2 ∈ es.map (·.2) := List.mem_map.2 ⟨q, hq, rfl⟩
    obtain ⟨c', g0, g1⟩ := hs q.2 hm
    exact ih q.2 (List.mem_append_right _ hm) (deep + 1) c' g0 g1
  by_cases h1 : k = 1
  · subst h1; rw [cleanT]; simp only [Int.reduceBEq, cond_true, cond_false, tK]; rw [sameT]; rfl
  by_cases h2 : k = 2
  · subst h2; rw [cleanT]; simp only [Int.reduceBEq, cond_true, cond_false]; rw [sameT]; simp
  by_cases h3 : k = 3
  · subst h3; rw [cleanT]; simp only [Int.reduceBEq, cond_true, cond_false]; rw [sameT]; simp
  by_cases h4 : k = 4
  · subst h4; rw [cleanT]; simp only [Int.reduceBEq, cond_true, cond_false]; rw [sameT]; simp
  by_cases h5 : k = 5
  · subst h5; rw [cleanT]; simp only [Int.reduceBEq, cond_true, cond_false]; rw [sameT]; simp
  by_cases h6 : k = 6
  · subst h6; rw [cleanT]; simp only [Int.reduceBEq, cond_true, cond_false]; rw [sameT]; simp
  by_cases h7 : k = 7
  · subst h7; rw [cleanT]; simp only [Int.reduceBEq, cond_true, cond_false]; rw [sameT]; simp
  by_cases h8 : k = 8
  · subst h8
    have hb : builtV (.mk 8 b n fl tx bs rf ls es cl ver) = .list (builtVs ls) := by rw [builtV]; rfl
    rw [hb] at hkids
    rw [cleanT]; simp only [Int.reduceBEq, cond_true, cond_false]; rw [sameT]
    simp only [Int.reduceBEq, cond_true, cond_false, Bool.or_false, Bool.false_or, Bool.not_true, beq_self_eq_true]
    refine hss _ fun u hu => ?_
    rw [cleanTs_eq] at hu
    obtain ⟨q, hq, rfl⟩ := List.mem_map.1 hu
    obtain ⟨c', g0, g1⟩ := hkids (builtV q) (by show builtV q ∈ builtVs ls; rw [builtVs_eq]; exact List.mem_map.2 ⟨q, hq, rfl⟩)
    exact ih q (List.mem_append_left _ hq) (deep + 1) c' g0 g1
  by_cases h9 : k = 9
  · subst h9
    have hb : builtV (.mk 9 b n fl tx bs rf ls es cl ver) = .dict (builtEs es) := by rw [builtV]; rfl
    rw [hb] at hkids
    rw [cleanT]; simp only [Int.reduceBEq, cond_true, cond_false]; rw [sameT]
    simp only [Int.reduceBEq, cond_true, cond_false, Bool.or_false, Bool.false_or, Bool.not_true, beq_self_eq_true]
    exact hes fun u hu => hkids (builtV u) (by show builtV u ∈ (builtEs es).map (·.2); rw [hsub]; exact List.mem_map.2 ⟨u, hu, rfl⟩)
  by_cases h10 : k = 10
  · subst h10
    have hb : builtV (.mk 10 b n fl tx bs rf ls es cl ver) = .record cl ver (builtEs es) := by rw [builtV]; rfl
    rw [hb] at hkids
    rw [cleanT]; simp only [Int.reduceBEq, cond_true, cond_false]; rw [sameT]
    simp only [Int.reduceBEq, cond_true, cond_false, Bool.or_false, Bool.false_or, Bool.not_true, beq_self_eq_true, Bool.true_and]
    exact hes fun u hu => hkids (builtV u) (by show builtV u ∈ (builtEs es).map (·.2); rw [hsub]; exact List.mem_map.2 ⟨u, hu, rfl⟩)
  exfalso
  rw [builtV, show (k == 1) = false by simp; omega, show (k == 2) = false by simp; omega, show (k == 3) = false by simp; omega, show (k == 4) = false by simp; omega, show (k == 5) = false by simp; omega, show (k == 6) = false by simp; omega, show (k == 7) = false by simp; omega, show (k == 8) = false by simp; omega, show (k == 9) = false by simp; omega, show (k == 10) = false by simp; omega] at hin
  simp only [cond_false] at hin
  cases hk : k == 11 <;> rw [hk] at hin <;> simp [ownIn] at hin
/-- What Is answers of a term that can be, built and cleaned. -/
theorem is_same {t : Term} (h : okB (builtV t) = true) : sameT (plainT (builtV t) 0) (cleanT t) = true := by
  rw [plain_clean t 1 ⟨0, 0, 0⟩ 0 (Int.le_refl _) h (by omega)]
  exact same_clean t 1 ⟨0, 0, 0⟩ (Int.le_refl _) h
theorem clean_nil : cleanT (tK 1) = tK 1 := by unfold tK; rw [cleanT]; rfl
theorem is_nil : sameT (plainT .nil 0) (cleanT (tK 1)) = true := by
  rw [plainT, clean_nil]
  show sameT (tK 1) (tK 1) = true
  unfold tK
  rw [sameT]; rfl
theorem entries_law {es : List (ByteArray × Term)} (h : okB (.dict (builtEs es)) = true) : sameEs (plainEs (builtEs es) 1) (cleanEs es) = true := by
  have hb : builtV (.mk 9 false 0 0 ⟨#[]⟩ [] 0 [] es ⟨#[]⟩ 0) = .dict (builtEs es) := by rw [builtV]; rfl
  have h1 : sameT (plainT (builtV (.mk 9 false 0 0 ⟨#[]⟩ [] 0 [] es ⟨#[]⟩ 0)) 0) (cleanT (.mk 9 false 0 0 ⟨#[]⟩ [] 0 [] es ⟨#[]⟩ 0)) = true := is_same (by rw [hb]; exact h)
  rw [hb, plainT, cleanT] at h1
  simp only [Int.reduceBEq, cond_true, cond_false, show decide ((400 : Int) < 0) = false from rfl] at h1
  rw [sameT] at h1
  simpa using h1
/-- The term under a name. -/
def gotO (es : List (ByteArray × Term)) (name : ByteArray) : Option Term := (es.find? (fun p => p.1.toList == name.toList)).map (·.2)
theorem got_field (es : List (ByteArray × Term)) (name : ByteArray) : fieldOf (builtEs es) name = (gotO es name).map builtV := by
  unfold fieldOf gotO
  rw [builtEs_eq, List.find?_map, Option.map_map, Option.map_map]
  rfl
end Go.Proofs.Ytpcbdjfonmohaaa

/-! law10's plain and got. -/
namespace Go.Proofs.Ytpcbdjfonmohaaa
open Go.RowKit
set_option linter.unusedVariables false
set_option linter.unusedSimpArgs false

/-- A dict of entries, as a term. -/
def wholeT (es : List (ByteArray × Term)) : Term := .mk 9 false 0 0 ⟨#[]⟩ [] 0 [] es ⟨#[]⟩ 0
theorem whole_rep {w : World} {es : List (ByteArray × Term)} {sv : Value} {xs : List Value} (ho : AtRow w sv es.length 12 xs) (hd : EsRep w es xs) :
    TRep w (wholeT es) [.int .i64 9, .bool false, .int .i64 0, .float .f64 0, .string ⟨#[]⟩, .slice none 0 0, .int .u64 0, .slice none 0 0, sv, .string ⟨#[]⟩, .int .i64 0] := by
  unfold wholeT
  simp only [TRep]
  exact ⟨_, _, _, [], xs, rfl, ⟨by rfl, by rfl, by rfl, by simp [maxLen, ByteArray.size], by rfl, by simp [maxLen, ByteArray.size], by rfl⟩, nilRow, nilRow, rfl, ho, hd⟩
theorem whole_clean (es : List (ByteArray × Term)) : cleanT (wholeT es) = wholeT (cleanEs es) := by unfold wholeT; rw [cleanT]; rfl
theorem whole_built (es : List (ByteArray × Term)) : builtV (wholeT es) = .dict (builtEs es) := by unfold wholeT; rw [builtV]; rfl
theorem run_field8 (a0 a1 a2 a3 a4 a5 a6 a7 a8 a9 a10 : Value) (W : World) : (Instr.field 34 (.agg #[a0, a1, a2, a3, a4, a5, a6, a7, a8, a9, a10]) 8).run Try.prog W = .ok a8 W := by kernel_rfl
set_option maxRecDepth 100000 in
theorem plain10_said (es : List (ByteArray × Term)) (sv : Value) (xs : List Value) (w : World) (ho : AtRow w sv es.length 12 xs) (hd : EsRep w es xs) :
    Calls Try.prog 50 #[sv] w fun e w' => ∃ se xe, e = .returned se ∧ AtRow w' se es.length 12 xe ∧ EsRep w' (cleanEs es) xe ∧ Below w.heap.size w w' := by
  have hc := Lib.hid (clean_any (wholeT es) _ w (whole_rep ho hd))
  obtain ⟨oa, cap, rfl, -⟩ := ho
  clear hd
  go_enter Try.func50, Try.ntmps50
  go_wp2_with fail
  refine hc.out.mono ?_
  rintro e w1 ⟨ds, rfl, ht, hb⟩
  rw [whole_clean] at ht
  unfold wholeT at ht
  simp only [TRep] at ht
  obtain ⟨sb, sl, se, xl, xe, rfl, -, -, -, -, hrow, hes⟩ := ht
  have hfl := run_field8 (.int .i64 9) (.bool false) (.int .i64 0) (.float .f64 0) (.string ⟨#[]⟩) sb (.int .u64 0) sl se (.string ⟨#[]⟩) (.int .i64 0) w1
  have hrH := Lib.hid (hrow.keep only_all)
  have heH := Lib.hid (EsRep.keep only_all _ _ hes)
  have hone : se.oneCell' = true := by obtain ⟨_, _, rfl, -⟩ := hrow; rfl
  clear hrow hes
  go_wp2
  go_ret
  refine ⟨_, xe, rfl, ?_, heH.out, hb⟩
  have h1 := hrH.out
  rw [cleanEs_eq, List.length_map] at h1
  exact h1
theorem results_row_tmp {P : Program} {fn : Func} {p u : Tmp} {ty : TypeId} (h : fn.results = #[.cell p ty, .tmp u]) (tmps : Array Value) (w : World) (g : Nat) (t : TypeId) (cs : Array Value) (fr : Nat × Nat) (d : TypeDesc)
    (hp : tmps.getD p undef = .pointer (some ⟨g, 0, none⟩)) (hg : w.heap[g]? = some (.cells cs t fr))
    (hu : P.underlying ty = some d) (hd : (match d with | .struct _ | .array _ _ => true | _ => false) = true) (hi : (P.info? ty).map (·.size) = some cs.size) :
    (results fn tmps).run P w = .ok (.tuple #[.agg cs, tmps.getD u undef]) w := by
  have hp' : tmps[p]?.getD undef = .pointer (some ⟨g, 0, none⟩) := by simpa using hp
  simp only [results, h]
  simp [Sem.run_bind, Result.andThen, hp', asAddr, run_loadVar_row w g t ty cs fr d hg hu hd hi]
theorem gotO_drop {es : List (ByteArray × Term)} {k : Nat} {p : ByteArray × Term} (h : es[k]? = some p) (name : ByteArray) : gotO (es.drop k) name = bif p.1.toList == name.toList then some p.2 else gotO (es.drop (k + 1)) name := by
  have hk := (List.getElem?_eq_some_iff.1 h).1
  have e := (List.getElem?_eq_some_iff.1 h).2
  rw [List.drop_eq_getElem_cons hk, e]
  unfold gotO
  rw [List.find?_cons]
  cases p.1.toList == name.toList <;> rfl
set_option maxRecDepth 100000 in
set_option maxHeartbeats 800000 in
theorem got_said (es : List (ByteArray × Term)) (name : ByteArray) (sv : Value) (xs : List Value) (w : World) (ho : AtRow w sv es.length 12 xs) (hd : EsRep w es xs) :
    Calls Try.prog 54 #[sv, .string name] w fun e w' => ∃ cs, e = .returned (.tuple #[.agg cs.toArray, .bool (gotO es name).isSome]) ∧ TRep w' ((gotO es name).getD (tK 1)) cs ∧ Below w.heap.size w w' := by
  obtain ⟨oa, cap, rfl, hcap, hmax, hsm, -, -, hform⟩ := ho
  unfold maxLen at hmax
  have hdat := Lib.hid (EsRep.at es xs hd)
  have hformH := Lib.hid hform
  have hT1 := Lib.hid (fun W => leaf_rep W 1 false 0 0 ⟨#[]⟩ 0 (by rfl) (by rfl) (by rfl) (by simp [maxLen, ByteArray.size]) (by rfl))
  have hone1 := Lib.hid (TRep.ones (hT1.out w))
  have hb0 : Below w.heap.size w (w.alloc (.cells zeroCells 34)) := (Below.refl _ _).alloc (Nat.le_refl _) _
  obtain ⟨O, hO⟩ : ∃ O, O = gotO es name := ⟨_, rfl⟩
  have hOH := Lib.hid hO
  rw [← hO]
  clear hd hform hO
  go_enter Try.func54, Try.ntmps54
  go_wp2_with fail
  go_loop [6] (fun i => ∃ k : Nat, k ≤ es.length ∧ i = .int .i64 k ∧ gotO (es.drop k) name = O) (fun i => es.length - (intOf i).toNat)
  case atStart => exact ⟨0, Nat.zero_le _, rfl, by rw [List.drop_zero]; exact hOH.out.symm⟩
  case round =>
    obtain ⟨k, hk, rfl, hpre⟩ := hrel
    by_cases hlt : k < es.length
    · obtain ⟨b, o, rfl, hcells⟩ := hformH.out (by omega)
      obtain ⟨⟨s, t⟩, hp⟩ : ∃ p, es[k]? = some p := ⟨_, List.getElem?_eq_getElem hlt⟩
      obtain ⟨ds, ht, hsz, e0, e1⟩ := hdat.out k _ hp
      have hcell : ∀ j, j < 11 → w.cell? ⟨b, o + k * 12 + (1 + j), none⟩ = ds[j]? := fun j hj => by
        have h1 := hcells (k * 12 + (1 + j)) (by omega)
        rw [e1 j hj, ← Nat.add_assoc] at h1
        exact h1
      have hname : w.cell? ⟨b, o + k * 12, none⟩ = some (.string s) := (hcells (k * 12) (by omega)).trans e0
      have hbl : b < w.heap.size := World.block_lt_of_cell? _ _ hname
      rw [gotO_drop hp] at hpre
      have hpreH := Lib.hid hpre
      have htH := Lib.hid ht
      have hone := Lib.hid (TRep.ones ht)
      obtain ⟨d0, d1, d2, d3, d4, d5, d6, d7, d8, d9, d10, rfl⟩ := eleven (TRep.len ht)
      have q0 := hcell 0 (by omega)
      have q1 := hcell 1 (by omega)
      have q2 := hcell 2 (by omega)
      have q3 := hcell 3 (by omega)
      have q4 := hcell 4 (by omega)
      have q5 := hcell 5 (by omega)
      have q6 := hcell 6 (by omega)
      have q7 := hcell 7 (by omega)
      have q8 := hcell 8 (by omega)
      have q9 := hcell 9 (by omega)
      have q10 := hcell 10 (by omega)
      simp only [List.getElem?_cons_zero, List.getElem?_cons_succ, Nat.reduceAdd] at q0 q1 q2 q3 q4 q5 q6 q7 q8 q9 q10
      clear hcell hcells e0 e1 ht hp hpre
      obtain ⟨B, hB⟩ : ∃ B, B = (s.toList == name.toList) := ⟨_, rfl⟩
      have hBH := Lib.hid hB
      have hBe : (s.toList == name.toList) = B := hB.symm
      clear hB
      cases B with
      | true =>
        have hfin : O = some t := by have := hpreH.out; rw [← hBH.out] at this; exact this.symm
        have hfinH := Lib.hid hfin
        clear hfin
        go_wp2_with (refine wpList_store_row rfl 34 (.tmp 4) _ rfl w.heap.size #[d0, d1, d2, d3, d4, d5, d6, d7, d8, d9, d10] rfl rfl 34 zeroCells (zeroB w) termSize rfl (all_one hone.out) ?_)
        rw [World.setRow_alloc_new]
        rw [hfinH.out]
        exact ⟨rfl, _, results_row_tmp rfl _ _ w.heap.size 34 _ (0, 0) _ rfl (heap_alloc_new w _) Try.underlying34 rfl termSize, _, rfl, TRep.keep (keeps_of_below ((Below.refl _ _).alloc (Nat.le_refl _) _)) _ _ htH.out, (Below.refl _ _).alloc (Nat.le_refl _) _⟩
      | false =>
        have hstep : gotO (es.drop (k + 1)) name = O := by have := hpreH.out; rw [← hBH.out] at this; exact this
        go_wp2
        go_round
        case rel => exact ⟨k + 1, by omega, by go_num, hstep⟩
        case measure => simp [intOf]; omega
    · obtain rfl : k = es.length := by omega
      have hfin : O = none := by rw [← hpre, List.drop_length]; rfl
      have hfinH := Lib.hid hfin
      clear hfin hpre
      go_wp2_with (refine wpList_store_row rfl 34 (.tmp 4) _ rfl w.heap.size #[.int .i64 1, .bool false, .int .i64 0, .float .f64 0, .string ⟨#[]⟩, .slice none 0 0, .int .u64 0, .slice none 0 0, .slice none 0 0, .string ⟨#[]⟩, .int .i64 0] rfl rfl 34 zeroCells (zeroB w) termSize rfl (all_one hone1.out) ?_)
      rw [World.setRow_alloc_new]
      rw [hfinH.out]
      exact ⟨rfl, _, results_row_tmp rfl _ _ w.heap.size 34 _ (0, 0) _ rfl (heap_alloc_new w _) Try.underlying34 rfl termSize, _, rfl, hT1.out _, (Below.refl _ _).alloc (Nat.le_refl _) _⟩
end Go.Proofs.Ytpcbdjfonmohaaa
