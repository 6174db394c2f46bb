/- A term that can be is the same as its own value's plain form. -/
import Derived.Test.YtpcbdjfonmohaaaPlainLaw
import Derived.Test.YtpcbdjfonmohaaaMapPut
import Derived.Test.YtpcbdjfonmohaaaEncInj
namespace Go.Proofs.Ytpcbdjfonmohaaa
open Go.RowKit
set_option linter.unusedVariables false
set_option linter.unusedSimpArgs false

/-- A term that can be is the same as itself, cleaned. -/
theorem same_raw : ∀ (t : Term) (deep : Int) (c : Cnt), 0 ≤ c.n → (partF (builtV t) deep c).1 = true → sameT (cleanT t) t = true := term_all fun t ih => by
  intro deep c h0 h
  have hin := ownF_in (part_deep h)
  have hkids := kids_ok h0 h
  obtain ⟨k, b, n, fl, tx, bs, rf, ls, es, cl, ver⟩ := t
  have hss : ∀ (l : List Term), (∀ u ∈ l, sameT (cleanT u) u = true) → sameTs (l.map cleanT) l = true := by
    intro l
    induction l with
    | nil => intro _; rw [List.map_nil, sameTs]
    | cons u l ihl => intro hl; rw [List.map_cons, sameTs, hl u (List.mem_cons_self ..), ihl (fun x hx => hl x (List.mem_cons_of_mem _ hx))]; rfl
  have hse : ∀ (l : List (ByteArray × Term)), (∀ p ∈ l, sameT (cleanT p.2) p.2 = true) → sameEs (l.map fun p => (p.1, cleanT p.2)) l = true := by
    intro l
    induction l with
    | nil => intro _; rw [List.map_nil, sameEs]
    | cons p l ihl =>
      intro hl
      have h1 := hl p (List.mem_cons_self ..)
      obtain ⟨s, t⟩ := p
      rw [List.map_cons, sameEs, sameP, h1, ihl (fun x hx => hl x (List.mem_cons_of_mem _ hx))]
      simp
  have hsub : (builtEs es).map (·.2) = (es.map (·.2)).map builtV := by rw [builtEs_eq, List.map_map, List.map_map]; rfl
  have hes : ∀ (hs : ∀ u ∈ es.map (·.2), ∃ c', 0 ≤ c'.n ∧ (partF (builtV u) (deep + 1) c').1 = true), sameEs (cleanEs es) es = true := fun hs => by
    rw [cleanEs_eq]
    refine hse _ fun q hq => ?_
    have hm : q.2 ∈ es.map (·.2) := List.mem_map.2 ⟨q, hq, rfl⟩
    obtain ⟨c', g0, g1⟩ := hs q.2 hm
    exact ih q.2 (List.mem_append_right _ hm) (deep + 1) c' g0 g1
  by_cases h1 : k = 1
  · subst h1; rw [cleanT]; simp only [Int.reduceBEq, cond_true, cond_false, tK]; rw [sameT]; rfl
  by_cases h2 : k = 2
  · subst h2; rw [cleanT]; simp only [Int.reduceBEq, cond_true, cond_false]; rw [sameT]; simp
  by_cases h3 : k = 3
  · subst h3; rw [cleanT]; simp only [Int.reduceBEq, cond_true, cond_false]; rw [sameT]; simp
  by_cases h4 : k = 4
  · subst h4; rw [cleanT]; simp only [Int.reduceBEq, cond_true, cond_false]; rw [sameT]; simp
  by_cases h5 : k = 5
  · subst h5; rw [cleanT]; simp only [Int.reduceBEq, cond_true, cond_false]; rw [sameT]; simp
  by_cases h6 : k = 6
  · subst h6; rw [cleanT]; simp only [Int.reduceBEq, cond_true, cond_false]; rw [sameT]; simp
  by_cases h7 : k = 7
  · subst h7; rw [cleanT]; simp only [Int.reduceBEq, cond_true, cond_false]; rw [sameT]; simp
  by_cases h8 : k = 8
  · subst h8
    have hb : builtV (.mk 8 b n fl tx bs rf ls es cl ver) = .list (builtVs ls) := by rw [builtV]; rfl
    rw [hb] at hkids
    rw [cleanT]; simp only [Int.reduceBEq, cond_true, cond_false]; rw [sameT]
    simp only [Int.reduceBEq, cond_true, cond_false, Bool.or_false, Bool.false_or, Bool.not_true, beq_self_eq_true]
    rw [cleanTs_eq]
    refine hss _ fun q hq => ?_
    obtain ⟨c', g0, g1⟩ := hkids (builtV q) (by show builtV q ∈ builtVs ls; rw [builtVs_eq]; exact List.mem_map.2 ⟨q, hq, rfl⟩)
    exact ih q (List.mem_append_left _ hq) (deep + 1) c' g0 g1
  by_cases h9 : k = 9
  · subst h9
    have hb : builtV (.mk 9 b n fl tx bs rf ls es cl ver) = .dict (builtEs es) := by rw [builtV]; rfl
    rw [hb] at hkids
    rw [cleanT]; simp only [Int.reduceBEq, cond_true, cond_false]; rw [sameT]
    simp only [Int.reduceBEq, cond_true, cond_false, Bool.or_false, Bool.false_or, Bool.not_true, beq_self_eq_true]
    exact hes fun u hu => hkids (builtV u) (by show builtV u ∈ (builtEs es).map (·.2); rw [hsub]; exact List.mem_map.2 ⟨u, hu, rfl⟩)
  by_cases h10 : k = 10
  · subst h10
    have hb : builtV (.mk 10 b n fl tx bs rf ls es cl ver) = .record cl ver (builtEs es) := by rw [builtV]; rfl
    rw [hb] at hkids
    rw [cleanT]; simp only [Int.reduceBEq, cond_true, cond_false]; rw [sameT]
    simp only [Int.reduceBEq, cond_true, cond_false, Bool.or_false, Bool.false_or, Bool.not_true, beq_self_eq_true, Bool.true_and]
    exact hes fun u hu => hkids (builtV u) (by show builtV u ∈ (builtEs es).map (·.2); rw [hsub]; exact List.mem_map.2 ⟨u, hu, rfl⟩)
  exfalso
  rw [builtV, show (k == 1) = false by simp; omega, show (k == 2) = false by simp; omega, show (k == 3) = false by simp; omega, show (k == 4) = false by simp; omega, show (k == 5) = false by simp; omega, show (k == 6) = false by simp; omega, show (k == 7) = false by simp; omega, show (k == 8) = false by simp; omega, show (k == 9) = false by simp; omega, show (k == 10) = false by simp; omega] at hin
  simp only [cond_false] at hin
  cases hk : k == 11 <;> rw [hk] at hin <;> simp [ownIn] at hin
/-- What Is answers of a term that can be, and of what it is built to. -/
theorem is_own {t : Term} (h : okB (builtV t) = true) : sameT (plainT (builtV t) 0) t = true := by
  rw [plain_clean t 1 ⟨0, 0, 0⟩ 0 (Int.le_refl _) h (by omega)]
  exact same_raw t 1 ⟨0, 0, 0⟩ (Int.le_refl _) h
end Go.Proofs.Ytpcbdjfonmohaaa

/-! What stands in the map of DigestLast while it is filled and emptied. -/
namespace Go.Proofs.Ytpcbdjfonmohaaa
open Go.RowKit
set_option linter.unusedVariables false
set_option linter.unusedSimpArgs false

theorem MapAt.canon {w : World} {m : Nat} {o : Option Nat} {D : DataW Value} (h : MapAt w m o D) : Maps.Canon D := by
  obtain ⟨-, -, h⟩ := h
  cases o with
  | none => obtain rfl : D = .map [] := h; exact Maps.canon_empty
  | some b => obtain ⟨-, n, h⟩ := h; exact h.canon stringK
theorem keyL_inj {u v : Val} (hn : numsV u) (hn' : numsV v) (ho : okB u = true) (ho' : okB v = true) (h : keyL u = keyL v) : u = v := by
  unfold keyL at h
  injection h with h
  exact (enc_same hn (okV_check ho) hn' (okV_check ho')).1 h
/-- The keys of the map: t's, or those of the first n others. -/
def KeysIn (D : DataW Value) (t : Val) (us : List Val) (n : Nat) : Prop :=
  ∀ kl, Maps.has D kl = true → (okB t = true ∧ kl = keyL t) ∨ ∃ j u, j < n ∧ us[j]? = some u ∧ okB u = true ∧ u ≠ t ∧ kl = keyL u
/-- What stands under t. -/
def Stand (W : World) (m : Nat) (o : Option Nat) (D : DataW Value) (t : Val) : Option Val → Prop
  | none => okB t = true → Maps.has D (keyL t) = false
  | some v => okB t = true ∧ Maps.has D (keyL t) = true ∧ okB v = true ∧ ∃ a c gc, D.atKey (keyL t) (.held (.agg #[.nilIface, .nilIface])) = .held (.agg #[a, c]) ∧ VRep W v c gc ∧ m ∉ gc ∧ (∀ b, o = some b → b ∉ gc)
/-- Three blocks and the map. -/
structure LastAt (w W : World) (kb b7 b8 m : Nat) (ck cp cq : Array Value) (o : Option Nat) (D : DataW Value) : Prop where
  bel : Below w.heap.size w W
  k : W.heap[kb]? = some (.cells ck 34 (0, 0))
  p : W.heap[b7]? = some (.cells cp 34 (0, 0))
  q : W.heap[b8]? = some (.cells cq 34 (0, 0))
  map : MapAt W m o D
  ge : w.heap.size ≤ m ∧ ∀ b, o = some b → w.heap.size ≤ b
  ne : (kb ≠ m ∧ b7 ≠ m ∧ b8 ≠ m) ∧ ∀ b, o = some b → kb ≠ b ∧ b7 ≠ b ∧ b8 ≠ b
section
variable {w W W' : World} {kb b7 b8 m : Nat} {ck cp cq : Array Value} {o : Option Nat} {D : DataW Value} {t : Val} {us : List Val} {n : Nat} {s : Option Val}
theorem LastAt.lts (h : LastAt w W kb b7 b8 m ck cp cq o D) : kb < W.heap.size ∧ b7 < W.heap.size ∧ b8 < W.heap.size := ⟨(Array.getElem?_eq_some_iff.1 h.k).1, (Array.getElem?_eq_some_iff.1 h.p).1, (Array.getElem?_eq_some_iff.1 h.q).1⟩
theorem LastAt.below (h : LastAt w W kb b7 b8 m ck cp cq o D) (hb : Below W.heap.size W W') : LastAt w W' kb b7 b8 m ck cp cq o D :=
  ⟨h.bel.trans (below_le hb h.bel.size), (hb.block _ h.lts.1).trans h.k, (hb.block _ h.lts.2.1).trans h.p, (hb.block _ h.lts.2.2).trans h.q, h.map.below hb, h.ge, h.ne⟩
theorem Stand.but {S : Nat → Prop} (h : Stand W m o D t s) (hb : But S W W') (hs : ∀ i, S i → i = m ∨ o = some i) : Stand W' m o D t s := by
  cases s with
  | none => exact h
  | some v =>
    obtain ⟨h1, h2, h3, a, c, gc, h4, h5, h6, h7⟩ := h
    refine ⟨h1, h2, h3, a, c, gc, h4, VRep.but h5 hb (fun i hi hS => ?_), h6, h7⟩
    rcases hs i hS with e | e
    · exact h6 (e ▸ hi)
    · exact h7 i e hi
/-- All of it. -/
def LastInv (w W : World) (kb b7 b8 m : Nat) (ck cp cq : Array Value) (t : Val) (us : List Val) (n : Nat) (s : Option Val) : Prop :=
  ∃ o D, LastAt w W kb b7 b8 m ck cp cq o D ∧ Stand W m o D t s ∧ KeysIn D t us n
theorem LastInv.below (h : LastInv w W kb b7 b8 m ck cp cq t us n s) (hb : Below W.heap.size W W') : LastInv w W' kb b7 b8 m ck cp cq t us n s := by
  obtain ⟨o, D, h1, h2, h3⟩ := h
  exact ⟨o, D, h1.below hb, h2.but (below_but0 hb) (fun _ f => f.elim), h3⟩
/-- What a Put turns. -/
theorem LastAt.put (h : LastAt w W kb b7 b8 m ck cp cq o D) {b : Nat} {D' : DataW Value} (hm : MapAt W' m (some b) D') (ho : o = some b ∨ o = none ∧ W.heap.size ≤ b) (hb : But (fun i => o = some i ∨ o = none ∧ i = m) W W') : LastAt w W' kb b7 b8 m ck cp cq (some b) D' := by
  have hl := h.lts
  have hno : ∀ i, i ≠ m → (∀ b, o = some b → i ≠ b) → ¬ (o = some i ∨ o = none ∧ i = m) := fun i h1 h2 h3 => h3.elim (fun e => h2 i e rfl) (fun e => h1 e.2)
  refine ⟨?_, (hb.block _ hl.1 (hno _ h.ne.1.1 (fun b e => (h.ne.2 b e).1))).trans h.k, (hb.block _ hl.2.1 (hno _ h.ne.1.2.1 (fun b e => (h.ne.2 b e).2.1))).trans h.p, (hb.block _ hl.2.2 (hno _ h.ne.1.2.2 (fun b e => (h.ne.2 b e).2.2))).trans h.q, hm, ⟨h.ge.1, ?_⟩, h.ne.1, ?_⟩
  · refine h.bel.trans (hb.below' h.bel.size (fun i hi hS => ?_))
    rcases hS with e | e
    · have := h.ge.2 i e; omega
    · have := h.ge.1; omega
  · intro b' e
    cases e
    rcases ho with e | e
    · exact h.ge.2 b e
    · have := h.bel.size; omega
  · intro b' e
    cases e
    rcases ho with e | e
    · exact h.ne.2 b e
    · have := e.2; omega
theorem has_put {D : DataW Value} {k kl : Lit} {d : DataW Value} (h : Maps.has (D.put k d) kl = true) : kl = k ∨ Maps.has D kl = true := by
  by_cases e : kl = k
  · exact .inl e
  · rw [Maps.has_put_other e] at h; exact .inr h
/-- What Put tells of t. -/
def PutMain (w : World) (kb b7 b8 m : Nat) (ck cp cq : Array Value) (t : Val) (us : List Val) (n : Nat) (s : Option Val) (v : Val) (e : Ending) (W' : World) : Prop :=
  ∃ c B ec, e = .returned (.tuple #[c, .bool B, .int .i64 ec]) ∧ c.oneCell' = true ∧ ((ec = 0 ∧ B = s.isSome ∧ LastInv w W' kb b7 b8 m ck cp cq t us n (some v)) ∨ (ec ≠ 0 ∧ LastInv w W' kb b7 b8 m ck cp cq t us n s))
theorem put_main (h : LastInv w W kb b7 b8 m ck cp cq t us n s) {v : Val} {x y : Value} {fs gs : List Nat} (hx : VRep W t x fs) (hn : numsV t) (hy : VRep W v y gs) (hfk : m ∉ fs) (hfv : m ∉ gs) :
    Calls Try.prog 65 #[.pointer (some ⟨m, 0, none⟩), x, y] W (PutMain w kb b7 b8 m ck cp cq t us n s v) := by
  cases hot : okB t with
  | false =>
    refine (mapPut_badKey (v := .nil) (m := m) hx hot hy.one).mono fun e W' ⟨he, hb⟩ => ⟨.nilIface, false, whyF t, he, rfl, .inr ⟨why_bad hot, h.below hb⟩⟩
  | true =>
    cases hov : okB v with
    | false => exact (mapPut_badVal (m := m) hx hn hot hy hov).mono fun e W' ⟨he, hb⟩ => ⟨.nilIface, false, whyF v, he, rfl, .inr ⟨why_bad hov, h.below hb⟩⟩
    | true =>
      obtain ⟨o, D, h1, h2, h3⟩ := h
      by_cases hroom : Maps.has D (keyL t) = true ∨ Maps.size D < 4096
      · obtain ⟨a0, c0, -, hat, ha0, hc0⟩ := h1.map.look (keyL_of t (enc_small hn hot))
        refine (mapPut_ok h1.map hx hn hot hy hov hat hroom hfk hfv).mono fun e W' ⟨b, a, c, ga, gc, he, hm', hk', hv', _, _, _, hf, hob, hbut⟩ => ?_
        refine ⟨c0, _, 0, he, hc0, .inl ⟨rfl, ?_, some b, _, h1.put hm' hob hbut, ⟨hot, Maps.has_put_same h1.map.isMap (keyL_key t) _, hov, a, c, gc, Maps.atKey_put_same h1.map.isMap (keyL_key t) _ _, hv', fun e => ?_, fun b' e hb' => ?_⟩, fun kl hkl => ?_⟩⟩
        · cases s with
          | none => exact h2 hot
          | some v0 => exact h2.2.1
        · have := (hf m (List.mem_append_right _ e)).1; have := h1.map.lt.1; omega
        · cases e; exact (hf b (List.mem_append_right _ hb')).2 rfl
        · rcases has_put hkl with e | e
          · exact .inl ⟨hot, e⟩
          · exact h3 kl e
      · have hnot : Maps.has D (keyL t) = false := by cases hB : Maps.has D (keyL t) with | false => rfl | true => exact absurd (.inl hB) hroom
        exact (mapPut_full h1.map hx hn hot hy hov hnot ((Nat.lt_or_ge (Maps.size D) 4096).elim (fun h => absurd (.inr h) hroom) id)).mono fun e W' ⟨he, hb⟩ => ⟨.nilIface, false, 50, he, rfl, .inr ⟨by decide, LastInv.below ⟨o, D, h1, h2, h3⟩ hb⟩⟩
theorem KeysIn.mono (h : KeysIn D t us n) {n' : Nat} (hn : n ≤ n') : KeysIn D t us n' := fun kl hk => (h kl hk).imp id (fun ⟨j, u, h1, h2⟩ => ⟨j, u, Nat.lt_of_lt_of_le h1 hn, h2⟩)
/-- One of the others is passed over. -/
theorem LastInv.skip (h : LastInv w W kb b7 b8 m ck cp cq t us n s) : LastInv w W kb b7 b8 m ck cp cq t us (n + 1) s := by
  obtain ⟨o, D, h1, h2, h3⟩ := h
  exact ⟨o, D, h1, h2, h3.mono (by omega)⟩
theorem LastInv.skip_back (h : LastInv w W kb b7 b8 m ck cp cq t us (n + 1) s) (hu : us[n]? = some t) : LastInv w W kb b7 b8 m ck cp cq t us n s := by
  obtain ⟨o, D, h1, h2, h3⟩ := h
  refine ⟨o, D, h1, h2, fun kl hk => (h3 kl hk).imp id (fun ⟨j, u, g1, g2, g3, g4, g5⟩ => ⟨j, u, ?_, g2, g3, g4, g5⟩)⟩
  rcases Nat.lt_or_ge j n with h | h
  · exact h
  · obtain rfl : j = n := by omega
    rw [hu] at g2
    exact absurd (Option.some.inj g2).symm g4
theorem put_other (h : LastInv w W kb b7 b8 m ck cp cq t us n s) {u : Val} (hu : us[n]? = some u) (hne : ¬ (okB u = true ∧ okB t = true ∧ u = t)) {x : Value} {fs : List Nat} (hx : VRep W u x fs) (hn : numsV u) (hnt : numsV t) (hfk : m ∉ fs) :
    Calls Try.prog 65 #[.pointer (some ⟨m, 0, none⟩), x, .iface 4 (.bool true)] W fun e W' => ∃ c B ec, e = .returned (.tuple #[c, .bool B, .int .i64 ec]) ∧ c.oneCell' = true ∧ LastInv w W' kb b7 b8 m ck cp cq t us (n + 1) s := by
  have hy : VRep W (.bool true) (.iface 4 (.bool true)) [] := ⟨rfl, rfl⟩
  have hov : okB (.bool true) = true := by decide
  cases hou : okB u with
  | false => exact (mapPut_badKey (v := .nil) (m := m) hx hou rfl).mono fun e W' ⟨he, hb⟩ => ⟨.nilIface, false, whyF u, he, rfl, (h.below hb).skip⟩
  | true =>
    have hut : u ≠ t := fun e => hne ⟨hou, e ▸ hou, e⟩
    obtain ⟨o, D, h1, h2, h3⟩ := h
    by_cases hroom : Maps.has D (keyL u) = true ∨ Maps.size D < 4096
    · obtain ⟨a0, c0, -, hat, ha0, hc0⟩ := h1.map.look (keyL_of u (enc_small hn hou))
      refine (mapPut_ok h1.map hx hn hou hy hov hat hroom hfk (by simp)).mono fun e W' ⟨b, a, c, ga, gc, he, hm', hk', hv', _, _, _, hf, hob, hbut⟩ => ?_
      refine ⟨c0, _, 0, he, hc0, some b, _, h1.put hm' hob hbut, ?_, fun kl hkl => ?_⟩
      · cases s with
        | none =>
          intro hot
          rw [Maps.has_put_other (fun e => hut (keyL_inj hn hnt hou hot e.symm))]
          exact h2 hot
        | some v =>
          obtain ⟨hot, g2, g3, a1, c1, gc1, g4, g5, g6, g7⟩ := h2
          have hkk : keyL t ≠ keyL u := fun e => hut (keyL_inj hn hnt hou hot e.symm)
          refine ⟨hot, by rw [Maps.has_put_other hkk]; exact g2, g3, a1, c1, gc1, by rw [Maps.atKey_put_other hkk]; exact g4, VRep.but g5 hbut (fun i hi hS => ?_), g6, fun b' e hb' => ?_⟩
          · rcases hS with e | e
            · exact g7 i e hi
            · exact g6 (e.2 ▸ hi)
          · cases e
            rcases hob with e | e
            · exact g7 b e hb'
            · have := VRep.lt _ _ _ g5 b hb'; omega
      · rcases has_put hkl with e | e
        · exact .inr ⟨n, u, by omega, hu, hou, hut, e⟩
        · exact (h3.mono (Nat.le_succ n)) kl e
    · have hnot : Maps.has D (keyL u) = false := by cases hB : Maps.has D (keyL u) with | false => rfl | true => exact absurd (.inl hB) hroom
      exact (mapPut_full h1.map hx hn hou hy hov hnot ((Nat.lt_or_ge (Maps.size D) 4096).elim (fun h => absurd (.inr h) hroom) id)).mono fun e W' ⟨he, hb⟩ => ⟨.nilIface, false, 50, he, rfl, LastInv.skip (LastInv.below ⟨o, D, h1, h2, h3⟩ hb)⟩
theorem del_other (h : LastInv w W kb b7 b8 m ck cp cq t us (n + 1) s) {u : Val} (hu : us[n]? = some u) (hne : ¬ (okB u = true ∧ okB t = true ∧ u = t)) {x : Value} {fs : List Nat} (hx : VRep W u x fs) (hn : numsV u) (hnt : numsV t) :
    Calls Try.prog 66 #[.pointer (some ⟨m, 0, none⟩), x] W fun e W' => ∃ c B, e = .returned (.tuple #[c, .bool B]) ∧ c.oneCell' = true ∧ LastInv w W' kb b7 b8 m ck cp cq t us n s := by
  cases hou : okB u with
  | false =>
    refine (mapDelete_bad (m := m) hx hou).mono fun e W' ⟨he, hb⟩ => ⟨.nilIface, false, he, rfl, ?_⟩
    obtain ⟨o, D, h1, h2, h3⟩ := h.below hb
    refine ⟨o, D, h1, h2, fun kl hk => (h3 kl hk).imp id (fun ⟨j, u', g1, g2, g3, g4, g5⟩ => ⟨j, u', ?_, g2, g3, g4, g5⟩)⟩
    rcases Nat.lt_or_ge j n with h | h
    · exact h
    · obtain rfl : j = n := by omega
      rw [hu] at g2
      cases g2
      rw [hou] at g3
      cases g3
  | true =>
    have hut : u ≠ t := fun e => hne ⟨hou, e ▸ hou, e⟩
    obtain ⟨o, D, h1, h2, h3⟩ := h
    obtain ⟨a0, c0, -, hat, ha0, hc0⟩ := h1.map.look (keyL_of u (enc_small hn hou))
    refine (mapDelete_ok h1.map hx hn hou hat).mono fun e W' ⟨he, hm', hbut⟩ => ?_
    have hl := h1.lts
    refine ⟨c0, _, he, hc0, o, D.del (keyL u), ⟨?_, (hbut.block _ hl.1 (fun e => (h1.ne.2 _ e).1 rfl)).trans h1.k, (hbut.block _ hl.2.1 (fun e => (h1.ne.2 _ e).2.1 rfl)).trans h1.p, (hbut.block _ hl.2.2 (fun e => (h1.ne.2 _ e).2.2 rfl)).trans h1.q, hm', h1.ge, h1.ne⟩, ?_, fun kl hk => ?_⟩
    · exact h1.bel.trans (hbut.below' h1.bel.size (fun i hi e => by have := h1.ge.2 i e; omega))
    · cases s with
      | none =>
        intro hot
        rw [Maps.has_del_other (fun e => hut (keyL_inj hn hnt hou hot e.symm))]
        exact h2 hot
      | some v =>
        obtain ⟨hot, g2, g3, a1, c1, gc1, g4, g5, g6, g7⟩ := h2
        have hkk : keyL t ≠ keyL u := fun e => hut (keyL_inj hn hnt hou hot e.symm)
        exact ⟨hot, by rw [Maps.has_del_other hkk]; exact g2, g3, a1, c1, gc1, by rw [Maps.atKey_del_other hkk]; exact g4, VRep.but g5 hbut (fun i hi e => g7 i e hi), g6, g7⟩
    · have hkn : kl ≠ keyL u := fun e => by rw [e, Maps.has_del_same] at hk; cases hk
      rw [Maps.has_del_other hkn] at hk
      refine (h3 kl hk).imp id (fun ⟨j, u', g1, g2, g3, g4, g5⟩ => ⟨j, u', ?_, g2, g3, g4, g5⟩)
      rcases Nat.lt_or_ge j n with h | h
      · exact h
      · obtain rfl : j = n := by omega
        rw [hu] at g2
        cases g2
        exact absurd g5 hkn
theorem get_main (h : LastInv w W kb b7 b8 m ck cp cq t us n s) {x : Value} {fs : List Nat} (hx : VRep W t x fs) (hn : numsV t) :
    Calls Try.prog 67 #[.pointer (some ⟨m, 0, none⟩), x] W fun e W' => ∃ y gy, e = .returned (.tuple #[y, .bool s.isSome]) ∧ VRep W' (s.getD .nil) y gy ∧ Below W.heap.size W W' ∧ LastInv w W' kb b7 b8 m ck cp cq t us n s := by
  cases hot : okB t with
  | false =>
    have hs : s = none := by
      obtain ⟨o, D, h1, h2, h3⟩ := h
      cases s with
      | none => rfl
      | some v =>
        have h4 := h2.1
        rw [hot] at h4
        cases h4
    subst hs
    exact (mapGet_bad (m := m) hx hot).mono fun e W' ⟨he, hb⟩ => ⟨.nilIface, [], he, ⟨rfl, rfl⟩, hb, h.below hb⟩
  | true =>
    have h' := h
    obtain ⟨o, D, h1, h2, h3⟩ := h'
    cases s with
    | none =>
      have hf := h2 hot
      refine (mapGet_ok h1.map hx hn hot (u := .nil) (a := .nilIface) (c := .nilIface) (gs := []) (Maps.atKey_of_not_has hf _) ⟨rfl, rfl⟩ (by decide)).mono fun e W' ⟨y, gy, he, hy, _, _, hb⟩ => ⟨y, gy, ?_, hy, hb, h.below hb⟩
      rw [he, hf]
      rfl
    | some v =>
      obtain ⟨-, g2, g3, a1, c1, gc1, g4, g5, g6, g7⟩ := h2
      refine (mapGet_ok h1.map hx hn hot g4 g5 g3).mono fun e W' ⟨y, gy, he, hy, _, _, hb⟩ => ⟨y, gy, ?_, hy, hb, h.below hb⟩
      rw [he, g2]
      rfl
theorem len_main (h : LastInv w W kb b7 b8 m ck cp cq t us 0 s) :
    Calls Try.prog 68 #[.pointer (some ⟨m, 0, none⟩)] W fun e W' => e = .returned (.int .i64 (bif s.isSome then 1 else 0)) ∧ Below W.heap.size W W' := by
  obtain ⟨o, D, h1, h2, h3⟩ := h
  have hsz : (Maps.size D : Int) = bif s.isSome then 1 else 0 := by
    have hc := h1.map.canon
    obtain ⟨es, rfl, hp, hk⟩ := hc
    have hall : ∀ p ∈ es, okB t = true ∧ p.1 = keyL t := fun p hp' => by
      rcases h3 p.1 (by rw [Maps.has_eq, List.any_eq_true]; exact ⟨p, hp', WideAt.sameKey_self (hk p hp')⟩) with h | ⟨j, u, hj, -⟩
      · exact h
      · omega
    have hap := Maps.apart_of_rising hp
    rw [Maps.size_eq]
    match es, hall, hap with
    | [], hall, _ =>
      cases s with
      | none => rfl
      | some v => have := h2.2.1; simp [Maps.has_eq] at this
    | [p], hall, _ =>
      cases s with
      | none =>
        have h4 := hall p (List.mem_singleton.2 rfl)
        have h5 := h2 h4.1
        rw [Maps.has_eq, List.any_cons, h4.2, WideAt.sameKey_self (keyL_key t)] at h5
        cases h5
      | some v => rfl
    | p :: q :: r, hall, hap =>
      have e1 := (hall p (by simp)).2
      have e2 := (hall q (by simp)).2
      exact absurd (e1.trans e2.symm) ((List.pairwise_cons.1 hap).1 q (by simp))
  exact (mapLen h1.map).mono fun e W' ⟨he, hb⟩ => ⟨by rw [he, hsz], hb⟩
end
end Go.Proofs.Ytpcbdjfonmohaaa
