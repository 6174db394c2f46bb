/- digest.Map whole: all the pairs that it keeps. -/
import Derived.Test.YtgmdbpplfjkjmaaMapPut
import Derived.Test.YtgmdbpplfjkjmaaEncInj
import Derived.Test.YtgmdbpplfjkjmaaRaw
namespace Go.Proofs.Ytgmdbpplfjkjmaa
open Go.RowKit
set_option linter.unusedVariables false
set_option linter.unusedSimpArgs false

/-- A pair that a map keeps: key and value, and where they stand. -/
structure PE where
  k : Val
  v : Val
  a : Value
  c : Value
  ga : List Nat
  gc : List Nat
def PE.fs (e : PE) : List Nat := e.ga ++ e.gc
def PE.ky (e : PE) : List UInt8 := encV e.k
def fsM (l : List PE) : List Nat := l.flatMap PE.fs
/-- But for one key. -/
def lessM (l : List PE) (s : List UInt8) : List PE := l.filter fun x => decide (x.ky ≠ s)
theorem lessM_mem {l : List PE} {s : List UInt8} {e : PE} : e ∈ lessM l s ↔ e ∈ l ∧ e.ky ≠ s := by unfold lessM; rw [List.mem_filter, decide_eq_true_iff]
theorem lessM_len : ∀ {l : List PE} {s : List UInt8}, (l.map PE.ky).Nodup → (lessM l s).length + (if s ∈ l.map PE.ky then 1 else 0) = l.length
  | [], s, _ => by simp [lessM]
  | e :: l, s, h => by
    rw [List.map_cons, List.nodup_cons] at h
    have ih := lessM_len (s := s) h.2
    have hc : lessM (e :: l) s = if e.ky ≠ s then e :: lessM l s else lessM l s := by unfold lessM; rw [List.filter_cons]; simp only [decide_eq_true_eq]
    rw [hc, List.map_cons, List.length_cons]
    by_cases he : e.ky = s
    · have h1 : s ∉ l.map PE.ky := by rw [← he]; exact h.1
      rw [if_neg h1] at ih
      rw [if_neg (by simpa using he), if_pos (by rw [he]; exact List.mem_cons_self ..)]
      omega
    · rw [if_pos he, List.length_cons]
      by_cases h1 : s ∈ l.map PE.ky
      · rw [if_pos h1] at ih; rw [if_pos (List.mem_cons_of_mem _ h1)]; omega
      · rw [if_neg h1] at ih; rw [if_neg (fun hm => (List.mem_cons.1 hm).elim (fun e1 => he e1.symm) h1)]; omega
theorem lessM_same {l : List PE} {s : List UInt8} (h : s ∉ l.map PE.ky) : lessM l s = l := by
  unfold lessM
  exact List.filter_eq_self.2 (fun e he => by simp; exact fun e1 => h (List.mem_map.2 ⟨e, he, e1⟩))
theorem lessM_keys {l : List PE} {s : List UInt8} (h : (l.map PE.ky).Nodup) : ((lessM l s).map PE.ky).Nodup := h.sublist (List.filter_sublist.map _)
theorem lessM_fs {l : List PE} {s : List UInt8} (h : (fsM l).Nodup) : (fsM (lessM l s)).Nodup := by
  refine h.sublist ?_
  unfold fsM lessM
  induction l with
  | nil => exact List.Sublist.refl _
  | cons e l ih =>
    have h2 : (fsM l).Nodup := by
      have : fsM (e :: l) = e.fs ++ fsM l := by simp [fsM]
      rw [this] at h
      exact (List.nodup_append.1 h).2.1
    rw [List.filter_cons, List.flatMap_cons]
    split
    · rw [List.flatMap_cons]; exact (ih h2).append_left _
    · exact (ih h2).trans (List.sublist_append_right _ _)
theorem fsM_of {l : List PE} {e : PE} (he : e ∈ l) : ∀ b ∈ e.fs, b ∈ fsM l := fun b hb => List.mem_flatMap.2 ⟨e, he, hb⟩
theorem lessM_sub {l : List PE} {s : List UInt8} : ∀ b ∈ fsM (lessM l s), b ∈ fsM l := fun b hb => by
  obtain ⟨e, he, hb⟩ := List.mem_flatMap.1 hb
  exact fsM_of (lessM_mem.1 he).1 b hb
/-- A datum holds just these. -/
structure KeepsM (D : DataW Value) (l : List PE) : Prop where
  tidy : Maps.Tidy D
  size : Maps.size D = l.length
  here : ∀ e ∈ l, Maps.has D (.string e.ky) = true ∧ ∀ z, D.atKey (.string e.ky) z = .held (.agg #[e.a, e.c])
  only : ∀ s, Maps.has D (.string s) = true → ∃ e ∈ l, e.ky = s
theorem KeepsM.has {D : DataW Value} {l : List PE} (h : KeepsM D l) (s : List UInt8) : Maps.has D (.string s) = decide (s ∈ l.map PE.ky) := by
  by_cases hs : s ∈ l.map PE.ky
  · obtain ⟨e, he, rfl⟩ := List.mem_map.1 hs
    rw [(h.here e he).1, decide_eq_true hs]
  · rw [decide_eq_false hs]
    cases hh : Maps.has D (.string s) with
    | false => rfl
    | true => obtain ⟨e, he, e1⟩ := h.only s hh; exact absurd (List.mem_map.2 ⟨e, he, e1⟩) hs
theorem str_ne {s t : List UInt8} (h : s ≠ t) : Lit.string s ≠ Lit.string t := fun e => h (by injection e)
theorem KeepsM.put {D : DataW Value} {l : List PE} (h : KeepsM D l) (hk : (l.map PE.ky).Nodup) (e : PE) : KeepsM (D.put (.string e.ky) (.held (.agg #[e.a, e.c]))) (lessM l e.ky ++ [e]) where
  tidy := h.tidy.put (k := .string e.ky) (show WideAt.IsKeyLit (.string e.ky) from trivial) _
  size := by
    have h1 := lessM_len (s := e.ky) hk
    rw [Maps.size_put h.tidy, h.has, h.size, List.length_append, List.length_singleton]
    by_cases hm : e.ky ∈ l.map PE.ky
    · rw [if_pos hm] at h1; simp only [hm, decide_true, if_true]; omega
    · rw [if_neg hm] at h1; simp only [hm, decide_false, Bool.false_eq_true, if_false]; omega
  here := fun x hx => by
    rcases List.mem_append.1 hx with hx | hx
    · obtain ⟨h1, h2⟩ := lessM_mem.1 hx
      obtain ⟨h3, h4⟩ := h.here x h1
      exact ⟨(Maps.has_put_other (str_ne h2) _).trans h3, fun z => (Maps.atKey_put_other (str_ne h2) _ z).trans (h4 z)⟩
    · rw [List.mem_singleton.1 hx]
      exact ⟨Maps.has_put_same h.tidy.isMap (show WideAt.IsKeyLit (.string e.ky) from trivial) _, fun z => Maps.atKey_put_same h.tidy.isMap (show WideAt.IsKeyLit (.string e.ky) from trivial) _ z⟩
  only := fun s hs => by
    by_cases e1 : s = e.ky
    · exact ⟨e, List.mem_append_right _ (List.mem_singleton.2 rfl), e1.symm⟩
    · rw [Maps.has_put_other (str_ne e1)] at hs
      obtain ⟨x, hx, rfl⟩ := h.only s hs
      exact ⟨x, List.mem_append_left _ (lessM_mem.2 ⟨hx, e1⟩), rfl⟩
theorem KeepsM.del {D : DataW Value} {l : List PE} (h : KeepsM D l) (hk : (l.map PE.ky).Nodup) (s : List UInt8) : KeepsM (D.del (.string s)) (lessM l s) where
  tidy := h.tidy.del _
  size := by
    have h1 := lessM_len (s := s) hk
    have h2 := Maps.size_del (k := .string s) h.tidy
    rw [h.has, h.size] at h2
    by_cases hm : s ∈ l.map PE.ky
    · rw [if_pos hm] at h1; simp only [hm, decide_true, if_true] at h2; omega
    · rw [if_neg hm] at h1; simp only [hm, decide_false, Bool.false_eq_true, if_false] at h2; omega
  here := fun x hx => by
    obtain ⟨h1, h2⟩ := lessM_mem.1 hx
    obtain ⟨h3, h4⟩ := h.here x h1
    exact ⟨(Maps.has_del_other (str_ne h2)).trans h3, fun z => (Maps.atKey_del_other (str_ne h2) z).trans (h4 z)⟩
  only := fun t ht => by
    by_cases e1 : t = s
    · subst e1; rw [Maps.has_del_same] at ht; cases ht
    · rw [Maps.has_del_other (str_ne e1)] at ht
      obtain ⟨x, hx, rfl⟩ := h.only t ht
      exact ⟨x, lessM_mem.2 ⟨hx, e1⟩, rfl⟩
/-- A map of block m with all that it keeps; what it takes lies behind B. -/
structure MapW (B : Nat) (w : World) (m : Nat) (o : Option Nat) (l : List PE) : Prop where
  at_ : ∃ D, MapAt w m o D ∧ KeepsM D l
  reps : ∀ e ∈ l, VRep w e.k e.a e.ga ∧ VRep w e.v e.c e.gc ∧ okB e.k = true ∧ okB e.v = true ∧ numsV e.k ∧ numsV e.v
  keys : (l.map PE.ky).Nodup
  apart : (fsM l).Nodup
  free : ∀ b ∈ fsM l, B ≤ b ∧ b ≠ m ∧ o ≠ some b
  base : B ≤ m ∧ ∀ b, o = some b → B ≤ b
/-- The blocks that a map takes. -/
def OfM (m : Nat) (o : Option Nat) (l : List PE) (b : Nat) : Prop := b = m ∨ o = some b ∨ b ∈ fsM l
section
variable {B : Nat} {w w' : World} {m : Nat} {o : Option Nat} {l : List PE}
theorem MapW.lt (h : MapW B w m o l) : ∀ b, OfM m o l b → B ≤ b ∧ b < w.heap.size := by
  obtain ⟨D, h1, -⟩ := h.at_
  rintro b (rfl | hb | hb)
  · exact ⟨h.base.1, h1.lt.1⟩
  · exact ⟨h.base.2 b hb, h1.lt.2 b hb⟩
  · refine ⟨(h.free b hb).1, ?_⟩
    obtain ⟨e, he, hb⟩ := List.mem_flatMap.1 hb
    obtain ⟨r1, r2, -⟩ := h.reps e he
    rcases List.mem_append.1 hb with hb | hb
    · exact VRep.lt _ _ _ r1 b hb
    · exact VRep.lt _ _ _ r2 b hb
theorem MapW.keep (h : MapW B w m o l) (hk : ∀ b, OfM m o l b → w'.heap[b]? = w.heap[b]?) : MapW B w' m o l := by
  obtain ⟨D, h1, h2⟩ := h.at_
  refine ⟨⟨D, h1.keep (hk m (.inl rfl)) (fun b hb => hk b (.inr (.inl hb))), h2⟩, fun e he => ?_, h.keys, h.apart, h.free, h.base⟩
  obtain ⟨r1, r2, r3⟩ := h.reps e he
  exact ⟨VRep.keep _ _ _ r1 (fun b hb => hk b (.inr (.inr (fsM_of he b (List.mem_append_left _ hb))))), VRep.keep _ _ _ r2 (fun b hb => hk b (.inr (.inr (fsM_of he b (List.mem_append_right _ hb))))), r3⟩
theorem MapW.below (h : MapW B w m o l) (hb : Below w.heap.size w w') : MapW B w' m o l := h.keep (fun b hbm => hb.block b (h.lt b hbm).2)
theorem MapW.but {S : Nat → Prop} (h : MapW B w m o l) (hb : But S w w') (hs : ∀ b, OfM m o l b → ¬ S b) : MapW B w' m o l := h.keep (fun b hbm => hb.block b (h.lt b hbm).2 (hs b hbm))
theorem MapW.small (h : MapW B w m o l) : l.length ≤ 4096 := by
  obtain ⟨D, h1, h2⟩ := h.at_
  rw [← h2.size]; exact h1.2.1
theorem MapW.inj (h : MapW B w m o l) {e : PE} (he : e ∈ l) {v : Val} (hn : numsV v) (hok : okB v = true) : e.ky = encV v ↔ e.k = v := by
  obtain ⟨-, -, h3, -, h5, -⟩ := h.reps e he
  exact enc_same h5 (okV_check h3) hn (okV_check hok)
/-- The one that stands under a key. -/
theorem MapW.one (h : MapW B w m o l) {e e' : PE} (he : e ∈ l) (he' : e' ∈ l) (hk : e.ky = e'.ky) : e = e' := by
  obtain ⟨i, hi⟩ := List.mem_iff_getElem?.1 he
  obtain ⟨j, hj⟩ := List.mem_iff_getElem?.1 he'
  have h1 : (l.map PE.ky)[i]? = some e.ky := by rw [List.getElem?_map, hi]; rfl
  have h2 : (l.map PE.ky)[j]? = some e.ky := by rw [List.getElem?_map, hj, hk]; rfl
  have := (List.getElem?_inj (List.getElem?_eq_some_iff.1 h1).1 h.keys).1 (h1.trans h2.symm)
  subst this
  rw [hi] at hj
  exact Option.some.inj hj
def GetW (l : List PE) (v : Val) (w : World) (e : Ending) (w' : World) : Prop :=
  (∃ p ∈ l, p.k = v ∧ ∃ y gy, e = .returned (.tuple #[y, .bool true]) ∧ VRep w' p.v y gy ∧ gy.Nodup ∧ (∀ b ∈ gy, w.heap.size ≤ b) ∧ Below w.heap.size w w') ∨
  ((∀ p ∈ l, okB v = true → p.k ≠ v) ∧ e = .returned (.tuple #[.nilIface, .bool false]) ∧ Below w.heap.size w w')
theorem mapW_get (h : MapW B w m o l) {v : Val} {x : Value} {fs : List Nat} (hx : VRep w v x fs) (hn : numsV v) :
    Calls Try.prog 22 #[.pointer (some ⟨m, 0, none⟩), x] w (GetW l v w) := by
  cases hok : okB v with
  | false => exact (mapGet_bad hx hok).mono fun e w' ⟨he, hb⟩ => .inr ⟨fun _ _ h => (by rw [hok] at h; cases h), he, hb⟩
  | true =>
    obtain ⟨D, h1, h2⟩ := h.at_
    by_cases hm : encV v ∈ l.map PE.ky
    · obtain ⟨p, hp, e1⟩ := List.mem_map.1 hm
      obtain ⟨h3, h4⟩ := h2.here p hp
      rw [e1] at h3 h4
      obtain ⟨r1, r2, r3, r4, -⟩ := h.reps p hp
      refine (mapGet_ok h1 hx hn hok (h4 _) r2 r4).mono fun e w' ⟨y, gy, he, hy, hyn, hyf, hb⟩ => .inl ⟨p, hp, (h.inj hp hn hok).1 e1, y, gy, ?_, hy, hyn, hyf, hb⟩
      rw [he]; show Ending.returned (.tuple #[y, .bool (Maps.has D (.string (encV v)))]) = _; rw [h3]
    · have h3 : Maps.has D (.string (encV v)) = false := by rw [h2.has, decide_eq_false hm]
      refine (mapGet_ok h1 hx hn hok (u := .nil) (gs := []) (Maps.atKey_of_not_has h3 _) ⟨rfl, rfl⟩ (by decide)).mono fun e w' ⟨y, gy, he, hy, _, _, hb⟩ => .inr ⟨fun p hp _ e1 => hm (List.mem_map.2 ⟨p, hp, (h.inj hp hn hok).2 e1⟩), ?_, hb⟩
      obtain ⟨rfl, -⟩ := hy
      rw [he]; show Ending.returned (.tuple #[_, .bool (Maps.has D (.string (encV v)))]) = _; rw [h3]
theorem MapW.less (h : MapW B w m o l) {D : DataW Value} (hD : KeepsM D l) (s : List UInt8) {w' : World} (hm : MapAt w' m o (D.del (.string s))) (hb : But (fun b => o = some b) w w') : MapW B w' m o (lessM l s) := by
  refine ⟨⟨_, hm, hD.del h.keys s⟩, fun e he => ?_, lessM_keys h.keys, lessM_fs h.apart, fun b hb => h.free b (lessM_sub b hb), h.base⟩
  have he' := (lessM_mem.1 he).1
  obtain ⟨r1, r2, r3⟩ := h.reps e he'
  exact ⟨VRep.but r1 hb (fun b hbm => (h.free b (fsM_of he' b (List.mem_append_left _ hbm))).2.2), VRep.but r2 hb (fun b hbm => (h.free b (fsM_of he' b (List.mem_append_right _ hbm))).2.2), r3⟩
def DelW (B : Nat) (m : Nat) (o : Option Nat) (l : List PE) (v : Val) (w : World) (e : Ending) (w' : World) : Prop :=
  (∃ p ∈ l, p.k = v ∧ e = .returned (.tuple #[p.c, .bool true]) ∧ VRep w' p.v p.c p.gc ∧ MapW B w' m o (lessM l (encV v)) ∧ But (fun b => o = some b) w w') ∨
  ((∀ p ∈ l, okB v = true → p.k ≠ v) ∧ e = .returned (.tuple #[.nilIface, .bool false]) ∧ MapW B w' m o l ∧ But (fun b => o = some b) w w')
theorem mapW_delete (h : MapW B w m o l) {v : Val} {x : Value} {fs : List Nat} (hx : VRep w v x fs) (hn : numsV v) :
    Calls Try.prog 24 #[.pointer (some ⟨m, 0, none⟩), x] w (DelW B m o l v w) := by
  cases hok : okB v with
  | false => exact (mapDelete_bad hx hok).mono fun e w' ⟨he, hb⟩ => .inr ⟨fun _ _ h => (by rw [hok] at h; cases h), he, h.below hb, (But.refl _ w).of_below hb (fun i hi hle => by omega)⟩
  | true =>
    obtain ⟨D, h1, h2⟩ := h.at_
    by_cases hm : encV v ∈ l.map PE.ky
    · obtain ⟨p, hp, e1⟩ := List.mem_map.1 hm
      obtain ⟨h3, h4⟩ := h2.here p hp
      rw [e1] at h3 h4
      obtain ⟨r1, r2, r3⟩ := h.reps p hp
      refine (mapDelete_ok h1 hx hn hok (h4 _)).mono fun e w' ⟨he, hm', hb⟩ => .inl ⟨p, hp, (h.inj hp hn hok).1 e1, ?_, VRep.but r2 hb (fun b hbm => (h.free b (fsM_of hp b (List.mem_append_right _ hbm))).2.2), h.less h2 _ hm' hb, hb⟩
      rw [he]; show Ending.returned (.tuple #[_, .bool (Maps.has D (.string (encV v)))]) = _; rw [h3]
    · have h3 : Maps.has D (.string (encV v)) = false := by rw [h2.has, decide_eq_false hm]
      refine (mapDelete_ok h1 hx hn hok (a := .nilIface) (c := .nilIface) (Maps.atKey_of_not_has h3 _)).mono fun e w' ⟨he, hm', hb⟩ => .inr ⟨fun p hp _ e1 => hm (List.mem_map.2 ⟨p, hp, (h.inj hp hn hok).2 e1⟩), ?_, ?_, hb⟩
      · rw [he]; show Ending.returned (.tuple #[_, .bool (Maps.has D (.string (encV v)))]) = _; rw [h3]
      · have h5 := h.less h2 _ hm' hb
        rwa [lessM_same hm] at h5
/-- What Put answers, and what the map then keeps. -/
def PutW (B : Nat) (m : Nat) (o : Option Nat) (l : List PE) (k v : Val) (w : World) (e : Ending) (w' : World) : Prop :=
  (okB k = false ∧ e = .returned (.tuple #[.nilIface, .bool false, .int .i64 (whyF k)]) ∧ MapW B w' m o l ∧ But (OfM m o l) w w') ∨
  (okB k = true ∧ okB v = false ∧ e = .returned (.tuple #[.nilIface, .bool false, .int .i64 (whyF v)]) ∧ MapW B w' m o l ∧ But (OfM m o l) w w') ∨
  (okB k = true ∧ okB v = true ∧ (∀ p ∈ l, p.k ≠ k) ∧ 4096 ≤ l.length ∧ e = .returned (.tuple #[.nilIface, .bool false, .int .i64 50]) ∧ MapW B w' m o l ∧ But (OfM m o l) w w') ∨
  (okB k = true ∧ okB v = true ∧ ∃ o' a c ga gc, MapW B w' m o' (lessM l (encV k) ++ [⟨k, v, a, c, ga, gc⟩]) ∧ (o' = o ∨ o = none ∧ ∃ b, o' = some b ∧ w.heap.size ≤ b) ∧ But (OfM m o l) w w' ∧ (∀ b ∈ ga ++ gc, w.heap.size ≤ b) ∧
    ((∃ p ∈ l, p.k = k ∧ e = .returned (.tuple #[p.c, .bool true, .int .i64 0]) ∧ VRep w' p.v p.c p.gc) ∨ ((∀ p ∈ l, p.k ≠ k) ∧ l.length < 4096 ∧ e = .returned (.tuple #[.nilIface, .bool false, .int .i64 0]))))
theorem mapW_put (h : MapW B w m o l) {k v : Val} {x y : Value} {fs gs : List Nat} (hx : VRep w k x fs) (hn : numsV k) (hy : VRep w v y gs) (hnv : numsV v) (hfk : m ∉ fs) (hfv : m ∉ gs) :
    Calls Try.prog 16 #[.pointer (some ⟨m, 0, none⟩), x, y] w (PutW B m o l k v w) := by
  have hbb : ∀ {w' : World}, Below w.heap.size w w' → But (OfM m o l) w w' := fun hb => (But.refl _ w).of_below hb (fun i hi hle => by omega)
  cases hok : okB k with
  | false => exact (mapPut_badKey (v := .nil) (m := m) hx hok hy.one).mono fun e w' ⟨he, hb⟩ => .inl ⟨hok, he, h.below hb, hbb hb⟩
  | true =>
    cases hov : okB v with
    | false => exact (mapPut_badVal (m := m) hx hn hok hy hov).mono fun e w' ⟨he, hb⟩ => .inr (.inl ⟨hok, hov, he, h.below hb, hbb hb⟩)
    | true =>
      obtain ⟨D, h1, h2⟩ := h.at_
      have key : ∀ {a0 c0 : Value} {e : Ending} {w' : World}, PutEnd w m o D k v c0 e w' → ∃ o' a c ga gc, MapW B w' m o' (lessM l (encV k) ++ [⟨k, v, a, c, ga, gc⟩]) ∧ (o' = o ∨ o = none ∧ ∃ b, o' = some b ∧ w.heap.size ≤ b) ∧ But (OfM m o l) w w' ∧ (∀ b ∈ ga ++ gc, w.heap.size ≤ b) ∧ e = .returned (.tuple #[c0, .bool (Maps.has D (.string (encV k))), .int .i64 0]) ∧ But (fun i => o = some i ∨ o = none ∧ i = m) w w' := by
        intro a0 c0 e w' ⟨b, a, c, ga, gc, he, hm', hk', hv', hga, hgc, hgg, hf, hob, hbut⟩
        have hB : B ≤ w.heap.size := by have := (h.lt m (.inl rfl)); omega
        have hbut2 : But (OfM m o l) w w' := hbut.mono (fun i _ hi => hi.elim (fun h => .inr (.inl h)) (fun h => .inl h.2))
        refine ⟨some b, a, c, ga, gc, ⟨⟨_, hm', h2.put h.keys ⟨k, v, a, c, ga, gc⟩⟩, fun p hp => ?_, ?_, ?_, fun i hi => ?_, ⟨h.base.1, fun i hi => ?_⟩⟩, ?_, hbut2, fun i hi => (hf i hi).1, he, hbut⟩
        · rcases List.mem_append.1 hp with hp | hp
          · have hp' := (lessM_mem.1 hp).1
            obtain ⟨r1, r2, r3⟩ := h.reps p hp'
            have hne : ∀ i ∈ p.fs, ¬ (o = some i ∨ o = none ∧ i = m) := fun i hi hc => by
              have := h.free i (fsM_of hp' i hi)
              rcases hc with hc | hc
              · exact this.2.2 hc
              · exact this.2.1 hc.2
            exact ⟨VRep.but r1 hbut (fun i hi => hne i (List.mem_append_left _ hi)), VRep.but r2 hbut (fun i hi => hne i (List.mem_append_right _ hi)), r3⟩
          · rw [List.mem_singleton.1 hp]
            exact ⟨hk', hv', hok, hov, hn, hnv⟩
        · rw [List.map_append, List.map_singleton]
          refine List.nodup_append.2 ⟨lessM_keys h.keys, List.pairwise_singleton _ _, fun s hs t ht e1 => ?_⟩
          obtain ⟨p, hp, rfl⟩ := List.mem_map.1 hs
          rw [List.mem_singleton.1 ht] at e1
          exact (lessM_mem.1 hp).2 e1
        · have e2 : fsM (lessM l (encV k) ++ [⟨k, v, a, c, ga, gc⟩]) = fsM (lessM l (encV k)) ++ (ga ++ gc) := by simp [fsM, PE.fs]
          rw [e2]
          refine List.nodup_append.2 ⟨lessM_fs h.apart, List.nodup_append.2 ⟨hga, hgc, fun i hi j hj e1 => hgg i hi (e1 ▸ hj)⟩, fun i hi j hj e1 => ?_⟩
          have h5 := (h.lt i (.inr (.inr (lessM_sub i hi)))).2
          have h6 := (hf j hj).1
          omega
        · have e2 : fsM (lessM l (encV k) ++ [⟨k, v, a, c, ga, gc⟩]) = fsM (lessM l (encV k)) ++ (ga ++ gc) := by simp [fsM, PE.fs]
          rw [e2] at hi
          rcases List.mem_append.1 hi with hi | hi
          · have h5 := h.free i (lessM_sub i hi)
            have h6 := (h.lt i (.inr (.inr (lessM_sub i hi)))).2
            refine ⟨h5.1, h5.2.1, fun e1 => ?_⟩
            rcases hob with hob | hob
            · exact h5.2.2 (by rw [hob, e1])
            · have : b = i := by simpa using e1
              omega
          · have h5 := hf i hi
            have h6 := (h.lt m (.inl rfl)).2
            exact ⟨by omega, by omega, fun e1 => h5.2 (by simpa using e1.symm)⟩
        · have e1 : b = i := by simpa using hi
          rcases hob with hob | hob
          · exact h.base.2 i (by rw [hob, e1])
          · omega
        · rcases hob with hob | hob
          · exact .inl hob.symm
          · exact .inr ⟨hob.1, b, rfl, hob.2⟩
      by_cases hm : encV k ∈ l.map PE.ky
      · obtain ⟨p, hp, e1⟩ := List.mem_map.1 hm
        obtain ⟨h3, h4⟩ := h2.here p hp
        rw [e1] at h3 h4
        obtain ⟨r1, r2, r3⟩ := h.reps p hp
        refine (mapPut_ok h1 hx hn hok hy hov (h4 _) (.inl h3) hfk hfv).mono fun e w' hE => .inr (.inr (.inr ⟨hok, hov, ?_⟩))
        obtain ⟨o', a, c, ga, gc, k1, k2, k3, k4, k5, k6⟩ := key (a0 := p.a) hE
        rw [h3] at k5
        exact ⟨o', a, c, ga, gc, k1, k2, k3, k4, .inl ⟨p, hp, (h.inj hp hn hok).1 e1, k5, VRep.but r2 k6 (fun b hbm hc => by
          have := h.free b (fsM_of hp b (List.mem_append_right _ hbm))
          rcases hc with hc | hc
          · exact this.2.2 hc
          · exact this.2.1 hc.2)⟩⟩
      · have h3 : Maps.has D (.string (encV k)) = false := by rw [h2.has, decide_eq_false hm]
        have hno : ∀ p ∈ l, p.k ≠ k := fun p hp e1 => hm (List.mem_map.2 ⟨p, hp, (h.inj hp hn hok).2 e1⟩)
        by_cases hroom : l.length < 4096
        · refine (mapPut_ok h1 hx hn hok hy hov (a0 := .nilIface) (c0 := .nilIface) (Maps.atKey_of_not_has h3 _) (.inr (by rw [h2.size]; exact hroom)) hfk hfv).mono fun e w' hE => .inr (.inr (.inr ⟨hok, hov, ?_⟩))
          obtain ⟨o', a, c, ga, gc, k1, k2, k3, k4, k5, k6⟩ := key (a0 := .nilIface) hE
          rw [h3] at k5
          exact ⟨o', a, c, ga, gc, k1, k2, k3, k4, .inr ⟨hno, hroom, k5⟩⟩
        · exact (mapPut_full h1 hx hn hok hy hov h3 (by rw [h2.size]; omega)).mono fun e w' ⟨he, hb⟩ => .inr (.inr (.inl ⟨hok, hov, hno, by omega, he, h.below hb, hbb hb⟩))
theorem mapW_len (h : MapW B w m o l) : Calls Try.prog 26 #[.pointer (some ⟨m, 0, none⟩)] w fun e w' => e = .returned (.int .i64 l.length) ∧ Below w.heap.size w w' := by
  obtain ⟨D, h1, h2⟩ := h.at_
  refine (mapLen h1).mono fun e w' ⟨he, hb⟩ => ⟨?_, hb⟩
  rw [he, h2.size]
theorem MapW.made (w : World) (hB : B ≤ w.heap.size) : MapW B (w.alloc (.cells #[.map none] 49)) w.heap.size none [] :=
  ⟨⟨.map [], ⟨heap_alloc_new w _, by decide, rfl⟩, ⟨Maps.tidy_empty, rfl, (fun _ h => (by cases h)), (fun s h => (by simp [Maps.has_eq] at h))⟩⟩, (fun _ h => (by cases h)), List.nodup_nil, List.nodup_nil, (fun _ h => (by simp [fsM] at h)), ⟨hB, (fun _ h => (by cases h))⟩⟩
end
end Go.Proofs.Ytgmdbpplfjkjmaa

/-! A range over what digest.Map keeps: the pairs in some order. -/
namespace Go.Proofs.Ytgmdbpplfjkjmaa
open Go.RowKit
set_option linter.unusedVariables false
set_option linter.unusedSimpArgs false

/-- Texts as keys. -/
def strF : KeyForm Try.prog 9 (List UInt8) where
  kv := fun x => .string ⟨x.toArray⟩
  ok := fun x => x.length ≤ maxLen
  keyed := stringK
  lit := fun x h => ⟨.string x, by
    rw [WideMaps.keyOf_string_mk Try.underlying9 (show (ByteArray.mk x.toArray).size ≤ maxLen from by show x.toArray.size ≤ _; simpa using h)]⟩
  inj := fun x y h => by
    injection h with h
    injection h with h
    simpa using h
theorem key_string {v : Value} {q : Lit} (h : keyOf Try.prog 9 v = some q) : ∃ s : List UInt8, v = .string ⟨s.toArray⟩ ∧ s.length ≤ maxLen := by
  have hk : Try.prog.underlying 9 = some .string := Try.underlying9
  cases v <;> simp [keyOf, hk, mapKey] at h
  rename_i s
  refine ⟨s.data.toList, by simp, ?_⟩
  have h1 := h.1
  exact h1
def bytesOf (v : Value) : List UInt8 := match v with | .string s => s.data.toList | _ => []
theorem ownsMap_raw {w : World} {b n : Nat} {D : DataW Value} (h : w.ownsMap Try.prog 9 pairR b n D) : ∃ raw, MapIs strF w b raw := by
  obtain ⟨es, clock, hb, F, hs, hD⟩ := h
  have hk : ∀ x ∈ es.toList, ∃ s : List UInt8, x.key = .string ⟨s.toArray⟩ ∧ s.length ≤ maxLen := fun x hx => by
    obtain ⟨y, hy⟩ := F.reads x hx
    exact key_string (WideElems.rd_key hy)
  refine ⟨es.toList.map fun x => (bytesOf x.key, x.val), es, clock, hb, F.stamped, ?_, ?_⟩
  · rw [List.map_map]
    apply List.map_congr_left
    intro x hx
    obtain ⟨s, e, -⟩ := hk x hx
    show (x.key, x.val) = (Value.string ⟨(bytesOf x.key).toArray⟩, x.val)
    rw [e]; simp [bytesOf]
  · intro p hp
    obtain ⟨x, hx, rfl⟩ := List.mem_map.1 hp
    obtain ⟨s, e, hs⟩ := hk x hx
    show (bytesOf x.key).length ≤ maxLen
    rw [e]; simpa [bytesOf] using hs
theorem strF_key (s : List UInt8) (h : s.length ≤ maxLen) : keyOf Try.prog 9 (strF.kv s) = some (.string s) := by
  show keyOf Try.prog 9 (.string ⟨s.toArray⟩) = _
  rw [WideMaps.keyOf_string_mk Try.underlying9 (show (ByteArray.mk s.toArray).size ≤ maxLen from by show s.toArray.size ≤ _; simpa using h)]
theorem MapW.raw {B : Nat} {w : World} {m b : Nat} {l : List PE} (h : MapW B w m (some b) l) : ∃ raw, MapIs strF w b raw ∧ raw.Perm (l.map fun e => (e.ky, Value.agg #[e.a, e.c])) := by
  obtain ⟨D, h1, h2⟩ := h.at_
  have h3 := h1.2.2
  obtain ⟨hne, n, hown⟩ : b ≠ m ∧ ∃ n, w.ownsMap Try.prog 9 pairR b n D := h3
  obtain ⟨raw, hr⟩ := ownsMap_raw hown
  have hoks : ∀ p ∈ raw, p.1.length ≤ maxLen := by
    obtain ⟨es, clock, -, -, -, ho⟩ := hr
    exact ho
  -- what stands in it is what D says
  have hin : ∀ s v, (s, v) ∈ raw → Maps.has D (.string s) = true ∧ ∃ a c, v = .agg #[a, c] ∧ D.atKey (.string s) (.held (.agg #[.nilIface, .nilIface])) = .held (.agg #[a, c]) := fun s v hs => by
    have hok := hoks _ hs
    have r1 := hr.look_some true Try.underlying47 (x := s) hok hs
    obtain ⟨a, c, r2, r3, -⟩ := h1.look (strF_key s hok)
    rw [r1] at r2
    simp only [if_true, Result.ok.injEq, Value.tuple.injEq, and_true] at r2
    simp at r2
    obtain ⟨e1, e2⟩ := r2
    exact ⟨e2, a, c, e1, r3⟩
  have hout : ∀ s, s.length ≤ maxLen → s ∉ raw.map (·.1) → Maps.has D (.string s) = false := fun s hok hs => by
    have r1 := hr.look_none true Try.underlying47 (pair_zero w) (x := s) hok hs
    obtain ⟨a, c, r2, r3, -⟩ := h1.look (strF_key s hok)
    rw [r1] at r2
    simp only [if_true, Result.ok.injEq, Value.tuple.injEq, and_true] at r2
    simp at r2
    exact r2.2
  refine ⟨raw, hr, ?_⟩
  have hnd := hr.nodup
  have hnd1 : raw.Nodup := (List.pairwise_map.1 hnd).imp (fun hne e => hne (by rw [e]))
  have hnd2 : (l.map fun e => (e.ky, Value.agg #[e.a, e.c])).Nodup := by
    refine List.pairwise_map.2 ((List.pairwise_map.1 h.keys).imp (fun hne e => hne ?_))
    exact (Prod.mk.inj e).1
  refine (List.perm_ext_iff_of_nodup hnd1 hnd2).2 (fun p => ⟨fun hp => ?_, fun hp => ?_⟩)
  · obtain ⟨s, v⟩ := p
    obtain ⟨e1, a, c, rfl, e2⟩ := hin s v hp
    obtain ⟨e, he, rfl⟩ := h2.only s e1
    rw [(h2.here e he).2] at e2
    simp only [DataW.held.injEq, Value.agg.injEq] at e2
    exact List.mem_map.2 ⟨e, he, by rw [e2]⟩
  · obtain ⟨e, he, rfl⟩ := List.mem_map.1 hp
    obtain ⟨e1, e2⟩ := h2.here e he
    obtain ⟨r1, r2, r3, r4, r5, r6⟩ := h.reps e he
    have hlen : e.ky.length ≤ maxLen := by have := enc_small r5 r3; show (encV e.k).length ≤ maxLen; unfold maxLen; omega
    by_cases hm : e.ky ∈ raw.map (·.1)
    · obtain ⟨p, hp, e3⟩ := List.mem_map.1 hm
      obtain ⟨s, v⟩ := p
      obtain rfl : s = e.ky := e3
      obtain ⟨-, a, c, rfl, e4⟩ := hin _ _ hp
      rw [e2] at e4
      simp only [DataW.held.injEq, Value.agg.injEq] at e4
      rw [e4]; exact hp
    · rw [hout _ hlen hm] at e1; cases e1
end Go.Proofs.Ytgmdbpplfjkjmaa
