/- Go maps as lists of keys and values, in the order in which the keys came: look-up, store, delete, len, and the range. Over any program. -/
import Derived.Test.YtgmdbpplfjkjmaaVal
import Derived.Maps.OwnSet
import Derived.Maps.RangeWalk
namespace Go.Proofs.Ytgmdbpplfjkjmaa
open Go.RowKit Go.Maps
set_option linter.unusedVariables false
set_option linter.unusedSimpArgs false

/-- How keys lie. -/
structure KeyForm (P : Program) (k : TypeId) (κ : Type) where
  kv : κ → Value
  ok : κ → Prop
  keyed : Keyed P k
  lit : ∀ x, ok x → ∃ l, keyOf P k (kv x) = some l
  inj : ∀ x y, kv x = kv y → x = y

section
variable {κ : Type} {P : Program} {k : TypeId} (F : KeyForm P k κ)

/-- Block b is a map with these keys and values. -/
def MapIs (w : World) (b : Nat) (l : List (κ × Value)) : Prop :=
  ∃ es clock, w.heap[b]? = some (.map es clock) ∧ MapKept.Stamped es clock ∧ es.toList.map (fun e => (e.key, e.val)) = l.map (fun p => (F.kv p.1, p.2)) ∧ ∀ p ∈ l, F.ok p.1
/-- A store. -/
def upd [DecidableEq κ] (l : List (κ × Value)) (x : κ) (v : Value) : List (κ × Value) := if x ∈ l.map (·.1) then l.map (fun p => if p.1 = x then (x, v) else p) else l ++ [(x, v)]
/-- A key is struck. -/
def strike [DecidableEq κ] (l : List (κ × Value)) (x : κ) : List (κ × Value) := l.filter (fun p => decide (p.1 ≠ x))
variable {F} {w : World} {b : Nat} {l : List (κ × Value)}
theorem MapIs.lt (h : MapIs F w b l) : b < w.heap.size := by
  obtain ⟨es, clock, hb, -⟩ := h
  exact (Array.getElem?_eq_some_iff.1 hb).1
theorem MapIs.keep {w' : World} (h : MapIs F w b l) (hk : w'.heap[b]? = w.heap[b]?) : MapIs F w' b l := by
  obtain ⟨es, clock, hb, r⟩ := h
  exact ⟨es, clock, hk.trans hb, r⟩
theorem MapIs.below {w' : World} (h : MapIs F w b l) (hb : Below w.heap.size w w') : MapIs F w' b l := h.keep (hb.block b h.lt)
theorem MapIs.made (w : World) : MapIs F (w.alloc (.map #[] 0)) w.heap.size [] := by
  refine ⟨#[], 0, ?_, ⟨by simp, by simp, by simp⟩, rfl, by simp⟩
  show (w.heap.push _)[w.heap.size]? = _
  simp
theorem MapIs.keys (h : MapIs F w b l) : ∃ es clock, w.heap[b]? = some (.map es clock) ∧ MapKept.Stamped es clock ∧ es.toList.map (fun e => (e.key, e.val)) = l.map (fun p => (F.kv p.1, p.2)) ∧ (∀ p ∈ l, F.ok p.1) ∧ (∀ e ∈ es.toList, ∃ q, keyOf P k e.key = some q) ∧ es.toList.length = l.length := by
  obtain ⟨es, clock, hb, hs, hl, ho⟩ := h
  refine ⟨es, clock, hb, hs, hl, ho, fun e he => ?_, ?_⟩
  · have h1 : (e.key, e.val) ∈ l.map (fun p => (F.kv p.1, p.2)) := by rw [← hl]; exact List.mem_map.2 ⟨e, he, rfl⟩
    obtain ⟨p, hp, e1⟩ := List.mem_map.1 h1
    rw [← (Prod.mk.inj e1).1]
    exact F.lit _ (ho p hp)
  · have := congrArg List.length hl
    simpa using this
theorem MapIs.nodup (h : MapIs F w b l) : (l.map (·.1)).Nodup := by
  obtain ⟨es, clock, hb, ⟨-, -, hs⟩, hl, ho⟩ := h
  have h1 : es.toList.map (·.key) = (l.map (·.1)).map F.kv := by
    have := congrArg (List.map Prod.fst) hl
    simpa [List.map_map, Function.comp_def] using this
  rw [h1] at hs
  exact (List.pairwise_map.1 hs).imp (fun hne e => hne (congrArg F.kv e))
theorem lookup_none [DecidableEq κ] {l : List (κ × Value)} {x : κ} (h : x ∉ l.map (·.1)) : l.lookup x = none := by
  rw [List.lookup_eq_none_iff]
  intro p hp
  have : ¬ x = p.1 := fun e => h (List.mem_map.2 ⟨p, hp, e.symm⟩)
  simpa using this
theorem lookup_some [DecidableEq κ] {l : List (κ × Value)} {x : κ} {v : Value} (hn : (l.map (·.1)).Nodup) (h : (x, v) ∈ l) : l.lookup x = some v := by
  induction l with
  | nil => simp at h
  | cons p l ih =>
    obtain ⟨y, u⟩ := p
    rw [List.map_cons, List.nodup_cons] at hn
    rcases List.mem_cons.1 h with e | e
    · obtain ⟨rfl, rfl⟩ := Prod.mk.inj e
      simp [List.lookup_cons]
    · have hne : ¬ x = y := fun e1 => hn.1 (List.mem_map.2 ⟨_, e, e1⟩)
      have hb : (x == y) = false := by simpa using hne
      rw [List.lookup_cons, hb]
      exact ih hn.2 e
theorem lookup_mem [DecidableEq κ] {l : List (κ × Value)} {x : κ} {v : Value} (h : l.lookup x = some v) : (x, v) ∈ l := by
  induction l with
  | nil => simp at h
  | cons p l ih =>
    obtain ⟨y, u⟩ := p
    rw [List.lookup_cons] at h
    by_cases e : x = y
    · subst e; simp at h; simp [h]
    · have hb : (x == y) = false := by simpa using e
      rw [hb] at h
      exact List.mem_cons_of_mem _ (ih h)
theorem pair_eq {l : List (κ × Value)} {x : κ} {v u : Value} (hn : (l.map (·.1)).Nodup) (h : (x, v) ∈ l) (k : (x, u) ∈ l) : v = u := by
  induction l with
  | nil => simp at h
  | cons p l ih =>
    rw [List.map_cons, List.nodup_cons] at hn
    rcases List.mem_cons.1 h with e | e <;> rcases List.mem_cons.1 k with e' | e'
    · rw [← e'] at e; exact (Prod.mk.inj e).2
    · exact absurd (List.mem_map.2 ⟨_, e', by rw [← e]⟩) hn.1
    · exact absurd (List.mem_map.2 ⟨_, e, by rw [← e']⟩) hn.1
    · exact ih hn.2 e e'
/-- What findKey finds. -/
theorem MapIs.find (h : MapIs F w b l) {x : κ} (hx : F.ok x) : ∃ es clock, w.heap[b]? = some (.map es clock) ∧ MapKept.Stamped es clock ∧ es.toList.map (fun e => (e.key, e.val)) = l.map (fun p => (F.kv p.1, p.2)) ∧ (∀ p ∈ l, F.ok p.1) ∧
    (((Instr.findKey k (F.kv x) es.toList).run P w = .ok none w ∧ (∀ e ∈ es.toList, e.key ≠ F.kv x) ∧ x ∉ l.map (·.1)) ∨
      ∃ j e, (Instr.findKey k (F.kv x) es.toList).run P w = .ok (some (j, e.val)) w ∧ es.toList[j]? = some e ∧ e.key = F.kv x ∧ l[j]? = some (x, e.val)) := by
  obtain ⟨es, clock, hb, hs, hl, ho, hk, hlen⟩ := h.keys
  refine ⟨es, clock, hb, hs, hl, ho, ?_⟩
  obtain ⟨q, hq⟩ := F.lit x hx
  rcases F.keyed.find w hq es.toList hk with ⟨h1, h2⟩ | ⟨j, e, h1, h2, h3⟩
  · refine .inl ⟨h1, h2, fun hm => ?_⟩
    obtain ⟨p, hp, e1⟩ := List.mem_map.1 hm
    have h4 : (F.kv p.1, p.2) ∈ es.toList.map (fun e => (e.key, e.val)) := by rw [hl]; exact List.mem_map.2 ⟨p, hp, rfl⟩
    obtain ⟨e, he, e2⟩ := List.mem_map.1 h4
    exact h2 e he (by rw [(Prod.mk.inj e2).1, e1])
  · refine .inr ⟨j, e, h1, h2, h3, ?_⟩
    have h4 : (es.toList.map (fun e => (e.key, e.val)))[j]? = some (e.key, e.val) := by rw [List.getElem?_map, h2]; rfl
    rw [hl, List.getElem?_map] at h4
    obtain ⟨p, hp, e1⟩ := Option.map_eq_some_iff.1 h4
    obtain ⟨e2, e3⟩ := Prod.mk.inj e1
    rw [h3] at e2
    rw [hp, ← F.inj _ _ e2, ← e3]
theorem MapIs.look_none {t e : TypeId} (c : Bool) (h : MapIs F w b l) (ht : P.underlying t = some (.map k e)) {z : Value} (hz : (zeroValue e).run P w = .ok z w) {x : κ} (hx : F.ok x) (hn : x ∉ l.map (·.1)) :
    (Instr.lookup t (.map (some b)) (F.kv x) c).run P w = .ok (if c then .tuple #[z, .bool false] else z) w := by
  obtain ⟨q, hq⟩ := F.lit x hx
  obtain ⟨es, clock, hb, hs, hl, ho, ⟨h1, h2, -⟩ | ⟨j, e, h1, h2, h3, h4⟩⟩ := h.find hx
  · simp [Instr.lookup, run_underlying ht, MapKept.run_getObj_map hb, F.keyed.check w _ hq, h1, hz, Result.andThen]
  · exact absurd (List.mem_map.2 ⟨_, List.mem_of_getElem? h4, rfl⟩) hn
theorem MapIs.look_some {t e : TypeId} (c : Bool) (h : MapIs F w b l) (ht : P.underlying t = some (.map k e)) {x : κ} {v : Value} (hx : F.ok x) (hm : (x, v) ∈ l) :
    (Instr.lookup t (.map (some b)) (F.kv x) c).run P w = .ok (if c then .tuple #[v, .bool true] else v) w := by
  obtain ⟨q, hq⟩ := F.lit x hx
  have hnd := h.nodup
  obtain ⟨es, clock, hb, hs, hl, ho, ⟨h1, h2, h3⟩ | ⟨j, e, h1, h2, h3, h4⟩⟩ := h.find hx
  · exact absurd (List.mem_map.2 ⟨_, hm, rfl⟩) h3
  · have h5 : v = e.val := pair_eq hnd hm (List.mem_of_getElem? h4)
    subst h5
    simp [Instr.lookup, run_underlying ht, MapKept.run_getObj_map hb, F.keyed.check w _ hq, h1, Result.andThen]
theorem MapIs.len {t e : TypeId} (h : MapIs F w b l) (ht : P.underlying t = some (.map k e)) (ty : TypeId) : (Builtin.len_ #[t] ty #[.map (some b)]).run P w = .ok (.int .i64 l.length) w := by
  obtain ⟨es, clock, hb, hs, hl, ho, hk, hlen⟩ := h.keys
  have hz : es.size = l.length := by simpa using hlen
  simp [Builtin.len_, run_underlying ht, MapKept.run_getObj_map hb, Result.andThen, hz, goInt]
theorem but_block (w : World) (b : Nat) (o : Obj) : But (fun i => i = b) w (ChangeMaps.setBlock w b o) := by
  refine ⟨rfl, rfl, rfl, by simp [ChangeMaps.setBlock], fun i hi hne => ?_⟩
  simp [ChangeMaps.setBlock, Array.getElem?_setIfInBounds]
  intro e
  exact absurd e.symm hne
theorem setBlock_same {w : World} {r : Nat} (h : r < w.heap.size) (o : Obj) : (ChangeMaps.setBlock w r o).heap[r]? = some o := by
  simp [ChangeMaps.setBlock, h]
theorem MapIs.store [DecidableEq κ] {t e : TypeId} (h : MapIs F w b l) (ht : P.underlying t = some (.map k e)) {x : κ} (hx : F.ok x) (v : Value) :
    ∃ w', (Instr.mapUpdate t (.map (some b)) (F.kv x) v).run P w = .ok () w' ∧ MapIs F w' b (upd l x v) ∧ But (fun i => i = b) w w' ∧ w'.heap.size = w.heap.size := by
  obtain ⟨q, hq⟩ := F.lit x hx
  obtain ⟨es, clock, hb, hs, hl, ho, ⟨h1, h2, h3⟩ | ⟨j, e0, h1, h2, h3, h4⟩⟩ := h.find hx
  · refine ⟨ChangeMaps.setBlock w b (.map (es.push ⟨F.kv x, v, clock⟩) (clock + 1)), ?_, ⟨es.push ⟨F.kv x, v, clock⟩, clock + 1, ChangeMaps.heap_setBlock_same hb _, MapKept.stamped_push hs h2, ?_, ?_⟩, but_block _ _ _, by simp [ChangeMaps.setBlock]⟩
    · simp [Instr.mapUpdate, run_underlying ht, MapKept.run_getObj_map hb, F.keyed.check w false hq, h1, MapKept.run_setObj_map _ hb, Result.andThen, ChangeMaps.setBlock]
    · unfold upd
      rw [if_neg h3]
      simp [hl]
    · unfold upd
      rw [if_neg h3]
      intro p hp
      rcases List.mem_append.1 hp with h5 | h5
      · exact ho p h5
      · rw [List.mem_singleton.1 h5]; exact hx
  · have hj : es[j]? = some e0 := by simpa using h2
    have hm : x ∈ l.map (·.1) := List.mem_map.2 ⟨_, List.mem_of_getElem? h4, rfl⟩
    have hnd := h.nodup
    have hkeyf : ∀ e', es[j]? = some e' → ({ e' with key := F.kv x, val := v } : MapEntry).key = e'.key := fun e' he' => by rw [hj] at he'; cases he'; exact h3.symm
    have hlist : (es.modify j (fun e' => { e' with key := F.kv x, val := v })).toList = es.toList.set j { e0 with key := F.kv x, val := v } := by rw [Array.toList_modify, ChangeMaps.modify_eq_set _ _ _ _ h2]
    refine ⟨ChangeMaps.setBlock w b (.map (es.modify j (fun e' => { e' with key := F.kv x, val := v })) clock), ?_, ⟨es.modify j (fun e' => { e' with key := F.kv x, val := v }), clock, ChangeMaps.heap_setBlock_same hb _, MapKept.stamped_modify hs _ _ (fun _ _ => rfl) (fun e' _ he' => hkeyf e' he'), ?_, ?_⟩, but_block _ _ _, by simp [ChangeMaps.setBlock]⟩
    · simp [Instr.mapUpdate, run_underlying ht, MapKept.run_getObj_map hb, F.keyed.check w false hq, h1, hj, h3, F.keyed.stays w hq, MapKept.run_setObj_map _ hb, Result.andThen, ChangeMaps.setBlock]
    · unfold upd
      rw [if_pos hm, hlist, List.map_set, hl]
      apply List.ext_getElem?
      intro i
      rw [List.getElem?_set, List.getElem?_map, List.getElem?_map]
      by_cases hij : j = i
      · subst hij
        rw [if_pos rfl, List.getElem?_map, h4]
        have : j < l.length := (List.getElem?_eq_some_iff.1 h4).1
        simp [this]
      · rw [if_neg hij]
        cases hi : l[i]? with
        | none => simp [hi]
        | some p =>
          have hne : ¬ p.1 = x := fun e1 => by
            have h6 : (l.map (·.1))[i]? = some x := by rw [List.getElem?_map, hi]; simp [e1]
            have h7 : (l.map (·.1))[j]? = some x := by rw [List.getElem?_map, h4]; rfl
            exact hij ((List.getElem?_inj (List.getElem?_eq_some_iff.1 h7).1 hnd).1 (h7.trans h6.symm))
          simp [hi, hne]
    · unfold upd
      rw [if_pos hm]
      intro p hp
      obtain ⟨p0, hp0, rfl⟩ := List.mem_map.1 hp
      by_cases e1 : p0.1 = x
      · rw [if_pos e1]; exact hx
      · rw [if_neg e1]; exact ho p0 hp0
/-- A range over the map of block b, its state in block r: 'left' is still to come. -/
def RangeIs (F : KeyForm P k κ) (w : World) (b r : Nat) (l left : List (κ × Value)) : Prop :=
  ∃ es clock since seen c0, w.heap[b]? = some (.map es clock) ∧ MapKept.Stamped es clock ∧ es.toList.map (fun e => (e.key, e.val)) = l.map (fun p => (F.kv p.1, p.2)) ∧ (∀ p ∈ l, F.ok p.1) ∧
    w.heap[r]? = some (.mapIter (some b) since seen c0) ∧ (∀ x ∈ es.toList, x.born < since) ∧ since ≤ c0 ∧ since ≤ clock ∧
    (leftOf es seen).toList.map (fun e => (e.key, e.val)) = left.map (fun p => (F.kv p.1, p.2))
theorem RangeIs.isMap {r : Nat} {left : List (κ × Value)} (h : RangeIs F w b r l left) : MapIs F w b l := by
  obtain ⟨es, clock, since, seen, c0, hb, hs, hl, ho, -⟩ := h
  exact ⟨es, clock, hb, hs, hl, ho⟩
theorem RangeIs.ne {r : Nat} {left : List (κ × Value)} (h : RangeIs F w b r l left) : r ≠ b := by
  obtain ⟨es, clock, since, seen, c0, hb, hs, hl, ho, hr, -⟩ := h
  rintro rfl
  rw [hb] at hr
  cases hr
theorem RangeIs.lt {r : Nat} {left : List (κ × Value)} (h : RangeIs F w b r l left) : r < w.heap.size := by
  obtain ⟨es, clock, since, seen, c0, hb, hs, hl, ho, hr, -⟩ := h
  exact (Array.getElem?_eq_some_iff.1 hr).1
theorem RangeIs.keep {w' : World} {r : Nat} {left : List (κ × Value)} (h : RangeIs F w b r l left) (h1 : w'.heap[b]? = w.heap[b]?) (h2 : w'.heap[r]? = w.heap[r]?) : RangeIs F w' b r l left := by
  obtain ⟨es, clock, since, seen, c0, hb, hs, hl, ho, hr, rest⟩ := h
  exact ⟨es, clock, since, seen, c0, h1.trans hb, hs, hl, ho, h2.trans hr, rest⟩
theorem pairs_inj (F : KeyForm P k κ) : ∀ {l m : List (κ × Value)}, l.map (fun p => (F.kv p.1, p.2)) = m.map (fun p => (F.kv p.1, p.2)) → l = m
  | [], [], _ => rfl
  | [], _ :: _, h => by simp at h
  | _ :: _, [], h => by simp at h
  | p :: l, q :: m, h => by
    simp only [List.map_cons, List.cons.injEq, Prod.mk.injEq] at h
    rw [pairs_inj F h.2, Prod.ext (F.inj _ _ h.1.1) h.1.2]
/-- What is still to come is of the map. -/
theorem RangeIs.sub {r : Nat} {left : List (κ × Value)} (h : RangeIs F w b r l left) : left.Sublist l := by
  obtain ⟨es, clock, since, seen, c0, hb, hs, hl, ho, hr, h1, h2, h3, h4⟩ := h
  have hsub : ((leftOf es seen).toList.map (fun e => (e.key, e.val))).Sublist (es.toList.map (fun e => (e.key, e.val))) := by
    apply List.Sublist.map
    unfold leftOf
    rw [Array.toList_filter]
    exact List.filter_sublist
  rw [h4, hl] at hsub
  obtain ⟨m, hm, e⟩ := List.sublist_map_iff.1 hsub
  rw [pairs_inj F e]
  exact hm
theorem MapIs.range {t e : TypeId} (h : MapIs F w b l) (ht : P.underlying t = some (.map k e)) :
    ∃ w', (Instr.range t (.map (some b))).run P w = .ok (.pointer (some ⟨w.heap.size, 0, none⟩)) w' ∧ RangeIs F w' b w.heap.size l l ∧ Below w.heap.size w w' ∧ w'.heap.size = w.heap.size + 1 := by
  have hlt := h.lt
  obtain ⟨es, clock, hb, hs, hl, ho⟩ := h
  refine ⟨_, run_range_map w t k e b es clock ht hb, ⟨es, clock, clock, #[], clock, ?_, hs, hl, ho, ?_, hs.1, Nat.le_refl _, Nat.le_refl _, ?_⟩, (Below.refl _ _).alloc (Nat.le_refl _) _, by simp⟩
  · rw [← hb]; exact Below.heap_alloc _ _ _ hlt
  · exact heap_alloc_new w _
  · rw [← hl]; unfold leftOf; rw [Array.toList_filter, List.filter_eq_self.2 (fun _ _ => by simp)]
/-- The next one. -/
theorem RangeIs.next {r : Nat} {left : List (κ × Value)} (h : RangeIs F w b r l left) (ty : TypeId) :
    (left = [] ∧ (Instr.next (.pointer (some ⟨r, 0, none⟩)) false ty).run P w = .ok (.tuple #[.bool false]) w) ∨
    ∃ x v pre suf w', left = pre ++ (x, v) :: suf ∧ (Instr.next (.pointer (some ⟨r, 0, none⟩)) false ty).run P w = .ok (.tuple #[.bool true, F.kv x, v]) w' ∧
      RangeIs F w' b r l (pre ++ suf) ∧ But (fun i => i = r) w w' ∧ w'.heap.size = w.heap.size ∧ (Instr.entry (.pointer (some ⟨r, 0, none⟩))).run P w' = .ok (.tuple #[F.kv x, v]) w' ∧ F.ok x := by
  have hne := h.ne
  obtain ⟨es, clock, since, seen, c0, hb, hs, hl, ho, hr, h1, h2, h3, h4⟩ := h
  rcases run_next_at (P := P) w ty r b since c0 seen es clock hr hb h1 h2 with ⟨h0, hrun⟩ | ⟨e, he, w1, hw1, hrun⟩
  · refine .inl ⟨?_, hrun⟩
    have h5 : (leftOf es seen).toList.length = 0 := by simpa using h0
    have h6 := congrArg List.length h4
    rw [List.length_map, List.length_map, h5] at h6
    exact List.length_eq_zero_iff.1 h6.symm
  · right
    obtain ⟨pe, se, hsp⟩ := List.append_of_mem he
    rw [hsp, List.map_append, List.map_cons] at h4
    obtain ⟨pre, suf', e1, e2, e3⟩ := List.append_eq_map_iff.1 h4
    obtain ⟨q, suf, e4, e5, e6⟩ := List.map_eq_cons_iff.1 e3
    obtain ⟨x, v⟩ := q
    obtain ⟨e7, e8⟩ := Prod.mk.inj e5
    dsimp only at e7 e8
    have hmem : e ∈ es.toList := by
      have := (Array.mem_toList_iff.1 he)
      unfold leftOf at this
      exact Array.mem_toList_iff.2 (Array.mem_filter.1 this).1
    have hok : F.ok x := by
      have h7 : (e.key, e.val) ∈ l.map (fun p => (F.kv p.1, p.2)) := by rw [← hl]; exact List.mem_map.2 ⟨e, hmem, rfl⟩
      obtain ⟨p, hp, e9⟩ := List.mem_map.1 h7
      have h8 : p.1 = x := F.inj _ _ ((Prod.mk.inj e9).1.trans e7.symm)
      rw [← h8]; exact ho p hp
    have hb1 : w1.heap[b]? = w.heap[b]? := by rcases hw1 with rfl | rfl <;> rfl
    have hr1 : w1.heap[r]? = some (.mapIter (some b) since seen c0) := by rcases hw1 with rfl | rfl <;> exact hr
    have hbb : (ChangeMaps.setBlock w1 r (.mapIter (some b) since (seen.push e.born) clock)).heap[b]? = some (.map es clock) := by
      rw [(but_block w1 r _).block b (Array.getElem?_eq_some_iff.1 (hb1.trans hb)).1 (fun e => hne e.symm), hb1, hb]
    have hrr : (ChangeMaps.setBlock w1 r (.mapIter (some b) since (seen.push e.born) clock)).heap[r]? = some (.mapIter (some b) since (seen.push e.born) clock) := setBlock_same (Array.getElem?_eq_some_iff.1 hr1).1 _
    have hbut : But (fun i => i = r) w (ChangeMaps.setBlock w1 r (.mapIter (some b) since (seen.push e.born) clock)) := by
      have h9 := but_block w1 r (.mapIter (some b) since (seen.push e.born) clock)
      rcases hw1 with rfl | rfl
      · exact h9
      · exact ⟨h9.os, h9.tape, h9.output, h9.size, h9.block⟩
    refine ⟨x, v, pre, suf, _, by rw [e1, e4], by rw [e7, e8]; exact hrun, ⟨es, clock, since, seen.push e.born, clock, hbb, hs, hl, ho, hrr, h1, h3, h3, ?_⟩, hbut, ?_, ?_, hok⟩
    · have hborn : (es.toList.map (·.born)).Nodup := hs.2.1
      have hleft : (leftOf es (seen.push e.born)).toList = (leftOf es seen).toList.filter (fun y => y.born ≠ e.born) := by
        unfold leftOf
        rw [Array.toList_filter, Array.toList_filter, List.filter_filter]
        apply List.filter_congr
        intro y _
        rw [Array.contains_push]
        cases seen.contains y.born <;> by_cases hy : y.born = e.born <;> simp [hy]
      have hnd : ((leftOf es seen).toList.map (·.born)).Nodup := by
        refine List.Nodup.sublist ?_ hborn
        apply List.Sublist.map
        unfold leftOf
        rw [Array.toList_filter]
        exact List.filter_sublist
      rw [hsp, List.map_append, List.map_cons, List.nodup_append, List.nodup_cons] at hnd
      rw [hleft, hsp, List.filter_append, List.filter_cons]
      have f1 : pe.filter (fun y => decide (y.born ≠ e.born)) = pe := List.filter_eq_self.2 (fun y hy => by
        have := hnd.2.2 _ (List.mem_map.2 ⟨y, hy, rfl⟩) _ (List.mem_cons_self ..)
        simpa using this)
      have f2 : se.filter (fun y => decide (y.born ≠ e.born)) = se := List.filter_eq_self.2 (fun y hy => by
        have : ¬ y.born = e.born := fun e1 => hnd.2.1.1 (List.mem_map.2 ⟨y, hy, e1⟩)
        simpa using this)
      rw [f1, f2]
      simp [e2, e6]
    · rcases hw1 with rfl | rfl <;> simp [ChangeMaps.setBlock] <;> rfl
    · rw [e7, e8]
      exact run_entry_at _ r b since seen es clock e hrr hbb hmem hs.2.1
/-- A store at a key that is there, while a range is under way and the key has been passed. -/
theorem RangeIs.store [DecidableEq κ] {r : Nat} {left : List (κ × Value)} {t e : TypeId} (h : RangeIs F w b r l left) (ht : P.underlying t = some (.map k e)) {x : κ} (hx : x ∈ l.map (·.1)) (hleft : x ∉ left.map (·.1)) (v : Value) :
    ∃ w', (Instr.mapUpdate t (.map (some b)) (F.kv x) v).run P w = .ok () w' ∧ RangeIs F w' b r (upd l x v) left ∧ But (fun i => i = b) w w' ∧ w'.heap.size = w.heap.size := by
  have hne := h.ne
  have hm := h.isMap
  obtain ⟨es, clock, since, seen, c0, hb0, hs0, hl0, ho0, hr, h1, h2, h3, h4⟩ := h
  have hok : F.ok x := by
    obtain ⟨p, hp, rfl⟩ := List.mem_map.1 hx
    exact ho0 p hp
  obtain ⟨q, hq⟩ := F.lit x hok
  obtain ⟨es1, clock1, hb, hs, hl, ho, ⟨g1, g2, g3⟩ | ⟨j, e0, g1, g2, g3, g4⟩⟩ := hm.find hok
  · exact absurd hx g3
  have hbb := hb
  rw [hb0] at hbb
  cases hbb
  have hj : es[j]? = some e0 := by simpa using g2
  have hrun : (Instr.mapUpdate t (.map (some b)) (F.kv x) v).run P w = .ok () (ChangeMaps.setBlock w b (.map (es.modify j (fun e' => { e' with key := F.kv x, val := v })) clock)) := by
    simp [Instr.mapUpdate, run_underlying ht, MapKept.run_getObj_map hb, F.keyed.check w false hq, g1, hj, g3, F.keyed.stays w hq, MapKept.run_setObj_map _ hb, Result.andThen, ChangeMaps.setBlock]
  obtain ⟨w', hrun', hm', hbut, hsz⟩ := hm.store ht hok v
  rw [hrun] at hrun'
  cases hrun'
  refine ⟨_, hrun, ?_, hbut, hsz⟩
  obtain ⟨es', clock', hb', hs', hl', ho'⟩ := hm'
  rw [setBlock_same (Array.getElem?_eq_some_iff.1 hb).1] at hb'
  cases hb'
  have hborn : ∀ y ∈ (es.modify j (fun e' => { e' with key := F.kv x, val := v })).toList, ∃ z ∈ es.toList, z.born = y.born ∧ (y = z ∨ z = e0) := by
    rw [Array.toList_modify, ChangeMaps.modify_eq_set _ _ _ _ g2]
    intro y hy
    rcases List.mem_or_eq_of_mem_set hy with h5 | h5
    · exact ⟨y, h5, rfl, .inl rfl⟩
    · exact ⟨e0, List.mem_of_getElem? g2, by rw [h5], .inr rfl⟩
  refine ⟨_, clock, since, seen, c0, setBlock_same (Array.getElem?_eq_some_iff.1 hb).1 _, hs', hl', ho', ?_, fun y hy => ?_, h2, h3, ?_⟩
  · exact (hbut.block r (Array.getElem?_eq_some_iff.1 hr).1 hne).trans hr
  · obtain ⟨z, hz, e1, -⟩ := hborn y hy
    rw [← e1]; exact h1 z hz
  · rw [← h4]
    have hseen : seen.contains e0.born = true := by
      cases hc : seen.contains e0.born with
      | true => rfl
      | false =>
        exfalso
        have h5 : e0 ∈ (leftOf es seen).toList := by
          unfold leftOf
          rw [Array.toList_filter]
          exact List.mem_filter.2 ⟨List.mem_of_getElem? g2, by rw [hc]; rfl⟩
        have h6 : (e0.key, e0.val) ∈ left.map (fun p => (F.kv p.1, p.2)) := by rw [← h4]; exact List.mem_map.2 ⟨e0, h5, rfl⟩
        obtain ⟨p, hp, e1⟩ := List.mem_map.1 h6
        exact hleft (List.mem_map.2 ⟨p, hp, F.inj _ _ ((Prod.mk.inj e1).1.trans g3)⟩)
    have hlf : (leftOf (es.modify j (fun e' => { e' with key := F.kv x, val := v })) seen).toList = (leftOf es seen).toList := by
      unfold leftOf
      rw [Array.toList_filter, Array.toList_filter, Array.toList_modify, ChangeMaps.modify_eq_set _ _ _ _ g2]
      obtain ⟨hjl, hje⟩ := List.getElem?_eq_some_iff.1 g2
      rw [List.set_eq_take_append_cons_drop, if_pos hjl]
      conv => rhs; rw [← List.take_append_drop j es.toList, List.drop_eq_getElem_cons hjl, hje]
      rw [List.filter_append, List.filter_append, List.filter_cons, List.filter_cons, if_neg (by dsimp only; rw [hseen]; decide), if_neg (by rw [hseen]; decide)]
    rw [hlf]
/-- delete. -/
theorem MapIs.drop [DecidableEq κ] {t e : TypeId} (h : MapIs F w b l) (ht : P.underlying t = some (.map k e)) {x : κ} (hx : F.ok x) (ty : TypeId) :
    ∃ w', (Builtin.delete_ #[t, k] ty #[.map (some b), F.kv x]).run P w = .ok (.tuple #[]) w' ∧ MapIs F w' b (strike l x) ∧ But (fun i => i = b) w w' ∧ w'.heap.size = w.heap.size := by
  obtain ⟨q, hq⟩ := F.lit x hx
  have hnd := h.nodup
  obtain ⟨es, clock, hb, hs, hl, ho, ⟨h1, h2, h3⟩ | ⟨j, e0, h1, h2, h3, h4⟩⟩ := h.find hx
  · have hst : strike l x = l := List.filter_eq_self.2 (fun p hp => by
      have : ¬ p.1 = x := fun e1 => h3 (List.mem_map.2 ⟨p, hp, e1⟩)
      simpa using this)
    refine ⟨ChangeMaps.setBlock w b (.map es clock), ?_, ⟨es, clock, setBlock_same (Array.getElem?_eq_some_iff.1 hb).1 _, hs, by rw [hst]; exact hl, by rw [hst]; exact ho⟩, but_block _ _ _, by simp [ChangeMaps.setBlock]⟩
    simp [Builtin.delete_, run_underlying ht, MapKept.run_getObj_map hb, F.keyed.check w _ hq, h1, MapKept.run_setObj_map _ hb, Result.andThen, ChangeMaps.setBlock]
  · refine ⟨ChangeMaps.setBlock w b (.map (es.eraseIdxIfInBounds j) clock), ?_, ⟨_, clock, setBlock_same (Array.getElem?_eq_some_iff.1 hb).1 _, MapKept.stamped_erase hs j, ?_, fun p hp => ho p (List.mem_filter.1 hp).1⟩, but_block _ _ _, by simp [ChangeMaps.setBlock]⟩
    · simp [Builtin.delete_, run_underlying ht, MapKept.run_getObj_map hb, F.keyed.check w _ hq, h1, MapKept.run_setObj_map _ hb, Result.andThen, ChangeMaps.setBlock]
    · have hjl : j < l.length := (List.getElem?_eq_some_iff.1 h4).1
      have hle : l[j] = (x, e0.val) := (List.getElem?_eq_some_iff.1 h4).2
      have hst : strike l x = l.eraseIdx j := by
        unfold strike
        rw [List.eraseIdx_eq_take_drop_succ]
        conv => lhs; rw [← List.take_append_drop j l, List.drop_eq_getElem_cons hjl, hle]
        have hsp : l = l.take j ++ (x, e0.val) :: l.drop (j + 1) := by rw [← hle, ← List.drop_eq_getElem_cons hjl, List.take_append_drop]
        rw [hsp, List.map_append, List.map_cons, List.nodup_append, List.nodup_cons] at hnd
        rw [List.filter_append, List.filter_cons, if_neg (by simp)]
        congr 1
        · exact List.filter_eq_self.2 (fun p hp => by
            have : ¬ p.1 = x := fun e1 => hnd.2.2 _ (List.mem_map.2 ⟨p, hp, rfl⟩) _ (List.mem_cons_self ..) e1
            simpa using this)
        · exact List.filter_eq_self.2 (fun p hp => by
            have : ¬ p.1 = x := fun e1 => hnd.2.1.1 (List.mem_map.2 ⟨p, hp, e1⟩)
            simpa using this)
      rw [hst]
      have hjz : j < es.size := by simpa using (List.getElem?_eq_some_iff.1 h2).1
      have : (es.eraseIdxIfInBounds j).toList = es.toList.eraseIdx j := by
        simp [Array.eraseIdxIfInBounds, hjz]
      rw [this, ChangeMaps.map_eraseIdx, hl, ← ChangeMaps.map_eraseIdx]
theorem upd_keys [DecidableEq κ] (l : List (κ × Value)) (x : κ) (v : Value) (y : κ) : y ∈ (upd l x v).map (·.1) ↔ y ∈ l.map (·.1) ∨ y = x := by
  unfold upd
  by_cases h : x ∈ l.map (·.1)
  · rw [if_pos h]
    have e : (l.map (fun p => if p.1 = x then (x, v) else p)).map (·.1) = l.map (·.1) := by
      rw [List.map_map]
      apply List.map_congr_left
      intro p _
      simp only [Function.comp]
      by_cases hp : p.1 = x
      · rw [if_pos hp, hp]
      · rw [if_neg hp]
    rw [e]
    exact ⟨.inl, fun h' => h'.elim id (fun e => e ▸ h)⟩
  · rw [if_neg h, List.map_append, List.mem_append]
    simp
theorem upd_mem [DecidableEq κ] (l : List (κ × Value)) (x : κ) (v : Value) (p : κ × Value) (h : p ∈ upd l x v) : p = (x, v) ∨ (p ∈ l ∧ p.1 ≠ x) := by
  unfold upd at h
  by_cases hx : x ∈ l.map (·.1)
  · rw [if_pos hx] at h
    obtain ⟨q, hq, e⟩ := List.mem_map.1 h
    by_cases hp : q.1 = x
    · rw [if_pos hp] at e; exact .inl e.symm
    · rw [if_neg hp] at e; subst e; exact .inr ⟨hq, hp⟩
  · rw [if_neg hx] at h
    rcases List.mem_append.1 h with h1 | h1
    · exact .inr ⟨h1, fun e => hx (List.mem_map.2 ⟨p, h1, e⟩)⟩
    · exact .inl (List.mem_singleton.1 h1)
theorem upd_mem_self [DecidableEq κ] (l : List (κ × Value)) (x : κ) (v : Value) : (x, v) ∈ upd l x v := by
  unfold upd
  by_cases hx : x ∈ l.map (·.1)
  · rw [if_pos hx]
    obtain ⟨q, hq, e⟩ := List.mem_map.1 hx
    exact List.mem_map.2 ⟨q, hq, by rw [if_pos e]⟩
  · rw [if_neg hx]; simp
theorem upd_mem_other [DecidableEq κ] (l : List (κ × Value)) (x : κ) (v : Value) {p : κ × Value} (h : p ∈ l) (hne : p.1 ≠ x) : p ∈ upd l x v := by
  unfold upd
  by_cases hx : x ∈ l.map (·.1)
  · rw [if_pos hx]
    exact List.mem_map.2 ⟨p, h, by rw [if_neg hne]⟩
  · rw [if_neg hx]; exact List.mem_append_left _ h
end
end Go.Proofs.Ytgmdbpplfjkjmaa
