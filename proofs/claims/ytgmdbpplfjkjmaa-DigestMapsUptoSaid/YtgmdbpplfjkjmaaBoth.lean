/- The two maps side by side: what Put does to both, in plain. -/
import Derived.Test.YtgmdbpplfjkjmaaEach
import Derived.Test.YtgmdbpplfjkjmaaRefMapP
import Derived.Test.YtgmdbpplfjkjmaaOrder
namespace Go.Proofs.Ytgmdbpplfjkjmaa
open Go.RowKit
set_option linter.unusedVariables false
set_option linter.unusedSimpArgs false

def bareQ (qs : List QE) : List (Val × Val) := qs.map fun q => (builtV q.k, builtV q.v)
/-- Values whose order is nought are one. -/
def goodM (v : Val) : Prop := numsV v ∧ okV v
theorem riseQ_bare {qs : List QE} (h : riseQ qs) : riseV (bareQ qs) := List.pairwise_map.2 h
theorem QsOk.good {w : World} {qs : List QE} (h : QsOk w qs) : ∀ q ∈ qs, goodM (builtV q.k) := fun q hq => ⟨nums_built q.k q.kc (h q hq).1, okV_check (h q hq).2.2.1⟩
theorem good_one {v u : Val} (h : goodM v) (k : goodM u) (e : cmpV v u = 0) : v = u := cmpV_eq h.1 k.1 h.2 k.2 e
/-- One put where it belongs: still rising. -/
theorem riseQ_put {qs : List QE} (h : riseQ qs) (hg : ∀ q ∈ qs, goodM (builtV q.k)) {q : QE} (hq : goodM (builtV q.k)) {i : Nat} (hi : i ≤ qs.length) (h1 : ∀ (j : Nat) p, j < i → qs[j]? = some p → cmpV (builtV p.k) (builtV q.k) < 0) (h2 : ∀ p, qs[i]? = some p → ¬ cmpV (builtV p.k) (builtV q.k) < 0)
    (h3 : ¬ ∃ p, qs[i]? = some p ∧ builtV p.k = builtV q.k) : riseQ (putQ qs i q) := by
  have hall : ∀ p ∈ qs.drop i, cmpV (builtV q.k) (builtV p.k) = -1 := fun p hp => by
    obtain ⟨j, hj⟩ := List.mem_iff_getElem?.1 hp
    rw [List.getElem?_drop] at hj
    obtain ⟨p0, hp0⟩ : ∃ p0, qs[i]? = some p0 := ⟨_, List.getElem?_eq_getElem (by have := (List.getElem?_eq_some_iff.1 hj).1; omega)⟩
    have ha := h2 p0 hp0
    have hne : ¬ cmpV (builtV p0.k) (builtV q.k) = 0 := fun e => h3 ⟨p0, hp0, good_one (hg p0 (List.mem_of_getElem? hp0)) hq e⟩
    have hs := cmpV_swap (builtV p0.k) (builtV q.k)
    have h0 : cmpV (builtV q.k) (builtV p0.k) = -1 := by rcases cmpV_one (builtV p0.k) (builtV q.k) with e | e | e <;> omega
    cases j with
    | zero => rw [Nat.add_zero, hp0] at hj; cases hj; exact h0
    | succ j =>
      obtain ⟨hi', rfl⟩ := List.getElem?_eq_some_iff.1 hp0
      obtain ⟨hj', rfl⟩ := List.getElem?_eq_some_iff.1 hj
      have := List.pairwise_iff_getElem.1 h i (i + (j + 1)) hi' hj' (by omega)
      exact cmpV_lt h0 (by rw [this]; decide)
  unfold riseQ putQ
  refine List.pairwise_append.2 ⟨h.sublist (List.take_sublist _ _), List.pairwise_cons.2 ⟨hall, h.sublist (List.drop_sublist _ _)⟩, fun p hp r hr => ?_⟩
  obtain ⟨j, hj⟩ := List.mem_iff_getElem?.1 hp
  have hji : j < i := by have := (List.getElem?_eq_some_iff.1 hj).1; rw [List.length_take] at this; omega
  rw [List.getElem?_take_of_lt hji] at hj
  have hlt := cmpP_neg (h1 j p hji hj)
  rcases List.mem_cons.1 hr with rfl | hr
  · exact hlt
  · exact cmpV_lt hlt (by rw [hall r hr]; decide)
theorem riseQ_set {qs : List QE} (h : riseQ qs) {i : Nat} {q p : QE} (hq : qs[i]? = some q) (hk : builtV p.k = builtV q.k) : riseQ (setQ qs i p) := by
  have e : qs = qs.take i ++ q :: qs.drop (i + 1) := splitQ hq
  unfold riseQ at h
  rw [e] at h
  obtain ⟨a1, a2, a3⟩ := List.pairwise_append.1 h
  obtain ⟨a4, a5⟩ := List.pairwise_cons.1 a2
  unfold riseQ setQ
  refine List.pairwise_append.2 ⟨a1, List.pairwise_cons.2 ⟨fun r hr => by rw [hk]; exact a4 r hr, a5⟩, fun r hr s hs => ?_⟩
  rcases List.mem_cons.1 hs with rfl | hs
  · rw [hk]; exact a3 r hr q (List.mem_cons_self ..)
  · exact a3 r hr s (List.mem_cons_of_mem _ hs)
theorem bareQ_put (qs : List QE) (i : Nat) (q : QE) : (bareQ (putQ qs i q)).Perm (bareQ qs ++ [(builtV q.k, builtV q.v)]) := by
  have h1 : bareQ (putQ qs i q) = bareQ (qs.take i) ++ (builtV q.k, builtV q.v) :: bareQ (qs.drop i) := by unfold bareQ putQ; rw [List.map_append, List.map_cons]
  have h2 : bareQ qs = bareQ (qs.take i) ++ bareQ (qs.drop i) := by unfold bareQ; rw [← List.map_append, List.take_append_drop]
  rw [h1, h2]
  refine List.perm_middle.trans ?_
  exact (List.perm_append_singleton (builtV q.k, builtV q.v) (bareQ (qs.take i) ++ bareQ (qs.drop i))).symm
/-- The pairs whose key is another one. -/
noncomputable def othersV (L : List (Val × Val)) (k : Val) : List (Val × Val) := L.filter fun p => @decide (p.1 ≠ k) (Classical.propDecidable _)
theorem othersV_mem {L : List (Val × Val)} {k : Val} {p : Val × Val} : p ∈ othersV L k ↔ p ∈ L ∧ p.1 ≠ k := by
  unfold othersV; rw [List.mem_filter]; constructor <;> intro h <;> exact ⟨h.1, by simpa using h.2⟩
theorem othersV_perm {L M : List (Val × Val)} (h : L.Perm M) (k : Val) : (othersV L k).Perm (othersV M k) := h.filter _
theorem othersV_append (L M : List (Val × Val)) (k : Val) : othersV (L ++ M) k = othersV L k ++ othersV M k := List.filter_append ..
theorem othersV_all {L : List (Val × Val)} {k : Val} (h : ∀ p ∈ L, p.1 ≠ k) : othersV L k = L := by
  unfold othersV; exact List.filter_eq_self.2 (fun p hp => by simpa using h p hp)
theorem othersV_less {l : List PE} {k : Val} (h : ∀ e ∈ l, e.ky = encV k ↔ e.k = k) : othersV (bareP l) k = bareP (lessM l (encV k)) := by
  induction l with
  | nil => rfl
  | cons e l ih =>
    have ih2 := ih (fun p hp => h p (List.mem_cons_of_mem _ hp))
    have he := h e (List.mem_cons_self ..)
    have c1 : bareP (e :: l) = [(e.k, e.v)] ++ bareP l := rfl
    rw [c1, othersV_append, ih2]
    by_cases hk : e.k = k
    · have a1 : othersV [(e.k, e.v)] k = [] := by unfold othersV; simp [hk]
      have a2 : lessM (e :: l) (encV k) = lessM l (encV k) := by unfold lessM; rw [List.filter_cons, if_neg (by simpa using he.2 hk)]
      rw [a1, a2]; rfl
    · have a1 : othersV [(e.k, e.v)] k = [(e.k, e.v)] := othersV_all (fun p hp => by rw [List.mem_singleton.1 hp]; exact hk)
      have a2 : lessM (e :: l) (encV k) = e :: lessM l (encV k) := by unfold lessM; rw [List.filter_cons, if_pos (by simpa using fun h => hk (he.1 h))]
      rw [a1, a2]; rfl
theorem bareQ_set {qs : List QE} {i : Nat} {q p : QE} (hr : riseQ qs) (hq : qs[i]? = some q) (hk : builtV p.k = builtV q.k) : (bareQ (setQ qs i p)).Perm (othersV (bareQ qs) (builtV q.k) ++ [(builtV q.k, builtV p.v)]) := by
  have e : qs = qs.take i ++ q :: qs.drop (i + 1) := splitQ hq
  have hne : ∀ r ∈ qs.take i ++ qs.drop (i + 1), builtV r.k ≠ builtV q.k := fun r hr' e1 => by
    unfold riseQ at hr
    rw [e] at hr
    obtain ⟨-, a2, a3⟩ := List.pairwise_append.1 hr
    rcases List.mem_append.1 hr' with h | h
    · have := a3 r h q (List.mem_cons_self ..); rw [e1, cmpV_self] at this; omega
    · have := (List.pairwise_cons.1 a2).1 r h; rw [e1, cmpV_self] at this; omega
  have h1 : bareQ (setQ qs i p) = bareQ (qs.take i) ++ (builtV q.k, builtV p.v) :: bareQ (qs.drop (i + 1)) := by unfold bareQ setQ; rw [List.map_append, List.map_cons, hk]
  have h2 : bareQ qs = bareQ (qs.take i) ++ ([(builtV q.k, builtV q.v)] ++ bareQ (qs.drop (i + 1))) := by
    have h3 : bareQ qs = bareQ (qs.take i ++ q :: qs.drop (i + 1)) := by rw [← e]
    rw [h3]; unfold bareQ; simp
  have h4 : othersV (bareQ qs) (builtV q.k) = bareQ (qs.take i) ++ bareQ (qs.drop (i + 1)) := by
    rw [h2, othersV_append, othersV_append]
    have a1 : othersV [(builtV q.k, builtV q.v)] (builtV q.k) = [] := by unfold othersV; simp
    have a2 : othersV (bareQ (qs.take i)) (builtV q.k) = bareQ (qs.take i) := othersV_all (fun r hr' => by
      obtain ⟨x, hx, rfl⟩ := List.mem_map.1 hr'
      exact hne x (List.mem_append_left _ hx))
    have a3 : othersV (bareQ (qs.drop (i + 1))) (builtV q.k) = bareQ (qs.drop (i + 1)) := othersV_all (fun r hr' => by
      obtain ⟨x, hx, rfl⟩ := List.mem_map.1 hr'
      exact hne x (List.mem_append_right _ hx))
    rw [a1, a2, a3]; rfl
  rw [h1, h4]
  refine List.perm_middle.trans ?_
  exact (List.perm_append_singleton (builtV q.k, builtV p.v) (bareQ (qs.take i) ++ bareQ (qs.drop (i + 1)))).symm
end Go.Proofs.Ytgmdbpplfjkjmaa

/-! The program's map and the document's, side by side: kept by a Put on both. -/
namespace Go.Proofs.Ytgmdbpplfjkjmaa
open Go.RowKit
set_option linter.unusedVariables false
set_option linter.unusedSimpArgs false

/-- Both maps keep the same; what they take lies apart. -/
structure Both (w0 w : World) (m : Nat) (o : Option Nat) (l : List PE) (d : Nat) (sv : Value) (qs : List QE) : Prop where
  mw : MapW w0.heap.size w m o l
  dm : DocM w0 w d sv qs
  rise : riseQ qs
  perm : (bareQ qs).Perm (bareP l)
  apart : ∀ b, OfM m o l b → ¬ OfD d sv b
section
variable {w0 w w1 w2 : World} {m : Nat} {o : Option Nat} {l : List PE} {d : Nat} {sv : Value} {qs : List QE}
theorem Both.len (h : Both w0 w m o l d sv qs) : qs.length = l.length := by
  have := h.perm.length_eq
  simpa [bareQ, bareP] using this
theorem Both.keep (h : Both w0 w m o l d sv qs) (hb : But (fun b => ¬ OfM m o l b ∧ ¬ OfD d sv b ∧ w0.heap.size ≤ b) w w1) : Both w0 w1 m o l d sv qs :=
  ⟨h.mw.but hb (fun b hm hs => hs.1 hm), h.dm.keep (h.dm.bel.trans (But.below' hb h.dm.bel.size (fun i hi hs => by omega))) (fun b hd => hb.block b (h.dm.lts b hd).2 (fun hs => hs.2.1 hd)), h.rise, h.perm, h.apart⟩
theorem Both.below (h : Both w0 w m o l d sv qs) (hb : Below w.heap.size w w1) : Both w0 w1 m o l d sv qs :=
  ⟨h.mw.below hb, h.dm.below hb, h.rise, h.perm, h.apart⟩
theorem Both.riseV (h : Both w0 w m o l d sv qs) : riseV (bareQ qs) := riseQ_bare h.rise
theorem Both.good (h : Both w0 w m o l d sv qs) : ∀ q ∈ qs, goodM (builtV q.k) := h.dm.ok.good
/-- A key is in the one just if in the other. -/
theorem Both.has (h : Both w0 w m o l d sv qs) (k : Val) : (∃ p ∈ l, p.k = k) ↔ ∃ q ∈ qs, builtV q.k = k := by
  constructor
  · rintro ⟨p, hp, rfl⟩
    have h1 : (p.k, p.v) ∈ bareQ qs := h.perm.mem_iff.2 (List.mem_map.2 ⟨p, hp, rfl⟩)
    obtain ⟨q, hq, e⟩ := List.mem_map.1 h1
    exact ⟨q, hq, congrArg Prod.fst e⟩
  · rintro ⟨q, hq, rfl⟩
    have h1 : (builtV q.k, builtV q.v) ∈ bareP l := h.perm.mem_iff.1 (List.mem_map.2 ⟨q, hq, rfl⟩)
    obtain ⟨p, hp, e⟩ := List.mem_map.1 h1
    exact ⟨p, hp, congrArg Prod.fst e⟩
theorem Both.one (h : Both w0 w m o l d sv qs) {p : PE} {q : QE} (hp : p ∈ l) (hq : q ∈ qs) (e : p.k = builtV q.k) : p.v = builtV q.v := by
  have h1 : (p.k, p.v) ∈ bareQ qs := h.perm.mem_iff.2 (List.mem_map.2 ⟨p, hp, rfl⟩)
  have h2 : (builtV q.k, builtV q.v) ∈ bareQ qs := List.mem_map.2 ⟨q, hq, rfl⟩
  have h3 := riseV_eq h.riseV h1 h2 (by rw [e]; rw [cmpV_self]; exact Int.le_refl _) (by rw [e]; rw [cmpV_self]; exact Int.le_refl _)
  exact congrArg Prod.snd h3
theorem PutW.but {B : Nat} {k v : Val} {e : Ending} (h : PutW B m o l k v w e w1) : But (OfM m o l) w w1 := by
  rcases h with ⟨-, -, -, h⟩ | ⟨-, -, -, h⟩ | ⟨-, -, -, -, -, -, h⟩ | ⟨-, -, _, _, _, _, _, -, -, h, -⟩ <;> first | exact h | exact h.2
theorem DPutEnd.but {t u : Term} {cs es : List Value} {e : Ending} (h : DPutEnd w0 d sv qs t u cs es w e w1) : But (OfD d sv) w w1 := by
  rcases h with ⟨-, -, -, h⟩ | ⟨-, -, -, -, h⟩ | ⟨-, -, _, -, -, -, ⟨_, -, -, -, -, h⟩ | ⟨-, -, -, -, h⟩ | ⟨-, -, -, _, -, -, h⟩⟩ <;> first | exact h | exact h.2
theorem Both.doc_mid (h : Both w0 w m o l d sv qs) (hb : But (OfM m o l) w w1) : DocM w0 w1 d sv qs :=
  h.dm.keep (h.dm.bel.trans (But.below' hb h.dm.bel.size (fun i hi ho => by have := (h.mw.lt i ho).1; omega))) (fun b hd => hb.block b (h.dm.lts b hd).2 (fun hm => h.apart b hm hd))
theorem Both.bel_mid (h : Both w0 w m o l d sv qs) (hb : But (OfM m o l) w w1) : Below w0.heap.size w w1 := But.below' hb h.dm.bel.size (fun i hi ho => by have := (h.mw.lt i ho).1; omega)
/-- What a map tells, and what the document's tells. -/
def ToldW (w0 w : World) (m : Nat) (o : Option Nat) (l : List PE) (d : Nat) (sv : Value) (Z : Nat → Prop) (x : Value) (ok : Bool) (cs : List Value) : Prop :=
  (ok = false ∧ x = .nilIface ∧ cs = zeroCells.toList) ∨ (ok = true ∧ ∃ t fs, okB (builtV t) = true ∧ VRep w (builtV t) x fs ∧ TRep w0 t cs ∧ fs.Nodup ∧ ∀ b ∈ fs, w0.heap.size ≤ b ∧ ¬ OfM m o l b ∧ ¬ OfD d sv b ∧ Z b)
/-- A Put on both sides. -/
theorem Both.put (h : Both w0 w m o l d sv qs) {t u : Term} {cs es : List Value} {e1 e2 : Ending} (ht : TRep w0 t cs) (hu : TRep w0 u es) (hP : PutW w0.heap.size m o l (builtV t) (builtV u) w e1 w1) (hD : DPutEnd w0 d sv qs t u cs es w1 e2 w2) :
    ∃ o' l' sv' qs' x ok r ds, Both w0 w2 m o' l' d sv' qs' ∧ Below w0.heap.size w w2 ∧ But (fun b => OfM m o l b ∨ OfD d sv b) w w2 ∧ (∀ b, OfM m o' l' b → OfM m o l b ∨ w.heap.size ≤ b) ∧ (∀ b, OfD d sv' b → OfD d sv b ∨ w.heap.size ≤ b) ∧
      e1 = .returned (.tuple #[x, .bool ok, .int .i64 r]) ∧ e2 = .returned (.tuple #[.agg ds.toArray, .bool ok, .int .i64 r]) ∧ ToldW w0 w2 m o' l' d sv' (OfM m o l) x ok ds := by
  have hb1 := hP.but
  have hb2 := hD.but
  have hbb : But (fun b => OfM m o l b ∨ OfD d sv b) w w2 := (hb1.mono (fun i _ hi => Or.inl hi)).then hb2 (fun i _ hi => Or.inr hi)
  have hbel : Below w0.heap.size w w2 := But.below' hbb h.dm.bel.size (fun i hi ho => by
    rcases ho with ho | ho
    · have := (h.mw.lt i ho).1; omega
    · have := (h.dm.lts i ho).1; omega)
  have hng : numsV (builtV t) := nums_built t cs ht
  have hnu : numsV (builtV u) := nums_built u es hu
  have same : MapW w0.heap.size w1 m o l → DocM w0 w2 d sv qs → Both w0 w2 m o l d sv qs := fun hm hd => ⟨hm.but hb2 (fun b hmb hdb => h.apart b hmb hdb), hd, h.rise, h.perm, h.apart⟩
  rcases hP with ⟨hk, rfl, hm, -⟩ | ⟨hk, hv, rfl, hm, -⟩ | ⟨hk, hv, hno, hfull, rfl, hm, -⟩ | ⟨hk, hv, o', a, c, ga, gc, hm, ho', -, hnew, hans⟩
  · rcases hD with ⟨-, rfl, hd, -⟩ | ⟨hk2, -⟩ | ⟨hk2, -⟩
    · exact ⟨o, l, sv, qs, _, _, _, zeroCells.toList, same hm hd, hbel, hbb, fun b h => .inl h, fun b h => .inl h, rfl, rfl, .inl ⟨rfl, rfl, rfl⟩⟩
    · rw [hk] at hk2; cases hk2
    · rw [hk] at hk2; cases hk2
  · rcases hD with ⟨hk2, -⟩ | ⟨-, -, rfl, hd, -⟩ | ⟨-, hv2, -⟩
    · rw [hk] at hk2; cases hk2
    · exact ⟨o, l, sv, qs, _, _, _, zeroCells.toList, same hm hd, hbel, hbb, fun b h => .inl h, fun b h => .inl h, rfl, rfl, .inl ⟨rfl, rfl, rfl⟩⟩
    · rw [hv] at hv2; cases hv2
  · rcases hD with ⟨hk2, -⟩ | ⟨-, hv2, -⟩ | ⟨-, -, i, hi, -, -, ⟨q, hq, hqk, -⟩ | ⟨-, -, rfl, hd, -⟩ | ⟨-, hl, -⟩⟩
    · rw [hk] at hk2; cases hk2
    · rw [hv] at hv2; cases hv2
    · obtain ⟨p, hp, hpk⟩ := (h.has (builtV t)).2 ⟨q, List.mem_of_getElem? hq, hqk⟩
      exact absurd hpk (hno p hp)
    · exact ⟨o, l, sv, qs, _, _, _, zeroCells.toList, same hm hd, hbel, hbb, fun b h => .inl h, fun b h => .inl h, rfl, rfl, .inl ⟨rfl, rfl, rfl⟩⟩
    · rw [h.len] at hl; omega
  · rcases hD with ⟨hk2, -⟩ | ⟨-, hv2, -⟩ | ⟨-, -, i, hi, hlt, hge, hcase⟩
    · rw [hk] at hk2; cases hk2
    · rw [hv] at hv2; cases hv2
    have hgt : goodM (builtV t) := ⟨hng, okV_check hk⟩
    have hlw : w.heap.size ≤ w1.heap.size := hb1.size
    have hinj : ∀ e ∈ l, e.ky = encV (builtV t) ↔ e.k = builtV t := fun e he => h.mw.inj he hng hk
    have hm2 : MapW w0.heap.size w2 m o' (lessM l (encV (builtV t)) ++ [⟨builtV t, builtV u, a, c, ga, gc⟩]) := hm.but hb2 (fun b hmb hdb => by
      have hbl := (h.dm.lts b hdb).2
      rcases hmb with rfl | hob | hfb
      · exact h.apart _ (.inl rfl) hdb
      · rcases ho' with rfl | ⟨-, x, hx, hle⟩
        · exact h.apart _ (.inr (.inl hob)) hdb
        · rw [hx] at hob; injection hob with hob; omega
      · rw [fsM_snoc] at hfb
        rcases List.mem_append.1 hfb with hfb | hfb
        · exact h.apart _ (.inr (.inr (lessM_sub b hfb))) hdb
        · have := hnew b hfb; omega)
    have hofm : ∀ b, OfM m o' (lessM l (encV (builtV t)) ++ [⟨builtV t, builtV u, a, c, ga, gc⟩]) b → OfM m o l b ∨ w.heap.size ≤ b := fun b hmb => by
      rcases hmb with rfl | hob | hfb
      · exact .inl (.inl rfl)
      · rcases ho' with rfl | ⟨-, x, hx, hle⟩
        · exact .inl (.inr (.inl hob))
        · rw [hx] at hob; injection hob with hob; exact .inr (by omega)
      · rw [fsM_snoc] at hfb
        rcases List.mem_append.1 hfb with hfb | hfb
        · exact .inl (.inr (.inr (lessM_sub b hfb)))
        · exact .inr (hnew b hfb)
    rcases hcase with ⟨q, hq, hqk, rfl, hd, -⟩ | ⟨hnot, hfull, -⟩ | ⟨hnot, hroom, rfl, sv', hsv', hd, -⟩
    · -- it was there
      have hqm := List.mem_of_getElem? hq
      have hperm : (bareQ (setQ qs i ⟨q.kc, q.k, es, u⟩)).Perm (bareP (lessM l (encV (builtV t)) ++ [⟨builtV t, builtV u, a, c, ga, gc⟩])) := by
        refine (bareQ_set (p := ⟨q.kc, q.k, es, u⟩) h.rise hq rfl).trans ?_
        have e1 : bareP (lessM l (encV (builtV t)) ++ [⟨builtV t, builtV u, a, c, ga, gc⟩]) = othersV (bareP l) (builtV t) ++ [(builtV t, builtV u)] := by
          rw [othersV_less hinj]; unfold bareP; rw [List.map_append]; rfl
        rw [e1, hqk]
        exact (othersV_perm h.perm _).append_right _
      have hB : Both w0 w2 m o' (lessM l (encV (builtV t)) ++ [⟨builtV t, builtV u, a, c, ga, gc⟩]) d sv (setQ qs i ⟨q.kc, q.k, es, u⟩) := ⟨hm2, hd, riseQ_set h.rise hq rfl, hperm, fun b hmb hdb => by
        rcases hofm b hmb with hb | hb
        · exact h.apart b hb hdb
        · have := (h.dm.lts b hdb).2; omega⟩
      rcases hans with ⟨p, hp, hpk, rfl, hpv⟩ | ⟨hno, -, -⟩
      · have hpq := h.one hp hqm (by rw [hpk, hqk])
        have hfree : ∀ b ∈ p.gc, OfM m o l b := fun b hb => .inr (.inr (fsM_of hp b (List.mem_append_right _ hb)))
        refine ⟨o', _, sv, _, _, _, _, q.vc, hB, hbel, hbb, hofm, fun b h => .inl h, rfl, rfl, .inr ⟨rfl, q.v, p.gc, (h.dm.ok q hqm).2.2.2, ?_, (h.dm.ok q hqm).2.1, ?_, fun b hb => ⟨(h.mw.lt b (hfree b hb)).1, ?_, h.apart b (hfree b hb), hfree b hb⟩⟩⟩
        · rw [← hpq]
          exact hpv.but hb2 (fun b hb => h.apart b (hfree b hb))
        · obtain ⟨l1, l2, rfl⟩ := List.append_of_mem hp
          have := h.mw.apart
          have e : fsM (l1 ++ p :: l2) = fsM l1 ++ (p.ga ++ p.gc ++ fsM l2) := by simp [fsM, PE.fs]
          rw [e] at this
          exact (List.nodup_append.1 (List.nodup_append.1 (List.nodup_append.1 this).2.1).1).2.1
        · have hwl := (h.mw.lt b (hfree b hb)).2
          have hne := h.mw.free b (fsM_of hp b (List.mem_append_right _ hb))
          rintro (rfl | hob | hfb)
          · exact hne.2.1 rfl
          · rcases ho' with rfl | ⟨-, x, hx, hle⟩
            · exact hne.2.2 hob
            · rw [hx] at hob; injection hob with hob; omega
          · rw [fsM_snoc] at hfb
            rcases List.mem_append.1 hfb with hfb | hfb
            · -- among the others
              have hap := h.mw.apart
              obtain ⟨l1, l2, rfl⟩ := List.append_of_mem hp
              obtain ⟨r, hr, hbr⟩ := List.mem_flatMap.1 hfb
              obtain ⟨hr1, hr2⟩ := lessM_mem.1 hr
              have e : fsM (l1 ++ p :: l2) = fsM l1 ++ (p.fs ++ fsM l2) := by simp [fsM]
              rw [e] at hap
              obtain ⟨-, a2, a3⟩ := List.nodup_append.1 hap
              obtain ⟨-, -, a4⟩ := List.nodup_append.1 a2
              have hbp : b ∈ p.fs := List.mem_append_right _ hb
              rcases List.mem_append.1 hr1 with hr1 | hr1
              · exact a3 b (fsM_of hr1 b hbr) b (List.mem_append_left _ hbp) rfl
              · rcases List.mem_cons.1 hr1 with rfl | hr1
                · exact hr2 ((hinj _ hp).2 hpk)
                · exact a4 b hbp b (fsM_of hr1 b hbr) rfl
            · have := hnew b hfb; omega
      · obtain ⟨p, hp, hpk⟩ := (h.has (builtV t)).2 ⟨q, hqm, hqk⟩
        exact absurd hpk (hno p hp)
    · -- no room: the program had room or had it
      rcases hans with ⟨p, hp, hpk, -⟩ | ⟨-, hroom, -⟩
      · obtain ⟨q, hq, hqk⟩ := (h.has (builtV t)).1 ⟨p, hp, hpk⟩
        exact absurd hqk (place_not h.rise hi hlt hge hnot q hq)
      · rw [h.len] at hfull; omega
    · -- a new one
      have hnoq := place_not h.rise hi hlt hge hnot
      rcases hans with ⟨p, hp, hpk, -⟩ | ⟨hno, -, rfl⟩
      · obtain ⟨q, hq, hqk⟩ := (h.has (builtV t)).1 ⟨p, hp, hpk⟩
        exact absurd hqk (hnoq q hq)
      have hless : lessM l (encV (builtV t)) = l := lessM_same (fun hmem => by
        obtain ⟨p, hp, e⟩ := List.mem_map.1 hmem
        exact hno p hp ((hinj p hp).1 e))
      have hperm : (bareQ (putQ qs i ⟨cs, t, es, u⟩)).Perm (bareP (lessM l (encV (builtV t)) ++ [⟨builtV t, builtV u, a, c, ga, gc⟩])) := by
        refine (bareQ_put qs i ⟨cs, t, es, u⟩).trans ?_
        rw [hless]
        have e1 : bareP (l ++ [⟨builtV t, builtV u, a, c, ga, gc⟩]) = bareP l ++ [(builtV t, builtV u)] := by unfold bareP; rw [List.map_append]; rfl
        rw [e1]
        exact h.perm.append_right _
      exact ⟨o', _, sv', _, _, _, _, zeroCells.toList, ⟨hm2, hd, riseQ_put h.rise h.good hgt hi hlt hge hnot, hperm, fun b hmb hdb => by
        rcases hdb with rfl | hdb
        · rcases hofm _ hmb with hb | hb
          · exact h.apart _ hb (.inl rfl)
          · have := h.dm.lt; omega
        · have h1 := hsv' b hdb
          have h2 := (hm.lt b hmb).2
          omega⟩, hbel, hbb, hofm, fun b hdb => by
        rcases hdb with rfl | hdb
        · exact .inl (.inl rfl)
        · exact .inr (by have := hsv' b hdb; omega), rfl, rfl, .inl ⟨rfl, rfl, rfl⟩⟩
end
end Go.Proofs.Ytgmdbpplfjkjmaa
