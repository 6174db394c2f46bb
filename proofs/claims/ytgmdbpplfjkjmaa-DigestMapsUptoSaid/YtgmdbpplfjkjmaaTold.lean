/- Get and Delete of both maps; the law's 'told'. -/
import Derived.Test.YtgmdbpplfjkjmaaBoth
import Derived.Test.YtgmdbpplfjkjmaaRefMapD
import Derived.Test.YtgmdbpplfjkjmaaIs
import Derived.Test.YtgmdbpplfjkjmaaPlainEnd
import Derived.Test.YtgmdbpplfjkjmaaPlainLaw
import Derived.Test.YtgmdbpplfjkjmaaBuiltEnd
namespace Go.Proofs.Ytgmdbpplfjkjmaa
open Go.RowKit
set_option linter.unusedVariables false
set_option linter.unusedSimpArgs false

theorem riseQ_del {qs : List QE} (h : riseQ qs) (i : Nat) : riseQ (delQ qs i) := by
  unfold delQ
  rw [← List.eraseIdx_eq_take_drop_succ]
  exact h.sublist (List.eraseIdx_sublist _ _)
theorem bareQ_del {qs : List QE} {i : Nat} {q : QE} (hr : riseQ qs) (hq : qs[i]? = some q) : bareQ (delQ qs i) = othersV (bareQ qs) (builtV q.k) := by
  have e : qs = qs.take i ++ q :: qs.drop (i + 1) := splitQ hq
  have hne : ∀ r ∈ qs.take i ++ qs.drop (i + 1), builtV r.k ≠ builtV q.k := fun r hr' e1 => by
    unfold riseQ at hr
    rw [e] at hr
    obtain ⟨-, a2, a3⟩ := List.pairwise_append.1 hr
    rcases List.mem_append.1 hr' with h | h
    · have := a3 r h q (List.mem_cons_self ..); rw [e1, cmpV_self] at this; omega
    · have := (List.pairwise_cons.1 a2).1 r h; rw [e1, cmpV_self] at this; omega
  have h2 : bareQ qs = bareQ (qs.take i) ++ ([(builtV q.k, builtV q.v)] ++ bareQ (qs.drop (i + 1))) := by
    have h3 : bareQ qs = bareQ (qs.take i ++ q :: qs.drop (i + 1)) := by rw [← e]
    rw [h3]; unfold bareQ; simp
  rw [h2, othersV_append, othersV_append]
  have a1 : othersV [(builtV q.k, builtV q.v)] (builtV q.k) = [] := by unfold othersV; simp
  have a2 : othersV (bareQ (qs.take i)) (builtV q.k) = bareQ (qs.take i) := othersV_all (fun r hr' => by
    obtain ⟨x, hx, rfl⟩ := List.mem_map.1 hr'
    exact hne x (List.mem_append_left _ hx))
  have a3 : othersV (bareQ (qs.drop (i + 1))) (builtV q.k) = bareQ (qs.drop (i + 1)) := othersV_all (fun r hr' => by
    obtain ⟨x, hx, rfl⟩ := List.mem_map.1 hr'
    exact hne x (List.mem_append_right _ hx))
  rw [a1, a2, a3]
  unfold delQ bareQ
  rw [List.map_append]; rfl
section
variable {w0 w w1 w2 : World} {m : Nat} {o : Option Nat} {l : List PE} {d : Nat} {sv : Value} {qs : List QE}
theorem GetW.below {v : Val} {e : Ending} (h : GetW l v w e w1) : Below w.heap.size w w1 := by
  rcases h with ⟨_, -, -, _, _, -, -, -, -, h⟩ | ⟨-, -, h⟩ <;> exact h
/-- A Get on both sides. -/
theorem Both.get (h : Both w0 w m o l d sv qs) {t : Term} {cs : List Value} {e1 e2 : Ending} (ht : TRep w0 t cs) (hP : GetW l (builtV t) w e1 w1) (hD : DGetEnd qs (builtV t) w1 e2 w2) :
    ∃ x ok ds, Below w.heap.size w w2 ∧ e1 = .returned (.tuple #[x, .bool ok]) ∧ e2 = .returned (.tuple #[.agg ds.toArray, .bool ok]) ∧ ToldW w0 w2 m o l d sv (fun b => w.heap.size ≤ b) x ok ds := by
  obtain ⟨hD, hb2⟩ := hD
  have hb1 := hP.below
  have hbb := hb1.trans (hb2.mono hb1.size)
  rcases hP with ⟨p, hp, hpk, y, gy, rfl, hy, hyn, hyb, -⟩ | ⟨hno, rfl, -⟩
  · rcases hD with ⟨q, hq, hqk, hok, rfl⟩ | ⟨hno, rfl⟩
    · refine ⟨_, true, q.vc, hbb, rfl, rfl, .inr ⟨rfl, q.v, gy, (h.dm.ok q hq).2.2.2, ?_, (h.dm.ok q hq).2.1, hyn, fun b hb => ?_⟩⟩
      · rw [← h.one hp hq (by rw [hpk, hqk])]
        exact hy.but (below_but0 hb2) (fun _ _ f => f)
      · have := hyb b hb
        have := h.dm.bel.size
        exact ⟨by omega, fun hm => by have := (h.mw.lt b hm).2; omega, fun hd => by have := (h.dm.lts b hd).2; omega, by omega⟩
    · obtain ⟨q, hq, hqk⟩ := (h.has (builtV t)).1 ⟨p, hp, hpk⟩
      exact absurd hqk (hno (hqk ▸ (h.dm.ok q hq).2.2.1) q hq)
  · rcases hD with ⟨q, hq, hqk, hok, rfl⟩ | ⟨hno2, rfl⟩
    · obtain ⟨p, hp, hpk⟩ := (h.has (builtV t)).2 ⟨q, hq, hqk⟩
      exact absurd hpk (hno p hp hok)
    · exact ⟨_, false, zeroCells.toList, hbb, rfl, rfl, .inl ⟨rfl, rfl, rfl⟩⟩
theorem DelW.but {B : Nat} {v : Val} {e : Ending} (h : DelW B m o l v w e w1) : But (OfM m o l) w w1 := by
  rcases h with ⟨_, -, -, -, -, -, h⟩ | ⟨-, -, -, h⟩ <;> exact h.mono (fun i _ hi => .inr (.inl hi))
theorem DDelEnd.but {v : Val} {e : Ending} (h : DDelEnd w0 d sv qs v w e w1) : But (OfD d sv) w w1 := by
  rcases h with ⟨-, _, _, -, -, -, _, -, -, h⟩ | ⟨-, -, -, h⟩ <;> exact h
/-- A Delete on both sides. -/
theorem Both.del (h : Both w0 w m o l d sv qs) {t : Term} {cs : List Value} {e1 e2 : Ending} (ht : TRep w0 t cs) (hP : DelW w0.heap.size m o l (builtV t) w e1 w1) (hD : DDelEnd w0 d sv qs (builtV t) w1 e2 w2) :
    ∃ l' sv' qs' x ok ds, Both w0 w2 m o l' d sv' qs' ∧ But (fun b => OfM m o l b ∨ OfD d sv b) w w2 ∧ (∀ b, OfM m o l' b → OfM m o l b) ∧ (∀ b, OfD d sv' b → OfD d sv b ∨ w.heap.size ≤ b) ∧ e1 = .returned (.tuple #[x, .bool ok]) ∧ e2 = .returned (.tuple #[.agg ds.toArray, .bool ok]) ∧ ToldW w0 w2 m o l' d sv' (OfM m o l) x ok ds := by
  have hb1 := hP.but
  have hb2 := hD.but
  have hbb : But (fun b => OfM m o l b ∨ OfD d sv b) w w2 := (hb1.mono (fun i _ hi => Or.inl hi)).then hb2 (fun i _ hi => Or.inr hi)
  rcases hP with ⟨p, hp, hpk, rfl, hpv, hm, -⟩ | ⟨hno, rfl, hm, -⟩
  · rcases hD with ⟨hok, i, q, hq, hqk, rfl, sv', hsv', hd, -⟩ | ⟨hno, rfl, -⟩
    · have hqm := List.mem_of_getElem? hq
      have hng : numsV (builtV t) := nums_built t cs ht
      have hinj : ∀ e ∈ l, e.ky = encV (builtV t) ↔ e.k = builtV t := fun e he => h.mw.inj he hng hok
      have hperm : (bareQ (delQ qs i)).Perm (bareP (lessM l (encV (builtV t)))) := by
        rw [bareQ_del h.rise hq, hqk, ← othersV_less hinj]
        exact othersV_perm h.perm _
      have hap : ∀ b, OfM m o l b → ¬ OfD d sv' b := fun b hmb hdb => by
        rcases hdb with rfl | hdb
        · exact h.apart _ hmb (.inl rfl)
        · have h1 := hsv' b hdb
          have h2 := (h.mw.lt b hmb).2
          have h3 := hb1.size
          omega
      have hofm : ∀ b, OfM m o (lessM l (encV (builtV t))) b → OfM m o l b := fun b hmb => by
        rcases hmb with h1 | h1 | h1
        · exact .inl h1
        · exact .inr (.inl h1)
        · exact .inr (.inr (lessM_sub b h1))
      have hfree : ∀ b ∈ p.gc, OfM m o l b := fun b hb => .inr (.inr (fsM_of hp b (List.mem_append_right _ hb)))
      refine ⟨_, sv', _, _, true, q.vc, ⟨hm.but hb2 (fun b hmb hdb => h.apart b (hofm b hmb) hdb), hd, riseQ_del h.rise i, hperm, fun b hmb => hap b (hofm b hmb)⟩, hbb, hofm, (fun b hdb => hdb.elim (fun h => .inl (.inl h)) (fun h => .inr (by have := hsv' b h; have := hb1.size; omega))), rfl, rfl, .inr ⟨rfl, q.v, p.gc, (h.dm.ok q hqm).2.2.2, ?_, (h.dm.ok q hqm).2.1, ?_, fun b hb => ⟨(h.mw.lt b (hfree b hb)).1, ?_, hap b (hfree b hb), hfree b hb⟩⟩⟩
      · rw [← h.one hp hqm (by rw [hpk, hqk])]
        exact hpv.but hb2 (fun b hb => h.apart b (hfree b hb))
      · obtain ⟨l1, l2, rfl⟩ := List.append_of_mem hp
        have := h.mw.apart
        have e : fsM (l1 ++ p :: l2) = fsM l1 ++ (p.ga ++ p.gc ++ fsM l2) := by simp [fsM, PE.fs]
        rw [e] at this
        exact (List.nodup_append.1 (List.nodup_append.1 (List.nodup_append.1 this).2.1).1).2.1
      · have hne := h.mw.free b (fsM_of hp b (List.mem_append_right _ hb))
        rintro (rfl | hob | hfb)
        · exact hne.2.1 rfl
        · exact hne.2.2 hob
        · have hap := h.mw.apart
          obtain ⟨l1, l2, rfl⟩ := List.append_of_mem hp
          obtain ⟨r, hr, hbr⟩ := List.mem_flatMap.1 hfb
          obtain ⟨hr1, hr2⟩ := lessM_mem.1 hr
          have e : fsM (l1 ++ p :: l2) = fsM l1 ++ (p.fs ++ fsM l2) := by simp [fsM]
          rw [e] at hap
          obtain ⟨-, a2, a3⟩ := List.nodup_append.1 hap
          obtain ⟨-, -, a4⟩ := List.nodup_append.1 a2
          have hbp : b ∈ p.fs := List.mem_append_right _ hb
          rcases List.mem_append.1 hr1 with hr1 | hr1
          · exact a3 b (fsM_of hr1 b hbr) b (List.mem_append_left _ hbp) rfl
          · rcases List.mem_cons.1 hr1 with rfl | hr1
            · exact hr2 ((hinj _ hp).2 hpk)
            · exact a4 b hbp b (fsM_of hr1 b hbr) rfl
    · obtain ⟨q, hq, hqk⟩ := (h.has (builtV t)).1 ⟨p, hp, hpk⟩
      exact absurd hqk (hno (hqk ▸ (h.dm.ok q hq).2.2.1) q hq)
  · rcases hD with ⟨hok, i, q, hq, hqk, rfl, -⟩ | ⟨hno2, rfl, hd, -⟩
    · obtain ⟨p, hp, hpk⟩ := (h.has (builtV t)).2 ⟨q, List.mem_of_getElem? hq, hqk⟩
      exact absurd hpk (hno p hp hok)
    · exact ⟨_, sv, qs, _, false, zeroCells.toList, ⟨hm.but hb2 (fun b hmb hdb => h.apart b hmb hdb), hd, h.rise, h.perm, h.apart⟩, hbb, fun b h => h, fun b h => .inl h, rfl, rfl, .inl ⟨rfl, rfl, rfl⟩⟩
theorem ToldW.spoil {Z : Nat → Prop} {x : Value} {ok : Bool} {cs : List Value} (h : ToldW w0 w m o l d sv Z x ok cs) : ∃ v fs, VRep w v x fs ∧ smallV v ∧ fs.Nodup ∧ ∀ b ∈ fs, w0.heap.size ≤ b ∧ ¬ OfM m o l b ∧ ¬ OfD d sv b ∧ Z b := by
  rcases h with ⟨-, rfl, -⟩ | ⟨-, t, fs, -, h1, h2, h3, h4⟩
  · exact ⟨.nil, [], ⟨rfl, rfl⟩, by simp [smallV], List.nodup_nil, fun b h => by cases h⟩
  · exact ⟨_, fs, h1, small_built t _ h2, h3, h4⟩
theorem ToldW.cells {Z : Nat → Prop} {x : Value} {ok : Bool} {cs : List Value} (h : ToldW w0 w m o l d sv Z x ok cs) : cs.length = 11 ∧ ∀ u ∈ cs, u.oneCell' = true := by
  rcases h with ⟨-, -, rfl⟩ | ⟨-, t, fs, -, -, h2, -⟩
  · exact ⟨rfl, TRep.ones (leaf_rep w 0 false 0 0 ⟨#[]⟩ 0 (by rfl) (by rfl) (by rfl) (by simp [maxLen, ByteArray.size]) (by rfl))⟩
  · exact ⟨TRep.len h2, TRep.ones h2⟩
set_option maxRecDepth 100000 in
theorem told_said {Z : Nat → Prop} {x : Value} {ok : Bool} {cs : List Value} (h : ToldW w0 w m o l d sv Z x ok cs) (hb : Below w0.heap.size w0 w) :
    Calls Try.prog 21 #[x, .bool ok, .agg cs.toArray, .bool ok] w fun e w' => e = .returned (.bool true) ∧ Below w.heap.size w w' := by
  rcases h with ⟨rfl, rfl, rfl⟩ | ⟨rfl, t, fs, hok, hx, ht, hnd, -⟩
  · simp only [zeroCells]
    have hbel := Lib.hid (show ∀ cs, Below w.heap.size w (w.alloc (.cells cs 31)) from fun cs => (Below.refl _ _).alloc (Nat.le_refl _) _)
    go_enter Try.func21, Try.ntmps21
    go_wp2
    go_ret
    exact ⟨rfl, hbel.out _⟩
  · obtain ⟨c0, c1, c2, c3, c4, c5, c6, c7, c8, c9, c10, rfl⟩ := eleven (TRep.len ht)
    obtain ⟨W, hW⟩ : ∃ W, W = w.alloc (.cells #[c0, c1, c2, c3, c4, c5, c6, c7, c8, c9, c10] 31) := ⟨_, rfl⟩
    have hbW : Below w.heap.size w W := by rw [hW]; exact (Below.refl _ _).alloc (Nat.le_refl _) _
    have hbx : W.heap[w.heap.size]? = some (.cells #[c0, c1, c2, c3, c4, c5, c6, c7, c8, c9, c10] 31 (0, 0)) := by rw [hW]; exact heap_alloc_new w _
    have his := Is_said (plain_any (builtV t)) (VRep.but hx (below_but0 hbW) (fun _ _ f => f)) (small_built t _ ht) (TRep.keep (keeps_of_below (hb.trans (hbW.mono hb.size))) _ _ ht)
    rw [is_own hok] at his
    have hisH := Lib.hid his
    have hone : x ≠ .nilIface ∨ x = .nilIface := by by_cases h : x = .nilIface; exact .inr h; exact .inl h
    have hWH := Lib.hid hW
    have hbWH := Lib.hid hbW
    have q0 := block_cell' hbx 0
    have q1 := block_cell' hbx 1
    have q2 := block_cell' hbx 2
    have q3 := block_cell' hbx 3
    have q4 := block_cell' hbx 4
    have q5 := block_cell' hbx 5
    have q6 := block_cell' hbx 6
    have q7 := block_cell' hbx 7
    have q8 := block_cell' hbx 8
    have q9 := block_cell' hbx 9
    have q10 := block_cell' hbx 10
    simp only [List.getElem?_toArray, List.getElem?_cons_zero, List.getElem?_cons_succ] at q0 q1 q2 q3 q4 q5 q6 q7 q8 q9 q10
    clear hx ht hnd hb hok his hW hbW hbx hone
    go_enter Try.func21, Try.ntmps21
    go_wp2_with fail
    rw [← hWH.out]
    go_wp2_with (go_at_call 14; refine hisH.out.mono ?_; rintro e w1 ⟨rfl, hb1⟩; have hb1H := Lib.hid hb1; clear hb1)
    go_ret
    exact ⟨rfl, hbWH.out.trans (hb1H.out.mono hbWH.out.size)⟩
end
end Go.Proofs.Ytgmdbpplfjkjmaa
