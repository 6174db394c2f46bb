/- The walk of DigestLast. -/
import Derived.Test.YtpcbdjfonmohaaaLastInv
import Derived.Test.YtpcbdjfonmohaaaOrder
import Derived.Test.YtpcbdjfonmohaaaPlainEnd
import Derived.Test.YtpcbdjfonmohaaaIs
namespace Go.Proofs.Ytpcbdjfonmohaaa
open Go.RowKit
set_option linter.unusedVariables false
set_option linter.unusedSimpArgs false

theorem four_blocks (w : World) (o1 o2 o3 o4 : Obj) : Below w.heap.size w ((((w.alloc o1).alloc o2).alloc o3).alloc o4).drew ∧ ((((w.alloc o1).alloc o2).alloc o3).alloc o4).drew.heap[w.heap.size]? = some o1 ∧ ((((w.alloc o1).alloc o2).alloc o3).alloc o4).drew.heap[w.heap.size + 1 + 1]? = some o3 ∧
    ((((w.alloc o1).alloc o2).alloc o3).alloc o4).drew.heap[w.heap.size + 1 + 1 + 1]? = some o4 ∧ ((((w.alloc o1).alloc o2).alloc o3).alloc o4).drew.heap.size = w.heap.size + 4 := by
  have s1 : (w.alloc o1).heap.size = w.heap.size + 1 := by simp
  have s2 : ((w.alloc o1).alloc o2).heap.size = w.heap.size + 2 := by simp
  have s3 : (((w.alloc o1).alloc o2).alloc o3).heap.size = w.heap.size + 3 := by simp
  have s4 : ((((w.alloc o1).alloc o2).alloc o3).alloc o4).heap.size = w.heap.size + 4 := by simp
  refine ⟨(((((Below.refl _ _).alloc (Nat.le_refl _) _).alloc (by omega) _).alloc (by omega) _).alloc (by omega) _).drew, ?_, ?_, ?_, s4⟩
  · exact (Below.heap_alloc _ _ _ (by omega)).trans ((Below.heap_alloc _ _ _ (by omega)).trans ((Below.heap_alloc _ _ _ (by omega)).trans (heap_alloc_new w _)))
  · exact (Below.heap_alloc _ _ _ (by omega)).trans (heap_alloc_at _ (by omega))
  · exact heap_alloc_at _ (by omega)
theorem last_start {w W : World} {b7 b8 : Nat} {ck cp cq : Array Value} {t : Val} {us : List Val} (hb : Below w.heap.size w W) (hk : W.heap[w.heap.size]? = some (.cells ck 34 (0, 0))) (hp : W.heap[b7]? = some (.cells cp 34 (0, 0))) (hq : W.heap[b8]? = some (.cells cq 34 (0, 0))) :
    LastInv w (W.alloc (.cells #[.map none] 123)) w.heap.size b7 b8 W.heap.size ck cp cq t us 0 none := by
  have l1 := (Array.getElem?_eq_some_iff.1 hk).1
  have l2 := (Array.getElem?_eq_some_iff.1 hp).1
  have l3 := (Array.getElem?_eq_some_iff.1 hq).1
  refine ⟨none, .map [], ⟨hb.alloc hb.size _, (Below.heap_alloc _ _ _ l1).trans hk, (Below.heap_alloc _ _ _ l2).trans hp, (Below.heap_alloc _ _ _ l3).trans hq, ⟨heap_alloc_new W _, by decide, rfl⟩, ⟨hb.size, fun b e => by cases e⟩, ⟨⟨by omega, by omega, by omega⟩, fun b e => by cases e⟩⟩, fun _ => rfl, fun kl h => by simp [Maps.has_eq] at h⟩
/-- What the walk reads of the three blocks. -/
theorem LastInv.cells {w W : World} {kb b7 b8 m : Nat} {ck cp cq : Array Value} {t : Val} {us : List Val} {n : Nat} {s : Option Val} (h : LastInv w W kb b7 b8 m ck cp cq t us n s) :
    (∀ j, W.cell? ⟨kb, j, none⟩ = ck[j]?) ∧ (∀ j, W.cell? ⟨b7, j, none⟩ = cp[j]?) ∧ (∀ j, W.cell? ⟨b8, j, none⟩ = cq[j]?) ∧ Below w.heap.size w W ∧ kb < W.heap.size ∧ b7 < W.heap.size ∧ b8 < W.heap.size ∧ m < W.heap.size := by
  obtain ⟨o, D, h1, -, -⟩ := h
  exact ⟨block_cells h1.k, block_cells h1.p, block_cells h1.q, h1.bel, h1.lts.1, h1.lts.2.1, h1.lts.2.2, h1.map.lt.1⟩
theorem put_first {w : World} {kb b7 b8 m : Nat} {ck cp cq : Array Value} {t : Val} {us : List Val} {n : Nat} {s : Option Val} {v : Val} {e : Ending} {W' : World} (h : PutMain w kb b7 b8 m ck cp cq t us n s v e W') :
    ∃ c B ec s', e = .returned (.tuple #[c, .bool B, .int .i64 ec]) ∧ c.oneCell' = true ∧ (ec = 0 ∧ B = s.isSome ∧ s' = some v ∨ ec ≠ 0 ∧ s' = s) ∧ LastInv w W' kb b7 b8 m ck cp cq t us n s' := by
  obtain ⟨c, B, ec, he, hc, h⟩ := h
  rcases h with ⟨h1, h2, h3⟩ | ⟨h1, h3⟩
  · exact ⟨c, B, ec, _, he, hc, .inl ⟨h1, h2, rfl⟩, h3⟩
  · exact ⟨c, B, ec, _, he, hc, .inr ⟨h1, rfl⟩, h3⟩
theorem LastInv.ok {w W : World} {kb b7 b8 m : Nat} {ck cp cq : Array Value} {t : Val} {us : List Val} {n : Nat} {v : Val} (h : LastInv w W kb b7 b8 m ck cp cq t us n (some v)) : okB v = true := by
  obtain ⟨o, D, -, h2, -⟩ := h
  exact h2.2.2.1
theorem map_new (W : World) : MapAt (W.alloc (.cells #[.map none] 123)) W.heap.size none (.map []) := ⟨heap_alloc_new W _, by decide, rfl⟩
/-- The key of the law's last map. -/
def oneK : Val := .text ⟨#[97]⟩
theorem oneK_rep (W : World) : VRep W oneK (.iface 9 (.string ⟨#[97]⟩)) [] := ⟨rfl, by decide, rfl⟩
theorem one_put {W : World} {m : Nat} (hm : MapAt W m none (.map [])) : Calls Try.prog 65 #[.pointer (some ⟨m, 0, none⟩), .iface 9 (.string ⟨#[97]⟩), .nilIface] W fun e W' =>
    e = .returned (.tuple #[.nilIface, .bool false, .int .i64 0]) ∧ (∃ o a, MapAt W' m o (DataW.put (.map []) (keyL oneK) (.held (.agg #[a, .nilIface])))) ∧ Below m W W' := by
  have hl := hm.lt.1
  refine (mapPut_ok hm (oneK_rep W) (v := .nil) (y := .nilIface) (gs := []) trivial (by decide) ⟨rfl, rfl⟩ (by decide) (a0 := .nilIface) (c0 := .nilIface) rfl (.inr (by decide)) (by simp) (by simp)).mono fun e W' ⟨b, a, c, ga, gc, he, hm', _, hv', _, _, _, _, _, hbut⟩ => ⟨he, ⟨some b, a, ?_⟩, hbut.below' (by omega) (fun i hi h => ?_)⟩
  · obtain ⟨rfl, -⟩ := hv'
    exact hm'
  · rcases h with h | h
    · cases h
    · have := h.2; omega
theorem one_get {W : World} {m : Nat} (h : ∃ o a, MapAt W m o (DataW.put (.map []) (keyL oneK) (.held (.agg #[a, .nilIface])))) : Calls Try.prog 67 #[.pointer (some ⟨m, 0, none⟩), .iface 9 (.string ⟨#[97]⟩)] W fun e W' => e = .returned (.tuple #[.nilIface, .bool true]) ∧ Below W.heap.size W W' := by
  obtain ⟨o, a, hm⟩ := h
  refine (mapGet_ok hm (oneK_rep W) trivial (by decide) (u := .nil) (a := a) (c := .nilIface) (gs := []) (Maps.atKey_put_same ⟨[], rfl⟩ (keyL_key _) _ _) ⟨rfl, rfl⟩ (by decide)).mono fun e W' ⟨y, gy, he, hy, _, _, hb⟩ => ⟨?_, hb⟩
  obtain ⟨rfl, -⟩ := hy
  rw [he, Maps.has_put_same ⟨[], rfl⟩ (keyL_key _)]
set_option maxRecDepth 100000 in
set_option maxHeartbeats 6400000 in
theorem last_walk (t p q : Term) (ls : List Term) (ck cp cq : List Value) (sv : Value) (xs : List Value) (w : World) (hk : TRep w t ck) (hp : TRep w p cp) (hq : TRep w q cq) (ho : AtRow w sv ls.length 11 xs) (hd : TsRep w ls xs) :
    Calls Try.prog 13 #[.agg ck.toArray, .agg (cp ++ cq).toArray, sv] w fun e w' => e = .returned (.bool true) ∧ Below w.heap.size w w' := by
  have nK := nums_built t ck hk
  have nP := nums_built p cp hp
  have nQ := nums_built q cq hq
  have ok1 := TRep.ones hk
  have op1 := TRep.ones hp
  have oq1 := TRep.ones hq
  obtain ⟨c0, c1, c2, c3, c4, c5, c6, c7, c8, c9, c10, rfl⟩ := eleven (TRep.len hk)
  obtain ⟨p0, p1, p2, p3, p4, p5, p6, p7, p8, p9, p10, rfl⟩ := eleven (TRep.len hp)
  obtain ⟨q0, q1, q2, q3, q4, q5, q6, q7, q8, q9, q10, rfl⟩ := eleven (TRep.len hq)
  simp only [List.cons_append, List.nil_append]
  have hkH := Lib.hid hk
  have hpH := Lib.hid hp
  have hqH := Lib.hid hq
  have hdatH := Lib.hid (TsRep.at ls xs hd)
  obtain ⟨oa, cap, rfl, hcap, hmax, hsm, -, -, hform⟩ := ho
  have hformH := Lib.hid hform
  unfold maxLen at hmax
  have bK := Lib.hid (fun W (hb : Below w.heap.size w W) => built_any t _ W (TRep.keep (keeps_of_below hb) t _ hk))
  have bP := Lib.hid (fun W (hb : Below w.heap.size w W) => built_any p _ W (TRep.keep (keeps_of_below hb) p _ hp))
  have bQ := Lib.hid (fun W (hb : Below w.heap.size w W) => built_any q _ W (TRep.keep (keeps_of_below hb) q _ hq))
  clear hk hp hq hd hform
  go_enter Try.func13, Try.ntmps13
  go_wp2_with fail
  refine wp_region_held_drew (S := (fun w' => w'.cell? ⟨w.heap.size + 1, 0, none⟩ = some p0 ∧ w'.cell? ⟨w.heap.size + 1, 1, none⟩ = some p1 ∧ w'.cell? ⟨w.heap.size + 1, 2, none⟩ = some p2 ∧ w'.cell? ⟨w.heap.size + 1, 3, none⟩ = some p3 ∧ w'.cell? ⟨w.heap.size + 1, 4, none⟩ = some p4 ∧ w'.cell? ⟨w.heap.size + 1, 5, none⟩ = some p5 ∧ w'.cell? ⟨w.heap.size + 1, 6, none⟩ = some p6 ∧ w'.cell? ⟨w.heap.size + 1, 7, none⟩ = some p7 ∧ w'.cell? ⟨w.heap.size + 1, 8, none⟩ = some p8 ∧ w'.cell? ⟨w.heap.size + 1, 9, none⟩ = some p9 ∧ w'.cell? ⟨w.heap.size + 1, 10, none⟩ = some p10 ∧ w'.cell? ⟨w.heap.size + 1, 11, none⟩ = some q0 ∧ w'.cell? ⟨w.heap.size + 1, 12, none⟩ = some q1 ∧ w'.cell? ⟨w.heap.size + 1, 13, none⟩ = some q2 ∧ w'.cell? ⟨w.heap.size + 1, 14, none⟩ = some q3 ∧ w'.cell? ⟨w.heap.size + 1, 15, none⟩ = some q4 ∧ w'.cell? ⟨w.heap.size + 1, 16, none⟩ = some q5 ∧ w'.cell? ⟨w.heap.size + 1, 17, none⟩ = some q6 ∧ w'.cell? ⟨w.heap.size + 1, 18, none⟩ = some q7 ∧ w'.cell? ⟨w.heap.size + 1, 19, none⟩ = some q8 ∧ w'.cell? ⟨w.heap.size + 1, 20, none⟩ = some q9 ∧ w'.cell? ⟨w.heap.size + 1, 21, none⟩ = some q10)) (by kernel_rfl) (by simp [go_sem]) (fun hHeld => ?_)
  refine wpAnyH_take (i := 0) (v := ?va1) rfl (by kernel_rfl) (by kernel_rfl) (by kernel_rfl) (fun _ _ _ h => h) (.inl ⟨by rfl, ?hya1⟩) (by assumption) ?resta1
  case hya1 => (intro w hSw; (try dsimp only at hSw); go_simp; first | done | with_reducible rfl)
  (try simp only [Act.put, List.setIfInBounds_toArray, List.set_cons_zero, List.set_cons_succ, List.getElem_toArray, List.getElem_cons_zero, List.getElem_cons_succ])
  refine wpAnyH_take (i := 1) (v := ?va2) rfl (by kernel_rfl) (by kernel_rfl) (by kernel_rfl) (fun _ _ _ h => h) (.inl ⟨by rfl, ?hya2⟩) (by assumption) ?resta2
  case hya2 => (intro w hSw; (try dsimp only at hSw); go_simp; first | done | with_reducible rfl)
  (try simp only [Act.put, List.setIfInBounds_toArray, List.set_cons_zero, List.set_cons_succ, List.getElem_toArray, List.getElem_cons_zero, List.getElem_cons_succ])
  refine wpAnyH_take (i := 2) (v := ?va3) rfl (by kernel_rfl) (by kernel_rfl) (by kernel_rfl) (fun _ _ _ h => h) (.inl ⟨by rfl, ?hya3⟩) (by assumption) ?resta3
  case hya3 => (intro w hSw; (try dsimp only at hSw); go_simp; first | done | with_reducible rfl)
  (try simp only [Act.put, List.setIfInBounds_toArray, List.set_cons_zero, List.set_cons_succ, List.getElem_toArray, List.getElem_cons_zero, List.getElem_cons_succ])
  refine wpAnyH_take (i := 3) (v := ?va4) rfl (by kernel_rfl) (by kernel_rfl) (by kernel_rfl) (fun _ _ _ h => h) (.inl ⟨by rfl, ?hya4⟩) (by assumption) ?resta4
  case hya4 => (intro w hSw; (try dsimp only at hSw); go_simp; first | done | with_reducible rfl)
  (try simp only [Act.put, List.setIfInBounds_toArray, List.set_cons_zero, List.set_cons_succ, List.getElem_toArray, List.getElem_cons_zero, List.getElem_cons_succ])
  refine wpAnyH_ready (rs := [4, 5]) (by kernel_rfl) (by simp) ?_
  refine AllReadyH.cons rfl (fun K hK => ?_) (AllReadyH.cons rfl (fun K hK => ?_) AllReadyH.nil)
  · rw [if_pos (by rfl)]
    go_simp
    refine hK.out _ _ ?_ (fun hHeldN => ?_)
    · exact (by simp [go_sem])
    clear hK K hHeld
    have hHeld := hHeldN
    clear hHeldN
    (try simp only [Act.put, List.setIfInBounds_toArray, List.set_cons_zero, List.set_cons_succ, List.getElem_toArray, List.getElem_cons_zero, List.getElem_cons_succ])
    refine wpAnyH_ready (rs := [5]) (by kernel_rfl) (by simp) ?_
    refine AllReadyH.cons rfl (fun K hK => ?_) AllReadyH.nil
    rw [if_pos (by rfl)]
    go_simp
    refine hK.out _ _ ?_ (fun hHeldN => ?_)
    · exact (by simp [go_sem])
    clear hK K hHeld
    have hHeld := hHeldN
    clear hHeldN
    (try simp only [Act.put, List.setIfInBounds_toArray, List.set_cons_zero, List.set_cons_succ, List.getElem_toArray, List.getElem_cons_zero, List.getElem_cons_succ])
    refine wpAnyH_ready (rs := [6]) (by kernel_rfl) (by simp) ?_
    refine AllReadyH.cons rfl (fun K hK => ?_) AllReadyH.nil
    rw [if_pos (by rfl)]
    go_simp
    refine hK.out _ _ ?_ (fun hHeldN => ?_)
    · exact (by simp [go_sem])
    clear hK K hHeld
    have hHeld := hHeldN
    clear hHeldN
    (try simp only [Act.put, List.setIfInBounds_toArray, List.set_cons_zero, List.set_cons_succ, List.getElem_toArray, List.getElem_cons_zero, List.getElem_cons_succ])
    refine wpAnyH_ready (rs := [7]) (by kernel_rfl) (by simp) ?_
    refine AllReadyH.cons rfl (fun K hK => ?_) AllReadyH.nil
    rw [if_pos (by rfl)]
    go_simp
    refine hK.out _ _ ?_ (fun hHeldN => ?_)
    · exact (by simp [go_sem])
    clear hK K hHeld
    have hHeld := hHeldN
    clear hHeldN
    (try simp only [Act.put, List.setIfInBounds_toArray, List.set_cons_zero, List.set_cons_succ, List.getElem_toArray, List.getElem_cons_zero, List.getElem_cons_succ])
    refine wpAnyH_done (by kernel_rfl) ?_ _
    obtain ⟨W1, hW1⟩ : ∃ W1, W1 = (((((w.alloc (.cells #[c0, c1, c2, c3, c4, c5, c6, c7, c8, c9, c10] 34)).alloc (.cells #[p0, p1, p2, p3, p4, p5, p6, p7, p8, p9, p10, q0, q1, q2, q3, q4, q5, q6, q7, q8, q9, q10] 119)).alloc (Obj.cells #[p0, p1, p2, p3, p4, p5, p6, p7, p8, p9, p10] 34)).alloc (Obj.cells #[q0, q1, q2, q3, q4, q5, q6, q7, q8, q9, q10] 34)).drew) := ⟨_, rfl⟩
    obtain ⟨b7, hb7⟩ : ∃ b7, b7 = w.heap.size + 1 + 1 := ⟨_, rfl⟩
    obtain ⟨b8, hb8⟩ : ∃ b8, b8 = w.heap.size + 1 + 1 + 1 := ⟨_, rfl⟩
    have h4 := four_blocks w (Obj.cells #[c0, c1, c2, c3, c4, c5, c6, c7, c8, c9, c10] 34) (Obj.cells #[p0, p1, p2, p3, p4, p5, p6, p7, p8, p9, p10, q0, q1, q2, q3, q4, q5, q6, q7, q8, q9, q10] 119) (Obj.cells #[p0, p1, p2, p3, p4, p5, p6, p7, p8, p9, p10] 34) (Obj.cells #[q0, q1, q2, q3, q4, q5, q6, q7, q8, q9, q10] 34)
    rw [← hW1] at h4
    obtain ⟨hbw1, hK1, g3, g4, hsz1⟩ := h4
    rw [← hb7] at g3
    rw [← hb8] at g4
    have hP1 := g3
    have hQ1 := g4
    rw [← hW1, ← hb8, ← hb7]
    have hlts : w.heap.size < W1.heap.size ∧ b7 < W1.heap.size ∧ b8 < W1.heap.size := by omega
    have hst0 := last_start (t := builtV t) (us := ls.map builtV) hbw1 hK1 hP1 hQ1
    clear hW1 hb7 hb8 hHeld g3 g4 hK1 hP1 hQ1 hsz1
    go_wp2_with fail
    obtain ⟨m, hm⟩ : ∃ m, m = W1.heap.size := ⟨_, rfl⟩
    obtain ⟨W2, hW2⟩ : ∃ W2, W2 = W1.alloc (Obj.cells #[Value.map none] 123) := ⟨_, rfl⟩
    rw [← hm, ← hW2] at hst0
    rw [← hW2, ← hm]
    clear hW2 hm hbw1 hlts
    have hst := hst0.below (Below.refl _ _).drew
    clear hst0
    refine wp_region_held_drew (S := (fun w' => w'.cell? ⟨w.heap.size, 0, none⟩ = some c0 ∧ w'.cell? ⟨w.heap.size, 1, none⟩ = some c1 ∧ w'.cell? ⟨w.heap.size, 2, none⟩ = some c2 ∧ w'.cell? ⟨w.heap.size, 3, none⟩ = some c3 ∧ w'.cell? ⟨w.heap.size, 4, none⟩ = some c4 ∧ w'.cell? ⟨w.heap.size, 5, none⟩ = some c5 ∧ w'.cell? ⟨w.heap.size, 6, none⟩ = some c6 ∧ w'.cell? ⟨w.heap.size, 7, none⟩ = some c7 ∧ w'.cell? ⟨w.heap.size, 8, none⟩ = some c8 ∧ w'.cell? ⟨w.heap.size, 9, none⟩ = some c9 ∧ w'.cell? ⟨w.heap.size, 10, none⟩ = some c10 ∧ w'.cell? ⟨b7, 0, none⟩ = some p0 ∧ w'.cell? ⟨b7, 1, none⟩ = some p1 ∧ w'.cell? ⟨b7, 2, none⟩ = some p2 ∧ w'.cell? ⟨b7, 3, none⟩ = some p3 ∧ w'.cell? ⟨b7, 4, none⟩ = some p4 ∧ w'.cell? ⟨b7, 5, none⟩ = some p5 ∧ w'.cell? ⟨b7, 6, none⟩ = some p6 ∧ w'.cell? ⟨b7, 7, none⟩ = some p7 ∧ w'.cell? ⟨b7, 8, none⟩ = some p8 ∧ w'.cell? ⟨b7, 9, none⟩ = some p9 ∧ w'.cell? ⟨b7, 10, none⟩ = some p10)) (by kernel_rfl) (⟨(hst).cells.1 0, (hst).cells.1 1, (hst).cells.1 2, (hst).cells.1 3, (hst).cells.1 4, (hst).cells.1 5, (hst).cells.1 6, (hst).cells.1 7, (hst).cells.1 8, (hst).cells.1 9, (hst).cells.1 10, (hst).cells.2.1 0, (hst).cells.2.1 1, (hst).cells.2.1 2, (hst).cells.2.1 3, (hst).cells.2.1 4, (hst).cells.2.1 5, (hst).cells.2.1 6, (hst).cells.2.1 7, (hst).cells.2.1 8, (hst).cells.2.1 9, (hst).cells.2.1 10⟩) (fun hHeld => ?_)
    refine wpAnyH_take (i := 0) (v := ?vb11) rfl (by kernel_rfl) (by kernel_rfl) (by kernel_rfl) (fun _ _ _ h => h) (.inl ⟨by rfl, ?hyb11⟩) (by assumption) ?restb11
    case hyb11 => (intro w hSw; (try dsimp only at hSw); go_simp; first | done | with_reducible rfl)
    (try simp only [Act.put, List.setIfInBounds_toArray, List.set_cons_zero, List.set_cons_succ, List.getElem_toArray, List.getElem_cons_zero, List.getElem_cons_succ])
    refine wpAnyH_take (i := 1) (v := ?vb12) rfl (by kernel_rfl) (by kernel_rfl) (by kernel_rfl) (fun _ _ _ h => h) (.inl ⟨by rfl, ?hyb12⟩) (by assumption) ?restb12
    case hyb12 => (intro w hSw; (try dsimp only at hSw); go_simp; first | done | with_reducible rfl)
    (try simp only [Act.put, List.setIfInBounds_toArray, List.set_cons_zero, List.set_cons_succ, List.getElem_toArray, List.getElem_cons_zero, List.getElem_cons_succ])
    refine wpAnyH_take (i := 3) (v := ?vb13) rfl (by kernel_rfl) (by kernel_rfl) (by kernel_rfl) (fun _ _ _ h => h) (.inl ⟨by rfl, ?hyb13⟩) (by assumption) ?restb13
    case hyb13 => (intro w hSw; (try dsimp only at hSw); go_simp; first | done | with_reducible rfl)
    (try simp only [Act.put, List.setIfInBounds_toArray, List.set_cons_zero, List.set_cons_succ, List.getElem_toArray, List.getElem_cons_zero, List.getElem_cons_succ])
    refine wpAnyH_ready (rs := [2]) (by kernel_rfl) (by simp) ?_
    refine AllReadyH.cons rfl (fun K hK => ?_) AllReadyH.nil
    rw [if_pos (by rfl)]
    go_simp
    refine (bK.out _ hst.cells.2.2.2.1).mono ?_
    rintro e w3 ⟨y1, f1, rfl, hv1, -, hf1, hb3⟩
    have hst3 := hst.below hb3
    have hy1 := hv1.one
    have hm1 : m ∉ f1 := fun e => by (have h1 := hf1 m e; have h2 := hst.cells.2.2.2.2.2.2.2; omega)
    have hv1H := Lib.hid hv1
    clear hv1
    refine hK.out _ _ ?_ (fun hHeldN => ?_)
    · exact ⟨(hst3).cells.1 0, (hst3).cells.1 1, (hst3).cells.1 2, (hst3).cells.1 3, (hst3).cells.1 4, (hst3).cells.1 5, (hst3).cells.1 6, (hst3).cells.1 7, (hst3).cells.1 8, (hst3).cells.1 9, (hst3).cells.1 10, (hst3).cells.2.1 0, (hst3).cells.2.1 1, (hst3).cells.2.1 2, (hst3).cells.2.1 3, (hst3).cells.2.1 4, (hst3).cells.2.1 5, (hst3).cells.2.1 6, (hst3).cells.2.1 7, (hst3).cells.2.1 8, (hst3).cells.2.1 9, (hst3).cells.2.1 10⟩
    clear hK K hHeld
    have hHeld := hHeldN
    clear hHeldN
    (try simp only [Act.put, List.setIfInBounds_toArray, List.set_cons_zero, List.set_cons_succ, List.getElem_toArray, List.getElem_cons_zero, List.getElem_cons_succ])
    refine wpAnyH_ready (rs := [4]) (by kernel_rfl) (by simp) ?_
    refine AllReadyH.cons rfl (fun K hK => ?_) AllReadyH.nil
    rw [if_pos (by rfl)]
    go_simp
    refine (bP.out _ hst3.cells.2.2.2.1).mono ?_
    rintro e w4 ⟨y2, f2, rfl, hv2, -, hf2, hb4⟩
    have hst4 := hst3.below hb4
    have hy2 := hv2.one
    have hm2 : m ∉ f2 := fun e => by (have h1 := hf2 m e; have h2 := hst3.cells.2.2.2.2.2.2.2; omega)
    have hput := Lib.hid (put_main hst4 (VRep.but hv1H.out (below_but0 hb4) (fun _ _ f => f)) nK hv2 hm1 hm2)
    clear hv2 hv1H
    refine hK.out _ _ ?_ (fun hHeldN => ?_)
    · exact ⟨(hst4).cells.1 0, (hst4).cells.1 1, (hst4).cells.1 2, (hst4).cells.1 3, (hst4).cells.1 4, (hst4).cells.1 5, (hst4).cells.1 6, (hst4).cells.1 7, (hst4).cells.1 8, (hst4).cells.1 9, (hst4).cells.1 10, (hst4).cells.2.1 0, (hst4).cells.2.1 1, (hst4).cells.2.1 2, (hst4).cells.2.1 3, (hst4).cells.2.1 4, (hst4).cells.2.1 5, (hst4).cells.2.1 6, (hst4).cells.2.1 7, (hst4).cells.2.1 8, (hst4).cells.2.1 9, (hst4).cells.2.1 10⟩
    clear hK K hHeld
    have hHeld := hHeldN
    clear hHeldN
    (try simp only [Act.put, List.setIfInBounds_toArray, List.set_cons_zero, List.set_cons_succ, List.getElem_toArray, List.getElem_cons_zero, List.getElem_cons_succ])
    refine wpAnyH_ready (rs := [5]) (by kernel_rfl) (by simp) ?_
    refine AllReadyH.cons rfl (fun K hK => ?_) AllReadyH.nil
    rw [if_pos (by rfl)]
    go_simp
    refine hput.out.mono ?_
    rintro e w5 h5
    obtain ⟨cc, B1, ec1, s1, rfl, hcc, hs1, hst5⟩ := put_first h5
    clear h5 hput hst hst3 hst4
    refine hK.out _ _ ?_ (fun hHeldN => ?_)
    · exact ⟨(hst5).cells.1 0, (hst5).cells.1 1, (hst5).cells.1 2, (hst5).cells.1 3, (hst5).cells.1 4, (hst5).cells.1 5, (hst5).cells.1 6, (hst5).cells.1 7, (hst5).cells.1 8, (hst5).cells.1 9, (hst5).cells.1 10, (hst5).cells.2.1 0, (hst5).cells.2.1 1, (hst5).cells.2.1 2, (hst5).cells.2.1 3, (hst5).cells.2.1 4, (hst5).cells.2.1 5, (hst5).cells.2.1 6, (hst5).cells.2.1 7, (hst5).cells.2.1 8, (hst5).cells.2.1 9, (hst5).cells.2.1 10⟩
    clear hK K hHeld
    have hHeld := hHeldN
    clear hHeldN
    (try simp only [Act.put, List.setIfInBounds_toArray, List.set_cons_zero, List.set_cons_succ, List.getElem_toArray, List.getElem_cons_zero, List.getElem_cons_succ])
    refine wpAnyH_take (i := 6) (v := ?vb14) rfl (by kernel_rfl) (by kernel_rfl) (by kernel_rfl) (fun _ _ _ h => h) (.inl ⟨by rfl, ?hyb14⟩) (by assumption) ?restb14
    case hyb14 => (intro w hSw; (try dsimp only at hSw); go_simp; first | done | with_reducible rfl)
    (try simp only [Act.put, List.setIfInBounds_toArray, List.set_cons_zero, List.set_cons_succ, List.getElem_toArray, List.getElem_cons_zero, List.getElem_cons_succ])
    refine wpAnyH_take (i := 7) (v := ?vb15) rfl (by kernel_rfl) (by kernel_rfl) (by kernel_rfl) (fun _ _ _ h => h) (.inl ⟨by rfl, ?hyb15⟩) (by assumption) ?restb15
    case hyb15 => (intro w hSw; (try dsimp only at hSw); go_simp; first | done | with_reducible rfl)
    (try simp only [Act.put, List.setIfInBounds_toArray, List.set_cons_zero, List.set_cons_succ, List.getElem_toArray, List.getElem_cons_zero, List.getElem_cons_succ])
    refine wpAnyH_take (i := 8) (v := ?vb16) rfl (by kernel_rfl) (by kernel_rfl) (by kernel_rfl) (fun _ _ _ h => h) (.inl ⟨by rfl, ?hyb16⟩) (by assumption) ?restb16
    case hyb16 => (intro w hSw; (try dsimp only at hSw); go_simp; first | done | with_reducible rfl)
    (try simp only [Act.put, List.setIfInBounds_toArray, List.set_cons_zero, List.set_cons_succ, List.getElem_toArray, List.getElem_cons_zero, List.getElem_cons_succ])
    refine wpAnyH_take (i := 9) (v := ?vb17) rfl (by kernel_rfl) (by kernel_rfl) (by kernel_rfl) (fun _ _ _ h => h) (.inl ⟨by rfl, ?hyb17⟩) (by assumption) ?restb17
    case hyb17 => (intro w hSw; (try dsimp only at hSw); go_simp; first | done | with_reducible rfl)
    (try simp only [Act.put, List.setIfInBounds_toArray, List.set_cons_zero, List.set_cons_succ, List.getElem_toArray, List.getElem_cons_zero, List.getElem_cons_succ])
    refine wpAnyH_take (i := 10) (v := ?vb18) rfl (by kernel_rfl) (by kernel_rfl) (by kernel_rfl) (fun _ _ _ h => h) (.inl ⟨by rfl, ?hyb18⟩) (by assumption) ?restb18
    case hyb18 => (intro w hSw; (try dsimp only at hSw); go_simp; first | done | with_reducible rfl)
    (try simp only [Act.put, List.setIfInBounds_toArray, List.set_cons_zero, List.set_cons_succ, List.getElem_toArray, List.getElem_cons_zero, List.getElem_cons_succ])
    refine wpAnyH_take (i := 11) (v := ?vb19) rfl (by kernel_rfl) (by kernel_rfl) (by kernel_rfl) (fun _ _ _ h => h) (.inl ⟨by rfl, ?hyb19⟩) (by assumption) ?restb19
    case hyb19 => (intro w hSw; (try dsimp only at hSw); go_simp; first | done | with_reducible rfl)
    (try simp only [Act.put, List.setIfInBounds_toArray, List.set_cons_zero, List.set_cons_succ, List.getElem_toArray, List.getElem_cons_zero, List.getElem_cons_succ])
    refine wpAnyH_take (i := 12) (v := ?vb110) rfl (by kernel_rfl) (by kernel_rfl) (by kernel_rfl) (fun _ _ _ h => h) (.inl ⟨by rfl, ?hyb110⟩) (by assumption) ?restb110
    case hyb110 => (intro w hSw; (try dsimp only at hSw); go_simp; first | done | with_reducible rfl)
    (try simp only [Act.put, List.setIfInBounds_toArray, List.set_cons_zero, List.set_cons_succ, List.getElem_toArray, List.getElem_cons_zero, List.getElem_cons_succ])
    refine wpAnyH_done (by kernel_rfl) ?_ _
    go_wp2_with fail
    go_loopw [13] (fun i wr => ∃ k : Nat, k ≤ ls.length ∧ i = .int .i64 k ∧ LastInv w wr w.heap.size b7 b8 m #[c0, c1, c2, c3, c4, c5, c6, c7, c8, c9, c10] #[p0, p1, p2, p3, p4, p5, p6, p7, p8, p9, p10] #[q0, q1, q2, q3, q4, q5, q6, q7, q8, q9, q10] (builtV t) (ls.map builtV) k s1) (fun i _ => ls.length - (intOf i).toNat)
    case atStart => exact ⟨0, Nat.zero_le _, rfl, hst5⟩
    case round =>
      obtain ⟨k, hk, rfl, hst6⟩ := hrel
      clear hst5
      by_cases hlt : k < ls.length
      · have hlti : (k : Int) < (ls.length : Int) := by omega
        obtain ⟨eb, eo, rfl, hec⟩ := hformH.out (by omega)
        obtain ⟨u, hu⟩ : ∃ u, ls[k]? = some u := ⟨_, List.getElem?_eq_getElem hlt⟩
        have hu' : (ls.map builtV)[k]? = some (builtV u) := by rw [List.getElem?_map, hu]; rfl
        obtain ⟨es, htu, ee⟩ := hdatH.out k u hu
        have hne := nums_built u es htu
        have hcell : ∀ j, j < 11 → w.cell? ⟨eb, eo + k * 11 + j, none⟩ = es[j]? := fun j hj => by (have h1 := hec (k * 11 + j) (by omega); rw [ee j hj, ← Nat.add_assoc] at h1; exact h1)
        have oe1 := TRep.ones htu
        obtain ⟨e0, e1, e2, e3, e4, e5, e6, e7, e8, e9, e10, rfl⟩ := eleven (TRep.len htu)
        have g0 := hcell 0 (by omega)
        have g1 := hcell 1 (by omega)
        have g2 := hcell 2 (by omega)
        have g3 := hcell 3 (by omega)
        have g4 := hcell 4 (by omega)
        have g5 := hcell 5 (by omega)
        have g6 := hcell 6 (by omega)
        have g7 := hcell 7 (by omega)
        have g8 := hcell 8 (by omega)
        have g9 := hcell 9 (by omega)
        have g10 := hcell 10 (by omega)
        simp only [List.getElem?_cons_zero, List.getElem?_cons_succ, Nat.add_zero] at g0 g1 g2 g3 g4 g5 g6 g7 g8 g9 g10
        have bE := Lib.hid (fun W (hb : Below w.heap.size w W) => built_any u _ W (TRep.keep (keeps_of_below hb) u _ htu))
        have sE := Lib.hid (fun W (hb : Below w.heap.size w W) => sameV_said u t _ _ W (TRep.keep (keeps_of_below hb) u _ htu) (TRep.keep (keeps_of_below hb) t _ hkH.out))
        have hE := Lib.hid (fun W (hb : Below w.heap.size w W) => (⟨keeps_of_below hb _ _ g0, keeps_of_below hb _ _ g1, keeps_of_below hb _ _ g2, keeps_of_below hb _ _ g3, keeps_of_below hb _ _ g4, keeps_of_below hb _ _ g5, keeps_of_below hb _ _ g6, keeps_of_below hb _ _ g7, keeps_of_below hb _ _ g8, keeps_of_below hb _ _ g9, keeps_of_below hb _ _ g10⟩ : W.cell? ⟨eb, eo + k * 11, none⟩ = some e0 ∧ W.cell? ⟨eb, eo + k * 11 + 1, none⟩ = some e1 ∧ W.cell? ⟨eb, eo + k * 11 + 2, none⟩ = some e2 ∧ W.cell? ⟨eb, eo + k * 11 + 3, none⟩ = some e3 ∧ W.cell? ⟨eb, eo + k * 11 + 4, none⟩ = some e4 ∧ W.cell? ⟨eb, eo + k * 11 + 5, none⟩ = some e5 ∧ W.cell? ⟨eb, eo + k * 11 + 6, none⟩ = some e6 ∧ W.cell? ⟨eb, eo + k * 11 + 7, none⟩ = some e7 ∧ W.cell? ⟨eb, eo + k * 11 + 8, none⟩ = some e8 ∧ W.cell? ⟨eb, eo + k * 11 + 9, none⟩ = some e9 ∧ W.cell? ⟨eb, eo + k * 11 + 10, none⟩ = some e10))
        clear hec hcell ee htu g0 g1 g2 g3 g4 g5 g6 g7 g8 g9 g10
        go_wp2_with fail
        have hst6d := hst6.below (Below.refl _ _).drew
        clear hst6
        refine wp_region_held_drew (S := (fun w' => w'.cell? ⟨w.heap.size, 0, none⟩ = some c0 ∧ w'.cell? ⟨w.heap.size, 1, none⟩ = some c1 ∧ w'.cell? ⟨w.heap.size, 2, none⟩ = some c2 ∧ w'.cell? ⟨w.heap.size, 3, none⟩ = some c3 ∧ w'.cell? ⟨w.heap.size, 4, none⟩ = some c4 ∧ w'.cell? ⟨w.heap.size, 5, none⟩ = some c5 ∧ w'.cell? ⟨w.heap.size, 6, none⟩ = some c6 ∧ w'.cell? ⟨w.heap.size, 7, none⟩ = some c7 ∧ w'.cell? ⟨w.heap.size, 8, none⟩ = some c8 ∧ w'.cell? ⟨w.heap.size, 9, none⟩ = some c9 ∧ w'.cell? ⟨w.heap.size, 10, none⟩ = some c10 ∧ w'.cell? ⟨eb, eo + k * 11, none⟩ = some e0 ∧ w'.cell? ⟨eb, eo + k * 11 + 1, none⟩ = some e1 ∧ w'.cell? ⟨eb, eo + k * 11 + 2, none⟩ = some e2 ∧ w'.cell? ⟨eb, eo + k * 11 + 3, none⟩ = some e3 ∧ w'.cell? ⟨eb, eo + k * 11 + 4, none⟩ = some e4 ∧ w'.cell? ⟨eb, eo + k * 11 + 5, none⟩ = some e5 ∧ w'.cell? ⟨eb, eo + k * 11 + 6, none⟩ = some e6 ∧ w'.cell? ⟨eb, eo + k * 11 + 7, none⟩ = some e7 ∧ w'.cell? ⟨eb, eo + k * 11 + 8, none⟩ = some e8 ∧ w'.cell? ⟨eb, eo + k * 11 + 9, none⟩ = some e9 ∧ w'.cell? ⟨eb, eo + k * 11 + 10, none⟩ = some e10)) (by kernel_rfl) (⟨(hst6d).cells.1 0, (hst6d).cells.1 1, (hst6d).cells.1 2, (hst6d).cells.1 3, (hst6d).cells.1 4, (hst6d).cells.1 5, (hst6d).cells.1 6, (hst6d).cells.1 7, (hst6d).cells.1 8, (hst6d).cells.1 9, (hst6d).cells.1 10, hE.out _ (hst6d).cells.2.2.2.1⟩) (fun hHeld => ?_)
        refine wpAnyH_take (i := 0) (v := ?vb21) rfl (by kernel_rfl) (by kernel_rfl) (by kernel_rfl) (fun _ _ _ h => h) (.inl ⟨by rfl, ?hyb21⟩) (by assumption) ?restb21
        case hyb21 => (intro w hSw; (try dsimp only at hSw); go_simp; first | done | with_reducible rfl)
        (try simp only [Act.put, List.setIfInBounds_toArray, List.set_cons_zero, List.set_cons_succ, List.getElem_toArray, List.getElem_cons_zero, List.getElem_cons_succ])
        refine wpAnyH_take (i := 1) (v := ?vb22) rfl (by kernel_rfl) (by kernel_rfl) (by kernel_rfl) (fun _ _ _ h => h) (.inl ⟨by rfl, ?hyb22⟩) (by assumption) ?restb22
        case hyb22 => (intro w hSw; (try dsimp only at hSw); go_simp; first | done | with_reducible rfl)
        (try simp only [Act.put, List.setIfInBounds_toArray, List.set_cons_zero, List.set_cons_succ, List.getElem_toArray, List.getElem_cons_zero, List.getElem_cons_succ])
        refine wpAnyH_take (i := 2) (v := ?vb23) rfl (by kernel_rfl) (by kernel_rfl) (by kernel_rfl) (fun _ _ _ h => h) (.inl ⟨by rfl, ?hyb23⟩) (by assumption) ?restb23
        case hyb23 => (intro w hSw; (try dsimp only at hSw); go_simp; first | done | with_reducible rfl)
        (try simp only [Act.put, List.setIfInBounds_toArray, List.set_cons_zero, List.set_cons_succ, List.getElem_toArray, List.getElem_cons_zero, List.getElem_cons_succ])
        refine wpAnyH_take (i := 3) (v := ?vb24) rfl (by kernel_rfl) (by kernel_rfl) (by kernel_rfl) (fun _ _ _ h => h) (.inl ⟨by rfl, ?hyb24⟩) (by assumption) ?restb24
        case hyb24 => (intro w hSw; (try dsimp only at hSw); go_simp; first | done | with_reducible rfl)
        (try simp only [Act.put, List.setIfInBounds_toArray, List.set_cons_zero, List.set_cons_succ, List.getElem_toArray, List.getElem_cons_zero, List.getElem_cons_succ])
        refine wpAnyH_take (i := 4) (v := ?vb25) rfl (by kernel_rfl) (by kernel_rfl) (by kernel_rfl) (fun _ _ _ h => h) (.inl ⟨by rfl, ?hyb25⟩) (by assumption) ?restb25
        case hyb25 => (intro w hSw; (try dsimp only at hSw); go_simp; first | done | with_reducible rfl)
        (try simp only [Act.put, List.setIfInBounds_toArray, List.set_cons_zero, List.set_cons_succ, List.getElem_toArray, List.getElem_cons_zero, List.getElem_cons_succ])
        refine wpAnyH_ready (rs := [5]) (by kernel_rfl) (by simp) ?_
        refine AllReadyH.cons rfl (fun K hK => ?_) AllReadyH.nil
        rw [if_pos (by rfl)]
        go_simp
        refine (sE.out _ hst6d.cells.2.2.2.1).mono ?_
        rintro e w7 ⟨r, rfl, hr, hb7⟩
        have hst7 := hst6d.below hb7
        refine hK.out _ _ ?_ (fun hHeldN => ?_)
        · exact ⟨(hst7).cells.1 0, (hst7).cells.1 1, (hst7).cells.1 2, (hst7).cells.1 3, (hst7).cells.1 4, (hst7).cells.1 5, (hst7).cells.1 6, (hst7).cells.1 7, (hst7).cells.1 8, (hst7).cells.1 9, (hst7).cells.1 10, hE.out _ (hst7).cells.2.2.2.1⟩
        clear hK K hHeld
        have hHeld := hHeldN
        clear hHeldN
        (try simp only [Act.put, List.setIfInBounds_toArray, List.set_cons_zero, List.set_cons_succ, List.getElem_toArray, List.getElem_cons_zero, List.getElem_cons_succ])
        refine wpAnyH_take (i := 6) (v := ?vb26) rfl (by kernel_rfl) (by kernel_rfl) (by kernel_rfl) (fun _ _ _ h => h) (.inl ⟨by rfl, ?hyb26⟩) (by assumption) ?restb26
        case hyb26 => (intro w hSw; (try dsimp only at hSw); go_simp; first | done | with_reducible rfl)
        (try simp only [Act.put, List.setIfInBounds_toArray, List.set_cons_zero, List.set_cons_succ, List.getElem_toArray, List.getElem_cons_zero, List.getElem_cons_succ])
        refine wpAnyH_done (by kernel_rfl) ?_ _
        cases r with
        | true =>
          go_wp2_with fail
          go_roundw
          case rel => exact ⟨k + 1, by omega, by go_num, hst7.skip⟩
          case measure => first | (simp [intOf]; done) | (simp [intOf]; omega)
        | false =>
          have hnot := Lib.hid (show ¬ (okB (builtV u) = true ∧ okB (builtV t) = true ∧ builtV u = builtV t) from fun h => absurd (hr.2 h) (by decide))
          have hE7 := hE.out _ hst7.cells.2.2.2.1
          clear hr
          go_wp2_with fail
          refine (bE.out _ hst7.cells.2.2.2.1).mono ?_
          rintro e w8 ⟨y3, f3, rfl, hv3, -, hf3, hb8⟩
          have hst8 := hst7.below hb8
          have hy3 := hv3.one
          have hm3 : m ∉ f3 := fun e => by (have h1 := hf3 m e; have h2 := hst7.cells.2.2.2.2.2.2.2; omega)
          have hput := Lib.hid (put_other hst8 hu' hnot.out hv3 hne nK hm3)
          clear hv3 hst6d hE7
          go_wp2_with fail
          refine hput.out.mono ?_
          rintro e w9 ⟨cc9, B9, ec9, rfl, hcc9, hst9⟩
          clear hst7 hst8 hput
          go_wp2_with fail
          go_roundw
          case rel => exact ⟨k + 1, by omega, by go_num, hst9⟩
          case measure => first | (simp [intOf]; done) | (simp [intOf]; omega)
        
      · obtain rfl : k = ls.length := by omega
        clear hlt
        go_wp2_with fail
        have hst9 := hst6.below (Below.refl _ _).drew
        clear hst6
        refine wp_region_held_drew (S := (fun w' => w'.cell? ⟨w.heap.size, 0, none⟩ = some c0 ∧ w'.cell? ⟨w.heap.size, 1, none⟩ = some c1 ∧ w'.cell? ⟨w.heap.size, 2, none⟩ = some c2 ∧ w'.cell? ⟨w.heap.size, 3, none⟩ = some c3 ∧ w'.cell? ⟨w.heap.size, 4, none⟩ = some c4 ∧ w'.cell? ⟨w.heap.size, 5, none⟩ = some c5 ∧ w'.cell? ⟨w.heap.size, 6, none⟩ = some c6 ∧ w'.cell? ⟨w.heap.size, 7, none⟩ = some c7 ∧ w'.cell? ⟨w.heap.size, 8, none⟩ = some c8 ∧ w'.cell? ⟨w.heap.size, 9, none⟩ = some c9 ∧ w'.cell? ⟨w.heap.size, 10, none⟩ = some c10 ∧ w'.cell? ⟨b8, 0, none⟩ = some q0 ∧ w'.cell? ⟨b8, 1, none⟩ = some q1 ∧ w'.cell? ⟨b8, 2, none⟩ = some q2 ∧ w'.cell? ⟨b8, 3, none⟩ = some q3 ∧ w'.cell? ⟨b8, 4, none⟩ = some q4 ∧ w'.cell? ⟨b8, 5, none⟩ = some q5 ∧ w'.cell? ⟨b8, 6, none⟩ = some q6 ∧ w'.cell? ⟨b8, 7, none⟩ = some q7 ∧ w'.cell? ⟨b8, 8, none⟩ = some q8 ∧ w'.cell? ⟨b8, 9, none⟩ = some q9 ∧ w'.cell? ⟨b8, 10, none⟩ = some q10)) (by kernel_rfl) (⟨(hst9).cells.1 0, (hst9).cells.1 1, (hst9).cells.1 2, (hst9).cells.1 3, (hst9).cells.1 4, (hst9).cells.1 5, (hst9).cells.1 6, (hst9).cells.1 7, (hst9).cells.1 8, (hst9).cells.1 9, (hst9).cells.1 10, (hst9).cells.2.2.1 0, (hst9).cells.2.2.1 1, (hst9).cells.2.2.1 2, (hst9).cells.2.2.1 3, (hst9).cells.2.2.1 4, (hst9).cells.2.2.1 5, (hst9).cells.2.2.1 6, (hst9).cells.2.2.1 7, (hst9).cells.2.2.1 8, (hst9).cells.2.2.1 9, (hst9).cells.2.2.1 10⟩) (fun hHeld => ?_)
        refine wpAnyH_take (i := 0) (v := ?vb31) rfl (by kernel_rfl) (by kernel_rfl) (by kernel_rfl) (fun _ _ _ h => h) (.inl ⟨by rfl, ?hyb31⟩) (by assumption) ?restb31
        case hyb31 => (intro w hSw; (try dsimp only at hSw); go_simp; first | done | with_reducible rfl)
        (try simp only [Act.put, List.setIfInBounds_toArray, List.set_cons_zero, List.set_cons_succ, List.getElem_toArray, List.getElem_cons_zero, List.getElem_cons_succ])
        refine wpAnyH_take (i := 1) (v := ?vb32) rfl (by kernel_rfl) (by kernel_rfl) (by kernel_rfl) (fun _ _ _ h => h) (.inl ⟨by rfl, ?hyb32⟩) (by assumption) ?restb32
        case hyb32 => (intro w hSw; (try dsimp only at hSw); go_simp; first | done | with_reducible rfl)
        (try simp only [Act.put, List.setIfInBounds_toArray, List.set_cons_zero, List.set_cons_succ, List.getElem_toArray, List.getElem_cons_zero, List.getElem_cons_succ])
        refine wpAnyH_take (i := 3) (v := ?vb33) rfl (by kernel_rfl) (by kernel_rfl) (by kernel_rfl) (fun _ _ _ h => h) (.inl ⟨by rfl, ?hyb33⟩) (by assumption) ?restb33
        case hyb33 => (intro w hSw; (try dsimp only at hSw); go_simp; first | done | with_reducible rfl)
        (try simp only [Act.put, List.setIfInBounds_toArray, List.set_cons_zero, List.set_cons_succ, List.getElem_toArray, List.getElem_cons_zero, List.getElem_cons_succ])
        refine wpAnyH_ready (rs := [2]) (by kernel_rfl) (by simp) ?_
        refine AllReadyH.cons rfl (fun K hK => ?_) AllReadyH.nil
        rw [if_pos (by rfl)]
        go_simp
        refine (bK.out _ hst9.cells.2.2.2.1).mono ?_
        rintro e w10 ⟨y4, f4, rfl, hv4, -, hf4, hb10⟩
        have hst10 := hst9.below hb10
        have hy4 := hv4.one
        have hm4 : m ∉ f4 := fun e => by (have h1 := hf4 m e; have h2 := hst9.cells.2.2.2.2.2.2.2; omega)
        have hv4H := Lib.hid hv4
        clear hv4
        refine hK.out _ _ ?_ (fun hHeldN => ?_)
        · exact ⟨(hst10).cells.1 0, (hst10).cells.1 1, (hst10).cells.1 2, (hst10).cells.1 3, (hst10).cells.1 4, (hst10).cells.1 5, (hst10).cells.1 6, (hst10).cells.1 7, (hst10).cells.1 8, (hst10).cells.1 9, (hst10).cells.1 10, (hst10).cells.2.2.1 0, (hst10).cells.2.2.1 1, (hst10).cells.2.2.1 2, (hst10).cells.2.2.1 3, (hst10).cells.2.2.1 4, (hst10).cells.2.2.1 5, (hst10).cells.2.2.1 6, (hst10).cells.2.2.1 7, (hst10).cells.2.2.1 8, (hst10).cells.2.2.1 9, (hst10).cells.2.2.1 10⟩
        clear hK K hHeld
        have hHeld := hHeldN
        clear hHeldN
        (try simp only [Act.put, List.setIfInBounds_toArray, List.set_cons_zero, List.set_cons_succ, List.getElem_toArray, List.getElem_cons_zero, List.getElem_cons_succ])
        refine wpAnyH_ready (rs := [4]) (by kernel_rfl) (by simp) ?_
        refine AllReadyH.cons rfl (fun K hK => ?_) AllReadyH.nil
        rw [if_pos (by rfl)]
        go_simp
        refine (bQ.out _ hst10.cells.2.2.2.1).mono ?_
        rintro e w11 ⟨y5, f5, rfl, hv5, -, hf5, hb11⟩
        have hst11 := hst10.below hb11
        have hy5 := hv5.one
        have hm5 : m ∉ f5 := fun e => by (have h1 := hf5 m e; have h2 := hst10.cells.2.2.2.2.2.2.2; omega)
        have hput := Lib.hid (put_main hst11 (VRep.but hv4H.out (below_but0 hb11) (fun _ _ f => f)) nK hv5 hm4 hm5)
        clear hv5 hv4H
        refine hK.out _ _ ?_ (fun hHeldN => ?_)
        · exact ⟨(hst11).cells.1 0, (hst11).cells.1 1, (hst11).cells.1 2, (hst11).cells.1 3, (hst11).cells.1 4, (hst11).cells.1 5, (hst11).cells.1 6, (hst11).cells.1 7, (hst11).cells.1 8, (hst11).cells.1 9, (hst11).cells.1 10, (hst11).cells.2.2.1 0, (hst11).cells.2.2.1 1, (hst11).cells.2.2.1 2, (hst11).cells.2.2.1 3, (hst11).cells.2.2.1 4, (hst11).cells.2.2.1 5, (hst11).cells.2.2.1 6, (hst11).cells.2.2.1 7, (hst11).cells.2.2.1 8, (hst11).cells.2.2.1 9, (hst11).cells.2.2.1 10⟩
        clear hK K hHeld
        have hHeld := hHeldN
        clear hHeldN
        (try simp only [Act.put, List.setIfInBounds_toArray, List.set_cons_zero, List.set_cons_succ, List.getElem_toArray, List.getElem_cons_zero, List.getElem_cons_succ])
        refine wpAnyH_ready (rs := [5]) (by kernel_rfl) (by simp) ?_
        refine AllReadyH.cons rfl (fun K hK => ?_) AllReadyH.nil
        rw [if_pos (by rfl)]
        go_simp
        refine hput.out.mono ?_
        rintro e w12 h5
        obtain ⟨cc2, B2, ec2, s2, rfl, hcc2, hs2, hst12⟩ := put_first h5
        clear h5 hput hst9 hst10 hst11
        refine hK.out _ _ ?_ (fun hHeldN => ?_)
        · exact ⟨(hst12).cells.1 0, (hst12).cells.1 1, (hst12).cells.1 2, (hst12).cells.1 3, (hst12).cells.1 4, (hst12).cells.1 5, (hst12).cells.1 6, (hst12).cells.1 7, (hst12).cells.1 8, (hst12).cells.1 9, (hst12).cells.1 10, (hst12).cells.2.2.1 0, (hst12).cells.2.2.1 1, (hst12).cells.2.2.1 2, (hst12).cells.2.2.1 3, (hst12).cells.2.2.1 4, (hst12).cells.2.2.1 5, (hst12).cells.2.2.1 6, (hst12).cells.2.2.1 7, (hst12).cells.2.2.1 8, (hst12).cells.2.2.1 9, (hst12).cells.2.2.1 10⟩
        clear hK K hHeld
        have hHeld := hHeldN
        clear hHeldN
        (try simp only [Act.put, List.setIfInBounds_toArray, List.set_cons_zero, List.set_cons_succ, List.getElem_toArray, List.getElem_cons_zero, List.getElem_cons_succ])
        refine wpAnyH_take (i := 6) (v := ?vb34) rfl (by kernel_rfl) (by kernel_rfl) (by kernel_rfl) (fun _ _ _ h => h) (.inl ⟨by rfl, ?hyb34⟩) (by assumption) ?restb34
        case hyb34 => (intro w hSw; (try dsimp only at hSw); go_simp; first | done | with_reducible rfl)
        (try simp only [Act.put, List.setIfInBounds_toArray, List.set_cons_zero, List.set_cons_succ, List.getElem_toArray, List.getElem_cons_zero, List.getElem_cons_succ])
        refine wpAnyH_take (i := 7) (v := ?vb35) rfl (by kernel_rfl) (by kernel_rfl) (by kernel_rfl) (fun _ _ _ h => h) (.inl ⟨by rfl, ?hyb35⟩) (by assumption) ?restb35
        case hyb35 => (intro w hSw; (try dsimp only at hSw); go_simp; first | done | with_reducible rfl)
        (try simp only [Act.put, List.setIfInBounds_toArray, List.set_cons_zero, List.set_cons_succ, List.getElem_toArray, List.getElem_cons_zero, List.getElem_cons_succ])
        refine wpAnyH_take (i := 8) (v := ?vb36) rfl (by kernel_rfl) (by kernel_rfl) (by kernel_rfl) (fun _ _ _ h => h) (.inl ⟨by rfl, ?hyb36⟩) (by assumption) ?restb36
        case hyb36 => (intro w hSw; (try dsimp only at hSw); go_simp; first | done | with_reducible rfl)
        (try simp only [Act.put, List.setIfInBounds_toArray, List.set_cons_zero, List.set_cons_succ, List.getElem_toArray, List.getElem_cons_zero, List.getElem_cons_succ])
        refine wpAnyH_take (i := 9) (v := ?vb37) rfl (by kernel_rfl) (by kernel_rfl) (by kernel_rfl) (fun _ _ _ h => h) (.inl ⟨by rfl, ?hyb37⟩) (by assumption) ?restb37
        case hyb37 => (intro w hSw; (try dsimp only at hSw); go_simp; first | done | with_reducible rfl)
        (try simp only [Act.put, List.setIfInBounds_toArray, List.set_cons_zero, List.set_cons_succ, List.getElem_toArray, List.getElem_cons_zero, List.getElem_cons_succ])
        refine wpAnyH_take (i := 10) (v := ?vb38) rfl (by kernel_rfl) (by kernel_rfl) (by kernel_rfl) (fun _ _ _ h => h) (.inl ⟨by rfl, ?hyb38⟩) (by assumption) ?restb38
        case hyb38 => (intro w hSw; (try dsimp only at hSw); go_simp; first | done | with_reducible rfl)
        (try simp only [Act.put, List.setIfInBounds_toArray, List.set_cons_zero, List.set_cons_succ, List.getElem_toArray, List.getElem_cons_zero, List.getElem_cons_succ])
        refine wpAnyH_take (i := 11) (v := ?vb39) rfl (by kernel_rfl) (by kernel_rfl) (by kernel_rfl) (fun _ _ _ h => h) (.inl ⟨by rfl, ?hyb39⟩) (by assumption) ?restb39
        case hyb39 => (intro w hSw; (try dsimp only at hSw); go_simp; first | done | with_reducible rfl)
        (try simp only [Act.put, List.setIfInBounds_toArray, List.set_cons_zero, List.set_cons_succ, List.getElem_toArray, List.getElem_cons_zero, List.getElem_cons_succ])
        refine wpAnyH_take (i := 12) (v := ?vb310) rfl (by kernel_rfl) (by kernel_rfl) (by kernel_rfl) (fun _ _ _ h => h) (.inl ⟨by rfl, ?hyb310⟩) (by assumption) ?restb310
        case hyb310 => (intro w hSw; (try dsimp only at hSw); go_simp; first | done | with_reducible rfl)
        (try simp only [Act.put, List.setIfInBounds_toArray, List.set_cons_zero, List.set_cons_succ, List.getElem_toArray, List.getElem_cons_zero, List.getElem_cons_succ])
        refine wpAnyH_done (by kernel_rfl) ?_ _
        clear hHeld
        go_wp2_with fail
        go_loopw [17] (fun i wr => ∃ (z : Int) (k : Nat), k ≤ ls.length ∧ i = .int .i64 z ∧ z = (k : Int) - 1 ∧ LastInv w wr w.heap.size b7 b8 m #[c0, c1, c2, c3, c4, c5, c6, c7, c8, c9, c10] #[p0, p1, p2, p3, p4, p5, p6, p7, p8, p9, p10] #[q0, q1, q2, q3, q4, q5, q6, q7, q8, q9, q10] (builtV t) (ls.map builtV) k s2) (fun i _ => (intOf i + 1).toNat)
        case atStart => exact ⟨_, ls.length, Nat.le_refl _, rfl, by go_num, hst12⟩
        case round =>
          obtain ⟨z, n, hn, rfl, hz, hst13⟩ := hrel
          clear hst12
          cases n with
          | succ k =>
            have hlt : k < ls.length := hn
            obtain rfl : z = (k : Int) := by omega
            clear hz
            have hlti : (k : Int) < (ls.length : Int) := by omega
            obtain ⟨eb, eo, rfl, hec⟩ := hformH.out (by omega)
            obtain ⟨u, hu⟩ : ∃ u, ls[k]? = some u := ⟨_, List.getElem?_eq_getElem hlt⟩
            have hu' : (ls.map builtV)[k]? = some (builtV u) := by rw [List.getElem?_map, hu]; rfl
            obtain ⟨es, htu, ee⟩ := hdatH.out k u hu
            have hne := nums_built u es htu
            have hcell : ∀ j, j < 11 → w.cell? ⟨eb, eo + k * 11 + j, none⟩ = es[j]? := fun j hj => by (have h1 := hec (k * 11 + j) (by omega); rw [ee j hj, ← Nat.add_assoc] at h1; exact h1)
            have oe1 := TRep.ones htu
            obtain ⟨e0, e1, e2, e3, e4, e5, e6, e7, e8, e9, e10, rfl⟩ := eleven (TRep.len htu)
            have g0 := hcell 0 (by omega)
            have g1 := hcell 1 (by omega)
            have g2 := hcell 2 (by omega)
            have g3 := hcell 3 (by omega)
            have g4 := hcell 4 (by omega)
            have g5 := hcell 5 (by omega)
            have g6 := hcell 6 (by omega)
            have g7 := hcell 7 (by omega)
            have g8 := hcell 8 (by omega)
            have g9 := hcell 9 (by omega)
            have g10 := hcell 10 (by omega)
            simp only [List.getElem?_cons_zero, List.getElem?_cons_succ, Nat.add_zero] at g0 g1 g2 g3 g4 g5 g6 g7 g8 g9 g10
            have bE := Lib.hid (fun W (hb : Below w.heap.size w W) => built_any u _ W (TRep.keep (keeps_of_below hb) u _ htu))
            have sE := Lib.hid (fun W (hb : Below w.heap.size w W) => sameV_said u t _ _ W (TRep.keep (keeps_of_below hb) u _ htu) (TRep.keep (keeps_of_below hb) t _ hkH.out))
            have hE := Lib.hid (fun W (hb : Below w.heap.size w W) => (⟨keeps_of_below hb _ _ g0, keeps_of_below hb _ _ g1, keeps_of_below hb _ _ g2, keeps_of_below hb _ _ g3, keeps_of_below hb _ _ g4, keeps_of_below hb _ _ g5, keeps_of_below hb _ _ g6, keeps_of_below hb _ _ g7, keeps_of_below hb _ _ g8, keeps_of_below hb _ _ g9, keeps_of_below hb _ _ g10⟩ : W.cell? ⟨eb, eo + k * 11, none⟩ = some e0 ∧ W.cell? ⟨eb, eo + k * 11 + 1, none⟩ = some e1 ∧ W.cell? ⟨eb, eo + k * 11 + 2, none⟩ = some e2 ∧ W.cell? ⟨eb, eo + k * 11 + 3, none⟩ = some e3 ∧ W.cell? ⟨eb, eo + k * 11 + 4, none⟩ = some e4 ∧ W.cell? ⟨eb, eo + k * 11 + 5, none⟩ = some e5 ∧ W.cell? ⟨eb, eo + k * 11 + 6, none⟩ = some e6 ∧ W.cell? ⟨eb, eo + k * 11 + 7, none⟩ = some e7 ∧ W.cell? ⟨eb, eo + k * 11 + 8, none⟩ = some e8 ∧ W.cell? ⟨eb, eo + k * 11 + 9, none⟩ = some e9 ∧ W.cell? ⟨eb, eo + k * 11 + 10, none⟩ = some e10))
            clear hec hcell ee htu g0 g1 g2 g3 g4 g5 g6 g7 g8 g9 g10
            go_wp2_with fail
            have hst13d := hst13.below (Below.refl _ _).drew
            clear hst13
            refine wp_region_held_drew (S := (fun w' => w'.cell? ⟨w.heap.size, 0, none⟩ = some c0 ∧ w'.cell? ⟨w.heap.size, 1, none⟩ = some c1 ∧ w'.cell? ⟨w.heap.size, 2, none⟩ = some c2 ∧ w'.cell? ⟨w.heap.size, 3, none⟩ = some c3 ∧ w'.cell? ⟨w.heap.size, 4, none⟩ = some c4 ∧ w'.cell? ⟨w.heap.size, 5, none⟩ = some c5 ∧ w'.cell? ⟨w.heap.size, 6, none⟩ = some c6 ∧ w'.cell? ⟨w.heap.size, 7, none⟩ = some c7 ∧ w'.cell? ⟨w.heap.size, 8, none⟩ = some c8 ∧ w'.cell? ⟨w.heap.size, 9, none⟩ = some c9 ∧ w'.cell? ⟨w.heap.size, 10, none⟩ = some c10 ∧ w'.cell? ⟨eb, eo + k * 11, none⟩ = some e0 ∧ w'.cell? ⟨eb, eo + k * 11 + 1, none⟩ = some e1 ∧ w'.cell? ⟨eb, eo + k * 11 + 2, none⟩ = some e2 ∧ w'.cell? ⟨eb, eo + k * 11 + 3, none⟩ = some e3 ∧ w'.cell? ⟨eb, eo + k * 11 + 4, none⟩ = some e4 ∧ w'.cell? ⟨eb, eo + k * 11 + 5, none⟩ = some e5 ∧ w'.cell? ⟨eb, eo + k * 11 + 6, none⟩ = some e6 ∧ w'.cell? ⟨eb, eo + k * 11 + 7, none⟩ = some e7 ∧ w'.cell? ⟨eb, eo + k * 11 + 8, none⟩ = some e8 ∧ w'.cell? ⟨eb, eo + k * 11 + 9, none⟩ = some e9 ∧ w'.cell? ⟨eb, eo + k * 11 + 10, none⟩ = some e10)) (by kernel_rfl) (⟨(hst13d).cells.1 0, (hst13d).cells.1 1, (hst13d).cells.1 2, (hst13d).cells.1 3, (hst13d).cells.1 4, (hst13d).cells.1 5, (hst13d).cells.1 6, (hst13d).cells.1 7, (hst13d).cells.1 8, (hst13d).cells.1 9, (hst13d).cells.1 10, hE.out _ (hst13d).cells.2.2.2.1⟩) (fun hHeld => ?_)
            refine wpAnyH_take (i := 0) (v := ?vb41) rfl (by kernel_rfl) (by kernel_rfl) (by kernel_rfl) (fun _ _ _ h => h) (.inl ⟨by rfl, ?hyb41⟩) (by assumption) ?restb41
            case hyb41 => (intro w hSw; (try dsimp only at hSw); go_simp; first | done | with_reducible rfl)
            (try simp only [Act.put, List.setIfInBounds_toArray, List.set_cons_zero, List.set_cons_succ, List.getElem_toArray, List.getElem_cons_zero, List.getElem_cons_succ])
            refine wpAnyH_take (i := 1) (v := ?vb42) rfl (by kernel_rfl) (by kernel_rfl) (by kernel_rfl) (fun _ _ _ h => h) (.inl ⟨by rfl, ?hyb42⟩) (by assumption) ?restb42
            case hyb42 => (intro w hSw; (try dsimp only at hSw); go_simp; first | done | with_reducible rfl)
            (try simp only [Act.put, List.setIfInBounds_toArray, List.set_cons_zero, List.set_cons_succ, List.getElem_toArray, List.getElem_cons_zero, List.getElem_cons_succ])
            refine wpAnyH_take (i := 2) (v := ?vb43) rfl (by kernel_rfl) (by kernel_rfl) (by kernel_rfl) (fun _ _ _ h => h) (.inl ⟨by rfl, ?hyb43⟩) (by assumption) ?restb43
            case hyb43 => (intro w hSw; (try dsimp only at hSw); go_simp; first | done | with_reducible rfl)
            (try simp only [Act.put, List.setIfInBounds_toArray, List.set_cons_zero, List.set_cons_succ, List.getElem_toArray, List.getElem_cons_zero, List.getElem_cons_succ])
            refine wpAnyH_take (i := 3) (v := ?vb44) rfl (by kernel_rfl) (by kernel_rfl) (by kernel_rfl) (fun _ _ _ h => h) (.inl ⟨by rfl, ?hyb44⟩) (by assumption) ?restb44
            case hyb44 => (intro w hSw; (try dsimp only at hSw); go_simp; first | done | with_reducible rfl)
            (try simp only [Act.put, List.setIfInBounds_toArray, List.set_cons_zero, List.set_cons_succ, List.getElem_toArray, List.getElem_cons_zero, List.getElem_cons_succ])
            refine wpAnyH_take (i := 4) (v := ?vb45) rfl (by kernel_rfl) (by kernel_rfl) (by kernel_rfl) (fun _ _ _ h => h) (.inl ⟨by rfl, ?hyb45⟩) (by assumption) ?restb45
            case hyb45 => (intro w hSw; (try dsimp only at hSw); go_simp; first | done | with_reducible rfl)
            (try simp only [Act.put, List.setIfInBounds_toArray, List.set_cons_zero, List.set_cons_succ, List.getElem_toArray, List.getElem_cons_zero, List.getElem_cons_succ])
            refine wpAnyH_ready (rs := [5]) (by kernel_rfl) (by simp) ?_
            refine AllReadyH.cons rfl (fun K hK => ?_) AllReadyH.nil
            rw [if_pos (by rfl)]
            go_simp
            refine (sE.out _ hst13d.cells.2.2.2.1).mono ?_
            rintro e w7 ⟨r, rfl, hr, hb7⟩
            have hst7 := hst13d.below hb7
            refine hK.out _ _ ?_ (fun hHeldN => ?_)
            · exact ⟨(hst7).cells.1 0, (hst7).cells.1 1, (hst7).cells.1 2, (hst7).cells.1 3, (hst7).cells.1 4, (hst7).cells.1 5, (hst7).cells.1 6, (hst7).cells.1 7, (hst7).cells.1 8, (hst7).cells.1 9, (hst7).cells.1 10, hE.out _ (hst7).cells.2.2.2.1⟩
            clear hK K hHeld
            have hHeld := hHeldN
            clear hHeldN
            (try simp only [Act.put, List.setIfInBounds_toArray, List.set_cons_zero, List.set_cons_succ, List.getElem_toArray, List.getElem_cons_zero, List.getElem_cons_succ])
            refine wpAnyH_take (i := 6) (v := ?vb46) rfl (by kernel_rfl) (by kernel_rfl) (by kernel_rfl) (fun _ _ _ h => h) (.inl ⟨by rfl, ?hyb46⟩) (by assumption) ?restb46
            case hyb46 => (intro w hSw; (try dsimp only at hSw); go_simp; first | done | with_reducible rfl)
            (try simp only [Act.put, List.setIfInBounds_toArray, List.set_cons_zero, List.set_cons_succ, List.getElem_toArray, List.getElem_cons_zero, List.getElem_cons_succ])
            refine wpAnyH_done (by kernel_rfl) ?_ _
            cases r with
            | true =>
              have hsame := (hr.1 rfl).2.2
              go_wp2_with fail
              go_roundw
              case rel => exact ⟨_, k, by omega, rfl, by go_num, hst7.skip_back (hsame ▸ hu')⟩
              case measure => first | (simp [intOf]; done) | (simp [intOf]; omega)
            | false =>
              have hnot := Lib.hid (show ¬ (okB (builtV u) = true ∧ okB (builtV t) = true ∧ builtV u = builtV t) from fun h => absurd (hr.2 h) (by decide))
              have hE7 := hE.out _ hst7.cells.2.2.2.1
              clear hr
              go_wp2_with fail
              refine (bE.out _ hst7.cells.2.2.2.1).mono ?_
              rintro e w8 ⟨y3, f3, rfl, hv3, -, hf3, hb8⟩
              have hst8 := hst7.below hb8
              have hy3 := hv3.one
              have hdel := Lib.hid (del_other hst8 hu' hnot.out hv3 hne nK)
              clear hv3 hst13d hE7
              go_wp2_with fail
              refine hdel.out.mono ?_
              rintro e w9 ⟨cc9, B9, rfl, hcc9, hst9⟩
              clear hst7 hst8 hdel
              go_wp2_with fail
              go_roundw
              case rel => exact ⟨_, k, by omega, rfl, by go_num, hst9⟩
              case measure => first | (simp [intOf]; done) | (simp [intOf]; omega)
            
          | zero =>
            have hzn : ¬ ((0 : Int) ≤ z) := by omega
            clear hz hn
            have hC13 : wr.cell? ⟨w.heap.size, 0, none⟩ = some c0 ∧ wr.cell? ⟨w.heap.size, 1, none⟩ = some c1 ∧ wr.cell? ⟨w.heap.size, 2, none⟩ = some c2 ∧ wr.cell? ⟨w.heap.size, 3, none⟩ = some c3 ∧ wr.cell? ⟨w.heap.size, 4, none⟩ = some c4 ∧ wr.cell? ⟨w.heap.size, 5, none⟩ = some c5 ∧ wr.cell? ⟨w.heap.size, 6, none⟩ = some c6 ∧ wr.cell? ⟨w.heap.size, 7, none⟩ = some c7 ∧ wr.cell? ⟨w.heap.size, 8, none⟩ = some c8 ∧ wr.cell? ⟨w.heap.size, 9, none⟩ = some c9 ∧ wr.cell? ⟨w.heap.size, 10, none⟩ = some c10 := ⟨(hst13).cells.1 0, (hst13).cells.1 1, (hst13).cells.1 2, (hst13).cells.1 3, (hst13).cells.1 4, (hst13).cells.1 5, (hst13).cells.1 6, (hst13).cells.1 7, (hst13).cells.1 8, (hst13).cells.1 9, (hst13).cells.1 10⟩
            go_wp2_with fail
            clear hC13
            refine (bK.out _ hst13.cells.2.2.2.1).mono ?_
            rintro e w14 ⟨y6, f6, rfl, hv6, -, -, hb14⟩
            have hst14 := hst13.below hb14
            have hy6 := hv6.one
            have hget := Lib.hid (get_main hst14 hv6 nK)
            clear hv6 hst13
            go_wp2_with fail
            refine hget.out.mono ?_
            rintro e w15 ⟨y7, g7, rfl, hv7, -, hst15⟩
            have hy7 := hv7.one
            have hv7H := Lib.hid hv7
            clear hv7 hst14 hget hzn
            rcases hs1 with ⟨rfl, -, rfl⟩ | ⟨he1, rfl⟩
            · rcases hs2 with ⟨rfl, hB2, rfl⟩ | ⟨he2, rfl⟩
              · obtain rfl : B2 = true := hB2
                have hC15 : w15.cell? ⟨b8, 0, none⟩ = some q0 ∧ w15.cell? ⟨b8, 1, none⟩ = some q1 ∧ w15.cell? ⟨b8, 2, none⟩ = some q2 ∧ w15.cell? ⟨b8, 3, none⟩ = some q3 ∧ w15.cell? ⟨b8, 4, none⟩ = some q4 ∧ w15.cell? ⟨b8, 5, none⟩ = some q5 ∧ w15.cell? ⟨b8, 6, none⟩ = some q6 ∧ w15.cell? ⟨b8, 7, none⟩ = some q7 ∧ w15.cell? ⟨b8, 8, none⟩ = some q8 ∧ w15.cell? ⟨b8, 9, none⟩ = some q9 ∧ w15.cell? ⟨b8, 10, none⟩ = some q10 := ⟨(hst15).cells.2.2.1 0, (hst15).cells.2.2.1 1, (hst15).cells.2.2.1 2, (hst15).cells.2.2.1 3, (hst15).cells.2.2.1 4, (hst15).cells.2.2.1 5, (hst15).cells.2.2.1 6, (hst15).cells.2.2.1 7, (hst15).cells.2.2.1 8, (hst15).cells.2.2.1 9, (hst15).cells.2.2.1 10⟩
                have hok := hst15.ok
                have his0 := Is_said (plain_any _) hv7H.out (small_built q _ hqH.out) (TRep.keep (keeps_of_below hst15.cells.2.2.2.1) q _ hqH.out)
                have his1 : sameT (plainT ((some (builtV q)).getD .nil) 0) q = true := is_own hok
                rw [his1] at his0
                have his := Lib.hid his0
                clear his0 his1
                clear hv7H
                go_wp2_with fail
                clear hC15
                refine his.out.mono ?_
                rintro e w16 ⟨rfl, hb16⟩
                have hlen := Lib.hid (len_main (hst15.below hb16))
                have hbw16 := (hst15.below hb16).cells.2.2.2.1
                clear hst15 his
                go_wp2_with fail
                refine hlen.out.mono ?_
                rintro e w18 ⟨rfl, hb18⟩
                go_wp2
                go_ret
                exact ⟨rfl, hbw16.trans (below_le hb18 hbw16.size)⟩
              · have he2b : (ec2 != 0) = true := by simpa using he2
                by_cases h50 : ec2 = 50
                · subst h50
                  go_wp2
                  go_ret
                  exact ⟨rfl, hst15.cells.2.2.2.1⟩
                · have h50b : (ec2 == 50) = false := by simpa using h50
                  clear h50
                  have hC15 : w15.cell? ⟨b7, 0, none⟩ = some p0 ∧ w15.cell? ⟨b7, 1, none⟩ = some p1 ∧ w15.cell? ⟨b7, 2, none⟩ = some p2 ∧ w15.cell? ⟨b7, 3, none⟩ = some p3 ∧ w15.cell? ⟨b7, 4, none⟩ = some p4 ∧ w15.cell? ⟨b7, 5, none⟩ = some p5 ∧ w15.cell? ⟨b7, 6, none⟩ = some p6 ∧ w15.cell? ⟨b7, 7, none⟩ = some p7 ∧ w15.cell? ⟨b7, 8, none⟩ = some p8 ∧ w15.cell? ⟨b7, 9, none⟩ = some p9 ∧ w15.cell? ⟨b7, 10, none⟩ = some p10 := ⟨(hst15).cells.2.1 0, (hst15).cells.2.1 1, (hst15).cells.2.1 2, (hst15).cells.2.1 3, (hst15).cells.2.1 4, (hst15).cells.2.1 5, (hst15).cells.2.1 6, (hst15).cells.2.1 7, (hst15).cells.2.1 8, (hst15).cells.2.1 9, (hst15).cells.2.1 10⟩
                  have hok := hst15.ok
                  have his0 := Is_said (plain_any _) hv7H.out (small_built p _ hpH.out) (TRep.keep (keeps_of_below hst15.cells.2.2.2.1) p _ hpH.out)
                  have his1 : sameT (plainT ((some (builtV p)).getD .nil) 0) p = true := is_own hok
                  rw [his1] at his0
                  have his := Lib.hid his0
                  clear his0 his1
                  clear hv7H
                  go_wp2_with fail
                  clear hC15
                  refine his.out.mono ?_
                  rintro e w16 ⟨rfl, hb16⟩
                  have hlen := Lib.hid (len_main (hst15.below hb16))
                  have hbw16 := (hst15.below hb16).cells.2.2.2.1
                  clear hst15 his
                  go_wp2_with fail
                  refine hlen.out.mono ?_
                  rintro e w18 ⟨rfl, hb18⟩
                  go_wp2
                  go_ret
                  exact ⟨rfl, hbw16.trans (below_le hb18 hbw16.size)⟩
            · have he1b : (ec1 != 0) = true := by simpa using he1
              have he1c : (ec1 == 0) = false := by simpa using he1
              rcases hs2 with ⟨rfl, hB2, rfl⟩ | ⟨he2, rfl⟩
              · obtain rfl : B2 = false := hB2
                have hC15 : w15.cell? ⟨b8, 0, none⟩ = some q0 ∧ w15.cell? ⟨b8, 1, none⟩ = some q1 ∧ w15.cell? ⟨b8, 2, none⟩ = some q2 ∧ w15.cell? ⟨b8, 3, none⟩ = some q3 ∧ w15.cell? ⟨b8, 4, none⟩ = some q4 ∧ w15.cell? ⟨b8, 5, none⟩ = some q5 ∧ w15.cell? ⟨b8, 6, none⟩ = some q6 ∧ w15.cell? ⟨b8, 7, none⟩ = some q7 ∧ w15.cell? ⟨b8, 8, none⟩ = some q8 ∧ w15.cell? ⟨b8, 9, none⟩ = some q9 ∧ w15.cell? ⟨b8, 10, none⟩ = some q10 := ⟨(hst15).cells.2.2.1 0, (hst15).cells.2.2.1 1, (hst15).cells.2.2.1 2, (hst15).cells.2.2.1 3, (hst15).cells.2.2.1 4, (hst15).cells.2.2.1 5, (hst15).cells.2.2.1 6, (hst15).cells.2.2.1 7, (hst15).cells.2.2.1 8, (hst15).cells.2.2.1 9, (hst15).cells.2.2.1 10⟩
                have hok := hst15.ok
                have his0 := Is_said (plain_any _) hv7H.out (small_built q _ hqH.out) (TRep.keep (keeps_of_below hst15.cells.2.2.2.1) q _ hqH.out)
                have his1 : sameT (plainT ((some (builtV q)).getD .nil) 0) q = true := is_own hok
                rw [his1] at his0
                have his := Lib.hid his0
                clear his0 his1
                clear hv7H
                go_wp2_with fail
                clear hC15
                refine his.out.mono ?_
                rintro e w16 ⟨rfl, hb16⟩
                have hlen := Lib.hid (len_main (hst15.below hb16))
                have hbw16 := (hst15.below hb16).cells.2.2.2.1
                clear hst15 his
                go_wp2_with fail
                refine hlen.out.mono ?_
                rintro e w18 ⟨rfl, hb18⟩
                go_wp2
                go_ret
                exact ⟨rfl, hbw16.trans (below_le hb18 hbw16.size)⟩
              · have he2b : (ec2 != 0) = true := by simpa using he2
                have hm2 := map_new w15
                go_wp2_with fail
                refine (one_put hm2).mono ?_
                rintro e w16 ⟨rfl, hone16, hb16⟩
                have hone16H := Lib.hid hone16
                have hb1516 : Below w15.heap.size w15 w16 := ((Below.refl _ _).alloc (Nat.le_refl _) _).trans hb16
                clear hone16 hm2
                go_wp2_with fail
                refine (one_get hone16H.out).mono ?_
                rintro e w17 ⟨rfl, hb17⟩
                have hlen := Lib.hid (len_main (hst15.below (hb1516.trans (below_le hb17 hb1516.size))))
                have hbw17 := (hst15.below (hb1516.trans (below_le hb17 hb1516.size))).cells.2.2.2.1
                clear hst15
                go_wp2_with fail
                refine hlen.out.mono ?_
                rintro e w18 ⟨rfl, hb18⟩
                go_wp2
                go_ret
                exact ⟨rfl, hbw17.trans (below_le hb18 hbw17.size)⟩
        
    
  · rw [if_pos (by rfl)]
    go_simp
    refine hK.out _ _ ?_ (fun hHeldN => ?_)
    · exact (by simp [go_sem])
    clear hK K hHeld
    have hHeld := hHeldN
    clear hHeldN
    (try simp only [Act.put, List.setIfInBounds_toArray, List.set_cons_zero, List.set_cons_succ, List.getElem_toArray, List.getElem_cons_zero, List.getElem_cons_succ])
    refine wpAnyH_ready (rs := [4]) (by kernel_rfl) (by simp) ?_
    refine AllReadyH.cons rfl (fun K hK => ?_) AllReadyH.nil
    rw [if_pos (by rfl)]
    go_simp
    refine hK.out _ _ ?_ (fun hHeldN => ?_)
    · exact (by simp [go_sem])
    clear hK K hHeld
    have hHeld := hHeldN
    clear hHeldN
    (try simp only [Act.put, List.setIfInBounds_toArray, List.set_cons_zero, List.set_cons_succ, List.getElem_toArray, List.getElem_cons_zero, List.getElem_cons_succ])
    refine wpAnyH_ready (rs := [6]) (by kernel_rfl) (by simp) ?_
    refine AllReadyH.cons rfl (fun K hK => ?_) AllReadyH.nil
    rw [if_pos (by rfl)]
    go_simp
    refine hK.out _ _ ?_ (fun hHeldN => ?_)
    · exact (by simp [go_sem])
    clear hK K hHeld
    have hHeld := hHeldN
    clear hHeldN
    (try simp only [Act.put, List.setIfInBounds_toArray, List.set_cons_zero, List.set_cons_succ, List.getElem_toArray, List.getElem_cons_zero, List.getElem_cons_succ])
    refine wpAnyH_ready (rs := [7]) (by kernel_rfl) (by simp) ?_
    refine AllReadyH.cons rfl (fun K hK => ?_) AllReadyH.nil
    rw [if_pos (by rfl)]
    go_simp
    refine hK.out _ _ ?_ (fun hHeldN => ?_)
    · exact (by simp [go_sem])
    clear hK K hHeld
    have hHeld := hHeldN
    clear hHeldN
    (try simp only [Act.put, List.setIfInBounds_toArray, List.set_cons_zero, List.set_cons_succ, List.getElem_toArray, List.getElem_cons_zero, List.getElem_cons_succ])
    refine wpAnyH_done (by kernel_rfl) ?_ _
    obtain ⟨W1, hW1⟩ : ∃ W1, W1 = (((((w.alloc (.cells #[c0, c1, c2, c3, c4, c5, c6, c7, c8, c9, c10] 34)).alloc (.cells #[p0, p1, p2, p3, p4, p5, p6, p7, p8, p9, p10, q0, q1, q2, q3, q4, q5, q6, q7, q8, q9, q10] 119)).alloc (Obj.cells #[q0, q1, q2, q3, q4, q5, q6, q7, q8, q9, q10] 34)).alloc (Obj.cells #[p0, p1, p2, p3, p4, p5, p6, p7, p8, p9, p10] 34)).drew) := ⟨_, rfl⟩
    obtain ⟨b7, hb7⟩ : ∃ b7, b7 = w.heap.size + 1 + 1 + 1 := ⟨_, rfl⟩
    obtain ⟨b8, hb8⟩ : ∃ b8, b8 = w.heap.size + 1 + 1 := ⟨_, rfl⟩
    have h4 := four_blocks w (Obj.cells #[c0, c1, c2, c3, c4, c5, c6, c7, c8, c9, c10] 34) (Obj.cells #[p0, p1, p2, p3, p4, p5, p6, p7, p8, p9, p10, q0, q1, q2, q3, q4, q5, q6, q7, q8, q9, q10] 119) (Obj.cells #[q0, q1, q2, q3, q4, q5, q6, q7, q8, q9, q10] 34) (Obj.cells #[p0, p1, p2, p3, p4, p5, p6, p7, p8, p9, p10] 34)
    rw [← hW1] at h4
    obtain ⟨hbw1, hK1, g3, g4, hsz1⟩ := h4
    rw [← hb7] at g4
    rw [← hb8] at g3
    have hP1 := g4
    have hQ1 := g3
    rw [← hW1, ← hb7, ← hb8]
    have hlts : w.heap.size < W1.heap.size ∧ b7 < W1.heap.size ∧ b8 < W1.heap.size := by omega
    have hst0 := last_start (t := builtV t) (us := ls.map builtV) hbw1 hK1 hP1 hQ1
    clear hW1 hb7 hb8 hHeld g3 g4 hK1 hP1 hQ1 hsz1
    go_wp2_with fail
    obtain ⟨m, hm⟩ : ∃ m, m = W1.heap.size := ⟨_, rfl⟩
    obtain ⟨W2, hW2⟩ : ∃ W2, W2 = W1.alloc (Obj.cells #[Value.map none] 123) := ⟨_, rfl⟩
    rw [← hm, ← hW2] at hst0
    rw [← hW2, ← hm]
    clear hW2 hm hbw1 hlts
    have hst := hst0.below (Below.refl _ _).drew
    clear hst0
    refine wp_region_held_drew (S := (fun w' => w'.cell? ⟨w.heap.size, 0, none⟩ = some c0 ∧ w'.cell? ⟨w.heap.size, 1, none⟩ = some c1 ∧ w'.cell? ⟨w.heap.size, 2, none⟩ = some c2 ∧ w'.cell? ⟨w.heap.size, 3, none⟩ = some c3 ∧ w'.cell? ⟨w.heap.size, 4, none⟩ = some c4 ∧ w'.cell? ⟨w.heap.size, 5, none⟩ = some c5 ∧ w'.cell? ⟨w.heap.size, 6, none⟩ = some c6 ∧ w'.cell? ⟨w.heap.size, 7, none⟩ = some c7 ∧ w'.cell? ⟨w.heap.size, 8, none⟩ = some c8 ∧ w'.cell? ⟨w.heap.size, 9, none⟩ = some c9 ∧ w'.cell? ⟨w.heap.size, 10, none⟩ = some c10 ∧ w'.cell? ⟨b7, 0, none⟩ = some p0 ∧ w'.cell? ⟨b7, 1, none⟩ = some p1 ∧ w'.cell? ⟨b7, 2, none⟩ = some p2 ∧ w'.cell? ⟨b7, 3, none⟩ = some p3 ∧ w'.cell? ⟨b7, 4, none⟩ = some p4 ∧ w'.cell? ⟨b7, 5, none⟩ = some p5 ∧ w'.cell? ⟨b7, 6, none⟩ = some p6 ∧ w'.cell? ⟨b7, 7, none⟩ = some p7 ∧ w'.cell? ⟨b7, 8, none⟩ = some p8 ∧ w'.cell? ⟨b7, 9, none⟩ = some p9 ∧ w'.cell? ⟨b7, 10, none⟩ = some p10)) (by kernel_rfl) (⟨(hst).cells.1 0, (hst).cells.1 1, (hst).cells.1 2, (hst).cells.1 3, (hst).cells.1 4, (hst).cells.1 5, (hst).cells.1 6, (hst).cells.1 7, (hst).cells.1 8, (hst).cells.1 9, (hst).cells.1 10, (hst).cells.2.1 0, (hst).cells.2.1 1, (hst).cells.2.1 2, (hst).cells.2.1 3, (hst).cells.2.1 4, (hst).cells.2.1 5, (hst).cells.2.1 6, (hst).cells.2.1 7, (hst).cells.2.1 8, (hst).cells.2.1 9, (hst).cells.2.1 10⟩) (fun hHeld => ?_)
    refine wpAnyH_take (i := 0) (v := ?vb51) rfl (by kernel_rfl) (by kernel_rfl) (by kernel_rfl) (fun _ _ _ h => h) (.inl ⟨by rfl, ?hyb51⟩) (by assumption) ?restb51
    case hyb51 => (intro w hSw; (try dsimp only at hSw); go_simp; first | done | with_reducible rfl)
    (try simp only [Act.put, List.setIfInBounds_toArray, List.set_cons_zero, List.set_cons_succ, List.getElem_toArray, List.getElem_cons_zero, List.getElem_cons_succ])
    refine wpAnyH_take (i := 1) (v := ?vb52) rfl (by kernel_rfl) (by kernel_rfl) (by kernel_rfl) (fun _ _ _ h => h) (.inl ⟨by rfl, ?hyb52⟩) (by assumption) ?restb52
    case hyb52 => (intro w hSw; (try dsimp only at hSw); go_simp; first | done | with_reducible rfl)
    (try simp only [Act.put, List.setIfInBounds_toArray, List.set_cons_zero, List.set_cons_succ, List.getElem_toArray, List.getElem_cons_zero, List.getElem_cons_succ])
    refine wpAnyH_take (i := 3) (v := ?vb53) rfl (by kernel_rfl) (by kernel_rfl) (by kernel_rfl) (fun _ _ _ h => h) (.inl ⟨by rfl, ?hyb53⟩) (by assumption) ?restb53
    case hyb53 => (intro w hSw; (try dsimp only at hSw); go_simp; first | done | with_reducible rfl)
    (try simp only [Act.put, List.setIfInBounds_toArray, List.set_cons_zero, List.set_cons_succ, List.getElem_toArray, List.getElem_cons_zero, List.getElem_cons_succ])
    refine wpAnyH_ready (rs := [2]) (by kernel_rfl) (by simp) ?_
    refine AllReadyH.cons rfl (fun K hK => ?_) AllReadyH.nil
    rw [if_pos (by rfl)]
    go_simp
    refine (bK.out _ hst.cells.2.2.2.1).mono ?_
    rintro e w3 ⟨y1, f1, rfl, hv1, -, hf1, hb3⟩
    have hst3 := hst.below hb3
    have hy1 := hv1.one
    have hm1 : m ∉ f1 := fun e => by (have h1 := hf1 m e; have h2 := hst.cells.2.2.2.2.2.2.2; omega)
    have hv1H := Lib.hid hv1
    clear hv1
    refine hK.out _ _ ?_ (fun hHeldN => ?_)
    · exact ⟨(hst3).cells.1 0, (hst3).cells.1 1, (hst3).cells.1 2, (hst3).cells.1 3, (hst3).cells.1 4, (hst3).cells.1 5, (hst3).cells.1 6, (hst3).cells.1 7, (hst3).cells.1 8, (hst3).cells.1 9, (hst3).cells.1 10, (hst3).cells.2.1 0, (hst3).cells.2.1 1, (hst3).cells.2.1 2, (hst3).cells.2.1 3, (hst3).cells.2.1 4, (hst3).cells.2.1 5, (hst3).cells.2.1 6, (hst3).cells.2.1 7, (hst3).cells.2.1 8, (hst3).cells.2.1 9, (hst3).cells.2.1 10⟩
    clear hK K hHeld
    have hHeld := hHeldN
    clear hHeldN
    (try simp only [Act.put, List.setIfInBounds_toArray, List.set_cons_zero, List.set_cons_succ, List.getElem_toArray, List.getElem_cons_zero, List.getElem_cons_succ])
    refine wpAnyH_ready (rs := [4]) (by kernel_rfl) (by simp) ?_
    refine AllReadyH.cons rfl (fun K hK => ?_) AllReadyH.nil
    rw [if_pos (by rfl)]
    go_simp
    refine (bP.out _ hst3.cells.2.2.2.1).mono ?_
    rintro e w4 ⟨y2, f2, rfl, hv2, -, hf2, hb4⟩
    have hst4 := hst3.below hb4
    have hy2 := hv2.one
    have hm2 : m ∉ f2 := fun e => by (have h1 := hf2 m e; have h2 := hst3.cells.2.2.2.2.2.2.2; omega)
    have hput := Lib.hid (put_main hst4 (VRep.but hv1H.out (below_but0 hb4) (fun _ _ f => f)) nK hv2 hm1 hm2)
    clear hv2 hv1H
    refine hK.out _ _ ?_ (fun hHeldN => ?_)
    · exact ⟨(hst4).cells.1 0, (hst4).cells.1 1, (hst4).cells.1 2, (hst4).cells.1 3, (hst4).cells.1 4, (hst4).cells.1 5, (hst4).cells.1 6, (hst4).cells.1 7, (hst4).cells.1 8, (hst4).cells.1 9, (hst4).cells.1 10, (hst4).cells.2.1 0, (hst4).cells.2.1 1, (hst4).cells.2.1 2, (hst4).cells.2.1 3, (hst4).cells.2.1 4, (hst4).cells.2.1 5, (hst4).cells.2.1 6, (hst4).cells.2.1 7, (hst4).cells.2.1 8, (hst4).cells.2.1 9, (hst4).cells.2.1 10⟩
    clear hK K hHeld
    have hHeld := hHeldN
    clear hHeldN
    (try simp only [Act.put, List.setIfInBounds_toArray, List.set_cons_zero, List.set_cons_succ, List.getElem_toArray, List.getElem_cons_zero, List.getElem_cons_succ])
    refine wpAnyH_ready (rs := [5]) (by kernel_rfl) (by simp) ?_
    refine AllReadyH.cons rfl (fun K hK => ?_) AllReadyH.nil
    rw [if_pos (by rfl)]
    go_simp
    refine hput.out.mono ?_
    rintro e w5 h5
    obtain ⟨cc, B1, ec1, s1, rfl, hcc, hs1, hst5⟩ := put_first h5
    clear h5 hput hst hst3 hst4
    refine hK.out _ _ ?_ (fun hHeldN => ?_)
    · exact ⟨(hst5).cells.1 0, (hst5).cells.1 1, (hst5).cells.1 2, (hst5).cells.1 3, (hst5).cells.1 4, (hst5).cells.1 5, (hst5).cells.1 6, (hst5).cells.1 7, (hst5).cells.1 8, (hst5).cells.1 9, (hst5).cells.1 10, (hst5).cells.2.1 0, (hst5).cells.2.1 1, (hst5).cells.2.1 2, (hst5).cells.2.1 3, (hst5).cells.2.1 4, (hst5).cells.2.1 5, (hst5).cells.2.1 6, (hst5).cells.2.1 7, (hst5).cells.2.1 8, (hst5).cells.2.1 9, (hst5).cells.2.1 10⟩
    clear hK K hHeld
    have hHeld := hHeldN
    clear hHeldN
    (try simp only [Act.put, List.setIfInBounds_toArray, List.set_cons_zero, List.set_cons_succ, List.getElem_toArray, List.getElem_cons_zero, List.getElem_cons_succ])
    refine wpAnyH_take (i := 6) (v := ?vb54) rfl (by kernel_rfl) (by kernel_rfl) (by kernel_rfl) (fun _ _ _ h => h) (.inl ⟨by rfl, ?hyb54⟩) (by assumption) ?restb54
    case hyb54 => (intro w hSw; (try dsimp only at hSw); go_simp; first | done | with_reducible rfl)
    (try simp only [Act.put, List.setIfInBounds_toArray, List.set_cons_zero, List.set_cons_succ, List.getElem_toArray, List.getElem_cons_zero, List.getElem_cons_succ])
    refine wpAnyH_take (i := 7) (v := ?vb55) rfl (by kernel_rfl) (by kernel_rfl) (by kernel_rfl) (fun _ _ _ h => h) (.inl ⟨by rfl, ?hyb55⟩) (by assumption) ?restb55
    case hyb55 => (intro w hSw; (try dsimp only at hSw); go_simp; first | done | with_reducible rfl)
    (try simp only [Act.put, List.setIfInBounds_toArray, List.set_cons_zero, List.set_cons_succ, List.getElem_toArray, List.getElem_cons_zero, List.getElem_cons_succ])
    refine wpAnyH_take (i := 8) (v := ?vb56) rfl (by kernel_rfl) (by kernel_rfl) (by kernel_rfl) (fun _ _ _ h => h) (.inl ⟨by rfl, ?hyb56⟩) (by assumption) ?restb56
    case hyb56 => (intro w hSw; (try dsimp only at hSw); go_simp; first | done | with_reducible rfl)
    (try simp only [Act.put, List.setIfInBounds_toArray, List.set_cons_zero, List.set_cons_succ, List.getElem_toArray, List.getElem_cons_zero, List.getElem_cons_succ])
    refine wpAnyH_take (i := 9) (v := ?vb57) rfl (by kernel_rfl) (by kernel_rfl) (by kernel_rfl) (fun _ _ _ h => h) (.inl ⟨by rfl, ?hyb57⟩) (by assumption) ?restb57
    case hyb57 => (intro w hSw; (try dsimp only at hSw); go_simp; first | done | with_reducible rfl)
    (try simp only [Act.put, List.setIfInBounds_toArray, List.set_cons_zero, List.set_cons_succ, List.getElem_toArray, List.getElem_cons_zero, List.getElem_cons_succ])
    refine wpAnyH_take (i := 10) (v := ?vb58) rfl (by kernel_rfl) (by kernel_rfl) (by kernel_rfl) (fun _ _ _ h => h) (.inl ⟨by rfl, ?hyb58⟩) (by assumption) ?restb58
    case hyb58 => (intro w hSw; (try dsimp only at hSw); go_simp; first | done | with_reducible rfl)
    (try simp only [Act.put, List.setIfInBounds_toArray, List.set_cons_zero, List.set_cons_succ, List.getElem_toArray, List.getElem_cons_zero, List.getElem_cons_succ])
    refine wpAnyH_take (i := 11) (v := ?vb59) rfl (by kernel_rfl) (by kernel_rfl) (by kernel_rfl) (fun _ _ _ h => h) (.inl ⟨by rfl, ?hyb59⟩) (by assumption) ?restb59
    case hyb59 => (intro w hSw; (try dsimp only at hSw); go_simp; first | done | with_reducible rfl)
    (try simp only [Act.put, List.setIfInBounds_toArray, List.set_cons_zero, List.set_cons_succ, List.getElem_toArray, List.getElem_cons_zero, List.getElem_cons_succ])
    refine wpAnyH_take (i := 12) (v := ?vb510) rfl (by kernel_rfl) (by kernel_rfl) (by kernel_rfl) (fun _ _ _ h => h) (.inl ⟨by rfl, ?hyb510⟩) (by assumption) ?restb510
    case hyb510 => (intro w hSw; (try dsimp only at hSw); go_simp; first | done | with_reducible rfl)
    (try simp only [Act.put, List.setIfInBounds_toArray, List.set_cons_zero, List.set_cons_succ, List.getElem_toArray, List.getElem_cons_zero, List.getElem_cons_succ])
    refine wpAnyH_done (by kernel_rfl) ?_ _
    go_wp2_with fail
    go_loopw [13] (fun i wr => ∃ k : Nat, k ≤ ls.length ∧ i = .int .i64 k ∧ LastInv w wr w.heap.size b7 b8 m #[c0, c1, c2, c3, c4, c5, c6, c7, c8, c9, c10] #[p0, p1, p2, p3, p4, p5, p6, p7, p8, p9, p10] #[q0, q1, q2, q3, q4, q5, q6, q7, q8, q9, q10] (builtV t) (ls.map builtV) k s1) (fun i _ => ls.length - (intOf i).toNat)
    case atStart => exact ⟨0, Nat.zero_le _, rfl, hst5⟩
    case round =>
      obtain ⟨k, hk, rfl, hst6⟩ := hrel
      clear hst5
      by_cases hlt : k < ls.length
      · have hlti : (k : Int) < (ls.length : Int) := by omega
        obtain ⟨eb, eo, rfl, hec⟩ := hformH.out (by omega)
        obtain ⟨u, hu⟩ : ∃ u, ls[k]? = some u := ⟨_, List.getElem?_eq_getElem hlt⟩
        have hu' : (ls.map builtV)[k]? = some (builtV u) := by rw [List.getElem?_map, hu]; rfl
        obtain ⟨es, htu, ee⟩ := hdatH.out k u hu
        have hne := nums_built u es htu
        have hcell : ∀ j, j < 11 → w.cell? ⟨eb, eo + k * 11 + j, none⟩ = es[j]? := fun j hj => by (have h1 := hec (k * 11 + j) (by omega); rw [ee j hj, ← Nat.add_assoc] at h1; exact h1)
        have oe1 := TRep.ones htu
        obtain ⟨e0, e1, e2, e3, e4, e5, e6, e7, e8, e9, e10, rfl⟩ := eleven (TRep.len htu)
        have g0 := hcell 0 (by omega)
        have g1 := hcell 1 (by omega)
        have g2 := hcell 2 (by omega)
        have g3 := hcell 3 (by omega)
        have g4 := hcell 4 (by omega)
        have g5 := hcell 5 (by omega)
        have g6 := hcell 6 (by omega)
        have g7 := hcell 7 (by omega)
        have g8 := hcell 8 (by omega)
        have g9 := hcell 9 (by omega)
        have g10 := hcell 10 (by omega)
        simp only [List.getElem?_cons_zero, List.getElem?_cons_succ, Nat.add_zero] at g0 g1 g2 g3 g4 g5 g6 g7 g8 g9 g10
        have bE := Lib.hid (fun W (hb : Below w.heap.size w W) => built_any u _ W (TRep.keep (keeps_of_below hb) u _ htu))
        have sE := Lib.hid (fun W (hb : Below w.heap.size w W) => sameV_said u t _ _ W (TRep.keep (keeps_of_below hb) u _ htu) (TRep.keep (keeps_of_below hb) t _ hkH.out))
        have hE := Lib.hid (fun W (hb : Below w.heap.size w W) => (⟨keeps_of_below hb _ _ g0, keeps_of_below hb _ _ g1, keeps_of_below hb _ _ g2, keeps_of_below hb _ _ g3, keeps_of_below hb _ _ g4, keeps_of_below hb _ _ g5, keeps_of_below hb _ _ g6, keeps_of_below hb _ _ g7, keeps_of_below hb _ _ g8, keeps_of_below hb _ _ g9, keeps_of_below hb _ _ g10⟩ : W.cell? ⟨eb, eo + k * 11, none⟩ = some e0 ∧ W.cell? ⟨eb, eo + k * 11 + 1, none⟩ = some e1 ∧ W.cell? ⟨eb, eo + k * 11 + 2, none⟩ = some e2 ∧ W.cell? ⟨eb, eo + k * 11 + 3, none⟩ = some e3 ∧ W.cell? ⟨eb, eo + k * 11 + 4, none⟩ = some e4 ∧ W.cell? ⟨eb, eo + k * 11 + 5, none⟩ = some e5 ∧ W.cell? ⟨eb, eo + k * 11 + 6, none⟩ = some e6 ∧ W.cell? ⟨eb, eo + k * 11 + 7, none⟩ = some e7 ∧ W.cell? ⟨eb, eo + k * 11 + 8, none⟩ = some e8 ∧ W.cell? ⟨eb, eo + k * 11 + 9, none⟩ = some e9 ∧ W.cell? ⟨eb, eo + k * 11 + 10, none⟩ = some e10))
        clear hec hcell ee htu g0 g1 g2 g3 g4 g5 g6 g7 g8 g9 g10
        go_wp2_with fail
        have hst6d := hst6.below (Below.refl _ _).drew
        clear hst6
        refine wp_region_held_drew (S := (fun w' => w'.cell? ⟨w.heap.size, 0, none⟩ = some c0 ∧ w'.cell? ⟨w.heap.size, 1, none⟩ = some c1 ∧ w'.cell? ⟨w.heap.size, 2, none⟩ = some c2 ∧ w'.cell? ⟨w.heap.size, 3, none⟩ = some c3 ∧ w'.cell? ⟨w.heap.size, 4, none⟩ = some c4 ∧ w'.cell? ⟨w.heap.size, 5, none⟩ = some c5 ∧ w'.cell? ⟨w.heap.size, 6, none⟩ = some c6 ∧ w'.cell? ⟨w.heap.size, 7, none⟩ = some c7 ∧ w'.cell? ⟨w.heap.size, 8, none⟩ = some c8 ∧ w'.cell? ⟨w.heap.size, 9, none⟩ = some c9 ∧ w'.cell? ⟨w.heap.size, 10, none⟩ = some c10 ∧ w'.cell? ⟨eb, eo + k * 11, none⟩ = some e0 ∧ w'.cell? ⟨eb, eo + k * 11 + 1, none⟩ = some e1 ∧ w'.cell? ⟨eb, eo + k * 11 + 2, none⟩ = some e2 ∧ w'.cell? ⟨eb, eo + k * 11 + 3, none⟩ = some e3 ∧ w'.cell? ⟨eb, eo + k * 11 + 4, none⟩ = some e4 ∧ w'.cell? ⟨eb, eo + k * 11 + 5, none⟩ = some e5 ∧ w'.cell? ⟨eb, eo + k * 11 + 6, none⟩ = some e6 ∧ w'.cell? ⟨eb, eo + k * 11 + 7, none⟩ = some e7 ∧ w'.cell? ⟨eb, eo + k * 11 + 8, none⟩ = some e8 ∧ w'.cell? ⟨eb, eo + k * 11 + 9, none⟩ = some e9 ∧ w'.cell? ⟨eb, eo + k * 11 + 10, none⟩ = some e10)) (by kernel_rfl) (⟨(hst6d).cells.1 0, (hst6d).cells.1 1, (hst6d).cells.1 2, (hst6d).cells.1 3, (hst6d).cells.1 4, (hst6d).cells.1 5, (hst6d).cells.1 6, (hst6d).cells.1 7, (hst6d).cells.1 8, (hst6d).cells.1 9, (hst6d).cells.1 10, hE.out _ (hst6d).cells.2.2.2.1⟩) (fun hHeld => ?_)
        refine wpAnyH_take (i := 0) (v := ?vb61) rfl (by kernel_rfl) (by kernel_rfl) (by kernel_rfl) (fun _ _ _ h => h) (.inl ⟨by rfl, ?hyb61⟩) (by assumption) ?restb61
        case hyb61 => (intro w hSw; (try dsimp only at hSw); go_simp; first | done | with_reducible rfl)
        (try simp only [Act.put, List.setIfInBounds_toArray, List.set_cons_zero, List.set_cons_succ, List.getElem_toArray, List.getElem_cons_zero, List.getElem_cons_succ])
        refine wpAnyH_take (i := 1) (v := ?vb62) rfl (by kernel_rfl) (by kernel_rfl) (by kernel_rfl) (fun _ _ _ h => h) (.inl ⟨by rfl, ?hyb62⟩) (by assumption) ?restb62
        case hyb62 => (intro w hSw; (try dsimp only at hSw); go_simp; first | done | with_reducible rfl)
        (try simp only [Act.put, List.setIfInBounds_toArray, List.set_cons_zero, List.set_cons_succ, List.getElem_toArray, List.getElem_cons_zero, List.getElem_cons_succ])
        refine wpAnyH_take (i := 2) (v := ?vb63) rfl (by kernel_rfl) (by kernel_rfl) (by kernel_rfl) (fun _ _ _ h => h) (.inl ⟨by rfl, ?hyb63⟩) (by assumption) ?restb63
        case hyb63 => (intro w hSw; (try dsimp only at hSw); go_simp; first | done | with_reducible rfl)
        (try simp only [Act.put, List.setIfInBounds_toArray, List.set_cons_zero, List.set_cons_succ, List.getElem_toArray, List.getElem_cons_zero, List.getElem_cons_succ])
        refine wpAnyH_take (i := 3) (v := ?vb64) rfl (by kernel_rfl) (by kernel_rfl) (by kernel_rfl) (fun _ _ _ h => h) (.inl ⟨by rfl, ?hyb64⟩) (by assumption) ?restb64
        case hyb64 => (intro w hSw; (try dsimp only at hSw); go_simp; first | done | with_reducible rfl)
        (try simp only [Act.put, List.setIfInBounds_toArray, List.set_cons_zero, List.set_cons_succ, List.getElem_toArray, List.getElem_cons_zero, List.getElem_cons_succ])
        refine wpAnyH_take (i := 4) (v := ?vb65) rfl (by kernel_rfl) (by kernel_rfl) (by kernel_rfl) (fun _ _ _ h => h) (.inl ⟨by rfl, ?hyb65⟩) (by assumption) ?restb65
        case hyb65 => (intro w hSw; (try dsimp only at hSw); go_simp; first | done | with_reducible rfl)
        (try simp only [Act.put, List.setIfInBounds_toArray, List.set_cons_zero, List.set_cons_succ, List.getElem_toArray, List.getElem_cons_zero, List.getElem_cons_succ])
        refine wpAnyH_ready (rs := [5]) (by kernel_rfl) (by simp) ?_
        refine AllReadyH.cons rfl (fun K hK => ?_) AllReadyH.nil
        rw [if_pos (by rfl)]
        go_simp
        refine (sE.out _ hst6d.cells.2.2.2.1).mono ?_
        rintro e w7 ⟨r, rfl, hr, hb7⟩
        have hst7 := hst6d.below hb7
        refine hK.out _ _ ?_ (fun hHeldN => ?_)
        · exact ⟨(hst7).cells.1 0, (hst7).cells.1 1, (hst7).cells.1 2, (hst7).cells.1 3, (hst7).cells.1 4, (hst7).cells.1 5, (hst7).cells.1 6, (hst7).cells.1 7, (hst7).cells.1 8, (hst7).cells.1 9, (hst7).cells.1 10, hE.out _ (hst7).cells.2.2.2.1⟩
        clear hK K hHeld
        have hHeld := hHeldN
        clear hHeldN
        (try simp only [Act.put, List.setIfInBounds_toArray, List.set_cons_zero, List.set_cons_succ, List.getElem_toArray, List.getElem_cons_zero, List.getElem_cons_succ])
        refine wpAnyH_take (i := 6) (v := ?vb66) rfl (by kernel_rfl) (by kernel_rfl) (by kernel_rfl) (fun _ _ _ h => h) (.inl ⟨by rfl, ?hyb66⟩) (by assumption) ?restb66
        case hyb66 => (intro w hSw; (try dsimp only at hSw); go_simp; first | done | with_reducible rfl)
        (try simp only [Act.put, List.setIfInBounds_toArray, List.set_cons_zero, List.set_cons_succ, List.getElem_toArray, List.getElem_cons_zero, List.getElem_cons_succ])
        refine wpAnyH_done (by kernel_rfl) ?_ _
        cases r with
        | true =>
          go_wp2_with fail
          go_roundw
          case rel => exact ⟨k + 1, by omega, by go_num, hst7.skip⟩
          case measure => first | (simp [intOf]; done) | (simp [intOf]; omega)
        | false =>
          have hnot := Lib.hid (show ¬ (okB (builtV u) = true ∧ okB (builtV t) = true ∧ builtV u = builtV t) from fun h => absurd (hr.2 h) (by decide))
          have hE7 := hE.out _ hst7.cells.2.2.2.1
          clear hr
          go_wp2_with fail
          refine (bE.out _ hst7.cells.2.2.2.1).mono ?_
          rintro e w8 ⟨y3, f3, rfl, hv3, -, hf3, hb8⟩
          have hst8 := hst7.below hb8
          have hy3 := hv3.one
          have hm3 : m ∉ f3 := fun e => by (have h1 := hf3 m e; have h2 := hst7.cells.2.2.2.2.2.2.2; omega)
          have hput := Lib.hid (put_other hst8 hu' hnot.out hv3 hne nK hm3)
          clear hv3 hst6d hE7
          go_wp2_with fail
          refine hput.out.mono ?_
          rintro e w9 ⟨cc9, B9, ec9, rfl, hcc9, hst9⟩
          clear hst7 hst8 hput
          go_wp2_with fail
          go_roundw
          case rel => exact ⟨k + 1, by omega, by go_num, hst9⟩
          case measure => first | (simp [intOf]; done) | (simp [intOf]; omega)
        
      · obtain rfl : k = ls.length := by omega
        clear hlt
        go_wp2_with fail
        have hst9 := hst6.below (Below.refl _ _).drew
        clear hst6
        refine wp_region_held_drew (S := (fun w' => w'.cell? ⟨w.heap.size, 0, none⟩ = some c0 ∧ w'.cell? ⟨w.heap.size, 1, none⟩ = some c1 ∧ w'.cell? ⟨w.heap.size, 2, none⟩ = some c2 ∧ w'.cell? ⟨w.heap.size, 3, none⟩ = some c3 ∧ w'.cell? ⟨w.heap.size, 4, none⟩ = some c4 ∧ w'.cell? ⟨w.heap.size, 5, none⟩ = some c5 ∧ w'.cell? ⟨w.heap.size, 6, none⟩ = some c6 ∧ w'.cell? ⟨w.heap.size, 7, none⟩ = some c7 ∧ w'.cell? ⟨w.heap.size, 8, none⟩ = some c8 ∧ w'.cell? ⟨w.heap.size, 9, none⟩ = some c9 ∧ w'.cell? ⟨w.heap.size, 10, none⟩ = some c10 ∧ w'.cell? ⟨b8, 0, none⟩ = some q0 ∧ w'.cell? ⟨b8, 1, none⟩ = some q1 ∧ w'.cell? ⟨b8, 2, none⟩ = some q2 ∧ w'.cell? ⟨b8, 3, none⟩ = some q3 ∧ w'.cell? ⟨b8, 4, none⟩ = some q4 ∧ w'.cell? ⟨b8, 5, none⟩ = some q5 ∧ w'.cell? ⟨b8, 6, none⟩ = some q6 ∧ w'.cell? ⟨b8, 7, none⟩ = some q7 ∧ w'.cell? ⟨b8, 8, none⟩ = some q8 ∧ w'.cell? ⟨b8, 9, none⟩ = some q9 ∧ w'.cell? ⟨b8, 10, none⟩ = some q10)) (by kernel_rfl) (⟨(hst9).cells.1 0, (hst9).cells.1 1, (hst9).cells.1 2, (hst9).cells.1 3, (hst9).cells.1 4, (hst9).cells.1 5, (hst9).cells.1 6, (hst9).cells.1 7, (hst9).cells.1 8, (hst9).cells.1 9, (hst9).cells.1 10, (hst9).cells.2.2.1 0, (hst9).cells.2.2.1 1, (hst9).cells.2.2.1 2, (hst9).cells.2.2.1 3, (hst9).cells.2.2.1 4, (hst9).cells.2.2.1 5, (hst9).cells.2.2.1 6, (hst9).cells.2.2.1 7, (hst9).cells.2.2.1 8, (hst9).cells.2.2.1 9, (hst9).cells.2.2.1 10⟩) (fun hHeld => ?_)
        refine wpAnyH_take (i := 0) (v := ?vb71) rfl (by kernel_rfl) (by kernel_rfl) (by kernel_rfl) (fun _ _ _ h => h) (.inl ⟨by rfl, ?hyb71⟩) (by assumption) ?restb71
        case hyb71 => (intro w hSw; (try dsimp only at hSw); go_simp; first | done | with_reducible rfl)
        (try simp only [Act.put, List.setIfInBounds_toArray, List.set_cons_zero, List.set_cons_succ, List.getElem_toArray, List.getElem_cons_zero, List.getElem_cons_succ])
        refine wpAnyH_take (i := 1) (v := ?vb72) rfl (by kernel_rfl) (by kernel_rfl) (by kernel_rfl) (fun _ _ _ h => h) (.inl ⟨by rfl, ?hyb72⟩) (by assumption) ?restb72
        case hyb72 => (intro w hSw; (try dsimp only at hSw); go_simp; first | done | with_reducible rfl)
        (try simp only [Act.put, List.setIfInBounds_toArray, List.set_cons_zero, List.set_cons_succ, List.getElem_toArray, List.getElem_cons_zero, List.getElem_cons_succ])
        refine wpAnyH_take (i := 3) (v := ?vb73) rfl (by kernel_rfl) (by kernel_rfl) (by kernel_rfl) (fun _ _ _ h => h) (.inl ⟨by rfl, ?hyb73⟩) (by assumption) ?restb73
        case hyb73 => (intro w hSw; (try dsimp only at hSw); go_simp; first | done | with_reducible rfl)
        (try simp only [Act.put, List.setIfInBounds_toArray, List.set_cons_zero, List.set_cons_succ, List.getElem_toArray, List.getElem_cons_zero, List.getElem_cons_succ])
        refine wpAnyH_ready (rs := [2]) (by kernel_rfl) (by simp) ?_
        refine AllReadyH.cons rfl (fun K hK => ?_) AllReadyH.nil
        rw [if_pos (by rfl)]
        go_simp
        refine (bK.out _ hst9.cells.2.2.2.1).mono ?_
        rintro e w10 ⟨y4, f4, rfl, hv4, -, hf4, hb10⟩
        have hst10 := hst9.below hb10
        have hy4 := hv4.one
        have hm4 : m ∉ f4 := fun e => by (have h1 := hf4 m e; have h2 := hst9.cells.2.2.2.2.2.2.2; omega)
        have hv4H := Lib.hid hv4
        clear hv4
        refine hK.out _ _ ?_ (fun hHeldN => ?_)
        · exact ⟨(hst10).cells.1 0, (hst10).cells.1 1, (hst10).cells.1 2, (hst10).cells.1 3, (hst10).cells.1 4, (hst10).cells.1 5, (hst10).cells.1 6, (hst10).cells.1 7, (hst10).cells.1 8, (hst10).cells.1 9, (hst10).cells.1 10, (hst10).cells.2.2.1 0, (hst10).cells.2.2.1 1, (hst10).cells.2.2.1 2, (hst10).cells.2.2.1 3, (hst10).cells.2.2.1 4, (hst10).cells.2.2.1 5, (hst10).cells.2.2.1 6, (hst10).cells.2.2.1 7, (hst10).cells.2.2.1 8, (hst10).cells.2.2.1 9, (hst10).cells.2.2.1 10⟩
        clear hK K hHeld
        have hHeld := hHeldN
        clear hHeldN
        (try simp only [Act.put, List.setIfInBounds_toArray, List.set_cons_zero, List.set_cons_succ, List.getElem_toArray, List.getElem_cons_zero, List.getElem_cons_succ])
        refine wpAnyH_ready (rs := [4]) (by kernel_rfl) (by simp) ?_
        refine AllReadyH.cons rfl (fun K hK => ?_) AllReadyH.nil
        rw [if_pos (by rfl)]
        go_simp
        refine (bQ.out _ hst10.cells.2.2.2.1).mono ?_
        rintro e w11 ⟨y5, f5, rfl, hv5, -, hf5, hb11⟩
        have hst11 := hst10.below hb11
        have hy5 := hv5.one
        have hm5 : m ∉ f5 := fun e => by (have h1 := hf5 m e; have h2 := hst10.cells.2.2.2.2.2.2.2; omega)
        have hput := Lib.hid (put_main hst11 (VRep.but hv4H.out (below_but0 hb11) (fun _ _ f => f)) nK hv5 hm4 hm5)
        clear hv5 hv4H
        refine hK.out _ _ ?_ (fun hHeldN => ?_)
        · exact ⟨(hst11).cells.1 0, (hst11).cells.1 1, (hst11).cells.1 2, (hst11).cells.1 3, (hst11).cells.1 4, (hst11).cells.1 5, (hst11).cells.1 6, (hst11).cells.1 7, (hst11).cells.1 8, (hst11).cells.1 9, (hst11).cells.1 10, (hst11).cells.2.2.1 0, (hst11).cells.2.2.1 1, (hst11).cells.2.2.1 2, (hst11).cells.2.2.1 3, (hst11).cells.2.2.1 4, (hst11).cells.2.2.1 5, (hst11).cells.2.2.1 6, (hst11).cells.2.2.1 7, (hst11).cells.2.2.1 8, (hst11).cells.2.2.1 9, (hst11).cells.2.2.1 10⟩
        clear hK K hHeld
        have hHeld := hHeldN
        clear hHeldN
        (try simp only [Act.put, List.setIfInBounds_toArray, List.set_cons_zero, List.set_cons_succ, List.getElem_toArray, List.getElem_cons_zero, List.getElem_cons_succ])
        refine wpAnyH_ready (rs := [5]) (by kernel_rfl) (by simp) ?_
        refine AllReadyH.cons rfl (fun K hK => ?_) AllReadyH.nil
        rw [if_pos (by rfl)]
        go_simp
        refine hput.out.mono ?_
        rintro e w12 h5
        obtain ⟨cc2, B2, ec2, s2, rfl, hcc2, hs2, hst12⟩ := put_first h5
        clear h5 hput hst9 hst10 hst11
        refine hK.out _ _ ?_ (fun hHeldN => ?_)
        · exact ⟨(hst12).cells.1 0, (hst12).cells.1 1, (hst12).cells.1 2, (hst12).cells.1 3, (hst12).cells.1 4, (hst12).cells.1 5, (hst12).cells.1 6, (hst12).cells.1 7, (hst12).cells.1 8, (hst12).cells.1 9, (hst12).cells.1 10, (hst12).cells.2.2.1 0, (hst12).cells.2.2.1 1, (hst12).cells.2.2.1 2, (hst12).cells.2.2.1 3, (hst12).cells.2.2.1 4, (hst12).cells.2.2.1 5, (hst12).cells.2.2.1 6, (hst12).cells.2.2.1 7, (hst12).cells.2.2.1 8, (hst12).cells.2.2.1 9, (hst12).cells.2.2.1 10⟩
        clear hK K hHeld
        have hHeld := hHeldN
        clear hHeldN
        (try simp only [Act.put, List.setIfInBounds_toArray, List.set_cons_zero, List.set_cons_succ, List.getElem_toArray, List.getElem_cons_zero, List.getElem_cons_succ])
        refine wpAnyH_take (i := 6) (v := ?vb74) rfl (by kernel_rfl) (by kernel_rfl) (by kernel_rfl) (fun _ _ _ h => h) (.inl ⟨by rfl, ?hyb74⟩) (by assumption) ?restb74
        case hyb74 => (intro w hSw; (try dsimp only at hSw); go_simp; first | done | with_reducible rfl)
        (try simp only [Act.put, List.setIfInBounds_toArray, List.set_cons_zero, List.set_cons_succ, List.getElem_toArray, List.getElem_cons_zero, List.getElem_cons_succ])
        refine wpAnyH_take (i := 7) (v := ?vb75) rfl (by kernel_rfl) (by kernel_rfl) (by kernel_rfl) (fun _ _ _ h => h) (.inl ⟨by rfl, ?hyb75⟩) (by assumption) ?restb75
        case hyb75 => (intro w hSw; (try dsimp only at hSw); go_simp; first | done | with_reducible rfl)
        (try simp only [Act.put, List.setIfInBounds_toArray, List.set_cons_zero, List.set_cons_succ, List.getElem_toArray, List.getElem_cons_zero, List.getElem_cons_succ])
        refine wpAnyH_take (i := 8) (v := ?vb76) rfl (by kernel_rfl) (by kernel_rfl) (by kernel_rfl) (fun _ _ _ h => h) (.inl ⟨by rfl, ?hyb76⟩) (by assumption) ?restb76
        case hyb76 => (intro w hSw; (try dsimp only at hSw); go_simp; first | done | with_reducible rfl)
        (try simp only [Act.put, List.setIfInBounds_toArray, List.set_cons_zero, List.set_cons_succ, List.getElem_toArray, List.getElem_cons_zero, List.getElem_cons_succ])
        refine wpAnyH_take (i := 9) (v := ?vb77) rfl (by kernel_rfl) (by kernel_rfl) (by kernel_rfl) (fun _ _ _ h => h) (.inl ⟨by rfl, ?hyb77⟩) (by assumption) ?restb77
        case hyb77 => (intro w hSw; (try dsimp only at hSw); go_simp; first | done | with_reducible rfl)
        (try simp only [Act.put, List.setIfInBounds_toArray, List.set_cons_zero, List.set_cons_succ, List.getElem_toArray, List.getElem_cons_zero, List.getElem_cons_succ])
        refine wpAnyH_take (i := 10) (v := ?vb78) rfl (by kernel_rfl) (by kernel_rfl) (by kernel_rfl) (fun _ _ _ h => h) (.inl ⟨by rfl, ?hyb78⟩) (by assumption) ?restb78
        case hyb78 => (intro w hSw; (try dsimp only at hSw); go_simp; first | done | with_reducible rfl)
        (try simp only [Act.put, List.setIfInBounds_toArray, List.set_cons_zero, List.set_cons_succ, List.getElem_toArray, List.getElem_cons_zero, List.getElem_cons_succ])
        refine wpAnyH_take (i := 11) (v := ?vb79) rfl (by kernel_rfl) (by kernel_rfl) (by kernel_rfl) (fun _ _ _ h => h) (.inl ⟨by rfl, ?hyb79⟩) (by assumption) ?restb79
        case hyb79 => (intro w hSw; (try dsimp only at hSw); go_simp; first | done | with_reducible rfl)
        (try simp only [Act.put, List.setIfInBounds_toArray, List.set_cons_zero, List.set_cons_succ, List.getElem_toArray, List.getElem_cons_zero, List.getElem_cons_succ])
        refine wpAnyH_take (i := 12) (v := ?vb710) rfl (by kernel_rfl) (by kernel_rfl) (by kernel_rfl) (fun _ _ _ h => h) (.inl ⟨by rfl, ?hyb710⟩) (by assumption) ?restb710
        case hyb710 => (intro w hSw; (try dsimp only at hSw); go_simp; first | done | with_reducible rfl)
        (try simp only [Act.put, List.setIfInBounds_toArray, List.set_cons_zero, List.set_cons_succ, List.getElem_toArray, List.getElem_cons_zero, List.getElem_cons_succ])
        refine wpAnyH_done (by kernel_rfl) ?_ _
        clear hHeld
        go_wp2_with fail
        go_loopw [17] (fun i wr => ∃ (z : Int) (k : Nat), k ≤ ls.length ∧ i = .int .i64 z ∧ z = (k : Int) - 1 ∧ LastInv w wr w.heap.size b7 b8 m #[c0, c1, c2, c3, c4, c5, c6, c7, c8, c9, c10] #[p0, p1, p2, p3, p4, p5, p6, p7, p8, p9, p10] #[q0, q1, q2, q3, q4, q5, q6, q7, q8, q9, q10] (builtV t) (ls.map builtV) k s2) (fun i _ => (intOf i + 1).toNat)
        case atStart => exact ⟨_, ls.length, Nat.le_refl _, rfl, by go_num, hst12⟩
        case round =>
          obtain ⟨z, n, hn, rfl, hz, hst13⟩ := hrel
          clear hst12
          cases n with
          | succ k =>
            have hlt : k < ls.length := hn
            obtain rfl : z = (k : Int) := by omega
            clear hz
            have hlti : (k : Int) < (ls.length : Int) := by omega
            obtain ⟨eb, eo, rfl, hec⟩ := hformH.out (by omega)
            obtain ⟨u, hu⟩ : ∃ u, ls[k]? = some u := ⟨_, List.getElem?_eq_getElem hlt⟩
            have hu' : (ls.map builtV)[k]? = some (builtV u) := by rw [List.getElem?_map, hu]; rfl
            obtain ⟨es, htu, ee⟩ := hdatH.out k u hu
            have hne := nums_built u es htu
            have hcell : ∀ j, j < 11 → w.cell? ⟨eb, eo + k * 11 + j, none⟩ = es[j]? := fun j hj => by (have h1 := hec (k * 11 + j) (by omega); rw [ee j hj, ← Nat.add_assoc] at h1; exact h1)
            have oe1 := TRep.ones htu
            obtain ⟨e0, e1, e2, e3, e4, e5, e6, e7, e8, e9, e10, rfl⟩ := eleven (TRep.len htu)
            have g0 := hcell 0 (by omega)
            have g1 := hcell 1 (by omega)
            have g2 := hcell 2 (by omega)
            have g3 := hcell 3 (by omega)
            have g4 := hcell 4 (by omega)
            have g5 := hcell 5 (by omega)
            have g6 := hcell 6 (by omega)
            have g7 := hcell 7 (by omega)
            have g8 := hcell 8 (by omega)
            have g9 := hcell 9 (by omega)
            have g10 := hcell 10 (by omega)
            simp only [List.getElem?_cons_zero, List.getElem?_cons_succ, Nat.add_zero] at g0 g1 g2 g3 g4 g5 g6 g7 g8 g9 g10
            have bE := Lib.hid (fun W (hb : Below w.heap.size w W) => built_any u _ W (TRep.keep (keeps_of_below hb) u _ htu))
            have sE := Lib.hid (fun W (hb : Below w.heap.size w W) => sameV_said u t _ _ W (TRep.keep (keeps_of_below hb) u _ htu) (TRep.keep (keeps_of_below hb) t _ hkH.out))
            have hE := Lib.hid (fun W (hb : Below w.heap.size w W) => (⟨keeps_of_below hb _ _ g0, keeps_of_below hb _ _ g1, keeps_of_below hb _ _ g2, keeps_of_below hb _ _ g3, keeps_of_below hb _ _ g4, keeps_of_below hb _ _ g5, keeps_of_below hb _ _ g6, keeps_of_below hb _ _ g7, keeps_of_below hb _ _ g8, keeps_of_below hb _ _ g9, keeps_of_below hb _ _ g10⟩ : W.cell? ⟨eb, eo + k * 11, none⟩ = some e0 ∧ W.cell? ⟨eb, eo + k * 11 + 1, none⟩ = some e1 ∧ W.cell? ⟨eb, eo + k * 11 + 2, none⟩ = some e2 ∧ W.cell? ⟨eb, eo + k * 11 + 3, none⟩ = some e3 ∧ W.cell? ⟨eb, eo + k * 11 + 4, none⟩ = some e4 ∧ W.cell? ⟨eb, eo + k * 11 + 5, none⟩ = some e5 ∧ W.cell? ⟨eb, eo + k * 11 + 6, none⟩ = some e6 ∧ W.cell? ⟨eb, eo + k * 11 + 7, none⟩ = some e7 ∧ W.cell? ⟨eb, eo + k * 11 + 8, none⟩ = some e8 ∧ W.cell? ⟨eb, eo + k * 11 + 9, none⟩ = some e9 ∧ W.cell? ⟨eb, eo + k * 11 + 10, none⟩ = some e10))
            clear hec hcell ee htu g0 g1 g2 g3 g4 g5 g6 g7 g8 g9 g10
            go_wp2_with fail
            have hst13d := hst13.below (Below.refl _ _).drew
            clear hst13
            refine wp_region_held_drew (S := (fun w' => w'.cell? ⟨w.heap.size, 0, none⟩ = some c0 ∧ w'.cell? ⟨w.heap.size, 1, none⟩ = some c1 ∧ w'.cell? ⟨w.heap.size, 2, none⟩ = some c2 ∧ w'.cell? ⟨w.heap.size, 3, none⟩ = some c3 ∧ w'.cell? ⟨w.heap.size, 4, none⟩ = some c4 ∧ w'.cell? ⟨w.heap.size, 5, none⟩ = some c5 ∧ w'.cell? ⟨w.heap.size, 6, none⟩ = some c6 ∧ w'.cell? ⟨w.heap.size, 7, none⟩ = some c7 ∧ w'.cell? ⟨w.heap.size, 8, none⟩ = some c8 ∧ w'.cell? ⟨w.heap.size, 9, none⟩ = some c9 ∧ w'.cell? ⟨w.heap.size, 10, none⟩ = some c10 ∧ w'.cell? ⟨eb, eo + k * 11, none⟩ = some e0 ∧ w'.cell? ⟨eb, eo + k * 11 + 1, none⟩ = some e1 ∧ w'.cell? ⟨eb, eo + k * 11 + 2, none⟩ = some e2 ∧ w'.cell? ⟨eb, eo + k * 11 + 3, none⟩ = some e3 ∧ w'.cell? ⟨eb, eo + k * 11 + 4, none⟩ = some e4 ∧ w'.cell? ⟨eb, eo + k * 11 + 5, none⟩ = some e5 ∧ w'.cell? ⟨eb, eo + k * 11 + 6, none⟩ = some e6 ∧ w'.cell? ⟨eb, eo + k * 11 + 7, none⟩ = some e7 ∧ w'.cell? ⟨eb, eo + k * 11 + 8, none⟩ = some e8 ∧ w'.cell? ⟨eb, eo + k * 11 + 9, none⟩ = some e9 ∧ w'.cell? ⟨eb, eo + k * 11 + 10, none⟩ = some e10)) (by kernel_rfl) (⟨(hst13d).cells.1 0, (hst13d).cells.1 1, (hst13d).cells.1 2, (hst13d).cells.1 3, (hst13d).cells.1 4, (hst13d).cells.1 5, (hst13d).cells.1 6, (hst13d).cells.1 7, (hst13d).cells.1 8, (hst13d).cells.1 9, (hst13d).cells.1 10, hE.out _ (hst13d).cells.2.2.2.1⟩) (fun hHeld => ?_)
            refine wpAnyH_take (i := 0) (v := ?vb81) rfl (by kernel_rfl) (by kernel_rfl) (by kernel_rfl) (fun _ _ _ h => h) (.inl ⟨by rfl, ?hyb81⟩) (by assumption) ?restb81
            case hyb81 => (intro w hSw; (try dsimp only at hSw); go_simp; first | done | with_reducible rfl)
            (try simp only [Act.put, List.setIfInBounds_toArray, List.set_cons_zero, List.set_cons_succ, List.getElem_toArray, List.getElem_cons_zero, List.getElem_cons_succ])
            refine wpAnyH_take (i := 1) (v := ?vb82) rfl (by kernel_rfl) (by kernel_rfl) (by kernel_rfl) (fun _ _ _ h => h) (.inl ⟨by rfl, ?hyb82⟩) (by assumption) ?restb82
            case hyb82 => (intro w hSw; (try dsimp only at hSw); go_simp; first | done | with_reducible rfl)
            (try simp only [Act.put, List.setIfInBounds_toArray, List.set_cons_zero, List.set_cons_succ, List.getElem_toArray, List.getElem_cons_zero, List.getElem_cons_succ])
            refine wpAnyH_take (i := 2) (v := ?vb83) rfl (by kernel_rfl) (by kernel_rfl) (by kernel_rfl) (fun _ _ _ h => h) (.inl ⟨by rfl, ?hyb83⟩) (by assumption) ?restb83
            case hyb83 => (intro w hSw; (try dsimp only at hSw); go_simp; first | done | with_reducible rfl)
            (try simp only [Act.put, List.setIfInBounds_toArray, List.set_cons_zero, List.set_cons_succ, List.getElem_toArray, List.getElem_cons_zero, List.getElem_cons_succ])
            refine wpAnyH_take (i := 3) (v := ?vb84) rfl (by kernel_rfl) (by kernel_rfl) (by kernel_rfl) (fun _ _ _ h => h) (.inl ⟨by rfl, ?hyb84⟩) (by assumption) ?restb84
            case hyb84 => (intro w hSw; (try dsimp only at hSw); go_simp; first | done | with_reducible rfl)
            (try simp only [Act.put, List.setIfInBounds_toArray, List.set_cons_zero, List.set_cons_succ, List.getElem_toArray, List.getElem_cons_zero, List.getElem_cons_succ])
            refine wpAnyH_take (i := 4) (v := ?vb85) rfl (by kernel_rfl) (by kernel_rfl) (by kernel_rfl) (fun _ _ _ h => h) (.inl ⟨by rfl, ?hyb85⟩) (by assumption) ?restb85
            case hyb85 => (intro w hSw; (try dsimp only at hSw); go_simp; first | done | with_reducible rfl)
            (try simp only [Act.put, List.setIfInBounds_toArray, List.set_cons_zero, List.set_cons_succ, List.getElem_toArray, List.getElem_cons_zero, List.getElem_cons_succ])
            refine wpAnyH_ready (rs := [5]) (by kernel_rfl) (by simp) ?_
            refine AllReadyH.cons rfl (fun K hK => ?_) AllReadyH.nil
            rw [if_pos (by rfl)]
            go_simp
            refine (sE.out _ hst13d.cells.2.2.2.1).mono ?_
            rintro e w7 ⟨r, rfl, hr, hb7⟩
            have hst7 := hst13d.below hb7
            refine hK.out _ _ ?_ (fun hHeldN => ?_)
            · exact ⟨(hst7).cells.1 0, (hst7).cells.1 1, (hst7).cells.1 2, (hst7).cells.1 3, (hst7).cells.1 4, (hst7).cells.1 5, (hst7).cells.1 6, (hst7).cells.1 7, (hst7).cells.1 8, (hst7).cells.1 9, (hst7).cells.1 10, hE.out _ (hst7).cells.2.2.2.1⟩
            clear hK K hHeld
            have hHeld := hHeldN
            clear hHeldN
            (try simp only [Act.put, List.setIfInBounds_toArray, List.set_cons_zero, List.set_cons_succ, List.getElem_toArray, List.getElem_cons_zero, List.getElem_cons_succ])
            refine wpAnyH_take (i := 6) (v := ?vb86) rfl (by kernel_rfl) (by kernel_rfl) (by kernel_rfl) (fun _ _ _ h => h) (.inl ⟨by rfl, ?hyb86⟩) (by assumption) ?restb86
            case hyb86 => (intro w hSw; (try dsimp only at hSw); go_simp; first | done | with_reducible rfl)
            (try simp only [Act.put, List.setIfInBounds_toArray, List.set_cons_zero, List.set_cons_succ, List.getElem_toArray, List.getElem_cons_zero, List.getElem_cons_succ])
            refine wpAnyH_done (by kernel_rfl) ?_ _
            cases r with
            | true =>
              have hsame := (hr.1 rfl).2.2
              go_wp2_with fail
              go_roundw
              case rel => exact ⟨_, k, by omega, rfl, by go_num, hst7.skip_back (hsame ▸ hu')⟩
              case measure => first | (simp [intOf]; done) | (simp [intOf]; omega)
            | false =>
              have hnot := Lib.hid (show ¬ (okB (builtV u) = true ∧ okB (builtV t) = true ∧ builtV u = builtV t) from fun h => absurd (hr.2 h) (by decide))
              have hE7 := hE.out _ hst7.cells.2.2.2.1
              clear hr
              go_wp2_with fail
              refine (bE.out _ hst7.cells.2.2.2.1).mono ?_
              rintro e w8 ⟨y3, f3, rfl, hv3, -, hf3, hb8⟩
              have hst8 := hst7.below hb8
              have hy3 := hv3.one
              have hdel := Lib.hid (del_other hst8 hu' hnot.out hv3 hne nK)
              clear hv3 hst13d hE7
              go_wp2_with fail
              refine hdel.out.mono ?_
              rintro e w9 ⟨cc9, B9, rfl, hcc9, hst9⟩
              clear hst7 hst8 hdel
              go_wp2_with fail
              go_roundw
              case rel => exact ⟨_, k, by omega, rfl, by go_num, hst9⟩
              case measure => first | (simp [intOf]; done) | (simp [intOf]; omega)
            
          | zero =>
            have hzn : ¬ ((0 : Int) ≤ z) := by omega
            clear hz hn
            have hC13 : wr.cell? ⟨w.heap.size, 0, none⟩ = some c0 ∧ wr.cell? ⟨w.heap.size, 1, none⟩ = some c1 ∧ wr.cell? ⟨w.heap.size, 2, none⟩ = some c2 ∧ wr.cell? ⟨w.heap.size, 3, none⟩ = some c3 ∧ wr.cell? ⟨w.heap.size, 4, none⟩ = some c4 ∧ wr.cell? ⟨w.heap.size, 5, none⟩ = some c5 ∧ wr.cell? ⟨w.heap.size, 6, none⟩ = some c6 ∧ wr.cell? ⟨w.heap.size, 7, none⟩ = some c7 ∧ wr.cell? ⟨w.heap.size, 8, none⟩ = some c8 ∧ wr.cell? ⟨w.heap.size, 9, none⟩ = some c9 ∧ wr.cell? ⟨w.heap.size, 10, none⟩ = some c10 := ⟨(hst13).cells.1 0, (hst13).cells.1 1, (hst13).cells.1 2, (hst13).cells.1 3, (hst13).cells.1 4, (hst13).cells.1 5, (hst13).cells.1 6, (hst13).cells.1 7, (hst13).cells.1 8, (hst13).cells.1 9, (hst13).cells.1 10⟩
            go_wp2_with fail
            clear hC13
            refine (bK.out _ hst13.cells.2.2.2.1).mono ?_
            rintro e w14 ⟨y6, f6, rfl, hv6, -, -, hb14⟩
            have hst14 := hst13.below hb14
            have hy6 := hv6.one
            have hget := Lib.hid (get_main hst14 hv6 nK)
            clear hv6 hst13
            go_wp2_with fail
            refine hget.out.mono ?_
            rintro e w15 ⟨y7, g7, rfl, hv7, -, hst15⟩
            have hy7 := hv7.one
            have hv7H := Lib.hid hv7
            clear hv7 hst14 hget hzn
            rcases hs1 with ⟨rfl, -, rfl⟩ | ⟨he1, rfl⟩
            · rcases hs2 with ⟨rfl, hB2, rfl⟩ | ⟨he2, rfl⟩
              · obtain rfl : B2 = true := hB2
                have hC15 : w15.cell? ⟨b8, 0, none⟩ = some q0 ∧ w15.cell? ⟨b8, 1, none⟩ = some q1 ∧ w15.cell? ⟨b8, 2, none⟩ = some q2 ∧ w15.cell? ⟨b8, 3, none⟩ = some q3 ∧ w15.cell? ⟨b8, 4, none⟩ = some q4 ∧ w15.cell? ⟨b8, 5, none⟩ = some q5 ∧ w15.cell? ⟨b8, 6, none⟩ = some q6 ∧ w15.cell? ⟨b8, 7, none⟩ = some q7 ∧ w15.cell? ⟨b8, 8, none⟩ = some q8 ∧ w15.cell? ⟨b8, 9, none⟩ = some q9 ∧ w15.cell? ⟨b8, 10, none⟩ = some q10 := ⟨(hst15).cells.2.2.1 0, (hst15).cells.2.2.1 1, (hst15).cells.2.2.1 2, (hst15).cells.2.2.1 3, (hst15).cells.2.2.1 4, (hst15).cells.2.2.1 5, (hst15).cells.2.2.1 6, (hst15).cells.2.2.1 7, (hst15).cells.2.2.1 8, (hst15).cells.2.2.1 9, (hst15).cells.2.2.1 10⟩
                have hok := hst15.ok
                have his0 := Is_said (plain_any _) hv7H.out (small_built q _ hqH.out) (TRep.keep (keeps_of_below hst15.cells.2.2.2.1) q _ hqH.out)
                have his1 : sameT (plainT ((some (builtV q)).getD .nil) 0) q = true := is_own hok
                rw [his1] at his0
                have his := Lib.hid his0
                clear his0 his1
                clear hv7H
                go_wp2_with fail
                clear hC15
                refine his.out.mono ?_
                rintro e w16 ⟨rfl, hb16⟩
                have hlen := Lib.hid (len_main (hst15.below hb16))
                have hbw16 := (hst15.below hb16).cells.2.2.2.1
                clear hst15 his
                go_wp2_with fail
                refine hlen.out.mono ?_
                rintro e w18 ⟨rfl, hb18⟩
                go_wp2
                go_ret
                exact ⟨rfl, hbw16.trans (below_le hb18 hbw16.size)⟩
              · have he2b : (ec2 != 0) = true := by simpa using he2
                by_cases h50 : ec2 = 50
                · subst h50
                  go_wp2
                  go_ret
                  exact ⟨rfl, hst15.cells.2.2.2.1⟩
                · have h50b : (ec2 == 50) = false := by simpa using h50
                  clear h50
                  have hC15 : w15.cell? ⟨b7, 0, none⟩ = some p0 ∧ w15.cell? ⟨b7, 1, none⟩ = some p1 ∧ w15.cell? ⟨b7, 2, none⟩ = some p2 ∧ w15.cell? ⟨b7, 3, none⟩ = some p3 ∧ w15.cell? ⟨b7, 4, none⟩ = some p4 ∧ w15.cell? ⟨b7, 5, none⟩ = some p5 ∧ w15.cell? ⟨b7, 6, none⟩ = some p6 ∧ w15.cell? ⟨b7, 7, none⟩ = some p7 ∧ w15.cell? ⟨b7, 8, none⟩ = some p8 ∧ w15.cell? ⟨b7, 9, none⟩ = some p9 ∧ w15.cell? ⟨b7, 10, none⟩ = some p10 := ⟨(hst15).cells.2.1 0, (hst15).cells.2.1 1, (hst15).cells.2.1 2, (hst15).cells.2.1 3, (hst15).cells.2.1 4, (hst15).cells.2.1 5, (hst15).cells.2.1 6, (hst15).cells.2.1 7, (hst15).cells.2.1 8, (hst15).cells.2.1 9, (hst15).cells.2.1 10⟩
                  have hok := hst15.ok
                  have his0 := Is_said (plain_any _) hv7H.out (small_built p _ hpH.out) (TRep.keep (keeps_of_below hst15.cells.2.2.2.1) p _ hpH.out)
                  have his1 : sameT (plainT ((some (builtV p)).getD .nil) 0) p = true := is_own hok
                  rw [his1] at his0
                  have his := Lib.hid his0
                  clear his0 his1
                  clear hv7H
                  go_wp2_with fail
                  clear hC15
                  refine his.out.mono ?_
                  rintro e w16 ⟨rfl, hb16⟩
                  have hlen := Lib.hid (len_main (hst15.below hb16))
                  have hbw16 := (hst15.below hb16).cells.2.2.2.1
                  clear hst15 his
                  go_wp2_with fail
                  refine hlen.out.mono ?_
                  rintro e w18 ⟨rfl, hb18⟩
                  go_wp2
                  go_ret
                  exact ⟨rfl, hbw16.trans (below_le hb18 hbw16.size)⟩
            · have he1b : (ec1 != 0) = true := by simpa using he1
              have he1c : (ec1 == 0) = false := by simpa using he1
              rcases hs2 with ⟨rfl, hB2, rfl⟩ | ⟨he2, rfl⟩
              · obtain rfl : B2 = false := hB2
                have hC15 : w15.cell? ⟨b8, 0, none⟩ = some q0 ∧ w15.cell? ⟨b8, 1, none⟩ = some q1 ∧ w15.cell? ⟨b8, 2, none⟩ = some q2 ∧ w15.cell? ⟨b8, 3, none⟩ = some q3 ∧ w15.cell? ⟨b8, 4, none⟩ = some q4 ∧ w15.cell? ⟨b8, 5, none⟩ = some q5 ∧ w15.cell? ⟨b8, 6, none⟩ = some q6 ∧ w15.cell? ⟨b8, 7, none⟩ = some q7 ∧ w15.cell? ⟨b8, 8, none⟩ = some q8 ∧ w15.cell? ⟨b8, 9, none⟩ = some q9 ∧ w15.cell? ⟨b8, 10, none⟩ = some q10 := ⟨(hst15).cells.2.2.1 0, (hst15).cells.2.2.1 1, (hst15).cells.2.2.1 2, (hst15).cells.2.2.1 3, (hst15).cells.2.2.1 4, (hst15).cells.2.2.1 5, (hst15).cells.2.2.1 6, (hst15).cells.2.2.1 7, (hst15).cells.2.2.1 8, (hst15).cells.2.2.1 9, (hst15).cells.2.2.1 10⟩
                have hok := hst15.ok
                have his0 := Is_said (plain_any _) hv7H.out (small_built q _ hqH.out) (TRep.keep (keeps_of_below hst15.cells.2.2.2.1) q _ hqH.out)
                have his1 : sameT (plainT ((some (builtV q)).getD .nil) 0) q = true := is_own hok
                rw [his1] at his0
                have his := Lib.hid his0
                clear his0 his1
                clear hv7H
                go_wp2_with fail
                clear hC15
                refine his.out.mono ?_
                rintro e w16 ⟨rfl, hb16⟩
                have hlen := Lib.hid (len_main (hst15.below hb16))
                have hbw16 := (hst15.below hb16).cells.2.2.2.1
                clear hst15 his
                go_wp2_with fail
                refine hlen.out.mono ?_
                rintro e w18 ⟨rfl, hb18⟩
                go_wp2
                go_ret
                exact ⟨rfl, hbw16.trans (below_le hb18 hbw16.size)⟩
              · have he2b : (ec2 != 0) = true := by simpa using he2
                have hm2 := map_new w15
                go_wp2_with fail
                refine (one_put hm2).mono ?_
                rintro e w16 ⟨rfl, hone16, hb16⟩
                have hone16H := Lib.hid hone16
                have hb1516 : Below w15.heap.size w15 w16 := ((Below.refl _ _).alloc (Nat.le_refl _) _).trans hb16
                clear hone16 hm2
                go_wp2_with fail
                refine (one_get hone16H.out).mono ?_
                rintro e w17 ⟨rfl, hb17⟩
                have hlen := Lib.hid (len_main (hst15.below (hb1516.trans (below_le hb17 hb1516.size))))
                have hbw17 := (hst15.below (hb1516.trans (below_le hb17 hb1516.size))).cells.2.2.2.1
                clear hst15
                go_wp2_with fail
                refine hlen.out.mono ?_
                rintro e w18 ⟨rfl, hb18⟩
                go_wp2
                go_ret
                exact ⟨rfl, hbw17.trans (below_le hb18 hbw17.size)⟩
        
    

end Go.Proofs.Ytpcbdjfonmohaaa
