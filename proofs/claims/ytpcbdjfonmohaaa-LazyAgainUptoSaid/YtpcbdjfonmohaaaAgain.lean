/- tenonlaw12.LazyAgain: the fetch. -/
import Derived.Test.YtpcbdjfonmohaaaOnce
import Derived.Test.YtpcbdjfonmohaaaPanics
namespace Go.Proofs.Ytpcbdjfonmohaaa
open Go.RowKit
set_option linter.unusedVariables false
set_option linter.unusedSimpArgs false

/-- Answers that came in: of each its kind and its error. -/
def AnsAt (w : World) (v : Value) (ans : List (Int × Int)) : Prop := ∃ oa cap, v = .slice oa ans.length cap ∧ ans.length ≤ cap ∧ cap ≤ maxLen ∧ ans.length ≤ 1048576 ∧ (0 < ans.length → ∃ b o, oa = some ⟨b, o, none⟩ ∧ ∀ i a, ans[i]? = some a → ∃ c1 c2 c3 c4 c5 c6 c7 c8 c9 c10 c11 c13,
  w.cell? ⟨b, o + i * 14, none⟩ = some (.int .i64 a.1) ∧ w.cell? ⟨b, o + i * 14 + 1, none⟩ = some c1 ∧ w.cell? ⟨b, o + i * 14 + 2, none⟩ = some c2 ∧ w.cell? ⟨b, o + i * 14 + 3, none⟩ = some c3 ∧ w.cell? ⟨b, o + i * 14 + 4, none⟩ = some c4 ∧ w.cell? ⟨b, o + i * 14 + 5, none⟩ = some c5 ∧
  w.cell? ⟨b, o + i * 14 + 6, none⟩ = some c6 ∧ w.cell? ⟨b, o + i * 14 + 7, none⟩ = some c7 ∧ w.cell? ⟨b, o + i * 14 + 8, none⟩ = some c8 ∧ w.cell? ⟨b, o + i * 14 + 9, none⟩ = some c9 ∧ w.cell? ⟨b, o + i * 14 + 10, none⟩ = some c10 ∧ w.cell? ⟨b, o + i * 14 + 11, none⟩ = some c11 ∧
  w.cell? ⟨b, o + i * 14 + 12, none⟩ = some (.int .i64 a.2) ∧ w.cell? ⟨b, o + i * 14 + 13, none⟩ = some c13 ∧ c1.oneCell' = true ∧ c2.oneCell' = true ∧ c3.oneCell' = true ∧ c4.oneCell' = true ∧ c5.oneCell' = true ∧ c6.oneCell' = true ∧ c7.oneCell' = true ∧ c8.oneCell' = true ∧ c9.oneCell' = true ∧ c10.oneCell' = true ∧ c11.oneCell' = true ∧ c13.oneCell' = true)
theorem AnsAt.keep {w w' : World} {v : Value} {ans : List (Int × Int)} (h : AnsAt w v ans) (hk : ∀ a u, w.cell? a = some u → w'.cell? a = some u) : AnsAt w' v ans := by
  obtain ⟨oa, cap, h1, h2, h3, h4, h⟩ := h
  refine ⟨oa, cap, h1, h2, h3, h4, fun hp => ?_⟩
  obtain ⟨b, o, e, hc⟩ := h hp
  refine ⟨b, o, e, fun i a ha => ?_⟩
  obtain ⟨c1, c2, c3, c4, c5, c6, c7, c8, c9, c10, c11, c13, e0, e1, e2, e3, e4, e5, e6, e7, e8, e9, e10, e11, e12, e13, e14⟩ := hc i a ha
  exact ⟨c1, c2, c3, c4, c5, c6, c7, c8, c9, c10, c11, c13, hk _ _ e0, hk _ _ e1, hk _ _ e2, hk _ _ e3, hk _ _ e4, hk _ _ e5, hk _ _ e6, hk _ _ e7, hk _ _ e8, hk _ _ e9, hk _ _ e10, hk _ _ e11, hk _ _ e12, hk _ _ e13, e14⟩

/-- What the fetch of number m + 1 comes to. -/
def gotAt (ans : List (Int × Int)) (v : Val) (m : Nat) : Got := match ans[m]? with
  | none => bif isRecB v then .gives v else .nothing
  | some a => bif a.1 == 2 then .panics (panK (((m : Int) + 1) % 6)) (panN (((m : Int) + 1) % 6)) else bif decide (0 < a.2) then .fails a.2 else .nothing
theorem mod6 (m : Nat) : ((m : Int) + 1) % 6 = 0 ∨ ((m : Int) + 1) % 6 = 1 ∨ ((m : Int) + 1) % 6 = 2 ∨ ((m : Int) + 1) % 6 = 3 ∨ ((m : Int) + 1) % 6 = 4 ∨ ((m : Int) + 1) % 6 = 5 := by
  omega

section
variable (nb fb tb : Nat) (m : Nat) (id : Int) (ans : List (Int × Int)) (t : Term) (cs : List Value) (sv : Value) (w : World) (hm : m ≤ 1048576) (hn : w.heap[nb]? = some (intObj m)) (htb : w.heap[tb]? = some (.cells cs.toArray 34 (0, 0))) (hfb : w.heap[fb]? = some (.cells #[sv] 52 (0, 0)))
  (hne : ¬ tb = nb) (hnf : ¬ fb = nb) (hlen : cs.length = 11) (hkeep : ∀ w', But (· = nb) w w' → TRep w' t cs ∧ AnsAt w' sv ans)
include hm hn htb hfb hne hnf hlen hkeep
set_option maxRecDepth 100000 in
theorem again1_said :
    Calls Try.prog 30 #[.int .u64 id, .pointer (some ⟨nb, 0, none⟩), .pointer (some ⟨fb, 0, none⟩), .pointer (some ⟨tb, 0, none⟩)] w fun e w' => But (· = nb) w w' ∧ w'.heap[nb]? = some (intObj (m + 1)) ∧ ∀ g k, (gotAt ans (builtV t) m).says g k w e w' := by
  obtain ⟨n0, nlt, nfz⟩ := intCell hn
  have hH := Lib.hid hn
  have hW : But (· = nb) w (w.setCell ⟨nb, 0, none⟩ (.int .i64 (m + 1))) := (But.refl (· = nb) w).setCell (p := ⟨nb, 0, none⟩) (fun _ => rfl) _
  have hrs := Lib.hid (fun W (hb : But (· = nb) w W) => record_said t cs W (hkeep W hb).1)
  have hset := Lib.hid (setCell_block hn 0 (.int .i64 (m + 1)))
  have hwr : wrap64 ((m : Int) + 1) = (m : Int) + 1 := by unfold wrap64; omega
  obtain ⟨c0, c1, c2, c3, c4, c5, c6, c7, c8, c9, c10, rfl⟩ := eleven hlen
  have hq0 := Lib.hid (fun W (hb : But (· = nb) w W) => block_cell ((hb.block tb (Array.getElem?_eq_some_iff.1 htb).1 hne).trans htb))
  have q := fun j => (block_cell (hW.block tb (Array.getElem?_eq_some_iff.1 htb).1 hne |>.trans htb)) j
  have q0 := q 0
  have q1 := q 1
  have q2 := q 2
  have q3 := q 3
  have q4 := q 4
  have q5 := q 5
  have q6 := q 6
  have q7 := q 7
  have q8 := q 8
  have q9 := q 9
  have q10 := q 10
  simp only [List.getElem?_toArray, List.getElem?_cons_zero, List.getElem?_cons_succ] at q0 q1 q2 q3 q4 q5 q6 q7 q8 q9 q10
  have r0 := oneCellAt ((hW.block fb (Array.getElem?_eq_some_iff.1 hfb).1 hnf).trans hfb)
  have hAW := (hkeep _ hW).2
  clear q hn htb hfb hkeep
  have hWH := Lib.hid hW
  obtain ⟨oa, cap, rfl, hcap, hmax, hal, hcells⟩ := hAW
  unfold maxLen at hmax
  cases ha : ans[m]? with
  | none =>
    have hml : ans.length ≤ m := List.getElem?_eq_none_iff.1 ha
    have ht : ((ans.length : Int) < (m : Int) + 1) := by omega
    have hgot : gotAt ans (builtV t) m = bif isRecB (builtV t) then .gives (builtV t) else .nothing := by unfold gotAt; rw [ha]
    cases hr : isRecB (builtV t) with
    | true =>
      rw [hgot, hr]
      have hr1 := Lib.hid (hrs.out _ hW)
      have hrH := Lib.hid hr
      clear hgot ha hcells hrs hW hr
      go_enter Try.func30, Try.ntmps30
      go_wp2_with fail
      refine hr1.out.mono ?_
      rintro e w' ⟨hre, hb⟩
      have hb0 := Lib.hid hb
      have hwbH : Hid (But (· = nb) w w') := Lib.hid (hWH.out.trans ((below_but0' hb).mono (fun i hi h => absurd hi (by simp only [size_setCell] at h ⊢; omega))))
      clear hb
      obtain ⟨a, fs, rfl, hv, -, hfs⟩ := hre.1 hrH.out
      have hvH := Lib.hid (And.intro hv hfs)
      clear hre hv hfs
      go_wp2_with fail
      go_ret2
      exact ⟨hwbH.out, (hb0.out.block nb (by simpa [World.setCell] using nlt)).trans hset.out, fun g k => ⟨a, fs, rfl, hvH.out.1, fun b hb => .inr (by have := hvH.out.2 b hb; simpa only [size_setCell] using this)⟩⟩
    | false =>
      rw [hgot, hr]
      have hr1 := Lib.hid (hrs.out _ hW)
      have hrH := Lib.hid hr
      clear hgot ha hcells hrs hW hr
      go_enter Try.func30, Try.ntmps30
      go_wp2_with fail
      refine hr1.out.mono ?_
      rintro e w' ⟨hre, hb⟩
      have hb0 := Lib.hid hb
      have hwbH : Hid (But (· = nb) w w') := Lib.hid (hWH.out.trans ((below_but0' hb).mono (fun i hi h => absurd hi (by simp only [size_setCell] at h ⊢; omega))))
      clear hb
      have he := hre.2 hrH.out
      subst he
      clear hre
      go_wp2_with fail
      go_ret2
      exact ⟨hwbH.out, (hb0.out.block nb (by simpa [World.setCell] using nlt)).trans hset.out, fun g k => rfl⟩
  | some a =>
    have hml : m < ans.length := (List.getElem?_eq_some_iff.1 ha).1
    have ht : ¬ ((ans.length : Int) < (m : Int) + 1) := by omega
    obtain ⟨kd, er⟩ := a
    have hgot : gotAt ans (builtV t) m = bif kd == 2 then .panics (panK (((m : Int) + 1) % 6)) (panN (((m : Int) + 1) % 6)) else bif decide (0 < er) then .fails er else .nothing := by unfold gotAt; rw [ha]
    obtain ⟨b, o, rfl, hc⟩ := hcells (by omega)
    obtain ⟨d1, d2, d3, d4, d5, d6, d7, d8, d9, d10, d11, d13, x0, x1, x2, x3, x4, x5, x6, x7, x8, x9, x10, x11, x12, x13, p1, p2, p3, p4, p5, p6, p7, p8, p9, p10, p11, p13⟩ := hc m _ ha
    dsimp only at x0 x12
    have hps := Lib.hid (fun W => panics_said _ W (mod6 m))
    cases hk2 : (kd == 2) with
    | true =>
      rw [hgot, hk2]
      have hkd : kd = 2 := by simpa using hk2
      subst hkd
      clear hgot ha hcells hc hW hk2 hrs
      go_enter Try.func30, Try.ntmps30
      go_wp2_with fail
      refine (hps.out _).mono ?_
      rintro e w' ⟨⟨v, rfl, hpi⟩, hb⟩
      have hnb : nb < ((w.setCell ⟨nb, 0, none⟩ (.int .i64 (m + 1))).alloc (.cells #[.int .i64 2, d1, d2, d3, d4, d5, d6, d7, d8, d9, d10, d11, .int .i64 er, d13] 54)).heap.size := by simp only [size_alloc, size_setCell]; omega
      exact ⟨rfl, (hWH.out.alloc _).trans ((below_but0' hb).mono (fun i hi h => absurd hi (by simp only [size_alloc, size_setCell] at h ⊢; omega))), (hb.block nb hnb).trans ((Below.heap_alloc _ _ _ (by simp only [size_setCell]; omega)).trans hset.out), fun g k => ⟨v, rfl, hpi⟩⟩
    | false =>
      cases he : decide (0 < er) with
      | false =>
        rw [hgot, hk2, he]
        have he' : ¬ (0 < er) := by simpa using he
        clear hgot ha hcells hc hW hrs he
        go_enter Try.func30, Try.ntmps30
        go_wp2_with fail
        go_ret2
        exact ⟨hWH.out.alloc _, (Below.heap_alloc _ _ _ (by simp only [size_setCell]; omega)).trans hset.out, fun g k => rfl⟩
      | true =>
        rw [hgot, hk2, he]
        have he' : 0 < er := by simpa using he
        clear hgot ha hcells hc hW he
        go_enter Try.func30, Try.ntmps30
        go_wp2_with fail
        generalize hWe : (w.setCell ⟨nb, 0, none⟩ (.int .i64 (m + 1))).alloc (.cells #[.int .i64 kd, d1, d2, d3, d4, d5, d6, d7, d8, d9, d10, d11, .int .i64 er, d13] 54) = W
        have hWbut : But (· = nb) w W := by rw [← hWe]; exact hWH.out.alloc _
        have hWn : W.heap[nb]? = some (intObj (m + 1)) := by rw [← hWe]; exact (Below.heap_alloc _ _ _ (by simp only [size_setCell]; omega)).trans hset.out
        have hWs : W.heap.size = w.heap.size + 1 := by rw [← hWe]; simp only [size_alloc, size_setCell]
        have y12 : W.cell? ⟨w.heap.size, 12, none⟩ = some (.int .i64 er) := by rw [← hWe]; simp [go_sem, World.setCell]
        have hSk : ∀ w', Below W.heap.size W w' → w'.cell? ⟨tb, 0, none⟩ = some c0 ∧ w'.cell? ⟨tb, 1, none⟩ = some c1 ∧ w'.cell? ⟨tb, 2, none⟩ = some c2 ∧ w'.cell? ⟨tb, 3, none⟩ = some c3 ∧ w'.cell? ⟨tb, 4, none⟩ = some c4 ∧ w'.cell? ⟨tb, 5, none⟩ = some c5 ∧ w'.cell? ⟨tb, 6, none⟩ = some c6 ∧ w'.cell? ⟨tb, 7, none⟩ = some c7 ∧ w'.cell? ⟨tb, 8, none⟩ = some c8 ∧ w'.cell? ⟨tb, 9, none⟩ = some c9 ∧ w'.cell? ⟨tb, 10, none⟩ = some c10 ∧ w'.cell? ⟨w.heap.size, 12, none⟩ = some (.int .i64 er) := fun w' hb' => by
          have hq := hq0.out _ hWbut
          exact ⟨keeps_of_below hb' _ _ (hq 0), keeps_of_below hb' _ _ (hq 1), keeps_of_below hb' _ _ (hq 2), keeps_of_below hb' _ _ (hq 3), keeps_of_below hb' _ _ (hq 4), keeps_of_below hb' _ _ (hq 5), keeps_of_below hb' _ _ (hq 6), keeps_of_below hb' _ _ (hq 7), keeps_of_below hb' _ _ (hq 8), keeps_of_below hb' _ _ (hq 9), keeps_of_below hb' _ _ (hq 10), keeps_of_below hb' _ _ y12⟩
        clear hWe
        refine wp_region_held_drew (S := (fun w' => w'.cell? ⟨tb, 0, none⟩ = some c0 ∧ w'.cell? ⟨tb, 1, none⟩ = some c1 ∧ w'.cell? ⟨tb, 2, none⟩ = some c2 ∧ w'.cell? ⟨tb, 3, none⟩ = some c3 ∧ w'.cell? ⟨tb, 4, none⟩ = some c4 ∧ w'.cell? ⟨tb, 5, none⟩ = some c5 ∧ w'.cell? ⟨tb, 6, none⟩ = some c6 ∧ w'.cell? ⟨tb, 7, none⟩ = some c7 ∧ w'.cell? ⟨tb, 8, none⟩ = some c8 ∧ w'.cell? ⟨tb, 9, none⟩ = some c9 ∧ w'.cell? ⟨tb, 10, none⟩ = some c10 ∧ w'.cell? ⟨w.heap.size, 12, none⟩ = some (.int .i64 er))) (by kernel_rfl) ?_ (fun hHeld => ?_)
        · exact hSk _ (Below.refl _ W).drew
        refine wpAnyH_take (i := 0) (v := ?ve0) rfl (by kernel_rfl) (by kernel_rfl) (by kernel_rfl) (fun _ _ _ h => h) (.inl ⟨by rfl, ?hye0⟩) (by assumption) ?reste0
        case hye0 => (intro w hSw; (try dsimp only at hSw); go_simp; first | done | with_reducible rfl)
        (try simp only [Act.put, List.setIfInBounds_toArray, List.set_cons_zero, List.set_cons_succ, List.getElem_toArray, List.getElem_cons_zero, List.getElem_cons_succ])
        refine wpAnyH_take (i := 2) (v := ?ve2) rfl (by kernel_rfl) (by kernel_rfl) (by kernel_rfl) (fun _ _ _ h => h) (.inl ⟨by rfl, ?hye2⟩) (by assumption) ?reste2
        case hye2 => (intro w hSw; (try dsimp only at hSw); go_simp; first | done | with_reducible rfl)
        (try simp only [Act.put, List.setIfInBounds_toArray, List.set_cons_zero, List.set_cons_succ, List.getElem_toArray, List.getElem_cons_zero, List.getElem_cons_succ])
        refine wpAnyH_take (i := 3) (v := ?ve3) rfl (by kernel_rfl) (by kernel_rfl) (by kernel_rfl) (fun _ _ _ h => h) (.inl ⟨by rfl, ?hye3⟩) (by assumption) ?reste3
        case hye3 => (intro w hSw; (try dsimp only at hSw); go_simp; first | done | with_reducible rfl)
        (try simp only [Act.put, List.setIfInBounds_toArray, List.set_cons_zero, List.set_cons_succ, List.getElem_toArray, List.getElem_cons_zero, List.getElem_cons_succ])
        refine wpAnyH_ready (rs := [1]) (by kernel_rfl) (by simp) ?_
        refine AllReadyH.cons rfl (fun K hK => ?_) AllReadyH.nil
        rw [if_pos (by rfl)]
        go_simp
        refine (hrs.out W.drew hWbut.drew).mono ?_
        rintro e w' ⟨hre, hb⟩
        have hb0 : Below W.heap.size W w' := ((Below.refl W.heap.size W).drew).trans hb
        obtain ⟨oa', rfl⟩ : ∃ oa', e = .returned (.pointer oa') := by
          cases hr : isRecB (builtV t) with
          | true => obtain ⟨a, fs, h, -⟩ := hre.1 hr; exact ⟨some a, h⟩
          | false => exact ⟨none, hre.2 hr⟩
        clear hre
        refine hK.out _ _ ?_ (fun hHeld2 => ?_)
        · exact hSk _ hb0
        clear hK K
        (try simp only [Act.put, List.setIfInBounds_toArray, List.set_cons_zero, List.set_cons_succ, List.getElem_toArray, List.getElem_cons_zero, List.getElem_cons_succ])
        refine wpAnyH_take (i := 4) (v := ?ve4) rfl (by kernel_rfl) (by kernel_rfl) (by kernel_rfl) (fun _ _ _ h => h) (.inl ⟨by rfl, ?hye4⟩) (by assumption) ?reste4
        case hye4 => (intro w hSw; (try dsimp only at hSw); go_simp; first | done | with_reducible rfl)
        (try simp only [Act.put, List.setIfInBounds_toArray, List.set_cons_zero, List.set_cons_succ, List.getElem_toArray, List.getElem_cons_zero, List.getElem_cons_succ])
        refine wpAnyH_take (i := 5) (v := ?ve5) rfl (by kernel_rfl) (by kernel_rfl) (by kernel_rfl) (fun _ _ _ h => h) (.inl ⟨by rfl, ?hye5⟩) (by assumption) ?reste5
        case hye5 => (intro w hSw; (try dsimp only at hSw); go_simp; first | done | with_reducible rfl)
        (try simp only [Act.put, List.setIfInBounds_toArray, List.set_cons_zero, List.set_cons_succ, List.getElem_toArray, List.getElem_cons_zero, List.getElem_cons_succ])
        refine wpAnyH_done (by kernel_rfl) ?_ _
        go_wp2_with fail
        go_ret2
        exact ⟨hWbut.trans ((below_but0' hb0).mono (fun i hi h => by have h' : W.heap.size ≤ i := h; exact absurd hi (by have := hWbut.size; omega))), (hb0.block nb (by omega)).trans hWn, fun g k => ⟨oa', rfl⟩⟩
end
end Go.Proofs.Ytpcbdjfonmohaaa
