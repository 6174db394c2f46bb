/- tenonlaw12.LazyAgain: the walk. -/
import Derived.Test.YtpcbdjfonmohaaaAgain
namespace Go.Proofs.Ytpcbdjfonmohaaa
open Go.RowKit
set_option linter.unusedVariables false
set_option linter.unusedSimpArgs false

theorem gotAt_fine (ans : List (Int × Int)) (v : Val) (m : Nat) : (gotAt ans v m).fine := by
  unfold gotAt
  cases ha : ans[m]? with
  | none =>
    cases hr : isRecB v with
    | true => exact isRec_ex hr
    | false => trivial
  | some a =>
    obtain ⟨k, e⟩ := a
    dsimp only
    cases hk : (k == 2) with
    | true =>
      show (panK (((m : Int) + 1) % 6) != 0) = true
      unfold panK
      cases hz : (((m : Int) + 1) % 6 == 0) with
      | true => rfl
      | false => simpa using hz
    | false =>
      cases he : decide (0 < e) with
      | true =>
        have : 0 < e := by simpa using he
        show (e != 0) = true
        simp; omega
      | false => trivial
theorem gotAt_bad {ans : List (Int × Int)} (v : Val) {m : Nat} (h : m < ans.length) : ((gotAt ans v m).why == 0) = false := by
  unfold gotAt
  obtain ⟨⟨k, e⟩, ha⟩ : ∃ p, ans[m]? = some p := ⟨_, List.getElem?_eq_getElem h⟩
  rw [ha]
  dsimp only
  cases hk : (k == 2) with
  | true => rfl
  | false =>
    cases he : decide (0 < e) with
    | true =>
      have : 0 < e := by simpa using he
      show (e == 0) = false
      simp; omega
    | false => rfl
theorem gotAt_end {ans : List (Int × Int)} (v : Val) : (gotAt ans v ans.length).why = bif isRecB v then whyF v else 7 := by
  unfold gotAt
  rw [List.getElem?_eq_none (Nat.le_refl _)]
  cases isRecB v <;> rfl

/-- What the fetch leans on. -/
structure AgPre (W0 : World) (nb g fb tb : Nat) (sv : Value) (cs : List Value) (w : World) : Prop where
  old : Below W0.heap.size W0 w
  box : w.heap[tb]? = some (.cells cs.toArray 34 (0, 0))
  row : w.heap[fb]? = some (.cells #[sv] 52 (0, 0))
/-- What the law leans on between its calls. -/
structure AgSt (W0 : World) (nb g fb tb : Nat) (sv : Value) (cs : List Value) (w : World) (m : Nat) (gb : Obj) : Prop where
  pre : AgPre W0 nb g fb tb sv cs w
  cnt : w.heap[nb]? = some (intObj m)
  gst : w.heap[g]? = some gb
theorem AgSt.below {W0 : World} {nb g fb tb : Nat} {sv : Value} {cs : List Value} {w w' : World} {m : Nat} {gb : Obj} (h : AgSt W0 nb g fb tb sv cs w m gb) (hb : Below w.heap.size w w') : AgSt W0 nb g fb tb sv cs w' m gb :=
  ⟨⟨h.pre.old.trans (below_le hb h.pre.old.size), (hb.block _ (Array.getElem?_eq_some_iff.1 h.pre.box).1).trans h.pre.box, (hb.block _ (Array.getElem?_eq_some_iff.1 h.pre.row).1).trans h.pre.row⟩, (hb.block _ (Array.getElem?_eq_some_iff.1 h.cnt).1).trans h.cnt, (hb.block _ (Array.getElem?_eq_some_iff.1 h.gst).1).trans h.gst⟩
section
variable {W0 : World} {t : Term} {cs : List Value} {ans : List (Int × Int)} {sv : Value} (ht : TRep W0 t cs) (ha : AnsAt W0 sv ans) {nb g fb tb : Nat} (id : Int) (h1 : W0.heap.size ≤ nb) (h2 : W0.heap.size ≤ g) (h3 : ¬ tb = nb) (h4 : ¬ tb = g) (h5 : ¬ fb = nb) (h6 : ¬ fb = g) (hne : ¬ nb = g)
include ht ha h1 h2 h3 h4 h5 h6 hne
theorem again_fetch {w : World} (gb : Obj) {m : Nat} (hm : m ≤ 1048576) (hp : AgPre W0 nb g fb tb sv cs w) (hn : w.heap[nb]? = some (intObj m)) :
    Fetching 30 #[.pointer (some ⟨nb, 0, none⟩), .pointer (some ⟨fb, 0, none⟩), .pointer (some ⟨tb, 0, none⟩)] id w g gb (· = nb) (gotAt ans (builtV t) m) (fun _ W' => W'.heap[nb]? = some (intObj (m + 1))) := by
  intro W hW hgW
  have hlt := (Array.getElem?_eq_some_iff.1 hn).1
  have hw : Below W0.heap.size W0 W := hp.old.trans (hW.below' hp.old.size (fun i hi e => by omega))
  refine (again1_said nb fb tb m id ans t cs sv W hm ((hW.block nb hlt hne).trans hn) ((hW.block tb (Array.getElem?_eq_some_iff.1 hp.box).1 h4).trans hp.box) ((hW.block fb (Array.getElem?_eq_some_iff.1 hp.row).1 h6).trans hp.row) h3 h5 ht.len
    (fun w' hb => ⟨TRep.keep (keeps_of_below (hw.trans (hb.below' hw.size (fun i hi e => by omega)))) _ _ ht, ha.keep (keeps_of_below (hw.trans (hb.below' hw.size (fun i hi e => by omega))))⟩)).mono ?_
  rintro e W' ⟨hb, hn', hs⟩
  exact ⟨hb.mono (fun i _ h => ⟨h, by omega⟩), hs _ _, hn'⟩
theorem load_again {w : World} {m : Nat} {last : Int} (hm : m ≤ 1048576) (hp : AgPre W0 nb g fb tb sv cs w) (hn : w.heap[nb]? = some (intObj m))
    (hg : w.heap[g]? = some (ghostObj id (.func (.func 30) #[] #[.pointer (some ⟨nb, 0, none⟩), .pointer (some ⟨fb, 0, none⟩), .pointer (some ⟨tb, 0, none⟩)]) none false last none)) :
    Calls Try.prog 26 #[.pointer (some ⟨g, 0, none⟩)] w fun e w' => e = .returned (.int .i64 (gotAt ans (builtV t) m).why) ∧ (∃ r, w'.heap[g]? = some (ghostObj id (.func (.func 30) #[] #[.pointer (some ⟨nb, 0, none⟩), .pointer (some ⟨fb, 0, none⟩), .pointer (some ⟨tb, 0, none⟩)]) r false (gotAt ans (builtV t) m).why none) ∧ r.isSome = ((gotAt ans (builtV t) m).why == 0)) ∧ w'.heap[nb]? = some (intObj (m + 1)) ∧ AgPre W0 nb g fb tb sv cs w' := by
  refine (Load_of w g (fun n w' => n = (gotAt ans (builtV t) m).why ∧ Loads (gotAt ans (builtV t) m) w g id (.func (.func 30) #[] #[.pointer (some ⟨nb, 0, none⟩), .pointer (some ⟨fb, 0, none⟩), .pointer (some ⟨tb, 0, none⟩)]) (· = nb) (fun _ W' => W'.heap[nb]? = some (intObj (m + 1))) w') ((load_fetch 30 #[.pointer (some ⟨nb, 0, none⟩), .pointer (some ⟨fb, 0, none⟩), .pointer (some ⟨tb, 0, none⟩)] w g id last hg (fun _ _ => by kernel_rfl) (· = nb) (fun e => hne e.symm) (gotAt ans (builtV t) m) (gotAt_fine _ _ _) _
    (again_fetch ht ha id h1 h2 h3 h4 h5 h6 hne _ hm hp hn) ?_).mono ?_)).mono ?_
  · intro W W' W'' hr hb
    have hl := (Array.getElem?_eq_some_iff.1 hn).1
    have hl' := (Array.getElem?_eq_some_iff.1 hr).1
    exact (hb.block nb hl' (by omega)).trans hr
  · rintro e w' ⟨rfl, hL⟩
    exact ⟨_, rfl, rfl, hL⟩
  · rintro e w' ⟨n, rfl, rfl, hb, ⟨W, -, hn'⟩, hz, hnz⟩
    have hgl := (Array.getElem?_eq_some_iff.1 hg).1
    refine ⟨rfl, ?_, hn', hp.old.trans (hb.below' hp.old.size (fun i hi e => by omega)), (hb.block tb (Array.getElem?_eq_some_iff.1 hp.box).1 (by omega)).trans hp.box, (hb.block fb (Array.getElem?_eq_some_iff.1 hp.row).1 (by omega)).trans hp.row⟩
    by_cases hw : (gotAt ans (builtV t) m).why = 0
    · obtain ⟨b, v, fs, -, -, hgb, -⟩ := hz hw
      exact ⟨_, by rw [hw]; exact hgb, by rw [hw]; rfl⟩
    · exact ⟨none, hnz hw, by simp [hw]⟩
end

set_option maxRecDepth 100000 in
set_option maxHeartbeats 1600000 in
theorem again_walk (t : Term) (cs : List Value) (sv : Value) (ans : List (Int × Int)) (w : World) (ht : TRep w t cs) (ha : AnsAt w sv ans) :
    Calls Try.prog 5 #[sv, .agg cs.toArray] w fun e w' => e = .returned (.bool true) ∧ Below w.heap.size w w' := by
  have haH := Lib.hid ha
  obtain ⟨oa, cap, rfl, hcap, hmax, hal, hans⟩ := ha
  unfold maxLen at hmax
  obtain ⟨c0, c1, c2, c3, c4, c5, c6, c7, c8, c9, c10, rfl⟩ := eleven ht.len
  have htH := Lib.hid ht
  have hlives := Lib.hid (fun W => lives_said W)
  have hmf : ∀ (fn : Fn) (first cap : Array Value) (w : World), (Instr.makeFunc fn first cap).run Try.prog w = .ok (.func fn first cap) w := fun _ _ _ _ => rfl
  clear ht hans
  go_enter Try.func5, Try.ntmps5
  go_wp2_with fail
  refine (hlives.out _).mono ?_
  rintro e w1 ⟨rfl, hb1⟩
  have hbf := (hb1.block w.heap.size (by simp only [size_alloc]; omega)).trans ((Below.heap_alloc _ _ _ (by simp only [size_alloc]; omega)).trans (heap_alloc_at (w := w) (.cells #[.slice oa ans.length cap] 52) rfl))
  have hbx := (hb1.block (w.heap.size + 1) (by simp only [size_alloc]; omega)).trans (heap_alloc_at (w := w.alloc (.cells #[.slice oa ans.length cap] 52)) (.cells #[c0, c1, c2, c3, c4, c5, c6, c7, c8, c9, c10] 34) (by simp only [size_alloc]))
  have hb1' : Below w.heap.size w w1 := (((Below.refl _ _).alloc (Nat.le_refl _) _).alloc (by simp only [size_alloc]; omega) _).trans (below_le hb1 (by simp only [size_alloc]; omega))
  have hs1 : w.heap.size + 2 ≤ w1.heap.size := by have := hb1.size; simp only [size_alloc] at this; omega
  have hbfH := Lib.hid hbf
  have hbxH := Lib.hid hbx
  have hnew := Lib.hid (New_said 30 #[.pointer (some ⟨w1.heap.size, 0, none⟩), .pointer (some ⟨w.heap.size, 0, none⟩), .pointer (some ⟨w.heap.size + 1, 0, none⟩)] 3 (w1.alloc (.cells #[.int .i64 0] 3)) (by decide))
  clear hb1 hbx hbf
  go_wp2_with fail
  refine hnew.out.mono ?_
  simp only [size_alloc]
  rintro e w4 ⟨rfl, hg, hb4⟩
  have hal2 : Below w1.heap.size w1 (w1.alloc (.cells #[.int .i64 0] 3)) := (Below.refl _ _).alloc (Nat.le_refl _) _
  have hb4' : Below w1.heap.size w1 w4 := hal2.trans (hb4.mono (Nat.le_succ _))
  have hload := Lib.hid (fun (W : World) (m : Nat) (last : Int) => load_again (w := W) (m := m) (last := last) htH.out haH.out (nb := w1.heap.size) (g := w1.heap.size + 1) (fb := w.heap.size) (tb := w.heap.size + 1) 3 (by omega) (by omega) (by omega) (by omega) (by omega) (by omega) (by omega))
  have s4 : Hid (AgPre w w1.heap.size (w1.heap.size + 1) w.heap.size (w.heap.size + 1) (.slice oa ans.length cap) [c0, c1, c2, c3, c4, c5, c6, c7, c8, c9, c10] w4) :=
    Lib.hid ⟨hb1'.trans (below_le hb4' hb1'.size), (hb4'.block _ (by omega)).trans hbxH.out, (hb4'.block _ (by omega)).trans hbfH.out⟩
  have n4 : Hid (w4.heap[w1.heap.size]? = some (intObj 0)) := Lib.hid ((hb4.block _ (Nat.lt_succ_self _)).trans (heap_alloc_at _ rfl))
  have hgH := Lib.hid hg
  clear hb4 hb4' hal2 hg hbfH hbxH hb1' hnew hlives
  go_wp2_with fail
  go_loopw [8] (fun i wr => ∃ (j : Nat) (last : Int), j ≤ ans.length ∧ i = .int .i64 j ∧ AgPre w w1.heap.size (w1.heap.size + 1) w.heap.size (w.heap.size + 1) (.slice oa ans.length cap) [c0, c1, c2, c3, c4, c5, c6, c7, c8, c9, c10] wr ∧ wr.heap[w1.heap.size]? = some (intObj j) ∧ wr.heap[w1.heap.size + 1]? = some (ghostObj 3 (.func (.func 30) #[] #[.pointer (some ⟨w1.heap.size, 0, none⟩), .pointer (some ⟨w.heap.size, 0, none⟩), .pointer (some ⟨w.heap.size + 1, 0, none⟩)]) none false last none)) (fun i _ => ans.length - (intOf i).toNat)
  case atStart => exact ⟨0, 0, Nat.zero_le _, rfl, s4.out, n4.out, hgH.out⟩
  case round =>
    obtain ⟨j, last, hj, rfl, hp, hn, hg⟩ := hrel
    have q0 := (intCell hn).1
    have qf := oneCellAt hp.row
    have hl := Lib.hid (hload.out wr j last (by omega) hp hn hg)
    have hpH := Lib.hid hp
    have hnH := Lib.hid hn
    have hgHr := Lib.hid hg
    clear hn hg hp
    by_cases hlt : j < ans.length
    · have hbad := gotAt_bad (builtV t) hlt
      go_wp2_with fail
      refine hl.out.mono ?_
      rintro e w5 ⟨rfl, ⟨r, hg5, hr5⟩, hn5, hp5⟩
      rw [hbad] at hr5
      have q5 := (intCell hn5).1
      have h5 := Lib.hid (And.intro hg5 (And.intro hn5 hp5))
      have hld := Lib.hid (Loaded_said _ w5 _ 3 _ r false none hg5)
      have hla := Lib.hid (Last_said _ w5 _ 3 _ r false none hg5)
      rw [hr5] at hld
      have hrn : r = none := by cases r with | none => rfl | some a => cases hr5
      subst hrn
      obtain ⟨y, hy⟩ : ∃ y, y = (gotAt ans (builtV t) j).why := ⟨_, rfl⟩
      rw [← hy] at hbad hla
      rw [← hy]
      rw [← hy] at h5
      clear hg5 hn5 hp5 hr5 hy q0 qf hl
      go_wp2_with fail
      refine hld.out.mono ?_
      rintro e w6 ⟨rfl, rfl⟩
      go_wp2_with fail
      refine hla.out.mono ?_
      rintro e w7 ⟨rfl, rfl⟩
      go_wp2_with fail
      obtain ⟨hg7, hn7, hp7⟩ := h5.out
      go_roundw
      case rel => exact ⟨j + 1, y, by omega, by go_num, hp7, hn7, hg7⟩
      case measure => simp [intOf]; omega
    · obtain rfl : j = ans.length := by omega
      have s0 : Hid (AgSt w w1.heap.size (w1.heap.size + 1) w.heap.size (w.heap.size + 1) (.slice oa ans.length cap) [c0, c1, c2, c3, c4, c5, c6, c7, c8, c9, c10] wr ans.length (ghostObj 3 (.func (.func 30) #[] #[.pointer (some ⟨w1.heap.size, 0, none⟩), .pointer (some ⟨w.heap.size, 0, none⟩), .pointer (some ⟨w.heap.size + 1, 0, none⟩)]) none false last none)) := Lib.hid ⟨hpH.out, hnH.out, hgHr.out⟩
      have q0 := block_cell s0.out.pre.box 0
      have q1 := block_cell s0.out.pre.box 1
      have q2 := block_cell s0.out.pre.box 2
      have q3 := block_cell s0.out.pre.box 3
      have q4 := block_cell s0.out.pre.box 4
      have q5 := block_cell s0.out.pre.box 5
      have q6 := block_cell s0.out.pre.box 6
      have q7 := block_cell s0.out.pre.box 7
      have q8 := block_cell s0.out.pre.box 8
      have q9 := block_cell s0.out.pre.box 9
      have q10 := block_cell s0.out.pre.box 10
      simp only [List.getElem?_toArray, List.getElem?_cons_zero, List.getElem?_cons_succ] at q0 q1 q2 q3 q4 q5 q6 q7 q8 q9 q10
      have hra := Lib.hid (record_said t _ wr (TRep.keep (keeps_of_below s0.out.pre.old) _ _ htH.out))
      clear hl
      go_wp2_with fail
      refine hra.out.mono ?_
      rintro e wa ⟨hre, hba⟩
      have sa := Lib.hid (s0.out.below hba)
      clear hba hra
      clear q0 q1 q2 q3 q4 q5 q6 q7 q8 q9 q10
      cases hr : isRecB (builtV t) with
      | true =>
        obtain ⟨a, fs, rfl, hv, -, -⟩ := hre.1 hr
        have hck := Lib.hid (Check_any hv)
        have hrH := Lib.hid hr
        clear hre hr hv

        go_wp2_with fail
        refine hck.out.mono ?_
        rintro e wb ⟨rfl, hbb⟩
        have sb := Lib.hid (sa.out.below hbb)
        have q0 := block_cell sb.out.pre.box 0
        have q1 := block_cell sb.out.pre.box 1
        have q2 := block_cell sb.out.pre.box 2
        have q3 := block_cell sb.out.pre.box 3
        have q4 := block_cell sb.out.pre.box 4
        have q5 := block_cell sb.out.pre.box 5
        have q6 := block_cell sb.out.pre.box 6
        have q7 := block_cell sb.out.pre.box 7
        have q8 := block_cell sb.out.pre.box 8
        have q9 := block_cell sb.out.pre.box 9
        have q10 := block_cell sb.out.pre.box 10
        simp only [List.getElem?_toArray, List.getElem?_cons_zero, List.getElem?_cons_succ] at q0 q1 q2 q3 q4 q5 q6 q7 q8 q9 q10

        have hrb := Lib.hid (record_said t _ wb (TRep.keep (keeps_of_below sb.out.pre.old) _ _ htH.out))
        clear hbb hck
        go_wp2_with fail
        refine hrb.out.mono ?_
        rintro e wc ⟨hre, hbc⟩
        have sc := Lib.hid (sb.out.below hbc)

        obtain ⟨a', fs', rfl, -, -, -⟩ := hre.1 hrH.out

        have hlc := Lib.hid (hload.out wc ans.length last hal sc.out.pre sc.out.cnt sc.out.gst)
        clear hre hbc hrb
        clear q0 q1 q2 q3 q4 q5 q6 q7 q8 q9 q10
        go_wp2_with fail
        refine hlc.out.mono ?_
        rintro e wd ⟨rfl, ⟨r, hgd, hrd⟩, hnd, hpd⟩
        have hld := Lib.hid (Loaded_said _ wd _ 3 _ r false none hgd)
        have hend : (gotAt ans (builtV t) ans.length).why = whyF (builtV t) := by rw [gotAt_end, hrH.out]; rfl
        rw [hend] at hrd ⊢
        rw [hrd] at hld
        have qd := (intCell hnd).1
        have qfd := oneCellAt hpd.row
        have hold := Lib.hid hpd.old
        clear hgd hnd hpd hrd hend

        have hwe : whyF (builtV t) = (checkF (builtV t)).2 := rfl
        rw [hwe] at hld ⊢
        clear hwe

        go_wp2_with fail
        refine hld.out.mono ?_
        rintro e wf ⟨rfl, rfl⟩
        go_wp2_with fail
        go_ret
        exact ⟨by simp, hold.out⟩
      | false =>
        have he := hre.2 hr
        subst he
        have hck := Lib.hid (Check_any (w := wa) (v := .nothing) (fs := []) ⟨rfl, rfl⟩)
        have hrH := Lib.hid hr
        clear hre hr

        go_wp2_with fail
        refine hck.out.mono ?_
        rintro e wb ⟨rfl, hbb⟩
        have sb := Lib.hid (sa.out.below hbb)
        have q0 := block_cell sb.out.pre.box 0
        have q1 := block_cell sb.out.pre.box 1
        have q2 := block_cell sb.out.pre.box 2
        have q3 := block_cell sb.out.pre.box 3
        have q4 := block_cell sb.out.pre.box 4
        have q5 := block_cell sb.out.pre.box 5
        have q6 := block_cell sb.out.pre.box 6
        have q7 := block_cell sb.out.pre.box 7
        have q8 := block_cell sb.out.pre.box 8
        have q9 := block_cell sb.out.pre.box 9
        have q10 := block_cell sb.out.pre.box 10
        simp only [List.getElem?_toArray, List.getElem?_cons_zero, List.getElem?_cons_succ] at q0 q1 q2 q3 q4 q5 q6 q7 q8 q9 q10

        have hrb := Lib.hid (record_said t _ wb (TRep.keep (keeps_of_below sb.out.pre.old) _ _ htH.out))
        clear hbb hck
        go_wp2_with fail
        refine hrb.out.mono ?_
        rintro e wc ⟨hre, hbc⟩
        have sc := Lib.hid (sb.out.below hbc)

        have he := hre.2 hrH.out
        subst he

        have hlc := Lib.hid (hload.out wc ans.length last hal sc.out.pre sc.out.cnt sc.out.gst)
        clear hre hbc hrb
        clear q0 q1 q2 q3 q4 q5 q6 q7 q8 q9 q10
        go_wp2_with fail
        refine hlc.out.mono ?_
        rintro e wd ⟨rfl, ⟨r, hgd, hrd⟩, hnd, hpd⟩
        have hld := Lib.hid (Loaded_said _ wd _ 3 _ r false none hgd)
        have hend : (gotAt ans (builtV t) ans.length).why = 7 := by rw [gotAt_end, hrH.out]; rfl
        rw [hend] at hrd ⊢
        rw [hrd] at hld
        have qd := (intCell hnd).1
        have qfd := oneCellAt hpd.row
        have hold := Lib.hid hpd.old
        clear hgd hnd hpd hrd hend

        go_wp2_with fail
        refine hld.out.mono ?_
        rintro e wf ⟨rfl, rfl⟩
        go_wp2_with fail
        go_ret
        exact ⟨by simp, hold.out⟩
end Go.Proofs.Ytpcbdjfonmohaaa
