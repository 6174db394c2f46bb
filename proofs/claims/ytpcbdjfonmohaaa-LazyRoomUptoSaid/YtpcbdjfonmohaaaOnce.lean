/- tenonlaw12.LazyOnce: the fetch. -/
import Derived.Test.YtpcbdjfonmohaaaRecord
import Derived.Test.YtpcbdjfonmohaaaLivesEnd
namespace Go.Proofs.Ytpcbdjfonmohaaa
open Go.RowKit
set_option linter.unusedVariables false
set_option linter.unusedSimpArgs false

/-- A block's cells. -/
theorem block_cell {w : World} {b : Nat} {cs : Array Value} {t : TypeId} (h : w.heap[b]? = some (.cells cs t (0, 0))) (j : Nat) : w.cell? ⟨b, j, none⟩ = cs[j]? := by simp [World.cell?, h]
set_option maxRecDepth 100000 in
theorem once1_said (nb tb : Nat) (k id : Int) (t : Term) (cs : List Value) (w : World) (hn : w.heap[nb]? = some (intObj k)) (htb : w.heap[tb]? = some (.cells cs.toArray 34 (0, 0))) (hne : ¬ tb = nb)
    (ht : TRep w t cs) (hkeep : ∀ w', But (· = nb) w w' → TRep w' t cs) (hrec : isRecB (builtV t) = true) :
    Calls Try.prog 22 #[.int .u64 id, .pointer (some ⟨nb, 0, none⟩), .pointer (some ⟨tb, 0, none⟩)] w fun e w' => But (· = nb) w w' ∧ w'.heap[nb]? = some (intObj (wrap64 (k + 1))) ∧ ∃ a fs, e = .returned (.tuple #[.pointer (some a), .int .i64 0]) ∧ VRep w' (builtV t) (.iface 37 (.pointer (some a))) fs ∧ ∀ b ∈ fs, w.heap.size ≤ b := by
  obtain ⟨n0, nlt, nfz⟩ := intCell hn
  have hH := Lib.hid hn
  have hW : But (· = nb) w (w.setCell ⟨nb, 0, none⟩ (.int .i64 (wrap64 (k + 1)))) := (But.refl (· = nb) w).setCell (p := ⟨nb, 0, none⟩) (fun _ => rfl) _
  have hrs := Lib.hid (record_said t cs _ (hkeep _ hW))
  have hrecH := Lib.hid hrec
  have hset := Lib.hid (setCell_block hn 0 (.int .i64 (wrap64 (k + 1))))
  obtain ⟨c0, c1, c2, c3, c4, c5, c6, c7, c8, c9, c10, rfl⟩ := eleven ht.len
  have q := fun j => (block_cell (hW.block tb (Array.getElem?_eq_some_iff.1 htb).1 hne |>.trans htb)) j
  have q0 := q 0
  have q1 := q 1
  have q2 := q 2
  have q3 := q 3
  have q4 := q 4
  have q5 := q 5
  have q6 := q 6
  have q7 := q 7
  have q8 := q 8
  have q9 := q 9
  have q10 := q 10
  simp only [List.getElem?_toArray, List.getElem?_cons_zero, List.getElem?_cons_succ] at q0 q1 q2 q3 q4 q5 q6 q7 q8 q9 q10
  clear q hn ht hkeep htb hrec
  have hWH := Lib.hid hW
  clear hW
  go_enter Try.func22, Try.ntmps22
  go_wp2_with fail
  refine hrs.out.mono ?_
  rintro e w' ⟨⟨h1, -⟩, hb⟩
  obtain ⟨a, fs, rfl, hv, -, hfs⟩ := h1 hrecH.out
  have hfin := Lib.hid (And.intro hb (And.intro hv hfs))
  clear h1 hb hv hfs
  go_wp2_with fail
  go_ret2
  obtain ⟨hb, hv, hfs⟩ := hfin.out
  rw [size_setCell] at hb hfs
  exact ⟨hWH.out.trans (below_but0' hb |>.mono (fun i hi h => absurd hi (by simp only [size_setCell]; omega))), (hb.block nb nlt).trans hset.out, a, fs, rfl, hv, hfs⟩
/-- What the fetch leans on: the arguments lie as they lay; the box with the term. -/
def OncePre (W0 : World) (tb : Nat) (cs : List Value) (w : World) : Prop := Below W0.heap.size W0 w ∧ w.heap[tb]? = some (.cells cs.toArray 34 (0, 0))
theorem once_counts {W0 : World} {t : Term} {cs : List Value} (ht : TRep W0 t cs) {nb g tb : Nat} (id : Int) (h1 : W0.heap.size ≤ nb) (h2 : W0.heap.size ≤ g) (h3 : ¬ tb = nb) (h4 : ¬ tb = g) (hrec : isRecB (builtV t) = true) (hok : okB (builtV t) = true) :
    Counts 22 #[.pointer (some ⟨nb, 0, none⟩), .pointer (some ⟨tb, 0, none⟩)] id (builtV t) nb g (OncePre W0 tb cs) where
  enters := fun _ _ => by kernel_rfl
  ok := hok
  isrec := isRec_ex hrec
  fetch := fun w gb k hp hn hne W hW hgW => by
    have hlt := (Array.getElem?_eq_some_iff.1 hn).1
    have hw : Below W0.heap.size W0 W := hp.1.trans (hW.below' hp.1.size (fun i hi e => by omega))
    refine (once1_said nb tb k id t cs W ((hW.block nb hlt hne).trans hn) ((hW.block tb (Array.getElem?_eq_some_iff.1 hp.2).1 h4).trans hp.2) h3 (TRep.keep (keeps_of_below hw) _ _ ht) (fun w' hb => TRep.keep (keeps_of_below (hw.trans (hb.below' hw.size (fun i hi e => by omega)))) _ _ ht) hrec).mono ?_
    rintro e W' ⟨hb, hn', a, fs, rfl, hv, hfs⟩
    exact ⟨hb.mono (fun i _ h => ⟨h, by omega⟩), ⟨a, fs, rfl, hv, fun b hb => .inr (hfs b hb)⟩, hn'⟩
  keep := fun w w' hp hb => ⟨hp.1.trans (hb.below' hp.1.size (fun i hi e => by omega)), (hb.block tb (Array.getElem?_eq_some_iff.1 hp.2).1 (by omega)).trans hp.2⟩

/-- What is read of the asks. -/
def AsksAt (w : World) (v : Value) (n : Nat) : Prop := ∃ oa cap, v = .slice oa n cap ∧ n ≤ cap ∧ cap ≤ maxLen ∧ (0 < n → ∃ b o, oa = some ⟨b, o, none⟩ ∧ ∀ i, i < n → ∃ k on nm r, w.cell? ⟨b, o + i * 4, none⟩ = some (.int .i64 k) ∧ w.cell? ⟨b, o + i * 4 + 1, none⟩ = some (.int .i64 on) ∧ w.cell? ⟨b, o + i * 4 + 2, none⟩ = some (.string nm) ∧ w.cell? ⟨b, o + i * 4 + 3, none⟩ = some (.int .u64 r))

theorem getEnd_any {o : Option Val} {Q : World → Prop} {e : Ending} {w : World} (h : GetEnd o Q e w) : ∃ y y2 w', e = .returned (.tuple #[y, y2]) ∧ Q w' ∧ Below w'.heap.size w' w := by
  cases o with
  | none => obtain ⟨e, w', hq, hb⟩ := h; exact ⟨_, _, w', e, hq, hb⟩
  | some u => obtain ⟨y, w', e, hq, hb, -⟩ := h; exact ⟨_, _, w', e, hq, hb⟩
theorem recEnd_no {v : Val} {w : World} {e : Ending} {w' : World} (h : RecEnd v w e w') (hr : isRecB v = false) : e = .returned (.pointer none) := h.2 hr
set_option maxRecDepth 100000 in
set_option maxHeartbeats 1600000 in
theorem once_walk (t : Term) (cs : List Value) (sv : Value) (n : Nat) (w : World) (ht : TRep w t cs) (ha : AsksAt w sv n) :
    Calls Try.prog 4 #[.agg cs.toArray, sv] w fun e w' => e = .returned (.bool true) ∧ Below w.heap.size w w' := by
  obtain ⟨oa, cap, rfl, hcap, hmax, hask⟩ := ha
  unfold maxLen at hmax
  obtain ⟨c0, c1, c2, c3, c4, c5, c6, c7, c8, c9, c10, rfl⟩ := eleven ht.len
  have htH := Lib.hid ht
  have haskH := Lib.hid hask
  have hlives := Lib.hid (fun W => lives_said W)
  have hmf : ∀ (fn : Fn) (first cap : Array Value) (w : World), (Instr.makeFunc fn first cap).run Try.prog w = .ok (.func fn first cap) w := fun _ _ _ _ => rfl
  clear ht hask
  go_enter Try.func4, Try.ntmps4
  go_wp2_with fail
  refine (hlives.out _).mono ?_
  rintro e w1 ⟨rfl, hb1⟩
  have hbx := (hb1.block w.heap.size (by simp)).trans (heap_alloc_at (w := w) (.cells #[c0, c1, c2, c3, c4, c5, c6, c7, c8, c9, c10] 34) rfl)
  have hb1' : Below w.heap.size w w1 := ((Below.refl _ _).alloc (Nat.le_refl _) _).trans (below_le hb1 (by simp))
  have hs1 : w.heap.size + 1 ≤ w1.heap.size := by have := hb1.size; simpa using this
  have q0 := block_cell hbx 0
  have q1 := block_cell hbx 1
  have q2 := block_cell hbx 2
  have q3 := block_cell hbx 3
  have q4 := block_cell hbx 4
  have q5 := block_cell hbx 5
  have q6 := block_cell hbx 6
  have q7 := block_cell hbx 7
  have q8 := block_cell hbx 8
  have q9 := block_cell hbx 9
  have q10 := block_cell hbx 10
  simp only [List.getElem?_toArray, List.getElem?_cons_zero, List.getElem?_cons_succ] at q0 q1 q2 q3 q4 q5 q6 q7 q8 q9 q10
  have hbxH := Lib.hid hbx
  clear hb1 hbx
  go_wp2_with fail
  have hrs := Lib.hid (record_said t _ w1 (TRep.keep (keeps_of_below hb1') _ _ htH.out))
  refine hrs.out.mono ?_
  rintro e w2 ⟨hre, hb2⟩
  have hb2' : Below w.heap.size w w2 := hb1'.trans (below_le hb2 hb1'.size)
  have hs2 : w1.heap.size ≤ w2.heap.size := hb2.size
  have hbx2 := Lib.hid ((hb2.block w.heap.size (by omega)).trans hbxH.out)
  clear hb2 hb1' hrs q0 q1 q2 q3 q4 q5 q6 q7 q8 q9 q10
  cases hr : isRecB (builtV t) with
  | false =>
    have he := hre.2 hr
    subst he
    have hck := Lib.hid (Check_any (w := w2) (v := .nothing) (fs := []) ⟨rfl, rfl⟩)
    clear hre hr
    go_wp2_with fail
    refine hck.out.mono ?_
    rintro e w3 ⟨rfl, hb3⟩
    go_wp2_with fail
    go_ret
    exact ⟨rfl, hb2'.trans (below_le hb3 hb2'.size)⟩
  | true =>
    obtain ⟨a, fs, rfl, hv, -, hfs⟩ := hre.1 hr
    have hck := Lib.hid (Check_any hv)
    have hrH := Lib.hid hr
    clear hre hr hv hfs
    cases hw : ((checkF (builtV t)).2 != 0) with
    | true =>
      have hwH := Lib.hid hw
      clear hw
      go_wp2_with fail
      refine hck.out.mono ?_
      rintro e w3 ⟨rfl, hb3⟩
      have hw := hwH.out
      go_wp2_with fail
      go_ret
      exact ⟨rfl, hb2'.trans (below_le hb3 hb2'.size)⟩
    | false =>
      have hok : okB (builtV t) = true := by
        cases h : okB (builtV t) with
        | true => rfl
        | false =>
          have h1 := why_bad h
          have h2 : whyF (builtV t) = 0 := by unfold whyF; simpa using hw
          exact absurd h2 h1
      have hokH := Lib.hid hok
      have hwH := Lib.hid hw
      clear hw hok
      go_wp2_with fail
      refine hck.out.mono ?_
      rintro e w3 ⟨rfl, hb3⟩
      have hw := hwH.out
      have hb3' : Below w.heap.size w w3 := hb2'.trans (below_le hb3 hb2'.size)
      have hs3 : w2.heap.size ≤ w3.heap.size := hb3.size
      have hbx3 := Lib.hid ((hb3.block w.heap.size (by omega)).trans hbx2.out)
      have hnew := Lib.hid (New_said 22 #[.pointer (some ⟨w3.heap.size, 0, none⟩), .pointer (some ⟨w.heap.size, 0, none⟩)] 1 (w3.alloc (.cells #[.int .i64 0] 3)) (by decide))
      clear hb3 hck
      go_wp2_with fail
      refine hnew.out.mono ?_
      simp only [size_alloc]
      rintro e w4 ⟨rfl, hg, hb4⟩
      have hC := Lib.hid (once_counts htH.out (nb := w3.heap.size) (g := w3.heap.size + 1) (tb := w.heap.size) 1 hb3'.size (by have := hb3'.size; omega) (by omega) (by omega) hrH.out hokH.out)
      have hal : Below w3.heap.size w3 (w3.alloc (.cells #[.int .i64 0] 3)) := (Below.refl _ _).alloc (Nat.le_refl _) _
      have hb4' : Below w3.heap.size w3 w4 := hal.trans (hb4.mono (Nat.le_succ _))
      have b4 : Below w.heap.size w w4 := hb3'.trans (below_le hb4' hb3'.size)
      have s4 : Hid (Cted 1 (.func (.func 22) #[] #[.pointer (some ⟨w3.heap.size, 0, none⟩), .pointer (some ⟨w.heap.size, 0, none⟩)]) (builtV t) w3.heap.size (w3.heap.size + 1) (OncePre w w.heap.size [c0, c1, c2, c3, c4, c5, c6, c7, c8, c9, c10]) w4 0 false) :=
        Lib.hid ⟨(hb4.block _ (Nat.lt_succ_self _)).trans (heap_alloc_at _ rfl), ⟨0, hg⟩, by omega, ⟨b4, (hb4'.block w.heap.size (by omega)).trans hbx3.out⟩⟩
      obtain ⟨cc, cn, cd, hrecE⟩ := isRec_ex hrH.out
      rw [hrecE] at hC s4
      have hsz3 : w.heap.size < w3.heap.size := by omega
      clear hb4 hb4' hal hg hbx3 hbx2 hokH hrH hwH hw hrecE hb2' hb3' hnew
      go_wp2_with fail
      go_loopw [11, 12, 13] (fun want has i wr => ∃ (j : Nat) (k : Int) (h : Bool), j ≤ n ∧ want = .int .i64 k ∧ has = .bool h ∧ i = .int .i64 j ∧ Cted 1 (.func (.func 22) #[] #[.pointer (some ⟨w3.heap.size, 0, none⟩), .pointer (some ⟨w.heap.size, 0, none⟩)]) (.record cc cn cd) w3.heap.size (w3.heap.size + 1) (OncePre w w.heap.size [c0, c1, c2, c3, c4, c5, c6, c7, c8, c9, c10]) wr k h) (fun _ _ i _ => n - (intOf i).toNat)
      case atStart => exact ⟨0, 0, false, Nat.zero_le _, rfl, rfl, rfl, s4.out⟩
      case round =>
        obtain ⟨j, k, h, hj, rfl, rfl, rfl, hst0⟩ := hrel
        have hst := Lib.hid hst0
        have hbr := hst0.pre.1
        have q0 := (intCell hst0.cnt).1
        clear hst0
        by_cases hlt : j < n
        · obtain ⟨b, o, rfl, hc⟩ := haskH.out (by omega)
          obtain ⟨kd, on, nm, r, e0, e1, e2, e3⟩ := hc j hlt
          have e0' := keeps_of_below hbr _ _ e0
          have e2' := keeps_of_below hbr _ _ e2
          clear e0 e1 e2 e3 hc hbr
          cases h with
          | false =>
            by_cases h0 : kd = 0
            · subst h0
              go_wp2_with fail
              refine (Get_cted hC.out nm hst.out).mono ?_
              intro e wa hge
              obtain ⟨y, y2, wg, rfl, ⟨hsg, -⟩, hbg⟩ := getEnd_any hge
              have hsa : Hid (Cted 1 (.func (.func 22) #[] #[.pointer (some ⟨w3.heap.size, 0, none⟩), .pointer (some ⟨w.heap.size, 0, none⟩)]) (.record cc cn cd) w3.heap.size (w3.heap.size + 1) (OncePre w w.heap.size [c0, c1, c2, c3, c4, c5, c6, c7, c8, c9, c10]) wa (wrap64 (k + 1)) true) := Lib.hid (Cted.but hC.out hsg (below_but0 hbg))
              clear hge hsg hbg
              have qa := (intCell hsa.out.cnt).1
              go_wp2_with fail
              refine (Loaded_cted hsa.out).mono ?_
              rintro e wb ⟨rfl, rfl⟩
              go_wp2_with fail
              refine (Last_cted hsa.out).mono ?_
              rintro e wc ⟨rfl, rfl⟩
              go_wp2_with fail
              go_roundw
              case rel => exact ⟨j + 1, (wrap64 (k + 1)), true, by omega, rfl, rfl, by go_num, hsa.out⟩
              case measure => simp [intOf]; omega
            by_cases h1 : kd = 1
            · subst h1
              go_wp2_with fail
              refine (Class_cted hC.out hst.out).mono ?_
              rintro e wa ⟨rfl, hsg, -⟩
              have hsa : Hid (Cted 1 (.func (.func 22) #[] #[.pointer (some ⟨w3.heap.size, 0, none⟩), .pointer (some ⟨w.heap.size, 0, none⟩)]) (.record cc cn cd) w3.heap.size (w3.heap.size + 1) (OncePre w w.heap.size [c0, c1, c2, c3, c4, c5, c6, c7, c8, c9, c10]) wa (wrap64 (k + 1)) true) := Lib.hid hsg
              clear hsg
              have qa := (intCell hsa.out.cnt).1
              go_wp2_with fail
              refine (Loaded_cted hsa.out).mono ?_
              rintro e wb ⟨rfl, rfl⟩
              go_wp2_with fail
              refine (Last_cted hsa.out).mono ?_
              rintro e wc ⟨rfl, rfl⟩
              go_wp2_with fail
              go_roundw
              case rel => exact ⟨j + 1, (wrap64 (k + 1)), true, by omega, rfl, rfl, by go_num, hsa.out⟩
              case measure => simp [intOf]; omega
            by_cases h2 : kd = 2
            · subst h2
              go_wp2_with fail
              refine (Version_cted hC.out hst.out).mono ?_
              rintro e wa ⟨rfl, hsg, -⟩
              have hsa : Hid (Cted 1 (.func (.func 22) #[] #[.pointer (some ⟨w3.heap.size, 0, none⟩), .pointer (some ⟨w.heap.size, 0, none⟩)]) (.record cc cn cd) w3.heap.size (w3.heap.size + 1) (OncePre w w.heap.size [c0, c1, c2, c3, c4, c5, c6, c7, c8, c9, c10]) wa (wrap64 (k + 1)) true) := Lib.hid hsg
              clear hsg
              have qa := (intCell hsa.out.cnt).1
              go_wp2_with fail
              refine (Loaded_cted hsa.out).mono ?_
              rintro e wb ⟨rfl, rfl⟩
              go_wp2_with fail
              refine (Last_cted hsa.out).mono ?_
              rintro e wc ⟨rfl, rfl⟩
              go_wp2_with fail
              go_roundw
              case rel => exact ⟨j + 1, (wrap64 (k + 1)), true, by omega, rfl, rfl, by go_num, hsa.out⟩
              case measure => simp [intOf]; omega
            by_cases h4 : kd = 4
            · subst h4
              go_wp2_with fail
              refine (Load_cted hC.out hst.out).mono ?_
              rintro e wa ⟨rfl, hsg, -⟩
              have hsa : Hid (Cted 1 (.func (.func 22) #[] #[.pointer (some ⟨w3.heap.size, 0, none⟩), .pointer (some ⟨w.heap.size, 0, none⟩)]) (.record cc cn cd) w3.heap.size (w3.heap.size + 1) (OncePre w w.heap.size [c0, c1, c2, c3, c4, c5, c6, c7, c8, c9, c10]) wa (wrap64 (k + 1)) true) := Lib.hid hsg
              clear hsg
              have qa := (intCell hsa.out.cnt).1
              go_wp2_with fail
              refine (Loaded_cted hsa.out).mono ?_
              rintro e wb ⟨rfl, rfl⟩
              go_wp2_with fail
              refine (Last_cted hsa.out).mono ?_
              rintro e wc ⟨rfl, rfl⟩
              go_wp2_with fail
              go_roundw
              case rel => exact ⟨j + 1, (wrap64 (k + 1)), true, by omega, rfl, rfl, by go_num, hsa.out⟩
              case measure => simp [intOf]; omega
            by_cases h5 : kd = 5
            · subst h5
              go_wp2_with fail
              refine (Forget_cted hC.out hst.out).mono ?_
              rintro e wf ⟨rfl, hs5, -⟩
              have hsf := Lib.hid hs5
              clear hs5
              go_wp2_with fail
              go_roundw
              case rel => exact ⟨j + 1, k, false, by omega, rfl, rfl, by go_num, hsf.out⟩
              case measure => simp [intOf]; omega
            have t0 : (kd == 0) = false := by simpa using h0
            have t1 : (kd == 1) = false := by simpa using h1
            have t2 : (kd == 2) = false := by simpa using h2
            have t4 : (kd == 4) = false := by simpa using h4
            have t5 : (kd == 5) = false := by simpa using h5
            clear h0 h1 h2 h4 h5
            go_wp2_with fail
            go_roundw
            case rel => exact ⟨j + 1, k, _, by omega, rfl, rfl, by go_num, hst.out⟩
            case measure => simp [intOf]; omega
          | true =>
            by_cases h0 : kd = 0
            · subst h0
              go_wp2_with fail
              refine (Get_cted hC.out nm hst.out).mono ?_
              intro e wa hge
              obtain ⟨y, y2, wg, rfl, ⟨hsg, -⟩, hbg⟩ := getEnd_any hge
              have hsa : Hid (Cted 1 (.func (.func 22) #[] #[.pointer (some ⟨w3.heap.size, 0, none⟩), .pointer (some ⟨w.heap.size, 0, none⟩)]) (.record cc cn cd) w3.heap.size (w3.heap.size + 1) (OncePre w w.heap.size [c0, c1, c2, c3, c4, c5, c6, c7, c8, c9, c10]) wa k true) := Lib.hid (Cted.but hC.out hsg (below_but0 hbg))
              clear hge hsg hbg
              have qa := (intCell hsa.out.cnt).1
              go_wp2_with fail
              refine (Loaded_cted hsa.out).mono ?_
              rintro e wb ⟨rfl, rfl⟩
              go_wp2_with fail
              refine (Last_cted hsa.out).mono ?_
              rintro e wc ⟨rfl, rfl⟩
              go_wp2_with fail
              go_roundw
              case rel => exact ⟨j + 1, k, true, by omega, rfl, rfl, by go_num, hsa.out⟩
              case measure => simp [intOf]; omega
            by_cases h1 : kd = 1
            · subst h1
              go_wp2_with fail
              refine (Class_cted hC.out hst.out).mono ?_
              rintro e wa ⟨rfl, hsg, -⟩
              have hsa : Hid (Cted 1 (.func (.func 22) #[] #[.pointer (some ⟨w3.heap.size, 0, none⟩), .pointer (some ⟨w.heap.size, 0, none⟩)]) (.record cc cn cd) w3.heap.size (w3.heap.size + 1) (OncePre w w.heap.size [c0, c1, c2, c3, c4, c5, c6, c7, c8, c9, c10]) wa k true) := Lib.hid hsg
              clear hsg
              have qa := (intCell hsa.out.cnt).1
              go_wp2_with fail
              refine (Loaded_cted hsa.out).mono ?_
              rintro e wb ⟨rfl, rfl⟩
              go_wp2_with fail
              refine (Last_cted hsa.out).mono ?_
              rintro e wc ⟨rfl, rfl⟩
              go_wp2_with fail
              go_roundw
              case rel => exact ⟨j + 1, k, true, by omega, rfl, rfl, by go_num, hsa.out⟩
              case measure => simp [intOf]; omega
            by_cases h2 : kd = 2
            · subst h2
              go_wp2_with fail
              refine (Version_cted hC.out hst.out).mono ?_
              rintro e wa ⟨rfl, hsg, -⟩
              have hsa : Hid (Cted 1 (.func (.func 22) #[] #[.pointer (some ⟨w3.heap.size, 0, none⟩), .pointer (some ⟨w.heap.size, 0, none⟩)]) (.record cc cn cd) w3.heap.size (w3.heap.size + 1) (OncePre w w.heap.size [c0, c1, c2, c3, c4, c5, c6, c7, c8, c9, c10]) wa k true) := Lib.hid hsg
              clear hsg
              have qa := (intCell hsa.out.cnt).1
              go_wp2_with fail
              refine (Loaded_cted hsa.out).mono ?_
              rintro e wb ⟨rfl, rfl⟩
              go_wp2_with fail
              refine (Last_cted hsa.out).mono ?_
              rintro e wc ⟨rfl, rfl⟩
              go_wp2_with fail
              go_roundw
              case rel => exact ⟨j + 1, k, true, by omega, rfl, rfl, by go_num, hsa.out⟩
              case measure => simp [intOf]; omega
            by_cases h4 : kd = 4
            · subst h4
              go_wp2_with fail
              refine (Load_cted hC.out hst.out).mono ?_
              rintro e wa ⟨rfl, hsg, -⟩
              have hsa : Hid (Cted 1 (.func (.func 22) #[] #[.pointer (some ⟨w3.heap.size, 0, none⟩), .pointer (some ⟨w.heap.size, 0, none⟩)]) (.record cc cn cd) w3.heap.size (w3.heap.size + 1) (OncePre w w.heap.size [c0, c1, c2, c3, c4, c5, c6, c7, c8, c9, c10]) wa k true) := Lib.hid hsg
              clear hsg
              have qa := (intCell hsa.out.cnt).1
              go_wp2_with fail
              refine (Loaded_cted hsa.out).mono ?_
              rintro e wb ⟨rfl, rfl⟩
              go_wp2_with fail
              refine (Last_cted hsa.out).mono ?_
              rintro e wc ⟨rfl, rfl⟩
              go_wp2_with fail
              go_roundw
              case rel => exact ⟨j + 1, k, true, by omega, rfl, rfl, by go_num, hsa.out⟩
              case measure => simp [intOf]; omega
            by_cases h5 : kd = 5
            · subst h5
              go_wp2_with fail
              refine (Forget_cted hC.out hst.out).mono ?_
              rintro e wf ⟨rfl, hs5, -⟩
              have hsf := Lib.hid hs5
              clear hs5
              go_wp2_with fail
              go_roundw
              case rel => exact ⟨j + 1, k, false, by omega, rfl, rfl, by go_num, hsf.out⟩
              case measure => simp [intOf]; omega
            have t0 : (kd == 0) = false := by simpa using h0
            have t1 : (kd == 1) = false := by simpa using h1
            have t2 : (kd == 2) = false := by simpa using h2
            have t4 : (kd == 4) = false := by simpa using h4
            have t5 : (kd == 5) = false := by simpa using h5
            clear h0 h1 h2 h4 h5
            go_wp2_with fail
            go_roundw
            case rel => exact ⟨j + 1, k, _, by omega, rfl, rfl, by go_num, hst.out⟩
            case measure => simp [intOf]; omega
        · obtain rfl : j = n := by omega
          clear hbr
          go_wp2_with fail
          refine (Loaded_cted hst.out).mono ?_
          rintro e wb ⟨rfl, rfl⟩
          go_wp2_with fail
          go_ret
          exact ⟨by simp, hst.out.pre.1⟩
end Go.Proofs.Ytpcbdjfonmohaaa
