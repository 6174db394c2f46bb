/- The walk of DigestTurns. -/
import Derived.Test.YtgmdbpplfjkjmaaTurnTwo
import Derived.Deep.MidRow
import Derived.Deep.Cut
import Derived.Deep.CutRange
import Derived.Deep.DeepCutAuto
namespace Go.Proofs.Ytgmdbpplfjkjmaa
open Go.RowKit
set_option linter.unusedVariables false
set_option linter.unusedSimpArgs false

theorem wrap64_i64 (x : Int) : wrap64 x = IntKind.i64.wrap x := by unfold wrap64; rw [IntKind.wrap_i64]
theorem turns_snoc {vals : List Val} {k m : Nat} {v : Val} (hk : k < vals.length) (hm : m = vals.length - 1 - k) (hv : vals[m]? = some v) : vals.reverse.take (k + 1) = vals.reverse.take k ++ [v] := by
  subst hm
  rw [List.take_add_one, List.getElem?_reverse hk, hv]; rfl
set_option maxRecDepth 100000 in
set_option maxHeartbeats 12800000 in
theorem turns_walk (ls : List Term) (sv : Value) (xs : List Value) (w : World) (ho : AtRow w sv ls.length 11 xs) (hd : TsRep w ls xs) :
    Calls Try.prog 6 #[sv] w fun e w' => e = .returned (.bool true) ∧ Below w.heap.size w w' := by
  have hmf : ∀ (fn : Fn) (first cap : Array Value) (w : World), (Instr.makeFunc fn first cap).run Try.prog w = .ok (.func fn first cap) w := fun _ _ _ _ => rfl
  have hdatH := Lib.hid (TsRep.at ls xs hd)
  obtain ⟨oa, cap, rfl, hcap, hmax, hsm, -, -, hform⟩ := ho
  unfold maxLen at hmax
  have hformH := Lib.hid hform
  obtain ⟨n, hn⟩ : ∃ n, n = min ls.length 4096 := ⟨_, rfl⟩
  have hnl : n ≤ ls.length ∧ n ≤ 4096 := by omega
  obtain ⟨vals, hvals⟩ : ∃ v, v = (ls.take n).map builtV := ⟨_, rfl⟩
  have hvlen : vals.length = n := by rw [hvals, List.length_map, List.length_take]; omega
  have hat := Lib.hid (fun (k : Nat) (hk : k < n) => show ∃ b' o t c0 c1 c2 c3 c4 c5 c6 c7 c8 c9 c10, oa = some ⟨b', o, none⟩ ∧ vals[k]? = some (builtV t) ∧ TRep w t [c0, c1, c2, c3, c4, c5, c6, c7, c8, c9, c10] ∧ ∀ W, Below w.heap.size w W → W.rangeAt b' (o + k * 11) [c0, c1, c2, c3, c4, c5, c6, c7, c8, c9, c10] by
    obtain ⟨b', o, rfl, hcells⟩ := hformH.out (by omega)
    obtain ⟨t, hp⟩ : ∃ p, ls[k]? = some p := ⟨_, List.getElem?_eq_getElem (by omega)⟩
    obtain ⟨cs, ht, e1⟩ := hdatH.out k _ hp
    have hlen := TRep.len ht
    obtain ⟨c0, c1, c2, c3, c4, c5, c6, c7, c8, c9, c10, rfl⟩ := eleven hlen
    refine ⟨b', o, t, c0, c1, c2, c3, c4, c5, c6, c7, c8, c9, c10, rfl, by rw [hvals, List.getElem?_map, List.getElem?_take_of_lt hk, hp]; rfl, ht, fun W hb j v hj => ?_⟩
    have hj' : j < 11 := by have := (List.getElem?_eq_some_iff.1 hj).1; simpa using this
    have h1 := hcells (k * 11 + j) (by omega)
    rw [e1 j hj', ← Nat.add_assoc] at h1
    exact keeps_of_below hb _ _ (h1.trans hj))
  have hgd := Lib.hid (show ∀ v ∈ vals, smallV v ∧ (okB v = true → sameT (plainT v 0) (plainT v 0) = true) from fun v hv => by
    rw [hvals] at hv
    obtain ⟨t, ht, rfl⟩ := List.mem_map.1 hv
    obtain ⟨k, hk⟩ := List.mem_iff_getElem?.1 (List.mem_of_mem_take ht)
    obtain ⟨cs, hc, -⟩ := hdatH.out k _ hk
    exact ⟨small_built t cs hc, fun h => plain_same h⟩)
  have hmade := Lib.hid (TwoT.made w)
  have hvalsH := Lib.hid hvals
  have hvlH := Lib.hid hvlen
  have hnH := Lib.hid hn
  clear hform hd hvals hvlen hn
  go_enter Try.func6, Try.ntmps6
  go_upto_if 23 with fail
  go_cut [0, 23] (fun s0 s23 wx => s0 = .slice oa n cap ∧ w = wx)
  case first =>
    by_cases hbig : (4096 : Int) < (ls.length : Int)
    · have hn4 : n = 4096 := by have := hnH.out; omega
      have hc4 : (4096 : Int) ≤ (cap : Int) := by omega
      have hc5 : 4096 ≤ cap := by omega
      go_wp2_with fail
      go_meet
      exact ⟨by rw [hn4], rfl⟩
    · have hn4 : n = ls.length := by have := hnH.out; omega
      go_wp2_with fail
      go_meet
      exact ⟨by rw [hn4], rfl⟩
  case rest =>
  obtain ⟨rfl, rfl⟩ := hcut
  go_wp2_with fail
  go_loopw [5] (fun i wr => ∃ k : Nat, k ≤ n ∧ i = .int .i64 k ∧ TwoT w wr w.heap.size (w.heap.size + 1) (vals.take k) (vals.reverse.take k)) (fun i _ => n - (intOf i).toNat)
  case atStart => exact ⟨0, Nat.zero_le _, rfl, hmade.out⟩
  case round =>
    obtain ⟨k, hk, rfl, hT⟩ := hrel
    have hTH := Lib.hid hT
    have hbw := Lib.hid hT.bel
    have hml := Lib.hid hT.lt
    clear hT
    by_cases h1 : k < n
    · as_aux_lemma =>
      have l1 : (k : Int) < (n : Int) := by omega
      obtain ⟨m, hm⟩ : ∃ m, m = n - 1 - k := ⟨_, rfl⟩
      have hml2 : m < n := by omega
      have l2 : (m : Int) < (n : Int) := by omega
      have hmi : (n : Int) - 1 - (k : Int) = (m : Int) := by omega
      obtain ⟨b', o, t, c0, c1, c2, c3, c4, c5, c6, c7, c8, c9, c10, rfl, hv1, ht1, hc1⟩ := hat.out k h1
      obtain ⟨b'', o2, u, d0, d1, d2, d3, d4, d5, d6, d7, d8, d9, d10, e2, hv2, hu1, hd1⟩ := hat.out m hml2
      obtain ⟨rfl, rfl⟩ : b' = b'' ∧ o = o2 := by simpa using e2
      have hcH := Lib.hid hc1
      have hdH := Lib.hid hd1
      have hB1 := Lib.hid (fun X (hX : Below w.heap.size w X) => built_any t _ X (TRep.keep (keeps_of_below hX) _ _ ht1))
      have hB2 := Lib.hid (fun X (hX : Below w.heap.size w X) => built_any u _ X (TRep.keep (keeps_of_below hX) _ _ hu1))
      have hn1 := Lib.hid (nums_built t _ ht1)
      have hn2 := Lib.hid (nums_built u _ hu1)
      have htk := Lib.hid (show vals.take (k + 1) = vals.take k ++ [builtV t] by rw [List.take_add_one, hv1]; rfl)
      have hrk := Lib.hid (turns_snoc (k := k) (m := m) (v := builtV u) (by rw [hvlH.out]; exact h1) (by rw [hvlH.out, hm]) hv2)
      have hl1 := Lib.hid (show (vals.take k).length < 4096 by rw [List.length_take]; omega)
      have hl2 := Lib.hid (show (vals.reverse.take k).length < 4096 by rw [List.length_take]; omega)
      have hw1 : IntKind.i64.wrap ((n : Int) - 1) = (n : Int) - 1 := by rw [IntKind.wrap_i64]; omega
      have hw2 : IntKind.i64.wrap ((n : Int) - 1 - (k : Int)) = (m : Int) := by rw [IntKind.wrap_i64]; omega
      have hr0 := hc1 wr hbw.out
      clear hv1 hv2 ht1 hu1 hc1 hd1 e2 hm
      go_wp2_with (first
        | (go_at_call 16; refine (TwoT.putB (hT4.out.below hbel7.out) hz4.out hn2.out hf4.out hl2.out (by first | rfl | exact hs3.out | exact (wrap64_i64 _).trans hs3.out)).mono ?_; rintro e w8 ⟨⟨v8, rfl⟩, hT8, -⟩; have hT8H := Lib.hid hT8; clear hT8)
        | (go_at_call 11; refine (hB2.out w6 hbw6.out).mono ?_; rintro e w7 ⟨z4, gz4, rfl, hz, hzn, hzb, hb⟩; have hz4 := Lib.hid hz; have hf4 := Lib.hid (show w.heap.size + 1 ∉ gz4 from fun h => by have h2 := hzb _ h; have h3 := hml.out.2; have h4 := hszr6.out; omega); have hbel7 := Lib.hid (hbel6.out.trans (hb.mono hbel6.out.size)); clear hz hzn hzb hb)
        | (refine wpList_load_mid rfl 31 (.tmp 72) rfl b' (o + m * 11) rfl [d0, d1, d2, d3, d4, d5, d6, d7, d8, d9, d10] _ (hdH.out w6 hbw6.out) Try.underlying31 rfl termSize ?_)
        | (go_at_call 28; refine (sum_any hz3.out hn2.out).mono ?_; rintro e w6 ⟨⟨s3, r3, rfl, hs3'⟩, hb⟩; have hs3 := Lib.hid hs3'; have hbel6 := Lib.hid (hbel5.out.trans (hb.mono hbel5.out.size)); have hbw6 := Lib.hid (hbw4.out.trans (hbel6.out.mono hbw4.out.size)); have hszr6 := Lib.hid (show wr.heap.size ≤ w6.heap.size from Nat.le_trans hszr4.out hbel6.out.size); clear hs3' hb)
        | (go_at_call 11; refine (hB2.out w4 hbw4.out).mono ?_; rintro e w5 ⟨z3, gz3, rfl, hz, hzn, hzb, hb⟩; have hz3 := Lib.hid hz; have hbel5 := Lib.hid hb; clear hz hzn hzb hb)
        | (refine wpList_load_mid rfl 31 (.tmp 63) rfl b' (o + m * 11) rfl [d0, d1, d2, d3, d4, d5, d6, d7, d8, d9, d10] _ (hdH.out w4 hbw4.out) Try.underlying31 rfl termSize ?_)
        | (go_at_call 16; refine (TwoT.putA (hTH.out.below hbel3.out) hz2.out hn1.out hf2.out hl1.out (by first | rfl | exact hs1.out | exact (wrap64_i64 _).trans hs1.out)).mono ?_; rintro e w4 ⟨⟨v4, rfl⟩, hT4', hsz4'⟩; have hT4 := Lib.hid hT4'; have hbw4 := Lib.hid hT4'.bel; have hszr4 := Lib.hid (show wr.heap.size ≤ w4.heap.size from Nat.le_trans hbel3.out.size hsz4'); clear hT4' hsz4')
        | (go_at_call 11; refine (hB1.out w2 hbw2.out).mono ?_; rintro e w3 ⟨z2, gz2, rfl, hz, hzn, hzb, hb⟩; have hz2 := Lib.hid hz; have hf2 := Lib.hid (show w.heap.size ∉ gz2 from fun h => by have h2 := hzb _ h; have h3 := hml.out.1; have h4 := hszr2.out; omega); have hbel3 := Lib.hid (hbel2.out.trans (hb.mono hbel2.out.size)); clear hz hzn hzb hb)
        | (refine wpList_load_mid rfl 31 (.tmp 48) rfl b' (o + k * 11) rfl [c0, c1, c2, c3, c4, c5, c6, c7, c8, c9, c10] _ (hcH.out w2 hbw2.out) Try.underlying31 rfl termSize ?_)
        | (go_at_call 28; refine (sum_any hz1.out hn1.out).mono ?_; rintro e w2 ⟨⟨s1, r1, rfl, hs1'⟩, hb⟩; have hs1 := Lib.hid hs1'; have hbel2 := Lib.hid (hbel1.out.trans (hb.mono hbel1.out.size)); have hbw2 := Lib.hid (hbw.out.trans (hbel2.out.mono hbw.out.size)); have hszr2 := Lib.hid hbel2.out.size; clear hs1' hb)
        | (go_at_call 11; refine (hB1.out wr hbw.out).mono ?_; rintro e w1 ⟨z1, gz1, rfl, hz, hzn, hzb, hb⟩; have hz1 := Lib.hid hz; have hbel1 := Lib.hid hb; clear hz hzn hzb hb)
        | (refine wpList_load_mid rfl 31 (.tmp 39) rfl b' (o + k * 11) rfl [c0, c1, c2, c3, c4, c5, c6, c7, c8, c9, c10] _ hr0 Try.underlying31 rfl termSize ?_))
      have hT8 := hT8H.out
      rw [← htk.out, ← hrk.out] at hT8
      have hT9 := Lib.hid hT8
      clear hT8
      go_roundw
      case rel => exact ⟨k + 1, by omega, by go_num, hT9.out⟩
      case measure => simp [intOf]; omega
    · as_aux_lemma =>
      obtain rfl : k = n := by omega
      have hlt : ¬ ((k : Int) < (k : Int)) := by omega
      obtain ⟨xa, la, xb, lb', hA, hB, hta, htb, hap, hbel⟩ := hTH.out
      have htb2 := htb.perm (ks' := vals.take k) (fun v => by rw [List.take_of_length_le (by rw [List.length_reverse, hvlH.out]; exact Nat.le_refl _), List.take_of_length_le (by rw [hvlH.out]; exact Nat.le_refl _), List.mem_reverse]) (by rw [List.length_take, List.length_take, List.length_reverse])
      have hperm := turn_perm hA hB hta htb2
      obtain ⟨L, hL, hLp⟩ := rise_of hA
      have hLb := hLp.trans hperm
      have hll : la.length = lb'.length := by have := hperm.length_eq; simpa [bareP] using this
      have hLn : L.length = la.length := by have := hLp.length_eq; simpa [bareP] using this
      have hsmL := hA.small
      have hgL : ∀ p ∈ L, (smallV p.1 ∧ sameT (plainT p.1 0) (plainT p.1 0) = true) ∧ smallV p.2 ∧ sameT (plainT p.2 0) (plainT p.2 0) = true := fun p hp => by
        obtain ⟨⟨m1, m2⟩, m3⟩ := (hta.mem p).1 (hLp.mem_iff.1 hp)
        obtain ⟨s1, s2⟩ := hgd.out p.1 (List.mem_of_mem_take m1)
        refine ⟨⟨s1, s2 m2⟩, by rw [m3]; simp [smallV], ?_⟩
        rw [m3]
        exact plain_same (t := .mk 3 false (sumK p.1) 0 ⟨#[]⟩ [] 0 [] [] ⟨#[]⟩ 0) (by rw [show builtV (.mk 3 false (sumK p.1) 0 ⟨#[]⟩ [] 0 [] [] ⟨#[]⟩ 0) = .int (sumK p.1) by simp [builtV]]; exact int_ok _)
      obtain ⟨g0, hg0⟩ : ∃ x, x = wr.heap.size := ⟨_, rfl⟩
      have hbG : Below wr.heap.size wr (wr.alloc (.cells #[] 31)) := (Below.refl _ _).alloc (Nat.le_refl _) _
      have hrG : (wr.alloc (.cells #[] 31)).ownsRow w.heap.size 31 11 (.slice (some ⟨g0, 0, none⟩) 0 0) 0 [] := by rw [hg0]; exact ownsRow_new wr 31 11 w.heap.size hbel.size
      have hlenA := Lib.hid (fun X (hX : Below wr.heap.size wr X) => mapW_len (hA.below hX))
      have hlenB := Lib.hid (fun X (hX : Below wr.heap.size wr X) => mapW_len (hB.below hX))
      rw [hll] at hlenA
      have hAH := Lib.hid hA
      have hBH := Lib.hid hB
      have hLH := Lib.hid hL
      have hLpH := Lib.hid hLp
      have hLbH := Lib.hid hLb
      have hgLH := Lib.hid hgL
      have hrGH := Lib.hid hrG
      have hbGH := Lib.hid hbG
      have hg0H := Lib.hid hg0
      have hbelH := Lib.hid hbel
      have hLnH := Lib.hid hLn
      have hml1 : w.heap.size < wr.heap.size ∧ w.heap.size + 1 < wr.heap.size := hml.out
      have hOb := Lib.hid (fun b (h : OfM (w.heap.size + 1) xb lb' b) => hB.lt b h)
      have hLl : L.length ≤ 4096 := by omega
      clear hA hB hta htb htb2 hap hbel hperm hL hLp hLb hgL hrG hbG hg0 hll hLn hsmL
      go_wp2_with (first
        | (go_at_call 26; refine (hlenB.out w1 hb1H.out).mono ?_; rintro e w2 ⟨rfl, hb2⟩; have hb2H := Lib.hid (hb1H.out.trans (hb2.mono hb1H.out.size)); have hb2G := Lib.hid (hb1G.out.trans (hb2.mono hb1G.out.size)); clear hb2)
        | (go_at_call 26; refine (hlenA.out _ hbGH.out).mono ?_; rintro e w1 ⟨rfl, hb1⟩; have hb1H := Lib.hid (hbGH.out.trans (hb1.mono hbGH.out.size)); have hb1G := Lib.hid hb1; clear hb1))
      obtain ⟨lb, hlb⟩ : ∃ x, x = w2.heap.size := ⟨_, rfl⟩
      obtain ⟨WC, hWC⟩ : ∃ X, X = ((w2.alloc (.cells #[.slice (some ⟨g0, 0, none⟩) 0 0] 22)).alloc (.cells #[.int .i64 0] 3)).alloc (.cells #[.bool true] 4) := ⟨_, rfl⟩
      have hbC : Below w2.heap.size w2 WC := by rw [hWC]; exact (((Below.refl _ _).alloc (Nat.le_refl _) _).alloc (by simp) _).alloc (by simp <;> omega) _
      have hlC : WC.heap[lb]? = some (.cells #[.slice (some ⟨g0, 0, none⟩) 0 0] 22 (0, 0)) := by rw [hWC, hlb]; exact (Below.heap_alloc _ _ _ (by simp <;> omega)).trans ((Below.heap_alloc _ _ _ (by simp)).trans (heap_alloc_new w2 _))
      have hnC : WC.heap[lb + 1]? = some (.cells #[.int .i64 0] 3 (0, 0)) := by rw [hWC, hlb]; exact (Below.heap_alloc _ _ _ (by simp)).trans (heap_alloc_at _ (by simp))
      have hrC : WC.heap[lb + 1 + 1]? = some (.cells #[.bool true] 4 (0, 0)) := by rw [hWC, hlb]; exact heap_alloc_at _ (by simp)
      have hg0 := hg0H.out
      have hs2 := hb2H.out.size
      have hsG := hb2G.out.size
      rw [World.size_alloc] at hsG
      have hsC : lb + 1 + 1 < WC.heap.size := (Array.getElem?_eq_some_iff.1 hrC).1
      have hwc : Below wr.heap.size wr WC := hb2H.out.trans (hbC.mono hs2)
      have hwG : Below (wr.alloc (.cells #[] 31)).heap.size (wr.alloc (.cells #[] 31)) WC := hb2G.out.trans (hbC.mono hb2G.out.size)
      have hgC := ownsRow_keep (w' := WC) hrGH.out (fun b hb => hwG.block b (ownsRow_lt hrGH.out b hb).2)
      have hwle : w.heap.size ≤ wr.heap.size := hbelH.out.size
      have hBC := hBH.out.below hwc
      have hrun1 := Lib.hid (turn_run1 (B := w.heap.size) (hAH.out.below hwc) hLH.out hLpH.out hlC hgC (by omega) (by omega) (fun p hp => ⟨(hgLH.out p hp).1.1, (hgLH.out p hp).2.1⟩))
      have hWCH := Lib.hid hWC
      have hlbH := Lib.hid hlb
      have hwcH := Lib.hid (hbelH.out.trans (hwc.mono hwle))
      have hBCH := Lib.hid hBC
      have hnCH := Lib.hid hnC
      have hrCH := Lib.hid hrC
      rw [← hg0, ← hlb]
      rw [show ((w2.alloc (Obj.cells #[.slice (some ⟨g0, 0, none⟩) 0 0] 22)).alloc (Obj.cells #[.int .i64 0] 3)).alloc (Obj.cells #[.bool true] 4) = WC from hWCH.out.symm]
      clear hWC hlb hbC hlC hnC hrC hwc hwG hgC hBC hg0
      refine hrun1.out.mono ?_
      rintro e W1 hE
      obtain ⟨rfl, N1, hJ⟩ := all_true hE
      have hJH := Lib.hid hJ
      obtain ⟨sv1, xs1, a1, a2, a3, a4, a5, a6⟩ := hJ
      have hg0 := hg0H.out
      have hlb := hlbH.out
      have hBW := hBCH.out.but a5 (fun b hb h => by have := (hBH.out.lt b hb).2; omega)
      have hR1 : W1.heap[lb + 1 + 1]? = some (.cells #[.bool true] 4 (0, 0)) := (a5.block _ (Array.getElem?_eq_some_iff.1 hrCH.out).1 (fun h => by omega)).trans hrCH.out
      have hN1 : W1.heap[lb + 1]? = some (.cells #[.int .i64 0] 3 (0, 0)) := (a5.block _ (Array.getElem?_eq_some_iff.1 hnCH.out).1 (fun h => by omega)).trans hnCH.out
      have hrun2 := Lib.hid (turn_run2 hBW hLH.out hLbH.out hJH.out hR1 hN1 ⟨by omega, by omega, by omega, by omega, by omega⟩ ⟨by omega, by omega, by omega⟩ hgLH.out)
      obtain ⟨sa, cap1, rfl, -, -, -, -⟩ := ownsRow_form a2
      have hbw1 := Lib.hid (hwcH.out.trans (But.below' a5 hwcH.out.size (fun i hi h => by omega)))
      have ha1 := Lib.hid a1
      clear hE a1 a2 a3 a4 a5 a6 hBW hR1 hN1 hg0 hlb
      go_wp2_with fail
      refine hrun2.out.mono ?_
      rintro e X2 hE2
      obtain ⟨rfl, N2, c1, c2, c3⟩ := all_true hE2
      have hlt1 := (Array.getElem?_eq_some_iff.1 ha1.out).1
      have hlX := (c3.block lb hlt1 (fun h => by omega)).trans ha1.out
      have hend := Lib.hid (show ∀ X, Below X2.heap.size X2 X → X.cell? ⟨lb + 1 + 1, 0, none⟩ = some (.bool true) ∧ X.cell? ⟨lb + 1, 0, none⟩ = some (.int .i64 ((2 * L.length : Nat) : Int)) ∧ X.cell? ⟨lb, 0, none⟩ = some (.slice sa (2 * L.length) cap1) from fun X hX => by
        have e1 := (hX.block _ (Array.getElem?_eq_some_iff.1 c1).1).trans c1
        have e2 := (hX.block _ (Array.getElem?_eq_some_iff.1 c2).1).trans c2
        have e3 := (hX.block _ (Array.getElem?_eq_some_iff.1 hlX).1).trans hlX
        exact ⟨by rw [cell_of_row X _ 0 _ _ _ e1]; rfl, by rw [cell_of_row X _ 0 _ _ _ e2]; rfl, by rw [cell_of_row X _ 0 _ _ _ e3]; rfl⟩)
      have hbx2 := Lib.hid (hbw1.out.trans (But.below' c3 hbw1.out.size (fun i hi h => by have := hlbH.out; omega)))
      clear hE2 c1 c2 c3 hlX hlt1
      go_wp2_with (first
        | (go_at_call 16; refine (ab_put X2).mono ?_; rintro e X4 ⟨rfl, hM, hb4⟩; have hMH := Lib.hid hM; have hb4H := Lib.hid hb4; clear hM hb4)
        | (go_at_call 22; refine (ab_get hMH.out).mono ?_; rintro e X5 ⟨rfl, hb5⟩; have hb5H := Lib.hid (hb4H.out.trans (hb5.mono hb4H.out.size)); clear hb5; obtain ⟨q1, q2, q3⟩ := hend.out X5 hb5H.out))
      go_ret
      exact ⟨rfl, hbx2.out.trans (hb5H.out.mono hbx2.out.size)⟩
end Go.Proofs.Ytgmdbpplfjkjmaa
