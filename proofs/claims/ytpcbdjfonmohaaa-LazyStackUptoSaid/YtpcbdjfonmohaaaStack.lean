/- The walk of LazyStack. -/
import Derived.Test.YtpcbdjfonmohaaaPools
import Derived.Test.YtpcbdjfonmohaaaLivesEnd
import Derived.Test.YtpcbdjfonmohaaaTerm
namespace Go.Proofs.Ytpcbdjfonmohaaa
open Go.RowKit
set_option linter.unusedVariables false
set_option linter.unusedSimpArgs false

theorem two_start (w w1 : World) (n m : Nat) (hb : Below w.heap.size w w1) {W1 W2 : World} (h1 : W1 = (w1.alloc (.map #[] 0)).alloc (poolObj n (.func (.func 37) #[] #[]) w1.heap.size (.slice none 0 0) 0))
    (h2 : W2 = (W1.alloc (.map #[] 0)).alloc (poolObj m (.func (.func 37) #[] #[]) W1.heap.size (.slice none 0 0) 0)) :
    TwoAt w W2 (stackC (w1.heap.size + 1) w1.heap.size n) (stackC (W1.heap.size + 1) W1.heap.size m) PS.none PS.none := by
  obtain ⟨τ, hp, ht⟩ := pool_start n 37 #[] w1 [] (by simp)
  obtain ⟨σ, hq, hs⟩ := pool_start m 37 #[] W1 [] (by simp)
  rw [← h1] at hp
  rw [← h2] at hq
  have hal : But (fun _ => False) W1 W2 := by rw [h2]; exact ((But.refl _ W1).alloc _).alloc _
  have hal0 : But (fun _ => False) w1 W1 := by rw [h1]; exact ((But.refl _ w1).alloc _).alloc _
  have hs1 := hal0.size
  have hs0 := hb.size
  have ht' : ∀ b t, τ b = some t → w1.heap.size ≤ b := fun b t e => (ht b t e).elim (fun h => h) (fun ⟨o, h⟩ => by cases h)
  have hs' : ∀ b t, σ b = some t → W1.heap.size ≤ b := fun b t e => (hs b t e).elim (fun h => h) (fun ⟨o, h⟩ => by cases h)
  refine ⟨τ, σ, hp.but hal (fun _ _ f => f), hq, fun b => ?_, fun b t e => Nat.le_trans hs0 (ht' b t e), fun b t e => Nat.le_trans (Nat.le_trans hs0 hs1) (hs' b t e), ?_⟩
  · cases e : τ b with
    | none => exact .inl rfl
    | some t =>
      cases e2 : σ b with
      | none => exact .inr rfl
      | some t2 => have := hp.lt b t e; have := hs' b t2 e2; omega
  · exact hb.trans ((hal0.below' hs0 (fun _ _ f => f)).trans (hal.below' (Nat.le_trans hs0 hs1) (fun _ _ f => f)))
theorem row_cells {W : World} {B n : Nat} {sv : Value} {xs : List Value} (h : W.ownsRow B 30 1 sv n xs) (hn : 1 ≤ n) : ∃ g cap, sv = .slice (some ⟨g, 0, none⟩) n cap ∧ n ≤ cap ∧ cap ≤ maxLen ∧ g < W.heap.size ∧ ∀ j, j < n → W.cell? ⟨g, j, none⟩ = xs[j]? := by
  obtain ⟨h0, ⟨-, h1⟩ | ⟨g, cap, cur, h1, h2, h3, h4, h5, h6, h7⟩⟩ := h
  · omega
  · refine ⟨g, cap, h1, h4, h5, (Array.getElem?_eq_some_iff.1 h3).1, fun j hj => ?_⟩
    rw [held_cells h3 j, ← h7, List.getElem?_take_of_lt (by omega)]
    simp
/-- What holds between two rounds. -/
structure StackI (n m : Nat) (c d : PoolC) (s u : PS) (k : Nat) : Prop where
  fs : Fine c s
  fu : Fine d u
  cn : c.room = n
  dm : d.room = m
  suf : s.L <:+ u.L
  eq : s.L.length < n → s.L = u.L
  ge : u.n ≤ s.n
  sn : s.n ≤ k
  sN : s.N ≤ k
  uN : u.N ≤ k
theorem StackI.step {n m : Nat} {c d : PoolC} {s u s1 u1 s2 u2 : PS} {k : Nat} {id : Int} (h : StackI n m c d s u k) (hnm : n ≤ m) (h1 : SameBut s s1) (h2 : SameBut u u1) (h3 : Stepped c s1 s2 id) (h4 : Stepped d u1 u2 id) : StackI n m c d s2 u2 (k + 1) := by
  have hL : s2.L = stepL n s.L id := by rw [h3.2.1, h1.1, h.cn]
  have hU : u2.L = stepL m u.L id := by rw [h4.2.1, h2.1, h.dm]
  have hst := stack_step id h.suf h.fu.nodup (by have := h.fs.len; rw [h.cn] at this; exact this) (by have := h.fu.len; rw [h.dm] at this; exact this) hnm (by have := h.fs.room.1; rw [h.cn] at this; exact this) h.eq
  have e1 := h3.2.2.1
  have e2 := h4.2.2.1
  rw [h1.1, h1.2.1] at e1
  rw [h2.1, h2.2.1] at e2
  have hin : id ∈ s.L → id ∈ u.L := fun hi => h.suf.subset hi
  have a1 := h.ge
  have a2 := h.sn
  have a3 := h.sN
  have a4 := h.uN
  have b1 := h1.2.2.2.2
  have b2 := h2.2.2.2.2
  have b3 := h3.2.2.2.1
  have b4 := h4.2.2.2.1
  refine ⟨h3.1, h4.1, h.cn, h.dm, by rw [hL, hU]; exact hst.1, by rw [hL, hU]; exact hst.2, ?_, ?_, by omega, by omega⟩
  · rw [e1, e2]
    by_cases hi : id ∈ s.L
    · rw [if_pos hi, if_pos (hin hi)]; omega
    · rw [if_neg hi]; split <;> omega
  · rw [e1]; split <;> omega
set_option maxRecDepth 100000 in
set_option maxHeartbeats 3200000 in
theorem stack_walk (less more : Int) (hl : 0 ≤ less ∧ less < 256) (hm : 0 ≤ more ∧ more < 256) (vs : List Int) (hv : ∀ v ∈ vs, 0 ≤ v ∧ v < 18446744073709551616) (sv : Value) (w : World) (ho : AtRow w sv vs.length 1 (vs.map refV)) :
    Calls Try.prog 7 #[.int .u8 less, .int .u8 more, sv] w fun e w' => e = .returned (.bool true) ∧ Below w.heap.size w w' := by
  obtain ⟨n, hn⟩ : ∃ n : Nat, less % 9 + 1 = (n : Int) := ⟨(less % 9 + 1).toNat, by omega⟩
  obtain ⟨m, hmm⟩ : ∃ m : Nat, (n : Int) + more % 9 = (m : Int) := ⟨((n : Int) + more % 9).toNat, by omega⟩
  have hn1 : 1 ≤ n ∧ n ≤ 9 := by omega
  have hm1 : n ≤ m ∧ m ≤ 17 := by omega
  have hl0 := hl.1
  have hl1 := hl.2
  have hm0 := hm.1
  have hm2 := hm.2
  obtain ⟨oa, cap, rfl, hcap, hmax, hsm, -, -, hform⟩ := ho
  have hformH := Lib.hid hform
  have hvH := Lib.hid hv
  have hn1H := Lib.hid hn1
  have hm1H := Lib.hid hm1
  unfold maxLen at hmax
  have hlives := Lib.hid (lives_said w)
  clear hform hv hl hm
  go_enter Try.func7, Try.ntmps7
  go_wp2_with fail
  refine hlives.out.mono ?_
  rintro e w1 ⟨rfl, hb1⟩
  have hb1H := Lib.hid hb1
  clear hb1 hlives
  go_wp2_with fail
  refine (NewPool_said n _ #[] w1 hn1H.out.1 (by have := hn1H.out.2; omega)).mono ?_
  rintro e W1 ⟨rfl, hW1⟩
  have hW1H := Lib.hid hW1
  clear hW1
  go_wp2_with fail
  refine (NewPool_said m _ #[] W1 (by have := hn1H.out.1; have := hm1H.out.1; omega) (by have := hm1H.out.2; omega)).mono ?_
  rintro e W2 ⟨rfl, hW2⟩
  have hT0 := Lib.hid (two_start w w1 n m hb1H.out hW1H.out hW2)
  have hI0 : StackI n m (stackC (w1.heap.size + 1) w1.heap.size n) (stackC (W1.heap.size + 1) W1.heap.size m) PS.none PS.none 0 := by
    have a := hn1H.out
    have b := hm1H.out
    exact ⟨Fine.none (by show 1 ≤ n ∧ n ≤ 100; omega), Fine.none (by show 1 ≤ m ∧ m ≤ 100; omega), rfl, rfl, List.suffix_refl _, fun _ => rfl, Int.le_refl _, Int.le_refl _, Nat.le_refl _, Nat.le_refl _⟩
  have hI0H := Lib.hid hI0
  clear hW2 hI0
  obtain ⟨pb, hpb⟩ : ∃ pb, pb = w1.heap.size + 1 := ⟨_, rfl⟩
  obtain ⟨qb, hqb⟩ : ∃ qb, qb = W1.heap.size + 1 := ⟨_, rfl⟩
  obtain ⟨c, hc⟩ : ∃ c, c = stackC (w1.heap.size + 1) w1.heap.size n := ⟨_, rfl⟩
  obtain ⟨d, hd⟩ : ∃ d, d = stackC (W1.heap.size + 1) W1.heap.size m := ⟨_, rfl⟩
  have hcp : c.p = pb := by rw [hc, hpb]; rfl
  have hdp : d.p = qb := by rw [hd, hqb]; rfl
  have hcF := Lib.hid (show (∀ (args : Array Value) (W : World), (callFunc c.F args).run Try.prog W = .ok (.enter c.F args) W) ∧ ∀ id s, FetchP c id s s from by rw [hc]; exact ⟨stack1_enters, stack_fetch _ _ _⟩)
  have hdF := Lib.hid (show (∀ (args : Array Value) (W : World), (callFunc d.F args).run Try.prog W = .ok (.enter d.F args) W) ∧ ∀ id s, FetchP d id s s from by rw [hd]; exact ⟨stack1_enters, stack_fetch _ _ _⟩)
  rw [← hc, ← hd] at hT0 hI0H
  rw [← hpb, ← hqb]
  subst hcp hdp
  clear hc hd hpb hqb hW1H
  go_wp2_with fail
  go_loopw [13] (fun i wr => ∃ (k : Nat) (s u : PS), k ≤ vs.length ∧ i = .int .i64 k ∧ TwoAt w wr c d s u ∧ StackI n m c d s u k) (fun i _ => vs.length - (intOf i).toNat)
  case atStart => exact ⟨0, _, _, Nat.zero_le _, rfl, hT0.out, hI0H.out⟩
  case round =>
    obtain ⟨k, s, u, hk, rfl, hT, hI⟩ := hrel
    have hTH := Lib.hid hT
    have hIH := Lib.hid hI
    clear hT hI
    by_cases hlt : k < vs.length
    · obtain ⟨b, o, rfl, hc⟩ := hformH.out (by omega)
      obtain ⟨v, hv⟩ : ∃ v, vs[k]? = some v := ⟨_, List.getElem?_eq_getElem hlt⟩
      have hvb := hvH.out v (List.mem_of_getElem? hv)
      have hv0 := hvb.1
      have hv1 := hvb.2
      have hcell : w.cell? ⟨b, o + k, none⟩ = some (.int .u64 v) := by rw [hc k (by omega), List.getElem?_map, hv]; rfl
      obtain ⟨_, _, -, -, -, -, -, hbel⟩ := hTH.out
      have q1 := (hbel.cell (p := ⟨b, o + k, none⟩) (cell_lt hcell)).trans hcell
      obtain ⟨id, hid⟩ : ∃ id, v % 30 + 1 = id := ⟨_, rfl⟩
      have hidw : (Lit.int .u64 id).wf = true := by simp [Lit.wf, IntKind.min, IntKind.max, IntKind.signed, IntKind.bits]; omega
      have hid0 : (id == 0) = false := by simp; omega
      have hidwH := Lib.hid hidw
      have hid0H := Lib.hid hid0
      clear hc hv hvb hcell hbel hidw hid0
      have hkb : k ≤ 1048576 := by omega
      go_wp2_with fail
      refine (two_at hTH.out hIH.out.fs hidwH.out hid0H.out (by have := hIH.out.sN; omega)).mono ?_
      rintro e r1 ⟨g1, s1, rfl, hT1, hg1, hs1⟩
      have hT1H := Lib.hid hT1
      have hg1H := Lib.hid hg1
      have hs1H := Lib.hid hs1
      clear hT1 hg1 hs1 q1
      go_wp2_with fail
      refine (two_at hT1H.out.swap hIH.out.fu hidwH.out hid0H.out (by have := hIH.out.uN; omega)).mono ?_
      rintro e r2 ⟨g2, u1, rfl, hT2, hg2, hs2⟩
      have hT2H := Lib.hid hT2
      have hg2H := Lib.hid hg2
      have hs2H := Lib.hid hs2
      clear hT2 hg2 hs2
      have hf1 := Lib.hid (hIH.out.fs.same hs1H.out)
      have hf2 := Lib.hid (hIH.out.fu.same hs2H.out)
      have hn1' : s1.n ≤ 1000000000 := by rw [hs1H.out.2.1]; have := hIH.out.sn; omega
      have hn2' : u1.n ≤ 1000000000 := by rw [hs2H.out.2.1]; have := hIH.out.sn; have := hIH.out.ge; omega
      go_wp2_with fail
      refine (two_class hT2H.out.swap hf1.out hg1H.out hcF.out.1 hcF.out.2 hn1').mono ?_
      rintro e r3 ⟨rfl, s2, hT3, hst3⟩
      have hT3H := Lib.hid hT3
      have hst3H := Lib.hid hst3
      clear hT3 hst3
      go_wp2_with fail
      refine (two_class hT3H.out.swap hf2.out hg2H.out hdF.out.1 hdF.out.2 hn2').mono ?_
      rintro e r4 ⟨rfl, u2, hT4, hst4⟩
      have hT4H := Lib.hid hT4
      have hst4H := Lib.hid hst4
      have hI4 := Lib.hid (hIH.out.step hm1H.out.1 hs1H.out hs2H.out hst3H.out hst4H.out)
      clear hT4 hst4
      go_wp2_with fail
      refine (two_held hT4H.out.swap hI4.out.fs).mono ?_
      rintro e r5 ⟨sx, rfl, hox, hbx, hT5⟩
      have hT5H := Lib.hid hT5
      have hls := stepL_len (id := id) hf1.out.nodup hf1.out.len hf1.out.room.1
      rw [← hst3H.out.2.1] at hls
      have hle := hI4.out.suf.length_le
      obtain ⟨gx, cx, rfl, hcx, hmx, hgx, hxc⟩ := row_cells hox hls.2.1
      have hxcH := Lib.hid hxc
      clear hT5 hox hxc hbx
      go_wp2_with fail
      refine (two_held hT5H.out.swap hI4.out.fu).mono ?_
      rintro e r6 ⟨sy, rfl, hoy, hby, hT6⟩
      have hT6H := Lib.hid hT6
      obtain ⟨gy, cy, rfl, hcy, hmy, hgy, hyc⟩ := row_cells hoy (by omega)
      have hcells := Lib.hid (And.intro (fun j (hj : j < s2.L.length) => (hby.cell (p := ⟨gx, j, none⟩) hgx).trans (hxcH.out j hj)) hyc)
      clear hT6 hoy hyc hby
      have hsuf := Lib.hid hI4.out.suf
      have heq4 := Lib.hid hI4.out.eq
      have hlen4 := hI4.out.fu.len
      have hroom4 := hI4.out.fu.room.2
      obtain ⟨na, hna⟩ : ∃ na, na = s2.L.length := ⟨_, rfl⟩
      obtain ⟨nb, hnb⟩ : ∃ nb, nb = u2.L.length := ⟨_, rfl⟩
      rw [← hna, ← hnb] at hle
      obtain ⟨j, rfl⟩ : ∃ j, nb = j + na := ⟨nb - na, by omega⟩
      have hls1 := hls.2.1
      rw [← hna] at hls1 hcx
      rw [← hnb] at hcy hlen4
      rw [← hna, ← hnb]
      have hnaH := Lib.hid hna
      have hnbH := Lib.hid hnb
      have hju : ((j + na : Nat) : Int) = (j : Int) + (na : Int) := by omega
      have hjs : (j : Int) + (na : Int) - (na : Int) = (j : Int) := by omega
      unfold maxLen at hmx hmy
      have hjm : j + na ≤ 100 := by omega
      have hrefs := Refs_same s2.L gx 0 cx gy j (cy - j) r6 (fun i hi => by rw [Nat.zero_add]; exact hcells.out.1 i hi) (fun i hi => by
        rw [hcells.out.2 (j + i) (by omega)]
        obtain ⟨C, hC⟩ := hsuf.out
        have hCl : C.length = j := by
          have := congrArg List.length hC
          simp at this
          omega
        rw [← hC, List.map_append, List.getElem?_append_right (by simp; omega)]
        congr 1
        simp
        omega) (by omega)
      rw [← hna] at hrefs
      have hrefsH := Lib.hid hrefs
      have hj0 : na < n → j = 0 := fun h => by
        have := congrArg List.length (heq4.out (by omega))
        omega
      have hj0H := Lib.hid hj0
      clear hna hnb hls hrefs hj0
      go_wp2_with fail
      refine hrefsH.out.mono ?_
      rintro e r7 ⟨rfl, hb7⟩
      have hT7 := Lib.hid (hT6H.out.swap.below hb7)
      clear hb7
      by_cases h4 : na < n
      · obtain rfl : j = 0 := hj0H.out h4
        go_wp2_with fail
        go_roundw
        case rel => exact ⟨k + 1, s2, u2, by omega, by go_num, hT7.out, hI4.out⟩
        case measure => simp [intOf]; omega
      · go_wp2_with fail
        go_roundw
        case rel => exact ⟨k + 1, s2, u2, by omega, by go_num, hT7.out, hI4.out⟩
        case measure => simp [intOf]; omega
    · obtain rfl : k = vs.length := by omega
      have hge := hIH.out.ge
      have hs0 := hIH.out.fu.n
      go_wp2_with fail
      refine (two_fetched hTH.out).mono ?_
      rintro e r1 ⟨rfl, rfl⟩
      go_wp2_with fail
      refine (two_fetched hTH.out.swap).mono ?_
      rintro e r2 ⟨rfl, rfl⟩
      go_wp2_with fail
      go_ret
      obtain ⟨_, _, -, -, -, -, -, hbel⟩ := hTH.out
      exact ⟨rfl, hbel⟩
end Go.Proofs.Ytpcbdjfonmohaaa
