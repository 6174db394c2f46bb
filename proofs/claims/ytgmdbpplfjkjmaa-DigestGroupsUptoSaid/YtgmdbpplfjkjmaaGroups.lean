/- The walk of DigestGroups. -/
import Derived.Test.YtgmdbpplfjkjmaaGroupsLaw
import Derived.Test.YtgmdbpplfjkjmaaSpoil
import Derived.Test.YtgmdbpplfjkjmaaPlainEnd
import Derived.Test.YtgmdbpplfjkjmaaIs
import Derived.Test.YtgmdbpplfjkjmaaPlainLaw
import Derived.Test.YtgmdbpplfjkjmaaBuiltEnd
namespace Go.Proofs.Ytgmdbpplfjkjmaa
open Go.RowKit
set_option linter.unusedVariables false
set_option linter.unusedSimpArgs false

theorem run_buildAnys1 (y : Value) (h : y.oneCell' = true) (W : World) : (Instr.buildSlice 23 1 #[(0, y)]).run Try.prog W = .ok (.slice (some ⟨W.heap.size, 0, none⟩) 1 1) (W.alloc (.cells #[y] 20)) := by
  cases y <;> first | (cases h; done) | kernel_rfl
theorem Two.made (w : World) : Two w ((w.alloc (.cells #[] 20)).alloc (.cells #[] 20)) (.slice (some ⟨w.heap.size, 0, none⟩) 0 0) [] [] [] (.slice (some ⟨w.heap.size + 1, 0, none⟩) 0 0) [] [] [] := by
  have h1 := ownsRow_new w 20 1 w.heap.size (Nat.le_refl _)
  have h2 := ownsRow_new (w.alloc (.cells #[] 20)) 20 1 w.heap.size (by simp)
  have hb : Below w.heap.size w (w.alloc (.cells #[] 20)) := (Below.refl _ _).alloc (Nat.le_refl _) _
  rw [show (w.alloc (.cells #[] 20)).heap.size = w.heap.size + 1 by simp] at h2
  exact ⟨(Listed.made h1).below ((Below.refl _ _).alloc (Nat.le_refl _) _), ⟨rfl, rfl⟩, Listed.made h2, ⟨rfl, rfl⟩, fun x hx hy => by
    simp [ownL, Value.ownBlock] at hx hy; omega, hb.alloc hb.size _⟩
/-- The two lists are there still, whatever else the call turns behind them. -/
theorem rev_snoc {vals : List Val} {k : Nat} {v : Val} (hk : k < vals.length) (hv : vals[vals.length - 1 - k]? = some v) : vals.reverse.take (k + 1) = vals.reverse.take k ++ [v] := by
  rw [List.take_add_one, List.getElem?_reverse hk, hv]; rfl
theorem oneTrue : okB (.bool true) = true := by decide
theorem two_trues (W : World) : (W.alloc (.cells #[.iface 4 (.bool true), .iface 4 (.bool true)] 20)).ownsRow 0 20 1 (.slice (some ⟨W.heap.size, 0, none⟩) 2 2) [Val.bool true, Val.bool true].length [.iface 4 (.bool true), .iface 4 (.bool true)] ∧
    VsRep (W.alloc (.cells #[.iface 4 (.bool true), .iface 4 (.bool true)] 20)) [Val.bool true, Val.bool true] [.iface 4 (.bool true), .iface 4 (.bool true)] [] :=
  ⟨World.ownsRow_lit W _ 2 (Nat.zero_le _) (by decide) rfl, ⟨_, _, [], [], rfl, ⟨rfl, rfl⟩, ⟨_, _, [], [], rfl, ⟨rfl, rfl⟩, ⟨rfl, rfl⟩, rfl⟩, rfl⟩⟩
/-- What Group makes of the last two. -/
theorem last_two {W w' : World} {e : Ending} (h : GroupEnd [Val.bool true, Val.bool true] W e w') : ∃ g cap, e = .returned (.tuple #[.slice (some ⟨g, 0, none⟩) 1 cap, .int .i64 0]) ∧ w'.cell? ⟨g, 1, none⟩ = some (.int .i64 2) ∧ Below W.heap.size W w' := by
  rcases h with ⟨h, -⟩ | ⟨-, sv, ps, rfl, hG, hps, hb⟩
  · exact absurd (whyL_ok (l := [Val.bool true, Val.bool true]) (fun v hv => by
      rcases List.mem_cons.1 hv with rfl | hv
      · exact oneTrue
      · rw [List.mem_singleton.1 hv]; exact oneTrue)) h
  · obtain ⟨x, f, rfl⟩ := two_bare (hps.trans group_two)
    obtain ⟨g, cap, rfl, -⟩ := hG.row.form (by show 0 < 1; omega)
    exact ⟨g, cap, rfl, hG.row.cellAt 1 (by show 1 < 1 * 2; omega), hb⟩
set_option maxRecDepth 100000 in
set_option maxHeartbeats 6400000 in
theorem groups_walk (ls : List Term) (sv : Value) (xs : List Value) (w : World) (ho : AtRow w sv ls.length 11 xs) (hd : TsRep w ls xs) :
    Calls Try.prog 3 #[sv] w fun e w' => e = .returned (.bool true) ∧ Below w.heap.size w w' := by
  obtain ⟨i0, hi0, hz0, hz1, hz2⟩ := info_parts Try.infoAny
  have hdatH := Lib.hid (TsRep.at ls xs hd)
  have hrefH := Lib.hid (fun W (hb : Below w.heap.size w W) => refGroup_said (ho.keep (keeps_of_below hb)) hd hb)
  obtain ⟨oa, cap, rfl, hcap, hmax, hsm, -, -, hform⟩ := ho
  unfold maxLen at hmax
  have hformH := Lib.hid hform
  obtain ⟨vals, hvals⟩ : ∃ v, v = ls.map builtV := ⟨_, rfl⟩
  have hvalsH := Lib.hid hvals
  have hvl : vals.length = ls.length := by rw [hvals, List.length_map]
  have hvlH := Lib.hid hvl
  have hat := Lib.hid (fun (k : Nat) (hk : k < ls.length) => show ∃ b' o t c0 c1 c2 c3 c4 c5 c6 c7 c8 c9 c10, oa = some ⟨b', o, none⟩ ∧ vals[k]? = some (builtV t) ∧ ls[k]? = some t ∧ TRep w t [c0, c1, c2, c3, c4, c5, c6, c7, c8, c9, c10] ∧ ∀ W, Below w.heap.size w W → W.cell? ⟨b', o + k * 11, none⟩ = some c0 ∧ W.cell? ⟨b', o + k * 11 + 1, none⟩ = some c1 ∧ W.cell? ⟨b', o + k * 11 + 2, none⟩ = some c2 ∧ W.cell? ⟨b', o + k * 11 + 3, none⟩ = some c3 ∧ W.cell? ⟨b', o + k * 11 + 4, none⟩ = some c4 ∧ W.cell? ⟨b', o + k * 11 + 5, none⟩ = some c5 ∧ W.cell? ⟨b', o + k * 11 + 6, none⟩ = some c6 ∧ W.cell? ⟨b', o + k * 11 + 7, none⟩ = some c7 ∧ W.cell? ⟨b', o + k * 11 + 8, none⟩ = some c8 ∧ W.cell? ⟨b', o + k * 11 + 9, none⟩ = some c9 ∧ W.cell? ⟨b', o + k * 11 + 10, none⟩ = some c10 by
    obtain ⟨b', o, rfl, hcells⟩ := hformH.out (by omega)
    obtain ⟨t, hp⟩ : ∃ p, ls[k]? = some p := ⟨_, List.getElem?_eq_getElem hk⟩
    obtain ⟨cs, ht, e1⟩ := hdatH.out k _ hp
    have hlen := TRep.len ht
    obtain ⟨c0, c1, c2, c3, c4, c5, c6, c7, c8, c9, c10, rfl⟩ := eleven hlen
    refine ⟨b', o, t, c0, c1, c2, c3, c4, c5, c6, c7, c8, c9, c10, rfl, by rw [hvals, List.getElem?_map, hp]; rfl, hp, ht, fun W hb => ?_⟩
    have hcell : ∀ j, j < 11 → W.cell? ⟨b', o + k * 11 + j, none⟩ = [c0, c1, c2, c3, c4, c5, c6, c7, c8, c9, c10][j]? := fun j hj => by
      have h1 := hcells (k * 11 + j) (by omega)
      rw [e1 j hj, ← Nat.add_assoc] at h1
      rw [List.getElem?_eq_getElem (by simpa using hj)] at h1 ⊢
      exact keeps_of_below hb _ _ h1
    have q0 := hcell 0 (by omega)
    have q1 := hcell 1 (by omega)
    have q2 := hcell 2 (by omega)
    have q3 := hcell 3 (by omega)
    have q4 := hcell 4 (by omega)
    have q5 := hcell 5 (by omega)
    have q6 := hcell 6 (by omega)
    have q7 := hcell 7 (by omega)
    have q8 := hcell 8 (by omega)
    have q9 := hcell 9 (by omega)
    have q10 := hcell 10 (by omega)
    simp only [List.getElem?_cons_zero, List.getElem?_cons_succ, Nat.add_zero, Nat.reduceAdd] at q0 q1 q2 q3 q4 q5 q6 q7 q8 q9 q10
    exact ⟨q0, q1, q2, q3, q4, q5, q6, q7, q8, q9, q10⟩)
  have hnums := Lib.hid (show ∀ v ∈ vals, numsV v by
    intro v hv
    rw [hvals] at hv
    obtain ⟨t, ht, rfl⟩ := List.mem_map.1 hv
    obtain ⟨k, hk⟩ := List.mem_iff_getElem?.1 ht
    obtain ⟨cs, hc, -⟩ := hdatH.out k _ hk
    exact nums_built t cs hc)
  have hvals2 := Lib.hid hvals
  clear hform hd hvals hvl
  have h2 := Lib.hid (Two.made w)
  go_enter Try.func3, Try.ntmps3
  go_wp2_with fail
  go_loopw [3, 4, 5] (fun sa sb i wr => ∃ (k : Nat) (ya : List Value) (ga : List Nat) (yb : List Value) (gb : List Nat), k ≤ ls.length ∧ i = .int .i64 k ∧ Two w wr sa (vals.take k) ya ga sb (vals.reverse.take k) yb gb) (fun _ _ i _ => ls.length - (intOf i).toNat)
  case atStart => exact ⟨0, [], [], [], [], Nat.zero_le _, rfl, h2.out⟩
  case round =>
    obtain ⟨k, ya, ga, yb, gb, hk, rfl, hT⟩ := hrel
    have hlk : (vals.take k).length = k := by rw [List.length_take, hvlH.out]; omega
    have hlk2 : (vals.reverse.take k).length = k := by rw [List.length_take, List.length_reverse, hvlH.out]; omega
    have hTH := Lib.hid hT
    by_cases h1 : k < ls.length
    · have l1 : (k : Int) < (ls.length : Int) := by omega
      obtain ⟨m, hm⟩ : ∃ m, m = ls.length - 1 - k := ⟨_, rfl⟩
      have hml : m < ls.length := by omega
      have hmi : (ls.length : Int) - 1 - (k : Int) = (m : Int) := by omega
      obtain ⟨b', o, t, c0, c1, c2, c3, c4, c5, c6, c7, c8, c9, c10, rfl, hv1, hp1, ht1, hc1⟩ := hat.out k h1
      obtain ⟨b'', o2, u, d0, d1, d2, d3, d4, d5, d6, d7, d8, d9, d10, e2, hv2, hp2, ht2, hc2⟩ := hat.out m hml
      obtain ⟨rfl, rfl⟩ : b' = b'' ∧ o = o2 := by simpa using e2
      obtain ⟨q0, q1, q2, q3, q4, q5, q6, q7, q8, q9, q10⟩ := hc1 wr hT.bel
      have hih1 := Lib.hid (built_any t _ wr (TRep.keep (keeps_of_below hT.bel) _ _ ht1))
      have hih2 := Lib.hid (fun W (hb : Below w.heap.size w W) => built_any u _ W (TRep.keep (keeps_of_below hb) _ _ ht2))
      have hcu := Lib.hid hc2
      have htk := Lib.hid (show vals.take (k + 1) = vals.take k ++ [builtV t] by rw [List.take_add_one, hv1]; rfl)
      have hrk := Lib.hid (rev_snoc (k := k) (v := builtV u) (by rw [hvlH.out]; exact h1) (by rw [hvlH.out, ← hm]; exact hv2))
      have hw1 : IntKind.i64.wrap ((ls.length : Int) - 1) = (ls.length : Int) - 1 := by rw [IntKind.wrap_i64]; omega
      have hw2 : IntKind.i64.wrap ((ls.length : Int) - 1 - (k : Int)) = (m : Int) := by rw [IntKind.wrap_i64]; omega
      have hml2 : (m : Int) < (ls.length : Int) := by omega
      have hoa := hT.a.own
      have hob := hT.b.own
      rw [hlk] at hoa
      rw [hlk2] at hob
      have hoaH := Lib.hid hoa
      obtain ⟨sa1, sa2, rfl, ha1, ha2, -⟩ := ownsRow_form hoa
      obtain ⟨sb1, sb2, rfl, hb1', hb2', -⟩ := ownsRow_form hob
      have hlkH := Lib.hid hlk
      have hlk2H := Lib.hid hlk2
      have hB0 : w.heap.size ≤ wr.heap.size := hT.bel.size
      have hmH := Lib.hid hm
      clear hv1 hv2 hp1 hp2 ht1 ht2 hc1 hc2 e2 hT hoa hob hlk hlk2 hm
      go_wp2_with (first
        | (go_at_call 11; refine (hih2.out w2 hT2.out.bel).mono ?_; rintro e w3 ⟨z, gz, rfl, hz, hzn, hzb, hb3⟩; have hz1' := hz.one; have hzH := Lib.hid hz; have hznH := Lib.hid hzn; have hzbH := Lib.hid hzb; have hb3H := Lib.hid hb3; clear hz hzn hzb hb3)
        | (refine wpList_of_exec rfl (exec_buildSlice (T := 23) (n := 1) (parts := #[(0, .tmp 42)]) (vs := #[(0, z)]) rfl (by simp [Act.eval]) (run_buildAnys1 z hz1' _)) ?_)
        | (at_builtin; have hgg := (hT2.out.b.below hb3H.out).own; rw [hlk2H.out] at hgg; refine wpList_append_lies _ rfl _ _ 23 rfl w.heap.size 20 i0 _ 1 16 Try.underlying23 hi0 hz0 hz1 hz2 rfl (by omega) _ k yb rfl (hgg.alloc _) ⟨w3.heap.size, 0, none⟩ 1 1 [z] rfl rfl (World.news_of_block (cs := #[z]) (t := 20) (fr := (0, 0)) (heap_alloc_new w3 _)) (one_single hz1') (by omega) (by unfold maxLen; omega) (by omega) (by have := hb3H.out.size; have := hT2.out.bel.size; simp; omega) _ rfl ?_; clear hgg; intro g4 cap4 w4 hown4 hgr4 hat4 hlt4; have hown4' := hown4; rw [← hlk2H.out] at hown4'; have hT4 := Lib.hid (hT2.out.swap.round hb3H.out hzH.out hznH.out hzbH.out hown4' hgr4 hat4 hlt4).swap; clear hown4' hown4 hgr4 hat4 hlt4)
        | (go_at_call 11; refine hih1.out.mono ?_; rintro e w1 ⟨y, gy, rfl, hy, hyn, hyb, hb1⟩; have hy1 := hy.one; have hyH := Lib.hid hy; have hynH := Lib.hid hyn; have hybH := Lib.hid hyb; have hb1H := Lib.hid hb1; clear hy hyn hyb hb1)
        | (refine wpList_of_exec rfl (exec_buildSlice (T := 23) (n := 1) (parts := #[(0, .tmp 30)]) (vs := #[(0, y)]) rfl (by simp [Act.eval]) (run_buildAnys1 y hy1 _)) ?_)
        | (at_builtin; have hgg : w1.ownsRow w.heap.size 20 1 (Value.slice sa1 k sa2) k ya := (ownsRow_keep hoaH.out (fun b hb => hb1H.out.block b (ownsRow_lt hoaH.out b hb).2)); refine wpList_append_lies _ rfl _ _ 23 rfl w.heap.size 20 i0 _ 1 16 Try.underlying23 hi0 hz0 hz1 hz2 rfl (by omega) _ k ya rfl (hgg.alloc _) ⟨w1.heap.size, 0, none⟩ 1 1 [y] rfl rfl (World.news_of_block (cs := #[y]) (t := 20) (fr := (0, 0)) (heap_alloc_new w1 _)) (one_single hy1) (by omega) (by unfold maxLen; omega) (by omega) (by have := hb1H.out.size; simp; omega) _ rfl ?_; clear hgg; intro g2 cap2 w2 hown2 hgr2 hat2 hlt2; have hown2' := hown2; rw [← hlkH.out] at hown2'; have hT2 := Lib.hid (hTH.out.round hb1H.out hyH.out hynH.out hybH.out hown2' hgr2 hat2 hlt2); clear hown2' hown2 hgr2 hat2 hlt2; obtain ⟨r0, r1, r2, r3, r4, r5, r6, r7, r8, r9, r10⟩ := hcu.out w2 hT2.out.bel))
      have hT5 := hT4.out
      rw [hlkH.out, hlk2H.out, ← htk.out, ← hrk.out] at hT5
      have hT5H := Lib.hid hT5
      clear hT5
      go_roundw
      case rel => exact ⟨k + 1, _, _, _, _, by omega, by go_num, hT5H.out⟩
      case measure => simp [intOf]; omega
    · obtain rfl : k = ls.length := by omega
      have htv : vals.take ls.length = vals := List.take_of_length_le (by rw [hvlH.out]; exact Nat.le_refl _)
      have htr : vals.reverse.take ls.length = vals.reverse := List.take_of_length_le (by rw [List.length_reverse, hvlH.out]; exact Nat.le_refl _)
      have hT0 := hT
      rw [htv, htr] at hT0
      have hT1 := Lib.hid hT0
      have hoa := hT0.a.own
      have hob := hT0.b.own
      rw [hvlH.out] at hoa
      rw [List.length_reverse, hvlH.out] at hob
      obtain ⟨sa1, sa2, rfl, ha1, ha2, -, hia⟩ := ownsRow_form hoa
      obtain ⟨sb1, sb2, rfl, hb1', hb2', -⟩ := ownsRow_form hob
      have hiaH := Lib.hid hia
      have hB0 : w.heap.size ≤ wr.heap.size := hT0.bel.size
      have hga := Lib.hid (group_said (hT0.a.own.mono (Nat.zero_le _)) hT0.av (by rw [hvlH.out]; omega))
      have hgb := Lib.hid (fun W (hb : Below wr.heap.size wr W) => group_said ((hT1.out.below hb).b.own.mono (Nat.zero_le _)) (hT1.out.below hb).bv (by rw [List.length_reverse, hvlH.out]; omega))
      obtain ⟨w0, hw0⟩ : ∃ W, W = wr := ⟨_, rfl⟩
      subst hw0
      clear hT hT0 htv htr hlk hlk2 hTH hoa hob hia
      go_wp2_with fail
      refine hga.out.mono ?_
      rintro e w1 hA
      rcases hA with ⟨hwz, rfl, hb1⟩ | ⟨hall, va, psa, rfl, hGa, hpsa, hb1⟩
      · -- one of them can't be
        have hwz2 : whyL vals.reverse ≠ 0 := fun h => hwz ((whyL_turn vals).1 h)
        have hwzH := Lib.hid hwz
        have hwz2H := Lib.hid hwz2
        have hb1H := Lib.hid hb1
        obtain ⟨E, hE⟩ : ∃ E, E = whyL vals := ⟨_, rfl⟩
        rw [← hE]
        have hE0 : ¬ E = 0 := by rw [hE]; exact hwz
        have hEn : (E == 0) = false := by simpa using hE0
        have hEn2 : (E != 0) = true := by simpa using hE0
        have hEH := Lib.hid hE
        clear hwz hwz2 hb1 hE
        go_wp2_with fail
        refine (hgb.out w1 hb1H.out).mono ?_
        rintro e w2 hB
        rcases hB with ⟨hwy, rfl, hb2⟩ | ⟨hall, -⟩
        · obtain ⟨E2, hE2⟩ : ∃ E, E = whyL vals.reverse := ⟨_, rfl⟩
          rw [← hE2]
          have hF0 : ¬ E2 = 0 := by rw [hE2]; exact hwy
          have hFn : (E2 == 0) = false := by simpa using hF0
          have hbw2 := Lib.hid (hT1.out.bel.trans ((hb1H.out.trans (hb2.mono hb1H.out.size)).mono hB0))
          clear hwy hb2 hE2
          go_wp2_with fail
          refine (hrefH.out w2 hbw2.out).mono ?_
          rintro e w3 hW
          rcases hW with ⟨hwx, rfl, hb3⟩ | ⟨hall, -⟩
          · have he3 : whyL (ls.map builtV) = E := by rw [← hvals2.out]; exact hEH.out.symm
            rw [he3]
            have hbw3 := Lib.hid (hbw2.out.trans (hb3.mono hbw2.out.size))
            clear hwx he3 hb3
            go_wp2_with fail
            go_loopw [12, 13] (fun s i wr => s = .int .i64 0 ∧ i = .int .i64 0 ∧ wr = w3) (fun _ _ _ => 0)
            case atStart => exact ⟨rfl, rfl, rfl⟩
            case round =>
              obtain ⟨rfl, rfl, rfl⟩ := hrel
              go_wp2_with fail
              go_loopw [14] (fun i W => ∃ j : Nat, j ≤ ls.length ∧ i = .int .i64 j ∧ Below w.heap.size w W) (fun i _ => ls.length - (intOf i).toNat)
              case atStart => exact ⟨0, Nat.zero_le _, rfl, hbw3.out⟩
              case round =>
                obtain ⟨j, hj, rfl, hb⟩ := hrel
                have hbH := Lib.hid hb
                clear hb
                by_cases h1 : j < ls.length
                · have l1 : (j : Int) < (ls.length : Int) := by omega
                  go_wp2_with fail
                  refine wp_region_held_drew (S := (fun _ => True)) (by kernel_rfl) ?_ (fun hHeld => ?_)
                  · trivial
                  refine wpAnyH_take (i := 0) (v := ?vz0) rfl (by kernel_rfl) (by kernel_rfl) (by kernel_rfl) (fun _ _ _ h => h) (.inl ⟨by rfl, ?hyz0⟩) (by assumption) ?restz0
                  case hyz0 => (intro w hSw; (try dsimp only at hSw); go_simp; first | done | with_reducible rfl)
                  (try simp only [Act.put, List.setIfInBounds_toArray, List.set_cons_zero, List.set_cons_succ, List.getElem_toArray, List.getElem_cons_zero, List.getElem_cons_succ])
                  refine wpAnyH_take (i := 1) (v := ?vz1) rfl (by kernel_rfl) (by kernel_rfl) (by kernel_rfl) (fun _ _ _ h => h) (.inl ⟨by rfl, ?hyz1⟩) (by assumption) ?restz1
                  case hyz1 => (intro w hSw; (try dsimp only at hSw); go_simp; first | done | with_reducible rfl)
                  (try simp only [Act.put, List.setIfInBounds_toArray, List.set_cons_zero, List.set_cons_succ, List.getElem_toArray, List.getElem_cons_zero, List.getElem_cons_succ])
                  refine wpAnyH_take (i := 2) (v := ?vz2) rfl (by kernel_rfl) (by kernel_rfl) (by kernel_rfl) (fun _ _ _ h => h) (.inl ⟨by rfl, ?hyz2⟩) (by assumption) ?restz2
                  case hyz2 => (intro w hSw; (try dsimp only at hSw); go_simp; first | done | with_reducible rfl)
                  (try simp only [Act.put, List.setIfInBounds_toArray, List.set_cons_zero, List.set_cons_succ, List.getElem_toArray, List.getElem_cons_zero, List.getElem_cons_succ])
                  refine wpAnyH_take (i := 3) (v := undef) rfl (by kernel_rfl) (by kernel_rfl) (by kernel_rfl) (fun _ _ _ h => h) (.inr ⟨by rfl, rfl⟩) (by assumption) ?_
                  (try simp only [Act.put, List.setIfInBounds_toArray, List.set_cons_zero, List.set_cons_succ, List.getElem_toArray, List.getElem_cons_zero, List.getElem_cons_succ])
                  refine wpAnyH_take (i := 4) (v := undef) rfl (by kernel_rfl) (by kernel_rfl) (by kernel_rfl) (fun _ _ _ h => h) (.inr ⟨by rfl, rfl⟩) (by assumption) ?_
                  (try simp only [Act.put, List.setIfInBounds_toArray, List.set_cons_zero, List.set_cons_succ, List.getElem_toArray, List.getElem_cons_zero, List.getElem_cons_succ])
                  refine wpAnyH_take (i := 5) (v := undef) rfl (by kernel_rfl) (by kernel_rfl) (by kernel_rfl) (fun _ _ _ h => h) (.inr ⟨by rfl, rfl⟩) (by assumption) ?_
                  (try simp only [Act.put, List.setIfInBounds_toArray, List.set_cons_zero, List.set_cons_succ, List.getElem_toArray, List.getElem_cons_zero, List.getElem_cons_succ])
                  refine wpAnyH_take (i := 6) (v := undef) rfl (by kernel_rfl) (by kernel_rfl) (by kernel_rfl) (fun _ _ _ h => h) (.inr ⟨by rfl, rfl⟩) (by assumption) ?_
                  (try simp only [Act.put, List.setIfInBounds_toArray, List.set_cons_zero, List.set_cons_succ, List.getElem_toArray, List.getElem_cons_zero, List.getElem_cons_succ])
                  refine wpAnyH_take (i := 7) (v := undef) rfl (by kernel_rfl) (by kernel_rfl) (by kernel_rfl) (fun _ _ _ h => h) (.inr ⟨by rfl, rfl⟩) (by assumption) ?_
                  (try simp only [Act.put, List.setIfInBounds_toArray, List.set_cons_zero, List.set_cons_succ, List.getElem_toArray, List.getElem_cons_zero, List.getElem_cons_succ])
                  refine wpAnyH_take (i := 8) (v := undef) rfl (by kernel_rfl) (by kernel_rfl) (by kernel_rfl) (fun _ _ _ h => h) (.inr ⟨by rfl, rfl⟩) (by assumption) ?_
                  (try simp only [Act.put, List.setIfInBounds_toArray, List.set_cons_zero, List.set_cons_succ, List.getElem_toArray, List.getElem_cons_zero, List.getElem_cons_succ])
                  refine wpAnyH_take (i := 9) (v := undef) rfl (by kernel_rfl) (by kernel_rfl) (by kernel_rfl) (fun _ _ _ h => h) (.inr ⟨by rfl, rfl⟩) (by assumption) ?_
                  (try simp only [Act.put, List.setIfInBounds_toArray, List.set_cons_zero, List.set_cons_succ, List.getElem_toArray, List.getElem_cons_zero, List.getElem_cons_succ])
                  refine wpAnyH_take (i := 10) (v := undef) rfl (by kernel_rfl) (by kernel_rfl) (by kernel_rfl) (fun _ _ _ h => h) (.inr ⟨by rfl, rfl⟩) (by assumption) ?_
                  (try simp only [Act.put, List.setIfInBounds_toArray, List.set_cons_zero, List.set_cons_succ, List.getElem_toArray, List.getElem_cons_zero, List.getElem_cons_succ])
                  refine wpAnyH_take (i := 11) (v := undef) rfl (by kernel_rfl) (by kernel_rfl) (by kernel_rfl) (fun _ _ _ h => h) (.inr ⟨by rfl, rfl⟩) (by assumption) ?_
                  (try simp only [Act.put, List.setIfInBounds_toArray, List.set_cons_zero, List.set_cons_succ, List.getElem_toArray, List.getElem_cons_zero, List.getElem_cons_succ])
                  refine wpAnyH_take (i := 12) (v := undef) rfl (by kernel_rfl) (by kernel_rfl) (by kernel_rfl) (fun _ _ _ h => h) (.inr ⟨by rfl, rfl⟩) (by assumption) ?_
                  (try simp only [Act.put, List.setIfInBounds_toArray, List.set_cons_zero, List.set_cons_succ, List.getElem_toArray, List.getElem_cons_zero, List.getElem_cons_succ])
                  refine wpAnyH_take (i := 13) (v := ?vz13) rfl (by kernel_rfl) (by kernel_rfl) (by kernel_rfl) (fun _ _ _ h => h) (.inl ⟨by rfl, ?hyz13⟩) (by assumption) ?restz13
                  case hyz13 => (intro w hSw; (try dsimp only at hSw); go_simp; first | done | with_reducible rfl)
                  (try simp only [Act.put, List.setIfInBounds_toArray, List.set_cons_zero, List.set_cons_succ, List.getElem_toArray, List.getElem_cons_zero, List.getElem_cons_succ])
                  refine wpAnyH_done (by kernel_rfl) ?_ _
                  go_wp2_with fail
                  go_roundw
                  case rel => exact ⟨j + 1, by omega, by go_num, hbH.out.drew⟩
                  case measure => simp [intOf]; omega
                · obtain rfl : j = ls.length := by omega
                  go_wp2_with fail
                  refine (group_said (w := wr.alloc _) (two_trues wr).1 (two_trues wr).2 (by decide)).mono ?_
                  rintro e w9 hL
                  obtain ⟨g9, cap9, rfl, hc9, hb9⟩ := last_two hL
                  have hb9H := Lib.hid ((hbH.out.alloc hbH.out.size (.cells #[.iface 4 (.bool true), .iface 4 (.bool true)] 20)).trans (hb9.mono (Nat.le_trans hbH.out.size (by simp))))
                  clear hb9 hL
                  go_wp2
                  go_ret
                  exact ⟨rfl, hb9H.out⟩
          · exact absurd (whyL_ok hall) (by rw [← hvals2.out]; exact hwzH.out)
        · exact absurd (whyL_ok hall) hwz2H.out
      · -- all can be
        have hbare : bare psa = groupV vals := hpsa
        have hGaH := Lib.hid hGa
        have hpsaH := Lib.hid hpsa
        have hallH := Lib.hid hall
        have hb1H := Lib.hid hb1
        have hva1 : va.oneCell' = true := by obtain ⟨_, _, rfl, -⟩ := ownsRow_form hGa.row; rfl
        have hgood : Hid (∀ v ∈ vals, goodV v) := Lib.hid (fun v hv => ⟨hnums.out v hv, okV_check (hall v hv)⟩)
        clear hGa hpsa hall hb1 hbare
        go_wp2_with fail
        refine (hgb.out w1 hb1H.out).mono ?_
        rintro e w2 hB
        rcases hB with ⟨hwy, -⟩ | ⟨-, vb, psb, rfl, hGb, hpsb, hb2⟩
        · exact absurd (whyL_ok (fun v hv => hallH.out v (by simpa using hv))) hwy
        have hpsb2 : bare psb = groupV vals := by rw [hpsb]; exact groupV_reverse vals hgood.out
        have hGbH := Lib.hid hGb
        have hpsbH := Lib.hid hpsb2
        have hb2H := Lib.hid hb2
        have hvb1 : vb.oneCell' = true := by obtain ⟨_, _, rfl, -⟩ := ownsRow_form hGb.row; rfl
        have hbw2 := Lib.hid (hT1.out.bel.trans ((hb1H.out.trans (hb2.mono hb1H.out.size)).mono hB0))
        clear hGb hpsb hpsb2 hb2
        go_wp2_with fail
        refine (hrefH.out w2 hbw2.out).mono ?_
        rintro e w3 hW
        rcases hW with ⟨hwx, -⟩ | ⟨-, vw, psw, rfl, hroww, hrsw, hbw, hb3⟩
        · exact absurd (whyL_ok (fun v hv => hallH.out v (by rw [hvals2.out]; exact hv))) hwx
        have hbw' : bareR psw = groupV vals := by rw [hbw, hvals2.out]
        have hna : psa.length = psw.length := by have h1 := congrArg List.length hpsaH.out; have h2 := congrArg List.length hbw'; unfold bare at h1; unfold bareR at h2; rw [List.length_map] at h1 h2; omega
        have hnb : psb.length = psw.length := by have h1 := congrArg List.length hpsbH.out; have h2 := congrArg List.length hbw'; unfold bare at h1; unfold bareR at h2; rw [List.length_map] at h1 h2; omega
        have hGa3 := hGaH.out.below (hb2H.out.trans (hb3.mono hb2H.out.size))
        have hGb3 := hGbH.out.below hb3
        have hra := hGa3.row
        have hrb := hGb3.row
        rw [hna] at hra
        rw [hnb] at hrb
        have hn : psw.length ≤ ls.length := by have h2 := congrArg List.length hbw'; unfold bareR at h2; rw [List.length_map] at h2; have := groupV_len vals; rw [hvlH.out] at this; omega
        obtain ⟨aa, ca, rfl, hca1, hca2, -, hfa⟩ := ownsRow_form hra
        obtain ⟨ab, cb, rfl, hcb1, hcb2, -, hfb⟩ := ownsRow_form hrb
        obtain ⟨aw, cw, rfl, hcw1, hcw2, -, hfw⟩ := ownsRow_form hroww
        unfold maxLen at hca2 hcb2 hcw2
        have hfaH := Lib.hid hfa
        have hfbH := Lib.hid hfb
        have hfwH := Lib.hid hfw
        have hGa3H := Lib.hid hGa3
        have hGb3H := Lib.hid hGb3
        have hrswH := Lib.hid hrsw
        have hbwH := Lib.hid hbw'
        have hnaH := Lib.hid hna
        have hnbH := Lib.hid hnb
        have hbw3 := Lib.hid (hbw2.out.trans (hb3.mono hbw2.out.size))
        have hb13 := Lib.hid (hb1H.out.trans ((hb2H.out.trans (hb3.mono hb2H.out.size)).mono hb1H.out.size))
        have hsz : w0.heap.size ≤ w1.heap.size ∧ w1.heap.size ≤ w2.heap.size ∧ w2.heap.size ≤ w3.heap.size := ⟨hb1H.out.size, hb2H.out.size, hb3.size⟩
        have hspa := Lib.hid (show ∀ b ∈ psa.flatMap (·.2.2.2), w0.heap.size ≤ b ∧ b < w1.heap.size from fun b hb => by
          have h1 := hGaH.out.lt b hb
          obtain ⟨p, hp, hbp⟩ := List.mem_flatMap.1 hb
          exact ⟨((hGaH.out.ok p hp).2.2 b hbp).1, h1⟩)
        have hsla := Lib.hid (show ∀ b ∈ ownL (Value.slice aa psw.length ca), ∀ i, b ∉ spentC psa i from fun b hb i hs => by
          obtain ⟨p, hp, hbp⟩ := List.mem_flatMap.1 (spentC_sub b hs)
          exact ((hGa3H.out.ok p hp).2.2 b hbp).2 hb)
        clear hra hrb hroww hrsw hbw hb3 hbw' hna hnb hGa3 hGb3 hfa hfb hfw
        go_wp2_with fail
        go_loopw [12, 13] (fun s i wr => ∃ j : Nat, j ≤ psw.length ∧ i = .int .i64 j ∧ s = .int .i64 (sumV ((groupV vals).take j)) ∧ But (fun b => b ∈ spentC psa j) w3 wr) (fun _ i _ => psw.length - (intOf i).toNat)
        case atStart => exact ⟨0, Nat.zero_le _, rfl, rfl, But.refl _ _⟩
        case round =>
          obtain ⟨j, hj, rfl, rfl, hbut⟩ := hrel
          have hbutH := Lib.hid hbut
          by_cases h1 : j < psw.length
          · have l1 : (j : Int) < (psw.length : Int) := by omega
            rcases hfaH.out with ⟨-, h0, -⟩ | ⟨ga, rfl, hgaB, hgas, hgal, hca⟩
            · omega
            rcases hfbH.out with ⟨-, h0, -⟩ | ⟨gb, rfl, hgbB, hgbs, hgbl, hcb⟩
            · omega
            rcases hfwH.out with ⟨-, h0, -⟩ | ⟨gw, rfl, hgwB, hgws, -, hcw⟩
            · omega
            obtain ⟨p, hp⟩ : ∃ p, psa[j]? = some p := ⟨_, List.getElem?_eq_getElem (by have := hnaH.out; omega)⟩
            obtain ⟨q, hq⟩ : ∃ p, psb[j]? = some p := ⟨_, List.getElem?_eq_getElem (by have := hnbH.out; omega)⟩
            obtain ⟨⟨cs, t, N⟩, hr⟩ : ∃ p, psw[j]? = some p := ⟨_, List.getElem?_eq_getElem h1⟩
            obtain ⟨xa, va, na, fa⟩ := p
            obtain ⟨xb, vb, nb, fb⟩ := q
            have gr := bareR_at hr
            have gp := bare_at hp
            have gq := bare_at hq
            rw [hbwH.out] at gr
            rw [hpsaH.out, gr] at gp
            rw [hpsbH.out, gr] at gq
            simp only [Option.some.injEq, Prod.mk.injEq] at gp gq
            obtain ⟨rfl, rfl⟩ := gp
            obtain ⟨rfl, rfl⟩ := gq
            obtain ⟨fa1, fa2⟩ := flatC_at psa j _ hp
            obtain ⟨fb1, fb2⟩ := flatC_at psb j _ hq
            have helv := hrswH.out.eleven
            obtain ⟨fw1, fw2⟩ := flatR_at psw j _ helv hr
            have ht := hrswH.out _ (List.mem_of_getElem? hr)
            have hok : okB (builtV t) = true := hallH.out _ (groupV_mem _ _ (List.mem_of_getElem? gr))
            have hva := (hGa3H.out.ok _ (List.mem_of_getElem? hp)).1
            have hvb := (hGb3H.out.ok _ (List.mem_of_getElem? hq)).1
            have hvbf := (hGb3H.out.ok _ (List.mem_of_getElem? hq)).2.2
            have hap := spentC_apart hGa3H.out.apart hp
            have hNr := groupV_le vals _ (List.mem_of_getElem? gr)
            have hsum := sumV_next gr
            have hsb := sumV_take (groupV_ones vals) j
            have hsb2 := sumV_take (groupV_ones vals) (j + 1)
            rw [sumV_group, hvlH.out] at hsb hsb2
            simp only at hsum hNr fa1 fa2 fb1 fb2 fw1 fw2 ht hva hvb hap
            have hnsa : ga ∉ spentC psa j := hsla.out ga (by simp [ownL, Value.ownBlock]) j
            have hnsb : gb ∉ spentC psa j := fun hs => by have := (hspa.out gb (spentC_sub gb hs)).2; omega
            have hnsw : gw ∉ spentC psa j := fun hs => by have := (hspa.out gw (spentC_sub gw hs)).2; omega
            have a1 : wr.cell? ⟨ga, j * 2, none⟩ = some xa := (hbut.cell (p := ⟨ga, j * 2, none⟩) hgas hnsa).trans ((hca (j * 2) (by omega)).trans fa1)
            have a2 : wr.cell? ⟨ga, j * 2 + 1, none⟩ = some (.int .i64 N) := (hbut.cell (p := ⟨ga, j * 2 + 1, none⟩) hgas hnsa).trans ((hca (j * 2 + 1) (by omega)).trans fa2)
            have a3 : wr.cell? ⟨gb, j * 2, none⟩ = some xb := (hbut.cell (p := ⟨gb, j * 2, none⟩) hgbs hnsb).trans ((hcb (j * 2) (by omega)).trans fb1)
            have a4 : wr.cell? ⟨gb, j * 2 + 1, none⟩ = some (.int .i64 N) := (hbut.cell (p := ⟨gb, j * 2 + 1, none⟩) hgbs hnsb).trans ((hcb (j * 2 + 1) (by omega)).trans fb2)
            have hdc : ∀ i, i < 11 → wr.cell? ⟨gw, j * 12 + i, none⟩ = cs[i]? := fun i hi => (hbut.cell (p := ⟨gw, j * 12 + i, none⟩) hgws hnsw).trans ((hcw (j * 12 + i) (by omega)).trans (fw1 i hi))
            have a5 : wr.cell? ⟨gw, j * 12 + 11, none⟩ = some (.int .i64 N) := (hbut.cell (p := ⟨gw, j * 12 + 11, none⟩) hgws hnsw).trans ((hcw (j * 12 + 11) (by omega)).trans fw2)
            have hbww : Below w.heap.size w wr := hbw3.out.trans (hbut.below' (by have := hbw3.out.size; omega) (fun i hi hs => by have := (hspa.out i (spentC_sub i hs)).1; omega))
            have hvaw : VRep wr (builtV t) xa fa := VRep.but hva hbut (fun b hb => hap.2 b hb)
            have hvbw : VRep wr (builtV t) xb fb := VRep.but hvb hbut (fun b hb hs => by have h1 := (hvbf b hb).1; have h2 := (hspa.out b (spentC_sub b hs)).2; omega)
            have htw := TRep.keep (keeps_of_below hbww) _ _ ht
            have hsmt := small_built t _ ht
            have hisA := Lib.hid (fun W (hb : Below wr.heap.size wr W) => by
              have h := Is_said (plain_any _) (hvaw.below hb) hsmt (TRep.keep (keeps_of_below hb) _ _ htw)
              rw [is_own hok] at h
              exact h)
            have hisB := Lib.hid (fun W (hb : Below wr.heap.size wr W) => by
              have h := Is_said (plain_any _) (hvbw.below hb) hsmt (TRep.keep (keeps_of_below hb) _ _ htw)
              rw [is_own hok] at h
              exact h)
            have hspoil := Lib.hid (fun W (hb : Below wr.heap.size wr W) => spoil_any (builtV t) xa fa W (hvaw.below hb) hsmt hap.1)
            have hsn := Lib.hid (spentC_next hp)
            have hxa := hva.one
            have hxb := hvb.one
            have hdl := helv _ (List.mem_of_getElem? hr)
            simp only at hdl
            obtain ⟨c0, c1, c2, c3, c4, c5, c6, c7, c8, c9, c10, rfl⟩ := eleven hdl
            have q0 := hdc 0 (by omega)
            have q1 := hdc 1 (by omega)
            have q2 := hdc 2 (by omega)
            have q3 := hdc 3 (by omega)
            have q4 := hdc 4 (by omega)
            have q5 := hdc 5 (by omega)
            have q6 := hdc 6 (by omega)
            have q7 := hdc 7 (by omega)
            have q8 := hdc 8 (by omega)
            have q9 := hdc 9 (by omega)
            have q10 := hdc 10 (by omega)
            simp only [List.getElem?_cons_zero, List.getElem?_cons_succ, Nat.add_zero, Nat.reduceAdd] at q0 q1 q2 q3 q4 q5 q6 q7 q8 q9 q10
            have hS0 : wr.cell? ⟨ga, j * 2, none⟩ = some xa ∧ wr.cell? ⟨ga, j * 2 + 1, none⟩ = some (.int .i64 N) ∧ wr.cell? ⟨gb, j * 2, none⟩ = some xb ∧ wr.cell? ⟨gb, j * 2 + 1, none⟩ = some (.int .i64 N) ∧ wr.cell? ⟨gw, j * 12, none⟩ = some c0 ∧ wr.cell? ⟨gw, j * 12 + 1, none⟩ = some c1 ∧ wr.cell? ⟨gw, j * 12 + 2, none⟩ = some c2 ∧ wr.cell? ⟨gw, j * 12 + 3, none⟩ = some c3 ∧ wr.cell? ⟨gw, j * 12 + 4, none⟩ = some c4 ∧ wr.cell? ⟨gw, j * 12 + 5, none⟩ = some c5 ∧ wr.cell? ⟨gw, j * 12 + 6, none⟩ = some c6 ∧ wr.cell? ⟨gw, j * 12 + 7, none⟩ = some c7 ∧ wr.cell? ⟨gw, j * 12 + 8, none⟩ = some c8 ∧ wr.cell? ⟨gw, j * 12 + 9, none⟩ = some c9 ∧ wr.cell? ⟨gw, j * 12 + 10, none⟩ = some c10 ∧ wr.cell? ⟨gw, j * 12 + 11, none⟩ = some (.int .i64 N) := ⟨a1, a2, a3, a4, q0, q1, q2, q3, q4, q5, q6, q7, q8, q9, q10, a5⟩
            have hSk := Lib.hid (show ∀ W, Below wr.heap.size wr W → W.cell? ⟨ga, j * 2, none⟩ = some xa ∧ W.cell? ⟨ga, j * 2 + 1, none⟩ = some (.int .i64 N) ∧ W.cell? ⟨gb, j * 2, none⟩ = some xb ∧ W.cell? ⟨gb, j * 2 + 1, none⟩ = some (.int .i64 N) ∧ W.cell? ⟨gw, j * 12, none⟩ = some c0 ∧ W.cell? ⟨gw, j * 12 + 1, none⟩ = some c1 ∧ W.cell? ⟨gw, j * 12 + 2, none⟩ = some c2 ∧ W.cell? ⟨gw, j * 12 + 3, none⟩ = some c3 ∧ W.cell? ⟨gw, j * 12 + 4, none⟩ = some c4 ∧ W.cell? ⟨gw, j * 12 + 5, none⟩ = some c5 ∧ W.cell? ⟨gw, j * 12 + 6, none⟩ = some c6 ∧ W.cell? ⟨gw, j * 12 + 7, none⟩ = some c7 ∧ W.cell? ⟨gw, j * 12 + 8, none⟩ = some c8 ∧ W.cell? ⟨gw, j * 12 + 9, none⟩ = some c9 ∧ W.cell? ⟨gw, j * 12 + 10, none⟩ = some c10 ∧ W.cell? ⟨gw, j * 12 + 11, none⟩ = some (.int .i64 N) from fun W hW => by
              obtain ⟨p0, p1, p2, p3, p4, p5, p6, p7, p8, p9, p10, p11, p12, p13, p14, p15⟩ := hS0
              exact ⟨keeps_of_below hW _ _ p0, keeps_of_below hW _ _ p1, keeps_of_below hW _ _ p2, keeps_of_below hW _ _ p3, keeps_of_below hW _ _ p4, keeps_of_below hW _ _ p5, keeps_of_below hW _ _ p6, keeps_of_below hW _ _ p7, keeps_of_below hW _ _ p8, keeps_of_below hW _ _ p9, keeps_of_below hW _ _ p10, keeps_of_below hW _ _ p11, keeps_of_below hW _ _ p12, keeps_of_below hW _ _ p13, keeps_of_below hW _ _ p14, keeps_of_below hW _ _ p15⟩)
            have hsumH := Lib.hid hsum
            obtain ⟨s, hs⟩ : ∃ s, s = sumV ((groupV vals).take j) := ⟨_, rfl⟩
            rw [← hs] at hsb
            have hws : IntKind.i64.wrap (s + N) = s + N := by rw [hsum, ← hs] at hsb2; rw [IntKind.wrap_i64]; omega
            have hsH := Lib.hid hs
            have hbutf := Lib.hid hbut
            have hszw : w3.heap.size ≤ wr.heap.size := hbut.size
            rw [← hs]
            clear hbut hca hcb hcw gr hp hq hr fa1 fa2 fb1 fb2 fw1 fw2 ht hok hva hvb hvbf hap hNr hsum hsb2 hs hvaw hvbw htw hsmt hdc hdl hS0 a1 a2 a3 a4 a5 q0 q1 q2 q3 q4 q5 q6 q7 q8 q9 q10 hbww helv hnsa hnsb hnsw hgal hgbl
            go_wp2_with fail
            refine wp_region_held_drew (S := (fun w' => w'.cell? ⟨ga, j * 2, none⟩ = some xa ∧ w'.cell? ⟨ga, j * 2 + 1, none⟩ = some (.int .i64 N) ∧ w'.cell? ⟨gb, j * 2, none⟩ = some xb ∧ w'.cell? ⟨gb, j * 2 + 1, none⟩ = some (.int .i64 N) ∧ w'.cell? ⟨gw, j * 12, none⟩ = some c0 ∧ w'.cell? ⟨gw, j * 12 + 1, none⟩ = some c1 ∧ w'.cell? ⟨gw, j * 12 + 2, none⟩ = some c2 ∧ w'.cell? ⟨gw, j * 12 + 3, none⟩ = some c3 ∧ w'.cell? ⟨gw, j * 12 + 4, none⟩ = some c4 ∧ w'.cell? ⟨gw, j * 12 + 5, none⟩ = some c5 ∧ w'.cell? ⟨gw, j * 12 + 6, none⟩ = some c6 ∧ w'.cell? ⟨gw, j * 12 + 7, none⟩ = some c7 ∧ w'.cell? ⟨gw, j * 12 + 8, none⟩ = some c8 ∧ w'.cell? ⟨gw, j * 12 + 9, none⟩ = some c9 ∧ w'.cell? ⟨gw, j * 12 + 10, none⟩ = some c10 ∧ w'.cell? ⟨gw, j * 12 + 11, none⟩ = some (.int .i64 N))) (by kernel_rfl) ?_ (fun hHeld => ?_)
            · exact hSk.out _ (Below.refl wr.heap.size wr).drew
            refine wpAnyH_take (i := 0) (v := ?vu0) rfl (by kernel_rfl) (by kernel_rfl) (by kernel_rfl) (fun _ _ _ h => h) (.inl ⟨by rfl, ?hyu0⟩) (by assumption) ?restu0
            case hyu0 => (intro w hSw; (try dsimp only at hSw); go_simp; first | done | with_reducible rfl)
            (try simp only [Act.put, List.setIfInBounds_toArray, List.set_cons_zero, List.set_cons_succ, List.getElem_toArray, List.getElem_cons_zero, List.getElem_cons_succ])
            refine wpAnyH_take (i := 1) (v := ?vu1) rfl (by kernel_rfl) (by kernel_rfl) (by kernel_rfl) (fun _ _ _ h => h) (.inl ⟨by rfl, ?hyu1⟩) (by assumption) ?restu1
            case hyu1 => (intro w hSw; (try dsimp only at hSw); go_simp; first | done | with_reducible rfl)
            (try simp only [Act.put, List.setIfInBounds_toArray, List.set_cons_zero, List.set_cons_succ, List.getElem_toArray, List.getElem_cons_zero, List.getElem_cons_succ])
            refine wpAnyH_take (i := 2) (v := ?vu2) rfl (by kernel_rfl) (by kernel_rfl) (by kernel_rfl) (fun _ _ _ h => h) (.inl ⟨by rfl, ?hyu2⟩) (by assumption) ?restu2
            case hyu2 => (intro w hSw; (try dsimp only at hSw); go_simp; first | done | with_reducible rfl)
            (try simp only [Act.put, List.setIfInBounds_toArray, List.set_cons_zero, List.set_cons_succ, List.getElem_toArray, List.getElem_cons_zero, List.getElem_cons_succ])
            refine wpAnyH_take (i := 3) (v := ?vu3) rfl (by kernel_rfl) (by kernel_rfl) (by kernel_rfl) (fun _ _ _ h => h) (.inl ⟨by rfl, ?hyu3⟩) (by assumption) ?restu3
            case hyu3 => (intro w hSw; (try dsimp only at hSw); go_simp; first | done | with_reducible rfl)
            (try simp only [Act.put, List.setIfInBounds_toArray, List.set_cons_zero, List.set_cons_succ, List.getElem_toArray, List.getElem_cons_zero, List.getElem_cons_succ])
            refine wpAnyH_take (i := 4) (v := ?vu4) rfl (by kernel_rfl) (by kernel_rfl) (by kernel_rfl) (fun _ _ _ h => h) (.inl ⟨by rfl, ?hyu4⟩) (by assumption) ?restu4
            case hyu4 => (intro w hSw; (try dsimp only at hSw); go_simp; first | done | with_reducible rfl)
            (try simp only [Act.put, List.setIfInBounds_toArray, List.set_cons_zero, List.set_cons_succ, List.getElem_toArray, List.getElem_cons_zero, List.getElem_cons_succ])
            refine wpAnyH_take (i := 5) (v := ?vu5) rfl (by kernel_rfl) (by kernel_rfl) (by kernel_rfl) (fun _ _ _ h => h) (.inl ⟨by rfl, ?hyu5⟩) (by assumption) ?restu5
            case hyu5 => (intro w hSw; (try dsimp only at hSw); go_simp; first | done | with_reducible rfl)
            (try simp only [Act.put, List.setIfInBounds_toArray, List.set_cons_zero, List.set_cons_succ, List.getElem_toArray, List.getElem_cons_zero, List.getElem_cons_succ])
            refine wpAnyH_take (i := 6) (v := ?vu6) rfl (by kernel_rfl) (by kernel_rfl) (by kernel_rfl) (fun _ _ _ h => h) (.inl ⟨by rfl, ?hyu6⟩) (by assumption) ?restu6
            case hyu6 => (intro w hSw; (try dsimp only at hSw); go_simp; first | done | with_reducible rfl)
            (try simp only [Act.put, List.setIfInBounds_toArray, List.set_cons_zero, List.set_cons_succ, List.getElem_toArray, List.getElem_cons_zero, List.getElem_cons_succ])
            refine wpAnyH_take (i := 7) (v := ?vu7) rfl (by kernel_rfl) (by kernel_rfl) (by kernel_rfl) (fun _ _ _ h => h) (.inl ⟨by rfl, ?hyu7⟩) (by assumption) ?restu7
            case hyu7 => (intro w hSw; (try dsimp only at hSw); go_simp; first | done | with_reducible rfl)
            (try simp only [Act.put, List.setIfInBounds_toArray, List.set_cons_zero, List.set_cons_succ, List.getElem_toArray, List.getElem_cons_zero, List.getElem_cons_succ])
            refine wpAnyH_take (i := 8) (v := ?vu8) rfl (by kernel_rfl) (by kernel_rfl) (by kernel_rfl) (fun _ _ _ h => h) (.inl ⟨by rfl, ?hyu8⟩) (by assumption) ?restu8
            case hyu8 => (intro w hSw; (try dsimp only at hSw); go_simp; first | done | with_reducible rfl)
            (try simp only [Act.put, List.setIfInBounds_toArray, List.set_cons_zero, List.set_cons_succ, List.getElem_toArray, List.getElem_cons_zero, List.getElem_cons_succ])
            refine wpAnyH_take (i := 9) (v := ?vu9) rfl (by kernel_rfl) (by kernel_rfl) (by kernel_rfl) (fun _ _ _ h => h) (.inl ⟨by rfl, ?hyu9⟩) (by assumption) ?restu9
            case hyu9 => (intro w hSw; (try dsimp only at hSw); go_simp; first | done | with_reducible rfl)
            (try simp only [Act.put, List.setIfInBounds_toArray, List.set_cons_zero, List.set_cons_succ, List.getElem_toArray, List.getElem_cons_zero, List.getElem_cons_succ])
            refine wpAnyH_ready (rs := [10]) (by kernel_rfl) (by simp) ?_
            refine AllReadyH.cons rfl (fun K hK => ?_) AllReadyH.nil
            rw [if_pos (by rfl)]
            go_simp
            refine (hisA.out _ (Below.refl wr.heap.size wr).drew).mono ?_
            rintro e w4 ⟨rfl, hw4⟩
            have h4 : Below wr.heap.size wr w4 := (Below.refl wr.heap.size wr).drew.trans (below_le hw4 (Below.refl wr.heap.size wr).drew.size)
            refine hK.out _ _ ?_ (fun hHeld2 => ?_)
            · exact hSk.out _ h4
            clear hK K
            (try simp only [Act.put, List.setIfInBounds_toArray, List.set_cons_zero, List.set_cons_succ, List.getElem_toArray, List.getElem_cons_zero, List.getElem_cons_succ])
            refine wpAnyH_take (i := 11) (v := ?vu11) rfl (by kernel_rfl) (by kernel_rfl) (by kernel_rfl) (fun _ _ _ h => h) (.inl ⟨by rfl, ?hyu11⟩) (by assumption) ?restu11
            case hyu11 => (intro w hSw; (try dsimp only at hSw); go_simp; first | done | with_reducible rfl)
            (try simp only [Act.put, List.setIfInBounds_toArray, List.set_cons_zero, List.set_cons_succ, List.getElem_toArray, List.getElem_cons_zero, List.getElem_cons_succ])
            refine wpAnyH_take (i := 12) (v := ?vu12) rfl (by kernel_rfl) (by kernel_rfl) (by kernel_rfl) (fun _ _ _ h => h) (.inl ⟨by rfl, ?hyu12⟩) (by assumption) ?restu12
            case hyu12 => (intro w hSw; (try dsimp only at hSw); go_simp; first | done | with_reducible rfl)
            (try simp only [Act.put, List.setIfInBounds_toArray, List.set_cons_zero, List.set_cons_succ, List.getElem_toArray, List.getElem_cons_zero, List.getElem_cons_succ])
            refine wpAnyH_take (i := 13) (v := ?vu13) rfl (by kernel_rfl) (by kernel_rfl) (by kernel_rfl) (fun _ _ _ h => h) (.inl ⟨by rfl, ?hyu13⟩) (by assumption) ?restu13
            case hyu13 => (intro w hSw; (try dsimp only at hSw); go_simp; first | done | with_reducible rfl)
            (try simp only [Act.put, List.setIfInBounds_toArray, List.set_cons_zero, List.set_cons_succ, List.getElem_toArray, List.getElem_cons_zero, List.getElem_cons_succ])
            refine wpAnyH_take (i := 14) (v := ?vu14) rfl (by kernel_rfl) (by kernel_rfl) (by kernel_rfl) (fun _ _ _ h => h) (.inl ⟨by rfl, ?hyu14⟩) (by assumption) ?restu14
            case hyu14 => (intro w hSw; (try dsimp only at hSw); go_simp; first | done | with_reducible rfl)
            (try simp only [Act.put, List.setIfInBounds_toArray, List.set_cons_zero, List.set_cons_succ, List.getElem_toArray, List.getElem_cons_zero, List.getElem_cons_succ])
            refine wpAnyH_take (i := 15) (v := ?vu15) rfl (by kernel_rfl) (by kernel_rfl) (by kernel_rfl) (fun _ _ _ h => h) (.inl ⟨by rfl, ?hyu15⟩) (by assumption) ?restu15
            case hyu15 => (intro w hSw; (try dsimp only at hSw); go_simp; first | done | with_reducible rfl)
            (try simp only [Act.put, List.setIfInBounds_toArray, List.set_cons_zero, List.set_cons_succ, List.getElem_toArray, List.getElem_cons_zero, List.getElem_cons_succ])
            refine wpAnyH_take (i := 16) (v := ?vu16) rfl (by kernel_rfl) (by kernel_rfl) (by kernel_rfl) (fun _ _ _ h => h) (.inl ⟨by rfl, ?hyu16⟩) (by assumption) ?restu16
            case hyu16 => (intro w hSw; (try dsimp only at hSw); go_simp; first | done | with_reducible rfl)
            (try simp only [Act.put, List.setIfInBounds_toArray, List.set_cons_zero, List.set_cons_succ, List.getElem_toArray, List.getElem_cons_zero, List.getElem_cons_succ])
            refine wpAnyH_take (i := 17) (v := ?vu17) rfl (by kernel_rfl) (by kernel_rfl) (by kernel_rfl) (fun _ _ _ h => h) (.inl ⟨by rfl, ?hyu17⟩) (by assumption) ?restu17
            case hyu17 => (intro w hSw; (try dsimp only at hSw); go_simp; first | done | with_reducible rfl)
            (try simp only [Act.put, List.setIfInBounds_toArray, List.set_cons_zero, List.set_cons_succ, List.getElem_toArray, List.getElem_cons_zero, List.getElem_cons_succ])
            refine wpAnyH_take (i := 18) (v := ?vu18) rfl (by kernel_rfl) (by kernel_rfl) (by kernel_rfl) (fun _ _ _ h => h) (.inl ⟨by rfl, ?hyu18⟩) (by assumption) ?restu18
            case hyu18 => (intro w hSw; (try dsimp only at hSw); go_simp; first | done | with_reducible rfl)
            (try simp only [Act.put, List.setIfInBounds_toArray, List.set_cons_zero, List.set_cons_succ, List.getElem_toArray, List.getElem_cons_zero, List.getElem_cons_succ])
            refine wpAnyH_take (i := 19) (v := ?vu19) rfl (by kernel_rfl) (by kernel_rfl) (by kernel_rfl) (fun _ _ _ h => h) (.inl ⟨by rfl, ?hyu19⟩) (by assumption) ?restu19
            case hyu19 => (intro w hSw; (try dsimp only at hSw); go_simp; first | done | with_reducible rfl)
            (try simp only [Act.put, List.setIfInBounds_toArray, List.set_cons_zero, List.set_cons_succ, List.getElem_toArray, List.getElem_cons_zero, List.getElem_cons_succ])
            refine wpAnyH_take (i := 20) (v := ?vu20) rfl (by kernel_rfl) (by kernel_rfl) (by kernel_rfl) (fun _ _ _ h => h) (.inl ⟨by rfl, ?hyu20⟩) (by assumption) ?restu20
            case hyu20 => (intro w hSw; (try dsimp only at hSw); go_simp; first | done | with_reducible rfl)
            (try simp only [Act.put, List.setIfInBounds_toArray, List.set_cons_zero, List.set_cons_succ, List.getElem_toArray, List.getElem_cons_zero, List.getElem_cons_succ])
            refine wpAnyH_take (i := 21) (v := ?vu21) rfl (by kernel_rfl) (by kernel_rfl) (by kernel_rfl) (fun _ _ _ h => h) (.inl ⟨by rfl, ?hyu21⟩) (by assumption) ?restu21
            case hyu21 => (intro w hSw; (try dsimp only at hSw); go_simp; first | done | with_reducible rfl)
            (try simp only [Act.put, List.setIfInBounds_toArray, List.set_cons_zero, List.set_cons_succ, List.getElem_toArray, List.getElem_cons_zero, List.getElem_cons_succ])
            refine wpAnyH_take (i := 22) (v := ?vu22) rfl (by kernel_rfl) (by kernel_rfl) (by kernel_rfl) (fun _ _ _ h => h) (.inl ⟨by rfl, ?hyu22⟩) (by assumption) ?restu22
            case hyu22 => (intro w hSw; (try dsimp only at hSw); go_simp; first | done | with_reducible rfl)
            (try simp only [Act.put, List.setIfInBounds_toArray, List.set_cons_zero, List.set_cons_succ, List.getElem_toArray, List.getElem_cons_zero, List.getElem_cons_succ])
            refine wpAnyH_take (i := 23) (v := ?vu23) rfl (by kernel_rfl) (by kernel_rfl) (by kernel_rfl) (fun _ _ _ h => h) (.inl ⟨by rfl, ?hyu23⟩) (by assumption) ?restu23
            case hyu23 => (intro w hSw; (try dsimp only at hSw); go_simp; first | done | with_reducible rfl)
            (try simp only [Act.put, List.setIfInBounds_toArray, List.set_cons_zero, List.set_cons_succ, List.getElem_toArray, List.getElem_cons_zero, List.getElem_cons_succ])
            refine wpAnyH_take (i := 24) (v := ?vu24) rfl (by kernel_rfl) (by kernel_rfl) (by kernel_rfl) (fun _ _ _ h => h) (.inl ⟨by rfl, ?hyu24⟩) (by assumption) ?restu24
            case hyu24 => (intro w hSw; (try dsimp only at hSw); go_simp; first | done | with_reducible rfl)
            (try simp only [Act.put, List.setIfInBounds_toArray, List.set_cons_zero, List.set_cons_succ, List.getElem_toArray, List.getElem_cons_zero, List.getElem_cons_succ])
            refine wpAnyH_take (i := 25) (v := ?vu25) rfl (by kernel_rfl) (by kernel_rfl) (by kernel_rfl) (fun _ _ _ h => h) (.inl ⟨by rfl, ?hyu25⟩) (by assumption) ?restu25
            case hyu25 => (intro w hSw; (try dsimp only at hSw); go_simp; first | done | with_reducible rfl)
            (try simp only [Act.put, List.setIfInBounds_toArray, List.set_cons_zero, List.set_cons_succ, List.getElem_toArray, List.getElem_cons_zero, List.getElem_cons_succ])
            refine wpAnyH_take (i := 26) (v := ?vu26) rfl (by kernel_rfl) (by kernel_rfl) (by kernel_rfl) (fun _ _ _ h => h) (.inl ⟨by rfl, ?hyu26⟩) (by assumption) ?restu26
            case hyu26 => (intro w hSw; (try dsimp only at hSw); go_simp; first | done | with_reducible rfl)
            (try simp only [Act.put, List.setIfInBounds_toArray, List.set_cons_zero, List.set_cons_succ, List.getElem_toArray, List.getElem_cons_zero, List.getElem_cons_succ])
            refine wpAnyH_take (i := 27) (v := ?vu27) rfl (by kernel_rfl) (by kernel_rfl) (by kernel_rfl) (fun _ _ _ h => h) (.inl ⟨by rfl, ?hyu27⟩) (by assumption) ?restu27
            case hyu27 => (intro w hSw; (try dsimp only at hSw); go_simp; first | done | with_reducible rfl)
            (try simp only [Act.put, List.setIfInBounds_toArray, List.set_cons_zero, List.set_cons_succ, List.getElem_toArray, List.getElem_cons_zero, List.getElem_cons_succ])
            refine wpAnyH_take (i := 28) (v := ?vu28) rfl (by kernel_rfl) (by kernel_rfl) (by kernel_rfl) (fun _ _ _ h => h) (.inl ⟨by rfl, ?hyu28⟩) (by assumption) ?restu28
            case hyu28 => (intro w hSw; (try dsimp only at hSw); go_simp; first | done | with_reducible rfl)
            (try simp only [Act.put, List.setIfInBounds_toArray, List.set_cons_zero, List.set_cons_succ, List.getElem_toArray, List.getElem_cons_zero, List.getElem_cons_succ])
            refine wpAnyH_take (i := 29) (v := ?vu29) rfl (by kernel_rfl) (by kernel_rfl) (by kernel_rfl) (fun _ _ _ h => h) (.inl ⟨by rfl, ?hyu29⟩) (by assumption) ?restu29
            case hyu29 => (intro w hSw; (try dsimp only at hSw); go_simp; first | done | with_reducible rfl)
            (try simp only [Act.put, List.setIfInBounds_toArray, List.set_cons_zero, List.set_cons_succ, List.getElem_toArray, List.getElem_cons_zero, List.getElem_cons_succ])
            refine wpAnyH_take (i := 30) (v := ?vu30) rfl (by kernel_rfl) (by kernel_rfl) (by kernel_rfl) (fun _ _ _ h => h) (.inl ⟨by rfl, ?hyu30⟩) (by assumption) ?restu30
            case hyu30 => (intro w hSw; (try dsimp only at hSw); go_simp; first | done | with_reducible rfl)
            (try simp only [Act.put, List.setIfInBounds_toArray, List.set_cons_zero, List.set_cons_succ, List.getElem_toArray, List.getElem_cons_zero, List.getElem_cons_succ])
            refine wpAnyH_take (i := 31) (v := ?vu31) rfl (by kernel_rfl) (by kernel_rfl) (by kernel_rfl) (fun _ _ _ h => h) (.inl ⟨by rfl, ?hyu31⟩) (by assumption) ?restu31
            case hyu31 => (intro w hSw; (try dsimp only at hSw); go_simp; first | done | with_reducible rfl)
            (try simp only [Act.put, List.setIfInBounds_toArray, List.set_cons_zero, List.set_cons_succ, List.getElem_toArray, List.getElem_cons_zero, List.getElem_cons_succ])
            refine wpAnyH_take (i := 32) (v := ?vu32) rfl (by kernel_rfl) (by kernel_rfl) (by kernel_rfl) (fun _ _ _ h => h) (.inl ⟨by rfl, ?hyu32⟩) (by assumption) ?restu32
            case hyu32 => (intro w hSw; (try dsimp only at hSw); go_simp; first | done | with_reducible rfl)
            (try simp only [Act.put, List.setIfInBounds_toArray, List.set_cons_zero, List.set_cons_succ, List.getElem_toArray, List.getElem_cons_zero, List.getElem_cons_succ])
            refine wpAnyH_take (i := 33) (v := ?vu33) rfl (by kernel_rfl) (by kernel_rfl) (by kernel_rfl) (fun _ _ _ h => h) (.inl ⟨by rfl, ?hyu33⟩) (by assumption) ?restu33
            case hyu33 => (intro w hSw; (try dsimp only at hSw); go_simp; first | done | with_reducible rfl)
            (try simp only [Act.put, List.setIfInBounds_toArray, List.set_cons_zero, List.set_cons_succ, List.getElem_toArray, List.getElem_cons_zero, List.getElem_cons_succ])
            refine wpAnyH_take (i := 34) (v := ?vu34) rfl (by kernel_rfl) (by kernel_rfl) (by kernel_rfl) (fun _ _ _ h => h) (.inl ⟨by rfl, ?hyu34⟩) (by assumption) ?restu34
            case hyu34 => (intro w hSw; (try dsimp only at hSw); go_simp; first | done | with_reducible rfl)
            (try simp only [Act.put, List.setIfInBounds_toArray, List.set_cons_zero, List.set_cons_succ, List.getElem_toArray, List.getElem_cons_zero, List.getElem_cons_succ])
            refine wpAnyH_take (i := 35) (v := ?vu35) rfl (by kernel_rfl) (by kernel_rfl) (by kernel_rfl) (fun _ _ _ h => h) (.inl ⟨by rfl, ?hyu35⟩) (by assumption) ?restu35
            case hyu35 => (intro w hSw; (try dsimp only at hSw); go_simp; first | done | with_reducible rfl)
            (try simp only [Act.put, List.setIfInBounds_toArray, List.set_cons_zero, List.set_cons_succ, List.getElem_toArray, List.getElem_cons_zero, List.getElem_cons_succ])
            refine wpAnyH_ready (rs := [36]) (by kernel_rfl) (by simp) ?_
            refine AllReadyH.cons rfl (fun K hK => ?_) AllReadyH.nil
            rw [if_pos (by rfl)]
            go_simp
            refine (hisB.out _ h4).mono ?_
            rintro e w5 ⟨rfl, hw5⟩
            have h5 : Below wr.heap.size wr w5 := h4.trans (below_le hw5 h4.size)
            refine hK.out _ _ ?_ (fun hHeld2 => ?_)
            · exact hSk.out _ h5
            clear hK K
            (try simp only [Act.put, List.setIfInBounds_toArray, List.set_cons_zero, List.set_cons_succ, List.getElem_toArray, List.getElem_cons_zero, List.getElem_cons_succ])
            refine wpAnyH_take (i := 37) (v := ?vu37) rfl (by kernel_rfl) (by kernel_rfl) (by kernel_rfl) (fun _ _ _ h => h) (.inl ⟨by rfl, ?hyu37⟩) (by assumption) ?restu37
            case hyu37 => (intro w hSw; (try dsimp only at hSw); go_simp; first | done | with_reducible rfl)
            (try simp only [Act.put, List.setIfInBounds_toArray, List.set_cons_zero, List.set_cons_succ, List.getElem_toArray, List.getElem_cons_zero, List.getElem_cons_succ])
            refine wpAnyH_take (i := 38) (v := ?vu38) rfl (by kernel_rfl) (by kernel_rfl) (by kernel_rfl) (fun _ _ _ h => h) (.inl ⟨by rfl, ?hyu38⟩) (by assumption) ?restu38
            case hyu38 => (intro w hSw; (try dsimp only at hSw); go_simp; first | done | with_reducible rfl)
            (try simp only [Act.put, List.setIfInBounds_toArray, List.set_cons_zero, List.set_cons_succ, List.getElem_toArray, List.getElem_cons_zero, List.getElem_cons_succ])
            refine wpAnyH_take (i := 39) (v := ?vu39) rfl (by kernel_rfl) (by kernel_rfl) (by kernel_rfl) (fun _ _ _ h => h) (.inl ⟨by rfl, ?hyu39⟩) (by assumption) ?restu39
            case hyu39 => (intro w hSw; (try dsimp only at hSw); go_simp; first | done | with_reducible rfl)
            (try simp only [Act.put, List.setIfInBounds_toArray, List.set_cons_zero, List.set_cons_succ, List.getElem_toArray, List.getElem_cons_zero, List.getElem_cons_succ])
            refine wpAnyH_take (i := 40) (v := ?vu40) rfl (by kernel_rfl) (by kernel_rfl) (by kernel_rfl) (fun _ _ _ h => h) (.inl ⟨by rfl, ?hyu40⟩) (by assumption) ?restu40
            case hyu40 => (intro w hSw; (try dsimp only at hSw); go_simp; first | done | with_reducible rfl)
            (try simp only [Act.put, List.setIfInBounds_toArray, List.set_cons_zero, List.set_cons_succ, List.getElem_toArray, List.getElem_cons_zero, List.getElem_cons_succ])
            refine wpAnyH_take (i := 41) (v := ?vu41) rfl (by kernel_rfl) (by kernel_rfl) (by kernel_rfl) (fun _ _ _ h => h) (.inl ⟨by rfl, ?hyu41⟩) (by assumption) ?restu41
            case hyu41 => (intro w hSw; (try dsimp only at hSw); go_simp; first | done | with_reducible rfl)
            (try simp only [Act.put, List.setIfInBounds_toArray, List.set_cons_zero, List.set_cons_succ, List.getElem_toArray, List.getElem_cons_zero, List.getElem_cons_succ])
            refine wpAnyH_take (i := 42) (v := ?vu42) rfl (by kernel_rfl) (by kernel_rfl) (by kernel_rfl) (fun _ _ _ h => h) (.inl ⟨by rfl, ?hyu42⟩) (by assumption) ?restu42
            case hyu42 => (intro w hSw; (try dsimp only at hSw); go_simp; first | done | with_reducible rfl)
            (try simp only [Act.put, List.setIfInBounds_toArray, List.set_cons_zero, List.set_cons_succ, List.getElem_toArray, List.getElem_cons_zero, List.getElem_cons_succ])
            refine wpAnyH_take (i := 43) (v := ?vu43) rfl (by kernel_rfl) (by kernel_rfl) (by kernel_rfl) (fun _ _ _ h => h) (.inl ⟨by rfl, ?hyu43⟩) (by assumption) ?restu43
            case hyu43 => (intro w hSw; (try dsimp only at hSw); go_simp; first | done | with_reducible rfl)
            (try simp only [Act.put, List.setIfInBounds_toArray, List.set_cons_zero, List.set_cons_succ, List.getElem_toArray, List.getElem_cons_zero, List.getElem_cons_succ])
            refine wpAnyH_take (i := 44) (v := ?vu44) rfl (by kernel_rfl) (by kernel_rfl) (by kernel_rfl) (fun _ _ _ h => h) (.inl ⟨by rfl, ?hyu44⟩) (by assumption) ?restu44
            case hyu44 => (intro w hSw; (try dsimp only at hSw); go_simp; first | done | with_reducible rfl)
            (try simp only [Act.put, List.setIfInBounds_toArray, List.set_cons_zero, List.set_cons_succ, List.getElem_toArray, List.getElem_cons_zero, List.getElem_cons_succ])
            refine wpAnyH_take (i := 45) (v := ?vu45) rfl (by kernel_rfl) (by kernel_rfl) (by kernel_rfl) (fun _ _ _ h => h) (.inl ⟨by rfl, ?hyu45⟩) (by assumption) ?restu45
            case hyu45 => (intro w hSw; (try dsimp only at hSw); go_simp; first | done | with_reducible rfl)
            (try simp only [Act.put, List.setIfInBounds_toArray, List.set_cons_zero, List.set_cons_succ, List.getElem_toArray, List.getElem_cons_zero, List.getElem_cons_succ])
            refine wpAnyH_take (i := 46) (v := ?vu46) rfl (by kernel_rfl) (by kernel_rfl) (by kernel_rfl) (fun _ _ _ h => h) (.inl ⟨by rfl, ?hyu46⟩) (by assumption) ?restu46
            case hyu46 => (intro w hSw; (try dsimp only at hSw); go_simp; first | done | with_reducible rfl)
            (try simp only [Act.put, List.setIfInBounds_toArray, List.set_cons_zero, List.set_cons_succ, List.getElem_toArray, List.getElem_cons_zero, List.getElem_cons_succ])
            refine wpAnyH_take (i := 47) (v := ?vu47) rfl (by kernel_rfl) (by kernel_rfl) (by kernel_rfl) (fun _ _ _ h => h) (.inl ⟨by rfl, ?hyu47⟩) (by assumption) ?restu47
            case hyu47 => (intro w hSw; (try dsimp only at hSw); go_simp; first | done | with_reducible rfl)
            (try simp only [Act.put, List.setIfInBounds_toArray, List.set_cons_zero, List.set_cons_succ, List.getElem_toArray, List.getElem_cons_zero, List.getElem_cons_succ])
            refine wpAnyH_take (i := 48) (v := ?vu48) rfl (by kernel_rfl) (by kernel_rfl) (by kernel_rfl) (fun _ _ _ h => h) (.inl ⟨by rfl, ?hyu48⟩) (by assumption) ?restu48
            case hyu48 => (intro w hSw; (try dsimp only at hSw); go_simp; first | done | with_reducible rfl)
            (try simp only [Act.put, List.setIfInBounds_toArray, List.set_cons_zero, List.set_cons_succ, List.getElem_toArray, List.getElem_cons_zero, List.getElem_cons_succ])
            refine wpAnyH_take (i := 49) (v := ?vu49) rfl (by kernel_rfl) (by kernel_rfl) (by kernel_rfl) (fun _ _ _ h => h) (.inl ⟨by rfl, ?hyu49⟩) (by assumption) ?restu49
            case hyu49 => (intro w hSw; (try dsimp only at hSw); go_simp; first | done | with_reducible rfl)
            (try simp only [Act.put, List.setIfInBounds_toArray, List.set_cons_zero, List.set_cons_succ, List.getElem_toArray, List.getElem_cons_zero, List.getElem_cons_succ])
            refine wpAnyH_take (i := 50) (v := ?vu50) rfl (by kernel_rfl) (by kernel_rfl) (by kernel_rfl) (fun _ _ _ h => h) (.inl ⟨by rfl, ?hyu50⟩) (by assumption) ?restu50
            case hyu50 => (intro w hSw; (try dsimp only at hSw); go_simp; first | done | with_reducible rfl)
            (try simp only [Act.put, List.setIfInBounds_toArray, List.set_cons_zero, List.set_cons_succ, List.getElem_toArray, List.getElem_cons_zero, List.getElem_cons_succ])
            refine wpAnyH_take (i := 51) (v := ?vu51) rfl (by kernel_rfl) (by kernel_rfl) (by kernel_rfl) (fun _ _ _ h => h) (.inl ⟨by rfl, ?hyu51⟩) (by assumption) ?restu51
            case hyu51 => (intro w hSw; (try dsimp only at hSw); go_simp; first | done | with_reducible rfl)
            (try simp only [Act.put, List.setIfInBounds_toArray, List.set_cons_zero, List.set_cons_succ, List.getElem_toArray, List.getElem_cons_zero, List.getElem_cons_succ])
            refine wpAnyH_done (by kernel_rfl) ?_ _
            obtain ⟨w6, hw6⟩ : ∃ W, W = w5 := ⟨_, rfl⟩
            rw [← hw6]
            have h6 : Hid (Below wr.heap.size wr w6) := Lib.hid (hw6 ▸ h5)
            have a1 : w6.cell? ⟨ga, j * 2, none⟩ = some xa := (hSk.out w6 h6.out).1
            have a2 : w6.cell? ⟨ga, j * 2 + 1, none⟩ = some (.int .i64 N) := (hSk.out w6 h6.out).2.1
            clear hw6 hw4 hw5 h4 h5 hHeld
            go_wp2_with fail
            refine (hspoil.out w6 h6.out).mono ?_
            rintro e w7 ⟨rfl, hb7⟩
            have h7 := Lib.hid (show But (fun b => b ∈ spentC psa (j + 1)) w3 w7 from ((hbutf.out.of_below h6.out (fun i hi h => by omega)).mono (fun i _ h => by rw [hsn.out]; exact List.mem_append_left _ h)).then hb7 (fun i _ h => by rw [hsn.out]; exact List.mem_append_right _ h))
            clear hb7
            go_wp2_with fail
            go_roundw
            case rel => exact ⟨j + 1, by omega, by go_num, by rw [hsumH.out, ← hsH.out], h7.out⟩
            case measure => simp [intOf]; omega
          · obtain rfl : j = psw.length := by omega
            have hsumv : sumV ((groupV vals).take psw.length) = (ls.length : Int) := by
              have h2 := congrArg List.length hbwH.out
              unfold bareR at h2
              rw [List.length_map] at h2
              rw [List.take_of_length_le (by omega), sumV_group, hvlH.out]
            rw [hsumv]
            obtain ⟨w4, hw4⟩ : ∃ W, W = wr := ⟨_, rfl⟩
            subst hw4
            have hT4 := hT1.out.below hb13.out
            clear hbut hsumv
            go_wp2_with fail
            go_loopw [14] (fun i W => ∃ j : Nat, j ≤ ls.length ∧ i = .int .i64 j ∧ But (fun b => b ∈ spentC psa psw.length) w3 W) (fun i _ => ls.length - (intOf i).toNat)
            case atStart => exact ⟨0, Nat.zero_le _, rfl, hbutH.out⟩
            case round =>
              obtain ⟨j, hj, rfl, hbut⟩ := hrel
              have hbww : Below w.heap.size w wr := hbw3.out.trans (hbut.below' (by have := hbw3.out.size; omega) (fun i hi hs => by have := (hspa.out i (spentC_sub i hs)).1; omega))
              have hbutf := Lib.hid hbut
              have hbH := Lib.hid hbww
              by_cases h1 : j < ls.length
              · have l1 : (j : Int) < (ls.length : Int) := by omega
                obtain ⟨b', o, t, c0, c1, c2, c3, c4, c5, c6, c7, c8, c9, c10, rfl, hv1, hp1, ht1, hc1⟩ := hat.out j h1
                rcases hiaH.out with ⟨-, h0, -⟩ | ⟨gi, rfl, hgiB, hgis, hgil, hci⟩
                · omega
                obtain ⟨xi, fi, e1, hvi, hfi⟩ := VsRep.at _ _ _ hT4.av j _ hv1
                have hnew := fun b hb => hT1.out.a.new b (hfi b hb)
                have hoi := hT4.a.own
                have hci4 : w3.cell? ⟨gi, j, none⟩ = some xi := (hb13.out.cell (p := ⟨gi, j, none⟩) hgis).trans ((hci j (by omega)).trans e1)
                have hni : gi ∉ spentC psa psw.length := fun hs => by have := (hspa.out gi (spentC_sub gi hs)).1; omega
                have a1 : wr.cell? ⟨gi, j, none⟩ = some xi := (hbut.cell (p := ⟨gi, j, none⟩) (by have := hb13.out.size; show gi < w3.heap.size; omega) hni).trans hci4
                have hok : okB (builtV t) = true := hallH.out _ (List.mem_of_getElem? hv1)
                have hviw : VRep wr (builtV t) xi fi := VRep.but hvi hbut (fun b hb hs => by have h1 := (hnew b hb).2; have h2 := (hspa.out b (spentC_sub b hs)).1; omega)
                have hisI := Lib.hid (fun W (hb : Below wr.heap.size wr W) => by
                  have h := Is_said (plain_any _) (hviw.below hb) (small_built t _ ht1) (TRep.keep (keeps_of_below hb) _ _ (TRep.keep (keeps_of_below hbww) _ _ ht1))
                  rw [is_own hok] at h
                  exact h)
                have hxi := hvi.one
                obtain ⟨q0, q1, q2, q3, q4, q5, q6, q7, q8, q9, q10⟩ := hc1 wr hbww
                have hS0 : wr.cell? ⟨gi, j, none⟩ = some xi ∧ wr.cell? ⟨b', o + j * 11, none⟩ = some c0 ∧ wr.cell? ⟨b', o + j * 11 + 1, none⟩ = some c1 ∧ wr.cell? ⟨b', o + j * 11 + 2, none⟩ = some c2 ∧ wr.cell? ⟨b', o + j * 11 + 3, none⟩ = some c3 ∧ wr.cell? ⟨b', o + j * 11 + 4, none⟩ = some c4 ∧ wr.cell? ⟨b', o + j * 11 + 5, none⟩ = some c5 ∧ wr.cell? ⟨b', o + j * 11 + 6, none⟩ = some c6 ∧ wr.cell? ⟨b', o + j * 11 + 7, none⟩ = some c7 ∧ wr.cell? ⟨b', o + j * 11 + 8, none⟩ = some c8 ∧ wr.cell? ⟨b', o + j * 11 + 9, none⟩ = some c9 ∧ wr.cell? ⟨b', o + j * 11 + 10, none⟩ = some c10 := ⟨a1, q0, q1, q2, q3, q4, q5, q6, q7, q8, q9, q10⟩
                have hSk := Lib.hid (show ∀ W, Below wr.heap.size wr W → W.cell? ⟨gi, j, none⟩ = some xi ∧ W.cell? ⟨b', o + j * 11, none⟩ = some c0 ∧ W.cell? ⟨b', o + j * 11 + 1, none⟩ = some c1 ∧ W.cell? ⟨b', o + j * 11 + 2, none⟩ = some c2 ∧ W.cell? ⟨b', o + j * 11 + 3, none⟩ = some c3 ∧ W.cell? ⟨b', o + j * 11 + 4, none⟩ = some c4 ∧ W.cell? ⟨b', o + j * 11 + 5, none⟩ = some c5 ∧ W.cell? ⟨b', o + j * 11 + 6, none⟩ = some c6 ∧ W.cell? ⟨b', o + j * 11 + 7, none⟩ = some c7 ∧ W.cell? ⟨b', o + j * 11 + 8, none⟩ = some c8 ∧ W.cell? ⟨b', o + j * 11 + 9, none⟩ = some c9 ∧ W.cell? ⟨b', o + j * 11 + 10, none⟩ = some c10 from fun W hW => by
                  obtain ⟨p0, p1, p2, p3, p4, p5, p6, p7, p8, p9, p10, p11⟩ := hS0
                  exact ⟨keeps_of_below hW _ _ p0, keeps_of_below hW _ _ p1, keeps_of_below hW _ _ p2, keeps_of_below hW _ _ p3, keeps_of_below hW _ _ p4, keeps_of_below hW _ _ p5, keeps_of_below hW _ _ p6, keeps_of_below hW _ _ p7, keeps_of_below hW _ _ p8, keeps_of_below hW _ _ p9, keeps_of_below hW _ _ p10, keeps_of_below hW _ _ p11⟩)
                have hszw : w3.heap.size ≤ wr.heap.size := hbut.size
                clear hbut hbww hv1 hp1 ht1 hc1 hci e1 hvi hfi hnew hoi hci4 hni hok hviw hS0 a1 q0 q1 q2 q3 q4 q5 q6 q7 q8 q9 q10 hT4 hgil
                go_wp2_with fail
                refine wp_region_held_drew (S := (fun w' => w'.cell? ⟨gi, j, none⟩ = some xi ∧ w'.cell? ⟨b', o + j * 11, none⟩ = some c0 ∧ w'.cell? ⟨b', o + j * 11 + 1, none⟩ = some c1 ∧ w'.cell? ⟨b', o + j * 11 + 2, none⟩ = some c2 ∧ w'.cell? ⟨b', o + j * 11 + 3, none⟩ = some c3 ∧ w'.cell? ⟨b', o + j * 11 + 4, none⟩ = some c4 ∧ w'.cell? ⟨b', o + j * 11 + 5, none⟩ = some c5 ∧ w'.cell? ⟨b', o + j * 11 + 6, none⟩ = some c6 ∧ w'.cell? ⟨b', o + j * 11 + 7, none⟩ = some c7 ∧ w'.cell? ⟨b', o + j * 11 + 8, none⟩ = some c8 ∧ w'.cell? ⟨b', o + j * 11 + 9, none⟩ = some c9 ∧ w'.cell? ⟨b', o + j * 11 + 10, none⟩ = some c10)) (by kernel_rfl) ?_ (fun hHeld => ?_)
                · exact hSk.out _ (Below.refl wr.heap.size wr).drew
                refine wpAnyH_take (i := 0) (v := ?vv0) rfl (by kernel_rfl) (by kernel_rfl) (by kernel_rfl) (fun _ _ _ h => h) (.inl ⟨by rfl, ?hyv0⟩) (by assumption) ?restv0
                case hyv0 => (intro w hSw; (try dsimp only at hSw); go_simp; first | done | with_reducible rfl)
                (try simp only [Act.put, List.setIfInBounds_toArray, List.set_cons_zero, List.set_cons_succ, List.getElem_toArray, List.getElem_cons_zero, List.getElem_cons_succ])
                refine wpAnyH_take (i := 1) (v := ?vv1) rfl (by kernel_rfl) (by kernel_rfl) (by kernel_rfl) (fun _ _ _ h => h) (.inl ⟨by rfl, ?hyv1⟩) (by assumption) ?restv1
                case hyv1 => (intro w hSw; (try dsimp only at hSw); go_simp; first | done | with_reducible rfl)
                (try simp only [Act.put, List.setIfInBounds_toArray, List.set_cons_zero, List.set_cons_succ, List.getElem_toArray, List.getElem_cons_zero, List.getElem_cons_succ])
                refine wpAnyH_take (i := 2) (v := ?vv2) rfl (by kernel_rfl) (by kernel_rfl) (by kernel_rfl) (fun _ _ _ h => h) (.inl ⟨by rfl, ?hyv2⟩) (by assumption) ?restv2
                case hyv2 => (intro w hSw; (try dsimp only at hSw); go_simp; first | done | with_reducible rfl)
                (try simp only [Act.put, List.setIfInBounds_toArray, List.set_cons_zero, List.set_cons_succ, List.getElem_toArray, List.getElem_cons_zero, List.getElem_cons_succ])
                refine wpAnyH_take (i := 3) (v := ?vv3) rfl (by kernel_rfl) (by kernel_rfl) (by kernel_rfl) (fun _ _ _ h => h) (.inl ⟨by rfl, ?hyv3⟩) (by assumption) ?restv3
                case hyv3 => (intro w hSw; (try dsimp only at hSw); go_simp; first | done | with_reducible rfl)
                (try simp only [Act.put, List.setIfInBounds_toArray, List.set_cons_zero, List.set_cons_succ, List.getElem_toArray, List.getElem_cons_zero, List.getElem_cons_succ])
                refine wpAnyH_take (i := 4) (v := ?vv4) rfl (by kernel_rfl) (by kernel_rfl) (by kernel_rfl) (fun _ _ _ h => h) (.inl ⟨by rfl, ?hyv4⟩) (by assumption) ?restv4
                case hyv4 => (intro w hSw; (try dsimp only at hSw); go_simp; first | done | with_reducible rfl)
                (try simp only [Act.put, List.setIfInBounds_toArray, List.set_cons_zero, List.set_cons_succ, List.getElem_toArray, List.getElem_cons_zero, List.getElem_cons_succ])
                refine wpAnyH_take (i := 5) (v := ?vv5) rfl (by kernel_rfl) (by kernel_rfl) (by kernel_rfl) (fun _ _ _ h => h) (.inl ⟨by rfl, ?hyv5⟩) (by assumption) ?restv5
                case hyv5 => (intro w hSw; (try dsimp only at hSw); go_simp; first | done | with_reducible rfl)
                (try simp only [Act.put, List.setIfInBounds_toArray, List.set_cons_zero, List.set_cons_succ, List.getElem_toArray, List.getElem_cons_zero, List.getElem_cons_succ])
                refine wpAnyH_take (i := 6) (v := ?vv6) rfl (by kernel_rfl) (by kernel_rfl) (by kernel_rfl) (fun _ _ _ h => h) (.inl ⟨by rfl, ?hyv6⟩) (by assumption) ?restv6
                case hyv6 => (intro w hSw; (try dsimp only at hSw); go_simp; first | done | with_reducible rfl)
                (try simp only [Act.put, List.setIfInBounds_toArray, List.set_cons_zero, List.set_cons_succ, List.getElem_toArray, List.getElem_cons_zero, List.getElem_cons_succ])
                refine wpAnyH_take (i := 7) (v := ?vv7) rfl (by kernel_rfl) (by kernel_rfl) (by kernel_rfl) (fun _ _ _ h => h) (.inl ⟨by rfl, ?hyv7⟩) (by assumption) ?restv7
                case hyv7 => (intro w hSw; (try dsimp only at hSw); go_simp; first | done | with_reducible rfl)
                (try simp only [Act.put, List.setIfInBounds_toArray, List.set_cons_zero, List.set_cons_succ, List.getElem_toArray, List.getElem_cons_zero, List.getElem_cons_succ])
                refine wpAnyH_take (i := 8) (v := ?vv8) rfl (by kernel_rfl) (by kernel_rfl) (by kernel_rfl) (fun _ _ _ h => h) (.inl ⟨by rfl, ?hyv8⟩) (by assumption) ?restv8
                case hyv8 => (intro w hSw; (try dsimp only at hSw); go_simp; first | done | with_reducible rfl)
                (try simp only [Act.put, List.setIfInBounds_toArray, List.set_cons_zero, List.set_cons_succ, List.getElem_toArray, List.getElem_cons_zero, List.getElem_cons_succ])
                refine wpAnyH_take (i := 9) (v := ?vv9) rfl (by kernel_rfl) (by kernel_rfl) (by kernel_rfl) (fun _ _ _ h => h) (.inl ⟨by rfl, ?hyv9⟩) (by assumption) ?restv9
                case hyv9 => (intro w hSw; (try dsimp only at hSw); go_simp; first | done | with_reducible rfl)
                (try simp only [Act.put, List.setIfInBounds_toArray, List.set_cons_zero, List.set_cons_succ, List.getElem_toArray, List.getElem_cons_zero, List.getElem_cons_succ])
                refine wpAnyH_take (i := 10) (v := ?vv10) rfl (by kernel_rfl) (by kernel_rfl) (by kernel_rfl) (fun _ _ _ h => h) (.inl ⟨by rfl, ?hyv10⟩) (by assumption) ?restv10
                case hyv10 => (intro w hSw; (try dsimp only at hSw); go_simp; first | done | with_reducible rfl)
                (try simp only [Act.put, List.setIfInBounds_toArray, List.set_cons_zero, List.set_cons_succ, List.getElem_toArray, List.getElem_cons_zero, List.getElem_cons_succ])
                refine wpAnyH_ready (rs := [11]) (by kernel_rfl) (by simp) ?_
                refine AllReadyH.cons rfl (fun K hK => ?_) AllReadyH.nil
                rw [if_pos (by rfl)]
                go_simp
                refine (hisI.out _ (Below.refl wr.heap.size wr).drew).mono ?_
                rintro e w5 ⟨rfl, hw5⟩
                have h5 : Below wr.heap.size wr w5 := (Below.refl wr.heap.size wr).drew.trans (below_le hw5 (Below.refl wr.heap.size wr).drew.size)
                refine hK.out _ _ ?_ (fun hHeld2 => ?_)
                · exact hSk.out _ h5
                clear hK K
                (try simp only [Act.put, List.setIfInBounds_toArray, List.set_cons_zero, List.set_cons_succ, List.getElem_toArray, List.getElem_cons_zero, List.getElem_cons_succ])
                refine wpAnyH_take (i := 12) (v := ?vv12) rfl (by kernel_rfl) (by kernel_rfl) (by kernel_rfl) (fun _ _ _ h => h) (.inl ⟨by rfl, ?hyv12⟩) (by assumption) ?restv12
                case hyv12 => (intro w hSw; (try dsimp only at hSw); go_simp; first | done | with_reducible rfl)
                (try simp only [Act.put, List.setIfInBounds_toArray, List.set_cons_zero, List.set_cons_succ, List.getElem_toArray, List.getElem_cons_zero, List.getElem_cons_succ])
                refine wpAnyH_take (i := 13) (v := ?vv13) rfl (by kernel_rfl) (by kernel_rfl) (by kernel_rfl) (fun _ _ _ h => h) (.inl ⟨by rfl, ?hyv13⟩) (by assumption) ?restv13
                case hyv13 => (intro w hSw; (try dsimp only at hSw); go_simp; first | done | with_reducible rfl)
                (try simp only [Act.put, List.setIfInBounds_toArray, List.set_cons_zero, List.set_cons_succ, List.getElem_toArray, List.getElem_cons_zero, List.getElem_cons_succ])
                refine wpAnyH_done (by kernel_rfl) ?_ _
                have h7 := Lib.hid (show But (fun b => b ∈ spentC psa psw.length) w3 w5 from hbutf.out.of_below h5 (fun i hi h => by omega))
                clear hw5 h5 hHeld
                go_wp2_with fail
                go_roundw
                case rel => exact ⟨j + 1, by omega, by go_num, h7.out⟩
                case measure => simp [intOf]; omega
              · obtain rfl : j = ls.length := by omega
                clear hbut hbww hT4
                go_wp2_with fail
                refine (group_said (w := wr.alloc _) (two_trues wr).1 (two_trues wr).2 (by decide)).mono ?_
                rintro e w9 hL
                obtain ⟨g9, cap9, rfl, hc9, hb9⟩ := last_two hL
                have hb9H := Lib.hid ((hbH.out.alloc hbH.out.size (.cells #[.iface 4 (.bool true), .iface 4 (.bool true)] 20)).trans (hb9.mono (Nat.le_trans hbH.out.size (by simp))))
                clear hb9 hL
                go_wp2
                go_ret
                exact ⟨rfl, hb9H.out⟩
end Go.Proofs.Ytgmdbpplfjkjmaa
