/- The walk of DigestPanics. -/
import Derived.Test.YtgmdbpplfjkjmaaPanicRun
namespace Go.Proofs.Ytgmdbpplfjkjmaa
open Go.RowKit
set_option linter.unusedVariables false
set_option linter.unusedSimpArgs false

theorem DocM.made {w0 w : World} (hb : Below w0.heap.size w0 w) : DocM w0 (w.alloc (.cells #[.slice none 0 0] 53)) w.heap.size (.slice none 0 0) [] :=
  ⟨heap_alloc_new w _, World.ownsRow_nil _ _ _ _, (fun _ h => by cases h), (by simp [ownL, Value.ownBlock]), hb.size, hb.alloc hb.size _, by decide⟩
theorem Both.made {w0 w : World} (hb : Below w0.heap.size w0 w) : Both w0 ((w.alloc (.cells #[.map none] 49)).alloc (.cells #[.slice none 0 0] 53)) w.heap.size none [] (w.heap.size + 1) (.slice none 0 0) [] := by
  have h1 : (w.alloc (.cells #[.map none] 49)).heap.size = w.heap.size + 1 := by simp
  have h2 := DocM.made (hb.alloc hb.size (.cells #[.map none] 49))
  rw [h1] at h2
  refine ⟨(MapW.made w hb.size).below ((Below.refl _ _).alloc (Nat.le_refl _) _), h2, List.Pairwise.nil, List.Perm.refl _, fun b hm hd => ?_⟩
  rcases hm with rfl | hm | hm
  · rcases hd with hd | hd
    · omega
    · simp [ownL, Value.ownBlock] at hd
  · cases hm
  · simp [fsM] at hm
theorem PutW.ret {B m : Nat} {o : Option Nat} {l : List PE} {w w1 : World} {k v : Val} {e : Ending} (h : PutW B m o l k v w e w1) : ∃ x, e = .returned x := by
  rcases h with ⟨-, rfl, -⟩ | ⟨-, -, rfl, -⟩ | ⟨-, -, -, -, rfl, -⟩ | ⟨-, -, _, _, _, _, _, -, -, -, -, ⟨p, -, -, rfl, -⟩ | ⟨-, -, rfl⟩⟩ <;> exact ⟨_, rfl⟩
theorem DPutEnd.ret {w0 w w1 : World} {d : Nat} {sv : Value} {qs : List QE} {t u : Term} {cs es : List Value} {e : Ending} (h : DPutEnd w0 d sv qs t u cs es w e w1) : ∃ x, e = .returned x := by
  rcases h with ⟨-, rfl, -⟩ | ⟨-, -, rfl, -⟩ | ⟨-, -, _, -, -, -, ⟨_, -, -, rfl, -⟩ | ⟨-, -, rfl, -⟩ | ⟨-, -, rfl, -⟩⟩ <;> exact ⟨_, rfl⟩
set_option maxRecDepth 100000 in
set_option maxHeartbeats 12800000 in
theorem panics_walk (ls : List Term) (sv : Value) (xs : List Value) (w : World) (at_ : Int) (ho : AtRow w sv ls.length 11 xs) (hd : TsRep w ls xs) :
    Calls Try.prog 4 #[sv, .int .i64 at_] w fun e w' => e = .returned (.bool true) ∧ Below w.heap.size w w' := by
  have hmf : ∀ (fn : Fn) (first cap : Array Value) (w : World), (Instr.makeFunc fn first cap).run Try.prog w = .ok (.func fn first cap) w := fun _ _ _ _ => rfl
  have hdatH := Lib.hid (TsRep.at ls xs hd)
  obtain ⟨oa, cap, rfl, hcap, hmax, hsm, -, -, hform⟩ := ho
  unfold maxLen at hmax
  have hformH := Lib.hid hform
  have hat := Lib.hid (fun (k : Nat) (hk : k < ls.length) => show ∃ b' o t c0 c1 c2 c3 c4 c5 c6 c7 c8 c9 c10, oa = some ⟨b', o, none⟩ ∧ ls[k]? = some t ∧ TRep w t [c0, c1, c2, c3, c4, c5, c6, c7, c8, c9, c10] ∧ ∀ W, Below w.heap.size w W → W.cell? ⟨b', o + k * 11, none⟩ = some c0 ∧ W.cell? ⟨b', o + k * 11 + 1, none⟩ = some c1 ∧ W.cell? ⟨b', o + k * 11 + 2, none⟩ = some c2 ∧ W.cell? ⟨b', o + k * 11 + 3, none⟩ = some c3 ∧ W.cell? ⟨b', o + k * 11 + 4, none⟩ = some c4 ∧ W.cell? ⟨b', o + k * 11 + 5, none⟩ = some c5 ∧ W.cell? ⟨b', o + k * 11 + 6, none⟩ = some c6 ∧ W.cell? ⟨b', o + k * 11 + 7, none⟩ = some c7 ∧ W.cell? ⟨b', o + k * 11 + 8, none⟩ = some c8 ∧ W.cell? ⟨b', o + k * 11 + 9, none⟩ = some c9 ∧ W.cell? ⟨b', o + k * 11 + 10, none⟩ = some c10 by
    obtain ⟨b', o, rfl, hcells⟩ := hformH.out (by omega)
    obtain ⟨t, hp⟩ : ∃ p, ls[k]? = some p := ⟨_, List.getElem?_eq_getElem hk⟩
    obtain ⟨cs, ht, e1⟩ := hdatH.out k _ hp
    have hlen := TRep.len ht
    obtain ⟨c0, c1, c2, c3, c4, c5, c6, c7, c8, c9, c10, rfl⟩ := eleven hlen
    refine ⟨b', o, t, c0, c1, c2, c3, c4, c5, c6, c7, c8, c9, c10, rfl, hp, ht, fun W hb => ?_⟩
    have hcell : ∀ j, j < 11 → W.cell? ⟨b', o + k * 11 + j, none⟩ = [c0, c1, c2, c3, c4, c5, c6, c7, c8, c9, c10][j]? := fun j hj => by
      have h1 := hcells (k * 11 + j) (by omega)
      rw [e1 j hj, ← Nat.add_assoc] at h1
      rw [List.getElem?_eq_getElem (by simpa using hj)] at h1 ⊢
      exact keeps_of_below hb _ _ h1
    have q0 := hcell 0 (by omega)
    have q1 := hcell 1 (by omega)
    have q2 := hcell 2 (by omega)
    have q3 := hcell 3 (by omega)
    have q4 := hcell 4 (by omega)
    have q5 := hcell 5 (by omega)
    have q6 := hcell 6 (by omega)
    have q7 := hcell 7 (by omega)
    have q8 := hcell 8 (by omega)
    have q9 := hcell 9 (by omega)
    have q10 := hcell 10 (by omega)
    simp only [List.getElem?_cons_zero, List.getElem?_cons_succ, Nat.add_zero, Nat.reduceAdd] at q0 q1 q2 q3 q4 q5 q6 q7 q8 q9 q10
    exact ⟨q0, q1, q2, q3, q4, q5, q6, q7, q8, q9, q10⟩)
  clear hform hd
  obtain ⟨w0, hw0⟩ : ∃ W, W = w.alloc (.cells #[.int .i64 at_] 3) := ⟨_, rfl⟩
  have hs0 : w0.heap.size = w.heap.size + 1 := by rw [hw0]; simp
  have hbw0 : Below w.heap.size w w0 := by rw [hw0]; exact (Below.refl _ _).alloc (Nat.le_refl _) _
  have hab : w0.heap[w.heap.size]? = some (.cells #[.int .i64 at_] 3 (0, 0)) := by rw [hw0]; exact heap_alloc_new w _
  have hbel := Lib.hid (show ∀ X, Below w0.heap.size w0 X → Below w.heap.size w X from fun X hX => hbw0.trans (hX.mono hbw0.size))
  have hmade := Lib.hid (Both.made (Below.refl w0.heap.size w0))
  rw [hs0] at hmade
  have habX := Lib.hid (show ∀ X, Below w0.heap.size w0 X → X.heap[w.heap.size]? = some (.cells #[.int .i64 at_] 3 (0, 0)) from fun X hX => (hX.block _ (by omega)).trans hab)
  have hkeep0 := Lib.hid (show ∀ t cs, TRep w t cs → TRep w0 t cs from fun t cs ht => TRep.keep (keeps_of_below hbw0) _ _ ht)
  have hw0H := Lib.hid hw0
  have hs0H := Lib.hid hs0
  clear hw0 hbw0 hab hs0
  go_enter Try.func4, Try.ntmps4
  go_wp2_with fail
  rw [← hw0H.out]
  go_loopw [7] (fun i wr => ∃ (k : Nat) (o : Option Nat) (l : List PE) (dv : Value) (qs : List QE), k ≤ ls.length ∧ i = .int .i64 k ∧ Both w0 wr (w.heap.size + 1) o l (w.heap.size + 1 + 1) dv qs) (fun i _ => ls.length - (intOf i).toNat)
  case atStart => exact ⟨0, none, [], _, [], Nat.zero_le _, rfl, hmade.out⟩
  case round =>
    obtain ⟨k, o, l, dv, qs, hk, rfl, hBo⟩ := hrel
    have hBoH := Lib.hid hBo
    have hsz := hBo.dm.bel.size
    have hbwr := Lib.hid (hbel.out wr hBo.dm.bel)
    by_cases h1 : k < ls.length
    · have l1 : (k : Int) < (ls.length : Int) := by omega
      obtain ⟨b', o2, t, c0, c1, c2, c3, c4, c5, c6, c7, c8, c9, c10, rfl, hp1, ht1, hc1⟩ := hat.out k h1
      obtain ⟨q0, q1, q2, q3, q4, q5, q6, q7, q8, q9, q10⟩ := hc1 wr hbwr.out
      have hc1H := Lib.hid hc1
      have hih1 := Lib.hid (built_any t _ wr (TRep.keep (keeps_of_below hbwr.out) _ _ ht1))
      have ht0 := Lib.hid (hkeep0.out _ _ ht1)
      have hng := Lib.hid (nums_built t _ ht1)
      have hm1 : w.heap.size + 1 < wr.heap.size := (hBo.mw.lt _ (.inl rfl)).2
      have hd1 : w.heap.size + 1 + 1 < wr.heap.size := hBo.dm.lt
      have hwf : (Lit.int .i64 (k : Int)).wf = true := by simp [Lit.wf, IntKind.min, IntKind.max, IntKind.signed, IntKind.bits]; omega
      have hu0 := Lib.hid (leaf_rep w0 3 false (k : Int) 0 ⟨#[]⟩ 0 (by rfl) hwf (by rfl) (by simp [maxLen, ByteArray.size]) (by rfl))
      have hvi := Lib.hid (show ∀ X, VRep X (.int (k : Int)) (.iface 2 (.int .i64 (k : Int))) [] from fun X => by rw [VRep]; exact ⟨rfl, hwf, rfl⟩)
      have hub := Lib.hid (show builtV (.mk 3 false (k : Int) 0 ⟨#[]⟩ [] 0 [] [] ⟨#[]⟩ 0) = .int (k : Int) by simp [builtV])
      have hni := Lib.hid (show numsV (.int (k : Int)) by simp only [numsV]; omega)
      clear hp1 ht1 hc1 hBo hwf
      go_wp2_with (first
        | (go_at_call 17; refine (dput_said (((hBoH.out.below hb1H.out)).doc_mid hPH.out.but) ht0.out hu0.out).mono ?_; rintro e w3 hD; obtain ⟨v3, rfl⟩ := hD.ret; have hDH := Lib.hid hD; clear hD)
        | (go_at_call 16; refine (mapW_put (hBoH.out.below hb1H.out).mw hzH.out hng.out (hvi.out w1) hni.out (fun hm => by have := hznH.out; exact absurd (hzbH.out _ hm) (by omega)) (fun hm => by cases hm)).mono ?_; rintro e w2 hP; obtain ⟨v2, rfl⟩ := hP.ret; have hPH := Lib.hid hP; clear hP; obtain ⟨r0, r1, r2, r3, r4, r5, r6, r7, r8, r9, r10⟩ := hc1H.out w2 (hbel.out w2 ((hBoH.out.below hb1H.out).dm.bel.trans ((hBoH.out.below hb1H.out).bel_mid hPH.out.but))))
        | (go_at_call 11; refine hih1.out.mono ?_; rintro e w1 ⟨z, gz, rfl, hz, hzn, hzb, hb1⟩; have hzH := Lib.hid hz; have hznH := Lib.hid hzn; have hzbH := Lib.hid hzb; have hb1H := Lib.hid hb1; clear hz hzn hzb hb1))
      have hP2 := hPH.out
      rw [← hub.out] at hP2
      obtain ⟨o', l', dv', qs', -, -, -, -, hnew, -⟩ := (hBoH.out.below hb1H.out).put ht0.out hu0.out hP2 hDH.out
      have hnewH := Lib.hid hnew
      clear hnew hP2
      go_roundw
      case rel => exact ⟨k + 1, o', l', dv', qs', by omega, by go_num, hnewH.out⟩
      case measure => simp [intOf]; omega
    · obtain rfl : k = ls.length := by omega
      obtain ⟨nb, hnb⟩ : ∃ x, x = wr.heap.size := ⟨_, rfl⟩
      obtain ⟨W, hW⟩ : ∃ W, W = wr.alloc (.cells #[.int .i64 0] 3) := ⟨_, rfl⟩
      have hbW : Below wr.heap.size wr W := by rw [hW]; exact (Below.refl _ _).alloc (Nat.le_refl _) _
      have hBW := hBo.below hbW
      have hCW : CountAt W nb w.heap.size 0 at_ := ⟨by rw [hW, hnb]; exact heap_alloc_new wr _, habX.out W hBW.dm.bel⟩
      have hsz2 := hBo.dm.bel.size
      have hs0 := hs0H.out
      have hEv := Lib.hid ((panic_runs hBW hCW (by omega)).mono fun e w' hh => panic_right hh)
      have hBWH := Lib.hid hBW
      have hlq := hBo.dm.small
      obtain ⟨sa, dcap, rfl, -, hmaxd, -, -⟩ := ownsRow_form hBo.dm.row
      unfold maxLen at hmaxd
      have hwH := Lib.hid hW
      have hnbH := Lib.hid hnb
      have hmlt := Lib.hid hBo.mw.lt
      have hdlt := Lib.hid hBo.dm.lts
      have hd1 : w.heap.size + 1 + 1 < wr.heap.size := hBo.dm.lt
      have hWsz := hbW.size
      clear hW hbW hBW hCW hBo hs0 hnb
      go_wp2_with fail
      rw [← hwH.out, ← hnbH.out]
      refine hEv.out.mono ?_
      rintro e w5 ⟨N, c, ⟨hC, hbut⟩, hc, hcase⟩
      have hnb := hnbH.out
      have hB5 : Both w0 w5 (w.heap.size + 1) o l (w.heap.size + 1 + 1) (.slice sa qs.length dcap) qs := hBWH.out.keep (hbut.mono (fun i hi h => by
        subst h
        refine ⟨fun hm => ?_, fun hm => ?_, by omega⟩
        · have := (hmlt.out _ hm).2; omega
        · have := (hdlt.out _ hm).2; omega))
      have hB5H := Lib.hid hB5
      have hlaw := Lib.hid (fun X (hX : Below w5.heap.size w5 X) => each_law (hB5H.out.below hX) 0)
      have q1 : w5.cell? ⟨nb, 0, none⟩ = some (.int .i64 (c : Int)) := by rw [cell_of_row w5 _ 0 _ _ _ hC.1]; rfl
      have q2 : w5.cell? ⟨w.heap.size, 0, none⟩ = some (.int .i64 at_) := by rw [cell_of_row w5 _ 0 _ _ _ hC.2]; rfl
      have q3 : w5.cell? ⟨w.heap.size + 1 + 1, 0, none⟩ = some (.slice sa qs.length dcap) := by rw [cell_of_row w5 _ 0 _ _ _ hB5.dm.cell]; rfl
      have hb5 := Lib.hid (hbel.out w5 hB5.dm.bel)
      clear hC hbut hB5 hnb
      rcases hcase with ⟨g1, g2, g3, rfl⟩ | ⟨g1, g2, rfl⟩
      · have g2' : at_ ≤ ((qs.length : Nat) : Int) := g2
        have g4 : (c : Int) = at_ := g3
        go_wp2_with fail
        go_quiet (fail)
        go_wp2_with (go_at_call 20; refine (hlaw.out _ ((Below.drewN' (Below.refl w5.heap.size w5) nq))).mono ?_; rintro e w6 ⟨rfl, hb6⟩; have hb6H := Lib.hid hb6; clear hb6)
        go_ret
        exact ⟨rfl, hb5.out.trans (((Below.drewN' (Below.refl w5.heap.size w5) nq)).trans hb6H.out |>.mono hb5.out.size)⟩
      · subst g2
        have hSk := Lib.hid (show ∀ X, Below w5.heap.size w5 X → X.cell? ⟨nb, 0, none⟩ = some (.int .i64 (qs.length : Int)) ∧ X.cell? ⟨w.heap.size + 1 + 1, 0, none⟩ = some (.slice sa qs.length dcap) from fun X hX => ⟨keeps_of_below hX _ _ q1, keeps_of_below hX _ _ q3⟩)
        by_cases g3 : 1 ≤ at_
        · have g4 : ¬ at_ ≤ (qs.length : Int) := fun h => g1 ⟨g3, h⟩
          have g5 : decide (at_ ≤ (qs.length : Int)) = false := decide_eq_false g4
          go_wp2_with fail
          go_quiet (fail)
          go_wp2_with fail
          refine wp_region_held_drew (S := (fun w' => w'.cell? ⟨nb, 0, none⟩ = some (.int .i64 (qs.length : Int)) ∧ w'.cell? ⟨w.heap.size + 1 + 1, 0, none⟩ = some (.slice sa qs.length dcap))) (by kernel_rfl) ?_ (fun hHeld => ?_)
          · exact hSk.out _ (((Below.drewN' (Below.refl w5.heap.size w5) nq)).drew)
          refine wpAnyH_take (i := 0) (v := ?vk100) rfl (by kernel_rfl) (by kernel_rfl) (by kernel_rfl) (fun _ _ _ h => h) (.inl ⟨by rfl, ?hyk100⟩) (by assumption) ?restk100
          case hyk100 => (intro w hSw; (try dsimp only at hSw); go_simp; first | done | with_reducible rfl)
          (try simp only [Act.put, pu1, pu2, pu3, pu4, pu5, pu6])
          refine wpAnyH_take (i := 1) (v := ?vk101) rfl (by kernel_rfl) (by kernel_rfl) (by kernel_rfl) (fun _ _ _ h => h) (.inl ⟨by rfl, ?hyk101⟩) (by assumption) ?restk101
          case hyk101 => (intro w hSw; (try dsimp only at hSw); go_simp; first | done | with_reducible rfl)
          (try simp only [Act.put, pu1, pu2, pu3, pu4, pu5, pu6])
          refine wpAnyH_take (i := 2) (v := ?vk102) rfl (by kernel_rfl) (by kernel_rfl) (by kernel_rfl) (fun _ _ _ h => h) (.inl ⟨by rfl, ?hyk102⟩) (by assumption) ?restk102
          case hyk102 => (intro w hSw; (try dsimp only at hSw); go_simp; first | done | with_reducible rfl)
          (try simp only [Act.put, pu1, pu2, pu3, pu4, pu5, pu6])
          refine wpAnyH_take (i := 3) (v := ?vk103) rfl (by kernel_rfl) (by kernel_rfl) (by kernel_rfl) (fun _ _ _ h => h) (.inl ⟨by rfl, ?hyk103⟩) (by assumption) ?restk103
          case hyk103 => (intro w hSw; (try dsimp only at hSw); go_simp; first | done | with_reducible rfl)
          (try simp only [Act.put, pu1, pu2, pu3, pu4, pu5, pu6])
          refine wpAnyH_take (i := 4) (v := ?vk104) rfl (by kernel_rfl) (by kernel_rfl) (by kernel_rfl) (fun _ _ _ h => h) (.inl ⟨by rfl, ?hyk104⟩) (by assumption) ?restk104
          case hyk104 => (intro w hSw; (try dsimp only at hSw); go_simp; first | done | with_reducible rfl)
          (try simp only [Act.put, pu1, pu2, pu3, pu4, pu5, pu6])
          refine wpAnyH_take (i := 5) (v := ?vk105) rfl (by kernel_rfl) (by kernel_rfl) (by kernel_rfl) (fun _ _ _ h => h) (.inl ⟨by rfl, ?hyk105⟩) (by assumption) ?restk105
          case hyk105 => (intro w hSw; (try dsimp only at hSw); go_simp; first | done | with_reducible rfl)
          (try simp only [Act.put, pu1, pu2, pu3, pu4, pu5, pu6])
          refine wpAnyH_take (i := 6) (v := ?vk106) rfl (by kernel_rfl) (by kernel_rfl) (by kernel_rfl) (fun _ _ _ h => h) (.inl ⟨by rfl, ?hyk106⟩) (by assumption) ?restk106
          case hyk106 => (intro w hSw; (try dsimp only at hSw); go_simp; first | done | with_reducible rfl)
          (try simp only [Act.put, pu1, pu2, pu3, pu4, pu5, pu6])
          refine wpAnyH_take (i := 7) (v := ?vk107) rfl (by kernel_rfl) (by kernel_rfl) (by kernel_rfl) (fun _ _ _ h => h) (.inl ⟨by rfl, ?hyk107⟩) (by assumption) ?restk107
          case hyk107 => (intro w hSw; (try dsimp only at hSw); go_simp; first | done | with_reducible rfl)
          (try simp only [Act.put, pu1, pu2, pu3, pu4, pu5, pu6])
          refine wpAnyH_take (i := 8) (v := ?vk108) rfl (by kernel_rfl) (by kernel_rfl) (by kernel_rfl) (fun _ _ _ h => h) (.inl ⟨by rfl, ?hyk108⟩) (by assumption) ?restk108
          case hyk108 => (intro w hSw; (try dsimp only at hSw); go_simp; first | done | with_reducible rfl)
          (try simp only [Act.put, pu1, pu2, pu3, pu4, pu5, pu6])
          refine wpAnyH_take (i := 9) (v := ?vk109) rfl (by kernel_rfl) (by kernel_rfl) (by kernel_rfl) (fun _ _ _ h => h) (.inl ⟨by rfl, ?hyk109⟩) (by assumption) ?restk109
          case hyk109 => (intro w hSw; (try dsimp only at hSw); go_simp; first | done | with_reducible rfl)
          (try simp only [Act.put, pu1, pu2, pu3, pu4, pu5, pu6])
          refine wpAnyH_take (i := 10) (v := ?vk1010) rfl (by kernel_rfl) (by kernel_rfl) (by kernel_rfl) (fun _ _ _ h => h) (.inl ⟨by rfl, ?hyk1010⟩) (by assumption) ?restk1010
          case hyk1010 => (intro w hSw; (try dsimp only at hSw); go_simp; first | done | with_reducible rfl)
          (try simp only [Act.put, pu1, pu2, pu3, pu4, pu5, pu6])
          refine wpAnyH_take (i := 11) (v := ?vk1011) rfl (by kernel_rfl) (by kernel_rfl) (by kernel_rfl) (fun _ _ _ h => h) (.inl ⟨by rfl, ?hyk1011⟩) (by assumption) ?restk1011
          case hyk1011 => (intro w hSw; (try dsimp only at hSw); go_simp; first | done | with_reducible rfl)
          (try simp only [Act.put, pu1, pu2, pu3, pu4, pu5, pu6])
          refine wpAnyH_take (i := 12) (v := ?vk1012) rfl (by kernel_rfl) (by kernel_rfl) (by kernel_rfl) (fun _ _ _ h => h) (.inl ⟨by rfl, ?hyk1012⟩) (by assumption) ?restk1012
          case hyk1012 => (intro w hSw; (try dsimp only at hSw); go_simp; first | done | with_reducible rfl)
          (try simp only [Act.put, pu1, pu2, pu3, pu4, pu5, pu6])
          refine wpAnyH_take (i := 13) (v := ?vk1013) rfl (by kernel_rfl) (by kernel_rfl) (by kernel_rfl) (fun _ _ _ h => h) (.inl ⟨by rfl, ?hyk1013⟩) (by assumption) ?restk1013
          case hyk1013 => (intro w hSw; (try dsimp only at hSw); go_simp; first | done | with_reducible rfl)
          (try simp only [Act.put, pu1, pu2, pu3, pu4, pu5, pu6])
          refine wpAnyH_ready (rs := [14]) (by kernel_rfl) (by simp) ?_
          refine AllReadyH.cons rfl (fun K hK => ?_) AllReadyH.nil
          rw [if_pos (by rfl)]
          go_simp
          refine (hlaw.out _ (((Below.drewN' (Below.refl w5.heap.size w5) nq)).drew)).mono ?_
          rintro e w6 ⟨rfl, hw6⟩
          have h6 : Below w5.heap.size w5 w6 := (((Below.drewN' (Below.refl w5.heap.size w5) nq)).drew).trans (below_le hw6 (((Below.drewN' (Below.refl w5.heap.size w5) nq)).drew).size)
          refine hK.out _ _ ?_ (fun hHeld2 => ?_)
          · exact hSk.out _ h6
          clear hK K
          (try simp only [Act.put, pu1, pu2, pu3, pu4, pu5, pu6])
          refine wpAnyH_take (i := 15) (v := ?vk1015) rfl (by kernel_rfl) (by kernel_rfl) (by kernel_rfl) (fun _ _ _ h => h) (.inl ⟨by rfl, ?hyk1015⟩) (by assumption) ?restk1015
          case hyk1015 => (intro w hSw; (try dsimp only at hSw); go_simp; first | done | with_reducible rfl)
          (try simp only [Act.put, pu1, pu2, pu3, pu4, pu5, pu6])
          refine wpAnyH_take (i := 16) (v := ?vk1016) rfl (by kernel_rfl) (by kernel_rfl) (by kernel_rfl) (fun _ _ _ h => h) (.inl ⟨by rfl, ?hyk1016⟩) (by assumption) ?restk1016
          case hyk1016 => (intro w hSw; (try dsimp only at hSw); go_simp; first | done | with_reducible rfl)
          (try simp only [Act.put, pu1, pu2, pu3, pu4, pu5, pu6])
          refine wpAnyH_done (by kernel_rfl) ?_ _
          have h6H := Lib.hid h6
          clear h6 hw6 hHeld
          go_wp2_with fail
          go_ret
          exact ⟨rfl, hb5.out.trans (h6H.out.mono hb5.out.size)⟩
        · have g5 : decide ((1 : Int) ≤ at_) = false := decide_eq_false g3
          go_wp2_with fail
          go_quiet (fail)
          go_wp2_with fail
          refine wp_region_held_drew (S := (fun w' => w'.cell? ⟨nb, 0, none⟩ = some (.int .i64 (qs.length : Int)) ∧ w'.cell? ⟨w.heap.size + 1 + 1, 0, none⟩ = some (.slice sa qs.length dcap))) (by kernel_rfl) ?_ (fun hHeld => ?_)
          · exact hSk.out _ (((Below.drewN' (Below.refl w5.heap.size w5) nq)).drew)
          refine wpAnyH_take (i := 0) (v := ?vm100) rfl (by kernel_rfl) (by kernel_rfl) (by kernel_rfl) (fun _ _ _ h => h) (.inl ⟨by rfl, ?hym100⟩) (by assumption) ?restm100
          case hym100 => (intro w hSw; (try dsimp only at hSw); go_simp; first | done | with_reducible rfl)
          (try simp only [Act.put, pu1, pu2, pu3, pu4, pu5, pu6])
          refine wpAnyH_take (i := 1) (v := ?vm101) rfl (by kernel_rfl) (by kernel_rfl) (by kernel_rfl) (fun _ _ _ h => h) (.inl ⟨by rfl, ?hym101⟩) (by assumption) ?restm101
          case hym101 => (intro w hSw; (try dsimp only at hSw); go_simp; first | done | with_reducible rfl)
          (try simp only [Act.put, pu1, pu2, pu3, pu4, pu5, pu6])
          refine wpAnyH_take (i := 2) (v := ?vm102) rfl (by kernel_rfl) (by kernel_rfl) (by kernel_rfl) (fun _ _ _ h => h) (.inl ⟨by rfl, ?hym102⟩) (by assumption) ?restm102
          case hym102 => (intro w hSw; (try dsimp only at hSw); go_simp; first | done | with_reducible rfl)
          (try simp only [Act.put, pu1, pu2, pu3, pu4, pu5, pu6])
          refine wpAnyH_take (i := 3) (v := ?vm103) rfl (by kernel_rfl) (by kernel_rfl) (by kernel_rfl) (fun _ _ _ h => h) (.inl ⟨by rfl, ?hym103⟩) (by assumption) ?restm103
          case hym103 => (intro w hSw; (try dsimp only at hSw); go_simp; first | done | with_reducible rfl)
          (try simp only [Act.put, pu1, pu2, pu3, pu4, pu5, pu6])
          refine wpAnyH_take (i := 4) (v := ?vm104) rfl (by kernel_rfl) (by kernel_rfl) (by kernel_rfl) (fun _ _ _ h => h) (.inl ⟨by rfl, ?hym104⟩) (by assumption) ?restm104
          case hym104 => (intro w hSw; (try dsimp only at hSw); go_simp; first | done | with_reducible rfl)
          (try simp only [Act.put, pu1, pu2, pu3, pu4, pu5, pu6])
          refine wpAnyH_take (i := 5) (v := ?vm105) rfl (by kernel_rfl) (by kernel_rfl) (by kernel_rfl) (fun _ _ _ h => h) (.inl ⟨by rfl, ?hym105⟩) (by assumption) ?restm105
          case hym105 => (intro w hSw; (try dsimp only at hSw); go_simp; first | done | with_reducible rfl)
          (try simp only [Act.put, pu1, pu2, pu3, pu4, pu5, pu6])
          refine wpAnyH_take (i := 6) (v := ?vm106) rfl (by kernel_rfl) (by kernel_rfl) (by kernel_rfl) (fun _ _ _ h => h) (.inl ⟨by rfl, ?hym106⟩) (by assumption) ?restm106
          case hym106 => (intro w hSw; (try dsimp only at hSw); go_simp; first | done | with_reducible rfl)
          (try simp only [Act.put, pu1, pu2, pu3, pu4, pu5, pu6])
          refine wpAnyH_take (i := 7) (v := ?vm107) rfl (by kernel_rfl) (by kernel_rfl) (by kernel_rfl) (fun _ _ _ h => h) (.inl ⟨by rfl, ?hym107⟩) (by assumption) ?restm107
          case hym107 => (intro w hSw; (try dsimp only at hSw); go_simp; first | done | with_reducible rfl)
          (try simp only [Act.put, pu1, pu2, pu3, pu4, pu5, pu6])
          refine wpAnyH_take (i := 8) (v := ?vm108) rfl (by kernel_rfl) (by kernel_rfl) (by kernel_rfl) (fun _ _ _ h => h) (.inl ⟨by rfl, ?hym108⟩) (by assumption) ?restm108
          case hym108 => (intro w hSw; (try dsimp only at hSw); go_simp; first | done | with_reducible rfl)
          (try simp only [Act.put, pu1, pu2, pu3, pu4, pu5, pu6])
          refine wpAnyH_take (i := 9) (v := ?vm109) rfl (by kernel_rfl) (by kernel_rfl) (by kernel_rfl) (fun _ _ _ h => h) (.inl ⟨by rfl, ?hym109⟩) (by assumption) ?restm109
          case hym109 => (intro w hSw; (try dsimp only at hSw); go_simp; first | done | with_reducible rfl)
          (try simp only [Act.put, pu1, pu2, pu3, pu4, pu5, pu6])
          refine wpAnyH_take (i := 10) (v := ?vm1010) rfl (by kernel_rfl) (by kernel_rfl) (by kernel_rfl) (fun _ _ _ h => h) (.inl ⟨by rfl, ?hym1010⟩) (by assumption) ?restm1010
          case hym1010 => (intro w hSw; (try dsimp only at hSw); go_simp; first | done | with_reducible rfl)
          (try simp only [Act.put, pu1, pu2, pu3, pu4, pu5, pu6])
          refine wpAnyH_take (i := 11) (v := ?vm1011) rfl (by kernel_rfl) (by kernel_rfl) (by kernel_rfl) (fun _ _ _ h => h) (.inl ⟨by rfl, ?hym1011⟩) (by assumption) ?restm1011
          case hym1011 => (intro w hSw; (try dsimp only at hSw); go_simp; first | done | with_reducible rfl)
          (try simp only [Act.put, pu1, pu2, pu3, pu4, pu5, pu6])
          refine wpAnyH_take (i := 12) (v := ?vm1012) rfl (by kernel_rfl) (by kernel_rfl) (by kernel_rfl) (fun _ _ _ h => h) (.inl ⟨by rfl, ?hym1012⟩) (by assumption) ?restm1012
          case hym1012 => (intro w hSw; (try dsimp only at hSw); go_simp; first | done | with_reducible rfl)
          (try simp only [Act.put, pu1, pu2, pu3, pu4, pu5, pu6])
          refine wpAnyH_take (i := 13) (v := ?vm1013) rfl (by kernel_rfl) (by kernel_rfl) (by kernel_rfl) (fun _ _ _ h => h) (.inl ⟨by rfl, ?hym1013⟩) (by assumption) ?restm1013
          case hym1013 => (intro w hSw; (try dsimp only at hSw); go_simp; first | done | with_reducible rfl)
          (try simp only [Act.put, pu1, pu2, pu3, pu4, pu5, pu6])
          refine wpAnyH_ready (rs := [14]) (by kernel_rfl) (by simp) ?_
          refine AllReadyH.cons rfl (fun K hK => ?_) AllReadyH.nil
          rw [if_pos (by rfl)]
          go_simp
          refine (hlaw.out _ (((Below.drewN' (Below.refl w5.heap.size w5) nq)).drew)).mono ?_
          rintro e w6 ⟨rfl, hw6⟩
          have h6 : Below w5.heap.size w5 w6 := (((Below.drewN' (Below.refl w5.heap.size w5) nq)).drew).trans (below_le hw6 (((Below.drewN' (Below.refl w5.heap.size w5) nq)).drew).size)
          refine hK.out _ _ ?_ (fun hHeld2 => ?_)
          · exact hSk.out _ h6
          clear hK K
          (try simp only [Act.put, pu1, pu2, pu3, pu4, pu5, pu6])
          refine wpAnyH_take (i := 15) (v := ?vm1015) rfl (by kernel_rfl) (by kernel_rfl) (by kernel_rfl) (fun _ _ _ h => h) (.inl ⟨by rfl, ?hym1015⟩) (by assumption) ?restm1015
          case hym1015 => (intro w hSw; (try dsimp only at hSw); go_simp; first | done | with_reducible rfl)
          (try simp only [Act.put, pu1, pu2, pu3, pu4, pu5, pu6])
          refine wpAnyH_take (i := 16) (v := ?vm1016) rfl (by kernel_rfl) (by kernel_rfl) (by kernel_rfl) (fun _ _ _ h => h) (.inl ⟨by rfl, ?hym1016⟩) (by assumption) ?restm1016
          case hym1016 => (intro w hSw; (try dsimp only at hSw); go_simp; first | done | with_reducible rfl)
          (try simp only [Act.put, pu1, pu2, pu3, pu4, pu5, pu6])
          refine wpAnyH_done (by kernel_rfl) ?_ _
          have h6H := Lib.hid h6
          clear h6 hw6 hHeld
          go_wp2_with fail
          go_ret
          exact ⟨rfl, hb5.out.trans (h6H.out.mono hb5.out.size)⟩
end Go.Proofs.Ytgmdbpplfjkjmaa
