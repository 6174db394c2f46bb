/- The walk of DigestMaps. -/
import Derived.Test.YtgmdbpplfjkjmaaMapsLaw
import Derived.Test.YtgmdbpplfjkjmaaActOpen
import Derived.Test.YtgmdbpplfjkjmaaPanicRun
import Derived.Deep.MidRow
import Derived.Deep.Cut
import Derived.Deep.CutRange
import Derived.Deep.CutBlock
import Derived.Deep.DeepCutAuto
namespace Go.Proofs.Ytgmdbpplfjkjmaa
open Go.RowKit
set_option linter.unusedVariables false
set_option linter.unusedSimpArgs false

theorem actSize : (Try.prog.info? 64).map (·.size) = some 24 := by kernel_rfl
def zeroAct : Array Value := #[.int .i64 0, .int .i64 0, .bool false, .int .i64 0, .float .f64 0, .string ⟨#[]⟩, .slice none 0 0, .int .u64 0, .slice none 0 0, .slice none 0 0, .string ⟨#[]⟩, .int .i64 0, .int .i64 0, .bool false, .int .i64 0, .float .f64 0, .string ⟨#[]⟩, .slice none 0 0, .int .u64 0, .slice none 0 0, .slice none 0 0, .string ⟨#[]⟩, .int .i64 0, .int .i64 0]
theorem range_part {X : World} {b : Nat} {pre cs post : List Value} {t : TypeId} (h : X.heap[b]? = some (.cells (pre ++ (cs ++ post)).toArray t (0, 0))) : X.rangeAt b pre.length cs := fun j v hj => by
  have hl := (List.getElem?_eq_some_iff.1 hj).1
  rw [cell_of_row X b _ _ _ _ h, List.getElem?_toArray, List.getElem?_append_right (by omega), Nat.add_sub_cancel_left, List.getElem?_append_left hl]
  exact hj
theorem run_load_mid {P : Program} {o : Oper} {a : Act} {w : World} {ty : TypeId} {x : Operand} {b k : Nat} {cs : List Value} {d : TypeDesc} (ho : o.op = .load ty x) (hx : a.eval x = .pointer (some ⟨b, k, none⟩)) (hc : w.rangeAt b k cs) (hu : P.underlying ty = some d) (hd : d.isRow = true) (hi : (P.info? ty).map (·.size) = some cs.length) :
    (execOp a.eval o).run P w = .ok (.value (.agg cs.toArray)) w := by
  unfold execOp
  simp only [ho, hx, Instr.loadAt, Instr.sureAddr, Sem.run_bind, Sem.run_pure, Result.andThen_ok, run_loadVar_mid w b k ty cs d hc hu hd hi]
theorem keep_of_block {w X : World} {b : Nat} {cs : Array Value} {t : TypeId} (h : X.heap[b]? = w.heap[b]?) (k : w.heap[b]? = some (.cells cs t (0, 0))) : X.heap[b]? = some (.cells cs t (0, 0)) := h.trans k
set_option maxRecDepth 100000 in
set_option maxHeartbeats 25600000 in
theorem maps_walk (sv : Value) (n : Nat) (w : World) (ho : ActsAt w sv n) :
    Calls Try.prog 5 #[sv] w fun e w' => e = .returned (.bool true) ∧ Below w.heap.size w w' := by
  obtain ⟨oa, cap, rfl, hcap, hmax, hsm, hacts⟩ := ho
  unfold maxLen at hmax
  have hat := Lib.hid (fun (k : Nat) (hk : k < n) => show ∃ b' o kd t u st c0 c1 c2 c3 c4 c5 c6 c7 c8 c9 c10 e0 e1 e2 e3 e4 e5 e6 e7 e8 e9 e10, oa = some ⟨b', o, none⟩ ∧ TRep w t [c0, c1, c2, c3, c4, c5, c6, c7, c8, c9, c10] ∧ TRep w u [e0, e1, e2, e3, e4, e5, e6, e7, e8, e9, e10] ∧ ∀ W, Below w.heap.size w W → W.rangeAt b' (o + k * 24) [.int .i64 kd, c0, c1, c2, c3, c4, c5, c6, c7, c8, c9, c10, e0, e1, e2, e3, e4, e5, e6, e7, e8, e9, e10, .int .i64 st] by
    obtain ⟨b', o, kd, t, cs, u, es, st, rfl, h1, h2, h3⟩ := hacts k hk
    have hl1 := TRep.len h1
    have hl2 := TRep.len h2
    obtain ⟨c0, c1, c2, c3, c4, c5, c6, c7, c8, c9, c10, rfl⟩ := eleven hl1
    obtain ⟨e0, e1, e2, e3, e4, e5, e6, e7, e8, e9, e10, rfl⟩ := eleven hl2
    exact ⟨b', o, kd, t, u, st, c0, c1, c2, c3, c4, c5, c6, c7, c8, c9, c10, e0, e1, e2, e3, e4, e5, e6, e7, e8, e9, e10, rfl, h1, h2, fun W hb j v hj => keeps_of_below hb _ _ (h3 j v hj)⟩)
  have hmade := Lib.hid (Both.made (Below.refl w.heap.size w))
  clear hacts
  go_enter Try.func5, Try.ntmps5
  go_wp2_with fail
  go_loopw [5] (fun i wr => ∃ (k : Nat) (o : Option Nat) (l : List PE) (dv : Value) (qs : List QE), k ≤ n ∧ i = .int .i64 k ∧ Both w wr w.heap.size o l (w.heap.size + 1) dv qs) (fun i _ => n - (intOf i).toNat)
  case atStart => exact ⟨0, none, [], _, [], Nat.zero_le _, rfl, hmade.out⟩
  case round =>
    obtain ⟨k, o, l, dv, qs, hk, rfl, hBo⟩ := hrel
    have hBoH := Lib.hid hBo
    have hbwr := Lib.hid hBo.dm.bel
    by_cases h1 : k < n
    · have l1 : (k : Int) < (n : Int) := by omega
      obtain ⟨b', oo, kd, t, u, st, c0, c1, c2, c3, c4, c5, c6, c7, c8, c9, c10, e0, e1, e2, e3, e4, e5, e6, e7, e8, e9, e10, rfl, ht1, hu1, hc1⟩ := hat.out k h1
      have hrow := hc1 wr hbwr.out
      have ht0 := Lib.hid ht1
      have hu0 := Lib.hid hu1
      have hng := Lib.hid (nums_built t _ ht1)
      have hnu := Lib.hid (nums_built u _ hu1)
      have hst := Lib.hid (small_built t _ ht1)
      have hsu := Lib.hid (small_built u _ hu1)
      have hOf := Lib.hid (show ∀ b, OfM w.heap.size o l b ∨ OfD (w.heap.size + 1) dv b → b < wr.heap.size from fun b hb => hb.elim (fun h => (hBo.mw.lt b h).2) (fun h => (hBo.dm.lts b h).2))
      have hones : ∀ v ∈ [.int .i64 kd, c0, c1, c2, c3, c4, c5, c6, c7, c8, c9, c10, e0, e1, e2, e3, e4, e5, e6, e7, e8, e9, e10, .int .i64 st], v.oneCell' = true := fun v hv => by
        have o1 := TRep.ones ht1
        have o2 := TRep.ones hu1
        rcases List.mem_cons.1 hv with rfl | hv
        · rfl
        · rcases List.mem_append.1 (show v ∈ [c0, c1, c2, c3, c4, c5, c6, c7, c8, c9, c10] ++ [e0, e1, e2, e3, e4, e5, e6, e7, e8, e9, e10, .int .i64 st] from hv) with hv | hv
          · exact o1 v hv
          · rcases List.mem_append.1 (show v ∈ [e0, e1, e2, e3, e4, e5, e6, e7, e8, e9, e10] ++ [.int .i64 st] from hv) with hv | hv
            · exact o2 v hv
            · rw [List.mem_singleton.1 hv]; rfl
      obtain ⟨ab, hab⟩ : ∃ x, x = wr.heap.size := ⟨_, rfl⟩
      obtain ⟨A0, hA0⟩ : ∃ X, X = wr.alloc (.cells zeroAct 64) := ⟨_, rfl⟩
      have habA0 : A0.heap[ab]? = some (.cells zeroAct 64 (0, 0)) := by rw [hA0, hab]; exact heap_alloc_new wr _
      obtain ⟨A1, hA1⟩ : ∃ X, X = A0.setRow ab #[.int .i64 kd, c0, c1, c2, c3, c4, c5, c6, c7, c8, c9, c10, e0, e1, e2, e3, e4, e5, e6, e7, e8, e9, e10, .int .i64 st] := ⟨_, rfl⟩
      have habA1 : A1.heap[ab]? = some (.cells #[.int .i64 kd, c0, c1, c2, c3, c4, c5, c6, c7, c8, c9, c10, e0, e1, e2, e3, e4, e5, e6, e7, e8, e9, e10, .int .i64 st] 64 (0, 0)) := by rw [hA1]; exact setRow_heap A0 ab _ _ _ _ habA0
      have hb1 : Below wr.heap.size wr A1 := by
        have h : Below wr.heap.size wr A0 := by rw [hA0]; exact (Below.refl _ _).alloc (Nat.le_refl _) _
        rw [hA1]
        exact h.trans ⟨rfl, rfl, rfl, by rw [setRow_size]; exact Nat.le_refl _, fun i hi => setRow_other A0 ab i _ (by omega)⟩
      have habl : ab < A1.heap.size := (Array.getElem?_eq_some_iff.1 habA1).1
      have habK := Lib.hid (show ∀ X : World, X.heap[ab]? = some (.cells #[.int .i64 kd, c0, c1, c2, c3, c4, c5, c6, c7, c8, c9, c10, e0, e1, e2, e3, e4, e5, e6, e7, e8, e9, e10, .int .i64 st] 64 (0, 0)) → X.rangeAt ab 1 [c0, c1, c2, c3, c4, c5, c6, c7, c8, c9, c10] from fun X hX => range_part (pre := [.int .i64 kd]) (post := [e0, e1, e2, e3, e4, e5, e6, e7, e8, e9, e10, .int .i64 st]) hX)
      have habV := Lib.hid (show ∀ X : World, X.heap[ab]? = some (.cells #[.int .i64 kd, c0, c1, c2, c3, c4, c5, c6, c7, c8, c9, c10, e0, e1, e2, e3, e4, e5, e6, e7, e8, e9, e10, .int .i64 st] 64 (0, 0)) → X.rangeAt ab 12 [e0, e1, e2, e3, e4, e5, e6, e7, e8, e9, e10] from fun X hX => range_part (pre := [.int .i64 kd, c0, c1, c2, c3, c4, c5, c6, c7, c8, c9, c10]) (post := [.int .i64 st]) hX)
      have habX := Lib.hid (show ∀ X, Below A1.heap.size A1 X → X.heap[ab]? = some (.cells #[.int .i64 kd, c0, c1, c2, c3, c4, c5, c6, c7, c8, c9, c10, e0, e1, e2, e3, e4, e5, e6, e7, e8, e9, e10, .int .i64 st] 64 (0, 0)) from fun X hX => (hX.block ab habl).trans habA1)
      have hSk := habX
      have hihK := Lib.hid (fun X (hX : Below A1.heap.size A1 X) => built_any t _ X (TRep.keep (keeps_of_below (hbwr.out.trans ((hb1.trans (hX.mono hb1.size)).mono hbwr.out.size))) _ _ ht1))
      have hihV := Lib.hid (fun X (hX : Below A1.heap.size A1 X) => built_any u _ X (TRep.keep (keeps_of_below (hbwr.out.trans ((hb1.trans (hX.mono hb1.size)).mono hbwr.out.size))) _ _ hu1))
      have hb1H := Lib.hid hb1
      have hA0H := Lib.hid hA0
      have hA1H := Lib.hid hA1
      have habH := Lib.hid hab
      clear hBo ht1 hu1 hc1 hA0 hA1 hb1 hab habA1
      go_wp2_with (first
        | (refine wpList_load_mid rfl 64 (.tmp 37) rfl b' (oo + k * 24) rfl [.int .i64 kd, c0, c1, c2, c3, c4, c5, c6, c7, c8, c9, c10, e0, e1, e2, e3, e4, e5, e6, e7, e8, e9, e10, .int .i64 st] _ hrow Try.underlying64 rfl actSize ?_)
        | (rw [show wr.alloc (Obj.cells #[.int .i64 0, .int .i64 0, .bool false, .int .i64 0, .float .f64 0, .string ⟨#[]⟩, .slice none 0 0, .int .u64 0, .slice none 0 0, .slice none 0 0, .string ⟨#[]⟩, .int .i64 0, .int .i64 0, .bool false, .int .i64 0, .float .f64 0, .string ⟨#[]⟩, .slice none 0 0, .int .u64 0, .slice none 0 0, .slice none 0 0, .string ⟨#[]⟩, .int .i64 0, .int .i64 0] 64) = A0 from hA0H.out.symm, ← habH.out]; refine wpList_store_row rfl 64 (.tmp 6) _ rfl ab #[.int .i64 kd, c0, c1, c2, c3, c4, c5, c6, c7, c8, c9, c10, e0, e1, e2, e3, e4, e5, e6, e7, e8, e9, e10, .int .i64 st] rfl rfl 64 zeroAct habA0 actSize rfl (all_one hones) ?_; rw [← hA1H.out]))
      refine wp_region_held_drew (S := (fun w' => w'.heap[ab]? = some (.cells #[.int .i64 kd, c0, c1, c2, c3, c4, c5, c6, c7, c8, c9, c10, e0, e1, e2, e3, e4, e5, e6, e7, e8, e9, e10, .int .i64 st] 64 (0, 0)))) (by kernel_rfl) ?_ (fun hHeld => ?_)
      · exact hSk.out _ (Below.refl A1.heap.size A1).drew
      refine wpAnyH_take (i := 0) (v := ?va0) rfl (by kernel_rfl) (by kernel_rfl) (by kernel_rfl) (fun _ _ _ h => h) (.inl ⟨by rfl, ?hya0⟩) (by assumption) ?resta0
      case hya0 => (intro w hSw; (try dsimp only at hSw); go_simp; first | done | with_reducible rfl)
      (try simp only [Act.put, pu1, pu2, pu3, pu4, pu5, pu6])
      refine wpAnyH_take (i := 1) (v := .agg #[c0, c1, c2, c3, c4, c5, c6, c7, c8, c9, c10]) rfl (by kernel_rfl) (by kernel_rfl) (by kernel_rfl) (fun _ _ _ h => h) (.inl ⟨by rfl, ?hya1⟩) (by assumption) ?resta1
      case hya1 => (exact fun w hSw => run_load_mid rfl rfl (habK.out w hSw) Try.underlying31 rfl termSize)
      (try simp only [Act.put, pu1, pu2, pu3, pu4, pu5, pu6])
      refine wpAnyH_take (i := 3) (v := ?va3) rfl (by kernel_rfl) (by kernel_rfl) (by kernel_rfl) (fun _ _ _ h => h) (.inl ⟨by rfl, ?hya3⟩) (by assumption) ?resta3
      case hya3 => (intro w hSw; (try dsimp only at hSw); go_simp; first | done | with_reducible rfl)
      (try simp only [Act.put, pu1, pu2, pu3, pu4, pu5, pu6])
      refine wpAnyH_take (i := 4) (v := .agg #[e0, e1, e2, e3, e4, e5, e6, e7, e8, e9, e10]) rfl (by kernel_rfl) (by kernel_rfl) (by kernel_rfl) (fun _ _ _ h => h) (.inl ⟨by rfl, ?hya4⟩) (by assumption) ?resta4
      case hya4 => (exact fun w hSw => run_load_mid rfl rfl (habV.out w hSw) Try.underlying31 rfl termSize)
      (try simp only [Act.put, pu1, pu2, pu3, pu4, pu5, pu6])
      refine wpAnyH_ready (rs := [2]) (by kernel_rfl) (by simp) ?_
      refine AllReadyH.cons rfl (fun K hK => ?_) AllReadyH.nil
      rw [if_pos (by rfl)]
      go_simp
      refine (hihK.out _ (Below.refl A1.heap.size A1).drew).mono ?_
      rintro e w1 ⟨z, gz, rfl, hz, hzn, hzb, hw1⟩
      have h1w : Below A1.heap.size A1 w1 := ((Below.refl A1.heap.size A1).drew).trans (below_le hw1 ((Below.refl A1.heap.size A1).drew).size)
      refine hK.out _ _ ?_ (fun hHeld2 => ?_)
      · exact hSk.out _ h1w
      clear hK K
      (try simp only [Act.put, pu1, pu2, pu3, pu4, pu5, pu6])
      refine wpAnyH_ready (rs := [5]) (by kernel_rfl) (by simp) ?_
      refine AllReadyH.cons rfl (fun K hK => ?_) AllReadyH.nil
      rw [if_pos (by rfl)]
      go_simp
      refine (hihV.out _ h1w).mono ?_
      rintro e w2 ⟨y, gy, rfl, hy, hyn, hyb, hw2⟩
      have h2w : Below A1.heap.size A1 w2 := h1w.trans (hw2.mono h1w.size)
      refine hK.out _ _ ?_ (fun hHeld2 => ?_)
      · exact hSk.out _ h2w
      clear hK K
      (try simp only [Act.put, pu1, pu2, pu3, pu4, pu5, pu6])
      refine wpAnyH_take (i := 6) (v := ?va6) rfl (by kernel_rfl) (by kernel_rfl) (by kernel_rfl) (fun _ _ _ h => h) (.inl ⟨by rfl, ?hya6⟩) (by assumption) ?resta6
      case hya6 => (intro w hSw; (try dsimp only at hSw); go_simp; first | done | with_reducible rfl)
      (try simp only [Act.put, pu1, pu2, pu3, pu4, pu5, pu6])
      refine wpAnyH_take (i := 7) (v := ?va7) rfl (by kernel_rfl) (by kernel_rfl) (by kernel_rfl) (fun _ _ _ h => h) (.inl ⟨by rfl, ?hya7⟩) (by assumption) ?resta7
      case hya7 => (intro w hSw; (try dsimp only at hSw); go_simp; first | done | with_reducible rfl)
      (try simp only [Act.put, pu1, pu2, pu3, pu4, pu5, pu6])
      refine wpAnyH_done (by kernel_rfl) ?_ _
      have hz2 := Lib.hid (VRep.but hz (below_but0 hw2) (fun _ _ f => f))
      have hy2 := Lib.hid hy
      have hznH := Lib.hid hzn
      have hynH := Lib.hid hyn
      have hrg := Lib.hid (show ∀ b, b ∈ gz ∨ b ∈ gy → A1.heap.size ≤ b ∧ b < w2.heap.size from fun b hb => by
        have s1 := h1w.size
        have s2 := hw2.size
        have s3 : A1.drew.heap.size = A1.heap.size := rfl
        rcases hb with hb | hb
        · have := VRep.lt _ _ _ hz b hb; have := hzb b hb; omega
        · have := VRep.lt _ _ _ hy b hb; have := hyb b hb; omega)
      have hdis := Lib.hid (show ∀ b ∈ gz, b ∉ gy from fun b h1 h2 => by have := VRep.lt _ _ _ hz b h1; have := hyb b h2; omega)
      have hB2 := Lib.hid (hBoH.out.below (hb1H.out.trans (h2w.mono hb1H.out.size)))
      have h2wH := Lib.hid h2w
      have hlo := Lib.hid (show ∀ b, OfM w.heap.size o l b ∨ OfD (w.heap.size + 1) dv b → b < A1.heap.size from fun b hb => by have := hOf.out b hb; have := hb1H.out.size; omega)
      have hsz0 := Lib.hid (show w.heap.size ≤ A1.heap.size ∧ A1.heap.size ≤ w2.heap.size from ⟨by have := hb1H.out.size; have := hbwr.out.size; omega, h2w.size⟩)
      have habno := Lib.hid (show ¬ OfM w.heap.size o l ab ∧ ¬ OfD (w.heap.size + 1) dv ab from ⟨fun h => by have := hOf.out ab (.inl h); have := habH.out; omega, fun h => by have := hOf.out ab (.inr h); have := habH.out; omega⟩)
      have habw2 := Lib.hid (habX.out w2 h2w)
      have hmk := Lib.hid (show w.heap.size ∉ gz ∧ w.heap.size ∉ gy from ⟨fun h => by have h3 := (hrg.out _ (.inl h)).1; have h4 := hOf.out _ (.inl (.inl rfl)); have := hb1H.out.size; omega, fun h => by have h3 := (hrg.out _ (.inr h)).1; have h4 := hOf.out _ (.inl (.inl rfl)); have := hb1H.out.size; omega⟩)
      have p0 : w2.cell? ⟨ab, 0, none⟩ = some (.int .i64 kd) := by rw [cell_of_row w2 ab 0 _ _ _ habw2.out]; rfl
      have p23 : w2.cell? ⟨ab, 23, none⟩ = some (.int .i64 st) := by rw [cell_of_row w2 ab 23 _ _ _ habw2.out]; rfl
      clear hHeld h1w h2w hw1 hw2 hz hy hzn hyn hzb hyb hrow
      go_upto_block 2 with fail
      go_cut [46] (fun s46 wb => ∃ (o' : Option Nat) (l' : List PE) (dv' : Value) (qs' : List QE), Both w wb w.heap.size o' l' (w.heap.size + 1) dv' qs' ∧ But (fun b => OfM w.heap.size o l b ∨ OfD (w.heap.size + 1) dv b) w2 wb ∧ ∀ b, OfM w.heap.size o' l' b ∨ OfD (w.heap.size + 1) dv' b → (OfM w.heap.size o l b ∨ OfD (w.heap.size + 1) dv b) ∨ w2.heap.size ≤ b)
      case first =>
        by_cases hk0 : kd = 0
        · as_aux_lemma =>
            go_wp2_with fail
            refine (mapW_put hB2.out.mw hz2.out hng.out hy2.out hnu.out hmk.out.1 hmk.out.2).mono ?_
            rintro e w3 hP
            obtain ⟨x, ok, r, rfl⟩ := hP.tup
            have hDm := hB2.out.doc_mid hP.but
            have habw3 : w3.heap[ab]? = some (.cells #[.int .i64 kd, c0, c1, c2, c3, c4, c5, c6, c7, c8, c9, c10, e0, e1, e2, e3, e4, e5, e6, e7, e8, e9, e10, .int .i64 st] 64 (0, 0)) := (hP.but.block ab (Array.getElem?_eq_some_iff.1 habw2.out).1 habno.out.1).trans habw2.out
            have hPH := Lib.hid hP
            have hDmH := Lib.hid hDm
            clear hP p0 p23
            have hK3 := habK.out w3 habw3
            have hV3 := habV.out w3 habw3
            clear habw3 hDm
            go_wp2_with (first | (refine wpList_load_mid rfl 31 (.tmp 59) rfl ab 1 rfl [c0, c1, c2, c3, c4, c5, c6, c7, c8, c9, c10] _ hK3 Try.underlying31 rfl termSize ?_) | (refine wpList_load_mid rfl 31 (.tmp 61) rfl ab 12 rfl [e0, e1, e2, e3, e4, e5, e6, e7, e8, e9, e10] _ hV3 Try.underlying31 rfl termSize ?_))
            have hDm := hDmH.out
            refine (dput_said hDm ht0.out hu0.out).mono ?_
            rintro e w4 hD
            obtain ⟨ds, ok2, r2, hel, rfl⟩ := hD.tup hDm
            have hP := hPH.out
            obtain ⟨rfl, rfl, hM⟩ := hB2.out.put2 ht0.out hu0.out hP hD
            obtain ⟨d0, d1, d2, d3, d4, d5, d6, d7, d8, d9, d10, rfl⟩ := eleven hel.1
            have hdo := hel.2
            have hMH := Lib.hid hM
            obtain ⟨tb, htb⟩ : ∃ x, x = w4.heap.size := ⟨_, rfl⟩
            obtain ⟨T0, hT0⟩ : ∃ X, X = w4.alloc (.cells zeroCells 31) := ⟨_, rfl⟩
            have hb0 : T0.heap[tb]? = some (.cells zeroCells 31 (0, 0)) := by rw [hT0, htb]; exact heap_alloc_new w4 _
            obtain ⟨T1, hT1⟩ : ∃ X, X = T0.setRow tb #[d0, d1, d2, d3, d4, d5, d6, d7, d8, d9, d10] := ⟨_, rfl⟩
            have hbT1 : T1.heap[tb]? = some (.cells #[d0, d1, d2, d3, d4, d5, d6, d7, d8, d9, d10] 31 (0, 0)) := by rw [hT1]; exact setRow_heap T0 tb _ _ _ _ hb0
            have hbT : Below w4.heap.size w4 T1 := by
              have h : Below w4.heap.size w4 T0 := by rw [hT0]; exact (Below.refl _ _).alloc (Nat.le_refl _) _
              rw [hT1]
              exact h.trans ⟨rfl, rfl, rfl, by rw [setRow_size]; exact Nat.le_refl _, fun i hi => setRow_other T0 tb i _ (by omega)⟩
            have z0 := cell_of_row T1 tb 0 _ _ _ hbT1
            have z1 := cell_of_row T1 tb 1 _ _ _ hbT1
            have z2 := cell_of_row T1 tb 2 _ _ _ hbT1
            have z3 := cell_of_row T1 tb 3 _ _ _ hbT1
            have z4 := cell_of_row T1 tb 4 _ _ _ hbT1
            have z5 := cell_of_row T1 tb 5 _ _ _ hbT1
            have z6 := cell_of_row T1 tb 6 _ _ _ hbT1
            have z7 := cell_of_row T1 tb 7 _ _ _ hbT1
            have z8 := cell_of_row T1 tb 8 _ _ _ hbT1
            have z9 := cell_of_row T1 tb 9 _ _ _ hbT1
            have z10 := cell_of_row T1 tb 10 _ _ _ hbT1
            simp only [List.getElem?_cons_zero, List.getElem?_cons_succ, List.getElem?_toArray] at z0 z1 z2 z3 z4 z5 z6 z7 z8 z9 z10
            have hbw2 := Lib.hid (show Below w.heap.size w w2 from hB2.out.dm.bel)
            have htold := Lib.hid (hM.told hbw2.out hbT)
            have haft := Lib.hid (fun X (hX : Below w4.heap.size w4 X) => hMH.out.after (show w.heap.size ≤ w2.heap.size from hbw2.out.size) hX)
            have hbTH := Lib.hid hbT
            have hT0H := Lib.hid hT0
            have hT1H := Lib.hid hT1
            have htbH := Lib.hid htb
            clear hP hD hM hDm hT0 hT1 hbT htb hel hbT1 hK3 hV3
            go_wp2_with (rw [show w4.alloc (Obj.cells #[.int .i64 0, .bool false, .int .i64 0, .float .f64 0, .string ⟨#[]⟩, .slice none 0 0, .int .u64 0, .slice none 0 0, .slice none 0 0, .string ⟨#[]⟩, .int .i64 0] 31) = T0 from hT0H.out.symm, ← htbH.out]; refine wpList_store_row rfl 31 (.tmp 12) _ rfl tb #[d0, d1, d2, d3, d4, d5, d6, d7, d8, d9, d10] rfl rfl 31 zeroCells hb0 termSize rfl (all_one hdo) ?_; rw [← hT1H.out])
            refine htold.out.mono ?_
            rintro e w5 ⟨rfl, hb5⟩
            obtain ⟨v0, fs, f1, f2, f3, f4⟩ := haft.out w5 (hbTH.out.trans (hb5.mono hbTH.out.size))
            have hsp := Lib.hid (spoil_any v0 x fs w5 f1 f2 f3)
            have f4H := Lib.hid f4
            clear f1 f2 f3 f4 hb5
            go_wp2_with fail
            refine hsp.out.mono ?_
            rintro e w6 ⟨rfl, hb6⟩
            obtain ⟨o', l', dv', qs', hBb, hof, hbut⟩ := f4H.out w6 hb6
            have hBb := Lib.hid hBb
            have hof := Lib.hid hof
            have hbut := Lib.hid hbut
            clear hb6
            go_wp2_with fail
            go_meet
            exact ⟨o', l', dv', qs', hBb.out, hbut.out, hof.out⟩
        · by_cases hk1 : kd = 1
          · as_aux_lemma =>
              go_wp2_with fail
              refine (mapW_get hB2.out.mw hz2.out hng.out).mono ?_
              rintro e w3 hP
              obtain ⟨x, ok, rfl⟩ := hP.tup
              have hDm := hB2.out.dm.below hP.below
              have habw3 : w3.heap[ab]? = some (.cells #[.int .i64 kd, c0, c1, c2, c3, c4, c5, c6, c7, c8, c9, c10, e0, e1, e2, e3, e4, e5, e6, e7, e8, e9, e10, .int .i64 st] 64 (0, 0)) := (hP.below.block ab (Array.getElem?_eq_some_iff.1 habw2.out).1).trans habw2.out
              have hPH := Lib.hid hP
              have hDmH := Lib.hid hDm
              clear hP p0 p23
              have hK3 := habK.out w3 habw3
              have hV3 := habV.out w3 habw3
              clear habw3 hDm
              go_wp2_with (first | (refine wpList_load_mid rfl 31 (.tmp 90) rfl ab 1 rfl [c0, c1, c2, c3, c4, c5, c6, c7, c8, c9, c10] _ hK3 Try.underlying31 rfl termSize ?_) | (refine wpList_load_mid rfl 31 (.tmp 90) rfl ab 12 rfl [e0, e1, e2, e3, e4, e5, e6, e7, e8, e9, e10] _ hV3 Try.underlying31 rfl termSize ?_))
              have hDm := hDmH.out
              refine (dget_said hDm hB2.out.rise ht0.out).mono ?_
              rintro e w4 hD
              obtain ⟨ds, ok2, hel, rfl⟩ := hD.tup hDm
              have hP := hPH.out
              obtain ⟨rfl, hM⟩ := hB2.out.get2 ht0.out hP hD
              obtain ⟨d0, d1, d2, d3, d4, d5, d6, d7, d8, d9, d10, rfl⟩ := eleven hel.1
              have hdo := hel.2
              have hMH := Lib.hid hM
              obtain ⟨tb, htb⟩ : ∃ x, x = w4.heap.size := ⟨_, rfl⟩
              obtain ⟨T0, hT0⟩ : ∃ X, X = w4.alloc (.cells zeroCells 31) := ⟨_, rfl⟩
              have hb0 : T0.heap[tb]? = some (.cells zeroCells 31 (0, 0)) := by rw [hT0, htb]; exact heap_alloc_new w4 _
              obtain ⟨T1, hT1⟩ : ∃ X, X = T0.setRow tb #[d0, d1, d2, d3, d4, d5, d6, d7, d8, d9, d10] := ⟨_, rfl⟩
              have hbT1 : T1.heap[tb]? = some (.cells #[d0, d1, d2, d3, d4, d5, d6, d7, d8, d9, d10] 31 (0, 0)) := by rw [hT1]; exact setRow_heap T0 tb _ _ _ _ hb0
              have hbT : Below w4.heap.size w4 T1 := by
                have h : Below w4.heap.size w4 T0 := by rw [hT0]; exact (Below.refl _ _).alloc (Nat.le_refl _) _
                rw [hT1]
                exact h.trans ⟨rfl, rfl, rfl, by rw [setRow_size]; exact Nat.le_refl _, fun i hi => setRow_other T0 tb i _ (by omega)⟩
              have z0 := cell_of_row T1 tb 0 _ _ _ hbT1
              have z1 := cell_of_row T1 tb 1 _ _ _ hbT1
              have z2 := cell_of_row T1 tb 2 _ _ _ hbT1
              have z3 := cell_of_row T1 tb 3 _ _ _ hbT1
              have z4 := cell_of_row T1 tb 4 _ _ _ hbT1
              have z5 := cell_of_row T1 tb 5 _ _ _ hbT1
              have z6 := cell_of_row T1 tb 6 _ _ _ hbT1
              have z7 := cell_of_row T1 tb 7 _ _ _ hbT1
              have z8 := cell_of_row T1 tb 8 _ _ _ hbT1
              have z9 := cell_of_row T1 tb 9 _ _ _ hbT1
              have z10 := cell_of_row T1 tb 10 _ _ _ hbT1
              simp only [List.getElem?_cons_zero, List.getElem?_cons_succ, List.getElem?_toArray] at z0 z1 z2 z3 z4 z5 z6 z7 z8 z9 z10
              have hbw2 := Lib.hid (show Below w.heap.size w w2 from hB2.out.dm.bel)
              have htold := Lib.hid (hM.told hbw2.out hbT)
              have haft := Lib.hid (fun X (hX : Below w4.heap.size w4 X) => hMH.out.after (show w.heap.size ≤ w2.heap.size from hbw2.out.size) hX)
              have hbTH := Lib.hid hbT
              have hT0H := Lib.hid hT0
              have hT1H := Lib.hid hT1
              have htbH := Lib.hid htb
              clear hP hD hM hDm hT0 hT1 hbT htb hel hbT1 hK3 hV3
              go_wp2_with (rw [show w4.alloc (Obj.cells #[.int .i64 0, .bool false, .int .i64 0, .float .f64 0, .string ⟨#[]⟩, .slice none 0 0, .int .u64 0, .slice none 0 0, .slice none 0 0, .string ⟨#[]⟩, .int .i64 0] 31) = T0 from hT0H.out.symm, ← htbH.out]; refine wpList_store_row rfl 31 (.tmp 17) _ rfl tb #[d0, d1, d2, d3, d4, d5, d6, d7, d8, d9, d10] rfl rfl 31 zeroCells hb0 termSize rfl (all_one hdo) ?_; rw [← hT1H.out])
              refine htold.out.mono ?_
              rintro e w5 ⟨rfl, hb5⟩
              obtain ⟨v0, fs, f1, f2, f3, f4⟩ := haft.out w5 (hbTH.out.trans (hb5.mono hbTH.out.size))
              have hsp := Lib.hid (spoil_any v0 x fs w5 f1 f2 f3)
              have f4H := Lib.hid f4
              clear f1 f2 f3 f4 hb5
              go_wp2_with fail
              refine hsp.out.mono ?_
              rintro e w6 ⟨rfl, hb6⟩
              obtain ⟨o', l', dv', qs', hBb, hof, hbut⟩ := f4H.out w6 hb6
              have hBb := Lib.hid hBb
              have hof := Lib.hid hof
              have hbut := Lib.hid hbut
              clear hb6
              go_wp2_with fail
              go_meet
              exact ⟨o', l', dv', qs', hBb.out, hbut.out, hof.out⟩
          · by_cases hk2 : kd = 2
            · as_aux_lemma =>
                go_wp2_with fail
                refine (mapW_delete hB2.out.mw hz2.out hng.out).mono ?_
                rintro e w3 hP
                obtain ⟨x, ok, rfl⟩ := hP.tup
                have hDm := hB2.out.doc_mid hP.but
                have habw3 : w3.heap[ab]? = some (.cells #[.int .i64 kd, c0, c1, c2, c3, c4, c5, c6, c7, c8, c9, c10, e0, e1, e2, e3, e4, e5, e6, e7, e8, e9, e10, .int .i64 st] 64 (0, 0)) := (hP.but.block ab (Array.getElem?_eq_some_iff.1 habw2.out).1 habno.out.1).trans habw2.out
                have hPH := Lib.hid hP
                have hDmH := Lib.hid hDm
                clear hP p0 p23
                have hK3 := habK.out w3 habw3
                have hV3 := habV.out w3 habw3
                clear habw3 hDm
                go_wp2_with (first | (refine wpList_load_mid rfl 31 (.tmp 113) rfl ab 1 rfl [c0, c1, c2, c3, c4, c5, c6, c7, c8, c9, c10] _ hK3 Try.underlying31 rfl termSize ?_) | (refine wpList_load_mid rfl 31 (.tmp 113) rfl ab 12 rfl [e0, e1, e2, e3, e4, e5, e6, e7, e8, e9, e10] _ hV3 Try.underlying31 rfl termSize ?_))
                have hDm := hDmH.out
                refine (ddel_said hDm hB2.out.rise ht0.out).mono ?_
                rintro e w4 hD
                obtain ⟨ds, ok2, hel, rfl⟩ := hD.tup hDm
                have hP := hPH.out
                obtain ⟨rfl, hM⟩ := hB2.out.del2 ht0.out hP hD
                obtain ⟨d0, d1, d2, d3, d4, d5, d6, d7, d8, d9, d10, rfl⟩ := eleven hel.1
                have hdo := hel.2
                have hMH := Lib.hid hM
                obtain ⟨tb, htb⟩ : ∃ x, x = w4.heap.size := ⟨_, rfl⟩
                obtain ⟨T0, hT0⟩ : ∃ X, X = w4.alloc (.cells zeroCells 31) := ⟨_, rfl⟩
                have hb0 : T0.heap[tb]? = some (.cells zeroCells 31 (0, 0)) := by rw [hT0, htb]; exact heap_alloc_new w4 _
                obtain ⟨T1, hT1⟩ : ∃ X, X = T0.setRow tb #[d0, d1, d2, d3, d4, d5, d6, d7, d8, d9, d10] := ⟨_, rfl⟩
                have hbT1 : T1.heap[tb]? = some (.cells #[d0, d1, d2, d3, d4, d5, d6, d7, d8, d9, d10] 31 (0, 0)) := by rw [hT1]; exact setRow_heap T0 tb _ _ _ _ hb0
                have hbT : Below w4.heap.size w4 T1 := by
                  have h : Below w4.heap.size w4 T0 := by rw [hT0]; exact (Below.refl _ _).alloc (Nat.le_refl _) _
                  rw [hT1]
                  exact h.trans ⟨rfl, rfl, rfl, by rw [setRow_size]; exact Nat.le_refl _, fun i hi => setRow_other T0 tb i _ (by omega)⟩
                have z0 := cell_of_row T1 tb 0 _ _ _ hbT1
                have z1 := cell_of_row T1 tb 1 _ _ _ hbT1
                have z2 := cell_of_row T1 tb 2 _ _ _ hbT1
                have z3 := cell_of_row T1 tb 3 _ _ _ hbT1
                have z4 := cell_of_row T1 tb 4 _ _ _ hbT1
                have z5 := cell_of_row T1 tb 5 _ _ _ hbT1
                have z6 := cell_of_row T1 tb 6 _ _ _ hbT1
                have z7 := cell_of_row T1 tb 7 _ _ _ hbT1
                have z8 := cell_of_row T1 tb 8 _ _ _ hbT1
                have z9 := cell_of_row T1 tb 9 _ _ _ hbT1
                have z10 := cell_of_row T1 tb 10 _ _ _ hbT1
                simp only [List.getElem?_cons_zero, List.getElem?_cons_succ, List.getElem?_toArray] at z0 z1 z2 z3 z4 z5 z6 z7 z8 z9 z10
                have hbw2 := Lib.hid (show Below w.heap.size w w2 from hB2.out.dm.bel)
                have htold := Lib.hid (hM.told hbw2.out hbT)
                have haft := Lib.hid (fun X (hX : Below w4.heap.size w4 X) => hMH.out.after (show w.heap.size ≤ w2.heap.size from hbw2.out.size) hX)
                have hbTH := Lib.hid hbT
                have hT0H := Lib.hid hT0
                have hT1H := Lib.hid hT1
                have htbH := Lib.hid htb
                clear hP hD hM hDm hT0 hT1 hbT htb hel hbT1 hK3 hV3
                go_wp2_with (rw [show w4.alloc (Obj.cells #[.int .i64 0, .bool false, .int .i64 0, .float .f64 0, .string ⟨#[]⟩, .slice none 0 0, .int .u64 0, .slice none 0 0, .slice none 0 0, .string ⟨#[]⟩, .int .i64 0] 31) = T0 from hT0H.out.symm, ← htbH.out]; refine wpList_store_row rfl 31 (.tmp 21) _ rfl tb #[d0, d1, d2, d3, d4, d5, d6, d7, d8, d9, d10] rfl rfl 31 zeroCells hb0 termSize rfl (all_one hdo) ?_; rw [← hT1H.out])
                refine htold.out.mono ?_
                rintro e w5 ⟨rfl, hb5⟩
                obtain ⟨v0, fs, f1, f2, f3, f4⟩ := haft.out w5 (hbTH.out.trans (hb5.mono hbTH.out.size))
                have hsp := Lib.hid (spoil_any v0 x fs w5 f1 f2 f3)
                have f4H := Lib.hid f4
                clear f1 f2 f3 f4 hb5
                go_wp2_with fail
                refine hsp.out.mono ?_
                rintro e w6 ⟨rfl, hb6⟩
                obtain ⟨o', l', dv', qs', hBb, hof, hbut⟩ := f4H.out w6 hb6
                have hBb := Lib.hid hBb
                have hof := Lib.hid hof
                have hbut := Lib.hid hbut
                clear hb6
                go_wp2_with fail
                go_meet
                exact ⟨o', l', dv', qs', hBb.out, hbut.out, hof.out⟩
            · by_cases hk3 : kd = 3
              · skip
                have hlaw := Lib.hid (each_law hB2.out st)
                go_wp2_with fail
                refine hlaw.out.mono ?_
                rintro e w6 ⟨rfl, hb6⟩
                have hBb := Lib.hid (hB2.out.below (hb6))
                have hbut := Lib.hid ((But.refl (fun b => OfM w.heap.size o l b ∨ OfD (w.heap.size + 1) dv b) w2).of_below (hb6) (fun i hi hle => absurd hle (by omega)))
                clear hb6
                go_wp2_with fail
                go_meet
                exact ⟨o, l, dv, qs, hBb.out, hbut.out, fun b h => .inl h⟩
              · have hb6 := Below.refl w2.heap.size w2
                have hBb := Lib.hid (hB2.out.below (hb6))
                have hbut := Lib.hid ((But.refl (fun b => OfM w.heap.size o l b ∨ OfD (w.heap.size + 1) dv b) w2).of_below (hb6) (fun i hi hle => absurd hle (by omega)))
                clear hb6
                go_wp2_with fail
                go_meet
                exact ⟨o, l, dv, qs, hBb.out, hbut.out, fun b h => .inl h⟩
      case rest => as_aux_lemma =>
        obtain ⟨o', l', dv', qs', hBb, hbut, hof⟩ := hcut
        have hBb := Lib.hid hBb
        have hof := Lib.hid hof
        have hbut := Lib.hid hbut
        have hTl := hBb.out.tail hbut.out hof.out hlo.out hz2.out hy2.out hrg.out hdis.out hsz0.out.1
        obtain ⟨sa, dcap, rfl, -, hmaxd, -, -⟩ := ownsRow_form hBb.out.dm.row
        unfold maxLen at hmaxd
        have hlq := hBb.out.dm.small
        have hll := Lib.hid hBb.out.len
        have hs1 := Lib.hid (spoil_any (builtV t) z gz wc hTl.1 hst.out hznH.out)
        have hs2 := Lib.hid (fun X (hX : But (fun b => b ∈ gz) wc X) => spoil_any (builtV u) y gy X (hTl.2 X hX).1 hsu.out hynH.out)
        have hBY := Lib.hid (fun X Y (hX : But (fun b => b ∈ gz) wc X) (hY : But (fun b => b ∈ gy) X Y) => (hTl.2 X hX).2 Y hY)
        clear hTl p0 p23
        go_wp2_with (first | (go_at_call 15; refine (hs2.out v1 hv1H.out).mono ?_; rintro e v2 ⟨rfl, hv2⟩; have hv2H := Lib.hid hv2; clear hv2) | (go_at_call 15; refine hs1.out.mono ?_; rintro e v1 ⟨rfl, hv1⟩; have hv1H := Lib.hid hv1; clear hv1))
        have hBv := Lib.hid (hBY.out v1 v2 hv1H.out hv2H.out)
        have hdc : v2.cell? ⟨w.heap.size + 1, 0, none⟩ = some (.slice sa qs'.length dcap) := by rw [cell_of_row v2 _ 0 _ _ _ hBv.out.dm.cell]; rfl
        have hlen := Lib.hid (mapW_len (hBv.out.below ((Below.refl v2.heap.size v2).drew)).mw)
        rw [← hll.out] at hlen
        have hSd := Lib.hid (show ∀ X, Below v2.heap.size v2 X → X.cell? ⟨w.heap.size + 1, 0, none⟩ = some (.slice sa qs'.length dcap) from fun X hX => keeps_of_below hX _ _ hdc)
        clear hdc
        refine wp_region_held_drew (S := (fun w' => w'.cell? ⟨w.heap.size + 1, 0, none⟩ = some (.slice sa qs'.length dcap))) (by kernel_rfl) ?_ (fun hHeld => ?_)
        · exact hSd.out _ (Below.refl v2.heap.size v2).drew
        refine wpAnyH_take (i := 0) (v := ?vh0) rfl (by kernel_rfl) (by kernel_rfl) (by kernel_rfl) (fun _ _ _ h => h) (.inl ⟨by rfl, ?hyh0⟩) (by assumption) ?resth0
        case hyh0 => (intro w hSw; (try dsimp only at hSw); go_simp; first | done | with_reducible rfl)
        (try simp only [Act.put, pu1, pu2, pu3, pu4, pu5, pu6])
        refine wpAnyH_take (i := 2) (v := ?vh2) rfl (by kernel_rfl) (by kernel_rfl) (by kernel_rfl) (fun _ _ _ h => h) (.inl ⟨by rfl, ?hyh2⟩) (by assumption) ?resth2
        case hyh2 => (intro w hSw; (try dsimp only at hSw); go_simp; first | done | with_reducible rfl)
        (try simp only [Act.put, pu1, pu2, pu3, pu4, pu5, pu6])
        refine wpAnyH_take (i := 3) (v := ?vh3) rfl (by kernel_rfl) (by kernel_rfl) (by kernel_rfl) (fun _ _ _ h => h) (.inl ⟨by rfl, ?hyh3⟩) (by assumption) ?resth3
        case hyh3 => (intro w hSw; (try dsimp only at hSw); go_simp; first | done | with_reducible rfl)
        (try simp only [Act.put, pu1, pu2, pu3, pu4, pu5, pu6])
        refine wpAnyH_take (i := 4) (v := ?vh4) rfl (by kernel_rfl) (by kernel_rfl) (by kernel_rfl) (fun _ _ _ h => h) (.inl ⟨by rfl, ?hyh4⟩) (by assumption) ?resth4
        case hyh4 => (intro w hSw; (try dsimp only at hSw); go_simp; first | done | with_reducible rfl)
        (try simp only [Act.put, pu1, pu2, pu3, pu4, pu5, pu6])
        refine wpAnyH_take (i := 5) (v := ?vh5) rfl (by kernel_rfl) (by kernel_rfl) (by kernel_rfl) (fun _ _ _ h => h) (.inl ⟨by rfl, ?hyh5⟩) (by assumption) ?resth5
        case hyh5 => (intro w hSw; (try dsimp only at hSw); go_simp; first | done | with_reducible rfl)
        (try simp only [Act.put, pu1, pu2, pu3, pu4, pu5, pu6])
        refine wpAnyH_take (i := 6) (v := ?vh6) rfl (by kernel_rfl) (by kernel_rfl) (by kernel_rfl) (fun _ _ _ h => h) (.inl ⟨by rfl, ?hyh6⟩) (by assumption) ?resth6
        case hyh6 => (intro w hSw; (try dsimp only at hSw); go_simp; first | done | with_reducible rfl)
        (try simp only [Act.put, pu1, pu2, pu3, pu4, pu5, pu6])
        refine wpAnyH_ready (rs := [1]) (by kernel_rfl) (by simp) ?_
        refine AllReadyH.cons rfl (fun K hK => ?_) AllReadyH.nil
        rw [if_pos (by rfl)]
        go_simp
        refine hlen.out.mono ?_
        rintro e v3 ⟨rfl, hv3⟩
        have h3 : Below v2.heap.size v2 v3 := ((Below.refl v2.heap.size v2).drew).trans (below_le hv3 ((Below.refl v2.heap.size v2).drew).size)
        refine hK.out _ _ ?_ (fun hHeld2 => ?_)
        · exact hSd.out _ h3
        clear hK K
        (try simp only [Act.put, pu1, pu2, pu3, pu4, pu5, pu6])
        refine wpAnyH_take (i := 7) (v := ?vh7) rfl (by kernel_rfl) (by kernel_rfl) (by kernel_rfl) (fun _ _ _ h => h) (.inl ⟨by rfl, ?hyh7⟩) (by assumption) ?resth7
        case hyh7 => (intro w hSw; (try dsimp only at hSw); go_simp; first | done | with_reducible rfl)
        (try simp only [Act.put, pu1, pu2, pu3, pu4, pu5, pu6])
        refine wpAnyH_done (by kernel_rfl) ?_ _
        have hnew := Lib.hid (hBv.out.below h3)
        clear hHeld hv3 h3
        go_wp2_with fail
        go_roundw
        case rel => exact ⟨k + 1, o', l', _, qs', by omega, by go_num, hnew.out⟩
        case measure => simp [intOf]; omega
    · as_aux_lemma =>
      obtain rfl : k = n := by omega
      have hlt : ¬ ((k : Int) < (k : Int)) := by omega
      have hBE := Lib.hid hBo
      have hget := Lib.hid (get_func (l := l) (o := o) hBo.mw (.func (.func 27) #[] #[]))
      obtain ⟨sa, dcap, rfl, -, hmaxd, -, -⟩ := ownsRow_form hBo.dm.row
      unfold maxLen at hmaxd
      have hlq := hBo.dm.small
      have hdc : wr.cell? ⟨w.heap.size + 1, 0, none⟩ = some (.slice sa qs.length dcap) := by rw [cell_of_row wr _ 0 _ _ _ hBo.dm.cell]; rfl
      have hll := Lib.hid hBo.len
      have hlaw := Lib.hid (fun X (hX : Below wr.heap.size wr X) => each_law (hBE.out.below hX) 0)
      have hlen := Lib.hid (fun X (hX : Below wr.heap.size wr X) => mapW_len (hBE.out.below hX).mw)
      rw [← hll.out] at hlen
      have hnof := Lib.hid (fun X => each_nofn w.heap.size X)
      have hSd := Lib.hid (show ∀ X, Below wr.heap.size wr X → X.cell? ⟨w.heap.size + 1, 0, none⟩ = some (.slice sa qs.length dcap) from fun X hX => keeps_of_below hX _ _ hdc)
      clear hBo hdc
      go_wp2_with fail
      refine hget.out.mono ?_
      rintro e w1 ⟨rfl, hb1⟩
      go_wp2_with fail
      refine wp_region_held_drew (S := (fun w' => w'.cell? ⟨w.heap.size + 1, 0, none⟩ = some (.slice sa qs.length dcap))) (by kernel_rfl) ?_ (fun hHeld => ?_)
      · exact hSd.out _ hb1.drew
      refine wpAnyH_take (i := 0) (v := ?vx0) rfl (by kernel_rfl) (by kernel_rfl) (by kernel_rfl) (fun _ _ _ h => h) (.inl ⟨by rfl, ?hyx0⟩) (by assumption) ?restx0
      case hyx0 => (intro w hSw; (try dsimp only at hSw); go_simp; first | done | with_reducible rfl)
      (try simp only [Act.put, pu1, pu2, pu3, pu4, pu5, pu6])
      refine wpAnyH_take (i := 1) (v := ?vx1) rfl (by kernel_rfl) (by kernel_rfl) (by kernel_rfl) (fun _ _ _ h => h) (.inl ⟨by rfl, ?hyx1⟩) (by assumption) ?restx1
      case hyx1 => (intro w hSw; (try dsimp only at hSw); go_simp; first | done | with_reducible rfl)
      (try simp only [Act.put, pu1, pu2, pu3, pu4, pu5, pu6])
      refine wpAnyH_ready (rs := [2]) (by kernel_rfl) (by simp) ?_
      refine AllReadyH.cons rfl (fun K hK => ?_) AllReadyH.nil
      rw [if_pos (by rfl)]
      go_simp
      refine (hlaw.out _ hb1.drew).mono ?_
      rintro e w2 ⟨rfl, hw2⟩
      have h2 : Below wr.heap.size wr w2 := hb1.drew.trans (below_le hw2 hb1.drew.size)
      refine hK.out _ _ ?_ (fun hHeld2 => ?_)
      · exact hSd.out _ h2
      clear hK K
      (try simp only [Act.put, pu1, pu2, pu3, pu4, pu5, pu6])
      refine wpAnyH_take (i := 3) (v := ?vx3) rfl (by kernel_rfl) (by kernel_rfl) (by kernel_rfl) (fun _ _ _ h => h) (.inl ⟨by rfl, ?hyx3⟩) (by assumption) ?restx3
      case hyx3 => (intro w hSw; (try dsimp only at hSw); go_simp; first | done | with_reducible rfl)
      (try simp only [Act.put, pu1, pu2, pu3, pu4, pu5, pu6])
      refine wpAnyH_take (i := 4) (v := ?vx4) rfl (by kernel_rfl) (by kernel_rfl) (by kernel_rfl) (fun _ _ _ h => h) (.inl ⟨by rfl, ?hyx4⟩) (by assumption) ?restx4
      case hyx4 => (intro w hSw; (try dsimp only at hSw); go_simp; first | done | with_reducible rfl)
      (try simp only [Act.put, pu1, pu2, pu3, pu4, pu5, pu6])
      refine wpAnyH_take (i := 5) (v := ?vx5) rfl (by kernel_rfl) (by kernel_rfl) (by kernel_rfl) (fun _ _ _ h => h) (.inl ⟨by rfl, ?hyx5⟩) (by assumption) ?restx5
      case hyx5 => (intro w hSw; (try dsimp only at hSw); go_simp; first | done | with_reducible rfl)
      (try simp only [Act.put, pu1, pu2, pu3, pu4, pu5, pu6])
      refine wpAnyH_take (i := 6) (v := ?vx6) rfl (by kernel_rfl) (by kernel_rfl) (by kernel_rfl) (fun _ _ _ h => h) (.inl ⟨by rfl, ?hyx6⟩) (by assumption) ?restx6
      case hyx6 => (intro w hSw; (try dsimp only at hSw); go_simp; first | done | with_reducible rfl)
      (try simp only [Act.put, pu1, pu2, pu3, pu4, pu5, pu6])
      refine wpAnyH_take (i := 7) (v := ?vx7) rfl (by kernel_rfl) (by kernel_rfl) (by kernel_rfl) (fun _ _ _ h => h) (.inl ⟨by rfl, ?hyx7⟩) (by assumption) ?restx7
      case hyx7 => (intro w hSw; (try dsimp only at hSw); go_simp; first | done | with_reducible rfl)
      (try simp only [Act.put, pu1, pu2, pu3, pu4, pu5, pu6])
      refine wpAnyH_take (i := 8) (v := ?vx8) rfl (by kernel_rfl) (by kernel_rfl) (by kernel_rfl) (fun _ _ _ h => h) (.inl ⟨by rfl, ?hyx8⟩) (by assumption) ?restx8
      case hyx8 => (intro w hSw; (try dsimp only at hSw); go_simp; first | done | with_reducible rfl)
      (try simp only [Act.put, pu1, pu2, pu3, pu4, pu5, pu6])
      refine wpAnyH_ready (rs := [9]) (by kernel_rfl) (by simp) ?_
      refine AllReadyH.cons rfl (fun K hK => ?_) AllReadyH.nil
      rw [if_pos (by rfl)]
      go_simp
      refine (hnof.out w2).mono ?_
      rintro e w3 ⟨rfl, hw3⟩
      have h3 : Below wr.heap.size wr w3 := h2.trans (below_le hw3 h2.size)
      refine hK.out _ _ ?_ (fun hHeld2 => ?_)
      · exact hSd.out _ h3
      clear hK K
      (try simp only [Act.put, pu1, pu2, pu3, pu4, pu5, pu6])
      refine wpAnyH_take (i := 10) (v := ?vx10) rfl (by kernel_rfl) (by kernel_rfl) (by kernel_rfl) (fun _ _ _ h => h) (.inl ⟨by rfl, ?hyx10⟩) (by assumption) ?restx10
      case hyx10 => (intro w hSw; (try dsimp only at hSw); go_simp; first | done | with_reducible rfl)
      (try simp only [Act.put, pu1, pu2, pu3, pu4, pu5, pu6])
      refine wpAnyH_take (i := 11) (v := ?vx11) rfl (by kernel_rfl) (by kernel_rfl) (by kernel_rfl) (fun _ _ _ h => h) (.inl ⟨by rfl, ?hyx11⟩) (by assumption) ?restx11
      case hyx11 => (intro w hSw; (try dsimp only at hSw); go_simp; first | done | with_reducible rfl)
      (try simp only [Act.put, pu1, pu2, pu3, pu4, pu5, pu6])
      refine wpAnyH_take (i := 12) (v := ?vx12) rfl (by kernel_rfl) (by kernel_rfl) (by kernel_rfl) (fun _ _ _ h => h) (.inl ⟨by rfl, ?hyx12⟩) (by assumption) ?restx12
      case hyx12 => (intro w hSw; (try dsimp only at hSw); go_simp; first | done | with_reducible rfl)
      (try simp only [Act.put, pu1, pu2, pu3, pu4, pu5, pu6])
      refine wpAnyH_take (i := 13) (v := ?vx13) rfl (by kernel_rfl) (by kernel_rfl) (by kernel_rfl) (fun _ _ _ h => h) (.inl ⟨by rfl, ?hyx13⟩) (by assumption) ?restx13
      case hyx13 => (intro w hSw; (try dsimp only at hSw); go_simp; first | done | with_reducible rfl)
      (try simp only [Act.put, pu1, pu2, pu3, pu4, pu5, pu6])
      refine wpAnyH_take (i := 15) (v := ?vx15) rfl (by kernel_rfl) (by kernel_rfl) (by kernel_rfl) (fun _ _ _ h => h) (.inl ⟨by rfl, ?hyx15⟩) (by assumption) ?restx15
      case hyx15 => (intro w hSw; (try dsimp only at hSw); go_simp; first | done | with_reducible rfl)
      (try simp only [Act.put, pu1, pu2, pu3, pu4, pu5, pu6])
      refine wpAnyH_take (i := 16) (v := ?vx16) rfl (by kernel_rfl) (by kernel_rfl) (by kernel_rfl) (fun _ _ _ h => h) (.inl ⟨by rfl, ?hyx16⟩) (by assumption) ?restx16
      case hyx16 => (intro w hSw; (try dsimp only at hSw); go_simp; first | done | with_reducible rfl)
      (try simp only [Act.put, pu1, pu2, pu3, pu4, pu5, pu6])
      refine wpAnyH_take (i := 17) (v := ?vx17) rfl (by kernel_rfl) (by kernel_rfl) (by kernel_rfl) (fun _ _ _ h => h) (.inl ⟨by rfl, ?hyx17⟩) (by assumption) ?restx17
      case hyx17 => (intro w hSw; (try dsimp only at hSw); go_simp; first | done | with_reducible rfl)
      (try simp only [Act.put, pu1, pu2, pu3, pu4, pu5, pu6])
      refine wpAnyH_take (i := 18) (v := ?vx18) rfl (by kernel_rfl) (by kernel_rfl) (by kernel_rfl) (fun _ _ _ h => h) (.inl ⟨by rfl, ?hyx18⟩) (by assumption) ?restx18
      case hyx18 => (intro w hSw; (try dsimp only at hSw); go_simp; first | done | with_reducible rfl)
      (try simp only [Act.put, pu1, pu2, pu3, pu4, pu5, pu6])
      refine wpAnyH_take (i := 19) (v := ?vx19) rfl (by kernel_rfl) (by kernel_rfl) (by kernel_rfl) (fun _ _ _ h => h) (.inl ⟨by rfl, ?hyx19⟩) (by assumption) ?restx19
      case hyx19 => (intro w hSw; (try dsimp only at hSw); go_simp; first | done | with_reducible rfl)
      (try simp only [Act.put, pu1, pu2, pu3, pu4, pu5, pu6])
      refine wpAnyH_ready (rs := [14]) (by kernel_rfl) (by simp) ?_
      refine AllReadyH.cons rfl (fun K hK => ?_) AllReadyH.nil
      rw [if_pos (by rfl)]
      go_simp
      refine (hlen.out w3 h3).mono ?_
      rintro e w4 ⟨rfl, hw4⟩
      have h4 : Below wr.heap.size wr w4 := h3.trans (below_le hw4 h3.size)
      refine hK.out _ _ ?_ (fun hHeld2 => ?_)
      · exact hSd.out _ h4
      clear hK K
      (try simp only [Act.put, pu1, pu2, pu3, pu4, pu5, pu6])
      refine wpAnyH_take (i := 20) (v := ?vx20) rfl (by kernel_rfl) (by kernel_rfl) (by kernel_rfl) (fun _ _ _ h => h) (.inl ⟨by rfl, ?hyx20⟩) (by assumption) ?restx20
      case hyx20 => (intro w hSw; (try dsimp only at hSw); go_simp; first | done | with_reducible rfl)
      (try simp only [Act.put, pu1, pu2, pu3, pu4, pu5, pu6])
      refine wpAnyH_take (i := 21) (v := ?vx21) rfl (by kernel_rfl) (by kernel_rfl) (by kernel_rfl) (fun _ _ _ h => h) (.inl ⟨by rfl, ?hyx21⟩) (by assumption) ?restx21
      case hyx21 => (intro w hSw; (try dsimp only at hSw); go_simp; first | done | with_reducible rfl)
      (try simp only [Act.put, pu1, pu2, pu3, pu4, pu5, pu6])
      refine wpAnyH_take (i := 22) (v := ?vx22) rfl (by kernel_rfl) (by kernel_rfl) (by kernel_rfl) (fun _ _ _ h => h) (.inl ⟨by rfl, ?hyx22⟩) (by assumption) ?restx22
      case hyx22 => (intro w hSw; (try dsimp only at hSw); go_simp; first | done | with_reducible rfl)
      (try simp only [Act.put, pu1, pu2, pu3, pu4, pu5, pu6])
      refine wpAnyH_done (by kernel_rfl) ?_ _
      have h4H := Lib.hid (hbwr.out.trans (h4.mono hbwr.out.size))
      clear hHeld hw2 hw3 hw4 h2 h3 h4 hb1
      go_wp2
      go_ret
      exact ⟨rfl, h4H.out⟩
end Go.Proofs.Ytgmdbpplfjkjmaa
