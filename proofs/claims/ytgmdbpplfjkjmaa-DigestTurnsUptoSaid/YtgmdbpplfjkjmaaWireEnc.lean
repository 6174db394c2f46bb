/- wire.fields, wire.put of lists, dicts, records; wire.Encode; digest.Key and digest.Sum. -/
import Derived.Test.YtgmdbpplfjkjmaaWirePut
namespace Go.Proofs.Ytgmdbpplfjkjmaa
open Go.RowKit
set_option linter.unusedVariables false
set_option linter.unusedSimpArgs false

theorem textB_ge (s : ByteArray) : s.size ≤ (textB s).length := by
  unfold textB
  have : s.data.toList.length = s.size := by simp
  rw [List.length_append]; omega
theorem encDs_drop {d : List (ByteArray × Val)} {k : Nat} {s : ByteArray} {v : Val} (h : d[k]? = some (s, v)) : encDs (d.drop k) = textB s ++ encV v ++ encDs (d.drop (k + 1)) := by
  have hk := (List.getElem?_eq_some_iff.1 h).1
  have e := (List.getElem?_eq_some_iff.1 h).2
  rw [List.drop_eq_getElem_cons hk, e, encDs, encP]
theorem encVs_drop {l : List Val} {k : Nat} {v : Val} (h : l[k]? = some v) : encVs (l.drop k) = encV v ++ encVs (l.drop (k + 1)) := by
  have hk := (List.getElem?_eq_some_iff.1 h).1
  have e := (List.getElem?_eq_some_iff.1 h).2
  rw [List.drop_eq_getElem_cons hk, e, encVs]
set_option maxRecDepth 100000 in
set_option maxHeartbeats 1600000 in
theorem fields_put (d : List (ByteArray × Val)) (ih : ∀ u ∈ d.map (·.2), PutSaid u) (dv : Value) (xs : List Value) (gs : List Nat) (w : World) (B : Nat) (bs : List UInt8) (sv : Value) (hx : w.ownsRow 0 220 2 dv d.length xs) (hd : DsRep w d xs gs) (hok : okDs d) (hfs : ∀ b ∈ ownL dv ++ gs, b < B)
    (hB : B ≤ w.heap.size) (ho : w.ownsRow B 5 1 sv bs.length (byteCells bs)) (hlen : bs.length + (numB d.length ++ encDs d).length ≤ 1099511627776) :
    Calls Try.prog 193 #[sv, dv] w (BytesEnd B (bs ++ (numB d.length ++ encDs d)) w) := by
  obtain ⟨a, cap, rfl, hcap, hmax, -, hform⟩ := ownsRow_form hx
  unfold maxLen at hmax
  have hdat := Lib.hid (DsRep.at d xs gs hd)
  have hformH := Lib.hid hform
  have ihH := Lib.hid ih
  have hokH := Lib.hid (okDs_mem d hok)
  have hfsH := Lib.hid hfs
  rw [List.length_append] at hlen
  have hwi : IntKind.u64.wrap (d.length : Int) = (d.length : Int) := by rw [IntKind.wrap_u64]; omega
  have hone0 : sv.oneCell' = true := by obtain ⟨_, _, rfl, -⟩ := ownsRow_form ho; rfl
  have hnum := Lib.hid (number_said d.length (by omega) B bs sv w hB ho (by omega))
  clear hx hd hform ih hok hfs ho
  go_enter Try.func193, Try.ntmps193
  go_wp2_with fail
  refine hnum.out.mono ?_
  rintro e w1 ⟨sv1, rfl, hown1, hb1⟩
  have hone1 : sv1.oneCell' = true := by obtain ⟨_, _, rfl, -⟩ := ownsRow_form hown1; rfl
  have hown1H := Lib.hid hown1
  clear hown1
  go_wp2_with fail
  go_loopw [0, 14] (fun cur i wr => ∃ (k : Nat) (bs' : List UInt8) (yv : Value), yv = cur ∧ k ≤ d.length ∧ i = .int .i64 k ∧ bs' ++ encDs (d.drop k) = bs ++ (numB d.length ++ encDs d) ∧ wr.ownsRow B 5 1 yv bs'.length (byteCells bs') ∧ Below B w wr) (fun _ i _ => d.length - (intOf i).toNat)
  case atStart => exact ⟨0, bs ++ numB d.length, _, rfl, Nat.zero_le _, rfl, by rw [List.drop_zero, List.append_assoc], hown1H.out, hb1⟩
  case round =>
    obtain ⟨k, bs', yv, hyv, hk, rfl, heq, hown, hb⟩ := hrel
    subst hyv
    have heqH := Lib.hid heq
    have hll : bs'.length + (encDs (d.drop k)).length = bs.length + ((numB d.length).length + (encDs d).length) := by rw [← List.length_append, heq, List.length_append, List.length_append]
    have hone : yv.oneCell' = true := by obtain ⟨_, _, rfl, -⟩ := ownsRow_form hown; rfl
    clear heq
    by_cases hlt : k < d.length
    · rcases hformH.out with ⟨-, h0', -⟩ | ⟨g, rfl, -, hg, hog, hcells⟩
      · omega
      obtain ⟨⟨s, v⟩, hp⟩ : ∃ p, d[k]? = some p := ⟨_, List.getElem?_eq_getElem hlt⟩
      obtain ⟨x, f, e1, e2, e3, e4, -⟩ := hdat.out k _ hp
      have hx1 := e3.one
      have hgB : g < B := hfsH.out g (List.mem_append_left _ (by rw [hog]; exact List.mem_singleton.2 rfl))
      have hc0 := (hb.cell (p := ⟨g, k * 2, none⟩) hgB).trans ((hcells (k * 2) (by omega)).trans e1)
      have hc1 := (hb.cell (p := ⟨g, k * 2 + 1, none⟩) hgB).trans ((hcells (k * 2 + 1) (by omega)).trans e2)
      have hfB := Lib.hid (fun b (hm : b ∈ f) => hfsH.out b (List.mem_append_right _ (e4 b hm)))
      have hrep := Lib.hid e3
      have hih := Lib.hid (fun W (h : VRep W v x f) (hBW : B ≤ W.heap.size) sv' l h1 h2 => ihH.out v (List.mem_map.2 ⟨_, List.mem_of_getElem? hp, rfl⟩) x f W B l sv' h (hokH.out _ (List.mem_of_getElem? hp)) hfB.out hBW h1 h2)
      have hsp := encDs_drop hp
      have hll2 : (encDs (d.drop k)).length = (textB s).length + (encV v).length + (encDs (d.drop (k + 1))).length := by rw [hsp, List.length_append, List.length_append]
      have hsplit := Lib.hid hsp
      have htg := textB_ge s
      have hsvl : ∀ b, yv.ownBlock = some b → b < wr.heap.size := fun b h => (ownsRow_lt hown b (ownL_some.2 h)).2
      have hownH := Lib.hid hown
      clear e1 e2 e3 e4 hp hcells hown hsp
      go_wp2_with fail
      generalize hW : wr.alloc (Obj.cells #[Value.string s, x] 220) = W0
      have hbW : Below B w W0 := hW ▸ hb.alloc (Nat.le_trans hB hb.size) _
      have hq0 : W0.cell? ⟨wr.heap.size, 0, none⟩ = some (.string s) := by rw [← hW]; simp [go_sem]
      have hq1 : W0.cell? ⟨wr.heap.size, 1, none⟩ = some x := by rw [← hW]; simp [go_sem]
      have hWs : wr.heap.size < W0.heap.size := by rw [← hW]; simp
      have hownW : Hid (W0.drew.ownsRow B 5 1 yv bs'.length (byteCells bs')) := Lib.hid (ownsRow_keep hownH.out (fun b hb => by rw [← hW]; exact Below.heap_alloc _ _ _ (hsvl b (ownL_some.1 hb))))
      clear hW hownH
      refine wp_region_held_drew (S := (fun _ => True)) (by kernel_rfl) trivial (fun hHeld => ?_)
      refine wpAnyH_take (i := 0) (v := ?vz1) rfl (by kernel_rfl) (by kernel_rfl) (by kernel_rfl) (fun _ _ _ h => h) (.inl ⟨by rfl, ?hyz1⟩) (by assumption) ?restz1
      case hyz1 => (intro w hSw; (try dsimp only at hSw); go_simp; first | done | with_reducible rfl)
      (try simp only [Act.put, pu1, pu2, pu3, pu4, pu5, pu6])
      refine wpAnyH_take (i := 1) (v := ?vz2) rfl (by kernel_rfl) (by kernel_rfl) (by kernel_rfl) (fun _ _ _ h => h) (.inl ⟨by rfl, ?hyz2⟩) (by assumption) ?restz2
      case hyz2 => (intro w hSw; (try dsimp only at hSw); go_simp; first | done | with_reducible rfl)
      (try simp only [Act.put, pu1, pu2, pu3, pu4, pu5, pu6])
      refine wpAnyH_take (i := 4) (v := ?vz3) rfl (by kernel_rfl) (by kernel_rfl) (by kernel_rfl) (fun _ _ _ h => h) (.inl ⟨by rfl, ?hyz3⟩) (by assumption) ?restz3
      case hyz3 => (intro w hSw; (try dsimp only at hSw); go_simp; first | done | with_reducible rfl)
      (try simp only [Act.put, pu1, pu2, pu3, pu4, pu5, pu6])
      refine wpAnyH_ready (rs := [2, 5]) (by kernel_rfl) (by simp) ?_
      refine AllReadyH.cons rfl (fun K hK => ?_) (AllReadyH.cons rfl (fun K hK => ?_) AllReadyH.nil)
      · rw [if_pos (by rfl)]
        go_simp
        refine hK.out _ _ ?_ (fun hHeld2 => ?_)
        · exact trivial
        clear hK K
        (try simp only [Act.put, pu1, pu2, pu3, pu4, pu5, pu6])
        refine wpAnyH_ready (rs := [3, 5]) (by kernel_rfl) (by simp) ?_
        refine AllReadyH.cons rfl (fun K hK => ?_) (AllReadyH.cons rfl (fun K hK => ?_) AllReadyH.nil)
        · rw [if_pos (by rfl)]
          go_simp
          refine (text_full s B bs' yv W0.drew (Nat.le_trans hB hbW.size) hownW.out (by omega)).mono ?_
          rintro e w3 ⟨⟨sv3, rfl, hown3, hb3⟩, hbut3⟩
          have hone3 : sv3.oneCell' = true := by obtain ⟨_, _, rfl, -⟩ := ownsRow_form hown3; rfl
          have hown3H := Lib.hid hown3
          have hbw3 : Below B w w3 := hbW.drew.trans hb3
          clear hown3
          refine hK.out _ _ ?_ (fun hHeld2 => ?_)
          · exact trivial
          clear hK K
          (try simp only [Act.put, pu1, pu2, pu3, pu4, pu5, pu6])
          refine wpAnyH_ready (rs := [5]) (by kernel_rfl) (by simp) ?_
          refine AllReadyH.cons rfl (fun K hK => ?_) AllReadyH.nil
          have hq3 := hbut3.cell (p := ⟨wr.heap.size, 1, none⟩) hWs (fun e => absurd (hsvl _ e) (Nat.lt_irrefl _))
          rw [show W0.drew.cell? ⟨wr.heap.size, 1, none⟩ = some x from hq1] at hq3
          rw [if_pos (by rfl)]
          go_simp
          refine hK.out _ _ ?_ (fun hHeld2 => ?_)
          · exact trivial
          clear hK K
          (try simp only [Act.put, pu1, pu2, pu3, pu4, pu5, pu6])
          refine wpAnyH_ready (rs := [6]) (by kernel_rfl) (by simp) ?_
          refine AllReadyH.cons rfl (fun K hK => ?_) AllReadyH.nil
          rw [if_pos (by rfl)]
          go_simp
          refine (hih.out w3 (VRep.keep _ _ _ hrep.out (fun b hb => hbw3.block b (hfB.out b hb))) (Nat.le_trans hB hbw3.size) sv3 _ hown3H.out (by rw [List.length_append]; omega)).mono ?_
          rintro e w4 ⟨sv4, rfl, hown4, hb4⟩
          have hone4 : sv4.oneCell' = true := by obtain ⟨_, _, rfl, -⟩ := ownsRow_form hown4; rfl
          rw [List.append_assoc] at hown4
          have hown4H := Lib.hid hown4
          clear hown4
          refine hK.out _ _ ?_ (fun hHeld2 => ?_)
          · exact trivial
          clear hK K
          (try simp only [Act.put, pu1, pu2, pu3, pu4, pu5, pu6])
          refine wpAnyH_take (i := 7) (v := ?vz4) rfl (by kernel_rfl) (by kernel_rfl) (by kernel_rfl) (fun _ _ _ h => h) (.inl ⟨by rfl, ?hyz4⟩) (by assumption) ?restz4
          case hyz4 => (intro w hSw; (try dsimp only at hSw); go_simp; first | done | with_reducible rfl)
          (try simp only [Act.put, pu1, pu2, pu3, pu4, pu5, pu6])
          refine wpAnyH_done (by kernel_rfl) ?_ _
          go_wp2_with fail
          go_roundw
          case rel => exact ⟨k + 1, _, _, rfl, by omega, by go_num, by rw [List.append_assoc]; exact (congrArg (bs' ++ ·) hsplit.out.symm).trans heqH.out, hown4H.out, hbw3.trans hb4⟩
          case measure => simp [intOf]; omega
        · rw [if_pos (by rfl)]
          go_simp
          refine hK.out _ _ ?_ (fun hHeld2 => ?_)
          · exact trivial
          clear hK K
          (try simp only [Act.put, pu1, pu2, pu3, pu4, pu5, pu6])
          refine wpAnyH_ready (rs := [3]) (by kernel_rfl) (by simp) ?_
          refine AllReadyH.cons rfl (fun K hK => ?_) AllReadyH.nil
          rw [if_pos (by rfl)]
          go_simp
          refine (text_full s B bs' yv W0.drew (Nat.le_trans hB hbW.size) hownW.out (by omega)).mono ?_
          rintro e w3 ⟨⟨sv3, rfl, hown3, hb3⟩, hbut3⟩
          have hone3 : sv3.oneCell' = true := by obtain ⟨_, _, rfl, -⟩ := ownsRow_form hown3; rfl
          have hown3H := Lib.hid hown3
          have hbw3 : Below B w w3 := hbW.drew.trans hb3
          clear hown3
          refine hK.out _ _ ?_ (fun hHeld2 => ?_)
          · exact trivial
          clear hK K
          (try simp only [Act.put, pu1, pu2, pu3, pu4, pu5, pu6])
          refine wpAnyH_ready (rs := [6]) (by kernel_rfl) (by simp) ?_
          refine AllReadyH.cons rfl (fun K hK => ?_) AllReadyH.nil
          rw [if_pos (by rfl)]
          go_simp
          refine (hih.out w3 (VRep.keep _ _ _ hrep.out (fun b hb => hbw3.block b (hfB.out b hb))) (Nat.le_trans hB hbw3.size) sv3 _ hown3H.out (by rw [List.length_append]; omega)).mono ?_
          rintro e w4 ⟨sv4, rfl, hown4, hb4⟩
          have hone4 : sv4.oneCell' = true := by obtain ⟨_, _, rfl, -⟩ := ownsRow_form hown4; rfl
          rw [List.append_assoc] at hown4
          have hown4H := Lib.hid hown4
          clear hown4
          refine hK.out _ _ ?_ (fun hHeld2 => ?_)
          · exact trivial
          clear hK K
          (try simp only [Act.put, pu1, pu2, pu3, pu4, pu5, pu6])
          refine wpAnyH_take (i := 7) (v := ?vz5) rfl (by kernel_rfl) (by kernel_rfl) (by kernel_rfl) (fun _ _ _ h => h) (.inl ⟨by rfl, ?hyz5⟩) (by assumption) ?restz5
          case hyz5 => (intro w hSw; (try dsimp only at hSw); go_simp; first | done | with_reducible rfl)
          (try simp only [Act.put, pu1, pu2, pu3, pu4, pu5, pu6])
          refine wpAnyH_done (by kernel_rfl) ?_ _
          go_wp2_with fail
          go_roundw
          case rel => exact ⟨k + 1, _, _, rfl, by omega, by go_num, by rw [List.append_assoc]; exact (congrArg (bs' ++ ·) hsplit.out.symm).trans heqH.out, hown4H.out, hbw3.trans hb4⟩
          case measure => simp [intOf]; omega
      · rw [if_pos (by rfl)]
        go_simp
        refine hK.out _ _ ?_ (fun hHeld2 => ?_)
        · exact trivial
        clear hK K
        (try simp only [Act.put, pu1, pu2, pu3, pu4, pu5, pu6])
        refine wpAnyH_ready (rs := [2]) (by kernel_rfl) (by simp) ?_
        refine AllReadyH.cons rfl (fun K hK => ?_) AllReadyH.nil
        rw [if_pos (by rfl)]
        go_simp
        refine hK.out _ _ ?_ (fun hHeld2 => ?_)
        · exact trivial
        clear hK K
        (try simp only [Act.put, pu1, pu2, pu3, pu4, pu5, pu6])
        refine wpAnyH_ready (rs := [3]) (by kernel_rfl) (by simp) ?_
        refine AllReadyH.cons rfl (fun K hK => ?_) AllReadyH.nil
        rw [if_pos (by rfl)]
        go_simp
        refine (text_full s B bs' yv W0.drew (Nat.le_trans hB hbW.size) hownW.out (by omega)).mono ?_
        rintro e w3 ⟨⟨sv3, rfl, hown3, hb3⟩, hbut3⟩
        have hone3 : sv3.oneCell' = true := by obtain ⟨_, _, rfl, -⟩ := ownsRow_form hown3; rfl
        have hown3H := Lib.hid hown3
        have hbw3 : Below B w w3 := hbW.drew.trans hb3
        clear hown3
        refine hK.out _ _ ?_ (fun hHeld2 => ?_)
        · exact trivial
        clear hK K
        (try simp only [Act.put, pu1, pu2, pu3, pu4, pu5, pu6])
        refine wpAnyH_ready (rs := [6]) (by kernel_rfl) (by simp) ?_
        refine AllReadyH.cons rfl (fun K hK => ?_) AllReadyH.nil
        rw [if_pos (by rfl)]
        go_simp
        refine (hih.out w3 (VRep.keep _ _ _ hrep.out (fun b hb => hbw3.block b (hfB.out b hb))) (Nat.le_trans hB hbw3.size) sv3 _ hown3H.out (by rw [List.length_append]; omega)).mono ?_
        rintro e w4 ⟨sv4, rfl, hown4, hb4⟩
        have hone4 : sv4.oneCell' = true := by obtain ⟨_, _, rfl, -⟩ := ownsRow_form hown4; rfl
        rw [List.append_assoc] at hown4
        have hown4H := Lib.hid hown4
        clear hown4
        refine hK.out _ _ ?_ (fun hHeld2 => ?_)
        · exact trivial
        clear hK K
        (try simp only [Act.put, pu1, pu2, pu3, pu4, pu5, pu6])
        refine wpAnyH_take (i := 7) (v := ?vz6) rfl (by kernel_rfl) (by kernel_rfl) (by kernel_rfl) (fun _ _ _ h => h) (.inl ⟨by rfl, ?hyz6⟩) (by assumption) ?restz6
        case hyz6 => (intro w hSw; (try dsimp only at hSw); go_simp; first | done | with_reducible rfl)
        (try simp only [Act.put, pu1, pu2, pu3, pu4, pu5, pu6])
        refine wpAnyH_done (by kernel_rfl) ?_ _
        go_wp2_with fail
        go_roundw
        case rel => exact ⟨k + 1, _, _, rfl, by omega, by go_num, by rw [List.append_assoc]; exact (congrArg (bs' ++ ·) hsplit.out.symm).trans heqH.out, hown4H.out, hbw3.trans hb4⟩
        case measure => simp [intOf]; omega
    · obtain rfl : k = d.length := by omega
      have hfin := heqH.out
      rw [List.drop_length, encDs, List.append_nil] at hfin
      have hownH := Lib.hid hown
      have hfinH := Lib.hid hfin
      clear hfin hown
      go_wp2_with fail
      go_ret
      rw [← hfinH.out]
      exact ⟨_, rfl, hownH.out, hb⟩

set_option maxRecDepth 100000 in
set_option maxHeartbeats 1600000 in
theorem put_list (l : List Val) (ih : ∀ u ∈ l, PutSaid u) : PutSaid (.list l) := by
  intro x fs w B bs sv h hv hfs hB ho hlen
  have hk := Lib.hid (kind_said h)
  simp only [VRep] at h
  obtain ⟨xv, xs, gs, rfl, hx, hd, rfl⟩ := h
  obtain ⟨i0, hi0, hz0, hz1, hz2⟩ := info_parts Try.infoU8
  rw [encV] at hlen ⊢
  simp only [List.length_cons] at hlen
  have hone1 : sv.oneCell' = true := by obtain ⟨_, _, rfl, -⟩ := ownsRow_form ho; rfl
  obtain ⟨a, cap, rfl, hcap, hmax, -, hform⟩ := ownsRow_form hx
  unfold maxLen at hmax
  have hdat := Lib.hid (VsRep.at l xs gs hd)
  have hformH := Lib.hid hform
  have ihH := Lib.hid ih
  have hokH := Lib.hid (okVs_mem l hv.2)
  have hfsH := Lib.hid hfs
  rw [List.length_append] at hlen
  have hwi : IntKind.u64.wrap (l.length : Int) = (l.length : Int) := by rw [IntKind.wrap_u64]; omega
  clear hx hd hform ih hv hfs
  go_enter Try.func149, Try.ntmps149
  go_wp2_with fail
  refine hk.out.mono ?_
  rintro e w1 ⟨rfl, rfl⟩
  go_wp2_with (first | (at_builtin; refine wpList_append_lies _ rfl _ _ 26 rfl B 5 i0 _ 1 1 Try.underlying26 hi0 hz0 hz1 hz2 rfl (by omega) _ bs.length (byteCells bs) rfl (ho.alloc _) ⟨w.heap.size, 0, none⟩ 1 1 [.int .u8 8] rfl rfl (World.news_of_block (cs := #[.int .u8 8]) (t := 5) (fr := (0, 0)) (heap_alloc_new w _)) (one_single rfl) (by omega) (by unfold maxLen; omega) (by omega) (by simp; omega) _ rfl ?_; intro g2 cap2 w2 hown2 hgr2 hat2 hlt2; have hp1 := put_row (Below.refl B w) hB ho (m := 8) (by decide) hgr2 hown2; have hr1 := hp1.1; have hb1 := hp1.2; have hsz1 := hb1.size; have hl1 : (bs ++ [UInt8.ofNat 8]).length = bs.length + 1 := List.length_append; clear hgr2 hat2 hlt2 hown2 hp1))
  have hnum := Lib.hid (number_said l.length (by omega) B _ _ w2 (by omega) hr1 (by omega))
  clear hr1
  refine hnum.out.mono ?_
  rintro e w3 ⟨sv3, rfl, hown3, hb3⟩
  have hone3 : sv3.oneCell' = true := by obtain ⟨_, _, rfl, -⟩ := ownsRow_form hown3; rfl
  have hown3H := Lib.hid hown3
  clear hown3
  go_wp2_with fail
  go_loopw [0, 90] (fun cur i wr => ∃ (k : Nat) (bs' : List UInt8) (yv : Value), yv = cur ∧ k ≤ l.length ∧ i = .int .i64 k ∧ bs' ++ encVs (l.drop k) = bs ++ 8 :: (numB l.length ++ encVs l) ∧ wr.ownsRow B 5 1 yv bs'.length (byteCells bs') ∧ Below B w wr) (fun _ i _ => l.length - (intOf i).toNat)
  case atStart => exact ⟨0, _, _, rfl, Nat.zero_le _, rfl, by rw [List.drop_zero]; simp, hown3H.out, hb1.trans hb3⟩
  case round =>
    obtain ⟨k, bs', yv, hyv, hk, rfl, heq, hown, hb⟩ := hrel
    subst hyv
    have heqH := Lib.hid heq
    have hll : bs'.length + (encVs (l.drop k)).length = bs.length + ((numB l.length).length + (encVs l).length + 1) := by rw [← List.length_append, heq, List.length_append, List.length_cons, List.length_append]
    have hone : yv.oneCell' = true := by obtain ⟨_, _, rfl, -⟩ := ownsRow_form hown; rfl
    clear heq
    by_cases hlt : k < l.length
    · rcases hformH.out with ⟨-, h0', -⟩ | ⟨g, rfl, -, hg, hog, hcells⟩
      · omega
      obtain ⟨v, hp⟩ : ∃ p, l[k]? = some p := ⟨_, List.getElem?_eq_getElem hlt⟩
      obtain ⟨x, f, e1, e3, e4⟩ := hdat.out k _ hp
      have hx1 := e3.one
      have hgB : g < B := hfsH.out g (List.mem_append_left _ (by rw [hog]; exact List.mem_singleton.2 rfl))
      have hc0 := (hb.cell (p := ⟨g, k, none⟩) hgB).trans ((hcells k (by omega)).trans e1)
      have hfB := Lib.hid (fun b (hm : b ∈ f) => hfsH.out b (List.mem_append_right _ (e4 b hm)))
      have hsp := encVs_drop hp
      have hll2 : (encVs (l.drop k)).length = (encV v).length + (encVs (l.drop (k + 1))).length := by rw [hsp, List.length_append]
      have hih := Lib.hid (ihH.out v (List.mem_of_getElem? hp) x f wr B bs' yv (VRep.keep _ _ _ e3 (fun b hb' => hb.block b (hfB.out b hb'))) (hokH.out _ (List.mem_of_getElem? hp)) hfB.out (Nat.le_trans hB hb.size) hown (by omega))
      have hsplit := Lib.hid hsp
      clear e1 e3 e4 hp hcells hown hsp
      go_wp2_with fail
      refine hih.out.mono ?_
      rintro e w4 ⟨sv4, rfl, hown4, hb4⟩
      have hone4 : sv4.oneCell' = true := by obtain ⟨_, _, rfl, -⟩ := ownsRow_form hown4; rfl
      have hown4H := Lib.hid hown4
      clear hown4
      go_wp2_with fail
      go_roundw
      case rel => exact ⟨k + 1, _, _, rfl, by omega, by go_num, by rw [List.append_assoc]; exact (congrArg (bs' ++ ·) hsplit.out.symm).trans heqH.out, hown4H.out, hb.trans hb4⟩
      case measure => simp [intOf]; omega
    · obtain rfl : k = l.length := by omega
      have hfin := heqH.out
      rw [List.drop_length, encVs, List.append_nil] at hfin
      have hownH := Lib.hid hown
      have hfinH := Lib.hid hfin
      clear hfin hown
      go_wp2_with fail
      go_ret
      rw [← hfinH.out]
      exact ⟨_, rfl, hownH.out, hb⟩

set_option maxRecDepth 100000 in
set_option maxHeartbeats 1600000 in
theorem put_dict (d : List (ByteArray × Val)) (ih : ∀ u ∈ d.map (·.2), PutSaid u) : PutSaid (.dict d) := by
  intro x fs w B bs sv h hv hfs hB ho hlen
  have hk := Lib.hid (kind_said h)
  simp only [VRep] at h
  obtain ⟨xv, xs, gs, rfl, hx, hd, rfl⟩ := h
  obtain ⟨i0, hi0, hz0, hz1, hz2⟩ := info_parts Try.infoU8
  rw [encV] at hlen ⊢
  simp only [List.length_cons] at hlen
  have hone1 : sv.oneCell' = true := by obtain ⟨_, _, rfl, -⟩ := ownsRow_form ho; rfl
  have hfp := Lib.hid (fun W sv' (hbW : Below B w W) h1 => fields_put d ih xv xs gs W B (bs ++ [UInt8.ofNat 9]) sv' (ownsRow_keep hx (fun b hb => hbW.block b (hfs b (List.mem_append_left _ hb)))) (DsRep.keep _ _ _ hd (fun b hb => hbW.block b (hfs b (List.mem_append_right _ hb)))) hv.2 hfs (Nat.le_trans hB hbW.size) h1 (by rw [List.length_append]; simp only [List.length_cons, List.length_nil]; omega))
  obtain ⟨a, cap, rfl, -⟩ := ownsRow_form hx
  clear hx hd ih hv hfs
  go_enter Try.func149, Try.ntmps149
  go_wp2_with fail
  refine hk.out.mono ?_
  rintro e w1 ⟨rfl, rfl⟩
  go_wp2_with (first | (at_builtin; refine wpList_append_lies _ rfl _ _ 26 rfl B 5 i0 _ 1 1 Try.underlying26 hi0 hz0 hz1 hz2 rfl (by omega) _ bs.length (byteCells bs) rfl (ho.alloc _) ⟨w.heap.size, 0, none⟩ 1 1 [.int .u8 9] rfl rfl (World.news_of_block (cs := #[.int .u8 9]) (t := 5) (fr := (0, 0)) (heap_alloc_new w _)) (one_single rfl) (by omega) (by unfold maxLen; omega) (by omega) (by simp; omega) _ rfl ?_; intro g2 cap2 w2 hown2 hgr2 hat2 hlt2; have hp1 := put_row (Below.refl B w) hB ho (m := 9) (by decide) hgr2 hown2; have hr1 := hp1.1; have hb1 := hp1.2; have hsz1 := hb1.size; have hl1 : (bs ++ [UInt8.ofNat 9]).length = bs.length + 1 := List.length_append; clear hgr2 hat2 hlt2 hown2 hp1))
  refine (hfp.out _ _ hb1 hr1).mono ?_
  rintro e w3 ⟨sv3, rfl, hown3, hb3⟩
  have hone3 : sv3.oneCell' = true := by obtain ⟨_, _, rfl, -⟩ := ownsRow_form hown3; rfl
  rw [List.append_assoc] at hown3
  clear hr1
  go_wp2
  go_ret
  exact ⟨_, rfl, hown3, hb1.trans hb3⟩

set_option maxRecDepth 100000 in
set_option maxHeartbeats 1600000 in
theorem put_record (c : ByteArray) (n : Int) (d : List (ByteArray × Val)) (ih : ∀ u ∈ d.map (·.2), PutSaid u) : PutSaid (.record c n d) := by
  intro x fs w B bs sv h hv hfs hB ho hlen
  have hk := Lib.hid (kind_said h)
  simp only [VRep] at h
  obtain ⟨rb, xv, xs, gs, rfl, hr, -, -, hx, hd, rfl⟩ := h
  obtain ⟨i0, hi0, hz0, hz1, hz2⟩ := info_parts Try.infoU8
  rw [encV] at hlen ⊢
  simp only [List.length_cons] at hlen
  have hone1 : sv.oneCell' = true := by obtain ⟨_, _, rfl, -⟩ := ownsRow_form ho; rfl
  obtain ⟨r0, r1, r2, hrl, -⟩ := recCells hr
  have hn1 : 1 ≤ n ∧ n ≤ 1000 := by
    have h1 : (if nameOk c = false then (8 : Int) else if n < 1 ∨ 1000 < n then 1 else fieldsF d) = 0 := hv.1
    split at h1
    · omega
    · split at h1 <;> omega
  obtain ⟨m, hm⟩ : ∃ m : Nat, n = (m : Int) := ⟨n.toNat, by omega⟩
  subst hm
  rw [Int.toNat_natCast] at hlen ⊢
  rw [List.length_append, List.length_append] at hlen
  have hwm : IntKind.u64.wrap (m : Int) = (m : Int) := by rw [IntKind.wrap_u64]; omega
  have htg := textB_ge c
  have hfp := Lib.hid (fun W sv' l (hbW : Below B w W) h1 h2 => fields_put d ih xv xs gs W B l sv' (ownsRow_keep hx (fun b hb => hbW.block b (hfs b (List.mem_cons_of_mem _ (List.mem_append_left _ hb))))) (DsRep.keep _ _ _ hd (fun b hb => hbW.block b (hfs b (List.mem_cons_of_mem _ (List.mem_append_right _ hb))))) hv.2 (fun b hb => hfs b (List.mem_cons_of_mem _ hb)) (Nat.le_trans hB hbW.size) h1 h2)
  obtain ⟨a, cap, rfl, -⟩ := ownsRow_form hx
  have hrB : rb < B := hfs rb (List.mem_cons_self ..)
  have hSk : ∀ w', Below B w w' → w'.cell? ⟨rb, 0, none⟩ = some (.string c) ∧ w'.cell? ⟨rb, 1, none⟩ = some (.int .i64 m) ∧ w'.cell? ⟨rb, 2, none⟩ = some (.slice a d.length cap) := fun w' hb' => ⟨(hb'.cell (p := ⟨rb, 0, none⟩) hrB).trans r0, (hb'.cell (p := ⟨rb, 1, none⟩) hrB).trans r1, (hb'.cell (p := ⟨rb, 2, none⟩) hrB).trans r2⟩
  clear hx hd ih hv hfs hr r0 r1 r2
  go_enter Try.func149, Try.ntmps149
  go_wp2_with fail
  refine hk.out.mono ?_
  rintro e w1 ⟨rfl, rfl⟩
  go_wp2_with (first | (at_builtin; refine wpList_append_lies _ rfl _ _ 26 rfl B 5 i0 _ 1 1 Try.underlying26 hi0 hz0 hz1 hz2 rfl (by omega) _ bs.length (byteCells bs) rfl (ho.alloc _) ⟨w.heap.size, 0, none⟩ 1 1 [.int .u8 10] rfl rfl (World.news_of_block (cs := #[.int .u8 10]) (t := 5) (fr := (0, 0)) (heap_alloc_new w _)) (one_single rfl) (by omega) (by unfold maxLen; omega) (by omega) (by simp; omega) _ rfl ?_; intro g2 cap2 w2 hown2 hgr2 hat2 hlt2; have hp1 := put_row (Below.refl B w) hB ho (m := 10) (by decide) hgr2 hown2; have hr1 := hp1.1; have hb1 := hp1.2; have hsz1 := hb1.size; have hl1 : (bs ++ [UInt8.ofNat 10]).length = bs.length + 1 := List.length_append; clear hgr2 hat2 hlt2 hown2 hp1))
  have hr1H : Hid (w2.drew.ownsRow B 5 1 (.slice (some ⟨g2, 0, none⟩) (bs.length + 1) cap2) (bs ++ [UInt8.ofNat 10]).length (byteCells (bs ++ [UInt8.ofNat 10]))) := Lib.hid (ownsRow_keep hr1 (fun b hb => rfl))
  clear hr1
  refine wp_region_held_drew (S := (fun w' => w'.cell? ⟨rb, 0, none⟩ = some (.string c) ∧ w'.cell? ⟨rb, 1, none⟩ = some (.int .i64 m) ∧ w'.cell? ⟨rb, 2, none⟩ = some (.slice a d.length cap))) (by kernel_rfl) ?_ (fun hHeld => ?_)
  · exact hSk _ hb1.drew
  refine wpAnyH_take (i := 0) (v := ?vr0) rfl (by kernel_rfl) (by kernel_rfl) (by kernel_rfl) (fun _ _ _ h => h) (.inl ⟨by rfl, ?hyr0⟩) (by assumption) ?restr0
  case hyr0 => (intro w hSw; (try dsimp only at hSw); go_simp; first | done | with_reducible rfl)
  (try simp only [Act.put, pu1, pu2, pu3, pu4, pu5, pu6])
  refine wpAnyH_take (i := 1) (v := ?vr1) rfl (by kernel_rfl) (by kernel_rfl) (by kernel_rfl) (fun _ _ _ h => h) (.inl ⟨by rfl, ?hyr1⟩) (by assumption) ?restr1
  case hyr1 => (intro w hSw; (try dsimp only at hSw); go_simp; first | done | with_reducible rfl)
  (try simp only [Act.put, pu1, pu2, pu3, pu4, pu5, pu6])
  refine wpAnyH_take (i := 2) (v := ?vr2) rfl (by kernel_rfl) (by kernel_rfl) (by kernel_rfl) (fun _ _ _ h => h) (.inl ⟨by rfl, ?hyr2⟩) (by assumption) ?restr2
  case hyr2 => (intro w hSw; (try dsimp only at hSw); go_simp; first | done | with_reducible rfl)
  (try simp only [Act.put, pu1, pu2, pu3, pu4, pu5, pu6])
  refine wpAnyH_take (i := 3) (v := ?vr3) rfl (by kernel_rfl) (by kernel_rfl) (by kernel_rfl) (fun _ _ _ h => h) (.inl ⟨by rfl, ?hyr3⟩) (by assumption) ?restr3
  case hyr3 => (intro w hSw; (try dsimp only at hSw); go_simp; first | done | with_reducible rfl)
  (try simp only [Act.put, pu1, pu2, pu3, pu4, pu5, pu6])
  refine wpAnyH_take (i := 4) (v := ?vr4) rfl (by kernel_rfl) (by kernel_rfl) (by kernel_rfl) (fun _ _ _ h => h) (.inl ⟨by rfl, ?hyr4⟩) (by assumption) ?restr4
  case hyr4 => (intro w hSw; (try dsimp only at hSw); go_simp; first | done | with_reducible rfl)
  (try simp only [Act.put, pu1, pu2, pu3, pu4, pu5, pu6])
  refine wpAnyH_take (i := 6) (v := ?vr6) rfl (by kernel_rfl) (by kernel_rfl) (by kernel_rfl) (fun _ _ _ h => h) (.inl ⟨by rfl, ?hyr6⟩) (by assumption) ?restr6
  case hyr6 => (intro w hSw; (try dsimp only at hSw); go_simp; first | done | with_reducible rfl)
  (try simp only [Act.put, pu1, pu2, pu3, pu4, pu5, pu6])
  refine wpAnyH_take (i := 7) (v := ?vr7) rfl (by kernel_rfl) (by kernel_rfl) (by kernel_rfl) (fun _ _ _ h => h) (.inl ⟨by rfl, ?hyr7⟩) (by assumption) ?restr7
  case hyr7 => (intro w hSw; (try dsimp only at hSw); go_simp; first | done | with_reducible rfl)
  (try simp only [Act.put, pu1, pu2, pu3, pu4, pu5, pu6])
  refine wpAnyH_take (i := 8) (v := ?vr8) rfl (by kernel_rfl) (by kernel_rfl) (by kernel_rfl) (fun _ _ _ h => h) (.inl ⟨by rfl, ?hyr8⟩) (by assumption) ?restr8
  case hyr8 => (intro w hSw; (try dsimp only at hSw); go_simp; first | done | with_reducible rfl)
  (try simp only [Act.put, pu1, pu2, pu3, pu4, pu5, pu6])
  refine wpAnyH_take (i := 9) (v := ?vr9) rfl (by kernel_rfl) (by kernel_rfl) (by kernel_rfl) (fun _ _ _ h => h) (.inl ⟨by rfl, ?hyr9⟩) (by assumption) ?restr9
  case hyr9 => (intro w hSw; (try dsimp only at hSw); go_simp; first | done | with_reducible rfl)
  (try simp only [Act.put, pu1, pu2, pu3, pu4, pu5, pu6])
  refine wpAnyH_take (i := 10) (v := (.int .u64 m)) rfl (by kernel_rfl) (by kernel_rfl) (by kernel_rfl) (fun _ _ _ h => h) (.inl ⟨by rfl, ?hyr10⟩) (by assumption) ?restr10
  case hyr10 => (intro w hSw; (try dsimp only at hSw); go_simp; first | done | exact congrArg _ hwm | (rw [hwm]))
  (try simp only [Act.put, pu1, pu2, pu3, pu4, pu5, pu6])
  refine wpAnyH_take (i := 12) (v := ?vr12) rfl (by kernel_rfl) (by kernel_rfl) (by kernel_rfl) (fun _ _ _ h => h) (.inl ⟨by rfl, ?hyr12⟩) (by assumption) ?restr12
  case hyr12 => (intro w hSw; (try dsimp only at hSw); go_simp; first | done | with_reducible rfl)
  (try simp only [Act.put, pu1, pu2, pu3, pu4, pu5, pu6])
  refine wpAnyH_take (i := 13) (v := ?vr13) rfl (by kernel_rfl) (by kernel_rfl) (by kernel_rfl) (fun _ _ _ h => h) (.inl ⟨by rfl, ?hyr13⟩) (by assumption) ?restr13
  case hyr13 => (intro w hSw; (try dsimp only at hSw); go_simp; first | done | with_reducible rfl)
  (try simp only [Act.put, pu1, pu2, pu3, pu4, pu5, pu6])
  refine wpAnyH_take (i := 14) (v := ?vr14) rfl (by kernel_rfl) (by kernel_rfl) (by kernel_rfl) (fun _ _ _ h => h) (.inl ⟨by rfl, ?hyr14⟩) (by assumption) ?restr14
  case hyr14 => (intro w hSw; (try dsimp only at hSw); go_simp; first | done | with_reducible rfl)
  (try simp only [Act.put, pu1, pu2, pu3, pu4, pu5, pu6])
  refine wpAnyH_take (i := 15) (v := ?vr15) rfl (by kernel_rfl) (by kernel_rfl) (by kernel_rfl) (fun _ _ _ h => h) (.inl ⟨by rfl, ?hyr15⟩) (by assumption) ?restr15
  case hyr15 => (intro w hSw; (try dsimp only at hSw); go_simp; first | done | with_reducible rfl)
  (try simp only [Act.put, pu1, pu2, pu3, pu4, pu5, pu6])
  refine wpAnyH_ready (rs := [5]) (by kernel_rfl) (by simp) ?_
  refine AllReadyH.cons rfl (fun K hK => ?_) AllReadyH.nil
  rw [if_pos (by rfl)]
  go_simp
  refine (text_said c B _ _ w2.drew (Nat.le_trans hB hb1.size) hr1H.out (by omega)).mono ?_
  rintro e w3 ⟨sv3, rfl, hown3, hb3⟩
  have hbw3 : Below B w w3 := hb1.drew.trans hb3
  have hone3 : sv3.oneCell' = true := by obtain ⟨_, _, rfl, -⟩ := ownsRow_form hown3; rfl
  have hown3H := Lib.hid hown3
  clear hown3
  refine hK.out _ _ ?_ (fun hHeld2 => ?_)
  · exact hSk _ hbw3
  clear hK K
  (try simp only [Act.put, pu1, pu2, pu3, pu4, pu5, pu6])
  refine wpAnyH_ready (rs := [11]) (by kernel_rfl) (by simp) ?_
  refine AllReadyH.cons rfl (fun K hK => ?_) AllReadyH.nil
  rw [if_pos (by rfl)]
  go_simp
  refine (number_said m (by omega) B _ _ w3 (Nat.le_trans hB hbw3.size) hown3H.out (by rw [List.length_append]; omega)).mono ?_
  rintro e w4 ⟨sv4, rfl, hown4, hb4⟩
  have hbw4 : Below B w w4 := hbw3.trans hb4
  have hone4 : sv4.oneCell' = true := by obtain ⟨_, _, rfl, -⟩ := ownsRow_form hown4; rfl
  have hown4H := Lib.hid hown4
  clear hown4
  refine hK.out _ _ ?_ (fun hHeld2 => ?_)
  · exact hSk _ hbw4
  clear hK K
  (try simp only [Act.put, pu1, pu2, pu3, pu4, pu5, pu6])
  refine wpAnyH_ready (rs := [16]) (by kernel_rfl) (by simp) ?_
  refine AllReadyH.cons rfl (fun K hK => ?_) AllReadyH.nil
  rw [if_pos (by rfl)]
  go_simp
  refine (hfp.out w4 sv4 _ hbw4 hown4H.out (by rw [List.length_append, List.length_append]; omega)).mono ?_
  rintro e w5 ⟨sv5, rfl, hown5, hb5⟩
  have hbw5 : Below B w w5 := hbw4.trans hb5
  have hone5 : sv5.oneCell' = true := by obtain ⟨_, _, rfl, -⟩ := ownsRow_form hown5; rfl
  have hown5H := Lib.hid hown5
  clear hown5
  refine hK.out _ _ ?_ (fun hHeld2 => ?_)
  · exact hSk _ hbw5
  clear hK K
  (try simp only [Act.put, pu1, pu2, pu3, pu4, pu5, pu6])
  refine wpAnyH_take (i := 17) (v := ?vr17) rfl (by kernel_rfl) (by kernel_rfl) (by kernel_rfl) (fun _ _ _ h => h) (.inl ⟨by rfl, ?hyr17⟩) (by assumption) ?restr17
  case hyr17 => (intro w hSw; (try dsimp only at hSw); go_simp; first | done | with_reducible rfl)
  (try simp only [Act.put, pu1, pu2, pu3, pu4, pu5, pu6])
  refine wpAnyH_done (by kernel_rfl) ?_ _
  have hfin := hown5H.out
  rw [List.append_assoc, List.append_assoc, List.append_assoc] at hfin
  have hfinH := Lib.hid hfin
  clear hfin
  go_wp2_with fail
  go_ret
  exact ⟨_, rfl, hfinH.out, hbw5⟩
theorem put_any : ∀ v : Val, PutSaid v := val_ind fun v ih => by
  cases v
  case nil => exact put_nil
  case bool b => exact put_bool b
  case int n => exact put_int n
  case float b => exact put_float b
  case text s => exact put_text s
  case bytes l => exact put_bytes l
  case ref n => exact put_ref n
  case list l => exact put_list l ih
  case dict d => exact put_dict d ih
  case record c n d => exact put_record c n d ih
  case nothing => intro x fs w B bs sv h hv; exact hv.elim
  case alien u => intro x fs w B bs sv h hv; exact hv.elim
end Go.Proofs.Ytgmdbpplfjkjmaa
