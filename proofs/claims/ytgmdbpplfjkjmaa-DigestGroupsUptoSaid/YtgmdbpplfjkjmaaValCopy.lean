/- The walks of value.copied, value.copiedDict, value.Copy: a value of memory of its own. -/
import Derived.Test.YtgmdbpplfjkjmaaWords
import Derived.Test.YtgmdbpplfjkjmaaValPart
import Derived.Test.YtgmdbpplfjkjmaaList
import Derived.Test.YtgmdbpplfjkjmaaBuild
namespace Go.Proofs.Ytgmdbpplfjkjmaa
open Go.RowKit
set_option linter.unusedVariables false
set_option linter.unusedSimpArgs false

theorem ownsRow_mono {w : World} {B : Nat} {e : TypeId} {size : Nat} {sv : Value} {n : Nat} {xs : List Value} (h : w.ownsRow B e size sv n xs) : w.ownsRow 0 e size sv n xs := by
  obtain ⟨h1, h2⟩ := h
  exact ⟨h1, h2.imp id fun ⟨g, cap, cur, a, b, c⟩ => ⟨g, cap, cur, a, Nat.zero_le _, c⟩⟩
theorem Try.infoField : (Try.prog.info? 220).map (fun i => (i.zero, i.size, i.bytes)) = some (some (.agg #[.string ⟨#[]⟩, .nilIface]), 2, 32) := by kernel_rfl
theorem Try.infoAny : (Try.prog.info? 20).map (fun i => (i.zero, i.size, i.bytes)) = some (some .nilIface, 1, 16) := by kernel_rfl
theorem Try.infoU8 : (Try.prog.info? 5).map (fun i => (i.zero, i.size, i.bytes)) = some (some (.int .u8 0), 1, 1) := by kernel_rfl

/-- A value v in memory of its own has been handed back; what there was is as it was. -/
def Fresh (v : Val) (w : World) (e : Ending) (w' : World) : Prop := ∃ y gs, e = .returned y ∧ VRep w' v y gs ∧ gs.Nodup ∧ (∀ b ∈ gs, w.heap.size ≤ b) ∧ Below w.heap.size w w'
/-- A dict likewise. -/
def FreshD (d : List (ByteArray × Val)) (w : World) (e : Ending) (w' : World) : Prop := ∃ sv xs gs, e = .returned sv ∧ w'.ownsRow w.heap.size 220 2 sv d.length xs ∧ DsRep w' d xs gs ∧ (ownL sv ++ gs).Nodup ∧ (∀ b ∈ gs, w.heap.size ≤ b) ∧ Below w.heap.size w w'
def CopySaid (v : Val) : Prop := ∀ (x : Value) (fs : List Nat) (w : World), VRep w v x fs → okV v → Calls Try.prog 187 #[x] w (Fresh v w)

set_option maxRecDepth 100000 in
set_option maxHeartbeats 1600000 in
theorem copiedDict_of (d : List (ByteArray × Val)) (ih : ∀ u ∈ d.map (·.2), CopySaid u) (sv : Value) (xs : List Value) (fs : List Nat) (w : World)
    (ho : w.ownsRow 0 220 2 sv d.length xs) (hd : DsRep w d xs fs) (hok : okDs d) (hlen : d.length ≤ 4096) :
    Calls Try.prog 239 #[sv] w (FreshD d w) := by
  obtain ⟨a, cap, rfl, hcap, hmax, -, hform⟩ := ownsRow_form ho
  unfold maxLen at hmax
  have hdat := Lib.hid (DsRep.at d xs fs hd)
  have hformH := Lib.hid hform
  have ihH := Lib.hid (fun u hu (h : okV u) x f w hv => ih u hu x f w hv h)
  have hokH := Lib.hid (okDs_mem d hok)
  obtain ⟨i0, hi0, hz0, hz1, hz2⟩ := info_parts Try.infoField
  have hl4 : ((d.length : Nat) : Int) ≤ 4096 := by omega
  clear ho hd hform ih hok
  go_enter Try.func239, Try.ntmps239
  go_wp2_with (at_make; refine wpList_make_own _ rfl _ _ _ rfl w.heap.size 220 i0 _ 2 Try.underlying130 hi0 hz0 hz1 .i64 .i64 _ d.length rfl rfl rfl (by rw [hz2]; omega) (by unfold maxLen; omega) (Nat.le_refl _) ?_; intro w0 hown0 hgr0)
  have hL0 := Listed.made hown0
  have hb0 : Below w.heap.size w w0 := (Below.refl _ _).grown hgr0 (Nat.le_refl _) (fun k hk => by cases hk)
  have hL0H := Lib.hid hL0
  clear hown0 hgr0 hL0
  go_loopw [3, 11] (fun sv i wr => ∃ (k : Nat) (ys : List Value) (gs : List Nat), k ≤ d.length ∧ i = .int .i64 k ∧ Listed w.heap.size wr 220 2 sv k ys gs ∧ DsRep wr (d.take k) ys gs ∧ Below w.heap.size w wr) (fun _ i _ => d.length - (intOf i).toNat)
  case atStart => exact ⟨0, [], [], Nat.zero_le _, rfl, hL0H.out, ⟨rfl, rfl⟩, hb0⟩
  case round =>
    obtain ⟨k, ys, gs, hk, rfl, hL, hds, hb⟩ := hrel
    have hdsH := Lib.hid hds
    clear hds
    by_cases hlt : k < d.length
    · rcases hformH.out with ⟨-, h0', -⟩ | ⟨g, rfl, -, hg, -, hcells⟩
      · omega
      · obtain ⟨⟨s, v⟩, hp⟩ : ∃ p, d[k]? = some p := ⟨_, List.getElem?_eq_getElem hlt⟩
        obtain ⟨x, f, e1, e2, e3, -, hsz⟩ := hdat.out k _ hp
        have hx1 := e3.one
        have hc0 := (hb.cell (p := ⟨g, k * 2, none⟩) hg).trans ((hcells (k * 2) (by omega)).trans e1)
        have hc1 := (hb.cell (p := ⟨g, k * 2 + 1, none⟩) hg).trans ((hcells (k * 2 + 1) (by omega)).trans e2)
        have hrep := Lib.hid (VRep.but e3 (below_but0 hb) (fun _ _ f => f))
        have hpm := List.mem_of_getElem? hp
        have hfl := Lib.hid (VRep.lt _ _ _ hrep.out)
        have hcopy := Lib.hid (fun W (h : VRep W v x f) => ihH.out v (List.mem_map.2 ⟨_, hpm, rfl⟩) (hokH.out _ hpm) x f W h)
        have hpH := Lib.hid hp
        have hszH := Lib.hid hsz
        have hBsv : some wr.heap.size ≠ Value.ownBlock u3 := fun e => by have := (ownsRow_lt hL.own wr.heap.size (ownL_some.2 e.symm)).2; omega
        have hgr : g < wr.heap.size := Nat.lt_of_lt_of_le hg hb.size
        clear e1 e2 e3 hcells hp hpm hsz
        go_wp2_with fail
        generalize hW : wr.alloc (Obj.cells #[Value.string s, x] 220) = W
        have hbW : Below wr.heap.size wr W := hW ▸ (Below.refl _ _).alloc (Nat.le_refl _) _
        have hbWd : Below wr.heap.size wr W.drew := hbW.drew
        have hB0 : W.cell? ⟨wr.heap.size, 0, none⟩ = some (.string s) := by rw [← hW]; simp [go_sem]
        have hB1x : W.cell? ⟨wr.heap.size, 1, none⟩ = some x := by rw [← hW]; simp [go_sem]
        have hBs : wr.heap.size < W.heap.size := by rw [← hW]; simp
        clear hW
        refine wp_region_held_drew (S := (fun w' => w'.cell? ⟨wr.heap.size, 0, none⟩ = some (.string s) ∧ w'.cell? ⟨wr.heap.size, 1, none⟩ = some x)) (by kernel_rfl) ?_ (fun hHeld => ?_)
        · exact ⟨hB0, hB1x⟩
        refine wpAnyH_take (i := 0) (v := ?vp0) rfl (by kernel_rfl) (by kernel_rfl) (by kernel_rfl) (fun _ _ _ h => h) (.inl ⟨by rfl, ?hyp0⟩) (by assumption) ?restp0
        case hyp0 => (intro w hSw; (try dsimp only at hSw); go_simp; first | done | with_reducible rfl)
        (try simp only [Act.put, List.setIfInBounds_toArray, List.set_cons_zero, List.set_cons_succ, List.getElem_toArray, List.getElem_cons_zero, List.getElem_cons_succ])
        refine wpAnyH_take (i := 1) (v := ?vp1) rfl (by kernel_rfl) (by kernel_rfl) (by kernel_rfl) (fun _ _ _ h => h) (.inl ⟨by rfl, ?hyp1⟩) (by assumption) ?restp1
        case hyp1 => (intro w hSw; (try dsimp only at hSw); go_simp; first | done | with_reducible rfl)
        (try simp only [Act.put, List.setIfInBounds_toArray, List.set_cons_zero, List.set_cons_succ, List.getElem_toArray, List.getElem_cons_zero, List.getElem_cons_succ])
        refine wpAnyH_take (i := 2) (v := ?vp2) rfl (by kernel_rfl) (by kernel_rfl) (by kernel_rfl) (fun _ _ _ h => h) (.inl ⟨by rfl, ?hyp2⟩) (by assumption) ?restp2
        case hyp2 => (intro w hSw; (try dsimp only at hSw); go_simp; first | done | with_reducible rfl)
        (try simp only [Act.put, List.setIfInBounds_toArray, List.set_cons_zero, List.set_cons_succ, List.getElem_toArray, List.getElem_cons_zero, List.getElem_cons_succ])
        refine wpAnyH_take (i := 3) (v := ?vp3) rfl (by kernel_rfl) (by kernel_rfl) (by kernel_rfl) (fun _ _ _ h => h) (.inl ⟨by rfl, ?hyp3⟩) (by assumption) ?restp3
        case hyp3 => (intro w hSw; (try dsimp only at hSw); go_simp; first | done | with_reducible rfl)
        (try simp only [Act.put, List.setIfInBounds_toArray, List.set_cons_zero, List.set_cons_succ, List.getElem_toArray, List.getElem_cons_zero, List.getElem_cons_succ])
        refine wpAnyH_take (i := 4) (v := ?vp4) rfl (by kernel_rfl) (by kernel_rfl) (by kernel_rfl) (fun _ _ _ h => h) (.inl ⟨by rfl, ?hyp4⟩) (by assumption) ?restp4
        case hyp4 => (intro w hSw; (try dsimp only at hSw); go_simp; first | done | with_reducible rfl)
        (try simp only [Act.put, List.setIfInBounds_toArray, List.set_cons_zero, List.set_cons_succ, List.getElem_toArray, List.getElem_cons_zero, List.getElem_cons_succ])
        refine wpAnyH_ready (rs := [5]) (by kernel_rfl) (by simp) ?_
        refine AllReadyH.cons rfl (fun K hK => ?_) AllReadyH.nil
        rw [if_pos (by rfl)]
        go_simp
        refine (hcopy.out W.drew (VRep.but hrep.out (below_but0' hbWd) (fun b hbf h => by have := hfl.out b hbf; omega))).mono ?_
        rintro e w1 ⟨y, gy, rfl, hy, hyn, hyb, hb1⟩
        have hy1 := hy.one
        have hbw1 : Below wr.heap.size wr w1 := hbWd.trans (hb1.mono (Nat.le_of_lt hBs))
        have hB1 := (hb1.cell (p := ⟨wr.heap.size, 0, none⟩) hBs).trans hB0
        have hB2 := (hb1.cell (p := ⟨wr.heap.size, 1, none⟩) hBs).trans hB1x
        have hBs1 : wr.heap.size < w1.heap.size := Nat.lt_of_lt_of_le hBs hb1.size
        refine hK.out _ _ ?_ (fun hHeld2 => ?_)
        · exact ⟨hB1, hB2⟩
        clear hK K
        (try simp only [Act.put, List.setIfInBounds_toArray, List.set_cons_zero, List.set_cons_succ, List.getElem_toArray, List.getElem_cons_zero, List.getElem_cons_succ])
        refine wpAnyH_take (i := 6) (v := (.agg #[.string s, y])) rfl (by kernel_rfl) (by kernel_rfl) (by kernel_rfl) (fun _ _ _ h => h) (.inl ⟨by rfl, ?hyp6⟩) (by assumption) ?restp6
        case hyp6 => (intro w hSw; exact exec_build (vs := #[(0, .string s), (1, y)]) rfl (by simp [Act.eval]) (run_buildField s y hy1 w))
        (try simp only [Act.put, List.setIfInBounds_toArray, List.set_cons_zero, List.set_cons_succ, List.getElem_toArray, List.getElem_cons_zero, List.getElem_cons_succ])
        refine wpAnyH_ready (rs := [7]) (by kernel_rfl) (by simp) ?_
        refine AllReadyH.cons rfl (fun K hK => ?_) AllReadyH.nil
        rw [if_pos (by rfl)]
        refine wp_of_exec (exec_buildSlice (vs := #[(0, .agg #[.string s, y])]) rfl (by simp [Act.eval]) (run_buildField1 s y _)) ?_
        refine hK.out _ _ ?_ (fun hHeld2 => ?_)
        · exact ⟨(((Below.refl _ w1).alloc (Nat.le_refl _) _).cell (p := ⟨wr.heap.size, 0, none⟩) hBs1).trans hB1, (((Below.refl _ w1).alloc (Nat.le_refl _) _).cell (p := ⟨wr.heap.size, 1, none⟩) hBs1).trans hB2⟩
        clear hK K
        (try simp only [Act.put, List.setIfInBounds_toArray, List.set_cons_zero, List.set_cons_succ, List.getElem_toArray, List.getElem_cons_zero, List.getElem_cons_succ])
        refine wpAnyH_ready (rs := [8]) (by kernel_rfl) (by simp) ?_
        refine AllReadyH.cons rfl (fun K hK => ?_) AllReadyH.nil
        refine step_append_lies _ (by rfl) _ _ _ (by rfl) w.heap.size 220 i0 _ 2 32 Try.underlying130 hi0 hz0 hz1 hz2 rfl (by omega) _ k ys (by rfl) ((hL.below hbw1).own.alloc _) ⟨w1.heap.size, 0, none⟩ 1 1 [.string s, y] (by rfl) (by rfl) (World.news_of_block (cs := #[.string s, y]) (t := 220) (fr := (0, 0)) (heap_alloc_new w1 _)) (one_pair hy1) (by omega) (by unfold maxLen; omega) (by omega) (by have := hb1.size; have := hbW.size; have := hb.size; simp; omega) _ rfl ?_
        intro g2 cap2 w2 hown2 hgr2 hat2 hlt2
        refine hK.out _ _ ?_ (fun hHeld2 => ?_)
        · exact ⟨(hgr2.cell_far ⟨wr.heap.size, 0, none⟩ (by simp; omega) (fun e => hBsv e)).trans ((((Below.refl _ w1).alloc (Nat.le_refl _) _).cell (p := ⟨wr.heap.size, 0, none⟩) hBs1).trans hB1), (hgr2.cell_far ⟨wr.heap.size, 1, none⟩ (by simp; omega) (fun e => hBsv e)).trans ((((Below.refl _ w1).alloc (Nat.le_refl _) _).cell (p := ⟨wr.heap.size, 1, none⟩) hBs1).trans hB2)⟩
        clear hK K
        (try simp only [Act.put, List.setIfInBounds_toArray, List.set_cons_zero, List.set_cons_succ, List.getElem_toArray, List.getElem_cons_zero, List.getElem_cons_succ])
        refine wpAnyH_take (i := 9) (v := ?vp9) rfl (by kernel_rfl) (by kernel_rfl) (by kernel_rfl) (fun _ _ _ h => h) (.inl ⟨by rfl, ?hyp9⟩) (by assumption) ?restp9
        case hyp9 => (intro w hSw; (try dsimp only at hSw); go_simp; first | done | with_reducible rfl)
        (try simp only [Act.put, List.setIfInBounds_toArray, List.set_cons_zero, List.set_cons_succ, List.getElem_toArray, List.getElem_cons_zero, List.getElem_cons_succ])
        refine wpAnyH_done (by kernel_rfl) ?_ _
        go_wp2_with fail
        have hfin := dict_round hpH.out hszH.out hL hdsH.out hb hbw1 hy hyn (fun b hbm => Nat.le_trans (Nat.le_of_lt hBs) (hyb b hbm)) hown2 hgr2 hat2 hlt2
        go_roundw
        case rel => exact ⟨k + 1, _, _, by omega, by go_num, hfin⟩
        case measure => simp [intOf]; omega
    · obtain rfl : k = d.length := by omega
      have hds := hdsH.out
      rw [List.take_length] at hds
      have hdsH2 := Lib.hid hds
      clear hds
      go_wp2_with fail
      go_ret
      exact ⟨_, _, _, rfl, hL.own, hdsH2.out, hL.nodup, fun b hbm => (hL.new b hbm).1, hb⟩
end Go.Proofs.Ytgmdbpplfjkjmaa
