/- The walks of value.copied, value.copiedDict, value.Copy: a value of memory of its own. -/
import Derived.Test.YtgmdbpplfjkjmaaWords
import Derived.Test.YtgmdbpplfjkjmaaValPart
import Derived.Test.YtgmdbpplfjkjmaaList
import Derived.Test.YtgmdbpplfjkjmaaBuild
namespace Go.Proofs.Ytgmdbpplfjkjmaa
open Go.RowKit
set_option linter.unusedVariables false
set_option linter.unusedSimpArgs false

theorem ownsRow_mono {w : World} {B : Nat} {e : TypeId} {size : Nat} {sv : Value} {n : Nat} {xs : List Value} (h : w.ownsRow B e size sv n xs) : w.ownsRow 0 e size sv n xs := by
  obtain ⟨h1, h2⟩ := h
  exact ⟨h1, h2.imp id fun ⟨g, cap, cur, a, b, c⟩ => ⟨g, cap, cur, a, Nat.zero_le _, c⟩⟩
theorem Try.infoField : (Try.prog.info? 220).map (fun i => (i.zero, i.size, i.bytes)) = some (some (.agg #[.string ⟨#[]⟩, .nilIface]), 2, 32) := by kernel_rfl
theorem Try.infoAny : (Try.prog.info? 20).map (fun i => (i.zero, i.size, i.bytes)) = some (some .nilIface, 1, 16) := by kernel_rfl
theorem Try.infoU8 : (Try.prog.info? 5).map (fun i => (i.zero, i.size, i.bytes)) = some (some (.int .u8 0), 1, 1) := by kernel_rfl

/-- A value v in memory of its own has been handed back; what there was is as it was. -/
def Fresh (v : Val) (w : World) (e : Ending) (w' : World) : Prop := ∃ y gs, e = .returned y ∧ VRep w' v y gs ∧ gs.Nodup ∧ (∀ b ∈ gs, w.heap.size ≤ b) ∧ Below w.heap.size w w'
/-- A dict likewise. -/
def FreshD (d : List (ByteArray × Val)) (w : World) (e : Ending) (w' : World) : Prop := ∃ sv xs gs, e = .returned sv ∧ w'.ownsRow w.heap.size 220 2 sv d.length xs ∧ DsRep w' d xs gs ∧ (ownL sv ++ gs).Nodup ∧ (∀ b ∈ gs, w.heap.size ≤ b) ∧ Below w.heap.size w w'
def CopySaid (v : Val) : Prop := ∀ (x : Value) (fs : List Nat) (w : World), VRep w v x fs → okV v → Calls Try.prog 187 #[x] w (Fresh v w)

set_option maxRecDepth 100000 in
set_option maxHeartbeats 1600000 in
theorem copiedDict_of (d : List (ByteArray × Val)) (ih : ∀ u ∈ d.map (·.2), CopySaid u) (sv : Value) (xs : List Value) (fs : List Nat) (w : World)
    (ho : w.ownsRow 0 220 2 sv d.length xs) (hd : DsRep w d xs fs) (hok : okDs d) (hlen : d.length ≤ 4096) :
    Calls Try.prog 239 #[sv] w (FreshD d w) := by
  obtain ⟨a, cap, rfl, hcap, hmax, -, hform⟩ := ownsRow_form ho
  unfold maxLen at hmax
  have hdat := Lib.hid (DsRep.at d xs fs hd)
  have hformH := Lib.hid hform
  have ihH := Lib.hid (fun u hu (h : okV u) x f w hv => ih u hu x f w hv h)
  have hokH := Lib.hid (okDs_mem d hok)
  obtain ⟨i0, hi0, hz0, hz1, hz2⟩ := info_parts Try.infoField
  have hl4 : ((d.length : Nat) : Int) ≤ 4096 := by omega
  clear ho hd hform ih hok
  go_enter Try.func239, Try.ntmps239
  go_wp2_with (at_make; refine wpList_make_own _ rfl _ _ _ rfl w.heap.size 220 i0 _ 2 Try.underlying130 hi0 hz0 hz1 .i64 .i64 _ d.length rfl rfl rfl (by rw [hz2]; omega) (by unfold maxLen; omega) (Nat.le_refl _) ?_; intro w0 hown0 hgr0)
  have hL0 := Listed.made hown0
  have hb0 : Below w.heap.size w w0 := (Below.refl _ _).grown hgr0 (Nat.le_refl _) (fun k hk => by cases hk)
  have hL0H := Lib.hid hL0
  clear hown0 hgr0 hL0
  go_loopw [3, 11] (fun sv i wr => ∃ (k : Nat) (ys : List Value) (gs : List Nat), k ≤ d.length ∧ i = .int .i64 k ∧ Listed w.heap.size wr 220 2 sv k ys gs ∧ DsRep wr (d.take k) ys gs ∧ Below w.heap.size w wr) (fun _ i _ => d.length - (intOf i).toNat)
  case atStart => exact ⟨0, [], [], Nat.zero_le _, rfl, hL0H.out, ⟨rfl, rfl⟩, hb0⟩
  case round =>
    obtain ⟨k, ys, gs, hk, rfl, hL, hds, hb⟩ := hrel
    have hdsH := Lib.hid hds
    clear hds
    by_cases hlt : k < d.length
    · rcases hformH.out with ⟨-, h0', -⟩ | ⟨g, rfl, -, hg, -, hcells⟩
      · omega
      · obtain ⟨⟨s, v⟩, hp⟩ : ∃ p, d[k]? = some p := ⟨_, List.getElem?_eq_getElem hlt⟩
        obtain ⟨x, f, e1, e2, e3, -, hsz⟩ := hdat.out k _ hp
        have hx1 := e3.one
        have hc0 := (hb.cell (p := ⟨g, k * 2, none⟩) hg).trans ((hcells (k * 2) (by omega)).trans e1)
        have hc1 := (hb.cell (p := ⟨g, k * 2 + 1, none⟩) hg).trans ((hcells (k * 2 + 1) (by omega)).trans e2)
        have hrep := Lib.hid (VRep.but e3 (below_but0 hb) (fun _ _ f => f))
        have hpm := List.mem_of_getElem? hp
        have hfl := Lib.hid (VRep.lt _ _ _ hrep.out)
        have hcopy := Lib.hid (fun W (h : VRep W v x f) => ihH.out v (List.mem_map.2 ⟨_, hpm, rfl⟩) (hokH.out _ hpm) x f W h)
        have hpH := Lib.hid hp
        have hszH := Lib.hid hsz
        have hBsv : some wr.heap.size ≠ Value.ownBlock u3 := fun e => by have := (ownsRow_lt hL.own wr.heap.size (ownL_some.2 e.symm)).2; omega
        have hgr : g < wr.heap.size := Nat.lt_of_lt_of_le hg hb.size
        clear e1 e2 e3 hcells hp hpm hsz
        go_wp2_with fail
        generalize hW : wr.alloc (Obj.cells #[Value.string s, x] 220) = W
        have hbW : Below wr.heap.size wr W := hW ▸ (Below.refl _ _).alloc (Nat.le_refl _) _
        have hbWd : Below wr.heap.size wr W.drew := hbW.drew
        have hB0 : W.cell? ⟨wr.heap.size, 0, none⟩ = some (.string s) := by rw [← hW]; simp [go_sem]
        have hB1x : W.cell? ⟨wr.heap.size, 1, none⟩ = some x := by rw [← hW]; simp [go_sem]
        have hBs : wr.heap.size < W.heap.size := by rw [← hW]; simp
        clear hW
        refine wp_region_held_drew (S := (fun w' => w'.cell? ⟨wr.heap.size, 0, none⟩ = some (.string s) ∧ w'.cell? ⟨wr.heap.size, 1, none⟩ = some x)) (by kernel_rfl) ?_ (fun hHeld => ?_)
        · exact ⟨hB0, hB1x⟩
        refine wpAnyH_take (i := 0) (v := ?vp0) rfl (by kernel_rfl) (by kernel_rfl) (by kernel_rfl) (fun _ _ _ h => h) (.inl ⟨by rfl, ?hyp0⟩) (by assumption) ?restp0
        case hyp0 => (intro w hSw; (try dsimp only at hSw); go_simp; first | done | with_reducible rfl)
        (try simp only [Act.put, pu1, pu2, pu3, pu4, pu5, pu6])
        refine wpAnyH_take (i := 1) (v := ?vp1) rfl (by kernel_rfl) (by kernel_rfl) (by kernel_rfl) (fun _ _ _ h => h) (.inl ⟨by rfl, ?hyp1⟩) (by assumption) ?restp1
        case hyp1 => (intro w hSw; (try dsimp only at hSw); go_simp; first | done | with_reducible rfl)
        (try simp only [Act.put, pu1, pu2, pu3, pu4, pu5, pu6])
        refine wpAnyH_take (i := 2) (v := ?vp2) rfl (by kernel_rfl) (by kernel_rfl) (by kernel_rfl) (fun _ _ _ h => h) (.inl ⟨by rfl, ?hyp2⟩) (by assumption) ?restp2
        case hyp2 => (intro w hSw; (try dsimp only at hSw); go_simp; first | done | with_reducible rfl)
        (try simp only [Act.put, pu1, pu2, pu3, pu4, pu5, pu6])
        refine wpAnyH_take (i := 3) (v := ?vp3) rfl (by kernel_rfl) (by kernel_rfl) (by kernel_rfl) (fun _ _ _ h => h) (.inl ⟨by rfl, ?hyp3⟩) (by assumption) ?restp3
        case hyp3 => (intro w hSw; (try dsimp only at hSw); go_simp; first | done | with_reducible rfl)
        (try simp only [Act.put, pu1, pu2, pu3, pu4, pu5, pu6])
        refine wpAnyH_take (i := 4) (v := ?vp4) rfl (by kernel_rfl) (by kernel_rfl) (by kernel_rfl) (fun _ _ _ h => h) (.inl ⟨by rfl, ?hyp4⟩) (by assumption) ?restp4
        case hyp4 => (intro w hSw; (try dsimp only at hSw); go_simp; first | done | with_reducible rfl)
        (try simp only [Act.put, pu1, pu2, pu3, pu4, pu5, pu6])
        refine wpAnyH_ready (rs := [5]) (by kernel_rfl) (by simp) ?_
        refine AllReadyH.cons rfl (fun K hK => ?_) AllReadyH.nil
        rw [if_pos (by rfl)]
        go_simp
        refine (hcopy.out W.drew (VRep.but hrep.out (below_but0' hbWd) (fun b hbf h => by have := hfl.out b hbf; omega))).mono ?_
        rintro e w1 ⟨y, gy, rfl, hy, hyn, hyb, hb1⟩
        have hy1 := hy.one
        have hbw1 : Below wr.heap.size wr w1 := hbWd.trans (hb1.mono (Nat.le_of_lt hBs))
        have hB1 := (hb1.cell (p := ⟨wr.heap.size, 0, none⟩) hBs).trans hB0
        have hB2 := (hb1.cell (p := ⟨wr.heap.size, 1, none⟩) hBs).trans hB1x
        have hBs1 : wr.heap.size < w1.heap.size := Nat.lt_of_lt_of_le hBs hb1.size
        refine hK.out _ _ ?_ (fun hHeld2 => ?_)
        · exact ⟨hB1, hB2⟩
        clear hK K
        (try simp only [Act.put, pu1, pu2, pu3, pu4, pu5, pu6])
        refine wpAnyH_take (i := 6) (v := (.agg #[.string s, y])) rfl (by kernel_rfl) (by kernel_rfl) (by kernel_rfl) (fun _ _ _ h => h) (.inl ⟨by rfl, ?hyp6⟩) (by assumption) ?restp6
        case hyp6 => (intro w hSw; exact exec_build (vs := #[(0, .string s), (1, y)]) rfl (by simp [Act.eval]) (run_buildField s y hy1 w))
        (try simp only [Act.put, pu1, pu2, pu3, pu4, pu5, pu6])
        refine wpAnyH_ready (rs := [7]) (by kernel_rfl) (by simp) ?_
        refine AllReadyH.cons rfl (fun K hK => ?_) AllReadyH.nil
        rw [if_pos (by rfl)]
        refine wp_of_exec (exec_buildSlice (vs := #[(0, .agg #[.string s, y])]) rfl (by simp [Act.eval]) (run_buildField1 s y _)) ?_
        refine hK.out _ _ ?_ (fun hHeld2 => ?_)
        · exact ⟨(((Below.refl _ w1).alloc (Nat.le_refl _) _).cell (p := ⟨wr.heap.size, 0, none⟩) hBs1).trans hB1, (((Below.refl _ w1).alloc (Nat.le_refl _) _).cell (p := ⟨wr.heap.size, 1, none⟩) hBs1).trans hB2⟩
        clear hK K
        (try simp only [Act.put, pu1, pu2, pu3, pu4, pu5, pu6])
        refine wpAnyH_ready (rs := [8]) (by kernel_rfl) (by simp) ?_
        refine AllReadyH.cons rfl (fun K hK => ?_) AllReadyH.nil
        refine step_append_lies _ (by rfl) _ _ _ (by rfl) w.heap.size 220 i0 _ 2 32 Try.underlying130 hi0 hz0 hz1 hz2 rfl (by omega) _ k ys (by rfl) ((hL.below hbw1).own.alloc _) ⟨w1.heap.size, 0, none⟩ 1 1 [.string s, y] (by rfl) (by rfl) (World.news_of_block (cs := #[.string s, y]) (t := 220) (fr := (0, 0)) (heap_alloc_new w1 _)) (one_pair hy1) (by omega) (by unfold maxLen; omega) (by omega) (by have := hb1.size; have := hbW.size; have := hb.size; simp; omega) _ rfl ?_
        intro g2 cap2 w2 hown2 hgr2 hat2 hlt2
        refine hK.out _ _ ?_ (fun hHeld2 => ?_)
        · exact ⟨(hgr2.cell_far ⟨wr.heap.size, 0, none⟩ (by simp; omega) (fun e => hBsv e)).trans ((((Below.refl _ w1).alloc (Nat.le_refl _) _).cell (p := ⟨wr.heap.size, 0, none⟩) hBs1).trans hB1), (hgr2.cell_far ⟨wr.heap.size, 1, none⟩ (by simp; omega) (fun e => hBsv e)).trans ((((Below.refl _ w1).alloc (Nat.le_refl _) _).cell (p := ⟨wr.heap.size, 1, none⟩) hBs1).trans hB2)⟩
        clear hK K
        (try simp only [Act.put, pu1, pu2, pu3, pu4, pu5, pu6])
        refine wpAnyH_take (i := 9) (v := ?vp9) rfl (by kernel_rfl) (by kernel_rfl) (by kernel_rfl) (fun _ _ _ h => h) (.inl ⟨by rfl, ?hyp9⟩) (by assumption) ?restp9
        case hyp9 => (intro w hSw; (try dsimp only at hSw); go_simp; first | done | with_reducible rfl)
        (try simp only [Act.put, pu1, pu2, pu3, pu4, pu5, pu6])
        refine wpAnyH_done (by kernel_rfl) ?_ _
        go_wp2_with fail
        have hfin := dict_round hpH.out hszH.out hL hdsH.out hb hbw1 hy hyn (fun b hbm => Nat.le_trans (Nat.le_of_lt hBs) (hyb b hbm)) hown2 hgr2 hat2 hlt2
        go_roundw
        case rel => exact ⟨k + 1, _, _, by omega, by go_num, hfin⟩
        case measure => simp [intOf]; omega
    · obtain rfl : k = d.length := by omega
      have hds := hdsH.out
      rw [List.take_length] at hds
      have hdsH2 := Lib.hid hds
      clear hds
      go_wp2_with fail
      go_ret
      exact ⟨_, _, _, rfl, hL.own, hdsH2.out, hL.nodup, fun b hbm => (hL.new b hbm).1, hb⟩
end Go.Proofs.Ytgmdbpplfjkjmaa

/-! The walks of value.copied, value.Copy. -/
namespace Go.Proofs.Ytgmdbpplfjkjmaa
open Go.RowKit
set_option linter.unusedVariables false
set_option linter.unusedSimpArgs false

/-- '[]T{}': a row of the call's own. -/
theorem ownsRow_new (w : World) (e : TypeId) (size : Nat) (B : Nat) (hB : B ≤ w.heap.size) : (w.alloc (.cells #[] e)).ownsRow B e size (.slice (some ⟨w.heap.size, 0, none⟩) 0 0) 0 [] :=
  ⟨by simp, .inr ⟨w.heap.size, 0, #[], rfl, hB, heap_alloc_new w _, Nat.le_refl _, by simp [maxLen], by simp, by simp⟩⟩
theorem byteCells_one (l : List UInt8) : ∀ u ∈ byteCells l, u.oneCell' = true := by
  intro u hu
  obtain ⟨b, _, rfl⟩ := List.mem_map.1 hu
  rfl
theorem ownL_nodup (v : Value) : (ownL v).Nodup := by unfold ownL; cases v.ownBlock <;> simp

/-- A value that lies in no memory is copied as it is. -/
theorem fresh_leaf {v : Val} {x : Value} {w : World} (h : VRep w v x []) : Fresh v w (.returned x) w := ⟨x, [], rfl, h, List.nodup_nil, by simp, Below.refl _ _⟩
set_option maxRecDepth 100000 in
theorem copied_nil  : CopySaid (.nil) := by
  intro x fs w h hok
  have h0 := h
  simp only [VRep] at h
  obtain ⟨rfl, rfl⟩ := h
  have hl := Lib.hid (fresh_leaf h0)
  clear h0 hok
  go_enter Try.func187, Try.ntmps187
  go_wp2
  go_ret
  exact hl.out
set_option maxRecDepth 100000 in
theorem copied_bool (b : Bool) : CopySaid (.bool b) := by
  intro x fs w h hok
  have h0 := h
  simp only [VRep] at h
  obtain ⟨rfl, rfl⟩ := h
  have hl := Lib.hid (fresh_leaf h0)
  clear h0 hok
  go_enter Try.func187, Try.ntmps187
  go_wp2
  go_ret
  exact hl.out
set_option maxRecDepth 100000 in
theorem copied_int (n : Int) : CopySaid (.int n) := by
  intro x fs w h hok
  have h0 := h
  simp only [VRep] at h
  obtain ⟨rfl, hw, rfl⟩ := h
  have hl := Lib.hid (fresh_leaf h0)
  clear h0 hok hw
  go_enter Try.func187, Try.ntmps187
  go_wp2
  go_ret
  exact hl.out
set_option maxRecDepth 100000 in
theorem copied_float (b : Nat) : CopySaid (.float b) := by
  intro x fs w h hok
  have h0 := h
  simp only [VRep] at h
  obtain ⟨rfl, hw, rfl⟩ := h
  have hl := Lib.hid (fresh_leaf h0)
  clear h0 hok hw
  go_enter Try.func187, Try.ntmps187
  go_wp2
  go_ret
  exact hl.out
set_option maxRecDepth 100000 in
theorem copied_text (s : ByteArray) : CopySaid (.text s) := by
  intro x fs w h hok
  have h0 := h
  simp only [VRep] at h
  obtain ⟨rfl, hw, rfl⟩ := h
  have hl := Lib.hid (fresh_leaf h0)
  clear h0 hok hw
  go_enter Try.func187, Try.ntmps187
  go_wp2
  go_ret
  exact hl.out
set_option maxRecDepth 100000 in
theorem copied_ref (n : Int) : CopySaid (.ref n) := by
  intro x fs w h hok
  have h0 := h
  simp only [VRep] at h
  obtain ⟨rfl, hw, rfl⟩ := h
  have hl := Lib.hid (fresh_leaf h0)
  clear h0 hok hw
  go_enter Try.func187, Try.ntmps187
  go_wp2
  go_ret
  exact hl.out

set_option maxRecDepth 100000 in
theorem copied_bytes (l : List UInt8) : CopySaid (.bytes l) := by
  intro x fs w h hok
  simp only [VRep] at h
  obtain ⟨sv, rfl, ho, rfl⟩ := h
  obtain ⟨i0, hi0, hz0, hz1, hz2⟩ := info_parts Try.infoU8
  have hl : l.length ≤ 65536 := by
    have : ownIn (.bytes l) = 0 := hok
    simp only [ownIn] at this
    split at this <;> omega
  obtain ⟨a, cap, rfl, hcap, hmax, -, hform⟩ := ownsRow_form ho
  unfold maxLen at hmax
  have hoH := Lib.hid ho
  clear hok ho
  rcases hform with ⟨rfl, hl0, rfl⟩ | ⟨g, rfl, -, hg, -, hcells⟩
  · obtain rfl : l = [] := List.eq_nil_of_length_eq_zero hl0
    clear hl0 hl hmax hcap
    go_enter Try.func187, Try.ntmps187
    go_wp2_with (at_builtin; refine wpList_append_own_none rfl _ _ 26 rfl w.heap.size 5 i0 1 Try.underlying26 hi0 _ 0 [] rfl (ownsRow_new w _ 1 _ (Nat.le_refl _)) rfl ?_)
    go_ret
    exact ⟨_, _, rfl, ⟨_, rfl, ownsRow_mono (ownsRow_new w _ 1 _ (Nat.le_refl _)), rfl⟩, ownL_nodup _, fun b hb => Nat.le_of_eq (List.mem_singleton.1 hb).symm, (Below.refl _ _).alloc (Nat.le_refl _) _⟩
  · have hcl : ∀ j u, (byteCells l)[j]? = some u → (w.alloc (.cells #[] 5)).cell? ((⟨g, 0, none⟩ : Addr).add j) = some u := by
      intro j u hu
      have hj : j < l.length := by have := (List.getElem?_eq_some_iff.1 hu).1; simpa [byteCells] using this
      have hadd : (⟨g, 0, none⟩ : Addr).add j = ⟨g, j, none⟩ := by unfold Addr.add; split <;> simp_all
      rw [hadd, ((Below.refl w.heap.size w).alloc (Nat.le_refl _) _).cell (p := ⟨g, j, none⟩) hg, hcells j (by omega)]
      exact hu
    have hclH := Lib.hid hcl
    clear hcells hcl
    go_enter Try.func187, Try.ntmps187
    go_wp2_with (at_builtin; refine wpList_append_own _ rfl _ _ 26 rfl w.heap.size 5 i0 _ 1 1 Try.underlying26 hi0 hz0 hz1 hz2 rfl (by omega) _ 0 [] rfl (ownsRow_new w _ 1 _ (Nat.le_refl _)) ⟨g, 0, none⟩ l.length cap (byteCells l) rfl (by simp [byteCells]) ?c1 (byteCells_one l) (by unfold maxLen; omega) (by omega) (by simp) ?_; (case c1 => exact hclH.out); intro v' w' hown' hgr' _)
    go_ret
    have hown := hown'
    have hgr : (w.alloc (.cells #[] 5)).grownBy w' (some w.heap.size) := hgr'
    simp only [Nat.zero_add, List.nil_append] at hown
    refine ⟨_, _, rfl, ⟨_, rfl, ownsRow_mono hown, rfl⟩, ownL_nodup _, fun b hb => (ownsRow_lt hown b hb).1, ((Below.refl _ _).alloc (Nat.le_refl _) _).grown hgr (by simp) (fun k hk => by injection hk with hk; omega)⟩

set_option maxRecDepth 100000 in
theorem copied_dict (d : List (ByteArray × Val)) (ih : ∀ u ∈ d.map (·.2), CopySaid u) : CopySaid (.dict d) := by
  intro x fs w h hok
  simp only [VRep] at h
  obtain ⟨sv, xs, gs, rfl, ho, hd, rfl⟩ := h
  have hlen : d.length ≤ 4096 := by
    have h1 : ownIn (.dict d) = 0 := hok.1
    simp only [ownIn, fieldsF] at h1
    split at h1 <;> omega
  have hcp := Lib.hid (copiedDict_of d ih sv xs gs w ho hd hok.2 hlen)
  clear ih hok ho hd
  go_enter Try.func187, Try.ntmps187
  go_wp2_with (go_at_call 239; refine hcp.out.mono ?_; rintro e w1 ⟨sv1, xs1, gs1, rfl, ho1, hd1, hn1, hb1, hbel⟩)
  go_ret
  exact ⟨_, _, rfl, ⟨sv1, xs1, gs1, rfl, ownsRow_mono ho1, hd1, rfl⟩, hn1, fun b hb => (List.mem_append.1 hb).elim (fun h => (ownsRow_lt ho1 b h).1) (hb1 b), hbel⟩

set_option maxRecDepth 100000 in
set_option maxHeartbeats 800000 in
theorem copied_record (s : ByteArray) (m : Int) (d : List (ByteArray × Val)) (ih : ∀ u ∈ d.map (·.2), CopySaid u) : CopySaid (.record s m d) := by
  intro x fs w h hok
  simp only [VRep] at h
  obtain ⟨b, sv, xs, gs, rfl, hr, hs, hm, ho, hd, rfl⟩ := h
  obtain ⟨r0, r1, r2, hbl, -⟩ := recCells hr
  have hlen : d.length ≤ 4096 := by
    have h1 : ownIn (.record s m d) = 0 := hok.1
    simp only [ownIn] at h1
    split at h1
    · omega
    · split at h1
      · omega
      · unfold fieldsF at h1; split at h1 <;> omega
  have hcp := Lib.hid (copiedDict_of d ih sv xs gs w.drew ho (DsRep.keep _ _ _ hd (fun _ _ => rfl)) hok.2 hlen)
  obtain ⟨a0, cap0, rfl, -⟩ := ownsRow_form ho
  have hsm := Lib.hid (And.intro hs hm)
  clear ih hok ho hd hr hs hm hlen
  go_enter Try.func187, Try.ntmps187
  go_wp2_with fail
  refine wp_region_held_drew (S := (fun w' => w'.cell? ⟨b, 0, none⟩ = some (.string s) ∧ w'.cell? ⟨b, 1, none⟩ = some (.int .i64 m) ∧ w'.cell? ⟨b, 2, none⟩ = some (.slice a0 d.length cap0))) (by kernel_rfl) ?_ (fun hHeld => ?_)
  · exact ⟨r0, r1, r2⟩
  refine wpAnyH_take (i := 0) (v := ?vr0) rfl (by kernel_rfl) (by kernel_rfl) (by kernel_rfl) (fun _ _ _ h => h) (.inl ⟨by rfl, ?hyr0⟩) (by assumption) ?restr0
  case hyr0 => (intro w hSw; (try dsimp only at hSw); go_simp; first | done | with_reducible rfl)
  (try simp only [Act.put, pu1, pu2, pu3, pu4, pu5, pu6])
  refine wpAnyH_take (i := 1) (v := ?vr1) rfl (by kernel_rfl) (by kernel_rfl) (by kernel_rfl) (fun _ _ _ h => h) (.inl ⟨by rfl, ?hyr1⟩) (by assumption) ?restr1
  case hyr1 => (intro w hSw; (try dsimp only at hSw); go_simp; first | done | with_reducible rfl)
  (try simp only [Act.put, pu1, pu2, pu3, pu4, pu5, pu6])
  refine wpAnyH_take (i := 2) (v := ?vr2) rfl (by kernel_rfl) (by kernel_rfl) (by kernel_rfl) (fun _ _ _ h => h) (.inl ⟨by rfl, ?hyr2⟩) (by assumption) ?restr2
  case hyr2 => (intro w hSw; (try dsimp only at hSw); go_simp; first | done | with_reducible rfl)
  (try simp only [Act.put, pu1, pu2, pu3, pu4, pu5, pu6])
  refine wpAnyH_take (i := 3) (v := ?vr3) rfl (by kernel_rfl) (by kernel_rfl) (by kernel_rfl) (fun _ _ _ h => h) (.inl ⟨by rfl, ?hyr3⟩) (by assumption) ?restr3
  case hyr3 => (intro w hSw; (try dsimp only at hSw); go_simp; first | done | with_reducible rfl)
  (try simp only [Act.put, pu1, pu2, pu3, pu4, pu5, pu6])
  refine wpAnyH_take (i := 4) (v := ?vr4) rfl (by kernel_rfl) (by kernel_rfl) (by kernel_rfl) (fun _ _ _ h => h) (.inl ⟨by rfl, ?hyr4⟩) (by assumption) ?restr4
  case hyr4 => (intro w hSw; (try dsimp only at hSw); go_simp; first | done | with_reducible rfl)
  (try simp only [Act.put, pu1, pu2, pu3, pu4, pu5, pu6])
  refine wpAnyH_take (i := 5) (v := ?vr5) rfl (by kernel_rfl) (by kernel_rfl) (by kernel_rfl) (fun _ _ _ h => h) (.inl ⟨by rfl, ?hyr5⟩) (by assumption) ?restr5
  case hyr5 => (intro w hSw; (try dsimp only at hSw); go_simp; first | done | with_reducible rfl)
  (try simp only [Act.put, pu1, pu2, pu3, pu4, pu5, pu6])
  refine wpAnyH_take (i := 6) (v := ?vr6) rfl (by kernel_rfl) (by kernel_rfl) (by kernel_rfl) (fun _ _ _ h => h) (.inl ⟨by rfl, ?hyr6⟩) (by assumption) ?restr6
  case hyr6 => (intro w hSw; (try dsimp only at hSw); go_simp; first | done | with_reducible rfl)
  (try simp only [Act.put, pu1, pu2, pu3, pu4, pu5, pu6])
  refine wpAnyH_take (i := 7) (v := ?vr7) rfl (by kernel_rfl) (by kernel_rfl) (by kernel_rfl) (fun _ _ _ h => h) (.inl ⟨by rfl, ?hyr7⟩) (by assumption) ?restr7
  case hyr7 => (intro w hSw; (try dsimp only at hSw); go_simp; first | done | with_reducible rfl)
  (try simp only [Act.put, pu1, pu2, pu3, pu4, pu5, pu6])
  refine wpAnyH_take (i := 8) (v := ?vr8) rfl (by kernel_rfl) (by kernel_rfl) (by kernel_rfl) (fun _ _ _ h => h) (.inl ⟨by rfl, ?hyr8⟩) (by assumption) ?restr8
  case hyr8 => (intro w hSw; (try dsimp only at hSw); go_simp; first | done | with_reducible rfl)
  (try simp only [Act.put, pu1, pu2, pu3, pu4, pu5, pu6])
  refine wpAnyH_take (i := 9) (v := ?vr9) rfl (by kernel_rfl) (by kernel_rfl) (by kernel_rfl) (fun _ _ _ h => h) (.inl ⟨by rfl, ?hyr9⟩) (by assumption) ?restr9
  case hyr9 => (intro w hSw; (try dsimp only at hSw); go_simp; first | done | with_reducible rfl)
  (try simp only [Act.put, pu1, pu2, pu3, pu4, pu5, pu6])
  refine wpAnyH_take (i := 10) (v := ?vr10) rfl (by kernel_rfl) (by kernel_rfl) (by kernel_rfl) (fun _ _ _ h => h) (.inl ⟨by rfl, ?hyr10⟩) (by assumption) ?restr10
  case hyr10 => (intro w hSw; (try dsimp only at hSw); go_simp; first | done | with_reducible rfl)
  (try simp only [Act.put, pu1, pu2, pu3, pu4, pu5, pu6])
  refine wpAnyH_take (i := 11) (v := ?vr11) rfl (by kernel_rfl) (by kernel_rfl) (by kernel_rfl) (fun _ _ _ h => h) (.inl ⟨by rfl, ?hyr11⟩) (by assumption) ?restr11
  case hyr11 => (intro w hSw; (try dsimp only at hSw); go_simp; first | done | with_reducible rfl)
  (try simp only [Act.put, pu1, pu2, pu3, pu4, pu5, pu6])
  refine wpAnyH_ready (rs := [12]) (by kernel_rfl) (by simp) ?_
  refine AllReadyH.cons rfl (fun K hK => ?_) AllReadyH.nil
  rw [if_pos (by rfl)]
  go_simp
  refine hcp.out.mono ?_
  rintro e w1 ⟨sv1, xs1, gs1, rfl, ho1, hd1, hn1, hb1, hbel⟩
  obtain ⟨a1, cap1, rfl, -⟩ := ownsRow_form ho1
  refine hK.out _ _ ?_ (fun hHeld2 => ?_)
  · exact ⟨(hbel.cell (p := ⟨b, 0, none⟩) hbl).trans r0, (hbel.cell (p := ⟨b, 1, none⟩) hbl).trans r1, (hbel.cell (p := ⟨b, 2, none⟩) hbl).trans r2⟩
  clear hK K
  (try simp only [Act.put, pu1, pu2, pu3, pu4, pu5, pu6])
  refine wpAnyH_take (i := 13) (v := ?vr13) rfl (by kernel_rfl) (by kernel_rfl) (by kernel_rfl) (fun _ _ _ h => h) (.inl ⟨by rfl, ?hyr13⟩) (by assumption) ?restr13
  case hyr13 => (intro w hSw; (try dsimp only at hSw); go_simp; first | done | with_reducible rfl)
  (try simp only [Act.put, pu1, pu2, pu3, pu4, pu5, pu6])
  refine wpAnyH_ready (rs := [14]) (by kernel_rfl) (by simp) ?_
  refine AllReadyH.cons rfl (fun K hK => ?_) AllReadyH.nil
  rw [if_pos (by rfl)]
  go_simp
  refine hK.out _ _ ?_ (fun hHeld2 => ?_)
  · exact ⟨((hbel.alloc hbel.size _).cell (p := ⟨b, 0, none⟩) hbl).trans r0, ((hbel.alloc hbel.size _).cell (p := ⟨b, 1, none⟩) hbl).trans r1, ((hbel.alloc hbel.size _).cell (p := ⟨b, 2, none⟩) hbl).trans r2⟩
  clear hK K
  (try simp only [Act.put, pu1, pu2, pu3, pu4, pu5, pu6])
  refine wpAnyH_take (i := 15) (v := ?vr15) rfl (by kernel_rfl) (by kernel_rfl) (by kernel_rfl) (fun _ _ _ h => h) (.inl ⟨by rfl, ?hyr15⟩) (by assumption) ?restr15
  case hyr15 => (intro w hSw; (try dsimp only at hSw); go_simp; first | done | with_reducible rfl)
  (try simp only [Act.put, pu1, pu2, pu3, pu4, pu5, pu6])
  refine wpAnyH_take (i := 16) (v := ?vr16) rfl (by kernel_rfl) (by kernel_rfl) (by kernel_rfl) (fun _ _ _ h => h) (.inl ⟨by rfl, ?hyr16⟩) (by assumption) ?restr16
  case hyr16 => (intro w hSw; (try dsimp only at hSw); go_simp; first | done | with_reducible rfl)
  (try simp only [Act.put, pu1, pu2, pu3, pu4, pu5, pu6])
  refine wpAnyH_done (by kernel_rfl) ?_ _
  go_wp2_with fail
  go_ret
  have hnew : ∀ k ∈ ownL (.slice a1 d.length cap1) ++ gs1, w.heap.size ≤ k ∧ k < w1.heap.size := fun k hk => (List.mem_append.1 hk).elim (fun h => ownsRow_lt ho1 k h) (fun h => ⟨hb1 k h, DsRep.lt _ _ _ hd1 k h⟩)
  have hal : Below w1.heap.size w1 (w1.alloc (.cells #[.string s, .int .i64 m, .slice a1 d.length cap1] 134)) := (Below.refl _ _).alloc (Nat.le_refl _) _
  refine ⟨_, _, rfl, ⟨w1.heap.size, _, xs1, gs1, rfl, heap_alloc_new w1 _, hsm.out.1, hsm.out.2, ownsRow_keep (ownsRow_mono ho1) (fun k hk => hal.block k (hnew k (List.mem_append_left _ hk)).2), DsRep.keep _ _ _ hd1 (fun k hk => hal.block k (hnew k (List.mem_append_right _ hk)).2), rfl⟩, ?_, ?_, ?_⟩
  · exact List.nodup_cons.2 ⟨fun hk => by have := (hnew _ hk).2; omega, hn1⟩
  · intro k hk
    rcases List.mem_cons.1 hk with rfl | hk
    · exact hbel.size
    · exact (hnew k hk).1
  · exact ((Below.refl w.heap.size w).drew).trans (hbel.alloc hbel.size _)

set_option maxRecDepth 100000 in
set_option maxHeartbeats 800000 in
theorem copied_list (l : List Val) (ih : ∀ u ∈ l, CopySaid u) : CopySaid (.list l) := by
  intro x fs w h hok
  simp only [VRep] at h
  obtain ⟨sv, xs, gs, rfl, ho, hd, rfl⟩ := h
  have hlen : l.length ≤ 4096 := by
    have h1 : ownIn (.list l) = 0 := hok.1
    simp only [ownIn] at h1
    split at h1 <;> omega
  obtain ⟨a, cap, rfl, hcap, hmax, -, hform⟩ := ownsRow_form ho
  unfold maxLen at hmax
  have hdat := Lib.hid (VsRep.at l xs gs hd)
  have hformH := Lib.hid hform
  have hokm := okVs_mem l hok.2
  have ihH := Lib.hid (fun u hu x f w hv => ih u hu x f w hv (hokm u hu))
  obtain ⟨i0, hi0, hz0, hz1, hz2⟩ := info_parts Try.infoAny
  have hl4 : ((l.length : Nat) : Int) ≤ 4096 := by omega
  clear ho hd hform ih hok hokm
  go_enter Try.func187, Try.ntmps187
  go_wp2_with (at_make; refine wpList_make_own _ rfl _ _ _ rfl w.heap.size 20 i0 _ 1 Try.underlying128 hi0 hz0 hz1 .i64 .i64 _ l.length rfl rfl rfl (by rw [hz2]; omega) (by unfold maxLen; omega) (Nat.le_refl _) ?_; intro w0 hown0 hgr0)
  have hL0 := Listed.made hown0
  have hb0 : Below w.heap.size w w0 := (Below.refl _ _).grown hgr0 (Nat.le_refl _) (fun k hk => by cases hk)
  have hL0H := Lib.hid hL0
  clear hown0 hgr0 hL0
  go_loopw [5, 26] (fun sv i wr => ∃ (k : Nat) (ys : List Value) (hs : List Nat), k ≤ l.length ∧ i = .int .i64 k ∧ Listed w.heap.size wr 20 1 sv k ys hs ∧ VsRep wr (l.take k) ys hs ∧ Below w.heap.size w wr) (fun _ i _ => l.length - (intOf i).toNat)
  case atStart => exact ⟨0, [], [], Nat.zero_le _, rfl, hL0H.out, ⟨rfl, rfl⟩, hb0⟩
  case round =>
    obtain ⟨k, ys, hs, hk, rfl, hL, hds, hb⟩ := hrel
    have hdsH := Lib.hid hds
    clear hds
    by_cases hlt : k < l.length
    · rcases hformH.out with ⟨-, h0', -⟩ | ⟨g, rfl, -, hg, -, hcells⟩
      · omega
      · obtain ⟨v, hp⟩ : ∃ p, l[k]? = some p := ⟨_, List.getElem?_eq_getElem hlt⟩
        obtain ⟨x, f, e1, e3, -⟩ := hdat.out k _ hp
        have hc0 := (hb.cell (p := ⟨g, k, none⟩) hg).trans ((hcells k (by omega)).trans e1)
        have hrep := Lib.hid (VRep.but e3 (below_but0 hb) (fun _ _ f => f))
        have hcopy := Lib.hid (ihH.out v (List.mem_of_getElem? hp) x f wr hrep.out)
        have hpH := Lib.hid hp
        clear e1 e3 hcells hp
        go_wp2_with (first | (go_at_call 187; refine hcopy.out.mono ?_; rintro e w1 ⟨y, gy, rfl, hy, hyn, hyb, hb1⟩; have hy1 := hy.one) | (refine wpList_of_exec rfl (exec_buildSlice (T := 128) (n := 1) (parts := #[(0, .tmp 32)]) (vs := #[(0, y)]) rfl (by simp [Act.eval]) (run_buildAny1 y hy1 _)) ?_) | (at_builtin; refine wpList_append_lies _ rfl _ _ 128 rfl w.heap.size 20 i0 _ 1 16 Try.underlying128 hi0 hz0 hz1 hz2 rfl (by omega) _ k ys rfl ((hL.below hb1).own.alloc _) ⟨w1.heap.size, 0, none⟩ 1 1 [y] rfl rfl (World.news_of_block (cs := #[y]) (t := 20) (fr := (0, 0)) (heap_alloc_new w1 _)) (one_single hy1) (by omega) (by unfold maxLen; omega) (by omega) (by have := hb1.size; have := hb.size; simp; omega) _ rfl ?_; intro g2 cap2 w2 hown2 hgr2 hat2 hlt2))
        have hfin := list_round hpH.out hL hdsH.out hb hb1 hy hyn hyb hown2 hgr2 hat2 hlt2
        go_roundw
        case rel => exact ⟨k + 1, _, _, by omega, by go_num, hfin⟩
        case measure => simp [intOf]; omega
    · obtain rfl : k = l.length := by omega
      have hds := hdsH.out
      rw [List.take_length] at hds
      have hdsH2 := Lib.hid hds
      clear hds
      go_wp2_with fail
      go_ret
      exact ⟨_, _, rfl, ⟨_, _, _, rfl, ownsRow_mono hL.own, hdsH2.out, rfl⟩, hL.nodup, fun b hbm => (List.mem_append.1 hbm).elim (fun h => (ownsRow_lt hL.own b h).1) (fun h => (hL.new b h).1), hb⟩

theorem copied_any : ∀ v, CopySaid v := val_ind fun v ih => by
  cases v with
  | nil => exact copied_nil
  | bool b => exact copied_bool b
  | int n => exact copied_int n
  | float b => exact copied_float b
  | text s => exact copied_text s
  | bytes l => exact copied_bytes l
  | ref n => exact copied_ref n
  | list l => exact copied_list l ih
  | dict d => exact copied_dict d ih
  | record s n d => exact copied_record s n d ih
  | nothing => exact fun _ _ _ _ h => h.elim
  | alien u => exact fun _ _ _ _ h => h.elim
end Go.Proofs.Ytgmdbpplfjkjmaa

/-! The walk of value.Copy; when Check says that nothing is wrong. -/
namespace Go.Proofs.Ytgmdbpplfjkjmaa
open Go.RowKit
set_option linter.unusedVariables false
set_option linter.unusedSimpArgs false

/-- Check finds nothing wrong. -/
def okB (v : Val) : Bool := (partF v 1 ⟨0, 0, 0⟩).1
/-- What Check finds wrong. -/
def whyF (v : Val) : Int := (checkF v).2

theorem stepF_why {v : Val} {deep : Int} {c : Cnt} {kids : Cnt → Bool × Cnt} (hk : ∀ c', (kids c').1 = false → (kids c').2.why ≠ 0) (h : (stepF v deep c kids).1 = false) : (stepF v deep c kids).2.why ≠ 0 := by
  unfold stepF at h ⊢
  split
  · rename_i ho; rw [if_pos ho] at h; exact hk _ h
  · rename_i ho; exact ho
mutual
theorem partF_why : ∀ (v : Val) (deep : Int) (c : Cnt), (partF v deep c).1 = false → (partF v deep c).2.why ≠ 0
  | .list l, deep, c => by rw [partF]; exact stepF_why (fun c' => partsF_why l _ c')
  | .dict d, deep, c => by rw [partF]; exact stepF_why (fun c' => dpartsF_why d _ c')
  | .record _ _ d, deep, c => by rw [partF]; exact stepF_why (fun c' => dpartsF_why d _ c')
  | .nil, deep, c => by rw [partF]; exact stepF_why (fun c' h => by cases h)
  | .bool _, deep, c => by rw [partF]; exact stepF_why (fun c' h => by cases h)
  | .int _, deep, c => by rw [partF]; exact stepF_why (fun c' h => by cases h)
  | .float _, deep, c => by rw [partF]; exact stepF_why (fun c' h => by cases h)
  | .text _, deep, c => by rw [partF]; exact stepF_why (fun c' h => by cases h)
  | .bytes _, deep, c => by rw [partF]; exact stepF_why (fun c' h => by cases h)
  | .ref _, deep, c => by rw [partF]; exact stepF_why (fun c' h => by cases h)
  | .nothing, deep, c => by rw [partF]; exact stepF_why (fun c' h => by cases h)
  | .alien _, deep, c => by rw [partF]; exact stepF_why (fun c' h => by cases h)
theorem partsF_why : ∀ (l : List Val) (deep : Int) (c : Cnt), (partsF l deep c).1 = false → (partsF l deep c).2.why ≠ 0
  | [], _, _ => by rw [partsF]; intro h; cases h
  | v :: l, deep, c => by
    have h1 := partF_why v deep c
    rw [partsF]
    split
    · exact partsF_why l _ _
    · rename_i c' e; rw [e] at h1; exact h1
theorem dpartsF_why : ∀ (l : List (ByteArray × Val)) (deep : Int) (c : Cnt), (dpartsF l deep c).1 = false → (dpartsF l deep c).2.why ≠ 0
  | [], _, _ => by rw [dpartsF]; intro h; cases h
  | p :: l, deep, c => by
    have h1 := dpartF_why p deep c
    rw [dpartsF]
    split
    · exact dpartsF_why l _ _
    · rename_i c' e; rw [e] at h1; exact h1
theorem dpartF_why : ∀ (p : ByteArray × Val) (deep : Int) (c : Cnt), (dpartF p deep c).1 = false → (dpartF p deep c).2.why ≠ 0
  | (_, v), deep, c => by rw [dpartF]; exact partF_why v deep c
end
theorem check_ok {v : Val} (h : okB v = true) : checkF v = (0, 0) := by
  unfold checkF; unfold okB at h
  split
  · rfl
  · rename_i c e; rw [e] at h; cases h
theorem why_bad {v : Val} (h : okB v = false) : whyF v ≠ 0 := by
  unfold whyF checkF; unfold okB at h
  have := partF_why v 1 ⟨0, 0, 0⟩ h
  split
  · rename_i c e; rw [e] at h; cases h
  · rename_i c e; rw [e] at this; exact this
theorem why_ok {v : Val} (h : okB v = true) : whyF v = 0 := by unfold whyF; rw [check_ok h]

/-- A copy has been handed back, and OK. -/
def CopyOK (v : Val) (w : World) (e : Ending) (w' : World) : Prop := ∃ y gs, e = .returned (.tuple #[y, .int .i64 0]) ∧ VRep w' v y gs ∧ gs.Nodup ∧ (∀ b ∈ gs, w.heap.size ≤ b) ∧ Below w.heap.size w w'

theorem Copy_ok {w : World} {v : Val} {x : Value} {fs : List Nat} (h : VRep w v x fs) (hok : okB v = true) : Calls Try.prog 139 #[x] w (CopyOK v w) := by
  have hc := check_any h
  rw [check_ok hok] at hc
  have hcH := Lib.hid hc
  have hcp := Lib.hid (fun W (hb : Below w.heap.size w W) => copied_any v x fs W (VRep.but h (below_but0 hb) (fun _ _ f => f)) (okV_check hok))
  clear h hok hc
  go_enter Try.func139, Try.ntmps139
  go_wp2_with (first | (go_at_call 135; refine hcH.out.mono ?_; rintro e w1 ⟨rfl, hb1⟩) | (go_at_call 187; refine (hcp.out _ hb1).mono ?_; rintro e w2 ⟨y, gy, rfl, hy, hyn, hyb, hb2⟩))
  go_ret2
  exact ⟨y, gy, rfl, hy, hyn, fun b hb => Nat.le_trans hb1.size (hyb b hb), hb1.trans (hb2.mono hb1.size)⟩
theorem Copy_bad {w : World} {v : Val} {x : Value} {fs : List Nat} (h : VRep w v x fs) (hok : okB v = false) : Calls Try.prog 139 #[x] w fun e w' => e = .returned (.tuple #[.nilIface, .int .i64 (whyF v)]) ∧ Below w.heap.size w w' := by
  have hc := check_any h
  have hne : (whyF v != 0) = true := by simpa using why_bad hok
  have hcH : Hid (Calls Try.prog 135 #[x] w fun e w' => e = .returned (.tuple #[.int .i64 (checkF v).1, .int .i64 (whyF v)]) ∧ Below w.heap.size w w') := Lib.hid hc
  clear h hok hc
  go_enter Try.func139, Try.ntmps139
  go_wp2_with (go_at_call 135; refine hcH.out.mono ?_; rintro e w1 ⟨rfl, hb1⟩)
  go_ret2
  exact ⟨rfl, hb1⟩
end Go.Proofs.Ytgmdbpplfjkjmaa
