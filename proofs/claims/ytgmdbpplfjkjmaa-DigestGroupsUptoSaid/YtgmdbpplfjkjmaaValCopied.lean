/- The walks of value.copied, value.Copy. -/
import Derived.Test.YtgmdbpplfjkjmaaValCopy
namespace Go.Proofs.Ytgmdbpplfjkjmaa
open Go.RowKit
set_option linter.unusedVariables false
set_option linter.unusedSimpArgs false

/-- '[]T{}': a row of the call's own. -/
theorem ownsRow_new (w : World) (e : TypeId) (size : Nat) (B : Nat) (hB : B ≤ w.heap.size) : (w.alloc (.cells #[] e)).ownsRow B e size (.slice (some ⟨w.heap.size, 0, none⟩) 0 0) 0 [] :=
  ⟨by simp, .inr ⟨w.heap.size, 0, #[], rfl, hB, heap_alloc_new w _, Nat.le_refl _, by simp [maxLen], by simp, by simp⟩⟩
theorem byteCells_one (l : List UInt8) : ∀ u ∈ byteCells l, u.oneCell' = true := by
  intro u hu
  obtain ⟨b, _, rfl⟩ := List.mem_map.1 hu
  rfl
theorem ownL_nodup (v : Value) : (ownL v).Nodup := by unfold ownL; cases v.ownBlock <;> simp

/-- A value that lies in no memory is copied as it is. -/
theorem fresh_leaf {v : Val} {x : Value} {w : World} (h : VRep w v x []) : Fresh v w (.returned x) w := ⟨x, [], rfl, h, List.nodup_nil, by simp, Below.refl _ _⟩
set_option maxRecDepth 100000 in
theorem copied_nil  : CopySaid (.nil) := by
  intro x fs w h hok
  have h0 := h
  simp only [VRep] at h
  obtain ⟨rfl, rfl⟩ := h
  have hl := Lib.hid (fresh_leaf h0)
  clear h0 hok
  go_enter Try.func187, Try.ntmps187
  go_wp2
  go_ret
  exact hl.out
set_option maxRecDepth 100000 in
theorem copied_bool (b : Bool) : CopySaid (.bool b) := by
  intro x fs w h hok
  have h0 := h
  simp only [VRep] at h
  obtain ⟨rfl, rfl⟩ := h
  have hl := Lib.hid (fresh_leaf h0)
  clear h0 hok
  go_enter Try.func187, Try.ntmps187
  go_wp2
  go_ret
  exact hl.out
set_option maxRecDepth 100000 in
theorem copied_int (n : Int) : CopySaid (.int n) := by
  intro x fs w h hok
  have h0 := h
  simp only [VRep] at h
  obtain ⟨rfl, hw, rfl⟩ := h
  have hl := Lib.hid (fresh_leaf h0)
  clear h0 hok hw
  go_enter Try.func187, Try.ntmps187
  go_wp2
  go_ret
  exact hl.out
set_option maxRecDepth 100000 in
theorem copied_float (b : Nat) : CopySaid (.float b) := by
  intro x fs w h hok
  have h0 := h
  simp only [VRep] at h
  obtain ⟨rfl, hw, rfl⟩ := h
  have hl := Lib.hid (fresh_leaf h0)
  clear h0 hok hw
  go_enter Try.func187, Try.ntmps187
  go_wp2
  go_ret
  exact hl.out
set_option maxRecDepth 100000 in
theorem copied_text (s : ByteArray) : CopySaid (.text s) := by
  intro x fs w h hok
  have h0 := h
  simp only [VRep] at h
  obtain ⟨rfl, hw, rfl⟩ := h
  have hl := Lib.hid (fresh_leaf h0)
  clear h0 hok hw
  go_enter Try.func187, Try.ntmps187
  go_wp2
  go_ret
  exact hl.out
set_option maxRecDepth 100000 in
theorem copied_ref (n : Int) : CopySaid (.ref n) := by
  intro x fs w h hok
  have h0 := h
  simp only [VRep] at h
  obtain ⟨rfl, hw, rfl⟩ := h
  have hl := Lib.hid (fresh_leaf h0)
  clear h0 hok hw
  go_enter Try.func187, Try.ntmps187
  go_wp2
  go_ret
  exact hl.out

set_option maxRecDepth 100000 in
theorem copied_bytes (l : List UInt8) : CopySaid (.bytes l) := by
  intro x fs w h hok
  simp only [VRep] at h
  obtain ⟨sv, rfl, ho, rfl⟩ := h
  obtain ⟨i0, hi0, hz0, hz1, hz2⟩ := info_parts Try.infoU8
  have hl : l.length ≤ 65536 := by
    have : ownIn (.bytes l) = 0 := hok
    simp only [ownIn] at this
    split at this <;> omega
  obtain ⟨a, cap, rfl, hcap, hmax, -, hform⟩ := ownsRow_form ho
  unfold maxLen at hmax
  have hoH := Lib.hid ho
  clear hok ho
  rcases hform with ⟨rfl, hl0, rfl⟩ | ⟨g, rfl, -, hg, -, hcells⟩
  · obtain rfl : l = [] := List.eq_nil_of_length_eq_zero hl0
    clear hl0 hl hmax hcap
    go_enter Try.func187, Try.ntmps187
    go_wp2_with (at_builtin; refine wpList_append_own_none rfl _ _ 26 rfl w.heap.size 5 i0 1 Try.underlying26 hi0 _ 0 [] rfl (ownsRow_new w _ 1 _ (Nat.le_refl _)) rfl ?_)
    go_ret
    exact ⟨_, _, rfl, ⟨_, rfl, ownsRow_mono (ownsRow_new w _ 1 _ (Nat.le_refl _)), rfl⟩, ownL_nodup _, fun b hb => Nat.le_of_eq (List.mem_singleton.1 hb).symm, (Below.refl _ _).alloc (Nat.le_refl _) _⟩
  · have hcl : ∀ j u, (byteCells l)[j]? = some u → (w.alloc (.cells #[] 5)).cell? ((⟨g, 0, none⟩ : Addr).add j) = some u := by
      intro j u hu
      have hj : j < l.length := by have := (List.getElem?_eq_some_iff.1 hu).1; simpa [byteCells] using this
      have hadd : (⟨g, 0, none⟩ : Addr).add j = ⟨g, j, none⟩ := by unfold Addr.add; split <;> simp_all
      rw [hadd, ((Below.refl w.heap.size w).alloc (Nat.le_refl _) _).cell (p := ⟨g, j, none⟩) hg, hcells j (by omega)]
      exact hu
    have hclH := Lib.hid hcl
    clear hcells hcl
    go_enter Try.func187, Try.ntmps187
    go_wp2_with (at_builtin; refine wpList_append_own _ rfl _ _ 26 rfl w.heap.size 5 i0 _ 1 1 Try.underlying26 hi0 hz0 hz1 hz2 rfl (by omega) _ 0 [] rfl (ownsRow_new w _ 1 _ (Nat.le_refl _)) ⟨g, 0, none⟩ l.length cap (byteCells l) rfl (by simp [byteCells]) ?c1 (byteCells_one l) (by unfold maxLen; omega) (by omega) (by simp) ?_; (case c1 => exact hclH.out); intro v' w' hown' hgr' _)
    go_ret
    have hown := hown'
    have hgr : (w.alloc (.cells #[] 5)).grownBy w' (some w.heap.size) := hgr'
    simp only [Nat.zero_add, List.nil_append] at hown
    refine ⟨_, _, rfl, ⟨_, rfl, ownsRow_mono hown, rfl⟩, ownL_nodup _, fun b hb => (ownsRow_lt hown b hb).1, ((Below.refl _ _).alloc (Nat.le_refl _) _).grown hgr (by simp) (fun k hk => by injection hk with hk; omega)⟩

set_option maxRecDepth 100000 in
theorem copied_dict (d : List (ByteArray × Val)) (ih : ∀ u ∈ d.map (·.2), CopySaid u) : CopySaid (.dict d) := by
  intro x fs w h hok
  simp only [VRep] at h
  obtain ⟨sv, xs, gs, rfl, ho, hd, rfl⟩ := h
  have hlen : d.length ≤ 4096 := by
    have h1 : ownIn (.dict d) = 0 := hok.1
    simp only [ownIn, fieldsF] at h1
    split at h1 <;> omega
  have hcp := Lib.hid (copiedDict_of d ih sv xs gs w ho hd hok.2 hlen)
  clear ih hok ho hd
  go_enter Try.func187, Try.ntmps187
  go_wp2_with (go_at_call 239; refine hcp.out.mono ?_; rintro e w1 ⟨sv1, xs1, gs1, rfl, ho1, hd1, hn1, hb1, hbel⟩)
  go_ret
  exact ⟨_, _, rfl, ⟨sv1, xs1, gs1, rfl, ownsRow_mono ho1, hd1, rfl⟩, hn1, fun b hb => (List.mem_append.1 hb).elim (fun h => (ownsRow_lt ho1 b h).1) (hb1 b), hbel⟩

set_option maxRecDepth 100000 in
set_option maxHeartbeats 800000 in
theorem copied_record (s : ByteArray) (m : Int) (d : List (ByteArray × Val)) (ih : ∀ u ∈ d.map (·.2), CopySaid u) : CopySaid (.record s m d) := by
  intro x fs w h hok
  simp only [VRep] at h
  obtain ⟨b, sv, xs, gs, rfl, hr, hs, hm, ho, hd, rfl⟩ := h
  obtain ⟨r0, r1, r2, hbl, -⟩ := recCells hr
  have hlen : d.length ≤ 4096 := by
    have h1 : ownIn (.record s m d) = 0 := hok.1
    simp only [ownIn] at h1
    split at h1
    · omega
    · split at h1
      · omega
      · unfold fieldsF at h1; split at h1 <;> omega
  have hcp := Lib.hid (copiedDict_of d ih sv xs gs w.drew ho (DsRep.keep _ _ _ hd (fun _ _ => rfl)) hok.2 hlen)
  obtain ⟨a0, cap0, rfl, -⟩ := ownsRow_form ho
  have hsm := Lib.hid (And.intro hs hm)
  clear ih hok ho hd hr hs hm hlen
  go_enter Try.func187, Try.ntmps187
  go_wp2_with fail
  refine wp_region_held_drew (S := (fun w' => w'.cell? ⟨b, 0, none⟩ = some (.string s) ∧ w'.cell? ⟨b, 1, none⟩ = some (.int .i64 m) ∧ w'.cell? ⟨b, 2, none⟩ = some (.slice a0 d.length cap0))) (by kernel_rfl) ?_ (fun hHeld => ?_)
  · exact ⟨r0, r1, r2⟩
  refine wpAnyH_take (i := 0) (v := ?vr0) rfl (by kernel_rfl) (by kernel_rfl) (by kernel_rfl) (fun _ _ _ h => h) (.inl ⟨by rfl, ?hyr0⟩) (by assumption) ?restr0
  case hyr0 => (intro w hSw; (try dsimp only at hSw); go_simp; first | done | with_reducible rfl)
  (try simp only [Act.put, List.setIfInBounds_toArray, List.set_cons_zero, List.set_cons_succ, List.getElem_toArray, List.getElem_cons_zero, List.getElem_cons_succ])
  refine wpAnyH_take (i := 1) (v := ?vr1) rfl (by kernel_rfl) (by kernel_rfl) (by kernel_rfl) (fun _ _ _ h => h) (.inl ⟨by rfl, ?hyr1⟩) (by assumption) ?restr1
  case hyr1 => (intro w hSw; (try dsimp only at hSw); go_simp; first | done | with_reducible rfl)
  (try simp only [Act.put, List.setIfInBounds_toArray, List.set_cons_zero, List.set_cons_succ, List.getElem_toArray, List.getElem_cons_zero, List.getElem_cons_succ])
  refine wpAnyH_take (i := 2) (v := ?vr2) rfl (by kernel_rfl) (by kernel_rfl) (by kernel_rfl) (fun _ _ _ h => h) (.inl ⟨by rfl, ?hyr2⟩) (by assumption) ?restr2
  case hyr2 => (intro w hSw; (try dsimp only at hSw); go_simp; first | done | with_reducible rfl)
  (try simp only [Act.put, List.setIfInBounds_toArray, List.set_cons_zero, List.set_cons_succ, List.getElem_toArray, List.getElem_cons_zero, List.getElem_cons_succ])
  refine wpAnyH_take (i := 3) (v := ?vr3) rfl (by kernel_rfl) (by kernel_rfl) (by kernel_rfl) (fun _ _ _ h => h) (.inl ⟨by rfl, ?hyr3⟩) (by assumption) ?restr3
  case hyr3 => (intro w hSw; (try dsimp only at hSw); go_simp; first | done | with_reducible rfl)
  (try simp only [Act.put, List.setIfInBounds_toArray, List.set_cons_zero, List.set_cons_succ, List.getElem_toArray, List.getElem_cons_zero, List.getElem_cons_succ])
  refine wpAnyH_take (i := 4) (v := ?vr4) rfl (by kernel_rfl) (by kernel_rfl) (by kernel_rfl) (fun _ _ _ h => h) (.inl ⟨by rfl, ?hyr4⟩) (by assumption) ?restr4
  case hyr4 => (intro w hSw; (try dsimp only at hSw); go_simp; first | done | with_reducible rfl)
  (try simp only [Act.put, List.setIfInBounds_toArray, List.set_cons_zero, List.set_cons_succ, List.getElem_toArray, List.getElem_cons_zero, List.getElem_cons_succ])
  refine wpAnyH_take (i := 5) (v := ?vr5) rfl (by kernel_rfl) (by kernel_rfl) (by kernel_rfl) (fun _ _ _ h => h) (.inl ⟨by rfl, ?hyr5⟩) (by assumption) ?restr5
  case hyr5 => (intro w hSw; (try dsimp only at hSw); go_simp; first | done | with_reducible rfl)
  (try simp only [Act.put, List.setIfInBounds_toArray, List.set_cons_zero, List.set_cons_succ, List.getElem_toArray, List.getElem_cons_zero, List.getElem_cons_succ])
  refine wpAnyH_take (i := 6) (v := ?vr6) rfl (by kernel_rfl) (by kernel_rfl) (by kernel_rfl) (fun _ _ _ h => h) (.inl ⟨by rfl, ?hyr6⟩) (by assumption) ?restr6
  case hyr6 => (intro w hSw; (try dsimp only at hSw); go_simp; first | done | with_reducible rfl)
  (try simp only [Act.put, List.setIfInBounds_toArray, List.set_cons_zero, List.set_cons_succ, List.getElem_toArray, List.getElem_cons_zero, List.getElem_cons_succ])
  refine wpAnyH_take (i := 7) (v := ?vr7) rfl (by kernel_rfl) (by kernel_rfl) (by kernel_rfl) (fun _ _ _ h => h) (.inl ⟨by rfl, ?hyr7⟩) (by assumption) ?restr7
  case hyr7 => (intro w hSw; (try dsimp only at hSw); go_simp; first | done | with_reducible rfl)
  (try simp only [Act.put, List.setIfInBounds_toArray, List.set_cons_zero, List.set_cons_succ, List.getElem_toArray, List.getElem_cons_zero, List.getElem_cons_succ])
  refine wpAnyH_take (i := 8) (v := ?vr8) rfl (by kernel_rfl) (by kernel_rfl) (by kernel_rfl) (fun _ _ _ h => h) (.inl ⟨by rfl, ?hyr8⟩) (by assumption) ?restr8
  case hyr8 => (intro w hSw; (try dsimp only at hSw); go_simp; first | done | with_reducible rfl)
  (try simp only [Act.put, List.setIfInBounds_toArray, List.set_cons_zero, List.set_cons_succ, List.getElem_toArray, List.getElem_cons_zero, List.getElem_cons_succ])
  refine wpAnyH_take (i := 9) (v := ?vr9) rfl (by kernel_rfl) (by kernel_rfl) (by kernel_rfl) (fun _ _ _ h => h) (.inl ⟨by rfl, ?hyr9⟩) (by assumption) ?restr9
  case hyr9 => (intro w hSw; (try dsimp only at hSw); go_simp; first | done | with_reducible rfl)
  (try simp only [Act.put, List.setIfInBounds_toArray, List.set_cons_zero, List.set_cons_succ, List.getElem_toArray, List.getElem_cons_zero, List.getElem_cons_succ])
  refine wpAnyH_take (i := 10) (v := ?vr10) rfl (by kernel_rfl) (by kernel_rfl) (by kernel_rfl) (fun _ _ _ h => h) (.inl ⟨by rfl, ?hyr10⟩) (by assumption) ?restr10
  case hyr10 => (intro w hSw; (try dsimp only at hSw); go_simp; first | done | with_reducible rfl)
  (try simp only [Act.put, List.setIfInBounds_toArray, List.set_cons_zero, List.set_cons_succ, List.getElem_toArray, List.getElem_cons_zero, List.getElem_cons_succ])
  refine wpAnyH_take (i := 11) (v := ?vr11) rfl (by kernel_rfl) (by kernel_rfl) (by kernel_rfl) (fun _ _ _ h => h) (.inl ⟨by rfl, ?hyr11⟩) (by assumption) ?restr11
  case hyr11 => (intro w hSw; (try dsimp only at hSw); go_simp; first | done | with_reducible rfl)
  (try simp only [Act.put, List.setIfInBounds_toArray, List.set_cons_zero, List.set_cons_succ, List.getElem_toArray, List.getElem_cons_zero, List.getElem_cons_succ])
  refine wpAnyH_ready (rs := [12]) (by kernel_rfl) (by simp) ?_
  refine AllReadyH.cons rfl (fun K hK => ?_) AllReadyH.nil
  rw [if_pos (by rfl)]
  go_simp
  refine hcp.out.mono ?_
  rintro e w1 ⟨sv1, xs1, gs1, rfl, ho1, hd1, hn1, hb1, hbel⟩
  obtain ⟨a1, cap1, rfl, -⟩ := ownsRow_form ho1
  refine hK.out _ _ ?_ (fun hHeld2 => ?_)
  · exact ⟨(hbel.cell (p := ⟨b, 0, none⟩) hbl).trans r0, (hbel.cell (p := ⟨b, 1, none⟩) hbl).trans r1, (hbel.cell (p := ⟨b, 2, none⟩) hbl).trans r2⟩
  clear hK K
  (try simp only [Act.put, List.setIfInBounds_toArray, List.set_cons_zero, List.set_cons_succ, List.getElem_toArray, List.getElem_cons_zero, List.getElem_cons_succ])
  refine wpAnyH_take (i := 13) (v := ?vr13) rfl (by kernel_rfl) (by kernel_rfl) (by kernel_rfl) (fun _ _ _ h => h) (.inl ⟨by rfl, ?hyr13⟩) (by assumption) ?restr13
  case hyr13 => (intro w hSw; (try dsimp only at hSw); go_simp; first | done | with_reducible rfl)
  (try simp only [Act.put, List.setIfInBounds_toArray, List.set_cons_zero, List.set_cons_succ, List.getElem_toArray, List.getElem_cons_zero, List.getElem_cons_succ])
  refine wpAnyH_ready (rs := [14]) (by kernel_rfl) (by simp) ?_
  refine AllReadyH.cons rfl (fun K hK => ?_) AllReadyH.nil
  rw [if_pos (by rfl)]
  go_simp
  refine hK.out _ _ ?_ (fun hHeld2 => ?_)
  · exact ⟨((hbel.alloc hbel.size _).cell (p := ⟨b, 0, none⟩) hbl).trans r0, ((hbel.alloc hbel.size _).cell (p := ⟨b, 1, none⟩) hbl).trans r1, ((hbel.alloc hbel.size _).cell (p := ⟨b, 2, none⟩) hbl).trans r2⟩
  clear hK K
  (try simp only [Act.put, List.setIfInBounds_toArray, List.set_cons_zero, List.set_cons_succ, List.getElem_toArray, List.getElem_cons_zero, List.getElem_cons_succ])
  refine wpAnyH_take (i := 15) (v := ?vr15) rfl (by kernel_rfl) (by kernel_rfl) (by kernel_rfl) (fun _ _ _ h => h) (.inl ⟨by rfl, ?hyr15⟩) (by assumption) ?restr15
  case hyr15 => (intro w hSw; (try dsimp only at hSw); go_simp; first | done | with_reducible rfl)
  (try simp only [Act.put, List.setIfInBounds_toArray, List.set_cons_zero, List.set_cons_succ, List.getElem_toArray, List.getElem_cons_zero, List.getElem_cons_succ])
  refine wpAnyH_take (i := 16) (v := ?vr16) rfl (by kernel_rfl) (by kernel_rfl) (by kernel_rfl) (fun _ _ _ h => h) (.inl ⟨by rfl, ?hyr16⟩) (by assumption) ?restr16
  case hyr16 => (intro w hSw; (try dsimp only at hSw); go_simp; first | done | with_reducible rfl)
  (try simp only [Act.put, List.setIfInBounds_toArray, List.set_cons_zero, List.set_cons_succ, List.getElem_toArray, List.getElem_cons_zero, List.getElem_cons_succ])
  refine wpAnyH_done (by kernel_rfl) ?_ _
  go_wp2_with fail
  go_ret
  have hnew : ∀ k ∈ ownL (.slice a1 d.length cap1) ++ gs1, w.heap.size ≤ k ∧ k < w1.heap.size := fun k hk => (List.mem_append.1 hk).elim (fun h => ownsRow_lt ho1 k h) (fun h => ⟨hb1 k h, DsRep.lt _ _ _ hd1 k h⟩)
  have hal : Below w1.heap.size w1 (w1.alloc (.cells #[.string s, .int .i64 m, .slice a1 d.length cap1] 134)) := (Below.refl _ _).alloc (Nat.le_refl _) _
  refine ⟨_, _, rfl, ⟨w1.heap.size, _, xs1, gs1, rfl, heap_alloc_new w1 _, hsm.out.1, hsm.out.2, ownsRow_keep (ownsRow_mono ho1) (fun k hk => hal.block k (hnew k (List.mem_append_left _ hk)).2), DsRep.keep _ _ _ hd1 (fun k hk => hal.block k (hnew k (List.mem_append_right _ hk)).2), rfl⟩, ?_, ?_, ?_⟩
  · exact List.nodup_cons.2 ⟨fun hk => by have := (hnew _ hk).2; omega, hn1⟩
  · intro k hk
    rcases List.mem_cons.1 hk with rfl | hk
    · exact hbel.size
    · exact (hnew k hk).1
  · exact ((Below.refl w.heap.size w).drew).trans (hbel.alloc hbel.size _)

set_option maxRecDepth 100000 in
set_option maxHeartbeats 800000 in
theorem copied_list (l : List Val) (ih : ∀ u ∈ l, CopySaid u) : CopySaid (.list l) := by
  intro x fs w h hok
  simp only [VRep] at h
  obtain ⟨sv, xs, gs, rfl, ho, hd, rfl⟩ := h
  have hlen : l.length ≤ 4096 := by
    have h1 : ownIn (.list l) = 0 := hok.1
    simp only [ownIn] at h1
    split at h1 <;> omega
  obtain ⟨a, cap, rfl, hcap, hmax, -, hform⟩ := ownsRow_form ho
  unfold maxLen at hmax
  have hdat := Lib.hid (VsRep.at l xs gs hd)
  have hformH := Lib.hid hform
  have hokm := okVs_mem l hok.2
  have ihH := Lib.hid (fun u hu x f w hv => ih u hu x f w hv (hokm u hu))
  obtain ⟨i0, hi0, hz0, hz1, hz2⟩ := info_parts Try.infoAny
  have hl4 : ((l.length : Nat) : Int) ≤ 4096 := by omega
  clear ho hd hform ih hok hokm
  go_enter Try.func187, Try.ntmps187
  go_wp2_with (at_make; refine wpList_make_own _ rfl _ _ _ rfl w.heap.size 20 i0 _ 1 Try.underlying128 hi0 hz0 hz1 .i64 .i64 _ l.length rfl rfl rfl (by rw [hz2]; omega) (by unfold maxLen; omega) (Nat.le_refl _) ?_; intro w0 hown0 hgr0)
  have hL0 := Listed.made hown0
  have hb0 : Below w.heap.size w w0 := (Below.refl _ _).grown hgr0 (Nat.le_refl _) (fun k hk => by cases hk)
  have hL0H := Lib.hid hL0
  clear hown0 hgr0 hL0
  go_loopw [5, 26] (fun sv i wr => ∃ (k : Nat) (ys : List Value) (hs : List Nat), k ≤ l.length ∧ i = .int .i64 k ∧ Listed w.heap.size wr 20 1 sv k ys hs ∧ VsRep wr (l.take k) ys hs ∧ Below w.heap.size w wr) (fun _ i _ => l.length - (intOf i).toNat)
  case atStart => exact ⟨0, [], [], Nat.zero_le _, rfl, hL0H.out, ⟨rfl, rfl⟩, hb0⟩
  case round =>
    obtain ⟨k, ys, hs, hk, rfl, hL, hds, hb⟩ := hrel
    have hdsH := Lib.hid hds
    clear hds
    by_cases hlt : k < l.length
    · rcases hformH.out with ⟨-, h0', -⟩ | ⟨g, rfl, -, hg, -, hcells⟩
      · omega
      · obtain ⟨v, hp⟩ : ∃ p, l[k]? = some p := ⟨_, List.getElem?_eq_getElem hlt⟩
        obtain ⟨x, f, e1, e3, -⟩ := hdat.out k _ hp
        have hc0 := (hb.cell (p := ⟨g, k, none⟩) hg).trans ((hcells k (by omega)).trans e1)
        have hrep := Lib.hid (VRep.but e3 (below_but0 hb) (fun _ _ f => f))
        have hcopy := Lib.hid (ihH.out v (List.mem_of_getElem? hp) x f wr hrep.out)
        have hpH := Lib.hid hp
        clear e1 e3 hcells hp
        go_wp2_with (first | (go_at_call 187; refine hcopy.out.mono ?_; rintro e w1 ⟨y, gy, rfl, hy, hyn, hyb, hb1⟩; have hy1 := hy.one) | (refine wpList_of_exec rfl (exec_buildSlice (T := 128) (n := 1) (parts := #[(0, .tmp 32)]) (vs := #[(0, y)]) rfl (by simp [Act.eval]) (run_buildAny1 y hy1 _)) ?_) | (at_builtin; refine wpList_append_lies _ rfl _ _ 128 rfl w.heap.size 20 i0 _ 1 16 Try.underlying128 hi0 hz0 hz1 hz2 rfl (by omega) _ k ys rfl ((hL.below hb1).own.alloc _) ⟨w1.heap.size, 0, none⟩ 1 1 [y] rfl rfl (World.news_of_block (cs := #[y]) (t := 20) (fr := (0, 0)) (heap_alloc_new w1 _)) (one_single hy1) (by omega) (by unfold maxLen; omega) (by omega) (by have := hb1.size; have := hb.size; simp; omega) _ rfl ?_; intro g2 cap2 w2 hown2 hgr2 hat2 hlt2))
        have hfin := list_round hpH.out hL hdsH.out hb hb1 hy hyn hyb hown2 hgr2 hat2 hlt2
        go_roundw
        case rel => exact ⟨k + 1, _, _, by omega, by go_num, hfin⟩
        case measure => simp [intOf]; omega
    · obtain rfl : k = l.length := by omega
      have hds := hdsH.out
      rw [List.take_length] at hds
      have hdsH2 := Lib.hid hds
      clear hds
      go_wp2_with fail
      go_ret
      exact ⟨_, _, rfl, ⟨_, _, _, rfl, ownsRow_mono hL.own, hdsH2.out, rfl⟩, hL.nodup, fun b hbm => (List.mem_append.1 hbm).elim (fun h => (ownsRow_lt hL.own b h).1) (fun h => (hL.new b h).1), hb⟩

theorem copied_any : ∀ v, CopySaid v := val_ind fun v ih => by
  cases v with
  | nil => exact copied_nil
  | bool b => exact copied_bool b
  | int n => exact copied_int n
  | float b => exact copied_float b
  | text s => exact copied_text s
  | bytes l => exact copied_bytes l
  | ref n => exact copied_ref n
  | list l => exact copied_list l ih
  | dict d => exact copied_dict d ih
  | record s n d => exact copied_record s n d ih
  | nothing => exact fun _ _ _ _ h => h.elim
  | alien u => exact fun _ _ _ _ h => h.elim
end Go.Proofs.Ytgmdbpplfjkjmaa
