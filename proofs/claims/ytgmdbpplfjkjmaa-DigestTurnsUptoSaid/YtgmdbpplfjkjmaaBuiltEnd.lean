/- tenonmake.Built: a value of its own out of a term. -/
import Derived.Test.YtgmdbpplfjkjmaaBuilt
import Derived.Test.YtgmdbpplfjkjmaaMem
namespace Go.Proofs.Ytgmdbpplfjkjmaa
open Go.RowKit
set_option linter.unusedVariables false
set_option linter.unusedSimpArgs false

section
variable (b : Bool) (n : Int) (fl : Nat) (tx : ByteArray) (bs : List UInt8) (rf : Int) (ls : List Term) (es : List (ByteArray × Term)) (cl : ByteArray) (ver : Int)
/-- The kinds that take no memory but Alien's. -/
theorem built_plain (k : Int) (hk : k = 1 ∨ k = 2 ∨ k = 3 ∨ k = 4 ∨ k = 5 ∨ k = 7 ∨ k = 11) : BuiltSaid (.mk k b n fl tx bs rf ls es cl ver) := by
  intro cs w h
  simp only [TRep] at h
  obtain ⟨sb, sl, se, xl, xe, rfl, ⟨wk, wn, wfl, wtx, wrf, wcl, wver⟩, -⟩ := h
  have fin : ∀ (v : Val) (y : Value) (w' : World), VRep w' v y [] → Below w.heap.size w w' → Fresh v w (.returned y) w' := fun v y w' hv hb => ⟨y, [], rfl, hv, List.nodup_nil, fun _ h => (by cases h), hb⟩
  have hal : Below w.heap.size w (w.alloc (.cells #[.int .i64 k, .bool b, .int .i64 n, .float .f64 fl, .string tx, sb, .int .u64 rf, sl, se, .string cl, .int .i64 ver] 31)) := (Below.refl _ _).alloc (Nat.le_refl _) _
  rcases hk with rfl | rfl | rfl | rfl | rfl | rfl | rfl
  all_goals go_enter Try.func11, Try.ntmps11
  all_goals go_wp2
  all_goals go_ret
  · exact fin .nil _ _ ⟨rfl, rfl⟩ hal
  · exact fin (.bool b) _ _ ⟨rfl, rfl⟩ hal
  · exact fin (.int n) _ _ ⟨rfl, wn, rfl⟩ hal
  · exact fin (.float fl) _ _ ⟨rfl, wfl, rfl⟩ hal
  · exact fin (.text tx) _ _ ⟨rfl, wtx, rfl⟩ hal
  · exact fin (.ref rf) _ _ ⟨rfl, wrf, rfl⟩ hal
  · exact fin .nothing _ _ ⟨rfl, rfl⟩ hal

theorem built_alien (k : Int) (hk : (k == 1) = false ∧ (k == 2) = false ∧ (k == 3) = false ∧ (k == 4) = false ∧ (k == 5) = false ∧ (k == 6) = false ∧ (k == 7) = false ∧ (k == 8) = false ∧ (k == 9) = false ∧ (k == 10) = false ∧ (k == 11) = false) : BuiltSaid (.mk k b n fl tx bs rf ls es cl ver) := by
  intro cs w h
  simp only [TRep] at h
  obtain ⟨sb, sl, se, xl, xe, rfl, -⟩ := h
  obtain ⟨k1, k2, k3, k4, k5, k6, k7, k8, k9, k10, k11⟩ := hk
  have hv : builtV (.mk k b n fl tx bs rf ls es cl ver) = .alien (alienT n) := by
    rw [builtV, k1, k2, k3, k4, k5, k6, k7, k8, k9, k10, k11]; rfl
  rw [hv]
  have hal := Lib.hid (fun W => alien_said n W)
  have hkd := alien_kind n
  clear hv
  go_enter Try.func11, Try.ntmps11
  go_wp2_with (go_at_call 69; refine (hal.out _).mono ?_; rintro e w' ⟨⟨y, rfl⟩, hb⟩)
  go_ret
  exact ⟨_, [], rfl, ⟨y, rfl, hkd, rfl⟩, List.nodup_nil, fun _ h => (by cases h), ((Below.refl _ _).alloc (Nat.le_refl _) _).trans (below_le hb (by simp))⟩

theorem built_dict (ih : ∀ u ∈ es.map (·.2), BuiltSaid u) : BuiltSaid (.mk 9 b n fl tx bs rf ls es cl ver) := by
  intro cs w h
  simp only [TRep] at h
  obtain ⟨sb, sl, se, xl, xe, rfl, -, -, -, -, ha, he⟩ := h
  have hd := Lib.hid (fun W (hb : Below w.heap.size w W) => dict_built es ih se xe W (ha.keep (keeps_of_below hb)) (EsRep.keep (keeps_of_below hb) _ _ he))
  have hv : builtV (.mk 9 b n fl tx bs rf ls es cl ver) = .dict (builtEs es) := by rw [builtV]; rfl
  rw [hv]
  clear ha he ih hv
  go_enter Try.func11, Try.ntmps11
  go_wp2_with (go_at_call 68; refine (hd.out _ ((Below.refl _ _).alloc (Nat.le_refl _) _)).mono ?_; rintro e w' ⟨sv, xs, gs, rfl, ho, hds, hn, hg, hb⟩)
  go_ret
  refine ⟨_, _, rfl, ⟨sv, xs, gs, rfl, ownsRow_mono ho, hds, rfl⟩, hn, fun k hk => ?_, ((Below.refl _ _).alloc (Nat.le_refl _) _).trans (below_le hb (by simp))⟩
  have hw : w.heap.size ≤ (w.alloc (.cells #[.int .i64 9, .bool b, .int .i64 n, .float .f64 fl, .string tx, sb, .int .u64 rf, sl, se, .string cl, .int .i64 ver] 31)).heap.size := by simp
  rcases List.mem_append.1 hk with hk | hk
  · exact Nat.le_trans hw (ownsRow_lt ho k hk).1
  · exact Nat.le_trans hw (hg k hk)

set_option maxRecDepth 100000 in
theorem built_bytes : BuiltSaid (.mk 6 b n fl tx bs rf ls es cl ver) := by
  intro cs w h
  simp only [TRep] at h
  obtain ⟨sb, sl, se, xl, xe, rfl, -, ⟨oa, cap, rfl, hcap, hmax, hsm, hnil, hxl, hcells⟩, -⟩ := h
  have hv : builtV (.mk 6 b n fl tx bs rf ls es cl ver) = .bytes bs := by rw [builtV]; rfl
  rw [hv]
  obtain ⟨i0, hi0, hz0, hz1, hz2⟩ := info_parts Try.infoU8
  obtain ⟨W, hW⟩ : ∃ W, W = w.alloc (.cells #[.int .i64 6, .bool b, .int .i64 n, .float .f64 fl, .string tx, .slice oa bs.length cap, .int .u64 rf, sl, se, .string cl, .int .i64 ver] 31) := ⟨_, rfl⟩
  have hWb : Below w.heap.size w W := by rw [hW]; exact (Below.refl _ _).alloc (Nat.le_refl _) _
  have hWs : w.heap.size ≤ W.heap.size := hWb.size
  have hown0 := ownsRow_new W 5 1 w.heap.size hWs
  have hb0 : Below w.heap.size w (W.alloc (.cells #[] 5)) := hWb.alloc hWs _
  unfold maxLen at hmax
  cases oa with
  | none =>
    have hc0 := hnil rfl
    have hl0 : bs.length = 0 := by omega
    obtain rfl : bs = [] := List.eq_nil_of_length_eq_zero hl0
    subst hc0
    clear hv hl0 hnil hxl hcells hsm hmax hcap
    rw [hW] at hown0 hb0
    simp only [size_alloc, List.length_nil] at hown0 hb0
    go_enter Try.func11, Try.ntmps11
    go_wp2_with (at_builtin; refine wpList_append_own_none rfl _ _ 26 rfl w.heap.size 5 i0 1 Try.underlying26 hi0 _ 0 [] rfl hown0 rfl ?_)
    go_ret
    exact ⟨_, _, rfl, ⟨_, rfl, ownsRow_mono hown0, rfl⟩, ownL_nodup _, fun k hk => (ownsRow_lt hown0 k hk).1, hb0⟩
  | some ad =>
    have hcl : ∀ j u, (byteCells bs)[j]? = some u → (W.alloc (.cells #[] 5)).cell? (ad.add j) = some u := by
      intro j u hu
      have hj : j < bs.length := by have := (List.getElem?_eq_some_iff.1 hu).1; simpa [byteCells] using this
      obtain ⟨b', o', e, hc⟩ := hcells (by omega)
      cases e
      rw [Addr.add_mid]
      exact keeps_of_below hb0 _ _ ((hc j (by omega)).trans hu)
    have hclH := Lib.hid hcl
    clear hcells hcl hnil hxl hv
    rw [hW] at hclH hown0 hb0
    simp only [size_alloc] at hown0
    go_enter Try.func11, Try.ntmps11
    go_wp2_with (at_builtin; refine wpList_append_own _ rfl _ _ 26 rfl w.heap.size 5 i0 _ 1 1 Try.underlying26 hi0 hz0 hz1 hz2 rfl (by omega) _ 0 [] rfl hown0 ad bs.length cap (byteCells bs) rfl (by simp [byteCells]) ?c1 (byteCells_one bs) (by unfold maxLen; omega) (by omega) (by simp; omega) ?_; (case c1 => exact hclH.out); intro v' w' hown' hgr' _)
    go_ret
    have hown := hown'
    simp only [Nat.zero_add, List.nil_append] at hown
    exact ⟨_, _, rfl, ⟨_, rfl, ownsRow_mono hown, rfl⟩, ownL_nodup _, fun k hk => (ownsRow_lt hown k hk).1, hb0.grown hgr' (by simp; omega) (fun k hk => by injection hk with hk; rw [← hk]; simp)⟩
end
end Go.Proofs.Ytgmdbpplfjkjmaa

/-! tenonmake.Built, of any term; tenonmake.Record. -/
namespace Go.Proofs.Ytgmdbpplfjkjmaa
open Go.RowKit
set_option linter.unusedVariables false
set_option linter.unusedSimpArgs false

theorem eleven {cs : List Value} (h : cs.length = 11) : ∃ c0 c1 c2 c3 c4 c5 c6 c7 c8 c9 c10, cs = [c0, c1, c2, c3, c4, c5, c6, c7, c8, c9, c10] := by
  match cs, h with
  | [c0, c1, c2, c3, c4, c5, c6, c7, c8, c9, c10], _ => exact ⟨c0, c1, c2, c3, c4, c5, c6, c7, c8, c9, c10, rfl⟩
section
variable (b : Bool) (n : Int) (fl : Nat) (tx : ByteArray) (bs : List UInt8) (rf : Int) (ls : List Term) (es : List (ByteArray × Term)) (cl : ByteArray) (ver : Int)
set_option maxRecDepth 100000 in
set_option maxHeartbeats 800000 in
theorem built_record (ih : ∀ u ∈ es.map (·.2), BuiltSaid u) : BuiltSaid (.mk 10 b n fl tx bs rf ls es cl ver) := by
  intro cs w h
  simp only [TRep] at h
  obtain ⟨sb, sl, se, xl, xe, rfl, ⟨-, -, -, -, -, wcl, wver⟩, -, -, -, ha, he⟩ := h
  have hd := Lib.hid (fun W (hb : Below w.heap.size w W) => dict_built es ih se xe W (ha.keep (keeps_of_below hb)) (EsRep.keep (keeps_of_below hb) _ _ he))
  have hv : builtV (.mk 10 b n fl tx bs rf ls es cl ver) = .record cl ver (builtEs es) := by rw [builtV]; rfl
  rw [hv]
  have hsm := Lib.hid (And.intro wcl wver)
  clear ha he ih hv wcl wver
  go_enter Try.func11, Try.ntmps11
  go_wp2_with fail
  generalize hW : w.alloc (.cells #[.int .i64 10, .bool b, .int .i64 n, .float .f64 fl, .string tx, sb, .int .u64 rf, sl, se, .string cl, .int .i64 ver] 31) = W
  have hWb : Below w.heap.size w W := by rw [← hW]; exact (Below.refl _ _).alloc (Nat.le_refl _) _
  have hWs : w.heap.size ≤ W.heap.size := hWb.size
  have hWl : w.heap.size < W.heap.size := by rw [← hW]; simp
  have r9 : W.cell? ⟨w.heap.size, 9, none⟩ = some (.string cl) := by rw [← hW]; simp [go_sem]
  have r10 : W.cell? ⟨w.heap.size, 10, none⟩ = some (.int .i64 ver) := by rw [← hW]; simp [go_sem]
  have r8 : W.cell? ⟨w.heap.size, 8, none⟩ = some se := by rw [← hW]; simp [go_sem]
  clear hW
  have hSk : ∀ w', Below W.heap.size W w' → w'.cell? ⟨w.heap.size, 9, none⟩ = some (.string cl) ∧ w'.cell? ⟨w.heap.size, 10, none⟩ = some (.int .i64 ver) ∧ w'.cell? ⟨w.heap.size, 8, none⟩ = some se := fun w' hb' => ⟨keeps_of_below hb' _ _ r9, keeps_of_below hb' _ _ r10, keeps_of_below hb' _ _ r8⟩
  clear r9 r10 r8
  refine wp_region_held_drew (S := (fun w' => w'.cell? ⟨w.heap.size, 9, none⟩ = some (.string cl) ∧ w'.cell? ⟨w.heap.size, 10, none⟩ = some (.int .i64 ver) ∧ w'.cell? ⟨w.heap.size, 8, none⟩ = some se)) (by kernel_rfl) ?_ (fun hHeld => ?_)
  · exact hSk _ (Below.refl _ W).drew
  refine wpAnyH_take (i := 0) (v := ?vr0) rfl (by kernel_rfl) (by kernel_rfl) (by kernel_rfl) (fun _ _ _ h => h) (.inl ⟨by rfl, ?hyr0⟩) (by assumption) ?restr0
  case hyr0 => (intro w hSw; (try dsimp only at hSw); go_simp; first | done | with_reducible rfl)
  (try simp only [Act.put, pu1, pu2, pu3, pu4, pu5, pu6])
  refine wpAnyH_take (i := 1) (v := ?vr1) rfl (by kernel_rfl) (by kernel_rfl) (by kernel_rfl) (fun _ _ _ h => h) (.inl ⟨by rfl, ?hyr1⟩) (by assumption) ?restr1
  case hyr1 => (intro w hSw; (try dsimp only at hSw); go_simp; first | done | with_reducible rfl)
  (try simp only [Act.put, pu1, pu2, pu3, pu4, pu5, pu6])
  refine wpAnyH_take (i := 2) (v := ?vr2) rfl (by kernel_rfl) (by kernel_rfl) (by kernel_rfl) (fun _ _ _ h => h) (.inl ⟨by rfl, ?hyr2⟩) (by assumption) ?restr2
  case hyr2 => (intro w hSw; (try dsimp only at hSw); go_simp; first | done | with_reducible rfl)
  (try simp only [Act.put, pu1, pu2, pu3, pu4, pu5, pu6])
  refine wpAnyH_take (i := 3) (v := ?vr3) rfl (by kernel_rfl) (by kernel_rfl) (by kernel_rfl) (fun _ _ _ h => h) (.inl ⟨by rfl, ?hyr3⟩) (by assumption) ?restr3
  case hyr3 => (intro w hSw; (try dsimp only at hSw); go_simp; first | done | with_reducible rfl)
  (try simp only [Act.put, pu1, pu2, pu3, pu4, pu5, pu6])
  refine wpAnyH_take (i := 4) (v := ?vr4) rfl (by kernel_rfl) (by kernel_rfl) (by kernel_rfl) (fun _ _ _ h => h) (.inl ⟨by rfl, ?hyr4⟩) (by assumption) ?restr4
  case hyr4 => (intro w hSw; (try dsimp only at hSw); go_simp; first | done | with_reducible rfl)
  (try simp only [Act.put, pu1, pu2, pu3, pu4, pu5, pu6])
  refine wpAnyH_take (i := 5) (v := ?vr5) rfl (by kernel_rfl) (by kernel_rfl) (by kernel_rfl) (fun _ _ _ h => h) (.inl ⟨by rfl, ?hyr5⟩) (by assumption) ?restr5
  case hyr5 => (intro w hSw; (try dsimp only at hSw); go_simp; first | done | with_reducible rfl)
  (try simp only [Act.put, pu1, pu2, pu3, pu4, pu5, pu6])
  refine wpAnyH_ready (rs := [6]) (by kernel_rfl) (by simp) ?_
  refine AllReadyH.cons rfl (fun K hK => ?_) AllReadyH.nil
  rw [if_pos (by rfl)]
  go_simp
  refine (hd.out W.drew hWb.drew).mono ?_
  rintro e w1 ⟨sv1, xs1, gs1, rfl, ho1, hd1, hn1, hb1, hbel⟩
  obtain ⟨a1, cap1, rfl, -⟩ := ownsRow_form ho1
  have hbw : Below w.heap.size w w1 := hWb.drew.trans (hbel.mono hWs)
  have hbel' : Below W.heap.size W w1 := ((Below.refl W.heap.size W).drew).trans hbel
  refine hK.out _ _ ?_ (fun hHeld2 => ?_)
  · exact hSk _ hbel'
  clear hK K
  (try simp only [Act.put, pu1, pu2, pu3, pu4, pu5, pu6])
  refine wpAnyH_take (i := 7) (v := ?vr7) rfl (by kernel_rfl) (by kernel_rfl) (by kernel_rfl) (fun _ _ _ h => h) (.inl ⟨by rfl, ?hyr7⟩) (by assumption) ?restr7
  case hyr7 => (intro w hSw; (try dsimp only at hSw); go_simp; first | done | with_reducible rfl)
  (try simp only [Act.put, pu1, pu2, pu3, pu4, pu5, pu6])
  refine wpAnyH_ready (rs := [8]) (by kernel_rfl) (by simp) ?_
  refine AllReadyH.cons rfl (fun K hK => ?_) AllReadyH.nil
  rw [if_pos (by rfl)]
  go_simp
  refine hK.out _ _ ?_ (fun hHeld2 => ?_)
  · exact hSk _ (hbel'.alloc hbel'.size _)
  clear hK K
  (try simp only [Act.put, pu1, pu2, pu3, pu4, pu5, pu6])
  refine wpAnyH_take (i := 9) (v := ?vr9) rfl (by kernel_rfl) (by kernel_rfl) (by kernel_rfl) (fun _ _ _ h => h) (.inl ⟨by rfl, ?hyr9⟩) (by assumption) ?restr9
  case hyr9 => (intro w hSw; (try dsimp only at hSw); go_simp; first | done | with_reducible rfl)
  (try simp only [Act.put, pu1, pu2, pu3, pu4, pu5, pu6])
  refine wpAnyH_take (i := 10) (v := ?vr10) rfl (by kernel_rfl) (by kernel_rfl) (by kernel_rfl) (fun _ _ _ h => h) (.inl ⟨by rfl, ?hyr10⟩) (by assumption) ?restr10
  case hyr10 => (intro w hSw; (try dsimp only at hSw); go_simp; first | done | with_reducible rfl)
  (try simp only [Act.put, pu1, pu2, pu3, pu4, pu5, pu6])
  refine wpAnyH_done (by kernel_rfl) ?_ _
  go_wp2_with fail
  go_ret
  have hnew : ∀ k ∈ ownL (.slice a1 (builtEs es).length cap1) ++ gs1, W.heap.size ≤ k ∧ k < w1.heap.size := fun k hk => (List.mem_append.1 hk).elim (fun h => ownsRow_lt ho1 k h) (fun h => ⟨hb1 k h, DsRep.lt _ _ _ hd1 k h⟩)
  have hal : Below w1.heap.size w1 (w1.alloc (.cells #[.string cl, .int .i64 ver, .slice a1 (builtEs es).length cap1] 134)) := (Below.refl _ _).alloc (Nat.le_refl _) _
  refine ⟨_, _, rfl, ⟨w1.heap.size, _, xs1, gs1, rfl, heap_alloc_new w1 _, hsm.out.1, hsm.out.2, ownsRow_keep (ownsRow_mono ho1) (fun k hk => hal.block k (hnew k (List.mem_append_left _ hk)).2), DsRep.keep _ _ _ hd1 (fun k hk => hal.block k (hnew k (List.mem_append_right _ hk)).2), rfl⟩, ?_, ?_, ?_⟩
  · exact List.nodup_cons.2 ⟨fun hk => by have := (hnew _ hk).2; omega, hn1⟩
  · intro k hk
    rcases List.mem_cons.1 hk with rfl | hk
    · exact hbw.size
    · have := (hnew k hk).1; omega
  · exact hbw.alloc hbw.size _

set_option maxRecDepth 100000 in
set_option maxHeartbeats 1600000 in
theorem built_list (ih : ∀ u ∈ ls, BuiltSaid u) : BuiltSaid (.mk 8 b n fl tx bs rf ls es cl ver) := by
  intro cs w h
  simp only [TRep] at h
  obtain ⟨sb, sl, se, xl, xe, rfl, -, -, ⟨oa, cap, rfl, hcap, hmax, hsm, -, -, hform⟩, hd, -⟩ := h
  have hv : builtV (.mk 8 b n fl tx bs rf ls es cl ver) = .list (ls.map builtV) := by rw [builtV, ← builtVs_eq]; rfl
  rw [hv]
  unfold maxLen at hmax
  have hdat := Lib.hid (TsRep.at ls xl hd)
  have hformH := Lib.hid hform
  have ihH := Lib.hid ih
  obtain ⟨i0, hi0, hz0, hz1, hz2⟩ := info_parts Try.infoAny
  obtain ⟨W, hW⟩ : ∃ W, W = w.alloc (.cells #[.int .i64 8, .bool b, .int .i64 n, .float .f64 fl, .string tx, sb, .int .u64 rf, .slice oa ls.length cap, se, .string cl, .int .i64 ver] 31) := ⟨_, rfl⟩
  have hWb : Below w.heap.size w W := by rw [hW]; exact (Below.refl _ _).alloc (Nat.le_refl _) _
  have hWs : W.heap.size = w.heap.size + 1 := by rw [hW]; simp
  have r7 : W.cell? ⟨w.heap.size, 7, none⟩ = some (.slice oa ls.length cap) := by rw [hW]; simp [go_sem]
  have hown0 := ownsRow_new W 20 1 (w.heap.size + 1) (by omega)
  rw [hWs] at hown0
  have hL0H := Lib.hid (Listed.made hown0)
  have hb0 : Below (w.heap.size + 1) W (W.alloc (.cells #[] 20)) := (Below.refl _ _).alloc (by omega) _
  have hWH := Lib.hid hW
  clear hd hform ih hv hown0 hW
  go_enter Try.func11, Try.ntmps11
  go_wp2_with fail
  rw [← hWH.out]
  go_loopw [3, 4] (fun sv i wr => ∃ (k : Nat) (ys : List Value) (hs : List Nat), k ≤ ls.length ∧ i = .int .i64 k ∧ Listed (w.heap.size + 1) wr 20 1 sv k ys hs ∧ VsRep wr ((ls.map builtV).take k) ys hs ∧ Below (w.heap.size + 1) W wr) (fun _ i _ => ls.length - (intOf i).toNat)
  case atStart => exact ⟨0, [], [], Nat.zero_le _, rfl, hL0H.out, ⟨rfl, rfl⟩, hb0⟩
  case round =>
    obtain ⟨k, ys, hs, hk, rfl, hL, hds, hb⟩ := hrel
    have hdsH := Lib.hid hds
    clear hds
    have q7 : wr.cell? ⟨w.heap.size, 7, none⟩ = some (.slice oa ls.length cap) := (hb.cell (p := ⟨w.heap.size, 7, none⟩) (by simp)).trans r7
    have hbsz := hb.size
    have hbw : Below w.heap.size w wr := hWb.trans (hb.mono (by omega))
    by_cases hlt : k < ls.length
    · obtain ⟨b', o, rfl, hcells⟩ := hformH.out (by omega)
      obtain ⟨t, hp⟩ : ∃ p, ls[k]? = some p := ⟨_, List.getElem?_eq_getElem hlt⟩
      obtain ⟨cs, ht, e1⟩ := hdat.out k _ hp
      have hcell : ∀ j, j < 11 → wr.cell? ⟨b', o + k * 11 + j, none⟩ = cs[j]? := fun j hj => by
        have h1 := hcells (k * 11 + j) (by omega)
        rw [e1 j hj, ← Nat.add_assoc] at h1
        have hl := ht.len
        rw [List.getElem?_eq_getElem (by omega)] at h1 ⊢
        exact keeps_of_below hbw _ _ h1
      have hlen := ht.len
      have hih := Lib.hid (ihH.out t (List.mem_of_getElem? hp) cs wr (TRep.keep (keeps_of_below hbw) _ _ ht))
      have hpH : Hid ((ls.map builtV)[k]? = some (builtV t)) := Lib.hid (by rw [List.getElem?_map, hp]; rfl)
      obtain ⟨c0, c1, c2, c3, c4, c5, c6, c7, c8, c9, c10, rfl⟩ := eleven hlen
      · clear hlen
        have q0' := hcell 0 (by omega)
        have q1' := hcell 1 (by omega)
        have q2' := hcell 2 (by omega)
        have q3' := hcell 3 (by omega)
        have q4' := hcell 4 (by omega)
        have q5' := hcell 5 (by omega)
        have q6' := hcell 6 (by omega)
        have q7' := hcell 7 (by omega)
        have q8' := hcell 8 (by omega)
        have q9' := hcell 9 (by omega)
        have q10' := hcell 10 (by omega)
        simp only [List.getElem?_cons_zero, List.getElem?_cons_succ, Nat.reduceAdd, Nat.add_zero] at q0' q1' q2' q3' q4' q5' q6' q7' q8' q9' q10'
        clear hcell hcells e1 ht hp
        go_wp2_with (first | (go_at_call 11; refine hih.out.mono ?_; rintro e w1 ⟨y, gy, rfl, hy, hyn, hyb, hb1⟩; have hy1 := hy.one) | (refine wpList_of_exec rfl (exec_buildSlice (T := 128) (n := 1) (parts := #[(0, .tmp 58)]) (vs := #[(0, y)]) rfl (by simp [Act.eval]) (run_buildAny1 y hy1 _)) ?_) | (at_builtin; refine wpList_append_lies _ rfl _ _ 128 rfl (w.heap.size + 1) 20 i0 _ 1 16 Try.underlying128 hi0 hz0 hz1 hz2 rfl (by omega) _ k ys rfl ((hL.below hb1).own.alloc _) ⟨w1.heap.size, 0, none⟩ 1 1 [y] rfl rfl (World.news_of_block (cs := #[y]) (t := 20) (fr := (0, 0)) (heap_alloc_new w1 _)) (one_single hy1) (by omega) (by unfold maxLen; omega) (by omega) (by have := hb1.size; simp; omega) _ rfl ?_; intro g2 cap2 w2 hown2 hgr2 hat2 hlt2))
        have hbW : Below W.heap.size W wr := by rw [hWs]; exact hb
        have hLW := hL
        rw [← hWs] at hLW hown2
        have hfin := list_round hpH.out hLW hdsH.out hbW hb1 hy hyn hyb hown2 hgr2 hat2 hlt2
        rw [hWs] at hfin
        go_roundw
        case rel => exact ⟨k + 1, _, _, by omega, by go_num, hfin⟩
        case measure => simp [intOf]; omega
    · obtain rfl : k = ls.length := by omega
      have hds := hdsH.out
      rw [List.take_of_length_le (by simp)] at hds
      have hdsH2 := Lib.hid hds
      clear hds
      go_wp2_with fail
      go_ret
      exact ⟨_, _, rfl, ⟨_, _, _, rfl, by rw [List.length_map]; exact ownsRow_mono hL.own, hdsH2.out, rfl⟩, hL.nodup, fun b hbm => (List.mem_append.1 hbm).elim (fun h => by have := (ownsRow_lt hL.own b h).1; omega) (fun h => by have := (hL.new b h).1; omega), hbw⟩
end
theorem built_any : ∀ t, BuiltSaid t := term_all fun t ih => by
  obtain ⟨k, b, n, fl, tx, bs, rf, ls, es, cl, ver⟩ := t
  have ihl : ∀ u ∈ ls, BuiltSaid u := fun u hu => ih u (List.mem_append_left _ hu)
  have ihe : ∀ u ∈ es.map (·.2), BuiltSaid u := fun u hu => ih u (List.mem_append_right _ hu)
  by_cases h1 : k = 1 ∨ k = 2 ∨ k = 3 ∨ k = 4 ∨ k = 5 ∨ k = 7 ∨ k = 11
  · exact built_plain b n fl tx bs rf ls es cl ver k h1
  by_cases h6 : k = 6
  · subst h6; exact built_bytes b n fl tx bs rf ls es cl ver
  by_cases h8 : k = 8
  · subst h8; exact built_list b n fl tx bs rf ls es cl ver ihl
  by_cases h9 : k = 9
  · subst h9; exact built_dict b n fl tx bs rf ls es cl ver ihe
  by_cases h10 : k = 10
  · subst h10; exact built_record b n fl tx bs rf ls es cl ver ihe
  · refine built_alien b n fl tx bs rf ls es cl ver k ⟨?_, ?_, ?_, ?_, ?_, ?_, ?_, ?_, ?_, ?_, ?_⟩ <;> simp <;> omega
end Go.Proofs.Ytgmdbpplfjkjmaa
