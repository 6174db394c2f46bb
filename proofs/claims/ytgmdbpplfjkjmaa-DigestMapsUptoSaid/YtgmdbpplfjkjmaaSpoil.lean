/- tenonmake.Spoil and spoilt: only the blocks of the value turn. -/
import Derived.Test.YtgmdbpplfjkjmaaPlain
namespace Go.Proofs.Ytgmdbpplfjkjmaa
open Go.RowKit
set_option linter.unusedVariables false
set_option linter.unusedSimpArgs false

theorem cell_set_ne {w : World} {g k j : Nat} {u : Value} (h : j ≠ k) : (w.setCell ⟨g, k, none⟩ u).cell? ⟨g, j, none⟩ = w.cell? ⟨g, j, none⟩ := World.cell?_setCell_other w _ _ _ (by intro e; injection e with _ e; exact h e.symm)
theorem loose_set {w : World} {e : TypeId} {size n g : Nat} {sv : Value} (h : ∃ zs, w.ownsRow 0 e size sv n zs) (hg : sv.ownBlock = some g) (j : Nat) (u : Value) : ∃ zs, (w.setCell ⟨g, j, none⟩ u).ownsRow 0 e size sv n zs := by
  obtain ⟨zs, h1, h2⟩ := h
  rcases h2 with ⟨rfl, _⟩ | ⟨g', cap, cur, rfl, hb, hh, hn, hm, hs, ht⟩
  · cases hg
  · obtain rfl : g' = g := Option.some.inj hg
    refine ⟨(cur.setIfInBounds j u).toList.take (n * size), ?_, .inr ⟨g', cap, _, rfl, hb, setCell_block hh j u, hn, hm, by simp [hs], rfl⟩⟩
    have := Nat.mul_le_mul_right size hn
    rw [List.length_take]
    simp only [Array.length_toList, Array.size_setIfInBounds, hs]
    exact Nat.min_eq_left this
theorem loose_keep {w w' : World} {e : TypeId} {size n : Nat} {sv : Value} (h : ∃ zs, w.ownsRow 0 e size sv n zs) (hk : ∀ b, sv.ownBlock = some b → w'.heap[b]? = w.heap[b]?) : ∃ zs, w'.ownsRow 0 e size sv n zs := by
  obtain ⟨zs, h⟩ := h
  exact ⟨zs, ownsRow_keep h (fun b hb => hk b (ownL_some.1 hb))⟩
theorem loose_frozen {w : World} {e : TypeId} {size n g : Nat} {sv : Value} (h : ∃ zs, w.ownsRow 0 e size sv n zs) (hg : sv.ownBlock = some g) (j : Nat) : w.frozen? ⟨g, j, none⟩ = false := by
  obtain ⟨zs, h1, h2⟩ := h
  rcases h2 with ⟨rfl, _⟩ | ⟨g', cap, cur, rfl, hb, hh, -⟩
  · cases hg
  · obtain rfl : g' = g := Option.some.inj hg
    simp [World.frozen?, hh]
theorem loose_lt {w : World} {e : TypeId} {size n g : Nat} {sv : Value} (h : ∃ zs, w.ownsRow 0 e size sv n zs) (hg : sv.ownBlock = some g) : g < w.heap.size := by
  obtain ⟨zs, h⟩ := h
  exact (ownsRow_lt h g (ownL_some.2 hg)).2
/-- A loop of appends: the row under way, and what has turned. -/
structure Spoiling (w wr : World) (S : Nat → Prop) (e : TypeId) (size : Nat) (xv : Value) (m : Nat) : Prop where
  row : ∃ zs, wr.ownsRow 0 e size xv m zs
  own : ∀ b, xv.ownBlock = some b → b < w.heap.size → S b
  but : But S w wr
theorem Spoiling.step {w wr w2 : World} {S : Nat → Prop} {e : TypeId} {size m g cap : Nat} {xv : Value} {o : Obj} {zs : List Value} (h : Spoiling w wr S e size xv m) (hown : w2.ownsRow 0 e size (.slice (some ⟨g, 0, none⟩) (m + 1) cap) (m + 1) zs)
    (hgr : (wr.alloc o).grownBy w2 xv.ownBlock) (hat : xv.ownBlock = some g ∨ g = (wr.alloc o).heap.size) : Spoiling w w2 S e size (.slice (some ⟨g, 0, none⟩) (m + 1) cap) (m + 1) := by
  have hsz := h.but.size
  refine ⟨⟨zs, hown⟩, fun b hb hlt => ?_, (h.but.alloc o).of_grown hgr (fun i hi e => h.own i e hi)⟩
  obtain rfl : g = b := Option.some.inj hb
  rcases hat with hat | hat
  · exact h.own _ hat hlt
  · simp at hat; omega
theorem run_build7 (W : World) : (Instr.buildSlice 26 1 #[(0, .int .u8 7)]).run Try.prog W = .ok (.slice (some ⟨W.heap.size, 0, none⟩) 1 1) (W.alloc (.cells #[.int .u8 7] 5)) := by kernel_rfl
def SpoilEnd (fs : List Nat) (w : World) (e : Ending) (w' : World) : Prop := e = .returned (.tuple #[]) ∧ But (fun b => b ∈ fs) w w'
def SpoilSaid (v : Val) : Prop := ∀ (x : Value) (fs : List Nat) (w : World), VRep w v x fs → smallV v → fs.Nodup → Calls Try.prog 15 #[x] w (SpoilEnd fs w)

set_option maxRecDepth 100000 in
set_option maxHeartbeats 1600000 in
theorem spoil_bytes (l : List UInt8) : SpoilSaid (.bytes l) := by
  intro x fs w h hs hnd
  simp only [VRep] at h
  obtain ⟨sv, rfl, ho, rfl⟩ := h
  simp only [smallV] at hs
  obtain ⟨a, cap, rfl, hcap, hmax, hlen, hform⟩ := ownsRow_form ho
  unfold maxLen at hmax
  obtain ⟨i0, hi0, hz0, hz1, hz2⟩ := info_parts Try.infoU8
  have hoH := Lib.hid ho
  have hformH := Lib.hid hform
  clear ho hform hnd
  go_enter Try.func15, Try.ntmps15
  go_wp2_with fail
  go_loopw [3] (fun i wr => ∃ (k : Nat), k ≤ l.length ∧ i = .int .i64 k ∧ (∃ zs, wr.ownsRow 0 5 1 (.slice a l.length cap) l.length zs) ∧ (∀ g, a = some ⟨g, 0, none⟩ → ∀ j, k ≤ j → j < l.length → wr.cell? ⟨g, j, none⟩ = (byteCells l)[j]?) ∧ But (fun b => b ∈ ownL (.slice a l.length cap)) w wr) (fun i _ => l.length - (intOf i).toNat)
  case atStart =>
    refine ⟨0, Nat.zero_le _, rfl, ⟨_, hoH.out⟩, fun g hg j _ hj => ?_, But.refl _ _⟩
    rcases hformH.out with ⟨e, h0, -⟩ | ⟨g', e, -, -, -, hc⟩
    · omega
    · rw [e] at hg; obtain rfl : g' = g := by injection hg with hg; injection hg
      exact hc j (by omega)
  case round =>
    obtain ⟨k, hk, rfl, hrow, hcells, hb⟩ := hrel
    by_cases hlt : k < l.length
    · rcases hformH.out with ⟨-, h0, -⟩ | ⟨g, rfl, -, -, hol, -⟩
      · omega
      have hfz := loose_frozen hrow rfl k
      have hgl := loose_lt hrow rfl
      obtain ⟨c, hc⟩ : ∃ c, l[k]? = some c := ⟨_, List.getElem?_eq_getElem hlt⟩
      have hck : wr.cell? ⟨g, k, none⟩ = some (.int .u8 c.toNat) := by rw [hcells g rfl k (Nat.le_refl _) hlt]; simp [byteCells, hc]
      have hcH := Lib.hid hcells
      have hrowH := Lib.hid hrow
      clear hcells hrow hc
      go_wp2
      go_roundw
      case rel => exact ⟨k + 1, by omega, by go_num, loose_set hrowH.out rfl k _, fun g' hg' j hj hj2 => by
        obtain rfl : g = g' := by injection hg' with hg'; injection hg'
        rw [cell_set_ne (by omega)]
        exact hcH.out g rfl j (by omega) hj2, hb.setCell (p := ⟨g, k, none⟩) (fun _ => by rw [hol]; exact List.mem_singleton.2 rfl) _⟩
      case measure => simp [intOf]; omega
    · obtain rfl : k = l.length := by omega
      have hrowH := Lib.hid hrow
      have hbH := Lib.hid hb
      clear hcells hrow
      go_wp2_with fail
      go_loopw [2, 4] (fun xv i wr => ∃ (j m : Nat), j ≤ 20 ∧ m ≤ l.length + j ∧ i = .int .i64 j ∧ Spoiling w wr (fun b => b ∈ ownL (.slice a l.length cap)) 5 1 xv m) (fun _ i _ => 20 - (intOf i).toNat)
      case atStart => exact ⟨0, l.length, by omega, by omega, rfl, ⟨hrowH.out, fun b hb _ => ownL_some.2 hb, hbH.out⟩⟩
      case round =>
        obtain ⟨j, m, hj, hm, rfl, hsp⟩ := hrel
        obtain ⟨zs, hown⟩ := hsp.row
        have hspH := Lib.hid hsp
        clear hsp
        by_cases hlt : j < 20
        · have hj1 : (j : Int) < 20 := by omega
          go_wp2_with (first | (refine wpList_of_exec rfl (exec_buildSlice (T := 26) (n := 1) (parts := #[(0, .const (.int .u8 7))]) (vs := #[(0, .int .u8 7)]) rfl (by simp [Act.eval]) (run_build7 _)) ?_) | (at_builtin; refine wpList_append_lies _ rfl _ _ 26 rfl 0 5 i0 _ 1 1 Try.underlying26 hi0 hz0 hz1 hz2 rfl (by omega) _ m zs rfl (hown.alloc _) ⟨wr.heap.size, 0, none⟩ 1 1 [.int .u8 7] rfl rfl (World.news_of_block (cs := #[.int .u8 7]) (t := 5) (fr := (0, 0)) (heap_alloc_new wr _)) (one_single rfl) (by omega) (by unfold maxLen; omega) (by omega) (by omega) _ rfl ?_; intro g2 cap2 w2 hown2 hgr2 hat2 hlt2))
          have hfin := hspH.out.step hown2 hgr2 hat2
          go_roundw
          case rel => exact ⟨j + 1, m + 1, by omega, by omega, by go_num, hfin⟩
          case measure => simp [intOf]; omega
        · obtain rfl : j = 20 := by omega
          have hbut := Lib.hid hspH.out.but
          clear hown
          go_wp2
          exact ⟨rfl, _, results_none rfl _ _ _, rfl, hbut.out⟩


theorem VsRep_drop {w : World} : ∀ (l : List Val) (xs : List Value) (gs : List Nat), VsRep w l xs gs → ∀ (v : Val) (l' : List Val), l = v :: l' → ∃ x ys f g, xs = x :: ys ∧ VRep w v x f ∧ VsRep w l' ys g ∧ gs = f ++ g
  | _, xs, gs, h, v, l', e => by subst e; exact h
set_option maxRecDepth 100000 in
set_option maxHeartbeats 1600000 in
theorem spoil_list (l : List Val) (ih : ∀ u ∈ l, SpoilSaid u) : SpoilSaid (.list l) := by
  intro x fs w h hs hnd
  simp only [VRep] at h
  obtain ⟨sv, xs, gs, rfl, ho, hd, rfl⟩ := h
  simp only [smallV] at hs
  obtain ⟨a, cap, rfl, hcap, hmax, hlen, hform⟩ := ownsRow_form ho
  unfold maxLen at hmax
  obtain ⟨i0, hi0, hz0, hz1, hz2⟩ := info_parts Try.infoAny
  have hsm := hs.1
  have hsH := Lib.hid (smallVs_mem l hs.2)
  have ihH := Lib.hid ih
  have hoH := Lib.hid ho
  have hformH := Lib.hid hform
  have hnd2 := List.nodup_append.1 hnd
  have hst0 : Hid (VsRep w (l.drop 0) (xs.drop 0) gs ∧ gs.Nodup ∧ (∀ b ∈ gs, b ∈ ownL (.slice a l.length cap) ++ gs ∧ ¬ b ∈ ownL (.slice a l.length cap))) := Lib.hid ⟨hd, hnd2.2.1, fun b hb => ⟨List.mem_append_right _ hb, fun h => hnd2.2.2 b h b hb rfl⟩⟩
  have hfit : ∀ b, b ∈ ownL (.slice a l.length cap) → b ∈ ownL (.slice a l.length cap) ++ gs := fun b hb => List.mem_append_left _ hb
  have hfitH := Lib.hid hfit
  generalize hFS : ownL (.slice a l.length cap) ++ gs = FS at *
  clear ho hform hnd hd hnd2 hs ih hFS hfit
  go_enter Try.func15, Try.ntmps15
  go_wp2_with fail
  go_loopw [6] (fun i wr => ∃ (k : Nat) (gs' : List Nat), k ≤ l.length ∧ i = .int .i64 k ∧ (VsRep wr (l.drop k) (xs.drop k) gs' ∧ gs'.Nodup ∧ (∀ b ∈ gs', b ∈ FS ∧ ¬ b ∈ ownL (.slice a l.length cap))) ∧ (∃ zs, wr.ownsRow 0 20 1 (.slice a l.length cap) l.length zs) ∧ (∀ g, a = some ⟨g, 0, none⟩ → ∀ j, k ≤ j → j < l.length → wr.cell? ⟨g, j, none⟩ = xs[j]?) ∧ But (fun b => b ∈ FS) w wr) (fun i _ => l.length - (intOf i).toNat)
  case atStart =>
    refine ⟨0, gs, Nat.zero_le _, rfl, hst0.out, ⟨_, hoH.out⟩, fun g hg j _ hj => ?_, But.refl _ _⟩
    rcases hformH.out with ⟨e, h0, -⟩ | ⟨g', e, -, -, -, hc⟩
    · omega
    · rw [e] at hg; obtain rfl : g' = g := by injection hg with hg; injection hg
      exact hc j (by omega)
  case round =>
    obtain ⟨k, gs', hk, rfl, hvs, hrow, hcells, hb⟩ := hrel
    by_cases hlt : k < l.length
    · rcases hformH.out with ⟨-, h0, -⟩ | ⟨g, rfl, -, -, hol, -⟩
      · omega
      obtain ⟨x, ys, f, g2, e1, hv, hrest, rfl⟩ := VsRep_drop _ _ _ hvs.1 l[k] (l.drop (k + 1)) (List.drop_eq_getElem_cons hlt)
      have hx : xs[k]? = some x := by rw [← List.head?_drop, e1]; rfl
      have hys : xs.drop (k + 1) = ys := by rw [← List.drop_drop, e1]; rfl
      have hnd2 := List.nodup_append.1 hvs.2.1
      have hck : wr.cell? ⟨g, k, none⟩ = some x := (hcells g rfl k (Nat.le_refl _) hlt).trans hx
      have hgf : ¬ g ∈ f := fun hm => (hvs.2.2 g (List.mem_append_left _ hm)).2 (by rw [hol]; exact List.mem_singleton.2 rfl)
      have hmem : l[k] ∈ l := List.getElem_mem hlt
      have hih := Lib.hid (ihH.out _ hmem x f wr hv (hsH.out _ hmem) hnd2.1)
      have hgl := loose_lt hrow rfl
      have hx1 := hv.one
      have hff := Lib.hid (fun b (hm : b ∈ f) => (hvs.2.2 b (List.mem_append_left _ hm)).1)
      have hgg := Lib.hid (fun b (hm : b ∈ g2) => hvs.2.2 b (List.mem_append_right _ hm))
      have hdis := Lib.hid (fun b (hm : b ∈ g2) (hm' : b ∈ f) => hnd2.2.2 b hm' b hm rfl)
      have hrestH := Lib.hid hrest
      have hn2 := Lib.hid hnd2.2.1
      have hysH := Lib.hid hys
      have hcH := Lib.hid hcells
      have hrowH := Lib.hid hrow
      clear hcells hrow hvs hnd2 hrest hys hx e1 hv
      go_wp2_with fail
      refine hih.out.mono ?_
      rintro e w1 ⟨rfl, hb1⟩
      have hsame : w1.heap[g]? = wr.heap[g]? := hb1.block g hgl hgf
      have hrow1 := loose_keep hrowH.out (fun b (e : (Value.slice (some ⟨g, 0, none⟩) l.length cap).ownBlock = some b) => by obtain rfl : g = b := Option.some.inj e; exact hsame)
      have hc1 : w1.cell? ⟨g, k, none⟩ = some x := (World.cell?_of_block (w := wr) hsame).trans hck
      have hfz1 := loose_frozen hrow1 rfl k
      have hrow1H := Lib.hid hrow1
      clear hrow1 hck
      go_wp2
      go_roundw
      case rel =>
        refine ⟨k + 1, g2, by omega, by go_num, ⟨?_, hn2.out, hgg.out⟩, loose_set hrow1H.out rfl k _, fun g' hg' j hj hj2 => ?_, ?_⟩
        · rw [hysH.out]
          exact VsRep.keep _ _ _ hrestH.out (fun b hm => (Below.heap_setCell _ ⟨g, k, none⟩ _ _ (by intro e; exact (hgg.out b hm).2 (by rw [hol, e]; exact List.mem_singleton.2 rfl))).trans (hb1.block b (VsRep.lt _ _ _ hrestH.out b hm) (fun hm' => hdis.out b hm hm')))
        · obtain rfl : g = g' := by injection hg' with hg'; injection hg'
          rw [cell_set_ne (by omega)]
          exact (World.cell?_of_block (w := wr) hsame).trans (hcH.out g rfl j (by omega) hj2)
        · exact (hb.then hb1 (fun i _ hm => hff.out i hm)).setCell (p := ⟨g, k, none⟩) (fun _ => hfitH.out g (by rw [hol]; exact List.mem_singleton.2 rfl)) _
      case measure => simp [intOf]; omega
    · obtain rfl : k = l.length := by omega
      have hrowH := Lib.hid hrow
      have hbH := Lib.hid hb
      clear hcells hrow hvs
      go_wp2_with fail
      go_loopw [5, 7] (fun xv i wr => ∃ (j m : Nat), j ≤ 20 ∧ m ≤ l.length + j ∧ i = .int .i64 j ∧ Spoiling w wr (fun b => b ∈ FS) 20 1 xv m) (fun _ i _ => 20 - (intOf i).toNat)
      case atStart => exact ⟨0, l.length, by omega, by omega, rfl, ⟨hrowH.out, fun b hb _ => hfitH.out b (ownL_some.2 hb), hbH.out⟩⟩
      case round =>
        obtain ⟨j, m, hj, hm, rfl, hsp⟩ := hrel
        obtain ⟨zs, hown⟩ := hsp.row
        have hspH := Lib.hid hsp
        clear hsp
        by_cases hlt : j < 20
        · have hj1 : (j : Int) < 20 := by omega
          go_wp2_with (first | (refine wpList_of_exec rfl (exec_buildSlice (T := 128) (n := 1) (parts := #[(0, .tmp 58)]) (vs := #[(0, .iface 4 (.bool true))]) rfl (by simp [Act.eval]) (run_buildAny1 _ rfl _)) ?_) | (at_builtin; refine wpList_append_lies _ rfl _ _ 128 rfl 0 20 i0 _ 1 16 Try.underlying128 hi0 hz0 hz1 hz2 rfl (by omega) _ m zs rfl (hown.alloc _) ⟨wr.heap.size, 0, none⟩ 1 1 [.iface 4 (.bool true)] rfl rfl (World.news_of_block (cs := #[.iface 4 (.bool true)]) (t := 20) (fr := (0, 0)) (heap_alloc_new wr _)) (one_single rfl) (by omega) (by unfold maxLen; omega) (by omega) (by omega) _ rfl ?_; intro g2 cap2 w2 hown2 hgr2 hat2 hlt2))
          have hfin := hspH.out.step hown2 hgr2 hat2
          go_roundw
          case rel => exact ⟨j + 1, m + 1, by omega, by omega, by go_num, hfin⟩
          case measure => simp [intOf]; omega
        · obtain rfl : j = 20 := by omega
          have hbut := Lib.hid hspH.out.but
          clear hown
          go_wp2
          exact ⟨rfl, _, results_none rfl _ _ _, rfl, hbut.out⟩


theorem DsRep_drop {w : World} : ∀ (l : List (ByteArray × Val)) (xs : List Value) (gs : List Nat), DsRep w l xs gs → ∀ (p : ByteArray × Val) (l' : List (ByteArray × Val)), l = p :: l' → ∃ x ys f g, xs = .string p.1 :: x :: ys ∧ VRep w p.2 x f ∧ DsRep w l' ys g ∧ gs = f ++ g
  | _, xs, gs, h, p, l', e => by
    subst e
    obtain ⟨x, ys, f, g, e, -, h1, h2, h3⟩ := h
    obtain ⟨q, v⟩ := p
    exact ⟨x, ys, f, g, e, h1, h2, h3⟩
theorem run_buildGrown (s : ByteArray) (W : World) : (Instr.buildSlice 130 1 #[(0, .agg #[.string s, .nilIface])]).run Try.prog W = .ok (.slice (some ⟨W.heap.size, 0, none⟩) 1 1) (W.alloc (.cells #[.string s, .nilIface] 220)) := by kernel_rfl
set_option maxRecDepth 100000 in
set_option maxHeartbeats 1600000 in
theorem spoilt_said (d : List (ByteArray × Val)) (ih : ∀ u ∈ d.map (·.2), SpoilSaid u) (sv : Value) (xs : List Value) (gs : List Nat) (w : World) (ho : w.ownsRow 0 220 2 sv d.length xs) (hd : DsRep w d xs gs) (hnd : (ownL sv ++ gs).Nodup) (hsm : d.length ≤ 1048576) (hsd : smallDs d) :
    Calls Try.prog 79 #[sv] w (SpoilEnd (ownL sv ++ gs) w) := by
  obtain ⟨a, cap, rfl, hcap, hmax, hlen, hform⟩ := ownsRow_form ho
  unfold maxLen at hmax
  obtain ⟨i0, hi0, hz0, hz1, hz2⟩ := info_parts Try.infoField
  have hsH := Lib.hid (smallDs_mem d hsd)
  have ihH := Lib.hid ih
  have hoH := Lib.hid ho
  have hformH := Lib.hid hform
  have hnd2 := List.nodup_append.1 hnd
  have hst0 : Hid (DsRep w (d.drop 0) (xs.drop (0 * 2)) gs ∧ gs.Nodup ∧ (∀ b ∈ gs, b ∈ ownL (.slice a d.length cap) ++ gs ∧ ¬ b ∈ ownL (.slice a d.length cap))) := Lib.hid ⟨hd, hnd2.2.1, fun b hb => ⟨List.mem_append_right _ hb, fun h => hnd2.2.2 b h b hb rfl⟩⟩
  have hfit : ∀ b, b ∈ ownL (.slice a d.length cap) → b ∈ ownL (.slice a d.length cap) ++ gs := fun b hb => List.mem_append_left _ hb
  have hfitH := Lib.hid hfit
  generalize hFS : ownL (.slice a d.length cap) ++ gs = FS at *
  clear ho hform hnd hd hnd2 hsd ih hFS hfit
  go_enter Try.func79, Try.ntmps79
  go_wp2_with fail
  go_loopw [2] (fun i wr => ∃ (k : Nat) (gs' : List Nat), k ≤ d.length ∧ i = .int .i64 k ∧ (DsRep wr (d.drop k) (xs.drop (k * 2)) gs' ∧ gs'.Nodup ∧ (∀ b ∈ gs', b ∈ FS ∧ ¬ b ∈ ownL (.slice a d.length cap))) ∧ (∃ zs, wr.ownsRow 0 220 2 (.slice a d.length cap) d.length zs) ∧ (∀ g, a = some ⟨g, 0, none⟩ → ∀ j, k * 2 ≤ j → j < d.length * 2 → wr.cell? ⟨g, j, none⟩ = xs[j]?) ∧ But (fun b => b ∈ FS) w wr) (fun i _ => d.length - (intOf i).toNat)
  case atStart =>
    refine ⟨0, gs, Nat.zero_le _, rfl, hst0.out, ⟨_, hoH.out⟩, fun g hg j _ hj => ?_, But.refl _ _⟩
    rcases hformH.out with ⟨e, h0, -⟩ | ⟨g', e, -, -, -, hc⟩
    · omega
    · rw [e] at hg; obtain rfl : g' = g := by injection hg with hg; injection hg
      exact hc j hj
  case round =>
    obtain ⟨k, gs', hk, rfl, hvs, hrow, hcells, hb⟩ := hrel
    by_cases hlt : k < d.length
    · rcases hformH.out with ⟨-, h0, -⟩ | ⟨g, rfl, -, -, hol, -⟩
      · omega
      obtain ⟨x, ys, f, g2, e1, hv, hrest, rfl⟩ := DsRep_drop _ _ _ hvs.1 d[k] (d.drop (k + 1)) (List.drop_eq_getElem_cons hlt)
      have hx0 : xs[k * 2]? = some (.string d[k].1) := by rw [← List.head?_drop, e1]; rfl
      have hx : xs[k * 2 + 1]? = some x := by rw [← List.head?_drop, ← List.drop_drop, e1]; rfl
      have hys : xs.drop ((k + 1) * 2) = ys := by rw [show (k + 1) * 2 = k * 2 + 2 from by omega, ← List.drop_drop, e1]; rfl
      have hnd2 := List.nodup_append.1 hvs.2.1
      have hck0 : wr.cell? ⟨g, k * 2, none⟩ = some (.string d[k].1) := (hcells g rfl (k * 2) (Nat.le_refl _) (by omega)).trans hx0
      have hck : wr.cell? ⟨g, k * 2 + 1, none⟩ = some x := (hcells g rfl (k * 2 + 1) (by omega) (by omega)).trans hx
      have hgf : ¬ g ∈ f := fun hm => (hvs.2.2 g (List.mem_append_left _ hm)).2 (by rw [hol]; exact List.mem_singleton.2 rfl)
      have hmem : d[k] ∈ d := List.getElem_mem hlt
      have hih := Lib.hid (ihH.out _ (List.mem_map.2 ⟨_, hmem, rfl⟩) x f wr hv (hsH.out _ hmem) hnd2.1)
      have hgl := loose_lt hrow rfl
      have hx1 := hv.one
      have hff := Lib.hid (fun b (hm : b ∈ f) => (hvs.2.2 b (List.mem_append_left _ hm)).1)
      have hgg := Lib.hid (fun b (hm : b ∈ g2) => hvs.2.2 b (List.mem_append_right _ hm))
      have hdis := Lib.hid (fun b (hm : b ∈ g2) (hm' : b ∈ f) => hnd2.2.2 b hm' b hm rfl)
      have hrestH := Lib.hid hrest
      have hn2 := Lib.hid hnd2.2.1
      have hysH := Lib.hid hys
      have hcH := Lib.hid hcells
      have hrowH := Lib.hid hrow
      generalize d[k].1 = nm at *
      clear hcells hrow hvs hnd2 hrest hys hx hx0 e1 hv
      go_wp2_with fail
      refine hih.out.mono ?_
      rintro e w1 ⟨rfl, hb1⟩
      have hsame : w1.heap[g]? = wr.heap[g]? := hb1.block g hgl hgf
      have hrow1 := loose_keep hrowH.out (fun b (e : (Value.slice (some ⟨g, 0, none⟩) d.length cap).ownBlock = some b) => by obtain rfl : g = b := Option.some.inj e; exact hsame)
      have hc0 : w1.cell? ⟨g, k * 2, none⟩ = some (.string nm) := (World.cell?_of_block (w := wr) hsame).trans hck0
      have hc1 : w1.cell? ⟨g, k * 2 + 1, none⟩ = some x := (World.cell?_of_block (w := wr) hsame).trans hck
      have hfz0 := loose_frozen hrow1 rfl (k * 2)
      have hfz1 := loose_frozen hrow1 rfl (k * 2 + 1)
      have hrow1H := Lib.hid hrow1
      clear hrow1 hck hck0
      go_wp2
      go_roundw
      case rel =>
        refine ⟨k + 1, g2, by omega, by go_num, ⟨?_, hn2.out, hgg.out⟩, loose_set (loose_set hrow1H.out rfl (k * 2) _) rfl (k * 2 + 1) _, fun g' hg' j hj hj2 => ?_, ?_⟩
        · rw [hysH.out]
          exact DsRep.keep _ _ _ hrestH.out (fun b hm => (Below.heap_setCell _ ⟨g, _, none⟩ _ _ (by intro e; exact (hgg.out b hm).2 (by rw [hol, e]; exact List.mem_singleton.2 rfl))).trans ((Below.heap_setCell _ ⟨g, _, none⟩ _ _ (by intro e; exact (hgg.out b hm).2 (by rw [hol, e]; exact List.mem_singleton.2 rfl))).trans (hb1.block b (DsRep.lt _ _ _ hrestH.out b hm) (fun hm' => hdis.out b hm hm'))))
        · obtain rfl : g = g' := by injection hg' with hg'; injection hg'
          rw [cell_set_ne (by omega), cell_set_ne (by omega)]
          exact (World.cell?_of_block (w := wr) hsame).trans (hcH.out g rfl j (by omega) hj2)
        · exact ((hb.then hb1 (fun i _ hm => hff.out i hm)).setCell (p := ⟨g, _, none⟩) (fun _ => hfitH.out g (by rw [hol]; exact List.mem_singleton.2 rfl)) _).setCell (p := ⟨g, _, none⟩) (fun _ => hfitH.out g (by rw [hol]; exact List.mem_singleton.2 rfl)) _
      case measure => simp [intOf]; omega
    · obtain rfl : k = d.length := by omega
      have hrowH := Lib.hid hrow
      have hbH := Lib.hid hb
      clear hcells hrow hvs
      go_wp2_with fail
      go_loopw [0, 3] (fun xv i wr => ∃ (j m : Nat), j ≤ 20 ∧ m ≤ d.length + j ∧ i = .int .i64 j ∧ Spoiling w wr (fun b => b ∈ FS) 220 2 xv m) (fun _ i _ => 20 - (intOf i).toNat)
      case atStart => exact ⟨0, d.length, by omega, by omega, rfl, ⟨hrowH.out, fun b hb _ => hfitH.out b (ownL_some.2 hb), hbH.out⟩⟩
      case round =>
        obtain ⟨j, m, hj, hm, rfl, hsp⟩ := hrel
        obtain ⟨zs, hown⟩ := hsp.row
        have hspH := Lib.hid hsp
        clear hsp
        by_cases hlt : j < 20
        · have hj1 : (j : Int) < 20 := by omega
          go_wp2_with (first | (refine wpList_of_exec rfl (exec_buildSlice (T := 130) (n := 1) (parts := #[(0, .tmp 25)]) (vs := #[(0, .agg #[.string ⟨#[103, 114, 111, 119, 110]⟩, .nilIface])]) rfl (by simp [Act.eval]) (run_buildGrown _ _)) ?_) | (at_builtin; refine wpList_append_lies _ rfl _ _ 130 rfl 0 220 i0 _ 2 32 Try.underlying130 hi0 hz0 hz1 hz2 rfl (by omega) _ m zs rfl (hown.alloc _) ⟨wr.heap.size, 0, none⟩ 1 1 [.string ⟨#[103, 114, 111, 119, 110]⟩, .nilIface] rfl rfl (World.news_of_block (cs := #[.string ⟨#[103, 114, 111, 119, 110]⟩, .nilIface]) (t := 220) (fr := (0, 0)) (heap_alloc_new wr _)) (one_pair rfl) (by omega) (by unfold maxLen; omega) (by omega) (by omega) _ rfl ?_; intro g2 cap2 w2 hown2 hgr2 hat2 hlt2))
          have hfin := hspH.out.step hown2 hgr2 hat2
          go_roundw
          case rel => exact ⟨j + 1, m + 1, by omega, by omega, by go_num, hfin⟩
          case measure => simp [intOf]; omega
        · obtain rfl : j = 20 := by omega
          have hbut := Lib.hid hspH.out.but
          clear hown
          go_wp2
          exact ⟨rfl, _, results_none rfl _ _ _, rfl, hbut.out⟩

set_option maxRecDepth 100000 in
theorem spoil_dict (d : List (ByteArray × Val)) (ih : ∀ u ∈ d.map (·.2), SpoilSaid u) : SpoilSaid (.dict d) := by
  intro x fs w h hs hnd
  simp only [VRep] at h
  obtain ⟨sv, xs, gs, rfl, ho, hd, rfl⟩ := h
  simp only [smallV] at hs
  have hsp := Lib.hid (spoilt_said d ih sv xs gs w ho hd hnd hs.1 hs.2)
  clear ho hd hnd hs ih
  go_enter Try.func15, Try.ntmps15
  go_wp2_with fail
  refine hsp.out.mono ?_
  rintro e w1 ⟨rfl, hb⟩
  have hbH := Lib.hid hb
  clear hb
  go_wp2
  exact ⟨rfl, _, results_none rfl _ _ _, rfl, hbH.out⟩
set_option maxRecDepth 100000 in
theorem spoil_record (c : ByteArray) (n : Int) (d : List (ByteArray × Val)) (ih : ∀ u ∈ d.map (·.2), SpoilSaid u) : SpoilSaid (.record c n d) := by
  intro x fs w h hs hnd
  simp only [VRep] at h
  obtain ⟨b, sv, xs, gs, rfl, hr, -, -, ho, hd, rfl⟩ := h
  simp only [smallV] at hs
  obtain ⟨r0, r1, r2, hbl, hrz⟩ := recCells hr
  have hnd2 := List.nodup_cons.1 hnd
  have hnb := hnd2.1
  have hsp := Lib.hid (spoilt_said d ih sv xs gs w ho hd hnd2.2 hs.1 hs.2)
  have hrzH := Lib.hid hrz
  clear ho hd hnd hs ih hnd2 hrz
  go_enter Try.func15, Try.ntmps15
  go_wp2_with fail
  refine hsp.out.mono ?_
  rintro e w1 ⟨rfl, hb⟩
  have hsame : w1.heap[b]? = w.heap[b]? := hb.block b hbl hnb
  have s0 := (World.cell?_of_block (w := w) (a := ⟨b, 0, none⟩) hsame).trans r0
  have s1 := (World.cell?_of_block (w := w) (a := ⟨b, 1, none⟩) hsame).trans r1
  have z0 : w1.frozen? ⟨b, 0, none⟩ = false := (World.frozen?_of_block (w := w) hsame).trans (hrzH.out 0)
  have z1 : w1.frozen? ⟨b, 1, none⟩ = false := (World.frozen?_of_block (w := w) hsame).trans (hrzH.out 1)
  have hbH := Lib.hid hb
  clear hb r0 r1 r2
  go_wp2
  exact ⟨rfl, _, results_none rfl _ _ _, rfl, ((hbH.out.mono (fun i _ hm => List.mem_cons_of_mem _ hm)).setCell (p := ⟨b, 0, none⟩) (fun _ => List.mem_cons_self ..) _).setCell (p := ⟨b, 1, none⟩) (fun _ => List.mem_cons_self ..) _⟩
set_option maxRecDepth 100000 in
theorem spoil_none (w : World) : ∀ x, x = .nilIface ∨ x = .iface 132 (.pointer none) → Calls Try.prog 15 #[x] w (SpoilEnd [] w) := by
  intro x h
  rcases h with rfl | rfl
  all_goals
    go_enter Try.func15, Try.ntmps15
    go_wp2
    exact ⟨rfl, _, results_none rfl _ _ _, rfl, But.refl _ _⟩
set_option maxRecDepth 100000 in
theorem spoil_other (u : TypeId) (y : Value) (w : World) (h1 : u ≠ 26) (h2 : u ≠ 128) (h3 : u ≠ 130) (h4 : u ≠ 132) : Calls Try.prog 15 #[.iface u y] w (SpoilEnd [] w) := by
  go_enter Try.func15, Try.ntmps15
  go_wp2
  exact ⟨rfl, _, results_none rfl _ _ _, rfl, But.refl _ _⟩
theorem spoil_any : ∀ v : Val, SpoilSaid v := val_ind fun v ih => by
  cases v
  case bytes l => exact spoil_bytes l
  case list l => exact spoil_list l ih
  case dict d => exact spoil_dict d ih
  case record c n d => exact spoil_record c n d ih
  case alien u =>
    intro x fs w h _ _
    simp only [VRep] at h
    obtain ⟨y, rfl, hk, rfl⟩ := h
    obtain ⟨-, -, -, -, h5, -, h7, h8, h9⟩ := kinded_no hk
    exact spoil_other u y w h5 h7 h8 h9
  all_goals
    intro x fs w h _ _
    simp only [VRep] at h
  case nil => obtain ⟨rfl, rfl⟩ := h; exact spoil_none w _ (.inl rfl)
  case nothing => obtain ⟨rfl, rfl⟩ := h; exact spoil_none w _ (.inr rfl)
  case bool => obtain ⟨rfl, rfl⟩ := h; exact spoil_other _ _ w (by decide) (by decide) (by decide) (by decide)
  all_goals (obtain ⟨rfl, -, rfl⟩ := h; exact spoil_other _ _ w (by decide) (by decide) (by decide) (by decide))
end Go.Proofs.Ytgmdbpplfjkjmaa
