/- slices.Insert at []api.Count (two cells an element), one element. -/
import Derived.Test.YtgmdbpplfjkjmaaValCopy
import Derived.Test.YtgmdbpplfjkjmaaVal
import Derived.Shelf.SlIter.Collect
import Derived.Deep.AppendLies
import Derived.Test.YtgmdbpplfjkjmaaMem
import Derived.Shelf.Spec.SlicesInsertGrow
import Derived.Laws.CopyOwn
import Derived.Test.YtgmdbpplfjkjmaaOrdEnd
import Derived.Test.YtgmdbpplfjkjmaaValEnd
import Derived.Deep.LoopGhost
namespace Go.Proofs.Ytgmdbpplfjkjmaa
open Go.RowKit Go.Lib
set_option linter.unusedVariables false
set_option linter.unusedSimpArgs false

theorem Try.infoCount : (Try.prog.info? 41).map (fun i => (i.zero, i.size, i.bytes)) = some (some (.agg #[.nilIface, .int .i64 0]), 2, 24) := by kernel_rfl
/-- copy at elements of whatever width, the row known whole. -/
theorem run_copy_wide {P : Program} (w : World) (dT sT ty elem : TypeId) (size g o dLen dCap : Nat) (a : Addr) (sLen sCap : Nat) (cur : Array Value) (t : TypeId) (cs : List Value)
    (hu : P.underlying dT = some (.slice elem)) (hs : (P.info? elem).map (·.size) = some size)
    (hg : w.heap[g]? = some (.cells cur t (0, 0))) (hn : cs.length = Nat.min sLen dLen * size)
    (hsrc : ∀ j v, cs[j]? = some v → w.cell? (a.add j) = some v) (hfit : o + cs.length ≤ cur.size) (h1 : ∀ v ∈ cs, v.oneCell' = true) :
    (Builtin.copy_ #[dT, sT] ty #[.slice (some ⟨g, o, none⟩) dLen dCap, .slice (some a) sLen sCap]).run P w =
      .ok (goInt (Nat.min sLen dLen)) (w.setRow g (splice cur.toList o cs).toArray) := by
  have hl := run_loadCells_list (P := P) w a cs hsrc
  have hst := run_storeCells_at P g o t cs 0 cur w hg (by simpa using hfit) h1
  cases hq : P.info? elem with
  | none => simp [hq] at hs
  | some i =>
    have hi : i.size = size := by simpa [hq] using hs
    rw [hn] at hl
    simp only [Nat.add_zero, List.append_assoc] at hst
    simp [Builtin.copy_, run_underlying hu, Builtin.lenOf, Builtin.firstCells, sizeOf, typeInfo, hq, hi, hl, hst, splice]
theorem splice_at {α : Type} (L : List α) (o : Nat) (cs : List α) (ho : o ≤ L.length) : splice L o cs = L.take o ++ cs ++ L.drop (o + cs.length) := by simp [splice]
theorem cput_aux {L M R : List Value} {i n : Nat} {x c : Value} (hA : (L.take ((i + 1) * 2)).length = (i + 1) * 2) (hi : i ≤ n) (hM : M.length = (n - i) * 2) :
    (splice (L.take ((i + 1) * 2) ++ M ++ R) (i * 2) [x, c]).take ((n + 1) * 2) = L.take (i * 2) ++ (x :: c :: M) := by
  have e1 : (L.take ((i + 1) * 2) ++ M ++ R).take (i * 2) = L.take (i * 2) := by
    rw [List.append_assoc, List.take_append_of_le_length (by omega), List.take_take, Nat.min_eq_left (by omega)]
  have e2 : (L.take ((i + 1) * 2) ++ M ++ R).drop (i * 2 + 2) = M ++ R := by
    rw [List.append_assoc]; exact List.drop_left' (by rw [hA]; omega)
  have hL : (L.take (i * 2)).length = i * 2 := by rw [List.length_take] at hA ⊢; omega
  unfold splice
  rw [e1, show i * 2 + [x, c].length = i * 2 + 2 from rfl, e2]
  have : L.take (i * 2) ++ ([x, c] ++ (M ++ R)) = (L.take (i * 2) ++ (x :: c :: M)) ++ R := by simp
  rw [this]
  exact List.take_left' (by rw [List.length_append, hL, List.length_cons, List.length_cons, hM]; omega)
def putIn (cs : List Value) (i : Nat) (x c : Value) : List Value := cs.take (2 * i) ++ (x :: c :: cs.drop (2 * i))
theorem cput_list {L M L1 L2 : List Value} {i n cap : Nat} {x c : Value} (hL : L.length = cap * 2) (hi : i ≤ n) (hn : n + 1 ≤ cap) (hM : M = (L.take (n * 2)).drop (i * 2)) (hL1 : L1 = splice L ((i + 1) * 2) M) (hL2 : L2 = splice L1 (i * 2) [x, c]) :
    L2.take ((n + 1) * 2) = putIn (L.take (n * 2)) i x c := by
  have hMl : M.length = (n - i) * 2 := by rw [hM, List.length_drop, List.length_take, hL]; omega
  rw [hL2, hL1, splice_at L _ _ (by rw [hL]; omega), cput_aux (by rw [List.length_take, hL]; omega) hi hMl]
  unfold putIn
  rw [Nat.mul_comm 2 i, ← hM, List.take_take, Nat.min_eq_left (by omega)]
def InsEnd (B n : Nat) (sv : Value) (cs : List Value) (w : World) (e : Ending) (w' : World) : Prop :=
  ∃ sv', e = .returned sv' ∧ w'.ownsRow B 41 2 sv' (n + 1) cs ∧ But (fun b => b ∈ ownL sv) w w' ∧ ∀ b ∈ ownL sv', b ∈ ownL sv ∨ w.heap.size ≤ b
set_option maxRecDepth 100000 in
set_option maxHeartbeats 3200000 in
theorem insert_shift {w : World} {B : Nat} {n : Nat} {g cap : Nat} {cur : Array Value} (hg : w.heap[g]? = some (.cells cur 41 (0, 0))) (hBg : B ≤ g) (i : Nat) (hi : i < n) (hroom : n + 1 ≤ cap) (hcap : cap ≤ maxLen) (hsz : cur.size = cap * 2)
    (h1 : ∀ v ∈ cur.toList.take (n * 2), v.oneCell' = true) {vb : Nat} (x c : Value) (hv : w.heap[vb]? = some (.cells #[x, c] 41 (0, 0))) (hx : x.oneCell' = true) (hc : c.oneCell' = true) (hvg : vb ≠ g) :
    Calls Try.prog 74 #[.slice (some ⟨g, 0, none⟩) n cap, .int .i64 i, .slice (some ⟨vb, 0, none⟩) 1 1] w
      (InsEnd B n (.slice (some ⟨g, 0, none⟩) n cap) (putIn (cur.toList.take (n * 2)) i x c) w) := by
  obtain ⟨i0, hi0, hz0, hz1, hz2⟩ := info_parts Try.infoCount
  have hsz2 : (Try.prog.info? 41).map (·.size) = some 2 := by rw [hi0]; simp [hz1]
  unfold maxLen at hcap
  have hgw := (Array.getElem?_eq_some_iff.1 hg).1
  have hn2 : ¬ ((i : Int) = (n : Int)) := by omega
  have hov : ∀ lb cb, (callFunc 137 #[.slice (some ⟨vb, 0, none⟩) 1 1, .slice (some ⟨g, (i + 1) * 2, none⟩) lb cb]).run Try.prog w = .ok (.value (.bool false)) w := fun lb cb => by
    rw [run_callFunc_extern Try.func137 (by kernel_rfl) (by kernel_rfl) (by kernel_rfl) (e := Extern.SlicesOverlaps.overlaps #[32, 32] #[4]) (by kernel_rfl),
      Lib.run_overlaps_apart w 32 4 41 Try.underlying32 2 (fun w => by simp [sizeOf, typeInfo, hi0, hz1]) ⟨vb, 0, none⟩ ⟨g, (i + 1) * 2, none⟩ 1 1 lb cb hvg 41 41 2 cur.size (by simp [World.shape?, hv]) (by simp [World.shape?, hg]) (by omega) (by simp [World.frozen?, hv]) (by simp [World.frozen?, hv])]
    rfl
  have mixed : Try.prog.follows .mixedOrders = true := by kernel_rfl
  obtain ⟨L, hL⟩ : ∃ L, L = cur.toList := ⟨_, rfl⟩
  have hLl : L.length = cap * 2 := by rw [hL, Array.length_toList, hsz]
  have hcur : cur = L.toArray := by rw [hL]
  rw [← hL] at h1 ⊢
  obtain ⟨M, hM⟩ : ∃ M, M = (L.take (n * 2)).drop (i * 2) := ⟨_, rfl⟩
  have hMl : M.length = (n - i) * 2 := by rw [hM, List.length_drop, List.length_take, hLl]; omega
  obtain ⟨L1, hL1⟩ : ∃ L1, L1 = splice L ((i + 1) * 2) M := ⟨_, rfl⟩
  have hL1l : L1.length = cap * 2 := by rw [hL1, length_splice _ _ _ (by rw [hMl, hLl]; omega), hLl]
  have hcell : ∀ j v, L[j]? = some v → w.cell? ⟨g, j, none⟩ = some v := fun j v hj => by
    rw [cell_of_row w g j cur _ _ hg, hcur]; simpa using hj
  have hcp1 : ∀ ty dc sc, (Builtin.copy_ #[32, 32] ty #[.slice (some ⟨g, (i + 1) * 2, none⟩) (n - i) dc, .slice (some ⟨g, i * 2, none⟩) (n + 1 - i) sc]).run Try.prog w.drew =   .ok (goInt ((n - i : Nat) : Int)) (w.drew.setRow g L1.toArray) := fun ty dc sc => by
    have hmin : Nat.min (n + 1 - i) (n - i) = n - i := by simp only [Nat.min_def]; split <;> omega
    have := run_copy_wide (P := Try.prog) w.drew 32 32 ty 41 2 g ((i + 1) * 2) (n - i) dc ⟨g, i * 2, none⟩ (n + 1 - i) sc cur 41 M Try.underlying32 hsz2 hg (by rw [hmin, hMl]) (fun j v hj => by
      rw [Addr.add_lit]
      rw [hM, List.getElem?_drop, List.getElem?_take] at hj
      split at hj
      · exact hcell _ _ hj
      · cases hj) (by rw [hMl, hsz]; omega) (fun v hv => h1 v (List.mem_of_mem_drop (hM ▸ hv)))
    rw [hmin, ← hL, ← hL1] at this
    exact this
  obtain ⟨L2, hL2⟩ : ∃ L2, L2 = splice L1 (i * 2) [x, c] := ⟨_, rfl⟩
  have hL2l : L2.length = cap * 2 := by rw [hL2, length_splice _ _ _ (by rw [hL1l]; simp; omega), hL1l]
  have hcp2 : ∀ ty dc, (Builtin.copy_ #[32, 32] ty #[.slice (some ⟨g, i * 2, none⟩) (n + 1 - i) dc, .slice (some ⟨vb, 0, none⟩) 1 1]).run Try.prog (w.drew.setRow g L1.toArray) = .ok (goInt 1) (w.drew.setRow g L2.toArray) := fun ty dc => by
    have hmin : Nat.min 1 (n + 1 - i) = 1 := by simp only [Nat.min_def]; split <;> omega
    have := run_copy_wide (P := Try.prog) (w.drew.setRow g L1.toArray) 32 32 ty 41 2 g (i * 2) (n + 1 - i) dc ⟨vb, 0, none⟩ 1 1 L1.toArray 41 [x, c] Try.underlying32 hsz2 (setRow_heap w.drew g cur _ _ _ hg) (by rw [hmin]; rfl) (fun j v hj => by
      rw [Addr.add_lit, Nat.zero_add]
      exact (World.cell?_of_block (a := ⟨vb, j, none⟩) (setRow_other w.drew g vb _ hvg)).trans ((cell_of_row w vb j _ _ _ hv).trans (by simpa using hj))) (by simp [hL1l]; omega) (by intro v hv; rcases List.mem_cons.1 hv with rfl | hv; exact hx; rw [List.mem_singleton.1 hv]; exact hc)
    rw [hmin, setRow_setRow, ← hL2] at this
    exact this
  have hfin : L2.take ((n + 1) * 2) = putIn (L.take (n * 2)) i x c := by
    exact cput_list hLl (by omega) hroom hM hL1 hL2
  have hw1 : IntKind.i64.wrap ((i : Int) + 1) = (i : Int) + 1 := by rw [IntKind.wrap_i64]; omega
  have hb1 : (0 : Int) ≤ (i : Int) + 1 := by omega
  have hin : i ≤ n := by omega
  have htn : ((i : Int) + 1).toNat = i + 1 := by omega
  have hb2 : ¬ (cap = i + 1) := by omega
  have hb3 : (i : Int) ≤ (n : Int) + 1 := by omega
  have hb4 : ¬ (cap = i) := by omega
  clear hM hMl hL1 hL1l hcell hL2 hcur hL hLl
  go_enter Try.func74, Try.ntmps74
  go_wp2_with (simp only [hov])
  go_region_law_o (refine step_copy_runI rfl _ _ 32 32 rfl _ _ (by simp [Act.eval, Act.put]) (by simp [Act.eval, Act.put]) (hcp1 _ _ _) ?_)
  go_wp2_with (at_builtin; refine wpList_copy_runI _ rfl _ _ 32 32 rfl _ _ rfl rfl (hcp2 _ _) ?_)
  go_ret
  refine ⟨_, rfl, ⟨?_, .inr ⟨g, cap, L2.toArray, rfl, hBg, setRow_heap w.drew g cur _ _ _ hg, hroom, by unfold maxLen; omega, by simp [hL2l], by simpa using hfin⟩⟩, ⟨rfl, rfl, rfl, by rw [setRow_size]; exact Nat.le_refl _, fun k hk hne => setRow_other _ _ _ _ (fun e => hne (by simp [ownL, Value.ownBlock, e]))⟩, fun b hb => .inl hb⟩
  rw [← hfin, List.length_take, hL2l]; omega
set_option maxRecDepth 100000 in
set_option maxHeartbeats 3200000 in
theorem insert_end {w : World} {B : Nat} {n : Nat} {sv : Value} {cs : List Value} (hrow : w.ownsRow B 41 2 sv n cs) (hB : B ≤ w.heap.size) (hn : n ≤ 1099511627776)
    {vb : Nat} (x c : Value) (hv : w.heap[vb]? = some (.cells #[x, c] 41 (0, 0))) (hx : x.oneCell' = true) (hc : c.oneCell' = true) :
    Calls Try.prog 74 #[sv, .int .i64 n, .slice (some ⟨vb, 0, none⟩) 1 1] w (InsEnd B n sv (cs ++ [x, c]) w) := by
  obtain ⟨i0, hi0, hz0, hz1, hz2⟩ := info_parts Try.infoCount
  obtain ⟨a, cap, rfl, hcap, hmax, hl, hform⟩ := ownsRow_form hrow
  unfold maxLen at hmax
  have hrowH := Lib.hid hrow
  have h1 : ∀ u ∈ [x, c], u.oneCell' = true := by
    intro v hv; rcases List.mem_cons.1 hv with rfl | hv; exact hx; rw [List.mem_singleton.1 hv]; exact hc
  have hnews := Lib.hid (World.news_of_block hv)
  rcases hform with ⟨rfl, rfl, rfl⟩ | ⟨g, rfl, -, -, -, -⟩
  all_goals
    clear hrow
    go_enter Try.func74, Try.ntmps74
    go_wp2_with (at_builtin; refine wpList_append_lies _ rfl _ _ 32 rfl B 41 i0 _ 2 24 Try.underlying32 hi0 hz0 hz1 hz2 rfl (by decide) _ _ cs rfl hrowH.out ⟨vb, 0, none⟩ 1 1 [x, c] rfl rfl hnews.out h1 (by omega) (by unfold maxLen; omega) (by omega) hB _ rfl ?_; intro g2 cap2 w2 hown2 hgr2 hat2 hlt2; have hown2H := Lib.hid hown2; have hgr2H := Lib.hid hgr2; have hat2H := Lib.hid hat2; clear hown2 hgr2 hat2)
    all_goals
      go_ret
      refine ⟨_, rfl, hown2H.out, ⟨hgr2H.out.os, hgr2H.out.tape, hgr2H.out.output, hgr2H.out.size, fun k hk hne => hgr2H.out.block k hk (fun e => hne (ownL_some.2 e.symm))⟩, fun b hb => ?_⟩
      have hbg : b = g2 := by simpa [ownL, Value.ownBlock] using hb
      subst hbg
      rcases hat2H.out with h | h
      · exact .inl (ownL_some.2 h)
      · exact .inr (by omega)
set_option maxRecDepth 100000 in
set_option maxHeartbeats 3200000 in
theorem insert_grow {w : World} {B : Nat} {n : Nat} {g cap : Nat} {cur : Array Value} (hg : w.heap[g]? = some (.cells cur 41 (0, 0))) (hBw : B ≤ w.heap.size) (i : Nat) (hi : i < n) (hnc : n ≤ cap) (hroom : cap < n + 1) (hn : n ≤ 1099511627776) (hsz : cur.size = cap * 2)
    (h1 : ∀ v ∈ cur.toList.take (n * 2), v.oneCell' = true) {vb : Nat} (x c : Value) (hv : w.heap[vb]? = some (.cells #[x, c] 41 (0, 0))) (hx : x.oneCell' = true) (hc : c.oneCell' = true) :
    Calls Try.prog 74 #[.slice (some ⟨g, 0, none⟩) n cap, .int .i64 i, .slice (some ⟨vb, 0, none⟩) 1 1] w
      (InsEnd B n (.slice (some ⟨g, 0, none⟩) n cap) (putIn (cur.toList.take (n * 2)) i x c) w) := by
  obtain ⟨i0, hi0, hz0, hz1, hz2⟩ := info_parts Try.infoCount
  have hsz2 : (Try.prog.info? 41).map (·.size) = some 2 := by rw [hi0]; simp [hz1]
  have hgw := (Array.getElem?_eq_some_iff.1 hg).1
  have hvw := (Array.getElem?_eq_some_iff.1 hv).1
  have hn2 : ¬ ((i : Int) = (n : Int)) := by omega
  have mixed : Try.prog.follows .mixedOrders = true := by kernel_rfl
  obtain ⟨L, hL⟩ : ∃ L, L = cur.toList := ⟨_, rfl⟩
  have hLl : L.length = cap * 2 := by rw [hL, Array.length_toList, hsz]
  have hcur : cur = L.toArray := by rw [hL]
  rw [← hL] at h1 ⊢
  have hcell : ∀ j v, L[j]? = some v → w.cell? ⟨g, j, none⟩ = some v := fun j v hj => by
    rw [cell_of_row w g j cur _ _ hg, hcur]; simpa using hj
  have hik : i + (n + 1 - i) = n + 1 := by omega
  have hold : (Builtin.firstCells i0.size i (.slice (some ⟨g, 0, none⟩) i cap)).run Try.prog w.drew = .ok (L.take (i * 2)).toArray w.drew := by
    rw [hz1]
    exact run_firstCells_some w.drew 2 i ⟨g, 0, none⟩ i cap (L.take (i * 2)) (by rw [List.length_take]; omega) (fun j v hj => by
      rw [Addr.add_lit, Nat.zero_add]
      rw [List.getElem?_take] at hj
      split at hj
      · exact hcell j v hj
      · cases hj)
  obtain ⟨G, hG⟩ : ∃ G, G = grownCap w (n + 1) cap 41 := ⟨_, rfl⟩
  obtain ⟨ROW, hROW⟩ : ∃ ROW : Array Value, ROW = (L.take (i * 2)).toArray ++ Builtin.zeroCells (Value.agg #[.nilIface, .int .i64 0]).cells (n + 1 - i) ++ Builtin.zeroCells (Value.agg #[.nilIface, .int .i64 0]).cells (G - (n + 1)) := ⟨_, rfl⟩
  obtain ⟨W1, hW1⟩ : ∃ W1, W1 = w.drew.alloc (.cells ROW 41) := ⟨_, rfl⟩
  obtain ⟨H, hH⟩ : ∃ H, H = w.heap.size := ⟨_, rfl⟩
  have hrz : ∀ ty, (Builtin.append_ #[32, 3] ty #[.slice (some ⟨g, 0, none⟩) i cap, .int .i64 ((n : Int) + 1 - (i : Int))]).run Try.prog w = .ok (.slice (some ⟨H, 0, none⟩) (n + 1) G) W1 := fun ty => by
    have h := Lib.run_append_grow_zeros w 32 3 ty 41 i0 _ .i64 .i64 Try.underlying32 Try.underlying3 hi0 hz0 (some ⟨g, 0, none⟩) i cap (L.take (i * 2)) hold (n + 1 - i) (by omega) (by omega) (by omega) (by omega) (by rw [hz2]; omega) (by rw [hz2, hik]; exact growslice_fits hroom (by omega))
    rw [hik] at h
    rw [show (n : Int) + 1 - (i : Int) = ((n + 1 - i : Nat) : Int) by omega, hW1, hROW, hG, hH]
    exact h
  have hGn : n + 1 ≤ G := by rw [hG]; exact grownCap_ge w _ _ _
  have hG63 : G ≤ 9223372036854775807 := by
    have := grownCap_le_maxLen w (n + 1) cap 41 (by unfold maxLen; omega)
    rw [← hG] at this
    unfold maxLen at this
    omega
  have hzc : (Value.agg #[.nilIface, .int .i64 0]).cells.size = 2 := rfl
  have hRl : ROW.size = G * 2 := by
    rw [hROW, Array.size_append, Array.size_append, size_zeroCells, size_zeroCells, hzc, List.size_toArray, List.length_take, hLl]; omega
  have hW1r : W1.heap[H]? = some (.cells ROW 41 (0, 0)) := by rw [hW1, hH]; exact heap_alloc_at _ rfl
  have hW1o : ∀ k, k < w.heap.size → W1.heap[k]? = w.heap[k]? := fun k hk => by rw [hW1]; exact Below.heap_alloc w.drew _ k hk
  have hvg : vb ≠ H := by omega
  have hgH : g ≠ H := by omega
  obtain ⟨X1, hX1⟩ : ∃ X1, X1 = splice ROW.toList (i * 2) [x, c] := ⟨_, rfl⟩
  have hX1l : X1.length = G * 2 := by rw [hX1, length_splice _ _ _ (by show i * 2 + 2 ≤ ROW.toList.length; rw [show ROW.toList.length = ROW.size from rfl]; omega), Array.length_toList, hRl]
  obtain ⟨W2, hW2⟩ : ∃ W2, W2 = W1.setRow H X1.toArray := ⟨_, rfl⟩
  have hcpA : ∀ ty dc, (Builtin.copy_ #[32, 32] ty #[.slice (some ⟨H, i * 2, none⟩) (n + 1 - i) dc, .slice (some ⟨vb, 0, none⟩) 1 1]).run Try.prog W1 = .ok (goInt 1) W2 := fun ty dc => by
    have hmin : Nat.min 1 (n + 1 - i) = 1 := by simp only [Nat.min_def]; split <;> omega
    have := run_copy_wide (P := Try.prog) W1 32 32 ty 41 2 H (i * 2) (n + 1 - i) dc ⟨vb, 0, none⟩ 1 1 ROW 41 [x, c] Try.underlying32 hsz2 hW1r (by rw [hmin]; rfl) (fun j v hj => by
      rw [Addr.add_lit, Nat.zero_add]
      exact (World.cell?_of_block (a := ⟨vb, j, none⟩) (hW1o vb hvw)).trans ((cell_of_row w vb j _ _ _ hv).trans (by simpa using hj))) (by rw [hRl]; simp; omega) (by intro v hv; rcases List.mem_cons.1 hv with rfl | hv; exact hx; rw [List.mem_singleton.1 hv]; exact hc)
    rw [hmin, ← hX1, ← hW2] at this
    exact this
  obtain ⟨M, hM⟩ : ∃ M, M = (L.take (n * 2)).drop (i * 2) := ⟨_, rfl⟩
  have hMl : M.length = (n - i) * 2 := by rw [hM, List.length_drop, List.length_take, hLl]; omega
  obtain ⟨X2, hX2⟩ : ∃ X2, X2 = splice X1 ((i + 1) * 2) M := ⟨_, rfl⟩
  have hX2l : X2.length = G * 2 := by rw [hX2, length_splice _ _ _ (by rw [hX1l, hMl]; omega), hX1l]
  have hW2r : W2.heap[H]? = some (.cells X1.toArray 41 (0, 0)) := by rw [hW2]; exact setRow_heap W1 H ROW _ _ _ hW1r
  have hW2o : ∀ k, k < w.heap.size → W2.heap[k]? = w.heap[k]? := fun k hk => by rw [hW2, setRow_other _ _ _ _ (by omega)]; exact hW1o k hk
  have hW2f : W2.os = w.os ∧ W2.tape = w.tape ∧ W2.output = w.output ∧ W2.heap.size = w.heap.size + 1 := by rw [hW2, hW1]; exact ⟨rfl, rfl, rfl, by rw [setRow_size, World.size_alloc]; rfl⟩
  have hcpB : ∀ ty dc sc, (Builtin.copy_ #[32, 32] ty #[.slice (some ⟨H, (i + 1) * 2, none⟩) (n - i) dc, .slice (some ⟨g, i * 2, none⟩) (n - i) sc]).run Try.prog W2.drew = .ok (goInt ((n - i : Nat) : Int)) (W2.drew.setRow H X2.toArray) := fun ty dc sc => by
    have hmin : Nat.min (n - i) (n - i) = n - i := Nat.min_self _
    have := run_copy_wide (P := Try.prog) W2.drew 32 32 ty 41 2 H ((i + 1) * 2) (n - i) dc ⟨g, i * 2, none⟩ (n - i) sc X1.toArray 41 M Try.underlying32 hsz2 hW2r (by rw [hmin, hMl]) (fun j v hj => by
      rw [Addr.add_lit]
      rw [hM, List.getElem?_drop, List.getElem?_take] at hj
      split at hj
      · exact (World.cell?_of_block (a := ⟨g, i * 2 + j, none⟩) (hW2o g hgw)).trans (hcell _ _ hj)
      · cases hj) (by rw [hMl]; simp [hX1l]; omega) (fun v hv => h1 v (List.mem_of_mem_drop (hM ▸ hv)))
    rw [hmin, ← hX2] at this
    exact this
  have hfin : X2.take ((n + 1) * 2) = putIn (L.take (n * 2)) i x c := by
    have a1 : (L.take (i * 2)).length = i * 2 := by rw [List.length_take, hLl]; omega
    have e0 : ROW.toList.take (i * 2) = L.take (i * 2) := by
      rw [hROW]; simp only [Array.toList_append, List.append_assoc]; exact List.take_left' a1
    have e1 : X1.take ((i + 1) * 2) = L.take (i * 2) ++ [x, c] := by
      rw [hX1]; unfold splice; rw [e0, ← List.append_assoc]; exact List.take_left' (by rw [List.length_append, a1]; simp; omega)
    rw [hX2]
    unfold splice
    rw [e1, ← List.append_assoc, List.take_left' (by rw [List.length_append, List.length_append, a1, hMl]; simp; omega)]
    unfold putIn
    rw [Nat.mul_comm 2 i, ← hM, List.take_take, Nat.min_eq_left (by omega)]
    simp
  have hwr : IntKind.i64.wrap ((n : Int) + 1) = (n : Int) + 1 := by rw [IntKind.wrap_i64]; omega
  have hwr2 : IntKind.i64.wrap ((n : Int) + 1 - (i : Int)) = (n : Int) + 1 - (i : Int) := by rw [IntKind.wrap_i64]; omega
  have hz3 : (cap : Int) < (n : Int) + 1 := by omega
  have hw1 : IntKind.i64.wrap ((i : Int) + 1) = (i : Int) + 1 := by rw [IntKind.wrap_i64]; omega
  have hb1 : (0 : Int) ≤ (i : Int) + 1 := by omega
  have hin : i ≤ n := by omega
  have htn : ((i : Int) + 1).toNat = i + 1 := by omega
  have hGi : ¬ (G = i) := by omega
  have hGim : ¬ (G = i + 1) := by omega
  have hci : ¬ (cap = i) := by omega
  have hb3 : (i : Int) ≤ (n : Int) := by omega
  have hW2fH := Lib.hid hW2f
  have hW2oH := Lib.hid hW2o
  have hW2rH := Lib.hid hW2r
  have hHH := Lib.hid hH
  clear hM hMl hX1 hX1l hX2 hcell hcur hL hLl hROW hRl hG hold hW1 hW2 hW1r hW1o hW2f hW2o hW2r hik hzc hH
  go_enter Try.func74, Try.ntmps74
  go_wp2_with (first
    | (at_builtin; refine Lib.wpList_append_run _ rfl _ _ _ _ rfl _ _ rfl rfl _ _ (hrz _) ?_)
    | (at_builtin; refine wpList_copy_runI _ rfl _ _ 32 32 rfl _ _ rfl rfl (hcpA _ _) ?_))
  go_region_law_o (refine step_copy_runI rfl _ _ 32 32 rfl _ _ (by simp [Act.eval, Act.put]) (by simp [Act.eval, Act.put]) (hcpB _ _ _) ?_)
  go_wp2
  go_ret
  refine ⟨_, rfl, ⟨?_, .inr ⟨H, G, X2.toArray, rfl, by have := hHH.out; omega, setRow_heap W2.drew H X1.toArray _ _ _ hW2rH.out, hGn, by unfold maxLen; omega, by simp [hX2l], by simpa using hfin⟩⟩, ⟨hW2fH.out.1, hW2fH.out.2.1, hW2fH.out.2.2.1, by rw [setRow_size]; have := hW2fH.out.2.2.2; show w.heap.size ≤ W2.heap.size; omega, fun k hk hne => (setRow_other W2.drew H k _ (by have := hHH.out; omega)).trans (hW2oH.out k hk)⟩, fun b hb => .inr (by have := hHH.out; have hbg : b = H := (by simpa [ownL, Value.ownBlock] using hb); omega)⟩
  rw [← hfin, List.length_take, hX2l]; omega
/-- THE ROAD WHOLE. -/
theorem insert_said {w : World} {B : Nat} {sv : Value} {n : Nat} {cs : List Value} (hrow : w.ownsRow B 41 2 sv n cs) (hB : B ≤ w.heap.size) (i : Nat) (hi : i ≤ n) (hn : n ≤ 1099511627776)
    (h1 : ∀ v ∈ cs, v.oneCell' = true) {vb : Nat} (x c : Value) (hv : w.heap[vb]? = some (.cells #[x, c] 41 (0, 0))) (hx : x.oneCell' = true) (hc : c.oneCell' = true) (hvs : vb ∉ ownL sv) :
    Calls Try.prog 74 #[sv, .int .i64 i, .slice (some ⟨vb, 0, none⟩) 1 1] w (InsEnd B n sv (putIn cs i x c) w) := by
  by_cases hin : i = n
  · subst hin
    have e : putIn cs i x c = cs ++ [x, c] := by
      unfold putIn; rw [List.take_of_length_le (by have := hrow.1; omega), List.drop_eq_nil_of_le (by have := hrow.1; omega)]
    rw [e]
    exact insert_end hrow hB hn x c hv hx hc
  · obtain ⟨hl, ⟨rfl, rfl⟩ | ⟨g, cap, cur, rfl, hBg, hg, hnc, hm, hs, ht⟩⟩ := hrow
    · omega
    · rw [← ht] at h1 ⊢
      by_cases hr : n + 1 ≤ cap
      · exact insert_shift hg hBg i (by omega) hr hm hs h1 x c hv hx hc (fun e => hvs (by simp [ownL, Value.ownBlock, e]))
      · exact insert_grow hg hB i (by omega) hnc (by omega) hn hs h1 x c hv hx hc
end Go.Proofs.Ytgmdbpplfjkjmaa

/-! digest.order, and slices.BinarySearchFunc among counts. -/
namespace Go.Proofs.Ytgmdbpplfjkjmaa
open Go.RowKit Go.Lib
set_option linter.unusedVariables false
set_option linter.unusedSimpArgs false

/-- A count: its value in memory, the value, how often, its blocks. -/
abbrev CT : Type := Value × Val × Int × List Nat
def flatC (ps : List CT) : List Value := ps.flatMap fun p => [p.1, .int .i64 p.2.2.1]
theorem flatC_length : ∀ ps : List CT, (flatC ps).length = ps.length * 2
  | [] => rfl
  | p :: l => by
    show ([p.1, .int .i64 p.2.2.1] ++ flatC l).length = _
    rw [List.length_append, flatC_length l, List.length_cons]; simp; omega
theorem flatC_at : ∀ (ps : List CT) (k : Nat) (p : CT), ps[k]? = some p → (flatC ps)[k * 2]? = some p.1 ∧ (flatC ps)[k * 2 + 1]? = some (.int .i64 p.2.2.1)
  | [], k, p, h => by simp at h
  | q :: l, 0, p, h => by
    obtain rfl : q = p := by simpa using h
    exact ⟨rfl, rfl⟩
  | q :: l, k + 1, p, h => by
    have := flatC_at l k p (by simpa using h)
    have e : flatC (q :: l) = q.1 :: .int .i64 q.2.2.1 :: flatC l := rfl
    rw [e, show (k + 1) * 2 = k * 2 + 1 + 1 by omega]
    exact this
theorem flatC_append (l m : List CT) : flatC (l ++ m) = flatC l ++ flatC m := by unfold flatC; rw [List.flatMap_append]
theorem flatC_take (ps : List CT) (i : Nat) (hi : i ≤ ps.length) : (flatC ps).take (2 * i) = flatC (ps.take i) := by
  have e : flatC ps = flatC (ps.take i) ++ flatC (ps.drop i) := by rw [← flatC_append, List.take_append_drop]
  rw [e]; exact List.take_left' (by rw [flatC_length, List.length_take]; omega)
theorem flatC_drop (ps : List CT) (i : Nat) (hi : i ≤ ps.length) : (flatC ps).drop (2 * i) = flatC (ps.drop i) := by
  have e : flatC ps = flatC (ps.take i) ++ flatC (ps.drop i) := by rw [← flatC_append, List.take_append_drop]
  rw [e]; exact List.drop_left' (by rw [flatC_length, List.length_take]; omega)
theorem flatC_putIn (ps : List CT) (i : Nat) (hi : i ≤ ps.length) (x : Value) (v : Val) (n : Int) (f : List Nat) : putIn (flatC ps) i x (.int .i64 n) = flatC (ps.take i ++ (x, v, n, f) :: ps.drop i) := by
  unfold putIn
  rw [flatC_take ps i hi, flatC_drop ps i hi, flatC_append]; rfl
/-- The values of counts stand in memory; all their blocks are such. -/
def CsOk (w : World) (T : Nat → Prop) (ps : List CT) : Prop := ∀ p ∈ ps, VRep w p.2.1 p.1 p.2.2.2 ∧ okB p.2.1 = true ∧ ∀ b ∈ p.2.2.2, T b
theorem CsOk.but {S T : Nat → Prop} {w w' : World} {ps : List CT} (h : CsOk w T ps) (hb : But S w w') (hs : ∀ b, T b → ¬ S b) : CsOk w' T ps := fun p hp => by
  obtain ⟨h1, h2, h3⟩ := h p hp
  exact ⟨VRep.but h1 hb (fun b hbf => hs b (h3 b hbf)), h2, h3⟩
theorem CsOk.below {T : Nat → Prop} {w w' : World} {ps : List CT} (h : CsOk w T ps) (hb : Below w.heap.size w w') : CsOk w' T ps := h.but (below_but0 hb) (fun _ _ f => f)
theorem CsOk.mono {T U : Nat → Prop} {w : World} {ps : List CT} (h : CsOk w T ps) (hu : ∀ b, T b → U b) : CsOk w U ps := fun p hp => by
  obtain ⟨h1, h2, h3⟩ := h p hp
  exact ⟨h1, h2, fun b hb => hu b (h3 b hb)⟩
theorem CsOk.ones {T : Nat → Prop} {w : World} {ps : List CT} (h : CsOk w T ps) : ∀ v ∈ flatC ps, v.oneCell' = true := fun v hv => by
  obtain ⟨p, hp, hv⟩ := List.mem_flatMap.1 hv
  obtain ⟨h1, -, -⟩ := h p hp
  rcases List.mem_cons.1 hv with rfl | hv
  · exact h1.one
  · rw [List.mem_singleton.1 hv]; rfl
theorem VRep.below {w w' : World} {v : Val} {x : Value} {fs : List Nat} (h : VRep w v x fs) (hb : Below w.heap.size w w') : VRep w' v x fs := VRep.but h (below_but0 hb) (fun _ _ f => f)

set_option maxRecDepth 100000 in
theorem Order_ok {w : World} {v u : Val} {x y : Value} {fs gs : List Nat} (h : VRep w v x fs) (h' : VRep w u y gs) (ho : okB v = true) (ho' : okB u = true) :
    Calls Try.prog 136 #[x, y] w fun e w' => e = .returned (.tuple #[.int .i64 (cmpV v u), .int .i64 0]) ∧ Below w.heap.size w w' := by
  have hc := check_any h
  rw [check_ok ho] at hc
  have hcH := Lib.hid hc
  have hdH := Lib.hid (fun (W : World) (hb : Below w.heap.size w W) => by
    have hd := check_any (h'.below hb)
    rw [check_ok ho'] at hd
    exact hd)
  have hord := Lib.hid (fun (W : World) (hb : Below w.heap.size w W) => order_any v u x y fs gs W (h.below hb) (h'.below hb) (okV_check ho) (okV_check ho'))
  have hx := h.one
  have hy := h'.one
  clear h h' ho ho' hc
  go_enter Try.func136, Try.ntmps136
  go_wp2_with fail
  refine hcH.out.mono ?_
  rintro e w1 ⟨rfl, hb1⟩
  go_wp2_with fail
  refine (hdH.out w1 hb1).mono ?_
  rintro e w2 ⟨rfl, hb2⟩
  have hb12 := Lib.hid (hb1.trans (hb2.mono hb1.size))
  clear hb2
  go_wp2_with fail
  refine (hord.out w2 hb12.out).mono ?_
  rintro e w3 ⟨rfl, hg3⟩
  have hb3 := Lib.hid hg3.below
  clear hg3
  go_wp2
  go_ret2
  exact ⟨rfl, hb12.out.trans (hb3.out.mono hb12.out.size)⟩
set_option maxRecDepth 100000 in
theorem dorder_ok {w : World} {v u : Val} {x y : Value} {fs gs : List Nat} (h : VRep w v x fs) (h' : VRep w u y gs) (ho : okB v = true) (ho' : okB u = true) :
    Calls Try.prog 73 #[x, y] w fun e w' => e = .returned (.int .i64 (cmpV v u)) ∧ Below w.heap.size w w' := by
  have hc := Lib.hid (Order_ok h h' ho ho')
  have hx := h.one
  have hy := h'.one
  clear h h' ho ho'
  go_enter Try.func73, Try.ntmps73
  go_wp2_with fail
  refine hc.out.mono ?_
  rintro e w1 ⟨rfl, hb1⟩
  go_wp2
  go_ret
  exact ⟨rfl, hb1⟩
set_option maxRecDepth 100000 in
theorem group1_ok {w : World} {v u : Val} {x y : Value} {fs gs : List Nat} (n : Int) (h : VRep w v x fs) (h' : VRep w u y gs) (ho : okB v = true) (ho' : okB u = true) :
    Calls Try.prog 72 #[.agg #[x, .int .i64 n], y] w fun e w' => e = .returned (.int .i64 (cmpV v u)) ∧ Below w.heap.size w w' := by
  have hb0 : Below w.heap.size w (w.alloc (.cells #[x, .int .i64 n] 41)) := (Below.refl _ _).alloc (Nat.le_refl _) _
  have hc := Lib.hid (dorder_ok (h.below hb0) (h'.below hb0) ho ho')
  have hb0H := Lib.hid hb0
  have hx := h.one
  have hy := h'.one
  clear h h' ho ho' hb0
  go_enter Try.func72, Try.ntmps72
  go_wp2_with fail
  refine hc.out.mono ?_
  rintro e w1 ⟨rfl, hb1⟩
  have hb1H := Lib.hid hb1
  clear hb1
  go_wp2
  go_ret
  exact ⟨rfl, hb0H.out.trans (hb1H.out.mono hb0H.out.size)⟩
def thereC (ps : List CT) (i : Nat) (u : Val) : Bool := match ps[i]? with
  | some p => decide (cmpV p.2.1 u = 0)
  | none => false
def risenC (ps : List CT) : Prop := ps.Pairwise fun p q => cmpV p.2.1 q.2.1 = -1
theorem risenC_mono {ps : List CT} (h : risenC ps) {a b : Nat} {p q : CT} (hab : a ≤ b) (hp : ps[a]? = some p) (hq : ps[b]? = some q) {u : Val} (hu : cmpV q.2.1 u < 0) : cmpV p.2.1 u < 0 := by
  rcases Nat.lt_or_eq_of_le hab with hlt | rfl
  · obtain ⟨ha, rfl⟩ := List.getElem?_eq_some_iff.1 hp
    obtain ⟨hb, rfl⟩ := List.getElem?_eq_some_iff.1 hq
    have := List.pairwise_iff_getElem.1 h a b ha hb hlt
    have h2 := cmpV_lt this (Int.le_of_lt hu)
    rw [h2]; decide
  · rw [hp] at hq
    obtain rfl := Option.some.inj hq
    exact hu
def FindEnd (ps : List CT) (u : Val) (w : World) (e : Ending) (w' : World) : Prop := ∃ i : Nat, i ≤ ps.length ∧ e = .returned (.tuple #[.int .i64 i, .bool (thereC ps i u)]) ∧
  (∀ t p, t < i → ps[t]? = some p → cmpV p.2.1 u < 0) ∧ (∀ t p, i ≤ t → ps[t]? = some p → 0 ≤ cmpV p.2.1 u) ∧ Below w.heap.size w w'
set_option maxRecDepth 100000 in
set_option maxHeartbeats 1600000 in
theorem find_said {w : World} {B : Nat} {T : Nat → Prop} {sv : Value} {ps : List CT} {u : Val} {y : Value} {gs : List Nat} (hrow : w.ownsRow B 41 2 sv ps.length (flatC ps)) (hok : CsOk w T ps) (hs : risenC ps) (hn : ps.length ≤ 1099511627776)
    (h' : VRep w u y gs) (ho' : okB u = true) :
    Calls Try.prog 71 #[sv, y, .func (.func 72) #[] #[]] w (FindEnd ps u w) := by
  obtain ⟨a, cap, rfl, hcap, hmax, -, hform⟩ := ownsRow_form hrow
  unfold maxLen at hmax
  have hf := Lib.hid hform
  have hy := h'.one
  have hokH := Lib.hid hok
  have hsH := Lib.hid hs
  have hvH := Lib.hid h'
  have hoH := Lib.hid ho'
  clear hrow hform hok hs h' ho'
  go_enter Try.func71, Try.ntmps71
  go_wp2_with fail
  go_loopg [9, 10] ps.length (fun kx s9 s10 wr => ∃ lo hi : Nat, s9 = .int .i64 lo ∧ s10 = .int .i64 hi ∧ lo ≤ hi ∧ hi ≤ ps.length ∧ hi - lo ≤ kx ∧ Below w.heap.size w wr ∧
    (∀ t p, t < lo → ps[t]? = some p → cmpV p.2.1 u < 0) ∧ (∀ t p, hi ≤ t → ps[t]? = some p → 0 ≤ cmpV p.2.1 u))
  case atStart => exact ⟨0, ps.length, rfl, rfl, Nat.zero_le _, Nat.le_refl _, by omega, Below.refl _ _, fun t p ht => absurd ht (Nat.not_lt_zero _), fun t p h1 h2 => by have := (List.getElem?_eq_some_iff.1 h2).1; omega⟩
  case round =>
    obtain ⟨lo, hi, rfl, rfl, hlh, hin, hg, hb, I1, I2⟩ := hrel
    have hbH := Lib.hid hb
    have I1H := Lib.hid I1
    have I2H := Lib.hid I2
    clear I1 I2
    by_cases hlt : lo < hi
    · rcases hf.out with ⟨-, h0', -⟩ | ⟨g, rfl, -, hgs, -, hcells⟩
      · omega
      have hmid : (lo + hi) / 2 < ps.length := by omega
      obtain ⟨⟨x, v, m, f⟩, hp⟩ : ∃ p, ps[(lo + hi) / 2]? = some p := ⟨_, List.getElem?_eq_getElem hmid⟩
      obtain ⟨hp1, hp2⟩ := flatC_at ps _ _ hp
      obtain ⟨hv, hvo, -⟩ := hokH.out _ (List.mem_of_getElem? hp)
      have hx := hv.one
      have hc0 : wr.cell? ⟨g, (lo + hi) / 2 * 2, none⟩ = some x := (hb.cell (p := ⟨g, (lo + hi) / 2 * 2, none⟩) hgs).trans ((hcells ((lo + hi) / 2 * 2) (by omega)).trans hp1)
      have hc1 : wr.cell? ⟨g, (lo + hi) / 2 * 2 + 1, none⟩ = some (.int .i64 m) := (hb.cell (p := ⟨g, (lo + hi) / 2 * 2 + 1, none⟩) hgs).trans ((hcells ((lo + hi) / 2 * 2 + 1) (by omega)).trans hp2)
      have hcall := group1_ok m (hv.below hb) (hvH.out.below hb) hvo hoH.out
      obtain ⟨r, hr⟩ : ∃ r : Int, r = cmpV v u := ⟨_, rfl⟩
      rw [← hr] at hcall
      have hrH := Lib.hid hr
      have hpH := Lib.hid hp
      have hcallH := Lib.hid hcall
      clear hcall hr hp hp1 hp2 hv hvo hcells hb
      by_cases hr0 : r < 0
      · go_wp2_with fail
        refine hcallH.out.mono ?_
        rintro e w' ⟨rfl, hb2⟩
        have hb2H := Lib.hid hb2
        clear hb2
        go_wp2_with fail
        go_roundg (hi - ((lo + hi) / 2 + 1))
        case measure => omega
        case rel => exact ⟨(lo + hi) / 2 + 1, hi, by rw [show ((lo : Int) + (hi : Int)) / 2 + 1 = (((lo + hi) / 2 + 1 : Nat) : Int) by omega], rfl, by omega, hin, Nat.le_refl _, hbH.out.trans (hb2H.out.mono hbH.out.size), fun t p ht hpt => risenC_mono hsH.out (show t ≤ (lo + hi) / 2 by omega) hpt hpH.out (by show cmpV v u < 0; rw [← hrH.out]; exact hr0), I2H.out⟩
      · go_wp2_with fail
        refine hcallH.out.mono ?_
        rintro e w' ⟨rfl, hb2⟩
        have hb2H := Lib.hid hb2
        clear hb2
        go_wp2_with fail
        go_roundg ((lo + hi) / 2 - lo)
        case measure => omega
        case rel => exact ⟨lo, (lo + hi) / 2, rfl, by rw [show ((lo : Int) + (hi : Int)) / 2 = (((lo + hi) / 2 : Nat) : Int) by omega], by omega, by omega, Nat.le_refl _, hbH.out.trans (hb2H.out.mono hbH.out.size), I1H.out, fun t p ht hpt => Int.not_lt.1 (fun h => by
          have h3 : cmpV v u < 0 := risenC_mono hsH.out ht hpH.out hpt h
          rw [← hrH.out] at h3
          omega)⟩
    · obtain rfl : hi = lo := by omega
      by_cases hn : hi < ps.length
      · rcases hf.out with ⟨-, h0', -⟩ | ⟨g, rfl, -, hgs, -, hcells⟩
        · omega
        obtain ⟨⟨x, v, m, f⟩, hp⟩ : ∃ p, ps[hi]? = some p := ⟨_, List.getElem?_eq_getElem hn⟩
        obtain ⟨hp1, hp2⟩ := flatC_at ps _ _ hp
        obtain ⟨hv, hvo, -⟩ := hokH.out _ (List.mem_of_getElem? hp)
        have hx := hv.one
        have hc0 : wr.cell? ⟨g, hi * 2, none⟩ = some x := (hb.cell (p := ⟨g, hi * 2, none⟩) hgs).trans ((hcells (hi * 2) (by omega)).trans hp1)
        have hc1 : wr.cell? ⟨g, hi * 2 + 1, none⟩ = some (.int .i64 m) := (hb.cell (p := ⟨g, hi * 2 + 1, none⟩) hgs).trans ((hcells (hi * 2 + 1) (by omega)).trans hp2)
        have hcall := group1_ok m (hv.below hb) (hvH.out.below hb) hvo hoH.out
        have hth : thereC ps hi u = decide (cmpV v u = 0) := by unfold thereC; rw [hp]
        obtain ⟨r, hr⟩ : ∃ r : Int, r = cmpV v u := ⟨_, rfl⟩
        rw [← hr] at hcall hth
        have hthH := Lib.hid hth
        have hcallH := Lib.hid hcall
        clear hcall hr hp hp1 hp2 hv hvo hcells hb hth
        by_cases hr0 : r = 0
        · go_wp2_with fail
          refine hcallH.out.mono ?_
          rintro e w' ⟨rfl, hb2⟩
          have hb2H := Lib.hid hb2
          clear hb2
          go_wp2
          go_ret2
          exact ⟨hi, hin, by rw [hthH.out]; simp [hr0], I1H.out, I2H.out, hbH.out.trans (hb2H.out.mono hbH.out.size)⟩
        · go_wp2_with fail
          refine hcallH.out.mono ?_
          rintro e w' ⟨rfl, hb2⟩
          have hb2H := Lib.hid hb2
          clear hb2
          go_wp2
          go_ret2
          exact ⟨hi, hin, by rw [hthH.out]; simp [hr0], I1H.out, I2H.out, hbH.out.trans (hb2H.out.mono hbH.out.size)⟩
      · have hth : thereC ps hi u = false := by unfold thereC; rw [List.getElem?_eq_none (by omega)]
        have hthH := Lib.hid hth
        clear hb hth
        go_wp2
        go_ret2
        exact ⟨hi, hin, by rw [hthH.out]; simp [hn], I1H.out, I2H.out, hbH.out⟩
end Go.Proofs.Ytgmdbpplfjkjmaa
