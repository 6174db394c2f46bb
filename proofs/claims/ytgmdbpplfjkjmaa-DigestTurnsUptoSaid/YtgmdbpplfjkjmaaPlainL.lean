/- tenonmake.plain of dicts. -/
import Derived.Test.YtgmdbpplfjkjmaaPlainT
import Derived.Test.YtgmdbpplfjkjmaaWords
namespace Go.Proofs.Ytgmdbpplfjkjmaa
open Go.RowKit
set_option linter.unusedVariables false
set_option linter.unusedSimpArgs false

/-- What is stored last. -/
theorem plain_close {w w1 : World} {cells : List Value} {t : Term} (hB : w1.heap[w.heap.size]? = some (.cells zeroCells 31 (0, 0))) (hb : Below w.heap.size w w1) (ht : TRep (only w1 (fun b => w.heap.size < b)) t cells) :
    (w1.setRow w.heap.size cells.toArray).heap[w.heap.size]? = some (.cells cells.toArray 31 (0, 0)) ∧ TRep (only (w1.setRow w.heap.size cells.toArray) (fun b => w.heap.size ≤ b)) t cells ∧ Below w.heap.size w (w1.setRow w.heap.size cells.toArray) := by
  refine ⟨setRow_heap _ _ _ _ _ _ hB, TRep.keep (only_keep fun b hb hs => ⟨Nat.le_of_lt hs, setRow_other _ _ _ _ (by omega)⟩) _ _ ht, ?_⟩
  exact ⟨hb.os, hb.tape, hb.output, by rw [size_setRow]; exact hb.size, fun k hk => (setRow_other _ _ _ _ (by omega)).trans (hb.block k hk)⟩
/-- Entries that a call made, as a term's field. -/
theorem entries_field {w w1 : World} {n B : Nat} {es : List (ByteArray × Term)} {se : Value} {xe : List Value} (hlt : w.heap.size < B) (ho : w1.ownsRow B 218 12 se n xe) (hn : n ≤ 1048576) (hes : EsRep (only w1 (NotOwn B se)) es xe) :
    AtRow (only w1 (fun b => w.heap.size < b)) se n 12 xe ∧ EsRep (only w1 (fun b => w.heap.size < b)) es xe :=
  ⟨(AtRow.of_own ho hn).only (fun _ b hb => by have := (ownsRow_lt ho b (ownL_some.2 hb)).1; omega) (by omega), EsRep.keep (only_keep fun b _ hs => ⟨by have := hs.1; omega, rfl⟩) _ _ hes⟩

set_option maxRecDepth 100000 in
set_option maxHeartbeats 1600000 in
theorem plain_dict (d : List (ByteArray × Val)) (ih : ∀ u ∈ d.map (·.2), PlainSaid u) : PlainSaid (.dict d) := by
  intro deep x fs w h hs h0 h1
  simp only [VRep] at h
  obtain ⟨sv, xs, gs, rfl, ho, hd, rfl⟩ := h
  simp only [smallV] at hs
  by_cases hd4 : 400 < deep
  · have hd' : decide (400 < deep) = true := by simpa using hd4
    have hT := fun W => leaf_rep W 0 false 0 0 ⟨#[]⟩ 0 (by rfl) (by rfl) (by rfl) (by simp [maxLen, ByteArray.size]) (by rfl)
    go_enter Try.func87, Try.ntmps87
    go_wp2_with (refine wpList_store_row rfl 31 (.tmp 4) _ rfl w.heap.size zeroCells rfl rfl 31 zeroCells (zeroB w) termSize rfl (all_one (TRep.ones (hT w))) ?_)
    all_goals rw [World.setRow_alloc_new]
    all_goals go_wp2
    all_goals refine ⟨rfl, _, results_cell_row rfl _ _ w.heap.size 31 zeroCells (0, 0) _ rfl (heap_alloc_new w _) Try.underlying31 rfl termSize, _, rfl, ?_, (Below.refl _ _).alloc (Nat.le_refl _) _⟩
    all_goals (rw [plainT, hd']; exact hT _)
  · have hd' : decide (400 < deep) = false := by simpa using hd4
    have hal : Below w.heap.size w (w.alloc (.cells zeroCells 31)) := (Below.refl _ _).alloc (Nat.le_refl _) _
    have hen := Lib.hid (entries_plain d ih sv xs gs (w.alloc (.cells zeroCells 31)) deep (ownsRow_keep ho (fun b hb => hal.block b (ownsRow_lt ho b hb).2)) (DsRep.but hd (below_but0 hal) (fun _ _ f => f)) hs.1 hs.2 h0 (by omega))
    have hsz : (w.alloc (.cells zeroCells 31)).heap.size = w.heap.size + 1 := size_alloc _ _
    rw [hsz] at hen
    have hpl : plainT (.dict d) deep = .mk 9 false 0 0 ⟨#[]⟩ [] 0 [] (plainEs d (deep + 1)) ⟨#[]⟩ 0 := by rw [plainT, hd']; rfl
    unfold PlainEnd
    rw [hpl]
    have hsm := Lib.hid hs.1
    clear hs ho hd ih hpl
    go_enter Try.func87, Try.ntmps87
    go_wp2_with fail
    refine hen.out.mono ?_
    rintro e w1 ⟨se, xe, rfl, ho1, hes, hb1⟩
    have hB := (hb1.block w.heap.size (by omega)).trans (zeroB w)
    have hbw : Below w.heap.size w w1 := hal.trans (below_le hb1 (by omega))
    obtain ⟨hrow, hes'⟩ := entries_field (w := w) (by omega) ho1 hsm.out hes
    obtain ⟨oa, cap, rfl, -⟩ := ownsRow_form ho1
    have hT : TRep (only w1 (fun b => w.heap.size < b)) (.mk 9 false 0 0 ⟨#[]⟩ [] 0 [] (plainEs d (deep + 1)) ⟨#[]⟩ 0) [.int .i64 9, .bool false, .int .i64 0, .float .f64 0, .string ⟨#[]⟩, .slice none 0 0, .int .u64 0, .slice none 0 0, .slice oa d.length cap, .string ⟨#[]⟩, .int .i64 0] := by
      simp only [TRep]
      refine ⟨_, _, _, [], xe, rfl, ⟨by rfl, by rfl, by rfl, by simp [maxLen, ByteArray.size], by rfl, by simp [maxLen, ByteArray.size], by rfl⟩, nilRow, nilRow, rfl, ?_, hes'⟩
      rw [plainEs_eq, List.length_map]
      exact hrow
    have hcl := Lib.hid (plain_close hB hbw hT)
    have hone := TRep.ones hT
    clear hrow hes' hT hes ho1
    go_wp2_with (refine wpList_store_row rfl 31 (.tmp 4) _ rfl w.heap.size #[.int .i64 9, .bool false, .int .i64 0, .float .f64 0, .string ⟨#[]⟩, .slice none 0 0, .int .u64 0, .slice none 0 0, .slice oa d.length cap, .string ⟨#[]⟩, .int .i64 0] rfl rfl 31 zeroCells hB termSize rfl (all_one hone) ?_)
    all_goals go_wp2
    all_goals exact ⟨rfl, _, results_cell_row rfl _ _ w.heap.size 31 _ (0, 0) _ rfl hcl.out.1 Try.underlying31 rfl termSize, _, rfl, hcl.out.2.1, hcl.out.2.2⟩
end Go.Proofs.Ytgmdbpplfjkjmaa

/-! tenonmake.plain of lists. -/
namespace Go.Proofs.Ytgmdbpplfjkjmaa
open Go.RowKit
set_option linter.unusedVariables false
set_option linter.unusedSimpArgs false

theorem run_buildTerm1 (a0 a1 a2 a3 a4 a5 a6 a7 a8 a9 a10 : Value) (W : World) : (Instr.buildSlice 22 1 #[(0, .agg #[a0, a1, a2, a3, a4, a5, a6, a7, a8, a9, a10])]).run Try.prog W = .ok (.slice (some ⟨W.heap.size, 0, none⟩) 1 1) (W.alloc (.cells #[a0, a1, a2, a3, a4, a5, a6, a7, a8, a9, a10] 31)) := by kernel_rfl
theorem Try.infoTerm : (Try.prog.info? 31).map (fun i => (i.zero, i.size, i.bytes)) = some (some (.agg zeroCells), 11, 152) := by kernel_rfl
/-- The list under way: its row in field 7 of a block of its own. -/
def listCells (sl : Value) : Array Value := #[.int .i64 8, .bool false, .int .i64 0, .float .f64 0, .string ⟨#[]⟩, .slice none 0 0, .int .u64 0, sl, .slice none 0 0, .string ⟨#[]⟩, .int .i64 0]
theorem frozen_of {w : World} {b : Nat} {cs : Array Value} {t : TypeId} (h : w.heap[b]? = some (.cells cs t (0, 0))) (j : Nat) : w.frozen? ⟨b, j, none⟩ = false := by simp [World.frozen?, h]
theorem row_below {B g : Nat} {w w1 : World} (hb : Below B w w1) (hg : B ≤ g) (cs : Array Value) : Below B w (w1.setRow g cs) := ⟨hb.os, hb.tape, hb.output, by rw [size_setRow]; exact hb.size, fun k hk => (setRow_other _ _ _ _ (by omega)).trans (hb.block k hk)⟩
structure LSt (w wr : World) (k : Nat) (sl : Value) (ts : List Term) (ys : List Value) : Prop where
  below : Below w.heap.size w wr
  blockB : wr.heap[w.heap.size]? = some (.cells zeroCells 31 (0, 0))
  blockC : wr.heap[w.heap.size + 1]? = some (.cells (listCells sl) 31 (0, 0))
  own : wr.ownsRow (w.heap.size + 2) 31 11 sl k ys
  rep : TsRep (only wr (NotOwn (w.heap.size + 2) sl)) ts ys
section
variable {w wr w1 w2 : World} {o : Obj} {sl : Value} {k g cap : Nat} {ys cs : List Value} {ts : List Term} {t : Term}
theorem list_lt (h : LSt w wr k sl ts ys) : w.heap.size + 2 ≤ wr.heap.size := by have := (Array.getElem?_eq_some_iff.1 h.blockC).1; omega
theorem list_step_C (h : LSt w wr k sl ts ys) (hb1 : Below wr.heap.size wr w1) (hgr : (w1.alloc o).grownBy w2 sl.ownBlock) : w2.heap[w.heap.size + 1]? = some (.cells (listCells sl) 31 (0, 0)) := by
  have hl := list_lt h
  have hz := hb1.size
  have h1 := hgr.block (w.heap.size + 1) (by simp; omega) (fun e => by have := (ownsRow_lt h.own _ (ownL_some.2 e.symm)).1; omega)
  exact h1.trans ((Below.heap_alloc _ _ _ (by omega)).trans ((hb1.block _ (by omega)).trans h.blockC))
theorem list_step_B (h : LSt w wr k sl ts ys) (hb1 : Below wr.heap.size wr w1) (hgr : (w1.alloc o).grownBy w2 sl.ownBlock) : w2.heap[w.heap.size]? = some (.cells zeroCells 31 (0, 0)) := by
  have hl := list_lt h
  have hz := hb1.size
  have h1 := hgr.block w.heap.size (by simp; omega) (fun e => by have := (ownsRow_lt h.own _ (ownL_some.2 e.symm)).1; omega)
  exact h1.trans ((Below.heap_alloc _ _ _ (by omega)).trans ((hb1.block _ (by omega)).trans h.blockB))
theorem list_step_below (h : LSt w wr k sl ts ys) (hb1 : Below wr.heap.size wr w1) (hgr : (w1.alloc o).grownBy w2 sl.ownBlock) : Below w.heap.size w w2 := by
  have hl := list_lt h
  have hz := hb1.size
  exact ((h.below.trans (below_le hb1 h.below.size)).alloc (by omega) o).grown hgr (by simp; omega) (fun b e => by have := (ownsRow_lt h.own _ (ownL_some.2 e)).1; omega)
theorem list_step (h : LSt w wr k sl ts ys) (hb1 : Below wr.heap.size wr w1) (ht : TRep (only w1 (fun b => wr.heap.size ≤ b)) t cs) (hown : w2.ownsRow (w.heap.size + 2) 31 11 (.slice (some ⟨g, 0, none⟩) (k + 1) cap) (k + 1) (ys ++ cs))
    (hgr : (w1.alloc o).grownBy w2 sl.ownBlock) (hat : sl.ownBlock = some g ∨ g = (w1.alloc o).heap.size) :
    LSt w (w2.setCell ⟨w.heap.size + 1, 7, none⟩ (.slice (some ⟨g, 0, none⟩) (k + 1) cap)) (k + 1) (.slice (some ⟨g, 0, none⟩) (k + 1) cap) (ts ++ [t]) (ys ++ cs) := by
  have hl := list_lt h
  have hz := hb1.size
  have hlt : ∀ b, sl.ownBlock = some b → w.heap.size + 2 ≤ b ∧ b < wr.heap.size := fun b e => ownsRow_lt h.own b (ownL_some.2 e)
  have hset : ∀ b, ¬ b = w.heap.size + 1 → (w2.setCell ⟨w.heap.size + 1, 7, none⟩ (.slice (some ⟨g, 0, none⟩) (k + 1) cap)).heap[b]? = w2.heap[b]? := fun b hb => Below.heap_setCell w2 ⟨w.heap.size + 1, 7, none⟩ _ b hb
  have hbel := list_step_below h hb1 hgr
  refine ⟨?_, (hset _ (by omega)).trans (list_step_B h hb1 hgr), ?_, ownsRow_keep hown (fun b hb => hset b (by have := (ownsRow_lt hown b hb).1; omega)), ?_⟩
  · exact ⟨hbel.os, hbel.tape, hbel.output, by rw [size_setCell]; exact hbel.size, fun b hb => (hset b (by omega)).trans (hbel.block b hb)⟩
  · rw [setCell_block (list_step_C h hb1 hgr) 7 _]; rfl
  · have hr : TsRep (only w2 (NotOwn (w.heap.size + 2) (.slice (some ⟨g, 0, none⟩) (k + 1) cap))) (ts ++ [t]) (ys ++ cs) :=
      TsRep.snoc (TRep.keep (round_new (by omega) hb1 hgr hat (fun b e => (hlt b e).2)) _ _ ht) _ _ (TsRep.keep (round_old hb1 hgr hat) _ _ h.rep)
    exact TsRep.keep (only_keep fun b _ hs => ⟨hs, hset b (by have := hs.1; omega)⟩) _ _ hr
end
set_option maxRecDepth 100000 in
set_option maxHeartbeats 3200000 in
theorem plain_list (l : List Val) (ih : ∀ u ∈ l, PlainSaid u) : PlainSaid (.list l) := by
  intro deep x fs w h hs h0 h1
  simp only [VRep] at h
  obtain ⟨sv, xs, gs, rfl, ho, hd, rfl⟩ := h
  simp only [smallV] at hs
  by_cases hd4 : 400 < deep
  · have hd' : decide (400 < deep) = true := by simpa using hd4
    have hT := fun W => leaf_rep W 0 false 0 0 ⟨#[]⟩ 0 (by rfl) (by rfl) (by rfl) (by simp [maxLen, ByteArray.size]) (by rfl)
    clear ho hd ih
    go_enter Try.func87, Try.ntmps87
    go_wp2_with (refine wpList_store_row rfl 31 (.tmp 4) _ rfl w.heap.size zeroCells rfl rfl 31 zeroCells (zeroB w) termSize rfl (all_one (TRep.ones (hT w))) ?_)
    all_goals rw [World.setRow_alloc_new]
    all_goals go_wp2
    all_goals refine ⟨rfl, _, results_cell_row rfl _ _ w.heap.size 31 zeroCells (0, 0) _ rfl (heap_alloc_new w _) Try.underlying31 rfl termSize, _, rfl, ?_, (Below.refl _ _).alloc (Nat.le_refl _) _⟩
    all_goals (rw [plainT, hd']; exact hT _)
  have hd' : decide (400 < deep) = false := by simpa using hd4
  have hpl : plainT (.list l) deep = .mk 8 false 0 0 ⟨#[]⟩ [] 0 (l.map fun v => plainT v (deep + 1)) [] ⟨#[]⟩ 0 := by rw [plainT, hd', plainTs_eq]; rfl
  unfold PlainEnd
  rw [hpl]
  obtain ⟨a, cap, rfl, hcap, hmax, -, hform⟩ := ownsRow_form ho
  unfold maxLen at hmax
  have hdat := Lib.hid (VsRep.at l xs gs hd)
  have hformH := Lib.hid hform
  have hsH := Lib.hid (smallVs_mem l hs.2)
  have ihH := Lib.hid (fun u hu (h : smallV u) x f W hv => ih u hu (deep + 1) x f W hv h (by omega) (by omega))
  obtain ⟨i0, hi0, hz0, hz1, hz2⟩ := info_parts Try.infoTerm
  have hwr : wrap64 (deep + 1) = deep + 1 := by unfold wrap64; omega
  have hwi : IntKind.i64.wrap (deep + 1) = deep + 1 := by simp [IntKind.wrap, IntKind.bits, IntKind.signed]; omega
  have hsm := hs.1
  have hC0 : ((w.alloc (.cells zeroCells 31)).alloc (.cells zeroCells 31)).heap[w.heap.size + 1]? = some (.cells zeroCells 31 (0, 0)) := heap_alloc_at _ (by simp)
  have hone0 : ∀ u ∈ (listCells (.slice none 0 0)).toList, u.oneCell' = true := by
    intro u hu
    simp only [listCells, List.mem_cons, List.not_mem_nil, or_false] at hu
    rcases hu with rfl | rfl | rfl | rfl | rfl | rfl | rfl | rfl | rfl | rfl | rfl <;> rfl
  have hst0 : Hid (LSt w (((w.alloc (.cells zeroCells 31)).alloc (.cells zeroCells 31)).setRow (w.heap.size + 1) (listCells (.slice none 0 0))) 0 (.slice none 0 0) [] []) := Lib.hid (by
    refine ⟨row_below (((Below.refl _ _).alloc (Nat.le_refl _) _).alloc (by simp) _) (by omega) _, ?_, setRow_heap _ _ _ _ _ _ hC0, ⟨rfl, .inl ⟨rfl, rfl⟩⟩, rfl⟩
    rw [setRow_other _ _ _ _ (by omega), Below.heap_alloc _ _ _ (by simp)]
    exact zeroB w)
  clear ho hd hform ih hpl hs
  go_enter Try.func87, Try.ntmps87
  go_wp2_with (refine wpList_store_row rfl 31 (.tmp 13) _ rfl (w.heap.size + 1) (listCells (.slice none 0 0)) rfl rfl 31 zeroCells hC0 termSize rfl (all_one hone0) ?_)
  go_loopw [14] (fun i wr => ∃ (k : Nat) (sl : Value) (ys : List Value), k ≤ l.length ∧ i = .int .i64 k ∧ LSt w wr k sl ((l.map fun v => plainT v (deep + 1)).take k) ys) (fun i _ => l.length - (intOf i).toNat)
  case atStart => exact ⟨0, _, [], Nat.zero_le _, rfl, hst0.out⟩
  case round =>
    obtain ⟨k, sl, ys, hk, rfl, hst1⟩ := hrel
    have hst := Lib.hid hst1
    have hbw := hst1.below
    have hown := hst1.own
    have q7 : wr.cell? ⟨w.heap.size + 1, 7, none⟩ = some sl := block_cells hst1.blockC 7
    have hCl : w.heap.size + 1 < wr.heap.size := by have := list_lt hst1; omega
    clear hst1
    by_cases hlt : k < l.length
    · rcases hformH.out with ⟨-, h0', -⟩ | ⟨g, rfl, -, hg, -, hcells⟩
      · omega
      obtain ⟨v, hp⟩ : ∃ p, l[k]? = some p := ⟨_, List.getElem?_eq_getElem hlt⟩
      obtain ⟨x, f, e1, e3, -⟩ := hdat.out k _ hp
      have hx1 := e3.one
      have hSk : ∀ w', Below w.heap.size w w' → w'.cell? ⟨g, k, none⟩ = some x := fun w' hb' => (hb'.cell (p := ⟨g, k, none⟩) hg).trans ((hcells k (by omega)).trans e1)
      have hrep := Lib.hid e3
      have hih := Lib.hid (fun W (h : VRep W v x f) => ihH.out v (List.mem_of_getElem? hp) (hsH.out _ (List.mem_of_getElem? hp)) x f W h)
      have hpH : Hid ((l.map fun v => plainT v (deep + 1))[k]? = some (plainT v (deep + 1))) := Lib.hid (by rw [List.getElem?_map, hp]; rfl)
      clear e1 e3 hcells hp
      go_wp2_with fail
      refine wp_region_held_drew (S := (fun w' => w'.cell? ⟨g, k, none⟩ = some x)) (by kernel_rfl) ?_ (fun hHeld => ?_)
      · exact hSk _ hbw.drew
      refine wpAnyH_take (i := 0) (v := ?vz1) rfl (by kernel_rfl) (by kernel_rfl) (by kernel_rfl) (fun _ _ _ h => h) (.inl ⟨by rfl, ?hyz1⟩) (by assumption) ?restz1
      case hyz1 => (intro w hSw; (try dsimp only at hSw); go_simp; first | done | with_reducible rfl)
      (try simp only [Act.put, pu1, pu2, pu3, pu4, pu5, pu6])
      refine wpAnyH_take (i := 2) (v := ?vz2) rfl (by kernel_rfl) (by kernel_rfl) (by kernel_rfl) (fun _ _ _ h => h) (.inl ⟨by rfl, ?hyz2⟩) (by assumption) ?restz2
      case hyz2 => (intro w hSw; (try dsimp only at hSw); go_simp; first | done | with_reducible rfl)
      (try simp only [Act.put, pu1, pu2, pu3, pu4, pu5, pu6])
      refine wpAnyH_take (i := 3) (v := ?vz3) rfl (by kernel_rfl) (by kernel_rfl) (by kernel_rfl) (fun _ _ _ h => h) (.inl ⟨by rfl, ?hyz3⟩) (by assumption) ?restz3
      case hyz3 => (intro w hSw; (try dsimp only at hSw); go_simp; first | done | with_reducible rfl)
      (try simp only [Act.put, pu1, pu2, pu3, pu4, pu5, pu6])
      refine wpAnyH_take (i := 4) (v := ?vz4) rfl (by kernel_rfl) (by kernel_rfl) (by kernel_rfl) (fun _ _ _ h => h) (.inl ⟨by rfl, ?hyz4⟩) (by assumption) ?restz4
      case hyz4 => (intro w hSw; (try dsimp only at hSw); go_simp; first | done | with_reducible rfl)
      (try simp only [Act.put, pu1, pu2, pu3, pu4, pu5, pu6])
      refine wpAnyH_take (i := 5) (v := ?vz5) rfl (by kernel_rfl) (by kernel_rfl) (by kernel_rfl) (fun _ _ _ h => h) (.inl ⟨by rfl, ?hyz5⟩) (by assumption) ?restz5
      case hyz5 => (intro w hSw; (try dsimp only at hSw); go_simp; first | done | with_reducible rfl)
      (try simp only [Act.put, pu1, pu2, pu3, pu4, pu5, pu6])
      refine wpAnyH_take (i := 6) (v := ?vz6) rfl (by kernel_rfl) (by kernel_rfl) (by kernel_rfl) (fun _ _ _ h => h) (.inl ⟨by rfl, ?hyz6⟩) (by assumption) ?restz6
      case hyz6 => (intro w hSw; (try dsimp only at hSw); go_simp; first | done | with_reducible rfl)
      (try simp only [Act.put, pu1, pu2, pu3, pu4, pu5, pu6])
      refine wpAnyH_take (i := 7) (v := (.int .i64 (deep + 1))) rfl (by kernel_rfl) (by kernel_rfl) (by kernel_rfl) (fun _ _ _ h => h) (.inl ⟨by rfl, ?hyz7⟩) (by assumption) ?restz7
      case hyz7 => (intro w hSw; (try dsimp only at hSw); go_simp; first | done | exact hwi)
      (try simp only [Act.put, pu1, pu2, pu3, pu4, pu5, pu6])
      refine wpAnyH_ready (rs := [1, 8]) (by kernel_rfl) (by simp) ?_
      refine AllReadyH.cons rfl (fun K hK => ?_) (AllReadyH.cons rfl (fun K hK => ?_) AllReadyH.nil)
      · rw [if_pos (by rfl)]
        go_simp
        refine hK.out _ _ ?_ (fun hHeld2 => ?_)
        · exact hSk _ hbw.drew
        clear hK K
        (try simp only [Act.put, pu1, pu2, pu3, pu4, pu5, pu6])
        refine wpAnyH_ready (rs := [8]) (by kernel_rfl) (by simp) ?_
        refine AllReadyH.cons rfl (fun K hK => ?_) AllReadyH.nil
        rw [if_pos (by rfl)]
        go_simp
        refine (hih.out wr.drew (VRep.but hrep.out (below_but0 hbw.drew) (fun _ _ f => f))).mono ?_
        rintro e w1 ⟨cs, rfl, ht, hb1⟩
        obtain ⟨c0, c1, c2, c3, c4, c5, c6, c7, c8, c9, c10, rfl⟩ := eleven (TRep.len ht)
        have hone := TRep.ones ht
        have hbw1 : Below wr.heap.size wr w1 := ((Below.refl wr.heap.size wr).drew).trans hb1
        have hown1 := ownsRow_keep hown (fun b hbm => hbw1.block b (ownsRow_lt hown b hbm).2)
        have q71 := (hbw1.cell (p := ⟨w.heap.size + 1, 7, none⟩) hCl).trans q7
        have hCl1 : w.heap.size + 1 < w1.heap.size := Nat.lt_of_lt_of_le hCl hbw1.size
        have htH := Lib.hid ht
        clear ht
        refine hK.out _ _ ?_ (fun hHeld2 => ?_)
        · exact hSk _ (hbw.trans (below_le hbw1 hbw.size))
        clear hK K
        (try simp only [Act.put, pu1, pu2, pu3, pu4, pu5, pu6])
        refine wpAnyH_ready (rs := [9]) (by kernel_rfl) (by simp) ?_
        refine AllReadyH.cons rfl (fun K hK => ?_) AllReadyH.nil
        rw [if_pos (by rfl)]
        refine wp_of_exec (exec_buildSlice (vs := #[(0, .agg #[c0, c1, c2, c3, c4, c5, c6, c7, c8, c9, c10])]) rfl (by simp [Act.eval]) (run_buildTerm1 c0 c1 c2 c3 c4 c5 c6 c7 c8 c9 c10 _)) ?_
        refine hK.out _ _ ?_ (fun hHeld2 => ?_)
        · exact hSk _ ((hbw.trans (below_le hbw1 hbw.size)).alloc (Nat.le_trans hbw.size hbw1.size) _)
        clear hK K
        (try simp only [Act.put, pu1, pu2, pu3, pu4, pu5, pu6])
        refine wpAnyH_ready (rs := [10]) (by kernel_rfl) (by simp) ?_
        refine AllReadyH.cons rfl (fun K hK => ?_) AllReadyH.nil
        refine step_append_lies _ (by rfl) _ _ _ (by rfl) (w.heap.size + 2) 31 i0 _ 11 152 Try.underlying22 hi0 hz0 hz1 hz2 rfl (by omega) _ k ys (by rfl) (hown1.alloc _) ⟨w1.heap.size, 0, none⟩ 1 1 [c0, c1, c2, c3, c4, c5, c6, c7, c8, c9, c10] (by rfl) (by rfl) (World.news_of_block (cs := #[c0, c1, c2, c3, c4, c5, c6, c7, c8, c9, c10]) (t := 31) (fr := (0, 0)) (heap_alloc_new w1 _)) hone (by omega) (by unfold maxLen; omega) (by omega) (by have := hbw1.size; simp; omega) _ rfl ?_
        intro g2 cap2 w2 hown2 hgr2 hat2 hlt2
        have hfin := list_step hst.out hbw1 htH.out hown2 hgr2 hat2
        refine hK.out _ _ ?_ (fun hHeld2 => ?_)
        · exact hSk _ (list_step_below hst.out hbw1 hgr2)
        clear hK K
        (try simp only [Act.put, pu1, pu2, pu3, pu4, pu5, pu6])
        refine wpAnyH_take (i := 11) (v := ?vz8) rfl (by kernel_rfl) (by kernel_rfl) (by kernel_rfl) (fun _ _ _ h => h) (.inl ⟨by rfl, ?hyz8⟩) (by assumption) ?restz8
        case hyz8 => (intro w hSw; (try dsimp only at hSw); go_simp; first | done | with_reducible rfl)
        (try simp only [Act.put, pu1, pu2, pu3, pu4, pu5, pu6])
        refine wpAnyH_ready (rs := [12]) (by kernel_rfl) (by simp) ?_
        refine AllReadyH.cons rfl (fun K hK => ?_) AllReadyH.nil
        rw [if_pos (by rfl)]
        have q72 := (block_cells (list_step_C hst.out hbw1 hgr2) 7)
        have z72 := frozen_of (list_step_C hst.out hbw1 hgr2) 7
        go_simp
        refine hK.out _ _ ?_ (fun hHeld2 => ?_)
        · exact hSk _ hfin.below
        clear hK K
        (try simp only [Act.put, pu1, pu2, pu3, pu4, pu5, pu6])
        refine wpAnyH_done (by kernel_rfl) ?_ _
        go_wp2_with fail
        go_roundw
        case rel => exact ⟨k + 1, _, _, by omega, by go_num, by rw [List.take_add_one, hpH.out]; exact hfin⟩
        case measure => simp [intOf]; omega
      · rw [if_pos (by rfl)]
        go_simp
        refine (hih.out wr.drew (VRep.but hrep.out (below_but0 hbw.drew) (fun _ _ f => f))).mono ?_
        rintro e w1 ⟨cs, rfl, ht, hb1⟩
        obtain ⟨c0, c1, c2, c3, c4, c5, c6, c7, c8, c9, c10, rfl⟩ := eleven (TRep.len ht)
        have hone := TRep.ones ht
        have hbw1 : Below wr.heap.size wr w1 := ((Below.refl wr.heap.size wr).drew).trans hb1
        have hown1 := ownsRow_keep hown (fun b hbm => hbw1.block b (ownsRow_lt hown b hbm).2)
        have q71 := (hbw1.cell (p := ⟨w.heap.size + 1, 7, none⟩) hCl).trans q7
        have hCl1 : w.heap.size + 1 < w1.heap.size := Nat.lt_of_lt_of_le hCl hbw1.size
        have htH := Lib.hid ht
        clear ht
        refine hK.out _ _ ?_ (fun hHeld2 => ?_)
        · exact hSk _ (hbw.trans (below_le hbw1 hbw.size))
        clear hK K
        (try simp only [Act.put, pu1, pu2, pu3, pu4, pu5, pu6])
        refine wpAnyH_ready (rs := [1, 9]) (by kernel_rfl) (by simp) ?_
        refine AllReadyH.cons rfl (fun K hK => ?_) (AllReadyH.cons rfl (fun K hK => ?_) AllReadyH.nil)
        · rw [if_pos (by rfl)]
          go_simp
          refine hK.out _ _ ?_ (fun hHeld2 => ?_)
          · exact hSk _ (hbw.trans (below_le hbw1 hbw.size))
          clear hK K
          (try simp only [Act.put, pu1, pu2, pu3, pu4, pu5, pu6])
          refine wpAnyH_ready (rs := [9]) (by kernel_rfl) (by simp) ?_
          refine AllReadyH.cons rfl (fun K hK => ?_) AllReadyH.nil
          rw [if_pos (by rfl)]
          refine wp_of_exec (exec_buildSlice (vs := #[(0, .agg #[c0, c1, c2, c3, c4, c5, c6, c7, c8, c9, c10])]) rfl (by simp [Act.eval]) (run_buildTerm1 c0 c1 c2 c3 c4 c5 c6 c7 c8 c9 c10 _)) ?_
          refine hK.out _ _ ?_ (fun hHeld2 => ?_)
          · exact hSk _ ((hbw.trans (below_le hbw1 hbw.size)).alloc (Nat.le_trans hbw.size hbw1.size) _)
          clear hK K
          (try simp only [Act.put, pu1, pu2, pu3, pu4, pu5, pu6])
          refine wpAnyH_ready (rs := [10]) (by kernel_rfl) (by simp) ?_
          refine AllReadyH.cons rfl (fun K hK => ?_) AllReadyH.nil
          refine step_append_lies _ (by rfl) _ _ _ (by rfl) (w.heap.size + 2) 31 i0 _ 11 152 Try.underlying22 hi0 hz0 hz1 hz2 rfl (by omega) _ k ys (by rfl) (hown1.alloc _) ⟨w1.heap.size, 0, none⟩ 1 1 [c0, c1, c2, c3, c4, c5, c6, c7, c8, c9, c10] (by rfl) (by rfl) (World.news_of_block (cs := #[c0, c1, c2, c3, c4, c5, c6, c7, c8, c9, c10]) (t := 31) (fr := (0, 0)) (heap_alloc_new w1 _)) hone (by omega) (by unfold maxLen; omega) (by omega) (by have := hbw1.size; simp; omega) _ rfl ?_
          intro g2 cap2 w2 hown2 hgr2 hat2 hlt2
          have hfin := list_step hst.out hbw1 htH.out hown2 hgr2 hat2
          refine hK.out _ _ ?_ (fun hHeld2 => ?_)
          · exact hSk _ (list_step_below hst.out hbw1 hgr2)
          clear hK K
          (try simp only [Act.put, pu1, pu2, pu3, pu4, pu5, pu6])
          refine wpAnyH_take (i := 11) (v := ?vz9) rfl (by kernel_rfl) (by kernel_rfl) (by kernel_rfl) (fun _ _ _ h => h) (.inl ⟨by rfl, ?hyz9⟩) (by assumption) ?restz9
          case hyz9 => (intro w hSw; (try dsimp only at hSw); go_simp; first | done | with_reducible rfl)
          (try simp only [Act.put, pu1, pu2, pu3, pu4, pu5, pu6])
          refine wpAnyH_ready (rs := [12]) (by kernel_rfl) (by simp) ?_
          refine AllReadyH.cons rfl (fun K hK => ?_) AllReadyH.nil
          rw [if_pos (by rfl)]
          have q72 := (block_cells (list_step_C hst.out hbw1 hgr2) 7)
          have z72 := frozen_of (list_step_C hst.out hbw1 hgr2) 7
          go_simp
          refine hK.out _ _ ?_ (fun hHeld2 => ?_)
          · exact hSk _ hfin.below
          clear hK K
          (try simp only [Act.put, pu1, pu2, pu3, pu4, pu5, pu6])
          refine wpAnyH_done (by kernel_rfl) ?_ _
          go_wp2_with fail
          go_roundw
          case rel => exact ⟨k + 1, _, _, by omega, by go_num, by rw [List.take_add_one, hpH.out]; exact hfin⟩
          case measure => simp [intOf]; omega
        · rw [if_pos (by rfl)]
          refine wp_of_exec (exec_buildSlice (vs := #[(0, .agg #[c0, c1, c2, c3, c4, c5, c6, c7, c8, c9, c10])]) rfl (by simp [Act.eval]) (run_buildTerm1 c0 c1 c2 c3 c4 c5 c6 c7 c8 c9 c10 _)) ?_
          refine hK.out _ _ ?_ (fun hHeld2 => ?_)
          · exact hSk _ ((hbw.trans (below_le hbw1 hbw.size)).alloc (Nat.le_trans hbw.size hbw1.size) _)
          clear hK K
          (try simp only [Act.put, pu1, pu2, pu3, pu4, pu5, pu6])
          refine wpAnyH_ready (rs := [1]) (by kernel_rfl) (by simp) ?_
          refine AllReadyH.cons rfl (fun K hK => ?_) AllReadyH.nil
          rw [if_pos (by rfl)]
          go_simp
          refine hK.out _ _ ?_ (fun hHeld2 => ?_)
          · exact hSk _ ((hbw.trans (below_le hbw1 hbw.size)).alloc (Nat.le_trans hbw.size hbw1.size) _)
          clear hK K
          (try simp only [Act.put, pu1, pu2, pu3, pu4, pu5, pu6])
          refine wpAnyH_ready (rs := [10]) (by kernel_rfl) (by simp) ?_
          refine AllReadyH.cons rfl (fun K hK => ?_) AllReadyH.nil
          refine step_append_lies _ (by rfl) _ _ _ (by rfl) (w.heap.size + 2) 31 i0 _ 11 152 Try.underlying22 hi0 hz0 hz1 hz2 rfl (by omega) _ k ys (by rfl) (hown1.alloc _) ⟨w1.heap.size, 0, none⟩ 1 1 [c0, c1, c2, c3, c4, c5, c6, c7, c8, c9, c10] (by rfl) (by rfl) (World.news_of_block (cs := #[c0, c1, c2, c3, c4, c5, c6, c7, c8, c9, c10]) (t := 31) (fr := (0, 0)) (heap_alloc_new w1 _)) hone (by omega) (by unfold maxLen; omega) (by omega) (by have := hbw1.size; simp; omega) _ rfl ?_
          intro g2 cap2 w2 hown2 hgr2 hat2 hlt2
          have hfin := list_step hst.out hbw1 htH.out hown2 hgr2 hat2
          refine hK.out _ _ ?_ (fun hHeld2 => ?_)
          · exact hSk _ (list_step_below hst.out hbw1 hgr2)
          clear hK K
          (try simp only [Act.put, pu1, pu2, pu3, pu4, pu5, pu6])
          refine wpAnyH_take (i := 11) (v := ?vz10) rfl (by kernel_rfl) (by kernel_rfl) (by kernel_rfl) (fun _ _ _ h => h) (.inl ⟨by rfl, ?hyz10⟩) (by assumption) ?restz10
          case hyz10 => (intro w hSw; (try dsimp only at hSw); go_simp; first | done | with_reducible rfl)
          (try simp only [Act.put, pu1, pu2, pu3, pu4, pu5, pu6])
          refine wpAnyH_ready (rs := [12]) (by kernel_rfl) (by simp) ?_
          refine AllReadyH.cons rfl (fun K hK => ?_) AllReadyH.nil
          rw [if_pos (by rfl)]
          have q72 := (block_cells (list_step_C hst.out hbw1 hgr2) 7)
          have z72 := frozen_of (list_step_C hst.out hbw1 hgr2) 7
          go_simp
          refine hK.out _ _ ?_ (fun hHeld2 => ?_)
          · exact hSk _ hfin.below
          clear hK K
          (try simp only [Act.put, pu1, pu2, pu3, pu4, pu5, pu6])
          refine wpAnyH_done (by kernel_rfl) ?_ _
          go_wp2_with fail
          go_roundw
          case rel => exact ⟨k + 1, _, _, by omega, by go_num, by rw [List.take_add_one, hpH.out]; exact hfin⟩
          case measure => simp [intOf]; omega
    · obtain rfl : k = l.length := by omega
      have hst1 := hst.out
      have hrep := hst1.rep
      rw [List.take_of_length_le (by simp)] at hrep
      have hbC := hst1.blockC
      have hB := hst1.blockB
      obtain ⟨oa, cap2, rfl, -⟩ := ownsRow_form hown
      have hT : TRep (only wr (fun b => w.heap.size < b)) (.mk 8 false 0 0 ⟨#[]⟩ [] 0 (l.map fun v => plainT v (deep + 1)) [] ⟨#[]⟩ 0) [.int .i64 8, .bool false, .int .i64 0, .float .f64 0, .string ⟨#[]⟩, .slice none 0 0, .int .u64 0, .slice oa l.length cap2, .slice none 0 0, .string ⟨#[]⟩, .int .i64 0] := by
        simp only [TRep]
        refine ⟨_, _, _, ys, [], rfl, ⟨by rfl, by rfl, by rfl, by simp [maxLen, ByteArray.size], by rfl, by simp [maxLen, ByteArray.size], by rfl⟩, nilRow, ?_, TsRep.keep (only_keep fun b _ hs => ⟨by have := hs.1; omega, rfl⟩) _ _ hrep, nilRow, rfl⟩
        rw [List.length_map]
        exact (AtRow.of_own hown hsm).only (fun _ b hb => by have := (ownsRow_lt hown b (ownL_some.2 hb)).1; omega) (by omega)
      have hcl := Lib.hid (plain_close hB hbw hT)
      have hone := TRep.ones hT
      have q0' := block_cells hbC 0
      have q1' := block_cells hbC 1
      have q2' := block_cells hbC 2
      have q3' := block_cells hbC 3
      have q4' := block_cells hbC 4
      have q5' := block_cells hbC 5
      have q6' := block_cells hbC 6
      have q7' := block_cells hbC 7
      have q8' := block_cells hbC 8
      have q9' := block_cells hbC 9
      have q10' := block_cells hbC 10
      simp only [listCells, List.getElem?_toArray, List.getElem?_cons_zero, List.getElem?_cons_succ] at q0' q1' q2' q3' q4' q5' q6' q7' q8' q9' q10'
      clear hT hrep hst1 hbC q7
      go_wp2_with (refine wpList_store_row rfl 31 (.tmp 4) _ rfl w.heap.size #[.int .i64 8, .bool false, .int .i64 0, .float .f64 0, .string ⟨#[]⟩, .slice none 0 0, .int .u64 0, .slice oa l.length cap2, .slice none 0 0, .string ⟨#[]⟩, .int .i64 0] rfl rfl 31 zeroCells hB termSize rfl (all_one hone) ?_)
      all_goals go_wp2
      all_goals exact ⟨rfl, _, results_cell_row rfl _ _ w.heap.size 31 _ (0, 0) _ rfl hcl.out.1 Try.underlying31 rfl termSize, _, rfl, hcl.out.2.1, hcl.out.2.2⟩
end Go.Proofs.Ytgmdbpplfjkjmaa
