/- Pools: Held, Fetched; an identity. -/
import Derived.Test.YtpcbdjfonmohaaaPoolNew
namespace Go.Proofs.Ytpcbdjfonmohaaa
open Go.RowKit
set_option linter.unusedVariables false
set_option linter.unusedSimpArgs false

def refV (id : Int) : Value := .int .u64 id
section
variable {w w' : World} {c : PoolC} {τ τ' : Tags} {s : PS}
set_option maxRecDepth 100000 in
theorem Fetched_said (h : PoolAt w c τ s) : Calls Try.prog 39 #[.pointer (some ⟨c.p, 0, none⟩)] w fun e w' => e = .returned (.int .i64 s.n) ∧ w' = w := by
  obtain ⟨sv, hb1, -⟩ := h.blk
  obtain ⟨-, -, -, -, c4, -, -⟩ := poolCells hb1
  clear h hb1
  go_enter Try.func39, Try.ntmps39
  go_wp2
  go_ret
  exact ⟨rfl, rfl⟩
set_option maxRecDepth 100000 in
theorem ID_said (h : PoolAt w c τ s) {id : Int} {g : Nat} (hg : s.gt id = some g) : Calls Try.prog 35 #[.pointer (some ⟨g, 0, none⟩)] w fun e w' => e = .returned (.int .u64 id) ∧ w' = w := by
  obtain ⟨-, r, last, hgo, -, -⟩ := h.ghost id g hg
  obtain ⟨g0, -, -, -, -, -, -, -⟩ := ghostCells hgo
  clear h hgo hg
  go_enter Try.func35, Try.ntmps35
  go_wp2
  go_ret
  exact ⟨rfl, rfl⟩
theorem Loaded_pool (h : PoolAt w c τ s) {id : Int} {g : Nat} (hg : s.gt id = some g) : Calls Try.prog 28 #[.pointer (some ⟨g, 0, none⟩)] w fun e w' => e = .returned (.bool (s.ld id)) ∧ w' = w := by
  obtain ⟨-, r, last, hgo, h1, h2⟩ := h.ghost id g hg
  refine (Loaded_said _ w g id last r _ _ hgo).mono fun e w' ⟨he, hw⟩ => ⟨?_, hw⟩
  rw [he]
  cases hl : s.ld id with
  | false => rw [h1 hl]; rfl
  | true => obtain ⟨b, fs, hr, -⟩ := h2 hl; rw [hr]; rfl
theorem held_row {w wr w2 : World} {l : List Int} {k g cap : Nat} {id : Int} (hk : k < l.length) (hid : l[k]? = some id) (hb : Below w.heap.size w wr) {cur : Value} (hown : wr.ownsRow w.heap.size 30 1 cur k ((l.take k).map refV))
    (hgr : (wr.alloc (.cells #[.int .u64 id] 30)).grownBy w2 cur.ownBlock) (hown2 : w2.ownsRow w.heap.size 30 1 (.slice (some ⟨g, 0, none⟩) (k + 1) cap) (k + 1) ((l.take k).map refV ++ [.int .u64 id])) :
    w2.ownsRow w.heap.size 30 1 (.slice (some ⟨g, 0, none⟩) (k + 1) cap) (k + 1) ((l.take (k + 1)).map refV) ∧ Below w.heap.size w w2 := by
  have e : (l.take (k + 1)).map refV = (l.take k).map refV ++ [.int .u64 id] := by
    rw [List.take_add_one, hid, List.map_append]
    rfl
  rw [e]
  refine ⟨hown2, ?_⟩
  have h1 : Below w.heap.size w (wr.alloc (.cells #[.int .u64 id] 30)) := hb.alloc hb.size _
  refine ⟨hgr.os.trans h1.os, hgr.tape.trans h1.tape, hgr.output.trans h1.output, Nat.le_trans h1.size hgr.size, fun i hi => (hgr.block i (Nat.lt_of_lt_of_le hi h1.size) (fun e => ?_)).trans (h1.block i hi)⟩
  have := (ownsRow_lt hown i (ownL_some.2 e.symm)).1
  omega
set_option maxRecDepth 100000 in
set_option maxHeartbeats 800000 in
/-- Held. -/
theorem Held_said (h : PoolAt w c τ s) (hsz : s.L.length ≤ 1000) :
    Calls Try.prog 33 #[.pointer (some ⟨c.p, 0, none⟩)] w fun e w' => ∃ sv, e = .returned sv ∧ w'.ownsRow w.heap.size 30 1 sv s.L.length (s.L.map refV) ∧ Below w.heap.size w w' := by
  obtain ⟨sv, hb1, hheld⟩ := h.blk
  obtain ⟨a, n, cap, rfl, hn⟩ := hheld.form
  obtain ⟨-, -, -, c3, -, -, -⟩ := poolCells hb1
  have hel : ∀ k id, s.L[k]? = some id → ∃ hb off g, a = some ⟨hb, off, none⟩ ∧ w.cell? ⟨hb, off + k, none⟩ = some (.pointer (some ⟨g, 0, none⟩)) ∧ w.cell? ⟨g, 0, none⟩ = some (.int .u64 id) ∧ hb < w.heap.size ∧ g < w.heap.size := fun k id hk => by
    obtain ⟨g, hg⟩ := Option.isSome_iff_exists.1 (h.held id (List.mem_of_getElem? hk))
    obtain ⟨-, r, last, hgo, -, -⟩ := h.ghost id g hg
    obtain ⟨g0, -, -, -, -, -, hlt, -⟩ := ghostCells hgo
    rcases hheld with ⟨-, e⟩ | ⟨hb, off, cap', e, -, -, h4, h5, -⟩
    · have : s.L = [] := by simpa using e
      rw [this] at hk
      cases hk
    · cases e
      exact ⟨hb, off, g, rfl, h5 k g (by rw [List.getElem?_map, hk]; simp [PS.g, hg]), g0, h4, hlt⟩
  have helH := Lib.hid hel
  obtain rfl : n = s.L.length := by simpa using hn
  obtain ⟨i0, hi0, hz0, hz1, hz2⟩ := info_parts (show (Try.prog.info? 30).map (fun i => (i.zero, i.size, i.bytes)) = some (some (.int .u64 0), 1, 8) from by kernel_rfl)
  clear h hb1 hheld hel hn
  go_enter Try.func33, Try.ntmps33
  go_wp2
  go_loopw [3, 11] (fun cur i wr => ∃ (k : Nat), k ≤ s.L.length ∧ i = .int .i64 k ∧ wr.ownsRow w.heap.size 30 1 cur k ((s.L.take k).map refV) ∧ Below w.heap.size w wr) (fun _ i _ => s.L.length - (intOf i).toNat)
  case atStart => exact ⟨0, Nat.zero_le _, rfl, ⟨rfl, .inl ⟨rfl, rfl⟩⟩, Below.refl _ _⟩
  case round =>
    obtain ⟨k, hk, rfl, hown, hb⟩ := hrel
    by_cases hlt : k < s.L.length
    · obtain ⟨id, hid⟩ : ∃ id, s.L[k]? = some id := ⟨_, List.getElem?_eq_getElem hlt⟩
      obtain ⟨hb', off, g, rfl, e1, e2, l1, l2⟩ := helH.out k id hid
      have q1 := (hb.cell (p := ⟨hb', off + k, none⟩) l1).trans e1
      have q2 := (hb.cell (p := ⟨g, 0, none⟩) l2).trans e2
      have hidH := Lib.hid hid
      have hbs := hb.size
      clear e1 e2 hid
      go_wp2_with (at_builtin; refine wpList_append_lies _ rfl _ _ 56 rfl w.heap.size 30 i0 _ 1 8 Try.underlying56 hi0 hz0 hz1 hz2 rfl (by omega) _ k ((s.L.take k).map refV) rfl (hown.alloc _) ⟨wr.heap.size, 0, none⟩ 1 1 [.int .u64 id] rfl rfl (World.news_of_block (cs := #[.int .u64 id]) (t := 30) (fr := (0, 0)) (heap_alloc_new wr _)) (one_single rfl) (by omega) (by unfold maxLen; omega) (by omega) (by simp; omega) _ rfl ?_; intro g2 cap2 w2 hown2 hgr2 hat2 hlt2)
      have hp := held_row hlt hidH.out hb hown hgr2 hown2
      go_roundw
      case rel => exact ⟨k + 1, by omega, by go_num, hp.1, hp.2⟩
      case measure => simp [intOf]; omega
    · obtain rfl : k = s.L.length := by omega
      have htake : s.L.take s.L.length = s.L := List.take_length
      rw [htake] at hown
      have hownH := Lib.hid hown
      have hone : u3.oneCell' = true := by obtain ⟨_, _, rfl, -⟩ := ownsRow_form hown; rfl
      clear hown htake
      go_wp2
      go_ret
      exact ⟨_, rfl, hownH.out, hb⟩
end
end Go.Proofs.Ytpcbdjfonmohaaa
