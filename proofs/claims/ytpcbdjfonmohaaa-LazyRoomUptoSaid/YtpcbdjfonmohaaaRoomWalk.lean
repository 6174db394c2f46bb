/- The walk of LazyRoom. -/
import Derived.Test.YtpcbdjfonmohaaaRoom
import Derived.Test.YtpcbdjfonmohaaaLivesEnd
import Derived.Test.YtpcbdjfonmohaaaTerm
namespace Go.Proofs.Ytpcbdjfonmohaaa
open Go.RowKit
set_option linter.unusedVariables false
set_option linter.unusedSimpArgs false

theorem quiet_same {P : Program} {f : FuncId} {args : Array Value} {w : World} {n : Nat} {v : Value} (h : ∀ W, Calls P f args (w.drewN W) fun e w' => e = .returned v ∧ w' = w.drewN W) :
    Calls P f args (w.drewN n) fun e w'' => e = .returned v ∧ ∃ m, w'' = w.drewN m := (h n).mono fun _ _ ⟨he, hm⟩ => ⟨he, n, hm⟩
theorem ref_cells {W : World} {B n : Nat} {sv : Value} {xs : List Value} (h : W.ownsRow B 30 1 sv n xs) (hn : 1 ≤ n) : ∃ g cap, sv = .slice (some ⟨g, 0, none⟩) n cap ∧ n ≤ cap ∧ cap ≤ maxLen ∧ g < W.heap.size ∧ ∀ j, j < n → W.cell? ⟨g, j, none⟩ = xs[j]? := by
  obtain ⟨h0, ⟨-, h1⟩ | ⟨g, cap, cur, h1, h2, h3, h4, h5, h6, h7⟩⟩ := h
  · omega
  · refine ⟨g, cap, h1, h4, h5, (Array.getElem?_eq_some_iff.1 h3).1, fun j hj => ?_⟩
    rw [held_cells h3 j, ← h7, List.getElem?_take_of_lt (by omega)]
    simp
def IsW (w wr : World) : Prop := wr = w
theorem quiet_add2 {P : Program} {f : FuncId} {args : Array Value} {w : World} {a n : Nat} {v : Value} (h : ∀ k, Calls P f args (w.drewN k) fun e w' => e = .returned v ∧ w' = w.drewN k) :
    Calls P f args (w.drewN (a + n)) fun e w'' => e = .returned v ∧ ∃ m, w'' = w.drewN (a + m) := (h (a + n)).mono fun _ _ ⟨he, hm⟩ => ⟨he, n, hm⟩
/-- The law's has, of what is not there. -/
theorem has_not (l : List Int) (id : Int) (k gx cx : Nat) (w : World) (hc : ∀ j, j < k → w.cell? ⟨gx, j, none⟩ = (l.map refV)[j]?) (hk : k ≤ l.length) (hn : ∀ j v, j < k → l[j]? = some v → v ≠ id) (hsz : k ≤ 1000) :
    Calls Try.prog 36 #[.slice (some ⟨gx, 0, none⟩) k cx, .int .u64 id] w fun e w' => e = .returned (.bool false) ∧ w' = w := by
  have hcH := Lib.hid hc
  have hnH := Lib.hid hn
  clear hc hn
  go_enter Try.func36, Try.ntmps36
  go_wp2
  go_loopw [5] (fun i wr => ∃ (j : Nat), j ≤ k ∧ i = .int .i64 j ∧ IsW w wr) (fun i _ => k - (intOf i).toNat)
  case atStart => exact ⟨0, Nat.zero_le _, rfl, rfl⟩
  case round =>
    obtain ⟨j, hj, rfl, hw⟩ := hrel
    obtain rfl : wr = w := hw
    by_cases hlt : j < k
    · obtain ⟨v, hv⟩ : ∃ v, l[j]? = some v := ⟨_, List.getElem?_eq_getElem (by omega)⟩
      have q1 := hcH.out j hlt
      rw [List.getElem?_map, hv] at q1
      have q2 : wr.cell? ⟨gx, j, none⟩ = some (.int .u64 v) := q1
      have hne : (v == id) = false := by simpa using hnH.out j v hlt hv
      clear q1 hv
      go_wp2
      go_roundw
      case rel => exact ⟨j + 1, by omega, by go_num, rfl⟩
      case measure => simp [intOf]; omega
    · obtain rfl : j = k := by omega
      go_wp2
      go_ret
      exact ⟨rfl, rfl⟩
/-- One pool; all that was before is as it was. -/
def OneAt (w0 W : World) (c : PoolC) (s : PS) : Prop := ∃ τ, PoolAt W c τ s ∧ (∀ b t, τ b = some t → w0.heap.size ≤ b) ∧ Below w0.heap.size w0 W
theorem FetchP.mono {c : PoolC} {id : Int} {s : PS} {R R' : PS → Prop} (h : FetchP c id s R) (hr : ∀ s2, R s2 → R' s2) : FetchP c id s R' := fun W τ hp =>
  (h W τ hp).mono fun e W' ⟨a, fs, τ', he, hv, hf, ⟨s', hR, hp'⟩, hev⟩ => ⟨a, fs, τ', he, hv, hf, ⟨s', hr _ hR, hp'⟩, hev⟩
section
variable {w0 W W' : World} {c : PoolC} {s : PS} {id : Int} {g : Nat}
theorem OneAt.below (h : OneAt w0 W c s) (hb : Below W.heap.size W W') : OneAt w0 W' c s := by
  obtain ⟨τ, h1, h2, h3⟩ := h
  exact ⟨τ, h1.below hb, h2, h3.trans (below_le hb h3.size)⟩
theorem OneAt.ev {τ τ' : Tags} {B : Int → Bool} {s' : PS} (h1 : PoolAt W' c τ' s') (h2 : ∀ b t, τ b = some t → w0.heap.size ≤ b) (h3 : Below w0.heap.size w0 W) (hev : Ev B W W' τ τ') : OneAt w0 W' c s' := by
  refine ⟨τ', h1, fun b t e => ?_, h3.trans (hev.below h3.size h2)⟩
  rcases Nat.lt_or_ge b W.heap.size with h | h
  · rw [hev.old b h] at e; exact h2 b t e
  · have := h3.size; omega
theorem one_at (h : OneAt w0 W c s) (hf : Fine c s) (hid : (Lit.int .u64 id).wf = true) (h0 : (id == 0) = false) (hN : s.N ≤ 1000000000) :
    Calls Try.prog 34 #[.pointer (some ⟨c.p, 0, none⟩), .int .u64 id] W fun e W' => ∃ g s', e = .returned (.tuple #[.pointer (some ⟨g, 0, none⟩), .int .i64 0]) ∧ OneAt w0 W' c s' ∧ s'.gt id = some g ∧ SameBut s s' := by
  obtain ⟨τ, h1, h2, h3⟩ := h
  exact (at_any h1 hid h0 (hf.busy id) (hf.ld id) hN).mono fun e W' ⟨g, τ', s', he, hp, hg, hs, _, hev⟩ => ⟨g, s', he, OneAt.ev (B := fun _ => false) hp h2 h3 (hev _), hg, hs⟩
theorem one_held (h : OneAt w0 W c s) (hf : Fine c s) :
    Calls Try.prog 33 #[.pointer (some ⟨c.p, 0, none⟩)] W fun e W' => ∃ sv, e = .returned sv ∧ W'.ownsRow W.heap.size 30 1 sv s.L.length (s.L.map refV) ∧ Below W.heap.size W W' ∧ OneAt w0 W' c s := by
  obtain ⟨τ, h1, _⟩ := _root_.id h
  have h7 := hf.len
  have h8 := hf.room
  exact (Held_said h1 (by omega)).mono fun e W' ⟨sv, he, ho, hb⟩ => ⟨sv, he, ho, hb, h.below hb⟩
end
section
variable {p mb room okb pk mk : Nat} {w0 W W' : World} {s : PS} {id : Int} {g : Nat}
theorem begin_mid {c : PoolC} (hf : Fine c s) (hi : id ∉ s.L) : Mid c (s.begin id) id := by
  refine ⟨fun i => ?_, fun i => ?_, hf.nodup, hf.len, hf.room, by show 0 ≤ s.n + 1; have := hf.n; omega, hi⟩
  · show (if i = id then false else s.ld i) = decide (i ∈ s.L)
    by_cases e : i = id
    · subst e; simp [hi]
    · rw [if_neg e]; exact hf.ld i
  · show (if i = id then true else s.busy i) = decide (i = id)
    by_cases e : i = id
    · simp [e]
    · rw [if_neg e, hf.busy]; simp [e]
/-- What Class leaves. -/
def RoomStep (c : PoolC) (s s' : PS) (id : Int) : Prop := Fine c s' ∧ 1 ≤ s'.L.length ∧ s'.L.getLast? = some id ∧ s'.n ≤ s.n + 2 ∧ s'.N ≤ s.N + 1 ∧ ∀ i ∈ s'.L, i ∈ s.L ∨ i = id ∨ i = id + 1
theorem one_class (h : OneAt w0 W (roomC p mb room okb pk mk) s) (hf : Fine (roomC p mb room okb pk mk) s) (hg : s.gt id = some g) (h0 : 0 ≤ id) (h1 : id ≤ 900) (hn : s.n ≤ 100000000) (hN : s.N ≤ 100000000) :
    Calls Try.prog 24 #[.pointer (some ⟨g, 0, none⟩)] W fun e W' => e = .returned (.string ⟨#[97]⟩) ∧ ∃ s', OneAt w0 W' (roomC p mb room okb pk mk) s' ∧ RoomStep (roomC p mb room okb pk mk) s s' id := by
  obtain ⟨τ, k1, k2, k3⟩ := h
  have hroom := hf.room
  have hlen := hf.len
  by_cases hi : id ∈ s.L
  · have hu := used_fine hf hi
    have hl := stepL_len (id := id) hf.nodup hf.len hf.room.1
    exact (Class_held_pool k1 hg (by rw [hf.ld]; simpa using hi) (by omega)).mono fun e W' ⟨he, τ', hp, hev⟩ => ⟨he, _, OneAt.ev hp k2 k3 hev, hu.1, by rw [hu.2]; exact hl.2.1, by rw [hu.2]; exact hl.2.2, by show s.n ≤ s.n + 2; omega, by show s.N ≤ s.N + 1; omega, fun i hi => by rw [hu.2] at hi; rcases mem_step hi with h | h; exact .inr (.inl h); exact .inl h⟩
  · have hm := begin_mid hf hi
    have hld : s.ld id = false := by rw [hf.ld]; simpa using hi
    have hfe : FetchP (roomC p mb room okb pk mk) id (s.begin id) (MidR (roomC p mb room okb pk mk) (s.begin id) id) := by
      by_cases h3 : id % 3 = 1
      · exact room_node h0 h1 h3 hm (by show s.n + 1 ≤ 1000000000; omega) (by show s.N ≤ 1000000000; omega)
      · exact (room_leaf h0 (by omega) h3 (s := s.begin id) hlen hroom.2).mono (fun s2 e => by subst e; exact ⟨hm, fun _ _ e => e, by omega, by omega, fun i hi => .inl hi⟩)
    refine (Class_load_pool k1 hg (hf.busy id) hld room1_enters hfe ⟨hf.n, by omega⟩ (fun s2 hR => ⟨hR.2.1 id g hg, (by have := hR.1.len; omega), fun i hi => hf.busy i⟩) hf.room.1).mono fun e W' ⟨he, s2, hR, τ', hp, hev⟩ => ?_
    have hl := stepL_len (id := id) hR.1.nodup hR.1.len hR.1.room.1
    have hfi := hR.1.fine
    have a1 : s2.n ≤ (s.n + 1) + 1 := hR.2.2.1
    have a2 : s2.N ≤ s.N + 1 := hR.2.2.2.1
    exact ⟨he, _, OneAt.ev hp k2 k3 hev, hfi.1, by rw [hfi.2]; exact hl.2.1, by rw [hfi.2]; exact hl.2.2, by rw [(fit_gt _ _).2.2.1]; show s2.n ≤ s.n + 2; omega, by rw [(fit_gt _ _).2.2.2]; show s2.N ≤ s.N + 1; exact a2, fun i hi => by
      rw [hfi.2] at hi
      rcases mem_step hi with h | h
      · exact .inr (.inl h)
      · exact (hR.2.2.2.2 i h).imp (fun h => h) .inr⟩
theorem one_ext (h : OneAt w0 W (roomC p mb room okb pk mk) s) : W.cell? ⟨okb, 0, none⟩ = some (.bool true) ∧ W.cell? ⟨pk, 0, none⟩ = some (.pointer (some ⟨p, 0, none⟩)) ∧ W.cell? ⟨mk, 0, none⟩ = some (.int .i64 room) := by
  obtain ⟨τ, h1, -⟩ := h
  exact (room_cells h1 (But.refl _ W)).1
end
/-- A pool as it begins, wherever it lies. -/
theorem pool_at (W : World) (p mb room : Nat) (F : FuncId) (caps : Array Value) (ext : List (Nat × Obj)) (hp : W.heap[p]? = some (poolObj room (.func (.func F) #[] caps) mb (.slice none 0 0) 0)) (hm : W.heap[mb]? = some (.map #[] 0))
    (he : ∀ b o, (b, o) ∈ ext → W.heap[b]? = some o ∧ b ≠ p ∧ b ≠ mb) : ∃ τ, PoolAt W ⟨p, mb, room, F, caps, ext⟩ τ PS.none ∧ ∀ b t, τ b = some t → b = p ∨ b = mb ∨ ∃ o, (b, o) ∈ ext := by
  have hne : p ≠ mb := fun e => by rw [e, hm] at hp; cases hp
  have hplt := (Array.getElem?_eq_some_iff.1 hp).1
  have hmlt := (Array.getElem?_eq_some_iff.1 hm).1
  obtain ⟨es, clock, hb, F0, hs, hD⟩ := World.ownsMap_made (H := Value) W Try.prog 30 ghostR
  rw [heap_alloc_new] at hb
  cases hb
  refine ⟨fun b => if b = mb then some .map else if b = p then some .pool else if ext.any (fun x => x.1 == b) then some .ext else Option.none, ⟨fun b t e => ?_, by simp [hne], by simp, ⟨.slice none 0 0, hp, .inl ⟨rfl, rfl⟩⟩, ⟨.map [], ⟨_, _, hm, F0, hs, hD⟩, fun id => rfl, fun id g e => (by cases e)⟩, fun id g e => (by cases e), fun i hi => (by cases hi), fun b o e => ?_⟩, fun b t e => ?_⟩
  · split at e
    · omega
    · split at e
      · omega
      · split at e
        · rename_i h3
          obtain ⟨x, hx, hb⟩ := List.any_eq_true.1 h3
          have hb' : x.1 = b := by simpa using hb
          have := (Array.getElem?_eq_some_iff.1 (he x.1 x.2 hx).1).1
          omega
        · cases e
  · obtain ⟨h1, h2, h3⟩ := he b o e
    refine ⟨?_, h1⟩
    have h4 : ext.any (fun x => x.1 == b) = true := List.any_eq_true.2 ⟨_, e, by simp⟩
    rw [if_neg h3, if_neg h2, if_pos h4]
  · dsimp only at e
    split at e
    · exact .inr (.inl (by assumption))
    · split at e
      · exact .inl (by assumption)
      · split at e
        · rename_i h3
          obtain ⟨x, hx, hb⟩ := List.any_eq_true.1 h3
          have hb' : x.1 = b := by simpa using hb
          exact .inr (.inr ⟨x.2, by rw [← hb']; exact hx⟩)
        · cases e
/-- Whom it asked for. -/
def RoomIds (s : PS) : Prop := ∀ i ∈ s.L, 1 ≤ i ∧ i ≤ 21
theorem room_start {w w1 W1 W2 : World} {n : Nat} (hb : Below w.heap.size w w1) (h1 : W1 = ((w1.alloc (.cells #[.int .i64 n] 3)).alloc (.cells #[.pointer none] 57)).alloc (.cells #[.bool true] 4))
    (h2 : W2 = (W1.alloc (.map #[] 0)).alloc (poolObj n (.func (.func 32) #[] #[.pointer (some ⟨w1.heap.size + 1 + 1, 0, none⟩), .pointer (some ⟨w1.heap.size + 1, 0, none⟩), .pointer (some ⟨w1.heap.size, 0, none⟩)]) W1.heap.size (.slice none 0 0) 0)) :
    OneAt w (W2.setCell ⟨w1.heap.size + 1, 0, none⟩ (.pointer (some ⟨W1.heap.size + 1, 0, none⟩))) (roomC (W1.heap.size + 1) W1.heap.size n (w1.heap.size + 1 + 1) (w1.heap.size + 1) w1.heap.size) PS.none ∧ W2.cell? ⟨w1.heap.size, 0, none⟩ = some (.int .i64 n) ∧ W2.cell? ⟨w1.heap.size + 1, 0, none⟩ = some (.pointer none) ∧ W2.frozen? ⟨w1.heap.size + 1, 0, none⟩ = false := by
  have hs1 : W1.heap.size = w1.heap.size + 3 := by rw [h1]; simp
  have c0 : W1.heap[w1.heap.size]? = some (.cells #[.int .i64 n] 3 (0, 0)) := by
    rw [h1, Below.heap_alloc _ _ _ (by simp; omega), Below.heap_alloc _ _ _ (by simp)]; exact heap_alloc_new _ _
  have c1 : W1.heap[w1.heap.size + 1]? = some (.cells #[.pointer none] 57 (0, 0)) := by
    rw [h1, Below.heap_alloc _ _ _ (by simp)]; exact heap_alloc_at _ (by simp)
  have c2 : W1.heap[w1.heap.size + 1 + 1]? = some (.cells #[.bool true] 4 (0, 0)) := by
    rw [h1]; exact heap_alloc_at _ (by simp)
  have up : ∀ i, i < W1.heap.size → W2.heap[i]? = W1.heap[i]? := fun i hi => by
    rw [h2, Below.heap_alloc _ _ _ (by simp; omega), Below.heap_alloc _ _ _ hi]
  have hp : W2.heap[W1.heap.size + 1]? = some (poolObj n (.func (.func 32) #[] #[.pointer (some ⟨w1.heap.size + 1 + 1, 0, none⟩), .pointer (some ⟨w1.heap.size + 1, 0, none⟩), .pointer (some ⟨w1.heap.size, 0, none⟩)]) W1.heap.size (.slice none 0 0) 0) := by
    rw [h2]; exact heap_alloc_at _ (by simp)
  have hm : W2.heap[W1.heap.size]? = some (.map #[] 0) := by
    rw [h2, Below.heap_alloc _ _ _ (by simp)]; exact heap_alloc_new _ _
  have d0 := (up _ (by omega)).trans c0
  have d1 := (up _ (by omega)).trans c1
  have d2 := (up _ (by omega)).trans c2
  have far : ∀ i, ¬ i = w1.heap.size + 1 → (W2.setCell ⟨w1.heap.size + 1, 0, none⟩ (.pointer (some ⟨W1.heap.size + 1, 0, none⟩))).heap[i]? = W2.heap[i]? := fun i hi => Below.heap_setCell _ _ _ _ hi
  refine ⟨?_, held_cells d0 0, held_cells d1 0, by simp [World.frozen?, d1]⟩
  obtain ⟨τ, hpool, ht⟩ := pool_at (W2.setCell ⟨w1.heap.size + 1, 0, none⟩ (.pointer (some ⟨W1.heap.size + 1, 0, none⟩))) (W1.heap.size + 1) W1.heap.size n 32 #[.pointer (some ⟨w1.heap.size + 1 + 1, 0, none⟩), .pointer (some ⟨w1.heap.size + 1, 0, none⟩), .pointer (some ⟨w1.heap.size, 0, none⟩)]
    (roomC (W1.heap.size + 1) W1.heap.size n (w1.heap.size + 1 + 1) (w1.heap.size + 1) w1.heap.size).ext ((far _ (by omega)).trans hp) ((far _ (by omega)).trans hm) (fun b o hbo => by
      simp only [roomC, List.mem_cons, Prod.mk.injEq, List.not_mem_nil, or_false] at hbo
      rcases hbo with ⟨rfl, rfl⟩ | ⟨rfl, rfl⟩ | ⟨rfl, rfl⟩
      · exact ⟨(far _ (by omega)).trans d2, by omega, by omega⟩
      · exact ⟨setCell_block d1 0 _, by omega, by omega⟩
      · exact ⟨(far _ (by omega)).trans d0, by omega, by omega⟩)
  have hbs := hb.size
  refine ⟨τ, hpool, fun b t e => ?_, ?_⟩
  · rcases ht b t e with h | h | ⟨o, h⟩
    · omega
    · omega
    · simp only [roomC, List.mem_cons, Prod.mk.injEq, List.not_mem_nil, or_false] at h
      omega
  · have b1 : Below w.heap.size w W1 := by rw [h1]; exact ((hb.alloc hbs _).alloc (by simp; omega) _).alloc (by simp; omega) _
    have b2 : Below w.heap.size w W2 := by rw [h2]; exact (b1.alloc (by omega) _).alloc (by simp; omega) _
    exact b2.setCell (by show w.heap.size ≤ w1.heap.size + 1; omega) _
set_option maxRecDepth 100000 in
set_option maxHeartbeats 3200000 in
theorem room_walk (rm : Int) (hl : 0 ≤ rm ∧ rm < 256) (vs : List Int) (hv : ∀ v ∈ vs, 0 ≤ v ∧ v < 18446744073709551616) (sv : Value) (w : World) (ho : AtRow w sv vs.length 1 (vs.map refV)) :
    Calls Try.prog 6 #[.int .u8 rm, sv] w fun e w' => e = .returned (.bool true) ∧ Below w.heap.size w w' := by
  obtain ⟨n, hn⟩ : ∃ n : Nat, rm % 9 + 1 = (n : Int) := ⟨(rm % 9 + 1).toNat, by omega⟩
  have hn1 : 1 ≤ n ∧ n ≤ 9 := by omega
  have hl0 := hl.1
  have hl1 := hl.2
  obtain ⟨oa, cap, rfl, hcap, hmax, hsm, -, -, hform⟩ := ho
  have hformH := Lib.hid hform
  have hvH := Lib.hid hv
  have hn1H := Lib.hid hn1
  unfold maxLen at hmax
  have hlives := Lib.hid (lives_said w)
  clear hform hv hl
  go_enter Try.func6, Try.ntmps6
  go_wp2_with fail
  refine hlives.out.mono ?_
  rintro e w1 ⟨rfl, hb1⟩
  have hb1H := Lib.hid hb1
  clear hb1 hlives
  go_wp2_with fail
  obtain ⟨W1, hW1⟩ : ∃ W1, W1 = ((w1.alloc (.cells #[.int .i64 n] 3)).alloc (.cells #[.pointer none] 57)).alloc (.cells #[.bool true] 4) := ⟨_, rfl⟩
  rw [← hW1]
  refine (NewPool_said n _ _ W1 hn1H.out.1 (by have := hn1H.out.2; omega)).mono ?_
  rintro e W2 ⟨rfl, hW2⟩
  obtain ⟨hO, cm, cp, fp⟩ := room_start hb1H.out hW1 hW2
  have hO0 := Lib.hid hO
  clear hW1 hW2 hO
  obtain ⟨mk, hmk⟩ : ∃ mk, mk = w1.heap.size := ⟨_, rfl⟩
  obtain ⟨pk, hpk⟩ : ∃ pk, pk = w1.heap.size + 1 := ⟨_, rfl⟩
  obtain ⟨okb, hokb⟩ : ∃ okb, okb = w1.heap.size + 1 + 1 := ⟨_, rfl⟩
  obtain ⟨mb, hmb⟩ : ∃ mb, mb = W1.heap.size := ⟨_, rfl⟩
  obtain ⟨p, hp⟩ : ∃ p, p = W1.heap.size + 1 := ⟨_, rfl⟩
  rw [← hp, ← hmb, ← hokb, ← hpk, ← hmk] at hO0
  rw [← hpk] at cp fp
  rw [← hmk] at cm
  rw [← hokb, ← hpk, ← hmk, ← hp]
  have hmp : ¬ mk = pk := by omega
  clear hp hmb hokb hpk hmk
  have hI0H := Lib.hid (show Fine (roomC p mb n okb pk mk) PS.none from Fine.none (by have := hn1H.out; show 1 ≤ n ∧ n ≤ 100; omega))
  go_wp2_with fail
  go_loopw [9] (fun i wr => ∃ (k : Nat) (s : PS), k ≤ vs.length ∧ i = .int .i64 k ∧ OneAt w wr (roomC p mb n okb pk mk) s ∧ Fine (roomC p mb n okb pk mk) s ∧ s.n ≤ 2 * k ∧ s.N ≤ 2 * k ∧ RoomIds s) (fun i _ => vs.length - (intOf i).toNat)
  case atStart => exact ⟨0, _, Nat.zero_le _, rfl, hO0.out, hI0H.out, Int.le_refl _, Nat.le_refl _, fun i hi => by cases hi⟩
  case round =>
    obtain ⟨k, s, hk, rfl, hT, hI, hsn, hsN, hids⟩ := hrel
    obtain ⟨wo, rfl⟩ : ∃ wo : World, wo = wr := ⟨_, rfl⟩
    have hidsH := Lib.hid hids
    clear hids
    have hTH := Lib.hid hT
    have hIH := Lib.hid hI
    clear hT hI
    by_cases hlt : k < vs.length
    · obtain ⟨b, o, rfl, hc⟩ := hformH.out (by omega)
      obtain ⟨v, hv⟩ : ∃ v, vs[k]? = some v := ⟨_, List.getElem?_eq_getElem hlt⟩
      have hvb := hvH.out v (List.mem_of_getElem? hv)
      have hv0 := hvb.1
      have hv1 := hvb.2
      have hcell : w.cell? ⟨b, o + k, none⟩ = some (.int .u64 v) := by rw [hc k (by omega), List.getElem?_map, hv]; rfl
      obtain ⟨_, -, -, hbel⟩ := hTH.out
      have q1 := (hbel.cell (p := ⟨b, o + k, none⟩) (cell_lt hcell)).trans hcell
      obtain ⟨x1, x2, x3⟩ := one_ext hTH.out
      obtain ⟨id, hid⟩ : ∃ id, v % 20 + 1 = id := ⟨_, rfl⟩
      have hidw : (Lit.int .u64 id).wf = true := by simp [Lit.wf, IntKind.min, IntKind.max, IntKind.signed, IntKind.bits]; omega
      have hid0 : (id == 0) = false := by simp; omega
      have hid1 : 0 ≤ id ∧ id ≤ 900 := by omega
      have hid2 : 1 ≤ id ∧ id ≤ 20 := by omega
      have hid2H := Lib.hid hid2
      have hidwH := Lib.hid hidw
      have hid0H := Lib.hid hid0
      have hid1H := Lib.hid hid1
      have hkb : k ≤ 1048576 := by omega
      clear hc hv hvb hcell hbel hidw hid0 hid1 hid2 x1 x3 cm cp fp
      go_wp2_with fail
      refine (one_at hTH.out hIH.out hidwH.out hid0H.out (by omega)).mono ?_
      rintro e r1 ⟨g1, s1, rfl, hT1, hg1, hs1⟩
      have hT1H := Lib.hid hT1
      have hg1H := Lib.hid hg1
      have hf1 := Lib.hid (hIH.out.same hs1)
      have hids1 := Lib.hid (show RoomIds s1 from fun i hi => hidsH.out i (by rw [hs1.1] at hi; exact hi))
      have hn1' : s1.n ≤ 2 * k := by rw [hs1.2.1]; exact hsn
      have hN1' : s1.N ≤ 2 * k + 1 := by have := hs1.2.2.2.2; omega
      clear hT1 hg1 hs1 q1 x2 hid
      go_wp2_with fail
      refine (one_class hT1H.out hf1.out hg1H.out hid1H.out.1 hid1H.out.2 (by omega) (by omega)).mono ?_
      rintro e r2 ⟨rfl, s2, hT2, hst⟩
      have hT2H := Lib.hid hT2
      have hf2 := Lib.hid hst.1
      have hpos := hst.2.1
      have hlast := Lib.hid hst.2.2.1
      have hn2 : s2.n ≤ 2 * ((k + 1 : Nat) : Int) := by have := hst.2.2.2.1; omega
      have hN2 : s2.N ≤ 2 * (k + 1) := by have := hst.2.2.2.2.1; omega
      have hids2 := Lib.hid (show RoomIds s2 from fun i hi => by
        rcases hst.2.2.2.2.2 i hi with h | h | h
        · exact hids1.out i h
        · have := hid2H.out; omega
        · have := hid2H.out; omega)
      obtain ⟨x1, x2, x3⟩ := one_ext hT2
      clear hT2 hst hn1' hN1' x1 x3
      go_wp2_with fail
      refine (one_held hT2H.out hf2.out).mono ?_
      rintro e r3 ⟨sx, rfl, hox, hbx, hT3⟩
      have hT3H := Lib.hid hT3
      obtain ⟨gx, cx, rfl, hcx, hmx, hgx, hxc⟩ := ref_cells hox hpos
      have hxcH := Lib.hid hxc
      have hle : s2.L.length ≤ n := hf2.out.len
      obtain ⟨na, hna⟩ : ∃ na, na = s2.L.length := ⟨_, rfl⟩
      rw [← hna] at hpos hcx hle
      rw [← hna]
      have qlast : r3.cell? ⟨gx, na - 1, none⟩ = some (.int .u64 id) := by
        rw [hxc (na - 1) (by omega), List.getElem?_map]
        have h9 := hlast.out
        rw [List.getLast?_eq_getElem?, ← hna] at h9
        rw [h9]
        rfl
      obtain ⟨x1, x2, x3⟩ := one_ext hT3
      have hnaH := Lib.hid hna
      unfold maxLen at hmx
      have hna9 : na ≤ 9 := by have := hn1H.out.2; omega
      have hsub : (na : Int) - 1 = ((na - 1 : Nat) : Int) := by omega
      have hln1 : ¬ (n < na) := by omega
      have hz1 : ((na : Int) == 0) = false := by simp; omega
      clear hT3 hox hbx hxc hna x1
      go_wp2_with fail
      go_loopw [14] (fun i wq => ∃ (j q : Nat), j ≤ na ∧ i = .int .i64 j ∧ IsW (r3.drewN q) wq) (fun i _ => na - (intOf i).toNat)
      case atStart => exact ⟨0, 0, Nat.zero_le _, rfl, rfl⟩
      case round =>
        obtain ⟨j, q, hj, rfl, hw⟩ := hrel
        obtain rfl : wr = r3.drewN q := hw
        have hbq := Lib.hid (fun m => (But.refl (fun _ => False) r3).drewN m)
        by_cases hlt2 : j < na
        · obtain ⟨v2, hv2⟩ : ∃ v2, s2.L[j]? = some v2 := ⟨_, List.getElem?_eq_getElem (by rw [← hnaH.out]; exact hlt2)⟩
          have hb2 := hids2.out v2 (List.mem_of_getElem? hv2)
          have hpool := hT3H.out
          obtain ⟨τ3, hp3, -, -⟩ := hpool
          obtain ⟨g3, hg3⟩ := Option.isSome_iff_exists.1 (hp3.held v2 (List.mem_of_getElem? hv2))
          have hld : s2.ld v2 = true := by rw [hf2.out.ld]; simpa using List.mem_of_getElem? hv2
          have hnl := hnaH.out
          have hj2 : j < s2.L.length := by omega
          have hat := Lib.hid (fun m => at_there (hp3.but (hbq.out m) (fun _ _ f => f)) (id := v2) (by simp [Lit.wf, IntKind.min, IntKind.max, IntKind.signed, IntKind.bits]; omega) (by simp; omega) hg3)
          have hlo := Lib.hid (fun m => Loaded_pool (hp3.but (hbq.out m) (fun _ _ f => f)) hg3)
          rw [hld] at hlo
          have hidf := Lib.hid (fun m => ID_said (hp3.but (hbq.out m) (fun _ _ f => f)) hg3)
          have hhas := Lib.hid (fun m => has_not s2.L v2 j gx cx (r3.drewN m) (fun i hi => ((hbq.out m).cell (p := ⟨gx, i, none⟩) hgx (fun f => f)).trans (hxcH.out i (by omega))) (by omega) (fun i v hi hv e => by
            subst e
            have := (List.getElem?_inj (by omega) hf2.out.nodup).1 (hv.trans hv2.symm)
            omega) (by omega))
          have q1 : r3.cell? ⟨gx, j, none⟩ = some (.int .u64 v2) := by rw [hxcH.out j hj2, List.getElem?_map, hv2]; rfl
          clear hp3 hg3 hld hv2 qlast hnl hj2
          go_wp2_with fail
          go_quiet ((first | (go_at_call 34; first | exact quiet_same hat.out | exact quiet_add2 hat.out)))
          go_wp2_with fail
          go_quiet ((first | (go_at_call 28; first | exact quiet_same hlo.out | exact quiet_add2 hlo.out) | (go_at_call 35; first | exact quiet_same hidf.out | exact quiet_add2 hidf.out) | (go_at_call 36; first | exact quiet_same hhas.out | exact quiet_add2 hhas.out)))
          go_wp2_with fail
          go_roundw
          case rel => exact ⟨j + 1, _, by omega, by go_num, rfl⟩
          case measure => simp [intOf]; omega
        · obtain rfl : j = na := by omega
          go_wp2_with fail
          go_roundw
          case rel => exact ⟨k + 1, s2, by omega, by go_num, by obtain ⟨τ3, h1, h2, h3⟩ := hT3H.out; exact ⟨τ3, h1.but (hbq.out q) (fun _ _ f => f), h2, h3.trans ((hbq.out q).below' h3.size (fun _ _ f => f))⟩, hf2.out, hn2, hN2, hids2.out⟩
          case measure => simp [intOf]; omega
    · obtain rfl : k = vs.length := by omega
      have hext := one_ext hTH.out
      obtain ⟨x1, x2, x3⟩ := hext
      clear cm cp fp x2 x3
      go_wp2_with fail
      go_ret
      obtain ⟨_, -, -, hbel⟩ := hTH.out
      exact ⟨rfl, hbel⟩
end Go.Proofs.Ytpcbdjfonmohaaa
