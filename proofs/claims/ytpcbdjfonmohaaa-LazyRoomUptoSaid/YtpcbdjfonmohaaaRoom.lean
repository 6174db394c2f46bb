/- LazyRoom's fetch, which asks the pool itself. -/
import Derived.Test.YtpcbdjfonmohaaaPools
namespace Go.Proofs.Ytpcbdjfonmohaaa
open Go.RowKit
set_option linter.unusedVariables false
set_option linter.unusedSimpArgs false

/-- A pool of LazyRoom's: what its fetch has captured lies in three blocks. -/
def roomC (p mb room okb pk mk : Nat) : PoolC := ⟨p, mb, room, 32, #[.pointer (some ⟨okb, 0, none⟩), .pointer (some ⟨pk, 0, none⟩), .pointer (some ⟨mk, 0, none⟩)],
  [(okb, .cells #[.bool true] 4 (0, 0)), (pk, .cells #[.pointer (some ⟨p, 0, none⟩)] 57 (0, 0)), (mk, .cells #[.int .i64 room] 3 (0, 0))]⟩
theorem room1_enters : ∀ (args : Array Value) (W : World), (callFunc 32 args).run Try.prog W = .ok (.enter 32 args) W := fun _ _ => by kernel_rfl
theorem owns_form {w : World} {B n : Nat} {e : TypeId} {size : Nat} {sv : Value} {xs : List Value} (h : w.ownsRow B e size sv n xs) : ∃ a c, sv = .slice a n c := by
  obtain ⟨-, ⟨rfl, rfl⟩ | ⟨g, cap, cur, rfl, -⟩⟩ := h
  · exact ⟨_, _, rfl⟩
  · exact ⟨_, _, rfl⟩
/-- A store of what is there turns nothing. -/
theorem setCell_same {w : World} {b o : Nat} {cs : Array Value} {t : TypeId} {fr : Nat × Nat} (h : w.heap[b]? = some (.cells cs t fr)) {v : Value} (hv : cs[o]? = some v) : But (fun _ => False) w (w.setCell ⟨b, o, none⟩ v) := by
  refine ⟨rfl, rfl, rfl, by simp [World.setCell], fun k _ _ => ?_⟩
  by_cases e : k = b
  · subst e
    have e2 : cs.setIfInBounds o v = cs := by
      apply Array.ext_getElem?
      intro i
      rw [Array.getElem?_setIfInBounds]
      split
      · rename_i ei
        subst ei
        rw [hv]
        simp [(Array.getElem?_eq_some_iff.1 hv).1]
      · rfl
    rw [setCell_block h o v, h, e2]
  · exact Below.heap_setCell w ⟨b, o, none⟩ v k e
section
variable {p mb room okb pk mk : Nat}
theorem room_ext {W : World} {τ : Tags} {s : PS} (h : PoolAt W (roomC p mb room okb pk mk) τ s) : W.heap[okb]? = some (.cells #[.bool true] 4 (0, 0)) ∧ W.heap[pk]? = some (.cells #[.pointer (some ⟨p, 0, none⟩)] 57 (0, 0)) ∧ W.heap[mk]? = some (.cells #[.int .i64 room] 3 (0, 0)) :=
  ⟨(h.ext okb _ (by simp [roomC])).2, (h.ext pk _ (by simp [roomC])).2, (h.ext mk _ (by simp [roomC])).2⟩
theorem room_ne {W : World} {τ : Tags} {s : PS} (h : PoolAt W (roomC p mb room okb pk mk) τ s) : ¬ pk = okb ∧ ¬ mk = okb := by
  obtain ⟨h1, h2, h3⟩ := room_ext h
  exact ⟨fun e => (by rw [e, h1] at h2; cases h2), fun e => (by rw [e, h1] at h3; cases h3)⟩
/-- What the fetch reads. -/
theorem room_cells {W W' : World} {τ : Tags} {s : PS} (h : PoolAt W (roomC p mb room okb pk mk) τ s) (hb : But (fun _ => False) W W') :
    (W'.cell? ⟨okb, 0, none⟩ = some (.bool true) ∧ W'.cell? ⟨pk, 0, none⟩ = some (.pointer (some ⟨p, 0, none⟩)) ∧ W'.cell? ⟨mk, 0, none⟩ = some (.int .i64 room)) ∧ W'.frozen? ⟨okb, 0, none⟩ = false := by
  obtain ⟨h1, h2, h3⟩ := room_ext (h.but hb (fun _ _ f => f))
  exact ⟨⟨held_cells h1 0, held_cells h2 0, held_cells h3 0⟩, by simp [World.frozen?, h1]⟩
theorem setOk {w : World} (h : w.cell? ⟨okb, 0, none⟩ = some (.bool true) ∧ w.cell? ⟨pk, 0, none⟩ = some (.pointer (some ⟨p, 0, none⟩)) ∧ w.cell? ⟨mk, 0, none⟩ = some (.int .i64 room)) (h1 : ¬ pk = okb) (h2 : ¬ mk = okb) :
    (w.setCell ⟨okb, 0, none⟩ (.bool true)).cell? ⟨okb, 0, none⟩ = some (.bool true) ∧ (w.setCell ⟨okb, 0, none⟩ (.bool true)).cell? ⟨pk, 0, none⟩ = some (.pointer (some ⟨p, 0, none⟩)) ∧ (w.setCell ⟨okb, 0, none⟩ (.bool true)).cell? ⟨mk, 0, none⟩ = some (.int .i64 room) :=
  ⟨World.cell?_setCell_same _ _ _ h.1, (setCell_far h1).trans h.2.1, (setCell_far h2).trans h.2.2⟩
theorem undrew {W w1 : World} (h : Below W.drew.heap.size W.drew w1) : Below W.heap.size W w1 := ⟨h.os, h.tape, h.output, h.size, h.block⟩
theorem room_set {W w1 : World} {τ : Tags} {s : PS} (h : PoolAt W (roomC p mb room okb pk mk) τ s) (hb' : Below W.drew.heap.size W.drew w1) : But (fun _ => False) W (w1.setCell ⟨okb, 0, none⟩ (.bool true)) := by
  have hb := undrew hb'
  have h1 := (room_ext (h.below hb)).1
  exact (below_but0 hb).trans (setCell_same h1 rfl)
/-- What a fetch answers, behind what it asked. -/
def RoomEnd (W : World) (τ : Tags) (c : PoolC) (B : Int → Bool) (R : PS → Prop) (e : Ending) (W' : World) : Prop := ∃ a fs τ', e = .returned (.tuple #[.pointer (some a), .int .i64 0]) ∧ VRep W' recA (.iface 37 (.pointer (some a))) fs ∧ (∀ b ∈ fs, W.heap.size ≤ b) ∧ (∃ s', R s' ∧ PoolAt W' c τ' s') ∧ Ev B W W' τ τ'
theorem room_end {W W1 : World} {τ τ1 : Tags} {c : PoolC} {B : Int → Bool} {R : PS → Prop} {s' : PS} (hp : PoolAt W1 c τ1 s') (hR : R s') (hev : Ev B W W1 τ τ1) {W2 : World} {n : Nat} (hn : n = W1.heap.size) (h2 : W2 = W1.alloc (.cells #[.string ⟨#[97]⟩, .int .i64 1, .slice none 0 0] 65)) :
    RoomEnd W τ c B R (.returned (.tuple #[.pointer (some ⟨n, 0, none⟩), .int .i64 0])) W2 := by
  subst h2
  subst hn
  have hal : But (fun _ => False) W1 (W1.alloc (.cells #[.string ⟨#[97]⟩, .int .i64 1, .slice none 0 0] 65)) := (But.refl _ W1).alloc _
  have hs := hev.but.size
  exact ⟨_, _, τ1, rfl, recA_rep W1, fun b hb => by simp at hb; omega, ⟨s', hR, hp.but hal (fun _ _ f => f)⟩, hev.trans (Ev.of hal (fun _ _ f => f.elim))⟩
set_option maxRecDepth 100000 in
set_option maxHeartbeats 1600000 in
/-- A fetch that asks nobody. -/
theorem room_leaf {id : Int} {s : PS} (h0 : 0 ≤ id) (h1 : id ≤ 1000) (h3 : ¬ id % 3 = 1) (hlen : s.L.length ≤ room) (hroom : room ≤ 100) : FetchP (roomC p mb room okb pk mk) id s (· = s) := by
  intro W τ hp
  show Calls Try.prog 32 #[.int .u64 id, .pointer (some ⟨okb, 0, none⟩), .pointer (some ⟨pk, 0, none⟩), .pointer (some ⟨mk, 0, none⟩)] W (RoomEnd W τ (roomC p mb room okb pk mk) s.busy (· = s))
  have hS := room_cells hp (But.refl _ W)
  have extH := Lib.hid (fun W' (hb : But (fun _ => False) W W') => room_cells hp hb)
  obtain ⟨ne1, ne2⟩ := room_ne hp
  have heldH := Lib.hid (Held_said (hp.but ((But.refl (fun _ => False) W).drew) (fun _ _ f => f)) (by omega))
  have setH := Lib.hid (fun w1 (hb : Below W.drew.heap.size W.drew w1) => fun (W2 : World) (e : W2 = (w1.setCell ⟨okb, 0, none⟩ (.bool true)).alloc (.cells #[.string ⟨#[97]⟩, .int .i64 1, .slice none 0 0] 65)) =>
    room_end (R := (· = s)) (hp.but (room_set hp hb) (fun _ _ f => f)) rfl (Ev.of (B := s.busy) (room_set hp hb) (fun _ _ f => f.elim)) (n := w1.heap.size) (size_setCell _ _ _).symm e)
  have hle : decide ((s.L.length : Int) ≤ (room : Int)) = true := by simp only [decide_eq_true_eq]; omega
  have hle2 : decide (s.L.length ≤ room) = true := by simp only [decide_eq_true_eq]; omega
  have hm3 : (id % 3 == 1) = false := by simpa using h3
  obtain ⟨ln, hln⟩ : ∃ ln, ln = s.L.length := ⟨_, rfl⟩
  rw [← hln] at hle hle2 heldH
  have hln2 : ln ≤ 100 := by omega
  clear hp hln hlen
  go_enter Try.func32, Try.ntmps32
  go_wp2_with fail
  refine wp_region_held_drew (S := (fun w' => w'.cell? ⟨okb, 0, none⟩ = some (.bool true) ∧ w'.cell? ⟨pk, 0, none⟩ = some (.pointer (some ⟨p, 0, none⟩)) ∧ w'.cell? ⟨mk, 0, none⟩ = some (.int .i64 room))) (by kernel_rfl) hS.1 (fun hHeld => ?_)
  refine wpAnyH_take (i := 0) (v := ?va1) rfl (by kernel_rfl) (by kernel_rfl) (by kernel_rfl) (fun _ _ _ h => h) (.inl ⟨by rfl, ?hya1⟩) (by assumption) ?resta1
  case hya1 => (intro w hSw; (try dsimp only at hSw); go_simp; first | done | with_reducible rfl)
  (try simp only [Act.put, List.setIfInBounds_toArray, List.set_cons_zero, List.set_cons_succ, List.getElem_toArray, List.getElem_cons_zero, List.getElem_cons_succ])
  refine wpAnyH_take (i := 1) (v := ?va2) rfl (by kernel_rfl) (by kernel_rfl) (by kernel_rfl) (fun _ _ _ h => h) (.inl ⟨by rfl, ?hya2⟩) (by assumption) ?resta2
  case hya2 => (intro w hSw; (try dsimp only at hSw); go_simp; first | done | with_reducible rfl)
  (try simp only [Act.put, List.setIfInBounds_toArray, List.set_cons_zero, List.set_cons_succ, List.getElem_toArray, List.getElem_cons_zero, List.getElem_cons_succ])
  refine wpAnyH_take (i := 2) (v := ?va3) rfl (by kernel_rfl) (by kernel_rfl) (by kernel_rfl) (fun _ _ _ h => h) (.inl ⟨by rfl, ?hya3⟩) (by assumption) ?resta3
  case hya3 => (intro w hSw; (try dsimp only at hSw); go_simp; first | done | with_reducible rfl)
  (try simp only [Act.put, List.setIfInBounds_toArray, List.set_cons_zero, List.set_cons_succ, List.getElem_toArray, List.getElem_cons_zero, List.getElem_cons_succ])
  refine wpAnyH_take (i := 5) (v := ?va4) rfl (by kernel_rfl) (by kernel_rfl) (by kernel_rfl) (fun _ _ _ h => h) (.inl ⟨by rfl, ?hya4⟩) (by assumption) ?resta4
  case hya4 => (intro w hSw; (try dsimp only at hSw); go_simp; first | done | with_reducible rfl)
  (try simp only [Act.put, List.setIfInBounds_toArray, List.set_cons_zero, List.set_cons_succ, List.getElem_toArray, List.getElem_cons_zero, List.getElem_cons_succ])
  refine wpAnyH_ready (rs := [3]) (by kernel_rfl) (by simp) ?_
  refine AllReadyH.cons rfl (fun K hK => ?_) AllReadyH.nil
  rw [if_pos (by rfl)]
  go_simp
  refine heldH.out.mono ?_
  rintro e w1 ⟨sv, rfl, hown, hb1⟩
  obtain ⟨oa, ocap, rfl⟩ := owns_form hown
  have hS1 := extH.out w1 (below_but0 (undrew hb1))
  have hz1 := (hS1.2)
  have hb1H := Lib.hid hb1
  clear hb1 hown
  refine hK.out _ _ ?_ (fun hHeldN => ?_)
  · exact hS1.1
  clear hK K hHeld
  have hHeld := hHeldN
  clear hHeldN
  (try simp only [Act.put, List.setIfInBounds_toArray, List.set_cons_zero, List.set_cons_succ, List.getElem_toArray, List.getElem_cons_zero, List.getElem_cons_succ])
  refine wpAnyH_take (i := 4) (v := ?va5) rfl (by kernel_rfl) (by kernel_rfl) (by kernel_rfl) (fun _ _ _ h => h) (.inl ⟨by rfl, ?hya5⟩) (by assumption) ?resta5
  case hya5 => (intro w hSw; (try dsimp only at hSw); go_simp; first | done | with_reducible rfl)
  (try simp only [Act.put, List.setIfInBounds_toArray, List.set_cons_zero, List.set_cons_succ, List.getElem_toArray, List.getElem_cons_zero, List.getElem_cons_succ])
  refine wpAnyH_take (i := 6) (v := ?va6) rfl (by kernel_rfl) (by kernel_rfl) (by kernel_rfl) (fun _ _ _ h => h) (.inl ⟨by rfl, ?hya6⟩) (by assumption) ?resta6
  case hya6 => (intro w hSw; (try dsimp only at hSw); go_simp; first | done | with_reducible rfl)
  (try simp only [Act.put, List.setIfInBounds_toArray, List.set_cons_zero, List.set_cons_succ, List.getElem_toArray, List.getElem_cons_zero, List.getElem_cons_succ])
  refine wpAnyH_take (i := 7) (v := ?va7) rfl (by kernel_rfl) (by kernel_rfl) (by kernel_rfl) (fun _ _ _ h => h) (.inl ⟨by rfl, ?hya7⟩) (by assumption) ?resta7
  case hya7 => (intro w hSw; (try dsimp only at hSw); go_simp; first | done | with_reducible rfl)
  (try simp only [Act.put, List.setIfInBounds_toArray, List.set_cons_zero, List.set_cons_succ, List.getElem_toArray, List.getElem_cons_zero, List.getElem_cons_succ])
  refine wpAnyH_ready (rs := [8]) (by kernel_rfl) (by simp) ?_
  refine AllReadyH.cons rfl (fun K hK => ?_) AllReadyH.nil
  rw [if_pos (by rfl)]
  go_simp
  refine hK.out _ _ ?_ (fun hHeldN => ?_)
  · exact setOk hS1.1 ne1 ne2
  clear hK K hHeld
  have hHeld := hHeldN
  clear hHeldN
  (try simp only [Act.put, List.setIfInBounds_toArray, List.set_cons_zero, List.set_cons_succ, List.getElem_toArray, List.getElem_cons_zero, List.getElem_cons_succ])
  refine wpAnyH_done (by kernel_rfl) ?_ _
  have hp1 := setH.out w1 hb1H.out
  clear hHeld hz1 hS1
  go_wp2_with fail
  go_ret2
  exact hp1 _ rfl
/-- A pool while one of its ghosts is fetched. -/
structure Mid (c : PoolC) (s : PS) (id : Int) : Prop where
  ld : ∀ i, s.ld i = decide (i ∈ s.L)
  busy : ∀ i, s.busy i = decide (i = id)
  nodup : s.L.Nodup
  len : s.L.length ≤ c.room
  room : 1 ≤ c.room ∧ c.room ≤ 100
  n : 0 ≤ s.n
  out : id ∉ s.L
theorem Mid.fine {c : PoolC} {s : PS} {id : Int} (h : Mid c s id) : Fine c ((s.loaded id).fit c.room) ∧ ((s.loaded id).fit c.room).L = stepL c.room s.L id :=
  ⟨loaded_fine h.ld (fun i hi => by rw [h.busy]; simpa using hi) h.nodup h.len h.room h.n, loaded_fit_L _ _ _⟩
theorem mem_step {room : Nat} {L : List Int} {id i : Int} (h : i ∈ stepL room L id) : i = id ∨ i ∈ L := by
  have h2 : i ∈ L.filter (· != id) ++ [id] := by
    unfold stepL at h
    dsimp only at h
    split at h
    · exact List.mem_of_mem_tail h
    · exact h
  rcases List.mem_append.1 h2 with h2 | h2
  · exact .inr (List.mem_filter.1 h2).1
  · exact .inl (by simpa using h2)
/-- Another one is asked meanwhile: it was held. -/
theorem Mid.used {c : PoolC} {s : PS} {id j : Int} (h : Mid c s id) (hj : j ∈ s.L) : Mid c (s.used j) id := by
  have e := stepL_in h.nodup h.len hj
  have hl := stepL_len (id := j) h.nodup h.len h.room.1
  refine ⟨fun i => ?_, h.busy, used_nodup h.nodup, ?_, h.room, h.n, fun hm => ?_⟩
  · show s.ld i = decide (i ∈ s.L.filter (· != j) ++ [j])
    rw [h.ld i]
    by_cases e : i = j
    · subst e; simp [hj]
    · simp [e]
  · show (s.L.filter (· != j) ++ [j]).length ≤ _
    rw [← e]; exact hl.1
  · have hm' : id ∈ s.L.filter (· != j) ++ [j] := hm
    rw [← e] at hm'
    rcases mem_step hm' with h1 | h1
    · exact h.out (h1 ▸ hj)
    · exact h.out h1
/-- .. it was not. -/
theorem Mid.loads {c : PoolC} {s : PS} {id j : Int} (h : Mid c s id) (hj : j ∉ s.L) (hne : j ≠ id) : Mid c ((((s.begin j)).loaded j).fit c.room) id := by
  have hld : ∀ i, (s.begin j).ld i = decide (i ∈ (s.begin j).L) := fun i => by
    show (if i = j then false else s.ld i) = decide (i ∈ s.L)
    by_cases e : i = j
    · subst e; simp [hj]
    · rw [if_neg e]; exact h.ld i
  have hL := loaded_fit_L (s.begin j) j c.room
  have hl := stepL_len (id := j) h.nodup h.len h.room.1
  refine ⟨loaded_core hld h.nodup, fun i => ?_, by rw [hL]; exact stepL_nodup h.nodup, by rw [hL]; exact hl.1, h.room, by rw [(fit_gt _ _).2.2.1]; show 0 ≤ s.n + 1; have := h.n; omega, fun hm => ?_⟩
  · rw [(fit_gt _ _).2.1]
    show (if i = j then false else if i = j then true else s.busy i) = decide (i = id)
    by_cases e : i = j
    · subst e; simp [hne]
    · rw [if_neg e, if_neg e]; exact h.busy i
  · rw [hL] at hm
    rcases mem_step hm with h1 | h1
    · exact hne h1.symm
    · exact h.out h1
theorem Mid.same {c : PoolC} {s s' : PS} {id : Int} (h : Mid c s id) (hs : SameBut s s') : Mid c s' id :=
  ⟨fun i => by rw [hs.2.2.1, hs.1]; exact h.ld i, fun i => by rw [hs.2.2.2.1]; exact h.busy i, by rw [hs.1]; exact h.nodup, by rw [hs.1]; exact h.len, h.room, by rw [hs.2.1]; exact h.n, by rw [hs.1]; exact h.out⟩
/-- What a fetch leaves of the pool. -/
def MidR (c : PoolC) (s : PS) (id : Int) (s2 : PS) : Prop := Mid c s2 id ∧ (∀ i k, s.gt i = some k → s2.gt i = some k) ∧ s2.n ≤ s.n + 1 ∧ s2.N ≤ s.N + 1 ∧ ∀ i ∈ s2.L, i ∈ s.L ∨ i = id + 1
/-- Class, meanwhile. -/
theorem class_mid {W : World} {τ : Tags} {s : PS} {id j : Int} {g : Nat} (h : PoolAt W (roomC p mb room okb pk mk) τ s) (hm : Mid (roomC p mb room okb pk mk) s id) (hg : s.gt j = some g) (hne : j ≠ id) (h0 : 0 ≤ j) (h1 : j ≤ 1000) (h3 : ¬ j % 3 = 1) (hn : s.n ≤ 1000000000) :
    Calls Try.prog 24 #[.pointer (some ⟨g, 0, none⟩)] W fun e W' => e = .returned (.string ⟨#[97]⟩) ∧ ∃ s2, (Mid (roomC p mb room okb pk mk) s2 id ∧ s2.gt = s.gt ∧ s2.n ≤ s.n + 1 ∧ s2.N = s.N ∧ ∀ i ∈ s2.L, i ∈ s.L ∨ i = j) ∧ Asked (roomC p mb room okb pk mk) τ s.busy W s2 W' := by
  have hroom := hm.room
  have hlen := hm.len
  by_cases hj : j ∈ s.L
  · exact (Class_held_pool h hg (by rw [hm.ld]; simpa using hj) (by omega)).mono fun e W' ⟨he, ha⟩ => ⟨he, _, ⟨hm.used hj, rfl, by show s.n ≤ s.n + 1; omega, rfl, fun i hi => by
      have hi' : i ∈ s.L.filter (· != j) ++ [j] := hi
      rcases List.mem_append.1 hi' with h | h
      · exact .inl (List.mem_filter.1 h).1
      · exact .inr (by simpa using h)⟩, ha⟩
  · have hb : s.busy j = false := by rw [hm.busy]; simpa using hne
    have hld : s.ld j = false := by rw [hm.ld]; simpa using hj
    refine (Class_load_pool h hg hb hld room1_enters (room_leaf h0 h1 h3 (s := s.begin j) hlen hroom.2) ⟨hm.n, hn⟩ (fun s2 e => by
      subst e
      exact ⟨hg, (by show s.L.length ≤ 900; omega), fun i hi => by
        rw [hm.busy]
        simp only [decide_eq_false_iff_not]
        exact fun e => hm.out (e ▸ hi)⟩) hroom.1).mono fun e W' ⟨he, s2, hs2, ha⟩ => ?_
    subst hs2
    exact ⟨he, _, ⟨hm.loads hj hne, by rw [(fit_gt _ _).1]; rfl, by rw [(fit_gt _ _).2.2.1]; exact Int.le_refl _, by rw [(fit_gt _ _).2.2.2]; rfl, fun i hi => by
      rw [loaded_fit_L] at hi
      exact (mem_step hi).symm⟩, ha⟩
set_option maxRecDepth 100000 in
set_option maxHeartbeats 1600000 in
/-- A fetch that asks the next one. -/
theorem room_node {id : Int} {s : PS} (h0 : 0 ≤ id) (h1 : id ≤ 900) (h3 : id % 3 = 1) (hm : Mid (roomC p mb room okb pk mk) s id) (hn : s.n ≤ 1000000000) (hN : s.N ≤ 1000000000) : FetchP (roomC p mb room okb pk mk) id s (MidR (roomC p mb room okb pk mk) s id) := by
  intro W τ hp
  show Calls Try.prog 32 #[.int .u64 id, .pointer (some ⟨okb, 0, none⟩), .pointer (some ⟨pk, 0, none⟩), .pointer (some ⟨mk, 0, none⟩)] W (RoomEnd W τ (roomC p mb room okb pk mk) s.busy (MidR (roomC p mb room okb pk mk) s id))
  have hS := room_cells hp (But.refl _ W)
  have extH := Lib.hid (fun W' (hb : But (fun _ => False) W W') => room_cells hp hb)
  obtain ⟨ne1, ne2⟩ := room_ne hp
  have hlen : s.L.length ≤ room := hm.len
  have hroom : room ≤ 100 := hm.room.2
  have heldH := Lib.hid (Held_said (hp.but ((But.refl (fun _ => False) W).drew) (fun _ _ f => f)) (by omega))
  have hpH := Lib.hid hp
  have setN := Lib.hid (fun w1 (hb : Below W.drew.heap.size W.drew w1) => And.intro (hp.but (room_set hp hb) (fun _ _ f => f)) (room_set hp hb))
  have hle : decide ((s.L.length : Int) ≤ (room : Int)) = true := by simp only [decide_eq_true_eq]; omega
  have hle2 : decide (s.L.length ≤ room) = true := by simp only [decide_eq_true_eq]; omega
  have hm3 : (id % 3 == 1) = true := by simpa using h3
  have hidw := Lib.hid (show (Lit.int .u64 (id + 1)).wf = true by simp [Lit.wf, IntKind.min, IntKind.max, IntKind.signed, IntKind.bits]; omega)
  have hid0 := Lib.hid (show (id + 1 == 0) = false by simp; omega)
  have hmH := Lib.hid hm
  have hwr : IntKind.u64.wrap (id + 1) = id + 1 := by rw [IntKind.wrap_u64]; omega
  obtain ⟨ln, hln⟩ : ∃ ln, ln = s.L.length := ⟨_, rfl⟩
  rw [← hln] at hle hle2 heldH
  have hln2 : ln ≤ 100 := by omega
  clear hp hln hlen hm
  go_enter Try.func32, Try.ntmps32
  go_wp2_with fail
  refine wp_region_held_drew (S := (fun w' => w'.cell? ⟨okb, 0, none⟩ = some (.bool true) ∧ w'.cell? ⟨pk, 0, none⟩ = some (.pointer (some ⟨p, 0, none⟩)) ∧ w'.cell? ⟨mk, 0, none⟩ = some (.int .i64 room))) (by kernel_rfl) hS.1 (fun hHeld => ?_)
  refine wpAnyH_take (i := 0) (v := ?vb1) rfl (by kernel_rfl) (by kernel_rfl) (by kernel_rfl) (fun _ _ _ h => h) (.inl ⟨by rfl, ?hyb1⟩) (by assumption) ?restb1
  case hyb1 => (intro w hSw; (try dsimp only at hSw); go_simp; first | done | with_reducible rfl)
  (try simp only [Act.put, List.setIfInBounds_toArray, List.set_cons_zero, List.set_cons_succ, List.getElem_toArray, List.getElem_cons_zero, List.getElem_cons_succ])
  refine wpAnyH_take (i := 1) (v := ?vb2) rfl (by kernel_rfl) (by kernel_rfl) (by kernel_rfl) (fun _ _ _ h => h) (.inl ⟨by rfl, ?hyb2⟩) (by assumption) ?restb2
  case hyb2 => (intro w hSw; (try dsimp only at hSw); go_simp; first | done | with_reducible rfl)
  (try simp only [Act.put, List.setIfInBounds_toArray, List.set_cons_zero, List.set_cons_succ, List.getElem_toArray, List.getElem_cons_zero, List.getElem_cons_succ])
  refine wpAnyH_take (i := 2) (v := ?vb3) rfl (by kernel_rfl) (by kernel_rfl) (by kernel_rfl) (fun _ _ _ h => h) (.inl ⟨by rfl, ?hyb3⟩) (by assumption) ?restb3
  case hyb3 => (intro w hSw; (try dsimp only at hSw); go_simp; first | done | with_reducible rfl)
  (try simp only [Act.put, List.setIfInBounds_toArray, List.set_cons_zero, List.set_cons_succ, List.getElem_toArray, List.getElem_cons_zero, List.getElem_cons_succ])
  refine wpAnyH_take (i := 5) (v := ?vb4) rfl (by kernel_rfl) (by kernel_rfl) (by kernel_rfl) (fun _ _ _ h => h) (.inl ⟨by rfl, ?hyb4⟩) (by assumption) ?restb4
  case hyb4 => (intro w hSw; (try dsimp only at hSw); go_simp; first | done | with_reducible rfl)
  (try simp only [Act.put, List.setIfInBounds_toArray, List.set_cons_zero, List.set_cons_succ, List.getElem_toArray, List.getElem_cons_zero, List.getElem_cons_succ])
  refine wpAnyH_ready (rs := [3]) (by kernel_rfl) (by simp) ?_
  refine AllReadyH.cons rfl (fun K hK => ?_) AllReadyH.nil
  rw [if_pos (by rfl)]
  go_simp
  refine heldH.out.mono ?_
  rintro e w1 ⟨sv, rfl, hown, hb1⟩
  obtain ⟨oa, ocap, rfl⟩ := owns_form hown
  have hS1 := extH.out w1 (below_but0 (undrew hb1))
  have hz1 := (hS1.2)
  have hb1H := Lib.hid hb1
  clear hb1 hown
  refine hK.out _ _ ?_ (fun hHeldN => ?_)
  · exact hS1.1
  clear hK K hHeld
  have hHeld := hHeldN
  clear hHeldN
  (try simp only [Act.put, List.setIfInBounds_toArray, List.set_cons_zero, List.set_cons_succ, List.getElem_toArray, List.getElem_cons_zero, List.getElem_cons_succ])
  refine wpAnyH_take (i := 4) (v := ?vb5) rfl (by kernel_rfl) (by kernel_rfl) (by kernel_rfl) (fun _ _ _ h => h) (.inl ⟨by rfl, ?hyb5⟩) (by assumption) ?restb5
  case hyb5 => (intro w hSw; (try dsimp only at hSw); go_simp; first | done | with_reducible rfl)
  (try simp only [Act.put, List.setIfInBounds_toArray, List.set_cons_zero, List.set_cons_succ, List.getElem_toArray, List.getElem_cons_zero, List.getElem_cons_succ])
  refine wpAnyH_take (i := 6) (v := ?vb6) rfl (by kernel_rfl) (by kernel_rfl) (by kernel_rfl) (fun _ _ _ h => h) (.inl ⟨by rfl, ?hyb6⟩) (by assumption) ?restb6
  case hyb6 => (intro w hSw; (try dsimp only at hSw); go_simp; first | done | with_reducible rfl)
  (try simp only [Act.put, List.setIfInBounds_toArray, List.set_cons_zero, List.set_cons_succ, List.getElem_toArray, List.getElem_cons_zero, List.getElem_cons_succ])
  refine wpAnyH_take (i := 7) (v := ?vb7) rfl (by kernel_rfl) (by kernel_rfl) (by kernel_rfl) (fun _ _ _ h => h) (.inl ⟨by rfl, ?hyb7⟩) (by assumption) ?restb7
  case hyb7 => (intro w hSw; (try dsimp only at hSw); go_simp; first | done | with_reducible rfl)
  (try simp only [Act.put, List.setIfInBounds_toArray, List.set_cons_zero, List.set_cons_succ, List.getElem_toArray, List.getElem_cons_zero, List.getElem_cons_succ])
  refine wpAnyH_ready (rs := [8]) (by kernel_rfl) (by simp) ?_
  refine AllReadyH.cons rfl (fun K hK => ?_) AllReadyH.nil
  rw [if_pos (by rfl)]
  go_simp
  refine hK.out _ _ ?_ (fun hHeldN => ?_)
  · exact setOk hS1.1 ne1 ne2
  clear hK K hHeld
  have hHeld := hHeldN
  clear hHeldN
  (try simp only [Act.put, List.setIfInBounds_toArray, List.set_cons_zero, List.set_cons_succ, List.getElem_toArray, List.getElem_cons_zero, List.getElem_cons_succ])
  refine wpAnyH_done (by kernel_rfl) ?_ _
  have hp1 := setN.out w1 hb1H.out
  have q2 := (setOk hS1.1 ne1 ne2).2.1
  clear hHeld hz1 hS1
  go_wp2_with fail
  refine (at_any hp1.1 hidw.out hid0.out (by rw [hmH.out.busy]; simp only [decide_eq_false_iff_not]; omega) (hmH.out.ld _) hN).mono ?_
  rintro e w2 ⟨g2, τ2, s2, rfl, hp2, hg2, hs2, hgt2, hev2⟩
  have hm2 := hmH.out.same hs2
  have hn2 : s2.n ≤ 1000000000 := by rw [hs2.2.1]; exact hn
  have hcl := Lib.hid (class_mid hp2 hm2 hg2 (by omega) (by omega) (by omega) (by omega) hn2)
  have hfin2 := Lib.hid (And.intro hp1.2 (And.intro hs2 (And.intro hgt2 hev2)))
  clear hp1 hp2 hg2 hs2 hgt2 hev2 hm2 hn2
  go_wp2_with fail
  refine hcl.out.mono ?_
  rintro e w3 ⟨rfl, s3, hs3, τ3, hp3, hev3⟩
  have hfin3 := Lib.hid (And.intro hs3 (And.intro hp3 hev3))
  clear hs3 hp3 hev3 hcl
  go_wp2_with fail
  go_ret2
  obtain ⟨hb, hs2, hgt2, hev2⟩ := hfin2.out
  obtain ⟨⟨hm3', hgt3, hn3, hN3, hL3⟩, hp3, hev3⟩ := hfin3.out
  refine room_end (s' := s3) hp3 ⟨hm3', fun i k e => by rw [hgt3]; exact hgt2 i k e, by have := hs2.2.1; omega, by have := hs2.2.2.2.2; omega, fun i hi => by have := hL3 i hi; rw [hs2.1] at this; exact this⟩ ?_ rfl rfl
  have e1 : Ev s.busy W _ τ τ := Ev.of (B := s.busy) hb (fun _ _ f => f.elim)
  have e3 : Ev s.busy w2 w3 τ2 τ3 := by rw [← hs2.2.2.2.1]; exact hev3
  exact (e1.trans (hev2 s.busy)).trans e3
end
end Go.Proofs.Ytpcbdjfonmohaaa
