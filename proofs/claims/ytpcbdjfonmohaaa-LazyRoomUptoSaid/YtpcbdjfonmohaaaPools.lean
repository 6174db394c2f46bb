/- Two pools side by side; LazyStack's fetch; tenonmake.Refs. -/
import Derived.Test.YtpcbdjfonmohaaaPoolLaw
import Derived.BigQuiet
import Derived.Deep.QuietTactic
namespace Go.Proofs.Ytpcbdjfonmohaaa
open Go.RowKit
set_option linter.unusedVariables false
set_option linter.unusedSimpArgs false

theorem recA_rep (w : World) : VRep (w.alloc (.cells #[.string ⟨#[97]⟩, .int .i64 1, .slice none 0 0] 65)) recA (.iface 37 (.pointer (some ⟨w.heap.size, 0, none⟩))) [w.heap.size] :=
  ⟨w.heap.size, _, [], [], rfl, heap_alloc_at _ rfl, by simp [maxLen, ByteArray.size], by kernel_rfl, ⟨rfl, .inl ⟨rfl, rfl⟩⟩, ⟨rfl, rfl⟩, rfl⟩
theorem stack1_said (id : Int) (w : World) : Calls Try.prog 37 #[.int .u64 id] w fun e w' => e = .returned (.tuple #[.pointer (some ⟨w.heap.size, 0, none⟩), .int .i64 0]) ∧ w' = w.alloc (.cells #[.string ⟨#[97]⟩, .int .i64 1, .slice none 0 0] 65) := by
  go_enter Try.func37, Try.ntmps37
  go_wp2
  go_ret2
  exact ⟨rfl, rfl⟩
theorem stack1_enters : ∀ (args : Array Value) (W : World), (callFunc 37 args).run Try.prog W = .ok (.enter 37 args) W := fun _ _ => by kernel_rfl
/-- A pool of LazyStack's. -/
def stackC (p mb room : Nat) : PoolC := ⟨p, mb, room, 37, #[], []⟩
theorem stack_fetch (p mb room : Nat) (id : Int) (s : PS) : FetchP (stackC p mb room) id s (· = s) := fun W τ h =>
  (stack1_said id W).mono fun e W' ⟨he, hw⟩ => by
    subst hw
    have hal : But (fun _ => False) W (W.alloc (.cells #[.string ⟨#[97]⟩, .int .i64 1, .slice none 0 0] 65)) := (But.refl _ W).alloc _
    exact ⟨_, _, τ, he, recA_rep W, fun b hb => by simp at hb; omega, ⟨s, rfl, h.but hal (fun _ _ f => f)⟩, Ev.of hal (fun _ _ f => f.elim)⟩

/-- Two pools, apart; all that was before is as it was. -/
def TwoAt (w0 W : World) (c d : PoolC) (s u : PS) : Prop := ∃ τ σ, PoolAt W c τ s ∧ PoolAt W d σ u ∧ (∀ b, τ b = none ∨ σ b = none) ∧ (∀ b t, τ b = some t → w0.heap.size ≤ b) ∧ (∀ b t, σ b = some t → w0.heap.size ≤ b) ∧ Below w0.heap.size w0 W
section
variable {w0 W W' : World} {c d : PoolC} {s s' u : PS} {id : Int} {g : Nat}
theorem TwoAt.swap (h : TwoAt w0 W c d s u) : TwoAt w0 W d c u s := by
  obtain ⟨τ, σ, h1, h2, h3, h4, h5, h6⟩ := h
  exact ⟨σ, τ, h2, h1, fun b => (h3 b).symm, h5, h4, h6⟩
theorem TwoAt.below (h : TwoAt w0 W c d s u) (hb : Below W.heap.size W W') : TwoAt w0 W' c d s u := by
  obtain ⟨τ, σ, h1, h2, h3, h4, h5, h6⟩ := h
  exact ⟨τ, σ, h1.below hb, h2.below hb, h3, h4, h5, h6.trans (below_le hb h6.size)⟩
theorem TwoAt.ev {τ τ' σ : Tags} {B : Int → Bool} (h1 : PoolAt W' c τ' s') (hτ : ∀ b t, τ b = some t → b < W.heap.size) (h2 : PoolAt W d σ u) (h3 : ∀ b, τ b = none ∨ σ b = none) (h4 : ∀ b t, τ b = some t → w0.heap.size ≤ b) (h5 : ∀ b t, σ b = some t → w0.heap.size ≤ b) (h6 : Below w0.heap.size w0 W) (hev : Ev B W W' τ τ') : TwoAt w0 W' c d s' u := by
  refine ⟨τ', σ, h1, h2.but hev.but (fun b e1 e2 => ?_), fun b => ?_, fun b t e => ?_, h5, h6.trans (hev.below h6.size h4)⟩
  · rcases h3 b with h | h
    · rw [h] at e2; cases e2.1
    · rw [h] at e1; cases e1
  · cases hs : σ b with
    | none => exact .inr rfl
    | some t =>
      have hlt := h2.lt b t hs
      rw [hev.old b hlt]
      exact .inl ((h3 b).resolve_right (by rw [hs]; simp))
  · rcases Nat.lt_or_ge b W.heap.size with h | h
    · rw [hev.old b h] at e; exact h4 b t e
    · have := h6.size; omega
/-- All but the table is as it was. -/
def SameBut (s s' : PS) : Prop := s'.L = s.L ∧ s'.n = s.n ∧ s'.ld = s.ld ∧ s'.busy = s.busy ∧ s'.N ≤ s.N + 1
theorem Fine.same (h : Fine c s) (hs : SameBut s s') : Fine c s' :=
  ⟨fun i => by rw [hs.2.2.1, hs.1]; exact h.ld i, fun i => by rw [hs.2.2.2.1]; exact h.busy i, by rw [hs.1]; exact h.nodup, by rw [hs.1]; exact h.len, h.room, by rw [hs.2.1]; exact h.n⟩
theorem at_any {w : World} {τ : Tags} (h : PoolAt w c τ s) (hid : (Lit.int .u64 id).wf = true) (h0 : (id == 0) = false) (hb : s.busy id = false) (hl : s.ld id = decide (id ∈ s.L)) (hN : s.N ≤ 1000000000) :
    Calls Try.prog 34 #[.pointer (some ⟨c.p, 0, none⟩), .int .u64 id] w fun e w' => ∃ g τ' s', e = .returned (.tuple #[.pointer (some ⟨g, 0, none⟩), .int .i64 0]) ∧ PoolAt w' c τ' s' ∧ s'.gt id = some g ∧ SameBut s s' ∧ (∀ i k, s.gt i = some k → s'.gt i = some k) ∧ ∀ B, Ev B w w' τ τ' := by
  cases hg : s.gt id with
  | some g => exact (at_there h hid h0 hg).mono fun e w' ⟨he, hw⟩ => by subst hw; exact ⟨g, τ, s, he, h, hg, ⟨rfl, rfl, rfl, rfl, Nat.le_succ _⟩, fun _ _ e => e, fun B => Ev.refl B _ _⟩
  | none =>
    have hnl : s.ld id = false := by
      rw [hl]
      simp only [decide_eq_false_iff_not]
      intro hm
      have := h.held id hm
      rw [hg] at this
      cases this
    exact (at_new h hid h0 hg hb hnl hN).mono fun e w' ⟨he, τ', hp, hev⟩ => ⟨_, τ', _, he, hp, by simp [PS.make], ⟨rfl, rfl, rfl, rfl, Nat.le_refl _⟩, fun i k e => by
      have : i ≠ id := fun e2 => by rw [e2, hg] at e; cases e
      simp [PS.make, this, e], hev⟩
theorem two_at (h : TwoAt w0 W c d s u) (hf : Fine c s) (hid : (Lit.int .u64 id).wf = true) (h0 : (id == 0) = false) (hN : s.N ≤ 1000000000) :
    Calls Try.prog 34 #[.pointer (some ⟨c.p, 0, none⟩), .int .u64 id] W fun e W' => ∃ g s', e = .returned (.tuple #[.pointer (some ⟨g, 0, none⟩), .int .i64 0]) ∧ TwoAt w0 W' c d s' u ∧ s'.gt id = some g ∧ SameBut s s' := by
  obtain ⟨τ, σ, h1, h2, h3, h4, h5, h6⟩ := h
  exact (at_any h1 hid h0 (hf.busy id) (hf.ld id) hN).mono fun e W' ⟨g, τ', s', he, hp, hg, hs, _, hev⟩ => ⟨g, s', he, TwoAt.ev (B := fun _ => false) hp h1.lt h2 h3 h4 h5 h6 (hev _), hg, hs⟩
/-- What Class leaves of a pool. -/
def Stepped (c : PoolC) (s s' : PS) (id : Int) : Prop := Fine c s' ∧ s'.L = stepL c.room s.L id ∧ s'.n = s.n + (if id ∈ s.L then 0 else 1) ∧ s'.N = s.N ∧ s'.gt = s.gt
theorem two_class (h : TwoAt w0 W c d s u) (hf : Fine c s) (hg : s.gt id = some g) (hF : ∀ (args : Array Value) (W : World), (callFunc c.F args).run Try.prog W = .ok (.enter c.F args) W) (hft : ∀ id s, FetchP c id s (· = s)) (hn : s.n ≤ 1000000000) :
    Calls Try.prog 24 #[.pointer (some ⟨g, 0, none⟩)] W fun e W' => e = .returned (.string ⟨#[97]⟩) ∧ ∃ s', TwoAt w0 W' c d s' u ∧ Stepped c s s' id := by
  obtain ⟨τ, σ, h1, h2, h3, h4, h5, h6⟩ := h
  have hroom := hf.room
  have hlen := hf.len
  by_cases hi : id ∈ s.L
  · have hu := used_fine hf hi
    exact (Class_held_pool h1 hg (by rw [hf.ld]; simpa using hi) (by omega)).mono fun e W' ⟨he, τ', hp, hev⟩ => ⟨he, _, TwoAt.ev hp h1.lt h2 h3 h4 h5 h6 hev, hu.1, hu.2, by rw [if_pos hi]; simp [PS.used], rfl, rfl⟩
  · have hld : s.ld id = false := by rw [hf.ld]; simpa using hi
    refine (Class_load_pool h1 hg (hf.busy id) hld hF (hft _ _) ⟨hf.n, hn⟩ (fun s2 e => by subst e; exact ⟨hg, (by show s.L.length ≤ 900; omega), fun i _ => hf.busy i⟩) hf.room.1).mono fun e W' ⟨he, s2, hs2, τ', hp, hev⟩ => by
      subst hs2
      refine ⟨he, _, TwoAt.ev hp h1.lt h2 h3 h4 h5 h6 hev, ?_, ?_, ?_, ?_, ?_⟩
      · refine loaded_fine (fun i => ?_) (fun i hne => ?_) hf.nodup hf.len hf.room (by show 0 ≤ s.n + 1; have := hf.n; omega)
        · show (if i = id then false else s.ld i) = decide (i ∈ s.L)
          by_cases e : i = id
          · subst e; simp [hi]
          · rw [if_neg e]; exact hf.ld i
        · show (if i = id then true else s.busy i) = false
          rw [if_neg hne]; exact hf.busy i
      · exact loaded_fit_L _ _ _
      · rw [(fit_gt _ _).2.2.1, if_neg hi]; rfl
      · rw [(fit_gt _ _).2.2.2]; rfl
      · rw [(fit_gt _ _).1]; rfl
theorem two_held (h : TwoAt w0 W c d s u) (hf : Fine c s) :
    Calls Try.prog 33 #[.pointer (some ⟨c.p, 0, none⟩)] W fun e W' => ∃ sv, e = .returned sv ∧ W'.ownsRow W.heap.size 30 1 sv s.L.length (s.L.map refV) ∧ Below W.heap.size W W' ∧ TwoAt w0 W' c d s u := by
  obtain ⟨τ, σ, h1, _⟩ := id h
  have h7 := hf.len
  have h8 := hf.room
  exact (Held_said h1 (by omega)).mono fun e W' ⟨sv, he, ho, hb⟩ => ⟨sv, he, ho, hb, h.below hb⟩
theorem two_fetched (h : TwoAt w0 W c d s u) : Calls Try.prog 39 #[.pointer (some ⟨c.p, 0, none⟩)] W fun e W' => e = .returned (.int .i64 s.n) ∧ W' = W := by
  obtain ⟨τ, σ, h1, _⟩ := h
  exact Fetched_said h1
end
set_option maxRecDepth 100000 in
set_option maxHeartbeats 800000 in
/-- Refs, of two lists that are one. -/
theorem Refs_same (l : List Int) (bx ox cx b_y oy cy : Nat) (w : World) (hx : ∀ j, j < l.length → w.cell? ⟨bx, ox + j, none⟩ = (l.map refV)[j]?) (hy : ∀ j, j < l.length → w.cell? ⟨b_y, oy + j, none⟩ = (l.map refV)[j]?) (hsz : l.length ≤ 1000) :
    Calls Try.prog 38 #[.slice (some ⟨bx, ox, none⟩) l.length cx, .slice (some ⟨b_y, oy, none⟩) l.length cy] w fun e w' => e = .returned (.bool true) ∧ Below w.heap.size w w' := by
  have hxH := Lib.hid hx
  have hyH := Lib.hid hy
  clear hx hy
  go_enter Try.func38, Try.ntmps38
  go_wp2
  go_loopw [5] (fun i wr => ∃ (k : Nat), k ≤ l.length ∧ i = .int .i64 k ∧ Below w.heap.size w wr) (fun i _ => l.length - (intOf i).toNat)
  case atStart => exact ⟨0, Nat.zero_le _, rfl, Below.refl _ _⟩
  case round =>
    obtain ⟨k, hk, rfl, hb⟩ := hrel
    by_cases hlt : k < l.length
    · obtain ⟨v, hv⟩ : ∃ v, l[k]? = some v := ⟨_, List.getElem?_eq_getElem hlt⟩
      have e1 := hxH.out k hlt
      have e2 := hyH.out k hlt
      have hmap : (l.map refV)[k]? = some (.int .u64 v) := by rw [List.getElem?_map, hv]; rfl
      rw [hmap] at e1 e2
      have q1 := (hb.cell (p := ⟨bx, ox + k, none⟩) (cell_lt e1)).trans e1
      have q2 := (hb.cell (p := ⟨b_y, oy + k, none⟩) (cell_lt e2)).trans e2
      clear e1 e2 hmap hv
      go_wp2_with fail
      go_quiet (fail)
      go_wp2
      go_roundw
      case rel => exact ⟨k + 1, by omega, by go_num, Below.drewN' hb _⟩
      case measure => simp [intOf]; omega
    · obtain rfl : k = l.length := by omega
      go_wp2
      go_ret
      exact ⟨rfl, hb⟩
end Go.Proofs.Ytpcbdjfonmohaaa
