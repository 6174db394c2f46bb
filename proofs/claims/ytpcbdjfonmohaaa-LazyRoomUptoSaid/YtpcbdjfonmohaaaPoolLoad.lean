/- Pools: load, asked, Class of a ghost of a pool. -/
import Derived.Test.YtpcbdjfonmohaaaPoolHeld
namespace Go.Proofs.Ytpcbdjfonmohaaa
open Go.RowKit
set_option linter.unusedVariables false
set_option linter.unusedSimpArgs false

/-- What a pool's fetch does: it answers recA; the pool comes from s to what R says. -/
def FetchP (c : PoolC) (id : Int) (s : PS) (R : PS → Prop) : Prop := ∀ W τ, PoolAt W c τ s → Calls Try.prog c.F (#[.int .u64 id] ++ c.caps) W fun e W' => ∃ a fs τ', e = .returned (.tuple #[.pointer (some a), .int .i64 0]) ∧ VRep W' recA (.iface 37 (.pointer (some a))) fs ∧ (∀ b ∈ fs, W.heap.size ≤ b) ∧ (∃ s', R s' ∧ PoolAt W' c τ' s') ∧ Ev s.busy W W' τ τ'
/-- A fetch has begun. -/
def PS.begin (s : PS) (id : Int) : PS := ({ s with n := s.n + 1 } : PS).put id true false
/-- It has been loaded. -/
def PS.loaded (s : PS) (id : Int) : PS := { (s.put id false true) with L := s.L.filter (· != id) ++ [id] }
/-- It has been used. -/
def PS.used (s : PS) (id : Int) : PS := { s with L := s.L.filter (· != id) ++ [id] }
theorem PS.put_put (s : PS) (id : Int) (a b d e : Bool) : (s.put id a b).put id d e = s.put id d e := by
  unfold PS.put
  congr 1
  · funext i; by_cases h : i = id <;> simp [h]
  · funext i; by_cases h : i = id <;> simp [h]
def Tags.recs (τ : Tags) (l : List Nat) : Tags := fun i => if i ∈ l then some .recd else τ i
theorem recA_fine : (Got.gives recA).fine := ⟨_, _, _, rfl⟩
theorem recA_why : (Got.gives recA).why = 0 := why_ok recA_ok
section
variable {w w' : World} {c : PoolC} {τ τ' : Tags} {s s2 : PS} {id : Int} {g : Nat} {R : PS → Prop}
/-- How the fetch of a pool is called. -/
def FetchR (c : PoolC) (τ : Tags) (s : PS) (R : PS → Prop) (W W' : World) : Prop := ∃ τ', (∃ s2, R s2 ∧ PoolAt W' c τ' s2) ∧ Ev s.busy W W' τ τ'
theorem pool_fetching (h : PoolAt w c τ s) (hg : s.gt id = some g) {last : Int} (hgo : w.heap[g]? = some (ghostObj id c.fv none false last (some ⟨c.p, 0, none⟩))) (hf : FetchP c id (s.put id true false) R) :
    Fetching c.F c.caps id w g (ghostObj id c.fv none true last (some ⟨c.p, 0, none⟩)) (fun b => (τ b).isSome = true ∧ ∀ i, τ b = some (.ghost i) → (s.put id true false).busy i = false) (.gives recA) (FetchR c τ (s.put id true false) R) := by
  intro W hb hgW
  have hW := h.turn hg hb (fun _ e => .inl e) (b := true) (l := false) ⟨none, last, hgW, fun _ => rfl, fun e => by cases e⟩
  refine (hf W τ hW).mono fun e W' ⟨a, fs, τ', he, hv, hfs, hp, hev⟩ => ⟨hev.but.mono (fun b _ e => ⟨e, ?_⟩), ⟨a, fs, he, hv, fun b hb => .inr (hfs b hb)⟩, τ', hp, hev⟩
  obtain ⟨t, e1⟩ := Option.isSome_iff_exists.1 e.1
  exact h.lt b t e1
theorem setCell_but (w : World) (p : Addr) (v : Value) : But (· = p.block) w (w.setCell p v) := (But.refl (· = p.block) w).setCell (p := p) (fun _ => rfl) v
/-- Behind the fetch: the ghost is loaded. -/
theorem pool_fetched {w1 W W' w2 : World} (h : PoolAt w1 c τ s) (hg : s.gt id = some g) (hg2 : ∀ s2, R s2 → s2.gt id = some g) (hb0 : But (· = g) w1 W) (hR : FetchR c τ (s.put id true false) R W W') (hb2 : But (fun b => b = g ∨ (w1.heap.size ≤ b ∧ b < W.heap.size)) W' w2)
    {last : Int} (hgo : w2.heap[g]? = some (ghostObj id c.fv none false last (some ⟨c.p, 0, none⟩))) {b : Nat} {gs : List Nat} (hv : VRep w2 recA (.iface 37 (.pointer (some ⟨b, 0, none⟩))) gs) (hgs : ∀ k ∈ gs, W'.heap.size ≤ k) (hid : s.busy id = false) :
    ∃ s2 τ3, R s2 ∧ PoolAt ((w2.setCell ⟨g, 4, none⟩ (.int .i64 0)).setCell ⟨g, 2, none⟩ (.pointer (some ⟨b, 0, none⟩))) c τ3 (s2.put id false true) ∧ Ev s.busy w1 ((w2.setCell ⟨g, 4, none⟩ (.int .i64 0)).setCell ⟨g, 2, none⟩ (.pointer (some ⟨b, 0, none⟩))) τ τ3 := by
  obtain ⟨τ', ⟨s2, hRs, hp⟩, hev⟩ := hR
  have hg2 := hg2 s2 hRs
  have hgt := (h.ghost id g hg).1
  have hglt := h.lt _ _ hgt
  have hWs := hb0.size
  have hW's := hev.but.size
  have htemp : ∀ i, (w1.heap.size ≤ i ∧ i < W.heap.size) → τ' i = none := fun i hi => by
    rw [hev.old i hi.2]
    cases e : τ i with
    | none => rfl
    | some t => have := h.lt i t e; omega
  have h2 := hp.turn hg2 hb2 (fun i e => e.imp (fun h => h) (htemp i)) (b := false) (l := false) ⟨none, last, hgo, fun _ => rfl, fun e => by cases e⟩
  have hgl := VRep.lt _ _ _ hv
  have htag : ∀ i t, τ' i = some t → τ'.recs gs i = some t := fun i t e => by
    have h1 := hp.lt i t e
    rw [Tags.recs, if_neg (fun hm => by have := hgs i hm; omega), e]
  have h3 := h2.tags htag (fun i t e => by
    unfold Tags.recs at e
    split at e
    · rename_i hm; exact hgl i hm
    · exact h2.lt i t e)
  have hset : But (· = g) w2 ((w2.setCell ⟨g, 4, none⟩ (.int .i64 0)).setCell ⟨g, 2, none⟩ (.pointer (some ⟨b, 0, none⟩))) := (setCell_but w2 ⟨g, 4, none⟩ _).trans (setCell_but _ ⟨g, 2, none⟩ _)
  have hgn : g ∉ gs := fun hm => by have := hgs g hm; omega
  have h4 := h3.turn (g := g) hg2 hset (fun _ e => .inl e) (b := false) (l := true) ⟨some ⟨b, 0, none⟩, 0, by
    have q := setCell_block (setCell_block hgo 4 (.int .i64 0)) 2 (.pointer (some ⟨b, 0, none⟩))
    exact q, (fun e => by cases e), fun _ => ⟨b, gs, rfl, VRep.but hv hset (fun i hi e => hgn (e ▸ hi)), fun i hi => by rw [Tags.recs, if_pos hi]⟩⟩
  rw [PS.put_put] at h4
  refine ⟨s2, τ'.recs gs, hRs, h4, ?_, fun i hi => ?_⟩
  · have hS : ∀ b, (τ b).isSome = true ∧ (∀ i, τ b = some (.ghost i) → (s.put id true false).busy i = false) → (τ b).isSome = true ∧ ∀ i, τ b = some (.ghost i) → s.busy i = false := fun b e => ⟨e.1, fun i hi => by
      have h1 := e.2 i hi
      unfold PS.put at h1
      by_cases hii : i = id
      · rw [hii]; exact hid
      · simpa [hii] using h1⟩
    have hgS : (τ g).isSome = true ∧ ∀ i, τ g = some (.ghost i) → s.busy i = false := ⟨tagged hgt, fun i e => by rw [hgt] at e; cases e; exact hid⟩
    have b1 : But (fun b => (τ b).isSome = true ∧ ∀ i, τ b = some (.ghost i) → s.busy i = false) w1 W := hb0.mono (fun i _ e => by rw [show i = g from e]; exact hgS)
    have b2 := b1.then hev.but (fun i _ e => hS i e)
    have b3 := b2.then hb2 (fun i hi e => by
      rcases e with e | e
      · rw [e]; exact hgS
      · omega)
    exact b3.then hset (fun i _ e => by rw [show i = g from e]; exact hgS)
  · rw [Tags.recs, if_neg (fun hm => by have := hgs i hm; omega)]
    exact hev.old i (by omega)
/-- The pool counts a fetch. -/
theorem PoolAt.count (h : PoolAt w c τ s) (n : Int) : PoolAt (w.setCell ⟨c.p, 4, none⟩ (.int .i64 n)) c τ { s with n := n } ∧ ∀ B, Ev B w (w.setCell ⟨c.p, 4, none⟩ (.int .i64 n)) τ τ := by
  have hset := setCell_but w ⟨c.p, 4, none⟩ (.int .i64 n)
  obtain ⟨sv, h1, h2⟩ := h.blk
  refine ⟨h.set (L := s.L) (n := n) (hset.mono (fun _ _ e => .inl e)) (fun _ _ e => e) (fun b t e => Nat.lt_of_lt_of_le (h.lt b t e) hset.size) h.held ⟨sv, setCell_block h1 4 _, h2.but hset (fun b e e2 => by rw [show b = c.p from e2, h.pt] at e; cases e)⟩, fun B => Ev.of hset (fun b _ e => ⟨.pool, by rw [show b = c.p from e, h.pt], fun i e => by cases e⟩)⟩
set_option maxRecDepth 100000 in
set_option maxHeartbeats 1600000 in
/-- load, of a ghost of a pool that is not loaded. -/
theorem load_pool (h : PoolAt w c τ s) (hg : s.gt id = some g) (hid : s.busy id = false) (hl : s.ld id = false) (hF : ∀ (args : Array Value) (W : World), (callFunc c.F args).run Try.prog W = .ok (.enter c.F args) W)
    (hf : FetchP c id (s.begin id) R) (hn : 0 ≤ s.n ∧ s.n ≤ 1000000000) (hR : ∀ s2, R s2 → s2.gt id = some g ∧ s2.L.length ≤ 900 ∧ ∀ i ∈ s2.L, s.busy i = false) (hroom : 1 ≤ c.room) :
    Calls Try.prog 78 #[.pointer (some ⟨g, 0, none⟩)] w fun e w' => e = .returned (.int .i64 0) ∧ ∃ s2 τ', R s2 ∧ PoolAt w' c τ' ((s2.loaded id).fit c.room) ∧ Ev s.busy w w' τ τ' := by
  obtain ⟨hgt, r, last, hgo, hr0, -⟩ := h.ghost id g hg
  obtain rfl := hr0 hl
  rw [hid] at hgo
  obtain ⟨hc1, hcev⟩ := h.count (s.n + 1)
  have hpg : ¬ g = c.p := fun e => by rw [e, h.pt] at hgt; cases hgt
  have hgo1 : (w.setCell ⟨c.p, 4, none⟩ (.int .i64 (s.n + 1))).heap[g]? = some (ghostObj id c.fv none false last (some ⟨c.p, 0, none⟩)) := (Below.heap_setCell _ _ _ _ hpg).trans hgo
  have hfetch := Lib.hid (fetched_any c.F c.caps (w.setCell ⟨c.p, 4, none⟩ (.int .i64 (s.n + 1))) g id none last (some ⟨c.p, 0, none⟩) hgo1 hF
    (fun b => (τ b).isSome = true ∧ ∀ i, τ b = some (.ghost i) → (({ s with n := s.n + 1 } : PS).put id true false).busy i = false) (fun e => by have := e.2 id hgt; simp [PS.put] at this) (.gives recA) recA_fine _ (pool_fetching hc1 hg hgo1 hf))
  obtain ⟨sv, hb1, -⟩ := h.blk
  obtain ⟨-, -, -, -, c4, -, hfz⟩ := poolCells hb1
  have hfz4 := hfz 4
  obtain ⟨g0, g1, g2, g3, g4, g5, hlt, -⟩ := ghostCells hgo
  have hfin0 := Lib.hid (And.intro h (And.intro hc1 (hcev s.busy)))
  have hw0 := recA_why
  have hgH := Lib.hid hg
  have hRH := Lib.hid hR
  have hidH := Lib.hid hid
  have hwrap : IntKind.i64.wrap (s.n + 1) = s.n + 1 := IntWalk.i64_in _ (by omega)
  have hwrap2 : wrap64 (s.n + 1) = s.n + 1 := by unfold wrap64; omega
  clear h hg hid hl hF hf hR hgt hgo hr0 hc1 hcev hgo1 hb1 hfz
  go_enter Try.func78, Try.ntmps78
  go_wp2_with fail
  refine hfetch.out.mono ?_
  rintro e w2 ⟨x, W, W', rfl, hb0, -, hRR, hb2, hgb, hhas⟩
  obtain ⟨b, gs, rfl, hva, hnd, hgs⟩ := hhas recA_ok
  obtain ⟨-, -, q2, q3, q4, q5, hlt1, hz⟩ := ghostCells hgb
  have z2 := hz 2
  have z4 := hz 4
  obtain ⟨s2, τ3, hRs, hp3, hev3⟩ := pool_fetched hfin0.out.2.1 hgH.out (fun s2 h => (hRH.out s2 h).1) hb0 hRR hb2 hgb hva hgs hidH.out
  have hsz := (hRH.out s2 hRs).2.1
  have hg2H := Lib.hid (hRH.out s2 hRs).1
  have hbusyH := Lib.hid (hRH.out s2 hRs).2.2
  have hRsH := Lib.hid hRs
  have hused := Lib.hid (used_pool hp3 hg2H.out (by show s2.L.length ≤ 1000; omega))
  have hev3H := Lib.hid hev3
  clear hb0 hRR hRs hb2 hgb hhas hva hnd hgs hz hp3 hev3 g0 g1 g2 g3 g4 g5 c4 hfz4
  rw [hw0]
  go_wp2_with fail
  refine hused.out.mono ?_
  rintro e w3 ⟨rfl, τ4, hp4, hev4⟩
  have hlen : (s2.L.filter (· != id) ++ [id]).length ≤ 1000 := by
    have := List.length_filter_le (· != id) s2.L
    simp
    omega
  have hfits := Lib.hid (fits_pool hp4 (.pointer (some ⟨g, 0, none⟩)) rfl hlen)
  obtain ⟨-, r4, last4, hgo4, -, -⟩ := hp4.ghost id g hg2H.out
  obtain ⟨-, -, -, -, -, q5', -, -⟩ := ghostCells hgo4
  have hev4H := Lib.hid hev4
  clear hp4 hev4 hgo4 q2 q3 q4 q5 z2 z4
  go_wp2_with fail
  refine hfits.out.mono ?_
  rintro e w4 ⟨rfl, hp5, hev5⟩
  have hfin := Lib.hid (And.intro hp5 hev5)
  clear hp5 hev5 q5'
  go_wp2_with fail
  go_ret
  refine ⟨rfl, s2, τ4, hRsH.out, hfin.out.1, ((hfin0.out.2.2.trans hev3H.out).trans (hev4H.out s.busy)).trans (hfin.out.2 s.busy (fun i hi hr => ?_))⟩
  have hL : (s2.L.filter (· != id) ++ [id]).head? = some i := hi
  cases hf : s2.L.filter (· != id) with
  | nil => rw [hf] at hL; simp at hL; rw [← hL]; exact hidH.out
  | cons j l =>
    rw [hf] at hL
    simp at hL
    have hj : j ∈ s2.L.filter (· != id) := by rw [hf]; exact List.mem_cons_self
    rw [← hL]
    exact hbusyH.out j (List.mem_filter.1 hj).1
theorem fit_gt (s : PS) (room : Nat) : (s.fit room).gt = s.gt ∧ (s.fit room).busy = s.busy ∧ (s.fit room).n = s.n ∧ (s.fit room).N = s.N := by
  unfold PS.fit
  split
  · exact ⟨rfl, rfl, rfl, rfl⟩
  · split <;> exact ⟨rfl, rfl, rfl, rfl⟩
theorem loaded_ld (s : PS) (id : Int) {room : Nat} (hr : 1 ≤ room) : ((s.loaded id).fit room).ld id = true := by
  have h0 : (s.loaded id).ld id = true := by simp [PS.loaded, PS.put]
  unfold PS.fit
  split
  · exact h0
  · rename_i j L hL
    split
    · rename_i hlt
      have hj : j ≠ id := by
        have hL' : s.L.filter (· != id) ++ [id] = j :: L := hL
        cases hf : s.L.filter (· != id) with
        | nil => rw [hf] at hL'; simp at hL'; rw [hL'.2] at hlt; simp at hlt; omega
        | cons k l =>
          rw [hf] at hL'
          simp at hL'
          have hk : k ∈ s.L.filter (· != id) := by rw [hf]; exact List.mem_cons_self
          rw [← hL'.1]
          simpa using (List.mem_filter.1 hk).2
      show (if id = j then false else _) = true
      rw [if_neg (fun e => hj e.symm)]
      exact h0
    · exact h0
/-- What asking leaves. -/
def Asked (c : PoolC) (τ : Tags) (B : Int → Bool) (w : World) (s' : PS) (w' : World) : Prop := ∃ τ', PoolAt w' c τ' s' ∧ Ev B w w' τ τ'
set_option maxRecDepth 100000 in
theorem asked_load_pool (h : PoolAt w c τ s) (hg : s.gt id = some g) (hid : s.busy id = false) (hl : s.ld id = false) (hF : ∀ (args : Array Value) (W : World), (callFunc c.F args).run Try.prog W = .ok (.enter c.F args) W)
    (hf : FetchP c id (s.begin id) R) (hn : 0 ≤ s.n ∧ s.n ≤ 1000000000) (hR : ∀ s2, R s2 → s2.gt id = some g ∧ s2.L.length ≤ 900 ∧ ∀ i ∈ s2.L, s.busy i = false) (hroom : 1 ≤ c.room) :
    Calls Try.prog 74 #[.pointer (some ⟨g, 0, none⟩)] w (AskHas ⟨#[97]⟩ 1 [] (fun w' => ∃ s2, R s2 ∧ Asked c τ s.busy w ((s2.loaded id).fit c.room) w')) := by
  have hload := Lib.hid (load_pool h hg hid hl hF hf hn hR hroom)
  obtain ⟨hgt, r, last, hgo, hr0, -⟩ := h.ghost id g hg
  obtain rfl := hr0 hl
  rw [hid] at hgo
  obtain ⟨g0, g1, g2, g3, g4, g5, hlt, -⟩ := ghostCells hgo
  have hRH := Lib.hid hR
  clear h hg hid hl hF hf hR hgt hgo hr0
  go_enter Try.func74, Try.ntmps74
  go_wp2_with fail
  refine hload.out.mono ?_
  rintro e w1 ⟨rfl, s2, τ', hRs, hp, hev⟩
  have hRsH := Lib.hid hRs
  obtain ⟨-, r1, last1, hgo1, -, hr1⟩ := hp.ghost id g (by rw [(fit_gt _ _).1]; exact (hRH.out s2 hRs).1)
  obtain ⟨b, fs, rfl, hv, -⟩ := hr1 (loaded_ld s2 id hroom)
  obtain ⟨-, -, q2, -, -, -, -, -⟩ := ghostCells hgo1
  have hfin := Lib.hid (And.intro hp (And.intro hev hv))
  clear hp hev hv hgo1 hr1 g0 g1 g2 g3 g4 g5 hRs
  go_wp2_with fail
  go_ret
  exact ⟨b, fs, rfl, ⟨s2, hRsH.out, τ', hfin.out.1, hfin.out.2.1⟩, hfin.out.2.2⟩
set_option maxRecDepth 100000 in
theorem asked_held_pool (h : PoolAt w c τ s) (hg : s.gt id = some g) (hl : s.ld id = true) (hsz : s.L.length ≤ 900) :
    Calls Try.prog 74 #[.pointer (some ⟨g, 0, none⟩)] w (AskHas ⟨#[97]⟩ 1 [] (Asked c τ s.busy w (s.used id))) := by
  have hused := Lib.hid (used_pool h hg (by omega))
  obtain ⟨hgt, r, last, hgo, -, hr0⟩ := h.ghost id g hg
  obtain ⟨b0, fs0, rfl, -, -⟩ := hr0 hl
  obtain ⟨g0, g1, g2, g3, g4, g5, hlt, -⟩ := ghostCells hgo
  have hgH := Lib.hid hg
  have hlH := Lib.hid hl
  clear h hg hgt hgo hr0 hl
  go_enter Try.func74, Try.ntmps74
  go_wp2_with fail
  refine hused.out.mono ?_
  rintro e w1 ⟨rfl, τ', hp, hev⟩
  obtain ⟨-, r1, last1, hgo1, -, hr1⟩ := hp.ghost id g hgH.out
  obtain ⟨b, fs, rfl, hv, -⟩ := hr1 hlH.out
  obtain ⟨-, -, q2, -, -, -, -, -⟩ := ghostCells hgo1
  have hfin := Lib.hid (And.intro hp (And.intro hev hv))
  clear hp hev hv hgo1 hr1 g0 g1 g2 g3 g4 g5
  go_wp2_with fail
  go_ret
  exact ⟨b, fs, rfl, ⟨τ', hfin.out.1, hfin.out.2.1 s.busy⟩, hfin.out.2.2⟩
/-- Class. -/
theorem Class_load_pool (h : PoolAt w c τ s) (hg : s.gt id = some g) (hid : s.busy id = false) (hl : s.ld id = false) (hF : ∀ (args : Array Value) (W : World), (callFunc c.F args).run Try.prog W = .ok (.enter c.F args) W)
    (hf : FetchP c id (s.begin id) R) (hn : 0 ≤ s.n ∧ s.n ≤ 1000000000) (hR : ∀ s2, R s2 → s2.gt id = some g ∧ s2.L.length ≤ 900 ∧ ∀ i ∈ s2.L, s.busy i = false) (hroom : 1 ≤ c.room) :
    Calls Try.prog 24 #[.pointer (some ⟨g, 0, none⟩)] w fun e w' => e = .returned (.string ⟨#[97]⟩) ∧ ∃ s2, R s2 ∧ Asked c τ s.busy w ((s2.loaded id).fit c.room) w' :=
  Class_has w g ⟨#[97]⟩ 1 [] _ (asked_load_pool h hg hid hl hF hf hn hR hroom)
theorem Class_held_pool (h : PoolAt w c τ s) (hg : s.gt id = some g) (hl : s.ld id = true) (hsz : s.L.length ≤ 900) :
    Calls Try.prog 24 #[.pointer (some ⟨g, 0, none⟩)] w fun e w' => e = .returned (.string ⟨#[97]⟩) ∧ Asked c τ s.busy w (s.used id) w' :=
  Class_has w g ⟨#[97]⟩ 1 [] _ (asked_held_pool h hg hl hsz)
end
end Go.Proofs.Ytpcbdjfonmohaaa
