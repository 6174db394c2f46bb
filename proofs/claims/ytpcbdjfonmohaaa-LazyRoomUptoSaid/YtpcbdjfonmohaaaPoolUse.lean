/- Pools: gone, used, fits. -/
import Derived.Test.YtpcbdjfonmohaaaPool
import Derived.BigQuiet
import Derived.Deep.QuietTactic
namespace Go.Proofs.Ytpcbdjfonmohaaa
open Go.RowKit
set_option linter.unusedVariables false
set_option linter.unusedSimpArgs false

/-- An append whose run is known, for the walk. -/
theorem wpList_append_run {P : Program} (w : World) {ops : Array Oper} {rest : List Oper} {o : Oper} {a : Act} {Q : Exit → Act → World → Prop}
    (hg : o.guard = none) (s x : Operand) (t u : TypeId) (hop : o.op = Op.call { callee := Callee.builtin Builtin.append, args := #[s, x], argTypes := #[t, u] })
    {sv xv v' : Value} {w' : World} (hs : a.eval s = sv) (hx : a.eval x = xv) (hrun : (Builtin.append_ #[t, u] o.type #[sv, xv]).run P w = .ok v' w') (h : wpList P ops Q rest (a.put o.dst v') w') : wpList P ops Q (o :: rest) a w := by
  refine wpList_plain hg fun K hK' => ?_
  unfold Oper.wp
  simp [execOp, hop, resolve, invoke, builtin, hs, hx, hrun, Result.andThen]
  exact hK' _ _ h
section
variable {w w' : World} {c : PoolC} {τ τ' : Tags} {s : PS}
theorem PoolAt.filter (h : PoolAt w c τ s) {id : Int} {g : Nat} (hg : s.gt id = some g) : (s.L.map s.g).filter (· != g) = (s.L.filter (· != id)).map s.g := by
  rw [List.filter_map]
  congr 1
  refine List.filter_congr (fun i hi => ?_)
  obtain ⟨k, hk⟩ := Option.isSome_iff_exists.1 (h.held i hi)
  have e : s.g i = k := by simp [PS.g, hk]
  show (s.g i != g) = (i != id)
  rw [e, Bool.eq_iff_iff]
  simp only [bne_iff_ne]
  exact ⟨fun hne hid => hne (by subst hid; rw [hg] at hk; cases hk; rfl), fun hid e => hid (h.inj hk (e ▸ hg))⟩
theorem PoolAt.isBlk (h : PoolAt w c τ s) {id : Int} {g : Nat} (hg : s.gt id = some g) : IsBlk w g ∧ ¬ τ g = some .held := by
  obtain ⟨h1, r, last, h2, -⟩ := h.ghost id g hg
  exact ⟨⟨_, _, h2⟩, by rw [h1]; simp⟩
theorem PoolAt.heldBlk (h : PoolAt w c τ s) : ∀ b ∈ s.L.map s.g, IsBlk w b ∧ ¬ τ b = some .held := fun b hb => by
  obtain ⟨i, hi, rfl⟩ := List.mem_map.1 hb
  obtain ⟨k, hk⟩ := Option.isSome_iff_exists.1 (h.held i hi)
  have e : s.g i = k := by simp [PS.g, hk]
  rw [e]
  exact h.isBlk hk
set_option maxRecDepth 100000 in
/-- gone: a ghost is taken out of those that are held. -/
theorem gone_pool (h : PoolAt w c τ s) {id : Int} {g : Nat} (hg : s.gt id = some g) (hsz : s.L.length ≤ 1000) :
    Calls Try.prog 109 #[.pointer (some ⟨c.p, 0, none⟩), .pointer (some ⟨g, 0, none⟩)] w fun e w' => e = .returned (.tuple #[]) ∧ PoolAt w' c τ { s with L := s.L.filter (· != id) } ∧ But (fun b => b = c.p ∨ τ b = some .held) w w' := by
  obtain ⟨sv, hb1, hheld⟩ := h.blk
  have hplt := h.lt _ _ h.pt
  have hal : But (fun _ => False) w (w.alloc (.cells #[ptrTo g] 40)) := (But.refl _ w).alloc _
  have hdel := Lib.hid (del_said (w := w.alloc (.cells #[ptrTo g] 40)) (B := w.heap.size) (g := g) (hheld.but hal (fun _ _ f => f)) ((held_cells (heap_alloc_new w _) 0).trans rfl) (fun e => absurd (h.lt _ _ e) (by omega))
    (fun b hb => ⟨(h.heldBlk b hb).1.but hal (fun f => f), (h.heldBlk b hb).2⟩) ((h.isBlk hg).1.but hal (fun f => f)) (h.isBlk hg).2 (by simp; omega))
  have hsv := hheld.one
  obtain ⟨-, -, -, c3, -, -, hfz⟩ := poolCells hb1
  have hfz3 := hfz 3
  have hH := Lib.hid h
  have hgH := Lib.hid hg
  have hb1H := Lib.hid hb1
  clear h hg hal hheld hb1 hfz
  unfold ptrTo at hdel
  go_enter Try.func109, Try.ntmps109
  go_wp2_with fail
  refine hdel.out.mono ?_
  rintro e w2 ⟨sv', rfl, hh2, hbut2, hsz2⟩
  obtain ⟨a, n, cap, rfl, hn⟩ := hh2.form
  have hnp : ¬ τ c.p = some .held := by rw [hH.out.pt]; simp
  have hb2 : w2.heap[c.p]? = some (poolObj c.room c.fv c.mb sv s.n) := (hbut2.block c.p (by simp; omega) hnp).trans ((Below.heap_alloc w _ c.p hplt).trans hb1H.out)
  obtain ⟨-, -, -, q3, -, -, hz⟩ := poolCells hb2
  have hz3 := hz 3
  have hfin := Lib.hid (And.intro hh2 (And.intro hbut2 (And.intro hb2 hsz2)))
  clear hh2 hbut2 hb2 hz hn c3 hsz2
  go_wp2_with fail
  go_end0
  obtain ⟨hh2, hbut2, hb2, hsz2⟩ := hfin.out
  have h := hH.out
  have hbut : But (fun b => b = c.p ∨ τ b = some .held) w (w2.setCell ⟨c.p, 3, none⟩ (.slice a n cap)) :=
    ((((But.refl _ w).alloc _).trans (hbut2.mono (fun i _ e => .inr e)))).setCell (p := ⟨c.p, 3, none⟩) (fun _ => .inl rfl) _
  refine ⟨rfl, h.set hbut (fun _ _ e => e) (fun b t e => Nat.lt_of_lt_of_le (h.lt b t e) hbut.size) (fun i hi => h.held i (List.mem_filter.1 hi).1) ⟨_, setCell_block hb2 3 _, ?_⟩, hbut⟩
  rw [← h.filter hgH.out]
  exact hh2.but ((But.refl (· = c.p) w2).setCell (p := ⟨c.p, 3, none⟩) (fun _ => rfl) _) (fun b e e2 => by rw [e2, h.pt] at e; cases e)
/-- New blocks are called those that are held. -/
def Tags.more (τ : Tags) (lo hi : Nat) : Tags := fun i => if lo ≤ i ∧ i < hi then some .held else τ i
theorem Tags.more_le {lo hi : Nat} (h : ∀ b t, τ b = some t → b < lo) : ∀ b t, τ b = some t → τ.more lo hi b = some t := fun b t e => by
  have := h b t e
  rw [Tags.more, if_neg (by omega), e]
theorem Tags.more_lt {lo hi : Nat} (h : ∀ b t, τ b = some t → b < lo) (hl : lo ≤ hi) : ∀ b t, τ.more lo hi b = some t → b < hi := fun b t e => by
  unfold Tags.more at e
  split at e
  · omega
  · have := h b t e; omega
theorem Tags.more_old {lo hi : Nat} : ∀ b, b < lo → τ.more lo hi b = τ b := fun b h => by rw [Tags.more, if_neg (by omega)]
/-- What an operation of a pool leaves: blocks of the pool turn, but for the ghosts of B; and new ones come to it. -/
structure Ev (B : Int → Bool) (w w' : World) (τ τ' : Tags) : Prop where
  but : But (fun b => (τ b).isSome = true ∧ ∀ i, τ b = some (.ghost i) → B i = false) w w'
  old : ∀ b, b < w.heap.size → τ' b = τ b
theorem Ev.refl (B : Int → Bool) (w : World) (τ : Tags) : Ev B w w τ τ := ⟨But.refl _ _, fun _ _ => rfl⟩
theorem Ev.trans {B : Int → Bool} {a b d : World} {t1 t2 t3 : Tags} (h : Ev B a b t1 t2) (k : Ev B b d t2 t3) : Ev B a d t1 t3 :=
  ⟨h.but.then k.but (fun i hi e => by rw [h.old i hi] at e; exact e), fun i hi => (k.old i (Nat.lt_of_lt_of_le hi h.but.size)).trans (h.old i hi)⟩
theorem Ev.of {B : Int → Bool} {S : Nat → Prop} (h : But S w w') (hs : ∀ b, b < w.heap.size → S b → ∃ t, τ b = some t ∧ ∀ i, t = .ghost i → B i = false) : Ev B w w' τ τ := ⟨h.mono (fun b hb e => by
  obtain ⟨t, e1, e2⟩ := hs b hb e
  exact ⟨by rw [e1]; rfl, fun i e3 => e2 i (by rw [e1] at e3; exact Option.some.inj e3)⟩), fun _ _ => rfl⟩
theorem Ev.below {B : Int → Bool} {N : Nat} (h : Ev B w w' τ τ') (hB : N ≤ w.heap.size) (ht : ∀ b t, τ b = some t → N ≤ b) : Below N w w' :=
  h.but.below' hB (fun i hi e => by
    obtain ⟨t, e⟩ := Option.isSome_iff_exists.1 e.1
    have := ht i t e
    omega)
set_option maxRecDepth 100000 in
/-- used: a ghost is put behind all. -/
theorem used_pool (h : PoolAt w c τ s) {id : Int} {g : Nat} (hg : s.gt id = some g) (hsz : s.L.length ≤ 1000) :
    Calls Try.prog 105 #[.pointer (some ⟨c.p, 0, none⟩), .pointer (some ⟨g, 0, none⟩)] w fun e w' => e = .returned (.tuple #[]) ∧ ∃ τ', PoolAt w' c τ' { s with L := s.L.filter (· != id) ++ [id] } ∧ ∀ B, Ev B w w' τ τ' := by
  have hgone := Lib.hid (gone_pool h hg hsz)
  have hH := Lib.hid h
  have hgH := Lib.hid hg
  clear h hg
  go_enter Try.func105, Try.ntmps105
  go_wp2_with fail
  refine hgone.out.mono ?_
  rintro e w1 ⟨rfl, h1, hbut1⟩
  have hplt1 := h1.lt _ _ h1.pt
  obtain ⟨sv, hb1, hheld⟩ := h1.blk
  have hal : But (fun _ => False) w1 (w1.alloc (.cells #[ptrTo g] 40)) := (But.refl _ w1).alloc _
  obtain ⟨a, n, cap, w2, hrun, hh2, hbut2⟩ := held_append (hheld.but hal (fun _ _ f => f)) (nb := w1.heap.size) ((held_cells (heap_alloc_new w1 _) 0).trans rfl) (by
    have := List.length_filter_le (· != id) s.L
    simp
    omega) 143
  obtain ⟨-, -, -, c3, -, -, hfz1⟩ := poolCells hb1
  have hnp : ¬ τ c.p = some .held := by rw [hH.out.pt]; simp
  have hb2 : w2.heap[c.p]? = some (poolObj c.room c.fv c.mb sv s.n) := (hbut2.block c.p (by simp; omega) hnp).trans ((Below.heap_alloc w1 _ c.p hplt1).trans hb1)
  obtain ⟨-, -, -, q3, -, -, hfz⟩ := poolCells hb2
  have hfz3 := hfz 3
  have hsv := hheld.one
  have hfin := Lib.hid (And.intro h1 (And.intro hbut1 (And.intro hh2 (And.intro hbut2 hb2))))
  clear h1 hbut1 hb1 hheld hal hh2 hbut2 hb2 hfz hfz1
  unfold ptrTo at hrun
  have hrunH := Lib.hid hrun
  clear hrun
  go_wp2_with (at_builtin; refine wpList_append_run _ rfl _ _ _ _ rfl rfl rfl hrunH.out ?_)
  go_end0
  obtain ⟨h1, hbut1, hh2, hbut2, hb2⟩ := hfin.out
  have h := hH.out
  have hbut2' : But (fun b => b = c.p ∨ τ b = some .held) w1 (w2.setCell ⟨c.p, 3, none⟩ (.slice a n cap)) :=
    ((((But.refl _ w1).alloc _).trans (hbut2.mono (fun i _ e => .inr e)))).setCell (p := ⟨c.p, 3, none⟩) (fun _ => .inl rfl) _
  have hsz2 : (w2.setCell ⟨c.p, 3, none⟩ (.slice a n cap)).heap.size = w2.heap.size := size_setCell _ _ _
  refine ⟨rfl, τ.more w1.heap.size w2.heap.size, h1.set hbut2' (Tags.more_le h1.lt) (fun b t e => by rw [hsz2]; exact Tags.more_lt h1.lt (by have := hbut2'.size; omega) b t e) (fun i hi => ?_) ⟨_, setCell_block hb2 3 _, ?_⟩, ?_⟩
  · rcases List.mem_append.1 hi with hi | hi
    · exact h.held i (List.mem_filter.1 hi).1
    · obtain rfl : i = id := by simpa using hi
      show (s.gt i).isSome = true
      rw [hgH.out]; rfl
  · have e : (s.L.filter (· != id) ++ [id]).map s.g = (s.L.filter (· != id)).map s.g ++ [g] := by
      rw [List.map_append]
      have : s.g id = g := by simp [PS.g, hgH.out]
      simp [this]
    show HeldAt _ _ _ ((s.L.filter (· != id) ++ [id]).map s.g)
    rw [e]
    refine (hh2.mono (fun b e => ?_)).but ((But.refl (· = c.p) w2).setCell (p := ⟨c.p, 3, none⟩) (fun _ => rfl) _) (fun b e e2 => ?_)
    · exact (show Tags.more τ w1.heap.size w2.heap.size b = some .held from by
        rcases e with e | ⟨e1, e2⟩
        · exact Tags.more_le h1.lt b _ e
        · rw [Tags.more, if_pos ⟨by simp at e1; omega, e2⟩])
    · have e1 : Tags.more τ w1.heap.size w2.heap.size b = some .held := e
      rw [e2, Tags.more_old _ hplt1, h.pt] at e1
      cases e1
  · intro B
    have hS : ∀ b, (b = c.p ∨ τ b = some .held) → ∃ t, τ b = some t ∧ ∀ i, t = .ghost i → B i = false := fun b e => by
      rcases e with e | e
      · exact ⟨.pool, by rw [e, h.pt], fun i e => by cases e⟩
      · exact ⟨.held, e, fun i e => by cases e⟩
    have hE1 : Ev B w w1 τ τ := Ev.of hbut1 (fun b _ e => hS b e)
    have hE2 : Ev B w1 (w2.setCell ⟨c.p, 3, none⟩ (.slice a n cap)) τ (τ.more w1.heap.size w2.heap.size) := ⟨(Ev.of (B := B) (τ := τ) hbut2' (fun b _ e => hS b e)).but, fun b hb => Tags.more_old b hb⟩
    exact hE1.trans hE2
theorem held_tail {O : Nat → Prop} {hb off cap n : Nat} {l : List Nat} {b : Nat} (h : HeldAt w O (.slice (some ⟨hb, off, none⟩) (n + 1) cap) (b :: l)) (hn : n = l.length) (hc : cap ≠ 1) : HeldAt w O (.slice (some ⟨hb, off + 1, none⟩) n (cap - 1)) l := by
  subst hn
  rcases h with ⟨e, -⟩ | ⟨hb', off', cap', e, h2, h3, h4, h5, h6⟩
  · cases e
  · cases e
    simp only [List.length_cons] at h2
    exact .inr ⟨hb, off + 1, cap - 1, rfl, by omega, h3, h4, fun j g hj => by rw [Nat.add_assoc, Nat.add_comm 1 j]; exact h5 (j + 1) g (by simpa using hj), fun j hj => by rw [Nat.add_assoc, Nat.add_comm 1 j]; exact h6 (j + 1) (by omega)⟩
theorem held_last {O : Nat → Prop} {hb off n : Nat} {l : List Nat} {b : Nat} (h : HeldAt w O (.slice (some ⟨hb, off, none⟩) (n + 1) 1) (b :: l)) (hn : n = l.length) : HeldAt w O (.slice (some ⟨hb, off, none⟩) n 0) l := by
  subst hn
  rcases h with ⟨e, -⟩ | ⟨hb', off', cap', e, h2, h3, h4, h5, h6⟩
  · cases e
  · cases e
    simp only [List.length_cons] at h2
    obtain rfl : l = [] := List.eq_nil_of_length_eq_zero (by omega)
    exact .inr ⟨hb, off, 0, rfl, Nat.le_refl _, h3, h4, fun j g hj => by simp at hj, fun j hj => by omega⟩
theorem tagged {b : Nat} {t : Tag} (h : τ b = some t) : (τ b).isSome = true := by rw [h]; rfl
set_option maxRecDepth 100000 in
theorem fits_not (h : PoolAt w c τ s) (hx : Value) (ho : hx.oneCell' = true) (hr : ¬ c.room < s.L.length) :
    Calls Try.prog 108 #[.pointer (some ⟨c.p, 0, none⟩), hx] w fun e w' => e = .returned (.tuple #[]) ∧ PoolAt w' c τ s ∧ ∀ B, Ev B w w' τ τ := by
  obtain ⟨sv, hb1, hheld⟩ := h.blk
  obtain ⟨a, n, cap, rfl, hn⟩ := hheld.form
  obtain ⟨c0, -, -, c3, -, -, -⟩ := poolCells hb1
  have hH := Lib.hid h
  have hlt : decide ((c.room : Int) < (n : Int)) = false := by simp only [decide_eq_false_iff_not]; simp at hn; omega
  have hlt2 : decide (c.room < n) = false := by simp only [decide_eq_false_iff_not]; simp at hn; omega
  clear h hb1 hheld hn hr
  go_enter Try.func108, Try.ntmps108
  go_wp2_with fail
  go_quiet (fail)
  go_wp2
  go_end0
  have hbut : But (fun _ => False) w (w.drewN nq) := (But.refl _ w).drewN _
  exact ⟨rfl, hH.out.but hbut (fun _ _ f => f), fun B => Ev.of hbut (fun _ _ f => f.elim)⟩
/-- One is let go. -/
def PS.drop (s : PS) (id : Int) (L : List Int) : PS := { s with ld := fun i => if i = id then false else s.ld i, L := L }
theorem PoolAt.drop (h : PoolAt w c τ s) {id : Int} {L : List Int} {g : Nat} (hL : s.L = id :: L) (hg : s.gt id = some g) {sv : Value} {w2 : World} (hw2 : w2 = ((w'.setCell ⟨g, 2, none⟩ (.pointer none)).setCell ⟨c.p, 3, none⟩ sv)) (hbut : But (fun _ => False) w w')
    (hb : ∃ sv0, w.heap[c.p]? = some (poolObj c.room c.fv c.mb sv0 s.n)) (hh : HeldAt w (fun b => τ b = some .held) sv (L.map s.g)) : PoolAt w2 c τ (s.drop id L) ∧ But (fun b => b = g ∨ b = c.p) w w2 := by
  have h' := h.but hbut (fun _ _ f => f)
  obtain ⟨hgt, r, last, hgo, -, -⟩ := h'.ghost id g hg
  have hset : But (· = g) w' (w'.setCell ⟨g, 2, none⟩ (.pointer none)) := (But.refl (· = g) w').setCell (p := ⟨g, 2, none⟩) (fun _ => rfl) _
  have ht := h'.turn hg hset (fun _ e => .inl e) (b := s.busy id) (l := false) ⟨none, last, setCell_block hgo 2 _, fun _ => rfl, fun e => by cases e⟩
  have hpg : c.p ≠ g := fun e => by rw [← e, h.pt] at hgt; cases hgt
  obtain ⟨sv0, hb0⟩ := hb
  have hb1 : (w'.setCell ⟨g, 2, none⟩ (.pointer none)).heap[c.p]? = some (poolObj c.room c.fv c.mb sv0 s.n) := (hset.block c.p (h'.lt _ _ h.pt) hpg).trans ((hbut.block c.p (h.lt _ _ h.pt) (fun f => f)).trans hb0)
  have hset2 : But (· = c.p) (w'.setCell ⟨g, 2, none⟩ (.pointer none)) ((w'.setCell ⟨g, 2, none⟩ (.pointer none)).setCell ⟨c.p, 3, none⟩ sv) := (But.refl (· = c.p) _).setCell (p := ⟨c.p, 3, none⟩) (fun _ => rfl) _
  subst hw2
  have e : s.drop id L = { (s.put id (s.busy id) false) with L := L, n := s.n } := by
    unfold PS.drop PS.put
    congr 1
    funext i
    by_cases hi : i = id
    · subst hi; simp
    · simp [hi]
  refine ⟨?_, ?_⟩
  · rw [e]
    refine ht.set (hset2.mono (fun _ _ e => .inl e)) (fun _ _ e => e) (fun b t e => Nat.lt_of_lt_of_le (ht.lt b t e) hset2.size) (fun i hi => h.held i (by rw [hL]; exact List.mem_cons_of_mem _ hi)) ⟨sv, setCell_block hb1 3 _, ?_⟩
    exact ((hh.but hbut (fun _ _ f => f)).but hset (fun b e e2 => by rw [e2, hgt] at e; cases e)).but hset2 (fun b e e2 => by rw [e2, h.pt] at e; cases e)
  · exact ((hbut.mono (fun _ _ f => f.elim)).trans (hset.mono (fun i _ e => .inl e))).trans (hset2.mono (fun i _ e => .inr e))
theorem drop_tag (h : PoolAt w c τ s) {id : Int} {g : Nat} (hg : s.gt id = some g) {B : Int → Bool} (hB : B id = false) {b : Nat} (e : b = g ∨ b = c.p) : ∃ t, τ b = some t ∧ ∀ i, t = .ghost i → B i = false := by
  rcases e with e | e
  · exact ⟨.ghost id, by rw [e, (h.ghost id g hg).1], fun i e => by cases e; exact hB⟩
  · exact ⟨.pool, by rw [e, h.pt], fun i e => by cases e⟩
set_option maxRecDepth 100000 in
set_option maxHeartbeats 800000 in
theorem fits_drop (h : PoolAt w c τ s) (hx : Value) (ho : hx.oneCell' = true) {id : Int} {L : List Int} (hL : s.L = id :: L) (hr : c.room < s.L.length) (hsz : s.L.length ≤ 1000) :
    Calls Try.prog 108 #[.pointer (some ⟨c.p, 0, none⟩), hx] w fun e w' => e = .returned (.tuple #[]) ∧ PoolAt w' c τ (s.drop id L) ∧ ∀ B, B id = false → Ev B w w' τ τ := by
  obtain ⟨sv, hb1, hheld⟩ := h.blk
  obtain ⟨g, hg⟩ := Option.isSome_iff_exists.1 (h.held id (by rw [hL]; exact List.mem_cons_self))
  have eg : s.g id = g := by simp [PS.g, hg]
  obtain ⟨hgt, r, last, hgo, -, -⟩ := h.ghost id g hg
  rw [hL] at hheld hr hsz
  rw [List.map_cons, eg] at hheld
  have hheldH := Lib.hid hheld
  rcases hheld with ⟨-, e⟩ | ⟨hb, off, cap, rfl, h2, h3, h4, h5, h6⟩
  · cases e
  have hcell0 := h5 0 g rfl
  rw [Nat.add_zero] at hcell0
  unfold ptrTo at hcell0
  have hlen : (g :: L.map s.g).length = L.length + 1 := by simp
  rw [hlen] at h2 hb1 hheldH
  simp only [List.length_cons] at hr hsz
  obtain ⟨c0, -, -, c3, -, -, hfz⟩ := poolCells hb1
  have hfz3 := hfz 3
  obtain ⟨-, -, g2, -, -, -, -, hgz⟩ := ghostCells hgo
  have hgz2 := hgz 2
  have hH := Lib.hid h
  have hb1H := Lib.hid hb1
  have hgH := Lib.hid hg
  have hLH := Lib.hid hL
  have hpg : ¬ (c.p = g) := fun e => by rw [← e, h.pt] at hgt; cases hgt
  have hlt : ((c.room : Int) < ((L.length + 1 : Nat) : Int)) := by omega
  have hlt1 : decide ((c.room : Int) < ((L.length + 1 : Nat) : Int)) = true := by simp only [decide_eq_true_eq]; exact hlt
  have hlt2 : decide (c.room < L.length + 1) = true := by simp only [decide_eq_true_eq]; omega
  clear h hb1 hL hg hgo hgt hfz hgz h5 h6 eg hlen
  by_cases hc1 : cap = 1
  · subst hc1
    go_enter Try.func108, Try.ntmps108
    go_wp2_with fail
    go_quiet (fail)
    go_wp2
    go_end0
    obtain ⟨hA, hB⟩ := hH.out.drop hLH.out hgH.out rfl ((But.refl _ w).drewN nq) ⟨_, hb1H.out⟩ (held_last hheldH.out (by simp))
    have hl0 : L.length = 0 := by omega
    rw [hl0] at hA hB
    exact ⟨rfl, hA, fun B hBi => Ev.of hB (fun b _ e => drop_tag hH.out hgH.out hBi e)⟩
  · have hc2 : ¬ (1 = cap) := fun e => hc1 e.symm
    go_enter Try.func108, Try.ntmps108
    go_wp2_with fail
    go_quiet (fail)
    go_wp2
    go_end0
    obtain ⟨hA, hB⟩ := hH.out.drop hLH.out hgH.out rfl ((But.refl _ w).drewN nq) ⟨_, hb1H.out⟩ (held_tail hheldH.out (by simp) hc1)
    exact ⟨rfl, hA, fun B hBi => Ev.of hB (fun b _ e => drop_tag hH.out hgH.out hBi e)⟩
/-- Who is let go. -/
def PS.fit (s : PS) (room : Nat) : PS := match s.L with
  | [] => s
  | id :: L => if room < L.length + 1 then s.drop id L else s
theorem fits_pool (h : PoolAt w c τ s) (hx : Value) (ho : hx.oneCell' = true) (hsz : s.L.length ≤ 1000) :
    Calls Try.prog 108 #[.pointer (some ⟨c.p, 0, none⟩), hx] w fun e w' => e = .returned (.tuple #[]) ∧ PoolAt w' c τ (s.fit c.room) ∧ ∀ B, (∀ id, s.L.head? = some id → c.room < s.L.length → B id = false) → Ev B w w' τ τ := by
  unfold PS.fit
  cases hL : s.L with
  | nil => exact (fits_not h hx ho (by rw [hL]; simp)).mono fun e w' ⟨h1, h2, h3⟩ => ⟨h1, h2, fun B _ => h3 B⟩
  | cons id L =>
    by_cases hr : c.room < L.length + 1
    · rw [hL] at hsz
      simp only [if_pos hr]
      exact (fits_drop h hx ho hL (by rw [hL]; exact hr) (by rw [hL]; exact hsz)).mono fun e w' ⟨h1, h2, h3⟩ => ⟨h1, h2, fun B hB => h3 B (hB id rfl hr)⟩
    · simp only [if_neg hr]
      exact (fits_not h hx ho (by rw [hL]; exact hr)).mono fun e w' ⟨h1, h2, h3⟩ => ⟨h1, h2, fun B _ => h3 B⟩
end
end Go.Proofs.Ytpcbdjfonmohaaa
