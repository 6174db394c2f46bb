/- (tenonref01.seen).part and tenonref01.Check, in the words of partF. -/
import Derived.Test.YtgmdbpplfjkjmaaRefOwnD
import Derived.Test.YtgmdbpplfjkjmaaRefParts
namespace Go.Proofs.Ytgmdbpplfjkjmaa
open Go.RowKit
set_option linter.unusedVariables false
set_option linter.unusedSimpArgs false

theorem partF_subs (v : Val) (deep : Int) (c : Cnt) : partF v deep c = stepF v deep c (fun c' => partsF (subs v) (deep + 1) c') := by
  have hd : ∀ (d : List (ByteArray × Val)) (deep : Int) (c : Cnt), dpartsF d deep c = partsF (d.map (·.2)) deep c := by
    intro d
    induction d with
    | nil => intro deep c; rw [dpartsF, List.map_nil, partsF]
    | cons p l ih => intro deep c; rw [dpartsF, dpartF_snd, List.map_cons, partsF]; split <;> simp_all
  cases v <;> rw [partF] <;> simp only [subs, hd] <;> (try rfl)
  all_goals (congr 1; funext c'; rw [partsF])
theorem partsF_zero : ∀ (l : List Val) (deep : Int) (c : Cnt), (∀ v ∈ l, ∀ deep c, (partF v deep c).1 = true → (partF v deep c).2.why = 0) → c.why = 0 → (partsF l deep c).1 = true → (partsF l deep c).2.why = 0
  | [], deep, c, _, hc => by rw [partsF]; exact fun _ => hc
  | v :: l, deep, c, h, hc => by
    rw [partsF]
    have h1 := h v (List.mem_cons_self ..) deep c
    split
    · rename_i c' e; rw [e] at h1; exact partsF_zero l deep c' (fun u hu => h u (List.mem_cons_of_mem _ hu)) (h1 rfl)
    · exact fun h => by cases h
theorem partF_zero : ∀ (v : Val) (deep : Int) (c : Cnt), (partF v deep c).1 = true → (partF v deep c).2.why = 0 :=
  val_ind fun v ih deep c => by
    rw [partF_subs]
    unfold stepF
    split
    · exact partsF_zero _ _ _ ih rfl
    · exact fun h => by cases h
/-- What was found, as seen bears it. -/
def seenCells (r : Bool × Cnt) : List Value := [.int .i64 r.2.n, .int .i64 r.2.dp, .int .i64 (bif r.1 then 0 else r.2.n), .int .i64 (bif r.1 then 0 else r.2.why)]
def RefPart (t : Term) : Prop := ∀ (cs : List Value) (w : World) (c : Cnt) (deep : Int), TRep w t cs → 0 ≤ c.n → c.n ≤ 16384 → 1 ≤ deep → deep ≤ 65 →
  Calls Try.prog 140 #[.agg #[.int .i64 c.n, .int .i64 c.dp, .int .i64 0, .int .i64 0], .agg cs.toArray, .int .i64 deep] w fun e w' => e = .returned (.agg (seenCells (partF (builtV t) deep c)).toArray) ∧ Below w.heap.size w w'
theorem seenSize : (Try.prog.info? 236).map (·.size) = some 4 := by kernel_rfl
theorem seenOne (a b c d : Int) : (#[Value.int .i64 a, .int .i64 b, .int .i64 c, .int .i64 d]).all (·.oneCell') = true := by simp [Value.oneCell']
def seenZero : Array Value := #[.int .i64 0, .int .i64 0, .int .i64 0, .int .i64 0]
/-- Where the call keeps what it has. -/
structure SeenAt (w W : World) (cs : List Value) (n dp at' why : Int) : Prop where
  below : Below w.heap.size w W
  A : W.heap[w.heap.size]? = some (.cells #[.int .i64 n, .int .i64 dp, .int .i64 at', .int .i64 why] 236 (0, 0))
  B : W.heap[w.heap.size + 1]? = some (.cells cs.toArray 31 (0, 0))
  C : W.heap[w.heap.size + 2]? = some (.cells seenZero 236 (0, 0))
section
variable {w W W' : World} {cs : List Value} {n dp at' why : Int}
theorem SeenAt.start (w : World) (cs : List Value) (n dp : Int) : SeenAt w (((w.alloc (.cells #[.int .i64 n, .int .i64 dp, .int .i64 0, .int .i64 0] 236)).alloc (.cells cs.toArray 31)).alloc (.cells seenZero 236)) cs n dp 0 0 :=
  ⟨(((Below.refl _ _).alloc (Nat.le_refl _) _).alloc (by simp) _).alloc (by simp; omega) _, (Below.heap_alloc _ _ _ (by simp; omega)).trans ((Below.heap_alloc _ _ _ (by simp)).trans (heap_alloc_new w _)), (Below.heap_alloc _ _ _ (by simp)).trans (heap_alloc_at _ (by simp)), heap_alloc_at _ (by simp)⟩
theorem SeenAt.lt (h : SeenAt w W cs n dp at' why) : w.heap.size + 2 < W.heap.size := (Array.getElem?_eq_some_iff.1 h.C).1
theorem SeenAt.keep (h : SeenAt w W cs n dp at' why) (hb : Below W.heap.size W W') : SeenAt w W' cs n dp at' why := by
  have hl := h.lt
  exact ⟨h.below.trans (below_le hb h.below.size), (hb.block _ (by omega)).trans h.A, (hb.block _ (by omega)).trans h.B, (hb.block _ (by omega)).trans h.C⟩
theorem SeenAt.set (h : SeenAt w W cs n dp at' why) {i : Nat} {m : Int} {n2 dp2 at2 why2 : Int} (he : (#[Value.int .i64 n, .int .i64 dp, .int .i64 at', .int .i64 why]).setIfInBounds i (Value.int .i64 m) = #[.int .i64 n2, .int .i64 dp2, .int .i64 at2, .int .i64 why2]) :
    SeenAt w (W.setCell ⟨w.heap.size, i, none⟩ (.int .i64 m)) cs n2 dp2 at2 why2 :=
  ⟨h.below.setCell (p := ⟨w.heap.size, i, none⟩) (Nat.le_refl _) _, by rw [setCell_block h.A i _, he], (Below.heap_setCell _ ⟨w.heap.size, i, none⟩ _ _ (by simp)).trans h.B, (Below.heap_setCell _ ⟨w.heap.size, i, none⟩ _ _ (by simp)).trans h.C⟩
theorem SeenAt.row (h : SeenAt w W cs n dp at' why) (n2 dp2 at2 why2 : Int) : SeenAt w (W.setRow w.heap.size #[.int .i64 n2, .int .i64 dp2, .int .i64 at2, .int .i64 why2]) cs n2 dp2 at2 why2 :=
  ⟨row_below h.below (Nat.le_refl _) _, setRow_heap _ _ _ _ _ _ h.A, (setRow_other _ _ _ _ (by omega)).trans h.B, (setRow_other _ _ _ _ (by omega)).trans h.C⟩
theorem SeenAt.out (h : SeenAt w W cs n dp at' why) (xs : Array Value) : (W.setRow (w.heap.size + 2) xs).heap[w.heap.size + 2]? = some (.cells xs 236 (0, 0)) ∧ Below w.heap.size w (W.setRow (w.heap.size + 2) xs) :=
  ⟨setRow_heap _ _ _ _ _ _ h.C, row_below h.below (by omega) _⟩
theorem SeenAt.cells (h : SeenAt w W cs n dp at' why) : W.cell? ⟨w.heap.size, 0, none⟩ = some (.int .i64 n) ∧ W.cell? ⟨w.heap.size, 1, none⟩ = some (.int .i64 dp) ∧ W.cell? ⟨w.heap.size, 2, none⟩ = some (.int .i64 at') ∧ W.cell? ⟨w.heap.size, 3, none⟩ = some (.int .i64 why) ∧
    W.frozen? ⟨w.heap.size, 0, none⟩ = false ∧ W.frozen? ⟨w.heap.size, 1, none⟩ = false ∧ W.frozen? ⟨w.heap.size, 2, none⟩ = false ∧ W.frozen? ⟨w.heap.size, 3, none⟩ = false :=
  ⟨block_cells h.A 0, block_cells h.A 1, block_cells h.A 2, block_cells h.A 3, frozen_of h.A 0, frozen_of h.A 1, frozen_of h.A 2, frozen_of h.A 3⟩
end
set_option maxRecDepth 100000 in
set_option maxHeartbeats 1600000 in
theorem refPart_bad (t : Term) (cs : List Value) (w : World) (c : Cnt) (deep : Int) (h : TRep w t cs) (how : ¬ ownF (builtV t) c.n deep = 0) :
    Calls Try.prog 140 #[.agg #[.int .i64 c.n, .int .i64 c.dp, .int .i64 0, .int .i64 0], .agg cs.toArray, .int .i64 deep] w fun e w' => e = .returned (.agg (seenCells (partF (builtV t) deep c)).toArray) ∧ Below w.heap.size w w' := by
  have hownH := Lib.hid (fun W (h : TRep W t cs) => refOwn_any t cs W c.n deep h)
  have hrepH := Lib.hid h
  have hone := TRep.ones h
  obtain ⟨c0, c1, c2, c3, c4, c5, c6, c7, c8, c9, c10, rfl⟩ := eleven (TRep.len h)
  rw [partF_bad how]
  generalize ownF (builtV t) c.n deep = why at *
  have hne : (why != 0) = true := by simpa using how
  have hst := Lib.hid (SeenAt.start w [c0, c1, c2, c3, c4, c5, c6, c7, c8, c9, c10] c.n c.dp)
  clear h how
  go_enter Try.func140, Try.ntmps140
  go_wp2_with fail
  refine (hownH.out _ (TRep.keep (keeps_of_below hst.out.below) _ _ hrepH.out)).mono ?_
  rintro e w1 ⟨rfl, hb1⟩
  have hs1 := hst.out.keep hb1
  have hs2 := Lib.hid ((hs1.set (i := 2) (m := c.n) (by rfl)).set (i := 3) (m := why) (by rfl))
  obtain ⟨q0, q1, q2, q3, z0, z1, z2, z3⟩ := hs1.cells
  clear hs1 hb1
  go_wp2_with (refine wpList_store_row rfl 236 (.tmp 6) _ rfl (w.heap.size + 2) #[.int .i64 c.n, .int .i64 c.dp, .int .i64 c.n, .int .i64 why] rfl rfl 236 seenZero hs2.out.C seenSize rfl (seenOne _ _ _ _) ?_)
  have hfin := hs2.out.out #[.int .i64 c.n, .int .i64 c.dp, .int .i64 c.n, .int .i64 why]
  go_wp2
  exact ⟨rfl, _, results_cell_row rfl _ _ (w.heap.size + 2) 236 _ (0, 0) _ rfl hfin.1 Try.underlying236 rfl seenSize, rfl, hfin.2⟩
theorem But.row_at {S : Nat → Prop} {w w1 : World} {g : Nat} (hb : Below w.heap.size w w1) (hg : S g) (cs : Array Value) : But S w (w1.setRow g cs) :=
  ⟨hb.os, hb.tape, hb.output, by rw [size_setRow]; exact hb.size, fun k hk hs => (setRow_other _ _ _ _ (fun e => hs (by rw [e]; exact hg))).trans (hb.block k hk)⟩
theorem only_off {w2 : World} {A B : Nat} (h : A < B) : ∀ a u, (only w2 (fun b => ¬ b = A ∨ B ≤ b)).cell? a = some u → (only w2 (fun b => ¬ b = A)).cell? a = some u := only_keep (fun b _ hs => ⟨hs.elim id (fun h => by omega), rfl⟩)
theorem kids_parts (t : Term) : ∀ u ∈ kidsT t, u ∈ t.parts := by
  obtain ⟨k, b, n, fl, tx, bs, rf, ls, es, cl, ver⟩ := t
  intro u hu
  change u ∈ (if k = 8 then ls else if k = 9 ∨ k = 10 then es.map (·.2) else []) at hu
  show u ∈ ls ++ es.map (·.2)
  split at hu
  · exact List.mem_append_left _ hu
  · split at hu
    · exact List.mem_append_right _ hu
    · cases hu
set_option maxRecDepth 100000 in
set_option maxHeartbeats 3200000 in
theorem refPart_good (t : Term) (ih : ∀ u ∈ kidsT t, RefPart u) (cs : List Value) (w : World) (c : Cnt) (deep : Int) (h : TRep w t cs) (h0 : 0 ≤ c.n) (h1 : c.n ≤ 16384) (h2 : 1 ≤ deep) (how : ownF (builtV t) c.n deep = 0) :
    Calls Try.prog 140 #[.agg #[.int .i64 c.n, .int .i64 c.dp, .int .i64 0, .int .i64 0], .agg cs.toArray, .int .i64 deep] w fun e w' => e = .returned (.agg (seenCells (partF (builtV t) deep c)).toArray) ∧ Below w.heap.size w w' := by
  have hn1 := ownF_n how
  have hd1 := ownF_deep how
  obtain ⟨m, hm⟩ : ∃ m, m = max c.dp deep := ⟨_, rfl⟩
  have hpF : partF (builtV t) deep c = partsF ((kidsT t).map builtV) (deep + 1) ⟨c.n + 1, m, 0⟩ := by rw [partF_subs, kids_subs, hm]; unfold stepF; rw [if_pos how]
  rw [hpF]
  have hownH := Lib.hid (fun W (h : TRep W t cs) => how ▸ refOwn_any t cs W c.n deep h)
  have hpartsH := Lib.hid (fun S W h => parts_any S t cs W h)
  have hrepH := Lib.hid (fun W (hb : Below w.heap.size w W) => TRep.keep (w' := only W (fun b => ¬ b = w.heap.size)) (fun a u hc => only_cell.2 ⟨fun e => by have := World.block_lt_of_cell? _ _ hc; omega, keeps_of_below hb a u hc⟩) t cs h)
  have hrep0H := Lib.hid h
  have hone := TRep.ones h
  obtain ⟨c0, c1, c2, c3, c4, c5, c6, c7, c8, c9, c10, rfl⟩ := eleven (TRep.len h)
  have hst := Lib.hid (SeenAt.start w [c0, c1, c2, c3, c4, c5, c6, c7, c8, c9, c10] c.n c.dp)
  have hwn : wrap64 (c.n + 1) = c.n + 1 := by unfold wrap64; omega
  have hwi : IntKind.i64.wrap (deep + 1) = deep + 1 := by simp [IntKind.wrap, IntKind.bits, IntKind.signed]; omega
  generalize kidsT t = l at *
  have ihH := Lib.hid ih
  obtain ⟨ob, hob⟩ : ∃ ob, ob = partsF (l.map builtV) (deep + 1) ⟨c.n + 1, m, 0⟩ := ⟨_, rfl⟩
  have hobH := Lib.hid hob
  rw [← hob]
  clear h how hpF ih hob
  by_cases hdp : c.dp < deep
  · have hmd : deep = m := by omega
    subst hmd
    clear hm
    go_enter Try.func140, Try.ntmps140
    go_wp2_with fail
    refine (hownH.out _ (TRep.keep (keeps_of_below hst.out.below) _ _ hrep0H.out)).mono ?_
    rintro e w1 ⟨rfl, hb1⟩
    have hs1 := hst.out.keep hb1
    have hs2 := (hs1.set (i := 0) (m := c.n + 1) (by rfl)).set (i := 1) (m := deep) (by rfl)
    have hs2H := Lib.hid hs2
    obtain ⟨q0, q1, q2, q3, z0, z1, z2, z3⟩ := hs1.cells
    have b0 : w1.cell? ⟨w.heap.size + 1, 0, none⟩ = some c0 := block_cells hs1.B 0
    have b1 : w1.cell? ⟨w.heap.size + 1, 1, none⟩ = some c1 := block_cells hs1.B 1
    have b2 : w1.cell? ⟨w.heap.size + 1, 2, none⟩ = some c2 := block_cells hs1.B 2
    have b3 : w1.cell? ⟨w.heap.size + 1, 3, none⟩ = some c3 := block_cells hs1.B 3
    have b4 : w1.cell? ⟨w.heap.size + 1, 4, none⟩ = some c4 := block_cells hs1.B 4
    have b5 : w1.cell? ⟨w.heap.size + 1, 5, none⟩ = some c5 := block_cells hs1.B 5
    have b6 : w1.cell? ⟨w.heap.size + 1, 6, none⟩ = some c6 := block_cells hs1.B 6
    have b7 : w1.cell? ⟨w.heap.size + 1, 7, none⟩ = some c7 := block_cells hs1.B 7
    have b8 : w1.cell? ⟨w.heap.size + 1, 8, none⟩ = some c8 := block_cells hs1.B 8
    have b9 : w1.cell? ⟨w.heap.size + 1, 9, none⟩ = some c9 := block_cells hs1.B 9
    have b10 : w1.cell? ⟨w.heap.size + 1, 10, none⟩ = some c10 := block_cells hs1.B 10
    clear hs1 hb1 hs2
    go_wp2_with fail
    refine (hpartsH.out (fun b => ¬ b = w.heap.size) _ (hrepH.out _ hs2H.out.below)).mono ?_
    rintro e w2 ⟨sv, xs, rfl, hrow, hts, hb2⟩
    have hs3H := Lib.hid (hs2H.out.keep hb2)
    have hlt2 := hs2H.out.lt
    have hrow2 := hrow.keep (only_off (by omega))
    have hdat := Lib.hid (TsRep.at l xs (TsRep.keep (only_off (by omega)) _ _ hts))
    obtain ⟨oa, cap, rfl, hcap, hmax, hsm, -, -, hform⟩ := hrow2
    unfold maxLen at hmax
    have hformH := Lib.hid hform
    clear hrow hts hb2 hform q0 q1 q2 q3 z0 z1 z2 z3 hs2H hlt2 b0 b1 b2 b3 b4 b5 b6 b7 b8 b9 b10
    go_wp2_with fail
    go_loopw [9] (fun i wr => ∃ (k : Nat) (ck : Cnt), k ≤ l.length ∧ i = .int .i64 k ∧ partsF ((l.map builtV).drop k) (deep + 1) ck = ob ∧ 0 ≤ ck.n ∧ ck.n ≤ 16384 ∧ SeenAt w wr [c0, c1, c2, c3, c4, c5, c6, c7, c8, c9, c10] ck.n ck.dp 0 0 ∧ But (· = w.heap.size) w2 wr) (fun i _ => l.length - (intOf i).toNat)
    case atStart => exact ⟨0, ⟨c.n + 1, deep, 0⟩, Nat.zero_le _, rfl, by rw [List.drop_zero]; exact hobH.out.symm, by show 0 ≤ c.n + 1; omega, by show c.n + 1 ≤ 16384; omega, hs3H.out, But.refl _ _⟩
    case round =>
      obtain ⟨k, ck, hk, rfl, heq, hn0, hnm, hs, hb⟩ := hrel
      obtain ⟨cn, cd, cw0⟩ := ck
      have heqH := Lib.hid heq
      have hsH := Lib.hid hs
      obtain ⟨q0, q1, q2, q3, -⟩ := hs.cells
      have hslt := hs.lt
      clear heq hs
      by_cases hlt : k < l.length
      · obtain ⟨b, o, rfl, hcells⟩ := hformH.out (by omega)
        obtain ⟨u, hp⟩ : ∃ u, l[k]? = some u := ⟨_, List.getElem?_eq_getElem hlt⟩
        obtain ⟨ds, ht, e1⟩ := hdat.out k u hp
        have hkw : ∀ a u, (only w2 (fun b => ¬ b = w.heap.size)).cell? a = some u → wr.cell? a = some u := fun a u hc => by
          obtain ⟨x1, x2⟩ := only_cell.1 hc
          exact (hb.cell (World.block_lt_of_cell? _ _ x2) x1).trans x2
        have hcell0 : ∀ j, j < 11 → (only w2 (fun b => ¬ b = w.heap.size)).cell? ⟨b, o + k * 11 + j, none⟩ = ds[j]? := fun j hj => by
          have h1 := hcells (k * 11 + j) (by omega)
          rw [e1 j hj, ← Nat.add_assoc] at h1
          exact h1
        have hdl := TRep.len ht
        have hc00 : (only w2 (fun b => ¬ b = w.heap.size)).cell? ⟨b, o + k * 11 + 0, none⟩ = some ds[0] := (hcell0 0 (by omega)).trans (List.getElem?_eq_getElem (by omega))
        have hbne : ¬ b = w.heap.size := (only_cell.1 hc00).1
        have hblt : b < wr.heap.size := Nat.lt_of_lt_of_le (World.block_lt_of_cell? _ _ (only_cell.1 hc00).2) hb.size
        have hcell : ∀ j, j < 11 → wr.cell? ⟨b, o + k * 11 + j, none⟩ = ds[j]? := fun j hj => by
          have h1 := hcell0 j hj
          rw [List.getElem?_eq_getElem (by omega)] at h1 ⊢
          exact hkw _ _ h1
        have hrepW := Lib.hid (show TRep wr.drew u ds from TRep.keep (w := wr) (w' := wr.drew) (fun a u h => h) _ _ (TRep.keep hkw _ _ ht))
        have hih := Lib.hid (fun W (h : TRep W u ds) => ihH.out u (List.mem_of_getElem? hp) ds W ⟨cn, cd, cw0⟩ (deep + 1) h hn0 hnm (by omega) (by omega))
        have hdrop := Lib.hid (parts_drop (d := l.map builtV) (p := builtV u) (by rw [List.getElem?_map, hp]; rfl) (deep + 1) ⟨cn, cd, cw0⟩)
        have hnb := Lib.hid (partF_n (builtV u) (deep + 1) ⟨cn, cd, cw0⟩ hn0 hnm)
        have hwhy := Lib.hid (And.intro (partF_zero (builtV u) (deep + 1) ⟨cn, cd, cw0⟩) (partF_why (builtV u) (deep + 1) ⟨cn, cd, cw0⟩))
        obtain ⟨d0, d1, d2, d3, d4, d5, d6, d7, d8, d9, d10, rfl⟩ := eleven hdl
        have hSk : ∀ w' : World, w'.heap[b]? = wr.heap[b]? → w'.cell? ⟨b, o + k * 11, none⟩ = some d0 ∧ w'.cell? ⟨b, o + k * 11 + 1, none⟩ = some d1 ∧ w'.cell? ⟨b, o + k * 11 + 2, none⟩ = some d2 ∧ w'.cell? ⟨b, o + k * 11 + 3, none⟩ = some d3 ∧ w'.cell? ⟨b, o + k * 11 + 4, none⟩ = some d4 ∧ w'.cell? ⟨b, o + k * 11 + 5, none⟩ = some d5 ∧ w'.cell? ⟨b, o + k * 11 + 6, none⟩ = some d6 ∧ w'.cell? ⟨b, o + k * 11 + 7, none⟩ = some d7 ∧ w'.cell? ⟨b, o + k * 11 + 8, none⟩ = some d8 ∧ w'.cell? ⟨b, o + k * 11 + 9, none⟩ = some d9 ∧ w'.cell? ⟨b, o + k * 11 + 10, none⟩ = some d10 := fun w' hb' =>
          ⟨(World.cell?_of_block (w := wr) hb').trans (hcell 0 (by omega)), (World.cell?_of_block (w := wr) hb').trans (hcell 1 (by omega)), (World.cell?_of_block (w := wr) hb').trans (hcell 2 (by omega)), (World.cell?_of_block (w := wr) hb').trans (hcell 3 (by omega)), (World.cell?_of_block (w := wr) hb').trans (hcell 4 (by omega)), (World.cell?_of_block (w := wr) hb').trans (hcell 5 (by omega)), (World.cell?_of_block (w := wr) hb').trans (hcell 6 (by omega)), (World.cell?_of_block (w := wr) hb').trans (hcell 7 (by omega)), (World.cell?_of_block (w := wr) hb').trans (hcell 8 (by omega)), (World.cell?_of_block (w := wr) hb').trans (hcell 9 (by omega)), (World.cell?_of_block (w := wr) hb').trans (hcell 10 (by omega))⟩
        cases hr : partF (builtV u) (deep + 1) ⟨cn, cd, cw0⟩ with
        | mk ok c' =>
        obtain ⟨en, ed, ew⟩ := c'
        have hrH := Lib.hid hr
        rw [hr] at hih hdrop hnb hwhy
        clear hr hcell hcell0 hc00 hkw ht e1 hcells hp hdl
        cases ok with
        | true =>
          have hew : ew = 0 := hwhy.out.1 rfl
          subst hew
          have hnb' := hnb.out
          go_wp2_with fail
          refine wp_region_held_drew (S := (fun w' => w'.cell? ⟨b, o + k * 11, none⟩ = some d0 ∧ w'.cell? ⟨b, o + k * 11 + 1, none⟩ = some d1 ∧ w'.cell? ⟨b, o + k * 11 + 2, none⟩ = some d2 ∧ w'.cell? ⟨b, o + k * 11 + 3, none⟩ = some d3 ∧ w'.cell? ⟨b, o + k * 11 + 4, none⟩ = some d4 ∧ w'.cell? ⟨b, o + k * 11 + 5, none⟩ = some d5 ∧ w'.cell? ⟨b, o + k * 11 + 6, none⟩ = some d6 ∧ w'.cell? ⟨b, o + k * 11 + 7, none⟩ = some d7 ∧ w'.cell? ⟨b, o + k * 11 + 8, none⟩ = some d8 ∧ w'.cell? ⟨b, o + k * 11 + 9, none⟩ = some d9 ∧ w'.cell? ⟨b, o + k * 11 + 10, none⟩ = some d10)) (by kernel_rfl) ?_ (fun hHeld => ?_)
          · exact hSk _ rfl
          refine wpAnyH_take (i := 1) (v := ?vzT1) rfl (by kernel_rfl) (by kernel_rfl) (by kernel_rfl) (fun _ _ _ h => h) (.inl ⟨by rfl, ?hyzT1⟩) (by assumption) ?restzT1
          case hyzT1 => (intro w hSw; (try dsimp only at hSw); go_simp; first | done | exact hwi | with_reducible rfl)
          (try simp only [Act.put, pu1, pu2, pu3, pu4, pu5, pu6])
          refine wpAnyH_take (i := 2) (v := ?vzT2) rfl (by kernel_rfl) (by kernel_rfl) (by kernel_rfl) (fun _ _ _ h => h) (.inl ⟨by rfl, ?hyzT2⟩) (by assumption) ?restzT2
          case hyzT2 => (intro w hSw; (try dsimp only at hSw); go_simp; first | done | exact hwi | with_reducible rfl)
          (try simp only [Act.put, pu1, pu2, pu3, pu4, pu5, pu6])
          refine wpAnyH_take (i := 3) (v := ?vzT3) rfl (by kernel_rfl) (by kernel_rfl) (by kernel_rfl) (fun _ _ _ h => h) (.inl ⟨by rfl, ?hyzT3⟩) (by assumption) ?restzT3
          case hyzT3 => (intro w hSw; (try dsimp only at hSw); go_simp; first | done | exact hwi | with_reducible rfl)
          (try simp only [Act.put, pu1, pu2, pu3, pu4, pu5, pu6])
          refine wpAnyH_take (i := 4) (v := ?vzT4) rfl (by kernel_rfl) (by kernel_rfl) (by kernel_rfl) (fun _ _ _ h => h) (.inl ⟨by rfl, ?hyzT4⟩) (by assumption) ?restzT4
          case hyzT4 => (intro w hSw; (try dsimp only at hSw); go_simp; first | done | exact hwi | with_reducible rfl)
          (try simp only [Act.put, pu1, pu2, pu3, pu4, pu5, pu6])
          refine wpAnyH_take (i := 5) (v := ?vzT5) rfl (by kernel_rfl) (by kernel_rfl) (by kernel_rfl) (fun _ _ _ h => h) (.inl ⟨by rfl, ?hyzT5⟩) (by assumption) ?restzT5
          case hyzT5 => (intro w hSw; (try dsimp only at hSw); go_simp; first | done | exact hwi | with_reducible rfl)
          (try simp only [Act.put, pu1, pu2, pu3, pu4, pu5, pu6])
          refine wpAnyH_take (i := 6) (v := (.int .i64 (deep + 1))) rfl (by kernel_rfl) (by kernel_rfl) (by kernel_rfl) (fun _ _ _ h => h) (.inl ⟨by rfl, ?hyzT6⟩) (by assumption) ?restzT6
          case hyzT6 => (intro w hSw; (try dsimp only at hSw); go_simp; first | done | exact hwi | with_reducible rfl)
          (try simp only [Act.put, pu1, pu2, pu3, pu4, pu5, pu6])
          refine wpAnyH_ready (rs := [0]) (by kernel_rfl) (by simp) ?_
          refine AllReadyH.cons rfl (fun K hK => ?_) AllReadyH.nil
          rw [if_pos (by rfl)]
          go_simp
          refine hK.out _ _ ?_ (fun hHeld2 => ?_)
          · exact hSk _ rfl
          clear hK K
          (try simp only [Act.put, pu1, pu2, pu3, pu4, pu5, pu6])
          refine wpAnyH_ready (rs := [7]) (by kernel_rfl) (by simp) ?_
          refine AllReadyH.cons rfl (fun K hK => ?_) AllReadyH.nil
          rw [if_pos (by rfl)]
          go_simp
          refine (hih.out wr.drew hrepW.out).mono ?_
          rintro e w1 ⟨rfl, hb1⟩
          have hbr : Below wr.heap.size wr w1 := (Below.refl _ _).drew.trans hb1
          have hs4 := hsH.out.keep hbr
          refine hK.out _ _ ?_ (fun hHeld2 => ?_)
          · exact hSk _ (hbr.block b hblt)
          clear hK K
          (try simp only [Act.put, pu1, pu2, pu3, pu4, pu5, pu6])
          refine wpAnyH_ready (rs := [8]) (by kernel_rfl) (by simp) ?_
          refine AllReadyH.cons rfl (fun K hK => ?_) AllReadyH.nil
          rw [if_pos (by rfl)]
          refine wp_store_row 236 (.tmp 3) (.tmp 48) rfl w.heap.size #[.int .i64 en, .int .i64 ed, .int .i64 0, .int .i64 0] rfl rfl 236 _ hs4.A seenSize rfl (seenOne _ _ _ _) ?_
          refine hK.out _ _ ?_ (fun hHeld2 => ?_)
          · exact hSk _ ((setRow_other _ _ _ _ hbne).trans (hbr.block b hblt))
          clear hK K
          (try simp only [Act.put, pu1, pu2, pu3, pu4, pu5, pu6])
          refine wpAnyH_done (by kernel_rfl) ?_ _
          have hs5 := hs4.row en ed 0 0
          have hb5 : But (· = w.heap.size) w2 _ := hb.then (But.row_at (S := (· = w.heap.size)) hbr rfl #[.int .i64 en, .int .i64 ed, .int .i64 0, .int .i64 0]) (fun i _ h => h)
          have hs5H := Lib.hid hs5
          obtain ⟨p0, p1, p2, p3, -⟩ := hs5.cells
          clear hs5 hs4 q0 q1 q2 q3
          go_wp2_with fail
          go_roundw
          case rel => exact ⟨k + 1, ⟨en, ed, 0⟩, by omega, by go_num, by rw [← heqH.out, hdrop.out], hnb'.1, hnb'.2, hs5H.out, hb5⟩
          case measure => simp [intOf]; omega
        | false =>
          have hew : ¬ ew = 0 := hwhy.out.2 rfl
          have hewb : (ew != 0) = true := by simpa using hew
          have hfin : ob = (false, ⟨en, ed, ew⟩) := by rw [← heqH.out, hdrop.out]
          have hfinH := Lib.hid hfin
          clear hfin hew
          go_wp2_with fail
          refine wp_region_held_drew (S := (fun w' => w'.cell? ⟨b, o + k * 11, none⟩ = some d0 ∧ w'.cell? ⟨b, o + k * 11 + 1, none⟩ = some d1 ∧ w'.cell? ⟨b, o + k * 11 + 2, none⟩ = some d2 ∧ w'.cell? ⟨b, o + k * 11 + 3, none⟩ = some d3 ∧ w'.cell? ⟨b, o + k * 11 + 4, none⟩ = some d4 ∧ w'.cell? ⟨b, o + k * 11 + 5, none⟩ = some d5 ∧ w'.cell? ⟨b, o + k * 11 + 6, none⟩ = some d6 ∧ w'.cell? ⟨b, o + k * 11 + 7, none⟩ = some d7 ∧ w'.cell? ⟨b, o + k * 11 + 8, none⟩ = some d8 ∧ w'.cell? ⟨b, o + k * 11 + 9, none⟩ = some d9 ∧ w'.cell? ⟨b, o + k * 11 + 10, none⟩ = some d10)) (by kernel_rfl) ?_ (fun hHeld => ?_)
          · exact hSk _ rfl
          refine wpAnyH_take (i := 1) (v := ?vzF1) rfl (by kernel_rfl) (by kernel_rfl) (by kernel_rfl) (fun _ _ _ h => h) (.inl ⟨by rfl, ?hyzF1⟩) (by assumption) ?restzF1
          case hyzF1 => (intro w hSw; (try dsimp only at hSw); go_simp; first | done | exact hwi | with_reducible rfl)
          (try simp only [Act.put, pu1, pu2, pu3, pu4, pu5, pu6])
          refine wpAnyH_take (i := 2) (v := ?vzF2) rfl (by kernel_rfl) (by kernel_rfl) (by kernel_rfl) (fun _ _ _ h => h) (.inl ⟨by rfl, ?hyzF2⟩) (by assumption) ?restzF2
          case hyzF2 => (intro w hSw; (try dsimp only at hSw); go_simp; first | done | exact hwi | with_reducible rfl)
          (try simp only [Act.put, pu1, pu2, pu3, pu4, pu5, pu6])
          refine wpAnyH_take (i := 3) (v := ?vzF3) rfl (by kernel_rfl) (by kernel_rfl) (by kernel_rfl) (fun _ _ _ h => h) (.inl ⟨by rfl, ?hyzF3⟩) (by assumption) ?restzF3
          case hyzF3 => (intro w hSw; (try dsimp only at hSw); go_simp; first | done | exact hwi | with_reducible rfl)
          (try simp only [Act.put, pu1, pu2, pu3, pu4, pu5, pu6])
          refine wpAnyH_take (i := 4) (v := ?vzF4) rfl (by kernel_rfl) (by kernel_rfl) (by kernel_rfl) (fun _ _ _ h => h) (.inl ⟨by rfl, ?hyzF4⟩) (by assumption) ?restzF4
          case hyzF4 => (intro w hSw; (try dsimp only at hSw); go_simp; first | done | exact hwi | with_reducible rfl)
          (try simp only [Act.put, pu1, pu2, pu3, pu4, pu5, pu6])
          refine wpAnyH_take (i := 5) (v := ?vzF5) rfl (by kernel_rfl) (by kernel_rfl) (by kernel_rfl) (fun _ _ _ h => h) (.inl ⟨by rfl, ?hyzF5⟩) (by assumption) ?restzF5
          case hyzF5 => (intro w hSw; (try dsimp only at hSw); go_simp; first | done | exact hwi | with_reducible rfl)
          (try simp only [Act.put, pu1, pu2, pu3, pu4, pu5, pu6])
          refine wpAnyH_take (i := 6) (v := (.int .i64 (deep + 1))) rfl (by kernel_rfl) (by kernel_rfl) (by kernel_rfl) (fun _ _ _ h => h) (.inl ⟨by rfl, ?hyzF6⟩) (by assumption) ?restzF6
          case hyzF6 => (intro w hSw; (try dsimp only at hSw); go_simp; first | done | exact hwi | with_reducible rfl)
          (try simp only [Act.put, pu1, pu2, pu3, pu4, pu5, pu6])
          refine wpAnyH_ready (rs := [0]) (by kernel_rfl) (by simp) ?_
          refine AllReadyH.cons rfl (fun K hK => ?_) AllReadyH.nil
          rw [if_pos (by rfl)]
          go_simp
          refine hK.out _ _ ?_ (fun hHeld2 => ?_)
          · exact hSk _ rfl
          clear hK K
          (try simp only [Act.put, pu1, pu2, pu3, pu4, pu5, pu6])
          refine wpAnyH_ready (rs := [7]) (by kernel_rfl) (by simp) ?_
          refine AllReadyH.cons rfl (fun K hK => ?_) AllReadyH.nil
          rw [if_pos (by rfl)]
          go_simp
          refine (hih.out wr.drew hrepW.out).mono ?_
          rintro e w1 ⟨rfl, hb1⟩
          have hbr : Below wr.heap.size wr w1 := (Below.refl _ _).drew.trans hb1
          have hs4 := hsH.out.keep hbr
          refine hK.out _ _ ?_ (fun hHeld2 => ?_)
          · exact hSk _ (hbr.block b hblt)
          clear hK K
          (try simp only [Act.put, pu1, pu2, pu3, pu4, pu5, pu6])
          refine wpAnyH_ready (rs := [8]) (by kernel_rfl) (by simp) ?_
          refine AllReadyH.cons rfl (fun K hK => ?_) AllReadyH.nil
          rw [if_pos (by rfl)]
          refine wp_store_row 236 (.tmp 3) (.tmp 48) rfl w.heap.size #[.int .i64 en, .int .i64 ed, .int .i64 en, .int .i64 ew] rfl rfl 236 _ hs4.A seenSize rfl (seenOne _ _ _ _) ?_
          refine hK.out _ _ ?_ (fun hHeld2 => ?_)
          · exact hSk _ ((setRow_other _ _ _ _ hbne).trans (hbr.block b hblt))
          clear hK K
          (try simp only [Act.put, pu1, pu2, pu3, pu4, pu5, pu6])
          refine wpAnyH_done (by kernel_rfl) ?_ _
          have hs5 := hs4.row en ed en ew
          have hs5H := Lib.hid hs5
          obtain ⟨p0, p1, p2, p3, -⟩ := hs5.cells
          clear hs5 hs4 q0 q1 q2 q3
          go_wp2_with (refine wpList_store_row rfl 236 (.tmp 6) _ rfl (w.heap.size + 2) #[.int .i64 en, .int .i64 ed, .int .i64 en, .int .i64 ew] rfl rfl 236 seenZero hs5H.out.C seenSize rfl (seenOne _ _ _ _) ?_)
          have hout := hs5H.out.out #[.int .i64 en, .int .i64 ed, .int .i64 en, .int .i64 ew]
          go_wp2
          rw [hfinH.out]
          exact ⟨rfl, _, results_cell_row rfl _ _ (w.heap.size + 2) 236 _ (0, 0) _ rfl hout.1 Try.underlying236 rfl seenSize, rfl, hout.2⟩
      · obtain rfl : k = l.length := by omega
        have hfin : ob = (true, ⟨cn, cd, cw0⟩) := by rw [← heqH.out, List.drop_of_length_le (by simp), partsF]
        have hfinH := Lib.hid hfin
        clear hfin
        go_wp2_with (refine wpList_store_row rfl 236 (.tmp 6) _ rfl (w.heap.size + 2) #[.int .i64 cn, .int .i64 cd, .int .i64 0, .int .i64 0] rfl rfl 236 seenZero hsH.out.C seenSize rfl (seenOne _ _ _ _) ?_)
        have hout := hsH.out.out #[.int .i64 cn, .int .i64 cd, .int .i64 0, .int .i64 0]
        go_wp2
        rw [hfinH.out]
        exact ⟨rfl, _, results_cell_row rfl _ _ (w.heap.size + 2) 236 _ (0, 0) _ rfl hout.1 Try.underlying236 rfl seenSize, rfl, hout.2⟩
  · have hmd : m = c.dp := by omega
    subst hmd
    clear hm
    go_enter Try.func140, Try.ntmps140
    go_wp2_with fail
    refine (hownH.out _ (TRep.keep (keeps_of_below hst.out.below) _ _ hrep0H.out)).mono ?_
    rintro e w1 ⟨rfl, hb1⟩
    have hs1 := hst.out.keep hb1
    have hs2 := hs1.set (i := 0) (m := c.n + 1) (by rfl)
    have hs2H := Lib.hid hs2
    obtain ⟨q0, q1, q2, q3, z0, z1, z2, z3⟩ := hs1.cells
    have b0 : w1.cell? ⟨w.heap.size + 1, 0, none⟩ = some c0 := block_cells hs1.B 0
    have b1 : w1.cell? ⟨w.heap.size + 1, 1, none⟩ = some c1 := block_cells hs1.B 1
    have b2 : w1.cell? ⟨w.heap.size + 1, 2, none⟩ = some c2 := block_cells hs1.B 2
    have b3 : w1.cell? ⟨w.heap.size + 1, 3, none⟩ = some c3 := block_cells hs1.B 3
    have b4 : w1.cell? ⟨w.heap.size + 1, 4, none⟩ = some c4 := block_cells hs1.B 4
    have b5 : w1.cell? ⟨w.heap.size + 1, 5, none⟩ = some c5 := block_cells hs1.B 5
    have b6 : w1.cell? ⟨w.heap.size + 1, 6, none⟩ = some c6 := block_cells hs1.B 6
    have b7 : w1.cell? ⟨w.heap.size + 1, 7, none⟩ = some c7 := block_cells hs1.B 7
    have b8 : w1.cell? ⟨w.heap.size + 1, 8, none⟩ = some c8 := block_cells hs1.B 8
    have b9 : w1.cell? ⟨w.heap.size + 1, 9, none⟩ = some c9 := block_cells hs1.B 9
    have b10 : w1.cell? ⟨w.heap.size + 1, 10, none⟩ = some c10 := block_cells hs1.B 10
    clear hs1 hb1 hs2
    go_wp2_with fail
    refine (hpartsH.out (fun b => ¬ b = w.heap.size) _ (hrepH.out _ hs2H.out.below)).mono ?_
    rintro e w2 ⟨sv, xs, rfl, hrow, hts, hb2⟩
    have hs3H := Lib.hid (hs2H.out.keep hb2)
    have hlt2 := hs2H.out.lt
    have hrow2 := hrow.keep (only_off (by omega))
    have hdat := Lib.hid (TsRep.at l xs (TsRep.keep (only_off (by omega)) _ _ hts))
    obtain ⟨oa, cap, rfl, hcap, hmax, hsm, -, -, hform⟩ := hrow2
    unfold maxLen at hmax
    have hformH := Lib.hid hform
    clear hrow hts hb2 hform q0 q1 q2 q3 z0 z1 z2 z3 hs2H hlt2 b0 b1 b2 b3 b4 b5 b6 b7 b8 b9 b10
    go_wp2_with fail
    go_loopw [9] (fun i wr => ∃ (k : Nat) (ck : Cnt), k ≤ l.length ∧ i = .int .i64 k ∧ partsF ((l.map builtV).drop k) (deep + 1) ck = ob ∧ 0 ≤ ck.n ∧ ck.n ≤ 16384 ∧ SeenAt w wr [c0, c1, c2, c3, c4, c5, c6, c7, c8, c9, c10] ck.n ck.dp 0 0 ∧ But (· = w.heap.size) w2 wr) (fun i _ => l.length - (intOf i).toNat)
    case atStart => exact ⟨0, ⟨c.n + 1, c.dp, 0⟩, Nat.zero_le _, rfl, by rw [List.drop_zero]; exact hobH.out.symm, by show 0 ≤ c.n + 1; omega, by show c.n + 1 ≤ 16384; omega, hs3H.out, But.refl _ _⟩
    case round =>
      obtain ⟨k, ck, hk, rfl, heq, hn0, hnm, hs, hb⟩ := hrel
      obtain ⟨cn, cd, cw0⟩ := ck
      have heqH := Lib.hid heq
      have hsH := Lib.hid hs
      obtain ⟨q0, q1, q2, q3, -⟩ := hs.cells
      have hslt := hs.lt
      clear heq hs
      by_cases hlt : k < l.length
      · obtain ⟨b, o, rfl, hcells⟩ := hformH.out (by omega)
        obtain ⟨u, hp⟩ : ∃ u, l[k]? = some u := ⟨_, List.getElem?_eq_getElem hlt⟩
        obtain ⟨ds, ht, e1⟩ := hdat.out k u hp
        have hkw : ∀ a u, (only w2 (fun b => ¬ b = w.heap.size)).cell? a = some u → wr.cell? a = some u := fun a u hc => by
          obtain ⟨x1, x2⟩ := only_cell.1 hc
          exact (hb.cell (World.block_lt_of_cell? _ _ x2) x1).trans x2
        have hcell0 : ∀ j, j < 11 → (only w2 (fun b => ¬ b = w.heap.size)).cell? ⟨b, o + k * 11 + j, none⟩ = ds[j]? := fun j hj => by
          have h1 := hcells (k * 11 + j) (by omega)
          rw [e1 j hj, ← Nat.add_assoc] at h1
          exact h1
        have hdl := TRep.len ht
        have hc00 : (only w2 (fun b => ¬ b = w.heap.size)).cell? ⟨b, o + k * 11 + 0, none⟩ = some ds[0] := (hcell0 0 (by omega)).trans (List.getElem?_eq_getElem (by omega))
        have hbne : ¬ b = w.heap.size := (only_cell.1 hc00).1
        have hblt : b < wr.heap.size := Nat.lt_of_lt_of_le (World.block_lt_of_cell? _ _ (only_cell.1 hc00).2) hb.size
        have hcell : ∀ j, j < 11 → wr.cell? ⟨b, o + k * 11 + j, none⟩ = ds[j]? := fun j hj => by
          have h1 := hcell0 j hj
          rw [List.getElem?_eq_getElem (by omega)] at h1 ⊢
          exact hkw _ _ h1
        have hrepW := Lib.hid (show TRep wr.drew u ds from TRep.keep (w := wr) (w' := wr.drew) (fun a u h => h) _ _ (TRep.keep hkw _ _ ht))
        have hih := Lib.hid (fun W (h : TRep W u ds) => ihH.out u (List.mem_of_getElem? hp) ds W ⟨cn, cd, cw0⟩ (deep + 1) h hn0 hnm (by omega) (by omega))
        have hdrop := Lib.hid (parts_drop (d := l.map builtV) (p := builtV u) (by rw [List.getElem?_map, hp]; rfl) (deep + 1) ⟨cn, cd, cw0⟩)
        have hnb := Lib.hid (partF_n (builtV u) (deep + 1) ⟨cn, cd, cw0⟩ hn0 hnm)
        have hwhy := Lib.hid (And.intro (partF_zero (builtV u) (deep + 1) ⟨cn, cd, cw0⟩) (partF_why (builtV u) (deep + 1) ⟨cn, cd, cw0⟩))
        obtain ⟨d0, d1, d2, d3, d4, d5, d6, d7, d8, d9, d10, rfl⟩ := eleven hdl
        have hSk : ∀ w' : World, w'.heap[b]? = wr.heap[b]? → w'.cell? ⟨b, o + k * 11, none⟩ = some d0 ∧ w'.cell? ⟨b, o + k * 11 + 1, none⟩ = some d1 ∧ w'.cell? ⟨b, o + k * 11 + 2, none⟩ = some d2 ∧ w'.cell? ⟨b, o + k * 11 + 3, none⟩ = some d3 ∧ w'.cell? ⟨b, o + k * 11 + 4, none⟩ = some d4 ∧ w'.cell? ⟨b, o + k * 11 + 5, none⟩ = some d5 ∧ w'.cell? ⟨b, o + k * 11 + 6, none⟩ = some d6 ∧ w'.cell? ⟨b, o + k * 11 + 7, none⟩ = some d7 ∧ w'.cell? ⟨b, o + k * 11 + 8, none⟩ = some d8 ∧ w'.cell? ⟨b, o + k * 11 + 9, none⟩ = some d9 ∧ w'.cell? ⟨b, o + k * 11 + 10, none⟩ = some d10 := fun w' hb' =>
          ⟨(World.cell?_of_block (w := wr) hb').trans (hcell 0 (by omega)), (World.cell?_of_block (w := wr) hb').trans (hcell 1 (by omega)), (World.cell?_of_block (w := wr) hb').trans (hcell 2 (by omega)), (World.cell?_of_block (w := wr) hb').trans (hcell 3 (by omega)), (World.cell?_of_block (w := wr) hb').trans (hcell 4 (by omega)), (World.cell?_of_block (w := wr) hb').trans (hcell 5 (by omega)), (World.cell?_of_block (w := wr) hb').trans (hcell 6 (by omega)), (World.cell?_of_block (w := wr) hb').trans (hcell 7 (by omega)), (World.cell?_of_block (w := wr) hb').trans (hcell 8 (by omega)), (World.cell?_of_block (w := wr) hb').trans (hcell 9 (by omega)), (World.cell?_of_block (w := wr) hb').trans (hcell 10 (by omega))⟩
        cases hr : partF (builtV u) (deep + 1) ⟨cn, cd, cw0⟩ with
        | mk ok c' =>
        obtain ⟨en, ed, ew⟩ := c'
        have hrH := Lib.hid hr
        rw [hr] at hih hdrop hnb hwhy
        clear hr hcell hcell0 hc00 hkw ht e1 hcells hp hdl
        cases ok with
        | true =>
          have hew : ew = 0 := hwhy.out.1 rfl
          subst hew
          have hnb' := hnb.out
          go_wp2_with fail
          refine wp_region_held_drew (S := (fun w' => w'.cell? ⟨b, o + k * 11, none⟩ = some d0 ∧ w'.cell? ⟨b, o + k * 11 + 1, none⟩ = some d1 ∧ w'.cell? ⟨b, o + k * 11 + 2, none⟩ = some d2 ∧ w'.cell? ⟨b, o + k * 11 + 3, none⟩ = some d3 ∧ w'.cell? ⟨b, o + k * 11 + 4, none⟩ = some d4 ∧ w'.cell? ⟨b, o + k * 11 + 5, none⟩ = some d5 ∧ w'.cell? ⟨b, o + k * 11 + 6, none⟩ = some d6 ∧ w'.cell? ⟨b, o + k * 11 + 7, none⟩ = some d7 ∧ w'.cell? ⟨b, o + k * 11 + 8, none⟩ = some d8 ∧ w'.cell? ⟨b, o + k * 11 + 9, none⟩ = some d9 ∧ w'.cell? ⟨b, o + k * 11 + 10, none⟩ = some d10)) (by kernel_rfl) ?_ (fun hHeld => ?_)
          · exact hSk _ rfl
          refine wpAnyH_take (i := 1) (v := ?vyT1) rfl (by kernel_rfl) (by kernel_rfl) (by kernel_rfl) (fun _ _ _ h => h) (.inl ⟨by rfl, ?hyyT1⟩) (by assumption) ?restyT1
          case hyyT1 => (intro w hSw; (try dsimp only at hSw); go_simp; first | done | exact hwi | with_reducible rfl)
          (try simp only [Act.put, pu1, pu2, pu3, pu4, pu5, pu6])
          refine wpAnyH_take (i := 2) (v := ?vyT2) rfl (by kernel_rfl) (by kernel_rfl) (by kernel_rfl) (fun _ _ _ h => h) (.inl ⟨by rfl, ?hyyT2⟩) (by assumption) ?restyT2
          case hyyT2 => (intro w hSw; (try dsimp only at hSw); go_simp; first | done | exact hwi | with_reducible rfl)
          (try simp only [Act.put, pu1, pu2, pu3, pu4, pu5, pu6])
          refine wpAnyH_take (i := 3) (v := ?vyT3) rfl (by kernel_rfl) (by kernel_rfl) (by kernel_rfl) (fun _ _ _ h => h) (.inl ⟨by rfl, ?hyyT3⟩) (by assumption) ?restyT3
          case hyyT3 => (intro w hSw; (try dsimp only at hSw); go_simp; first | done | exact hwi | with_reducible rfl)
          (try simp only [Act.put, pu1, pu2, pu3, pu4, pu5, pu6])
          refine wpAnyH_take (i := 4) (v := ?vyT4) rfl (by kernel_rfl) (by kernel_rfl) (by kernel_rfl) (fun _ _ _ h => h) (.inl ⟨by rfl, ?hyyT4⟩) (by assumption) ?restyT4
          case hyyT4 => (intro w hSw; (try dsimp only at hSw); go_simp; first | done | exact hwi | with_reducible rfl)
          (try simp only [Act.put, pu1, pu2, pu3, pu4, pu5, pu6])
          refine wpAnyH_take (i := 5) (v := ?vyT5) rfl (by kernel_rfl) (by kernel_rfl) (by kernel_rfl) (fun _ _ _ h => h) (.inl ⟨by rfl, ?hyyT5⟩) (by assumption) ?restyT5
          case hyyT5 => (intro w hSw; (try dsimp only at hSw); go_simp; first | done | exact hwi | with_reducible rfl)
          (try simp only [Act.put, pu1, pu2, pu3, pu4, pu5, pu6])
          refine wpAnyH_take (i := 6) (v := (.int .i64 (deep + 1))) rfl (by kernel_rfl) (by kernel_rfl) (by kernel_rfl) (fun _ _ _ h => h) (.inl ⟨by rfl, ?hyyT6⟩) (by assumption) ?restyT6
          case hyyT6 => (intro w hSw; (try dsimp only at hSw); go_simp; first | done | exact hwi | with_reducible rfl)
          (try simp only [Act.put, pu1, pu2, pu3, pu4, pu5, pu6])
          refine wpAnyH_ready (rs := [0]) (by kernel_rfl) (by simp) ?_
          refine AllReadyH.cons rfl (fun K hK => ?_) AllReadyH.nil
          rw [if_pos (by rfl)]
          go_simp
          refine hK.out _ _ ?_ (fun hHeld2 => ?_)
          · exact hSk _ rfl
          clear hK K
          (try simp only [Act.put, pu1, pu2, pu3, pu4, pu5, pu6])
          refine wpAnyH_ready (rs := [7]) (by kernel_rfl) (by simp) ?_
          refine AllReadyH.cons rfl (fun K hK => ?_) AllReadyH.nil
          rw [if_pos (by rfl)]
          go_simp
          refine (hih.out wr.drew hrepW.out).mono ?_
          rintro e w1 ⟨rfl, hb1⟩
          have hbr : Below wr.heap.size wr w1 := (Below.refl _ _).drew.trans hb1
          have hs4 := hsH.out.keep hbr
          refine hK.out _ _ ?_ (fun hHeld2 => ?_)
          · exact hSk _ (hbr.block b hblt)
          clear hK K
          (try simp only [Act.put, pu1, pu2, pu3, pu4, pu5, pu6])
          refine wpAnyH_ready (rs := [8]) (by kernel_rfl) (by simp) ?_
          refine AllReadyH.cons rfl (fun K hK => ?_) AllReadyH.nil
          rw [if_pos (by rfl)]
          refine wp_store_row 236 (.tmp 3) (.tmp 48) rfl w.heap.size #[.int .i64 en, .int .i64 ed, .int .i64 0, .int .i64 0] rfl rfl 236 _ hs4.A seenSize rfl (seenOne _ _ _ _) ?_
          refine hK.out _ _ ?_ (fun hHeld2 => ?_)
          · exact hSk _ ((setRow_other _ _ _ _ hbne).trans (hbr.block b hblt))
          clear hK K
          (try simp only [Act.put, pu1, pu2, pu3, pu4, pu5, pu6])
          refine wpAnyH_done (by kernel_rfl) ?_ _
          have hs5 := hs4.row en ed 0 0
          have hb5 : But (· = w.heap.size) w2 _ := hb.then (But.row_at (S := (· = w.heap.size)) hbr rfl #[.int .i64 en, .int .i64 ed, .int .i64 0, .int .i64 0]) (fun i _ h => h)
          have hs5H := Lib.hid hs5
          obtain ⟨p0, p1, p2, p3, -⟩ := hs5.cells
          clear hs5 hs4 q0 q1 q2 q3
          go_wp2_with fail
          go_roundw
          case rel => exact ⟨k + 1, ⟨en, ed, 0⟩, by omega, by go_num, by rw [← heqH.out, hdrop.out], hnb'.1, hnb'.2, hs5H.out, hb5⟩
          case measure => simp [intOf]; omega
        | false =>
          have hew : ¬ ew = 0 := hwhy.out.2 rfl
          have hewb : (ew != 0) = true := by simpa using hew
          have hfin : ob = (false, ⟨en, ed, ew⟩) := by rw [← heqH.out, hdrop.out]
          have hfinH := Lib.hid hfin
          clear hfin hew
          go_wp2_with fail
          refine wp_region_held_drew (S := (fun w' => w'.cell? ⟨b, o + k * 11, none⟩ = some d0 ∧ w'.cell? ⟨b, o + k * 11 + 1, none⟩ = some d1 ∧ w'.cell? ⟨b, o + k * 11 + 2, none⟩ = some d2 ∧ w'.cell? ⟨b, o + k * 11 + 3, none⟩ = some d3 ∧ w'.cell? ⟨b, o + k * 11 + 4, none⟩ = some d4 ∧ w'.cell? ⟨b, o + k * 11 + 5, none⟩ = some d5 ∧ w'.cell? ⟨b, o + k * 11 + 6, none⟩ = some d6 ∧ w'.cell? ⟨b, o + k * 11 + 7, none⟩ = some d7 ∧ w'.cell? ⟨b, o + k * 11 + 8, none⟩ = some d8 ∧ w'.cell? ⟨b, o + k * 11 + 9, none⟩ = some d9 ∧ w'.cell? ⟨b, o + k * 11 + 10, none⟩ = some d10)) (by kernel_rfl) ?_ (fun hHeld => ?_)
          · exact hSk _ rfl
          refine wpAnyH_take (i := 1) (v := ?vyF1) rfl (by kernel_rfl) (by kernel_rfl) (by kernel_rfl) (fun _ _ _ h => h) (.inl ⟨by rfl, ?hyyF1⟩) (by assumption) ?restyF1
          case hyyF1 => (intro w hSw; (try dsimp only at hSw); go_simp; first | done | exact hwi | with_reducible rfl)
          (try simp only [Act.put, pu1, pu2, pu3, pu4, pu5, pu6])
          refine wpAnyH_take (i := 2) (v := ?vyF2) rfl (by kernel_rfl) (by kernel_rfl) (by kernel_rfl) (fun _ _ _ h => h) (.inl ⟨by rfl, ?hyyF2⟩) (by assumption) ?restyF2
          case hyyF2 => (intro w hSw; (try dsimp only at hSw); go_simp; first | done | exact hwi | with_reducible rfl)
          (try simp only [Act.put, pu1, pu2, pu3, pu4, pu5, pu6])
          refine wpAnyH_take (i := 3) (v := ?vyF3) rfl (by kernel_rfl) (by kernel_rfl) (by kernel_rfl) (fun _ _ _ h => h) (.inl ⟨by rfl, ?hyyF3⟩) (by assumption) ?restyF3
          case hyyF3 => (intro w hSw; (try dsimp only at hSw); go_simp; first | done | exact hwi | with_reducible rfl)
          (try simp only [Act.put, pu1, pu2, pu3, pu4, pu5, pu6])
          refine wpAnyH_take (i := 4) (v := ?vyF4) rfl (by kernel_rfl) (by kernel_rfl) (by kernel_rfl) (fun _ _ _ h => h) (.inl ⟨by rfl, ?hyyF4⟩) (by assumption) ?restyF4
          case hyyF4 => (intro w hSw; (try dsimp only at hSw); go_simp; first | done | exact hwi | with_reducible rfl)
          (try simp only [Act.put, pu1, pu2, pu3, pu4, pu5, pu6])
          refine wpAnyH_take (i := 5) (v := ?vyF5) rfl (by kernel_rfl) (by kernel_rfl) (by kernel_rfl) (fun _ _ _ h => h) (.inl ⟨by rfl, ?hyyF5⟩) (by assumption) ?restyF5
          case hyyF5 => (intro w hSw; (try dsimp only at hSw); go_simp; first | done | exact hwi | with_reducible rfl)
          (try simp only [Act.put, pu1, pu2, pu3, pu4, pu5, pu6])
          refine wpAnyH_take (i := 6) (v := (.int .i64 (deep + 1))) rfl (by kernel_rfl) (by kernel_rfl) (by kernel_rfl) (fun _ _ _ h => h) (.inl ⟨by rfl, ?hyyF6⟩) (by assumption) ?restyF6
          case hyyF6 => (intro w hSw; (try dsimp only at hSw); go_simp; first | done | exact hwi | with_reducible rfl)
          (try simp only [Act.put, pu1, pu2, pu3, pu4, pu5, pu6])
          refine wpAnyH_ready (rs := [0]) (by kernel_rfl) (by simp) ?_
          refine AllReadyH.cons rfl (fun K hK => ?_) AllReadyH.nil
          rw [if_pos (by rfl)]
          go_simp
          refine hK.out _ _ ?_ (fun hHeld2 => ?_)
          · exact hSk _ rfl
          clear hK K
          (try simp only [Act.put, pu1, pu2, pu3, pu4, pu5, pu6])
          refine wpAnyH_ready (rs := [7]) (by kernel_rfl) (by simp) ?_
          refine AllReadyH.cons rfl (fun K hK => ?_) AllReadyH.nil
          rw [if_pos (by rfl)]
          go_simp
          refine (hih.out wr.drew hrepW.out).mono ?_
          rintro e w1 ⟨rfl, hb1⟩
          have hbr : Below wr.heap.size wr w1 := (Below.refl _ _).drew.trans hb1
          have hs4 := hsH.out.keep hbr
          refine hK.out _ _ ?_ (fun hHeld2 => ?_)
          · exact hSk _ (hbr.block b hblt)
          clear hK K
          (try simp only [Act.put, pu1, pu2, pu3, pu4, pu5, pu6])
          refine wpAnyH_ready (rs := [8]) (by kernel_rfl) (by simp) ?_
          refine AllReadyH.cons rfl (fun K hK => ?_) AllReadyH.nil
          rw [if_pos (by rfl)]
          refine wp_store_row 236 (.tmp 3) (.tmp 48) rfl w.heap.size #[.int .i64 en, .int .i64 ed, .int .i64 en, .int .i64 ew] rfl rfl 236 _ hs4.A seenSize rfl (seenOne _ _ _ _) ?_
          refine hK.out _ _ ?_ (fun hHeld2 => ?_)
          · exact hSk _ ((setRow_other _ _ _ _ hbne).trans (hbr.block b hblt))
          clear hK K
          (try simp only [Act.put, pu1, pu2, pu3, pu4, pu5, pu6])
          refine wpAnyH_done (by kernel_rfl) ?_ _
          have hs5 := hs4.row en ed en ew
          have hs5H := Lib.hid hs5
          obtain ⟨p0, p1, p2, p3, -⟩ := hs5.cells
          clear hs5 hs4 q0 q1 q2 q3
          go_wp2_with (refine wpList_store_row rfl 236 (.tmp 6) _ rfl (w.heap.size + 2) #[.int .i64 en, .int .i64 ed, .int .i64 en, .int .i64 ew] rfl rfl 236 seenZero hs5H.out.C seenSize rfl (seenOne _ _ _ _) ?_)
          have hout := hs5H.out.out #[.int .i64 en, .int .i64 ed, .int .i64 en, .int .i64 ew]
          go_wp2
          rw [hfinH.out]
          exact ⟨rfl, _, results_cell_row rfl _ _ (w.heap.size + 2) 236 _ (0, 0) _ rfl hout.1 Try.underlying236 rfl seenSize, rfl, hout.2⟩
      · obtain rfl : k = l.length := by omega
        have hfin : ob = (true, ⟨cn, cd, cw0⟩) := by rw [← heqH.out, List.drop_of_length_le (by simp), partsF]
        have hfinH := Lib.hid hfin
        clear hfin
        go_wp2_with (refine wpList_store_row rfl 236 (.tmp 6) _ rfl (w.heap.size + 2) #[.int .i64 cn, .int .i64 cd, .int .i64 0, .int .i64 0] rfl rfl 236 seenZero hsH.out.C seenSize rfl (seenOne _ _ _ _) ?_)
        have hout := hsH.out.out #[.int .i64 cn, .int .i64 cd, .int .i64 0, .int .i64 0]
        go_wp2
        rw [hfinH.out]
        exact ⟨rfl, _, results_cell_row rfl _ _ (w.heap.size + 2) 236 _ (0, 0) _ rfl hout.1 Try.underlying236 rfl seenSize, rfl, hout.2⟩
theorem refPart_any : ∀ t : Term, RefPart t := term_all fun t ih => by
  intro cs w c deep h h0 h1 h2 h3
  by_cases how : ownF (builtV t) c.n deep = 0
  · exact refPart_good t (fun u hu => ih u (kids_parts t u hu)) cs w c deep h h0 h1 h2 how
  · exact refPart_bad t cs w c deep h how
theorem seen_check (v : Val) : ∃ n dp, seenCells (partF v 1 ⟨0, 0, 0⟩) = [.int .i64 n, .int .i64 dp, .int .i64 (checkF v).1, .int .i64 (checkF v).2] := by
  have hcheck : checkF v = (match partF v 1 ⟨0, 0, 0⟩ with | (true, _) => (0, 0) | (false, c) => (c.n, c.why)) := rfl
  rw [hcheck]
  cases partF v 1 ⟨0, 0, 0⟩ with
  | mk ok c => cases ok <;> exact ⟨c.n, c.dp, rfl⟩
set_option maxRecDepth 100000 in
set_option maxHeartbeats 800000 in
theorem refCheck_any (t : Term) (cs : List Value) (w : World) (h : TRep w t cs) :
    Calls Try.prog 76 #[.agg cs.toArray] w fun e w' => e = .returned (.tuple #[.int .i64 (checkF (builtV t)).1, .int .i64 (checkF (builtV t)).2]) ∧ Below w.heap.size w w' := by
  obtain ⟨n, dp, hs⟩ := seen_check (builtV t)
  have hp := fun W (h : TRep W t cs) => refPart_any t cs W ⟨0, 0, 0⟩ 1 h (by decide) (by decide) (by decide) (by decide)
  rw [hs] at hp
  have hpH := Lib.hid hp
  have hbel : ∀ cs : Array Value, Below w.heap.size w (w.alloc (.cells cs 31)) := fun cs => (Below.refl _ _).alloc (Nat.le_refl _) _
  have hrepH := Lib.hid (fun xs => TRep.keep (keeps_of_below (hbel xs)) t cs h)
  have hone := TRep.ones h
  obtain ⟨c0, c1, c2, c3, c4, c5, c6, c7, c8, c9, c10, rfl⟩ := eleven (TRep.len h)
  generalize checkF (builtV t) = r at *
  obtain ⟨a, y⟩ := r
  clear h hs hp
  go_enter Try.func76, Try.ntmps76
  go_wp2_with fail
  refine (hpH.out _ (hrepH.out _)).mono ?_
  rintro e w1 ⟨rfl, hb1⟩
  have hbw : Below w.heap.size w w1 := (hbel _).trans (below_le hb1 (by simp))
  go_wp2_with (refine wpList_store_row rfl 236 (.tmp 4) _ rfl w1.heap.size #[.int .i64 n, .int .i64 dp, .int .i64 a, .int .i64 y] rfl rfl 236 seenZero (heap_alloc_new w1 _) seenSize rfl (seenOne _ _ _ _) ?_)
  rw [World.setRow_alloc_new]
  go_quiet (fail)
  go_wp2
  go_ret2
  exact ⟨rfl, Below.drewN' (hbw.alloc hbw.size _) nq⟩
end Go.Proofs.Ytgmdbpplfjkjmaa
