/- What Each defers: a panic that came is told. -/
import Derived.Test.YtgmdbpplfjkjmaaRecov
import Derived.Test.YtgmdbpplfjkjmaaMapAll
import Derived.Test.YtgmdbpplfjkjmaaSortP
import Derived.Test.YtgmdbpplfjkjmaaList
import Derived.Laws.IdiomRangeMap
namespace Go.Proofs.Ytgmdbpplfjkjmaa
open Go.RowKit
set_option linter.unusedVariables false
set_option linter.unusedSimpArgs false

def caughtE (v : Value) (older : List PanicEntry) : FrameMode := .panicking ({ v, recovered := true } :: older)
theorem each2_idle (d q : Addr) (w : World) (hd : w.cell? d = some (.bool true)) :
    CallsD Try.prog 84 #[.pointer (some d), .pointer (some q)] .returning w fun e u' w' => e = .returned (.tuple #[]) ∧ u' = .returning ∧ w = w' := by
  refine callsD_of_wpS Try.func84 rfl fun c₀ cs hu => ?_
  refine wpS_of_wp ?_
  simp only [Try.ntmps84, List.size_toArray, List.length_cons, List.length_nil, Nat.reduceAdd, Nat.reduceSub, Array.replicate_succ, Array.replicate_zero, List.push_toArray, List.append_toArray, List.nil_append, List.cons_append]
  go_wp2
  exact ⟨rfl, .returning, by rw [← hu], _, results_none rfl _ _ _, rfl, rfl, rfl⟩
theorem each2_panic (d : Addr) (q : Nat) (w : World) (v : Value) (older : List PanicEntry) (x0 : Value) (hd : w.cell? d = some (.bool false)) (hq : w.cell? ⟨q, 0, none⟩ = some x0) (hfq : w.frozen? ⟨q, 0, none⟩ = false) :
    CallsD Try.prog 84 #[.pointer (some d), .pointer (some ⟨q, 0, none⟩)] (.panicking ({ v, recovered := false } :: older)) w fun e u' w' =>
      e = .returned (.tuple #[]) ∧ u' = caughtE v older ∧ w.setCell ⟨q, 0, none⟩ (.int .i64 9) = w' := by
  refine callsD_of_wpS Try.func84 rfl fun c₀ cs hu => ?_
  apply wpS_seq
  refine wpS_of_wp ?_
  simp only [Try.ntmps84, List.size_toArray, List.length_cons, List.length_nil, Nat.reduceAdd, Nat.reduceSub, Array.replicate_succ, Array.replicate_zero, List.push_toArray, List.append_toArray, List.nil_append, List.cons_append]
  go_wp2
  refine wpS_cond (t := true) (by simp [Act.eval]) ?_
  rw [if_pos rfl]
  apply wpS_seq
  refine wpS_recover rfl rfl ?_
  have hrec : recoverD (c₀ :: cs) = some (v, { c₀ with mode := .panicking ({ v, recovered := true } :: older) } :: cs) := by simp [recoverD, hu]
  rw [hrec]
  simp only [Exit.thenS]
  refine wpS_of_wp ?_
  clear hu hrec
  go_wp2
  exact ⟨rfl, _, rfl, _, results_none rfl _ _ _, rfl, rfl, rfl⟩
/-- What a function leaves does not hang on other slots than its results'. -/
theorem leaves_tmps {P : Program} {fn : Func} {R : Ending → World → Prop} {t t' : Array Value} (h : results fn t = results fn t') : ∀ (ds : List Deferred) (u : FrameMode) (w : World), Leaves P fn t R ds u w → Leaves P fn t' R ds u w
  | [], .returning, w, ⟨v, hv, r⟩ => ⟨v, h ▸ hv, r⟩
  | [], .panicking _, _, x => x
  | [], .run, _, x => x
  | d :: ds, u, w, ⟨h1, fv, cap, f, args, h2, h3, h4⟩ => ⟨h1, fv, cap, f, args, h2, h3, h4.mono (fun e u' w' he => by
      cases e with
      | returned v => exact leaves_tmps h ds _ _ he
      | panicked c => exact leaves_tmps h ds _ _ he
      | outgrown => exact he)⟩
theorem each_results (a : Act) (k : Nat) (v : Value) (h : k ≠ 4) : results Try.f18 (a.put (some k) v).tmps = results Try.f18 a.tmps := by
  have e : (a.put (some k) v).tmps[4]? = a.tmps[4]? := by
    show (a.tmps.setIfInBounds k v)[4]? = _
    rw [Array.getElem?_setIfInBounds, if_neg h]
  simp [results, Try.results18, e]
end Go.Proofs.Ytgmdbpplfjkjmaa

/-! digest.Map.Each. -/
namespace Go.Proofs.Ytgmdbpplfjkjmaa
open Go.RowKit
set_option linter.unusedVariables false
set_option linter.unusedSimpArgs false

theorem perm_of_map {α β : Type} {f : α → β} {r m : List β} (h : r.Perm m) : ∀ l : List α, m = l.map f → ∃ ll : List α, ll.Perm l ∧ r = ll.map f := by
  induction h with
  | nil => intro l h; obtain rfl : l = [] := by simpa using h.symm
           exact ⟨[], List.Perm.refl _, rfl⟩
  | cons x _ ih =>
    intro l h
    obtain ⟨a, l1, rfl, rfl, h2⟩ := List.map_eq_cons_iff.1 h.symm
    obtain ⟨ll, p1, p2⟩ := ih l1 h2.symm
    exact ⟨a :: ll, p1.cons a, by rw [p2]; rfl⟩
  | swap x y l' =>
    intro l h
    obtain ⟨a, l1, rfl, rfl, h2⟩ := List.map_eq_cons_iff.1 h.symm
    obtain ⟨b, bs, rfl, rfl, h3⟩ := List.map_eq_cons_iff.1 h2
    exact ⟨b :: a :: bs, List.Perm.swap .., by rw [← h3]; rfl⟩
  | trans _ _ ih1 ih2 =>
    intro l h
    obtain ⟨l2, p1, p2⟩ := ih2 l h
    obtain ⟨l3, q1, q2⟩ := ih1 l2 p2
    exact ⟨l3, q1.trans p1, q2⟩
def bareP (ss : List PE) : List (Val × Val) := ss.map fun e => (e.k, e.v)
def riseV (L : List (Val × Val)) : Prop := L.Pairwise fun p q => cmpV p.1 q.1 = -1
theorem riseV_eq {L : List (Val × Val)} (h : riseV L) {p q : Val × Val} (hp : p ∈ L) (hq : q ∈ L) (h1 : cmpV p.1 q.1 ≤ 0) (h2 : cmpV q.1 p.1 ≤ 0) : p = q := by
  obtain ⟨i, hi, rfl⟩ := List.mem_iff_getElem.1 hp
  obtain ⟨j, hj, rfl⟩ := List.mem_iff_getElem.1 hq
  have hs := cmpV_swap L[i].1 L[j].1
  rcases Nat.lt_trichotomy i j with hij | rfl | hij
  · have := List.pairwise_iff_getElem.1 h i j hi hj hij; omega
  · rfl
  · have := List.pairwise_iff_getElem.1 h j i hj hi hij; omega
theorem sorted_eq {ts : List PE} {L : List (Val × Val)} (hL : riseV L) (hp : (bareP ts).Perm L) (hs : ts.Pairwise fun p q => ¬ cmpV q.k p.k < 0) : bareP ts = L :=
  List.Perm.eq_of_pairwise (le := fun p q => cmpV p.1 q.1 ≤ 0) (fun a b ha hb h1 h2 => riseV_eq hL (hp.mem_iff.1 ha) hb h1 h2)
    (List.pairwise_map.2 (hs.imp (fun {p q} h => by have := cmpV_swap q.k p.k; show cmpV p.k q.k ≤ 0; omega))) (hL.imp (fun {p q} h => by rw [h]; decide)) hp
theorem run_buildPair1 (x y : Value) (W : World) : (Instr.buildSlice 156 1 #[(0, .agg #[x, y])]).run Try.prog W = .ok (.slice (some ⟨W.heap.size, 0, none⟩) 1 1) (W.alloc (.cells #[x, y] 151)) := by
  kernel_rfl
theorem two_ones {x y : Value} (hx : x.oneCell' = true) (hy : y.oneCell' = true) : ∀ u ∈ [x, y], u.oneCell' = true := fun u hu => by
  rcases List.mem_cons.1 hu with rfl | hu
  · exact hx
  · rw [List.mem_singleton.1 hu]; exact hy
@[go_sem] theorem eql_each_nil (fn : Fn) (first caps : Array Value) (W : World) : (binOp .eql 59 (.func fn first caps) .nilFunc).run Try.prog W = .ok (.bool false) W := by kernel_rfl
theorem Try.infoPair : (Try.prog.info? 151).map (fun i => (i.zero, i.size, i.bytes)) = some (some (.agg #[.nilIface, .nilIface]), 2, 32) := by kernel_rfl
/-- Pairs that were copied into a list of the call's own. -/
structure CopsAt (B : Nat) (w : World) (sv : Value) (ss : List PE) : Prop where
  list : Listed B w 151 2 sv ss.length (flatP ss) (fsM ss)
  reps : ∀ e ∈ ss, VRep w e.k e.a e.ga ∧ VRep w e.v e.c e.gc ∧ okB e.k = true ∧ okB e.v = true
theorem CopsAt.below {B : Nat} {w w' : World} {sv : Value} {ss : List PE} (h : CopsAt B w sv ss) (hb : Below w.heap.size w w') : CopsAt B w' sv ss :=
  ⟨h.list.below hb, fun e he => by
    obtain ⟨r1, r2, r3⟩ := h.reps e he
    exact ⟨VRep.but r1 (below_but0 hb) (fun _ _ f => f), VRep.but r2 (below_but0 hb) (fun _ _ f => f), r3⟩⟩
theorem fsM_snoc (ss : List PE) (e : PE) : fsM (ss ++ [e]) = fsM ss ++ e.fs := by simp [fsM]
theorem CopsAt.step {B : Nat} {wr w1 w2 : World} {o : Obj} {sv : Value} {ss : List PE} {e : PE} {g cap : Nat} (h : CopsAt B wr sv ss) (hb : Below wr.heap.size wr w1)
    (hk : VRep w1 e.k e.a e.ga) (hv : VRep w1 e.v e.c e.gc) (hok : okB e.k = true ∧ okB e.v = true) (hnd : e.fs.Nodup) (hny : ∀ b ∈ e.fs, wr.heap.size ≤ b) (hB : B ≤ wr.heap.size)
    (hown : w2.ownsRow B 151 2 (.slice (some ⟨g, 0, none⟩) (ss.length + 1) cap) (ss.length + 1) (flatP ss ++ [e.a, e.c])) (hgr : (w1.alloc o).grownBy w2 sv.ownBlock) (hat : sv.ownBlock = some g ∨ g = (w1.alloc o).heap.size) (hlt : g < w2.heap.size) :
    CopsAt B w2 (.slice (some ⟨g, 0, none⟩) (ss.length + 1) cap) (ss ++ [e]) := by
  have hny' : ∀ b ∈ e.fs, wr.heap.size ≤ b ∧ b < w1.heap.size := fun b hbm => ⟨hny b hbm, by
    rcases List.mem_append.1 hbm with h | h
    · exact VRep.lt _ _ _ hk b h
    · exact VRep.lt _ _ _ hv b h⟩
  have hkeep := h.list.kept hb hny' hgr
  have hst := h.list.step hb hnd hny' hB hown hgr hat hlt
  refine ⟨?_, fun p hp => ?_⟩
  · rw [List.length_append, flatP_append, fsM_snoc]; exact hst
  · rcases List.mem_append.1 hp with hp | hp
    · obtain ⟨r1, r2, r3⟩ := h.reps p hp
      exact ⟨VRep.keep _ _ _ r1 (fun b hbm => hkeep.1 b (fsM_of hp b (List.mem_append_left _ hbm))), VRep.keep _ _ _ r2 (fun b hbm => hkeep.1 b (fsM_of hp b (List.mem_append_right _ hbm))), r3⟩
    · rw [List.mem_singleton.1 hp]
      exact ⟨VRep.keep _ _ _ hk (fun b hbm => hkeep.2 b (List.mem_append_left _ hbm)), VRep.keep _ _ _ hv (fun b hbm => hkeep.2 b (List.mem_append_right _ hbm)), hok⟩
/-- What a call of the closure leaves. -/
def DoEnd (B0 N : Nat) (J : Nat → Nat → World → Prop) (go : Nat → Option Bool) (k : Nat) (p : PE) (W : World) (e : Ending) (w' : World) : Prop :=
  (match go k with | some b => e = .returned (.bool b) | none => ∃ v, e = .panicked [{ v, recovered := false }]) ∧ J N (k + 1) w' ∧ But (fun b => b ∈ p.fs ∨ b < B0 ∨ N ≤ b) W w'
/-- What Each leaves: c calls were made. -/
def EachEnd (n : Nat) (J : Nat → Nat → World → Prop) (go : Nat → Option Bool) (e : Ending) (w' : World) : Prop :=
  ∃ N c, c ≤ n ∧ (∀ j, j + 1 < c → go j = some true) ∧ J N c w' ∧
    ((c = n ∧ (∀ j, j < c → go j = some true) ∧ e = .returned (.int .i64 0)) ∨ (∃ j, c = j + 1 ∧ go j = some false ∧ e = .returned (.int .i64 0)) ∨ (∃ j, c = j + 1 ∧ go j = none ∧ e = .returned (.int .i64 9)))
theorem RangeIs.left_str {w : World} {b r : Nat} {l left : List (List UInt8 × Value)} (h : RangeIs strF w b r l left) : w.rangeLeft b r = left.length := by
  obtain ⟨es, clock, since, seen, c0, hb, hs, hl, ho, hr, h1, h2, h3, h4⟩ := h
  have h5 := congrArg List.length h4
  rw [List.length_map, List.length_map] at h5
  unfold World.rangeLeft
  rw [hb, hr]
  simpa using h5
theorem fsM_next {ts : List PE} {k : Nat} {p : PE} (hp : ts[k]? = some p) : fsM (ts.take (k + 1)) = fsM (ts.take k) ++ p.fs := by
  unfold fsM
  rw [List.take_add_one, hp]
  simp
theorem fsM_apart {ts : List PE} (h : (fsM ts).Nodup) {k : Nat} {p : PE} (hp : ts[k]? = some p) : p.fs.Nodup ∧ ∀ b ∈ p.fs, b ∉ fsM (ts.take k) := by
  have e : ts = ts.take k ++ p :: ts.drop (k + 1) := by
    obtain ⟨h, rfl⟩ := List.getElem?_eq_some_iff.1 hp
    rw [List.getElem_cons_drop, List.take_append_drop]
  have e2 : fsM ts = fsM (ts.take k) ++ (p.fs ++ fsM (ts.drop (k + 1))) := by
    have h1 : fsM ts = fsM (ts.take k ++ p :: ts.drop (k + 1)) := by rw [← e]
    rw [h1]; simp [fsM]
  rw [e2] at h
  obtain ⟨-, h1, h2⟩ := List.nodup_append.1 h
  exact ⟨(List.nodup_append.1 h1).1, fun b hb hb' => h2 b hb' b (List.mem_append_left _ hb) rfl⟩
theorem fsM_take {ts : List PE} {k : Nat} : ∀ b ∈ fsM (ts.take k), b ∈ fsM ts := fun b hb => by
  obtain ⟨p, hp, hb⟩ := List.mem_flatMap.1 hb
  exact fsM_of (List.mem_of_mem_take hp) b hb
def fE (e : PE) : List UInt8 × Value := (e.ky, .agg #[e.a, e.c])
set_option maxRecDepth 100000 in
set_option maxHeartbeats 12800000 in
theorem each_some {w : World} {B m b : Nat} {l : List PE} (h : MapW B w m (some b) l) {L : List (Val × Val)} (hL : riseV L) (hp : L.Perm (bareP l)) (F : FuncId) (caps : Array Value) (hF : ∀ (args : Array Value) (W : World), (callFunc F args).run Try.prog W = .ok (.enter F args) W)
    (J : Nat → Nat → World → Prop) (go : Nat → Option Bool) (hst : ∀ N k W W', J N k W → But (fun i => w.heap.size ≤ i ∧ i < N) W W' → J N k W') (h0 : ∀ W, Below w.heap.size w W → J W.heap.size 0 W)
    (hdo : ∀ N ts, bareP ts = L → ∀ k p, ts[k]? = some p → ∀ W, N ≤ W.heap.size → J N k W → VRep W p.k p.a p.ga → VRep W p.v p.c p.gc → p.fs.Nodup → (∀ b ∈ p.fs, w.heap.size ≤ b ∧ b < N) → Calls Try.prog F (#[p.a, p.c] ++ caps) W (DoEnd w.heap.size N J go k p W)) :
    Calls Try.prog 18 #[.pointer (some ⟨m, 0, none⟩), .func (.func F) #[] caps] w (EachEnd L.length J go) := by
  obtain ⟨i0, hi0, hz0, hz1, hz2⟩ := info_parts Try.infoPair
  have hmf : ∀ (fn : Fn) (first cap : Array Value) (w : World), (Instr.makeFunc fn first cap).run Try.prog w = .ok (.func fn first cap) w := fun _ _ _ _ => rfl
  obtain ⟨raw, hraw, hrp⟩ := h.raw
  obtain ⟨ll0, hll0, hrawl⟩ := perm_of_map hrp l rfl
  have hsmall := h.small
  have hbr : Below w.heap.size w (w.alloc (.cells #[.int .i64 0] 33)) := (Below.refl _ _).alloc (Nat.le_refl _) _
  have hmc : (w.alloc (.cells #[.int .i64 0] 33)).cell? ⟨m, 0, none⟩ = some (.map (some b)) := by
    obtain ⟨D, h1, -⟩ := h.at_
    rw [hbr.cell (p := ⟨m, 0, none⟩) h1.lt.1, cell_of_row w m 0 _ _ _ h1.1]; rfl
  obtain ⟨W1, hrun, hR, hb1, hsz1⟩ := (hraw.below hbr).range Try.underlying47
  have hbw1 := Lib.hid (hbr.trans (hb1.mono hbr.size))
  have hrbW := Lib.hid (show W1.heap[w.heap.size]? = some (.cells #[.int .i64 0] 33 (0, 0)) from (hb1.block _ (by simp)).trans (heap_alloc_new w _))
  rw [World.size_alloc] at hrun hsz1
  have hRH := Lib.hid hR
  have hH := Lib.hid h
  have hLH := Lib.hid hL
  have hpH := Lib.hid hp
  have hstH := Lib.hid hst
  have h0H := Lib.hid h0
  have hdoH := Lib.hid hdo
  have hll0H := Lib.hid hll0
  have hrawlH := Lib.hid hrawl
  obtain ⟨rb, hrb⟩ : ∃ x, x = w.heap.size := ⟨_, rfl⟩
  obtain ⟨r, hr⟩ : ∃ x, x = w.heap.size + 1 := ⟨_, rfl⟩
  obtain ⟨B2, hB2⟩ : ∃ x, x = W1.heap.size := ⟨_, rfl⟩
  have hrbH := Lib.hid hrb
  have hrH := Lib.hid hr
  have hB2H := Lib.hid hB2
  clear h hL hp hst h0 hdo hraw hrp hll0 hrawl hbr hR hb1 hrb hr hB2
  go_enter_defers Try.func18, Try.ntmps18
  go_wp2_with fail
  rw [← hrH.out, ← hrbH.out]
  go_loopw [5] (fun lv wr => ∃ (ll ss : List PE) (yv : Value), yv = lv ∧ RangeIs strF wr b r raw (ll.map fE) ∧ CopsAt B2 wr yv ss ∧ (bareP ss ++ bareP ll).Perm (bareP l) ∧ (∀ e ∈ ll, e ∈ l) ∧ wr.heap[rb]? = some (.cells #[.int .i64 0] 33 (0, 0)) ∧ Below w.heap.size w wr ∧ B2 ≤ wr.heap.size) (fun _ wr => wr.rangeLeft b r)
  case atStart =>
    have e : raw = ll0.map fE := hrawlH.out
    have hR2 : RangeIs strF W1 b r raw (ll0.map fE) := by
      have h1 := hRH.out
      rw [World.size_alloc, ← hrH.out] at h1
      rw [← e]; exact h1
    exact ⟨ll0, [], _, rfl, hR2, ⟨Listed.made (World.ownsRow_nil _ _ _ _), fun _ h => (by cases h)⟩, hll0H.out.map _, fun e he => hll0H.out.mem_iff.1 he, by rw [hrbH.out]; exact hrbW.out, hbw1.out, by rw [hB2H.out]; exact Nat.le_refl _⟩
  case round =>
    obtain ⟨ll, ss, yv, hyv, hrg, hcp, hperm, hsub, hrbc, hb, hsz⟩ := hrel
    subst hyv
    have hone : yv.oneCell' = true := by obtain ⟨_, _, rfl, -⟩ := ownsRow_form hcp.list.own; rfl
    have hleft := Lib.hid hrg.left_str
    have hcpH := Lib.hid hcp
    have hpermH := Lib.hid hperm
    have hsubH := Lib.hid hsub
    have hrbcH := Lib.hid hrbc
    have hbH := Lib.hid hb
    have hrlt : r < B2 ∧ b < B2 ∧ rb < B2 := by
      have := hB2H.out; have := hrH.out; have := hrbH.out
      have h2 := (hH.out.lt b (.inr (.inl rfl))).2
      omega
    have hlen : ss.length ≤ 4096 := by
      have h1 := hperm.length_eq
      unfold bareP at h1
      rw [List.length_append, List.length_map, List.length_map, List.length_map] at h1
      omega
    rcases hrg.next 0 with ⟨hl0, hnx⟩ | ⟨x, v, pre, suf, w1, hsp, hnx, hr1, hbut1, hsz1', hent, hokx⟩
    · have hll : ll = [] := by simpa using hl0
      subst hll
      have hnd := hcp.list.nodup
      have hfso : ∀ i ∈ fsM ss, i ∉ ownL yv := fun i hi ho => (List.nodup_append.1 hnd).2.2 i ho i hi rfl
      have hsort := Lib.hid (sortP_said hcp.list.own hcp.reps hfso (by omega))
      have hfsoH := Lib.hid hfso
      have hndH := Lib.hid (List.nodup_append.1 hnd).2.1
      have hownB := Lib.hid (fun i hi => (ownsRow_lt hcp.list.own i hi))
      clear hrg hcp hperm hsub hrbc hb hl0 hnd hfso
      go_wp2_with fail
      refine hsort.out.mono ?_
      rintro e w2 ⟨rfl, ts, htp, hts, hrow2, hbut2⟩
      have hbare := Lib.hid (sorted_eq hLH.out ((htp.map _).trans ((show (bareP ss).Perm (bareP l) by have := hpermH.out; simpa [bareP] using this).trans hpH.out.symm)) (hts.imp (fun h => by omega)))
      have hperm2 : (fsM ts).Perm (fsM ss) := htp.flatMap_right _
      have hndt := Lib.hid (hperm2.nodup_iff.2 hndH.out)
      have hfst := Lib.hid (show ∀ i ∈ fsM ts, B2 ≤ i ∧ i < wr.heap.size ∧ i ∉ ownL yv from fun i hi => by
        have h1 := hperm2.mem_iff.1 hi
        have h2 := hcpH.out.list.new i h1
        exact ⟨h2.1, h2.2, hfsoH.out i h1⟩)
      have hreps := Lib.hid (show ∀ p ∈ ts, VRep w2 p.k p.a p.ga ∧ VRep w2 p.v p.c p.gc from fun p hp => by
        obtain ⟨k1, k2, -⟩ := hcpH.out.reps p (htp.mem_iff.1 hp)
        exact ⟨VRep.but k1 hbut2 (fun i hi => hfsoH.out i (fsM_of (htp.mem_iff.1 hp) i (List.mem_append_left _ hi))), VRep.but k2 hbut2 (fun i hi => hfsoH.out i (fsM_of (htp.mem_iff.1 hp) i (List.mem_append_right _ hi)))⟩)
      have hsz2 : wr.heap.size ≤ w2.heap.size := hbut2.size
      have hbel2 : Below w.heap.size w w2 := hbH.out.trans (hbut2.below' (by have := hbH.out.size; omega) (fun i hi ho => by have := (hownB.out i ho).1; have := hrbH.out; omega))
      have hrb2 : w2.heap[rb]? = some (.cells #[.int .i64 0] 33 (0, 0)) := (hbut2.block rb (by omega) (fun ho => by have := (hownB.out rb ho).1; omega)).trans hrbcH.out
      obtain ⟨db, hdb⟩ : ∃ x, x = w2.heap.size := ⟨_, rfl⟩
      obtain ⟨W0, hW0⟩ : ∃ W, W = w2.alloc (.cells #[.bool false] 4) := ⟨_, rfl⟩
      have hb20 : Below w2.heap.size w2 W0 := by rw [hW0]; exact (Below.refl _ _).alloc (Nat.le_refl _) _
      have hW0s : W0.heap.size = db + 1 := by rw [hW0, hdb]; simp
      have hdb0 := Lib.hid (show W0.heap[db]? = some (.cells #[.bool false] 4 (0, 0)) by rw [hW0, hdb]; exact heap_alloc_new w2 _)
      have hrb0 := Lib.hid (show W0.heap[rb]? = some (.cells #[.int .i64 0] 33 (0, 0)) from (hb20.block rb (by omega)).trans hrb2)
      have hJ0 := Lib.hid (h0H.out W0 (hbel2.trans (hb20.mono hbel2.size)))
      have hrow0 : W0.ownsRow B2 151 2 yv ts.length (flatP ts) := ownsRow_keep hrow2 (fun i hi => hb20.block i (ownsRow_lt hrow2 i hi).2)
      obtain ⟨ya, yc, rfl, hyc1, hyc2, -, hyf⟩ := ownsRow_form hrow0
      unfold maxLen at hyc2
      have hyfH := Lib.hid hyf
      have hreps0 := Lib.hid (show ∀ p ∈ ts, VRep W0 p.k p.a p.ga ∧ VRep W0 p.v p.c p.gc from fun p hp => ⟨VRep.but (hreps.out p hp).1 (below_but0 hb20) (fun _ _ f => f), VRep.but (hreps.out p hp).2 (below_but0 hb20) (fun _ _ f => f)⟩)
      have htsl := Lib.hid (show ts.length = L.length by have := congrArg List.length hbare.out; unfold bareP at this; rwa [List.length_map] at this)
      have hW0H := Lib.hid hW0
      have hdbH := Lib.hid hdb
      have hdbB : B2 ≤ db := by omega
      have hrbw : rb = w.heap.size := hrbH.out
      have hrbwH := Lib.hid hrbw
      clear htp hts hrow2 hbut2 hperm2 hbel2 hrb2 hb20 hrow0 hyf hW0 hdb hrbw
      go_wp2_with fail
      rw [← hW0H.out, ← hdbH.out]
      go_loopw [37] (fun i wr => ∃ k : Nat, k ≤ ts.length ∧ i = .int .i64 k ∧ (∀ j, j < k → go j = some true) ∧ J W0.heap.size k wr ∧ But (fun i => i ∈ fsM (ts.take k) ∨ i < rb) W0 wr) (fun i _ => ts.length - (intOf i).toNat)
      case atStart => exact ⟨0, Nat.zero_le _, rfl, fun j h => absurd h (Nat.not_lt_zero _), hJ0.out, But.refl _ _⟩
      case round =>
        obtain ⟨k, hk, rfl, hgo, hJ, hbut⟩ := hrel
        have hgoH := Lib.hid hgo
        have hJH := Lib.hid hJ
        have hbutH := Lib.hid hbut
        have hkeepE := Lib.hid (show ∀ i, rb ≤ i → i < W0.heap.size → i ∉ fsM ts → wr.heap[i]? = W0.heap[i]? from fun i h1 h2 h3 => hbut.block i h2 (fun h => h.elim (fun h => h3 (fsM_take i h)) (fun h => by omega)))
        clear hgo hJ hbut
        by_cases hlt : k < ts.length
        · have l1 : (k : Int) < (ts.length : Int) := by omega
          obtain ⟨p, hpk⟩ : ∃ p, ts[k]? = some p := ⟨_, List.getElem?_eq_getElem hlt⟩
          rcases hyfH.out with ⟨-, hz, -⟩ | ⟨g, rfl, hgB, hgs, hgl, hcells⟩
          · omega
          obtain ⟨f1, f2⟩ := flatP_at ts k p hpk
          have hgf : g ∉ fsM ts := fun hi => (hfst.out g hi).2.2 (by simp [ownL, Value.ownBlock])
          have hgk := hkeepE.out g (by omega) hgs hgf
          have c1 : wr.cell? ⟨g, k * 2, none⟩ = some p.a := (World.cell?_of_block (a := ⟨g, k * 2, none⟩) hgk).trans ((hcells (k * 2) (by omega)).trans f1)
          have c2 : wr.cell? ⟨g, k * 2 + 1, none⟩ = some p.c := (World.cell?_of_block (a := ⟨g, k * 2 + 1, none⟩) hgk).trans ((hcells (k * 2 + 1) (by omega)).trans f2)
          have hpm := List.mem_of_getElem? hpk
          obtain ⟨r1, r2⟩ := hreps0.out p hpm
          have hap := fsM_apart hndt.out hpk
          have hpo := r1.one
          have hpo2 := r2.one
          have hrbp : ∀ i ∈ p.fs, ¬ (i ∈ fsM (ts.take k) ∨ i < rb) := fun i hi h => h.elim (hap.2 i hi) (fun h => by have := (hfst.out i (fsM_of hpm i hi)).1; omega)
          have hszr : W0.heap.size ≤ wr.heap.size := hbutH.out.size
          have hcall := Lib.hid (fun X (hX : Below wr.heap.size wr X) => hdoH.out W0.heap.size ts hbare.out k p hpk X (by have := hX.size; omega) (hstH.out _ _ _ _ hJH.out ((But.refl _ wr).of_below hX (fun i hi h => by omega)))
            (VRep.but (VRep.but r1 hbutH.out (fun i hi => hrbp i (List.mem_append_left _ hi))) (below_but0 hX) (fun _ _ f => f)) (VRep.but (VRep.but r2 hbutH.out (fun i hi => hrbp i (List.mem_append_right _ hi))) (below_but0 hX) (fun _ _ f => f)) hap.1
            (fun i hi => by have := hfst.out i (fsM_of hpm i hi); have := hrbwH.out; have := hdbH.out; omega))
          have hnext := Lib.hid (fsM_next hpk)
          have hpfs := Lib.hid (show ∀ i ∈ p.fs, i ∈ fsM ts from fun i hi => fsM_of hpm i hi)
          have hlb := Lib.hid (show Below wr.heap.size wr (wr.alloc (.cells #[p.a, p.c] 151)) from (Below.refl _ _).alloc (Nat.le_refl _) _)
          clear hcells f1 f2 hgk hpm r1 r2 hap hrbp hpk hgl
          go_wp2_with fail
          refine (hcall.out _ hlb.out).mono ?_
          rintro e w5 ⟨hm, hJ5, hbut5⟩
          have hkeep5 : ∀ i, rb ≤ i → i < W0.heap.size → i ∉ fsM ts → w5.heap[i]? = W0.heap[i]? := fun i h1 h2 h3 => (hbut5.block i (by simp; omega) (fun h => by
            rcases h with h | h | h
            · exact h3 (hpfs.out i h)
            · have := hrbwH.out; omega
            · omega)).trans ((Below.heap_alloc _ _ _ (by omega)).trans (hkeepE.out i h1 h2 h3))
          have hdb5 := (hkeep5 db (by omega) (by omega) (fun h => by have := hfst.out db h; have := hdbH.out; omega)).trans hdb0.out
          have hrb5 := (hkeep5 rb (Nat.le_refl _) (by omega) (fun h => by have := hfst.out rb h; omega)).trans hrb0.out
          have q1 : w5.cell? ⟨db, 0, none⟩ = some (.bool false) := by rw [cell_of_row w5 db 0 _ _ _ hdb5]; rfl
          have q2 : w5.cell? ⟨rb, 0, none⟩ = some (.int .i64 0) := by rw [cell_of_row w5 rb 0 _ _ _ hrb5]; rfl
          have z1 : w5.frozen? ⟨db, 0, none⟩ = false := by simp [World.frozen?, hdb5]
          have z2 : w5.frozen? ⟨rb, 0, none⟩ = false := by simp [World.frozen?, hrb5]
          have hdr : ¬ db = rb := by omega
          have hJ5H := Lib.hid hJ5
          have hbutN := Lib.hid (show But (fun i => i ∈ fsM (ts.take (k + 1)) ∨ i < rb) W0 w5 from ((hbutH.out.mono (fun i _ h => h.imp (fun h => by rw [hnext.out]; exact List.mem_append_left _ h) id)).of_below hlb.out (fun i hi h => absurd hi (by omega))).then hbut5 (fun i hi h => by
            rcases h with h | h | h
            · exact .inl (by rw [hnext.out]; exact List.mem_append_right _ h)
            · exact .inr (by have := hrbwH.out; omega)
            · omega))
          have hJF := Lib.hid (show ∀ x y, J W0.heap.size (k + 1) ((w5.setCell ⟨db, 0, none⟩ x).setCell ⟨rb, 0, none⟩ y) from fun x y => hstH.out _ _ _ _ hJ5 (((But.refl _ w5).setCell (p := ⟨db, 0, none⟩) (fun _ => (by show w.heap.size ≤ db ∧ db < W0.heap.size; have := hrbwH.out; omega)) x).setCell (p := ⟨rb, 0, none⟩) (fun _ => (by show w.heap.size ≤ rb ∧ rb < W0.heap.size; have := hrbwH.out; omega)) y))
          have hJP := Lib.hid (show ∀ y, J W0.heap.size (k + 1) (w5.setCell ⟨rb, 0, none⟩ y) from fun y => hstH.out _ _ _ _ hJ5 ((But.refl _ w5).setCell (p := ⟨rb, 0, none⟩) (fun _ => (by show w.heap.size ≤ rb ∧ rb < W0.heap.size; have := hrbwH.out; omega)) y))
          obtain ⟨G, hG⟩ : ∃ G, G = go k := ⟨_, rfl⟩
          rw [← hG] at hm
          have hGH := Lib.hid hG
          clear hG hkeep5 hdb5 hrb5 hJ5 hbut5
          rcases G with _ | (_ | _)
          · obtain ⟨pv, rfl⟩ := hm
            refine leaves_cons (f := 84) (args := #[.pointer (some ⟨db, 0, none⟩), .pointer (some ⟨rb, 0, none⟩)]) (by simp) (by simp [go_sem]) ?_
            refine (each2_panic _ rb _ pv [] _ q1 q2 z2).mono ?_
            rintro e u' w'' ⟨rfl, rfl, rfl⟩
            refine ⟨.int .i64 9, by simp [results, Try.results18, go_sem, q1, q2, z1, z2, hdr], W0.heap.size, k + 1, by have := htsl.out; omega, fun j hj => hgoH.out j (by omega), hJP.out _, .inr (.inr ⟨k, rfl, hGH.out.symm, rfl⟩)⟩
          · obtain rfl : e = .returned (.bool false) := hm
            go_wp2
            refine leaves_cons (f := 84) (args := #[.pointer (some ⟨db, 0, none⟩), .pointer (some ⟨rb, 0, none⟩)]) (by simp) (by simp [go_sem]) ?_
            refine (each2_idle _ _ _ (by simp [go_sem, q1, q2, z1, z2, hdr])).mono ?_
            rintro e u' w'' ⟨rfl, rfl, rfl⟩
            refine ⟨.int .i64 0, by simp [results, Try.results18, go_sem, q1, q2, z1, z2, hdr], W0.heap.size, k + 1, by have := htsl.out; omega, fun j hj => hgoH.out j (by omega), hJF.out _ _, .inr (.inl ⟨k, rfl, hGH.out.symm, rfl⟩)⟩
          · obtain rfl : e = .returned (.bool true) := hm
            go_wp2_with fail
            go_roundw
            case rel => exact ⟨k + 1, by omega, by go_num, fun j hj => by
              rcases Nat.lt_or_eq_of_le (Nat.le_of_lt_succ hj) with h | rfl
              · exact hgoH.out j h
              · exact hGH.out.symm, hJ5H.out, hbutN.out⟩
            case measure => simp [intOf]; omega
        · obtain rfl : k = ts.length := by omega
          have hdb5 := (hkeepE.out db (by omega) (by omega) (fun h => by have := hfst.out db h; have := hdbH.out; omega)).trans hdb0.out
          have hrb5 := (hkeepE.out rb (Nat.le_refl _) (by omega) (fun h => by have := hfst.out rb h; omega)).trans hrb0.out
          have q1 : wr.cell? ⟨db, 0, none⟩ = some (.bool false) := by rw [cell_of_row wr db 0 _ _ _ hdb5]; rfl
          have q2 : wr.cell? ⟨rb, 0, none⟩ = some (.int .i64 0) := by rw [cell_of_row wr rb 0 _ _ _ hrb5]; rfl
          have z1 : wr.frozen? ⟨db, 0, none⟩ = false := by simp [World.frozen?, hdb5]
          have z2 : wr.frozen? ⟨rb, 0, none⟩ = false := by simp [World.frozen?, hrb5]
          have hdr : ¬ db = rb := by omega
          have hJF := Lib.hid (show ∀ x y, J W0.heap.size ts.length ((wr.setCell ⟨db, 0, none⟩ x).setCell ⟨rb, 0, none⟩ y) from fun x y => hstH.out _ _ _ _ hJH.out (((But.refl _ wr).setCell (p := ⟨db, 0, none⟩) (fun _ => (by show w.heap.size ≤ db ∧ db < W0.heap.size; have := hrbwH.out; omega)) x).setCell (p := ⟨rb, 0, none⟩) (fun _ => (by show w.heap.size ≤ rb ∧ rb < W0.heap.size; have := hrbwH.out; omega)) y))
          clear hdb5 hrb5
          go_wp2
          refine leaves_cons (f := 84) (args := #[.pointer (some ⟨db, 0, none⟩), .pointer (some ⟨rb, 0, none⟩)]) (by simp) (by simp [go_sem]) ?_
          refine (each2_idle _ _ _ (by simp [go_sem, q1, q2, z1, z2, hdr])).mono ?_
          rintro e u' w'' ⟨rfl, rfl, rfl⟩
          refine ⟨.int .i64 0, by simp [results, Try.results18, go_sem, q1, q2, z1, z2, hdr], W0.heap.size, ts.length, by rw [htsl.out]; exact Nat.le_refl _, fun j hj => hgoH.out j (by omega), hJF.out _ _, .inl ⟨htsl.out, hgoH.out, rfl⟩⟩
    · obtain ⟨lp, l2, rfl, hpre, h2⟩ := List.map_eq_append_iff.1 hsp
      obtain ⟨e, ls, rfl, he, hsuf⟩ := List.map_eq_cons_iff.1 h2
      obtain ⟨hx, hv⟩ := Prod.mk.inj he
      subst hv
      have hel := hsub e (List.mem_append_right _ (List.mem_cons_self ..))
      obtain ⟨r1, r2, r3, r4, r5, r6⟩ := hH.out.reps e hel
      have hrne : ∀ i, i ∈ ownL yv ∨ i ∈ fsM ss → B2 ≤ i := fun i hi => hi.elim (fun hi => (ownsRow_lt hcp.list.own i hi).1) (fun hi => (hcp.list.new i hi).1)
      have hcp1 : CopsAt B2 w1 yv ss := ⟨⟨ownsRow_but hcp.list.own hbut1 (fun i hi e1 => by have := hrne i (.inl hi); omega), hcp.list.nodup, fun i hi => by have := hcp.list.new i hi; omega⟩, fun p hp => by
        obtain ⟨k1, k2, k3⟩ := hcp.reps p hp
        exact ⟨VRep.but k1 hbut1 (fun i hi e1 => by have := hrne i (.inr (fsM_of hp i (List.mem_append_left _ hi))); omega), VRep.but k2 hbut1 (fun i hi e1 => by have := hrne i (.inr (fsM_of hp i (List.mem_append_right _ hi))); omega), k3⟩⟩
      have hb1' : Below w.heap.size w w1 := hb.trans ⟨hbut1.os, hbut1.tape, hbut1.output, hbut1.size, fun k hk => hbut1.block k (by have := hb.size; omega) (by have := hrH.out; omega)⟩
      have hrbc1 : w1.heap[rb]? = some (.cells #[.int .i64 0] 33 (0, 0)) := (hbut1.block rb (by omega) (by have := hrH.out; have := hrbH.out; omega)).trans hrbc
      obtain ⟨xa, hxa⟩ : ∃ x, x = e.a := ⟨_, rfl⟩
      obtain ⟨xc, hxc⟩ : ∃ x, x = e.c := ⟨_, rfl⟩
      rw [← hxa, ← hxc] at hnx hent
      have hone1 := r1.one
      have hone2 := r2.one
      rw [← hxa] at hone1
      rw [← hxc] at hone2
      obtain ⟨pb, hpb⟩ : ∃ x, x = w1.heap.size := ⟨_, rfl⟩
      obtain ⟨Wp, hWp⟩ : ∃ W, W = w1.alloc (.cells #[xa, xc] 151) := ⟨_, rfl⟩
      have hbWp : Below w1.heap.size w1 Wp := by rw [hWp]; exact (Below.refl _ _).alloc (Nat.le_refl _) _
      have hpbW : Wp.heap[pb]? = some (.cells #[xa, xc] 151 (0, 0)) := by rw [hWp, hpb]; exact heap_alloc_new w1 _
      have hpblt : pb < Wp.heap.size := (Array.getElem?_eq_some_iff.1 hpbW).1
      have hbWw : Below w.heap.size w Wp := hb1'.trans (hbWp.mono hb1'.size)
      have hCp := Lib.hid (hcp1.below hbWp)
      have hpbo := Lib.hid (show ∀ k ∈ ownL yv, k = pb → False from fun k hk e1 => by have := (ownsRow_lt hcp1.list.own k hk).2; omega)
      have hcq1 := Lib.hid (fun X (hX : Below Wp.heap.size Wp X) => dcopied_ok (w := X) (VRep.but r1 (below_but0 (hbWw.trans (hX.mono hbWw.size))) (fun _ _ f => f)) r3)
      have hcq2 := Lib.hid (fun X (hX : Below Wp.heap.size Wp X) => dcopied_ok (w := X) (VRep.but r2 (below_but0 (hbWw.trans (hX.mono hbWw.size))) (fun _ _ f => f)) r4)
      rw [← hxa] at hcq1
      rw [← hxc] at hcq2
      have hSk := Lib.hid (show ∀ X, Below Wp.heap.size Wp X → X.cell? ⟨pb, 0, none⟩ = some xa ∧ X.cell? ⟨pb, 1, none⟩ = some xc from fun X hX => ⟨(hX.cell (p := ⟨pb, 0, none⟩) hpblt).trans (by rw [cell_of_row Wp pb 0 _ _ _ hpbW]; rfl), (hX.cell (p := ⟨pb, 1, none⟩) hpblt).trans (by rw [cell_of_row Wp pb 1 _ _ _ hpbW]; rfl)⟩)
      have hr1H := Lib.hid hr1
      have hbWwH := Lib.hid hbWw
      have hWps : B2 ≤ Wp.heap.size := by have := hbWp.size; omega
      have hrk := Lib.hid (And.intro r3 r4)
      have hrp4 := Lib.hid (show ∀ y z gy gz, (bareP (ss ++ [⟨e.k, e.v, y, z, gy, gz⟩]) ++ bareP (lp ++ ls)).Perm (bareP l) from fun y z gy gz => by
        refine List.Perm.trans ?_ hpermH.out
        unfold bareP
        simp only [List.map_append, List.map_cons, List.map_nil, List.append_assoc]
        refine List.Perm.append_left _ ?_
        exact (List.perm_middle (l₁ := lp.map fun e => (e.k, e.v)) (l₂ := ls.map fun e => (e.k, e.v)) (a := (e.k, e.v))).symm)
      have hrbcW := Lib.hid (show Wp.heap[rb]? = some (.cells #[.int .i64 0] 33 (0, 0)) from (hbWp.block rb (by omega)).trans hrbc1)
      have hWpH := Lib.hid hWp
      have hpbH := Lib.hid hpb
      have hpreH := Lib.hid (show pre ++ suf = (lp ++ ls).map fE by rw [List.map_append, hpre, hsuf])
      have hleft2 := Lib.hid (show ((lp ++ e :: ls).map fE).length = (pre ++ suf).length + 1 by rw [hsp, List.length_append, List.length_append, List.length_cons]; omega)
      have hsub2 := Lib.hid (show ∀ p ∈ lp ++ ls, p ∈ l from fun p hp => hsub p (by rcases List.mem_append.1 hp with h | h; exact List.mem_append_left _ h; exact List.mem_append_right _ (List.mem_cons_of_mem _ h)))
      have hbWp1 := Lib.hid hbWp
      have hszH := Lib.hid hsz1'
      clear hcp hperm hsub hrbc hb hrg hsp h2 he hpre hsuf hr1 hbut1 hcp1 hb1' hrbc1 hbWp hpbW hbWw r1 r2 r3 r4 r5 r6 hWp hpb hel hrne hx hokx hxa hxc hsz1'
      go_wp2_with fail
      rw [← hWpH.out, ← hpbH.out]
      refine wp_region_held_drew (S := (fun w' => w'.cell? ⟨pb, 0, none⟩ = some xa ∧ w'.cell? ⟨pb, 1, none⟩ = some xc)) (by kernel_rfl) ?_ (fun hHeld => ?_)
      · exact hSk.out _ (Below.refl Wp.heap.size Wp).drew
      refine wpAnyH_take (i := 0) (v := ?va0) rfl (by kernel_rfl) (by kernel_rfl) (by kernel_rfl) (fun _ a _ h => leaves_tmps (each_results a _ _ (by decide)) _ _ _ h) (.inl ⟨by rfl, ?hya0⟩) (by assumption) ?resta0
      case hya0 => (intro w hSw; (try dsimp only at hSw); go_simp; first | done | with_reducible rfl)
      (try simp only [Act.put, pu1, pu2, pu3, pu4, pu5, pu6])
      refine wpAnyH_take (i := 1) (v := ?va1) rfl (by kernel_rfl) (by kernel_rfl) (by kernel_rfl) (fun _ a _ h => leaves_tmps (each_results a _ _ (by decide)) _ _ _ h) (.inl ⟨by rfl, ?hya1⟩) (by assumption) ?resta1
      case hya1 => (intro w hSw; (try dsimp only at hSw); go_simp; first | done | with_reducible rfl)
      (try simp only [Act.put, pu1, pu2, pu3, pu4, pu5, pu6])
      refine wpAnyH_take (i := 2) (v := ?va2) rfl (by kernel_rfl) (by kernel_rfl) (by kernel_rfl) (fun _ a _ h => leaves_tmps (each_results a _ _ (by decide)) _ _ _ h) (.inl ⟨by rfl, ?hya2⟩) (by assumption) ?resta2
      case hya2 => (intro w hSw; (try dsimp only at hSw); go_simp; first | done | with_reducible rfl)
      (try simp only [Act.put, pu1, pu2, pu3, pu4, pu5, pu6])
      refine wpAnyH_take (i := 4) (v := ?va4) rfl (by kernel_rfl) (by kernel_rfl) (by kernel_rfl) (fun _ a _ h => leaves_tmps (each_results a _ _ (by decide)) _ _ _ h) (.inl ⟨by rfl, ?hya4⟩) (by assumption) ?resta4
      case hya4 => (intro w hSw; (try dsimp only at hSw); go_simp; first | done | with_reducible rfl)
      (try simp only [Act.put, pu1, pu2, pu3, pu4, pu5, pu6])
      refine wpAnyH_take (i := 5) (v := ?va5) rfl (by kernel_rfl) (by kernel_rfl) (by kernel_rfl) (fun _ a _ h => leaves_tmps (each_results a _ _ (by decide)) _ _ _ h) (.inl ⟨by rfl, ?hya5⟩) (by assumption) ?resta5
      case hya5 => (intro w hSw; (try dsimp only at hSw); go_simp; first | done | with_reducible rfl)
      (try simp only [Act.put, pu1, pu2, pu3, pu4, pu5, pu6])
      refine wpAnyH_ready (rs := [3]) (by kernel_rfl) (by simp) ?_
      refine AllReadyH.cons rfl (fun K hK => ?_) AllReadyH.nil
      rw [if_pos (by rfl)]
      go_simp
      refine (hcq1.out _ (Below.refl Wp.heap.size Wp).drew).mono ?_
      rintro e w2 ⟨y, gy, rfl, hy, hyn, hyb, hb2⟩
      have hy1 := hy.one
      have hb2' : Below Wp.heap.size Wp w2 := (Below.refl Wp.heap.size Wp).drew.trans hb2
      refine hK.out _ _ ?_ (fun hHeld2 => ?_)
      · exact hSk.out _ hb2'
      clear hK K
      (try simp only [Act.put, pu1, pu2, pu3, pu4, pu5, pu6])
      refine wpAnyH_ready (rs := [6]) (by kernel_rfl) (by simp) ?_
      refine AllReadyH.cons rfl (fun K hK => ?_) AllReadyH.nil
      rw [if_pos (by rfl)]
      go_simp
      refine (hcq2.out _ hb2').mono ?_
      rintro e w3 ⟨z, gz, rfl, hz, hzn, hzb, hb3⟩
      have hz1' := hz.one
      have hb3' : Below Wp.heap.size Wp w3 := hb2'.trans (below_le hb3 hb2'.size)
      refine hK.out _ _ ?_ (fun hHeld2 => ?_)
      · exact hSk.out _ hb3'
      clear hK K
      (try simp only [Act.put, pu1, pu2, pu3, pu4, pu5, pu6])
      refine wpAnyH_take (i := 7) (v := (.agg #[y, z])) rfl (by kernel_rfl) (by kernel_rfl) (by kernel_rfl) (fun _ a _ h => leaves_tmps (each_results a _ _ (by decide)) _ _ _ h) (.inl ⟨by rfl, ?hya7⟩) (by assumption) ?resta7
      case hya7 => (intro w hSw; exact exec_build (vs := #[(0, y), (1, z)]) rfl (by simp [Act.eval]) (run_buildPair y z hy1 hz1' w))
      (try simp only [Act.put, pu1, pu2, pu3, pu4, pu5, pu6])
      refine wpAnyH_ready (rs := [8]) (by kernel_rfl) (by simp) ?_
      refine AllReadyH.cons rfl (fun K hK => ?_) AllReadyH.nil
      rw [if_pos (by rfl)]
      refine wp_of_exec (exec_buildSlice (vs := #[(0, .agg #[y, z])]) rfl (by simp [Act.eval]) (run_buildPair1 y z _)) ?_
      refine hK.out _ _ ?_ (fun hHeld2 => ?_)
      · exact hSk.out _ (hb3'.alloc hb3'.size _)
      clear hK K
      (try simp only [Act.put, pu1, pu2, pu3, pu4, pu5, pu6])
      refine wpAnyH_ready (rs := [9]) (by kernel_rfl) (by simp) ?_
      refine AllReadyH.cons rfl (fun K hK => ?_) AllReadyH.nil
      refine step_append_lies _ (by rfl) _ _ _ (by rfl) B2 151 i0 _ 2 32 Try.underlying156 hi0 hz0 hz1 hz2 rfl (by omega) _ ss.length (flatP ss) (by rfl) ((hCp.out.below hb3').list.own.alloc _) ⟨w3.heap.size, 0, none⟩ 1 1 [y, z] (by rfl) (by rfl) (World.news_of_block (cs := #[y, z]) (t := 151) (fr := (0, 0)) (heap_alloc_new w3 _)) (two_ones hy1 hz1') (by omega) (by unfold maxLen; omega) (by omega) (by have := hb3'.size; simp; omega) _ rfl ?_
      intro g2 cap2 w4 hown2 hgr2 hat2 hlt2
      refine hK.out _ _ ?_ (fun hHeld2 => ?_)
      · exact ⟨(hgr2.cell_far ⟨pb, 0, none⟩ (by have := hb3'.size; simp; omega) (fun e => hpbo.out pb (ownL_some.2 e.symm) rfl)).trans (hSk.out _ (hb3'.alloc hb3'.size _)).1, (hgr2.cell_far ⟨pb, 1, none⟩ (by have := hb3'.size; simp; omega) (fun e => hpbo.out pb (ownL_some.2 e.symm) rfl)).trans (hSk.out _ (hb3'.alloc hb3'.size _)).2⟩
      clear hK K
      (try simp only [Act.put, pu1, pu2, pu3, pu4, pu5, pu6])
      refine wpAnyH_take (i := 10) (v := ?va10) rfl (by kernel_rfl) (by kernel_rfl) (by kernel_rfl) (fun _ a _ h => leaves_tmps (each_results a _ _ (by decide)) _ _ _ h) (.inl ⟨by rfl, ?hya10⟩) (by assumption) ?resta10
      case hya10 => (intro w hSw; (try dsimp only at hSw); go_simp; first | done | with_reducible rfl)
      (try simp only [Act.put, pu1, pu2, pu3, pu4, pu5, pu6])
      refine wpAnyH_done (by kernel_rfl) ?_ _
      have hyk : VRep w3 e.k y gy := VRep.but hy (below_but0 hb3) (fun _ _ f => f)
      have hnd : (gy ++ gz).Nodup := List.nodup_append.2 ⟨hyn, hzn, fun a ha b hb e1 => by have h1 := VRep.lt _ _ _ hy a ha; have h2 := hzb b hb; omega⟩
      have hny : ∀ i ∈ gy ++ gz, Wp.heap.size ≤ i := fun i hi => by
        rcases List.mem_append.1 hi with hi | hi
        · exact hyb i hi
        · have h1 := hzb i hi; have h2 := hb2'.size; omega
      have hlow : ∀ i, i < B2 → w4.heap[i]? = w1.heap[i]? := fun i hi => by
        rw [hgr2.block i (by have := hb3'.size; simp; omega) (fun e1 => by have := (ownsRow_lt hCp.out.list.own i (ownL_some.2 e1.symm)).1; omega), Below.heap_alloc _ _ _ (by have := hb3'.size; omega)]
        exact (hb3'.block i (by omega)).trans (hbWp1.out.block i (by have := hszH.out; omega))
      have hstep := Lib.hid (CopsAt.step (e := ⟨e.k, e.v, y, z, gy, gz⟩) hCp.out hb3' hyk hz hrk.out hnd hny hWps hown2 hgr2 hat2 hlt2)
      have hr4 : RangeIs strF w4 b r raw ((lp ++ ls).map fE) := by
        have h1 := hr1H.out.keep (w' := w4) (hlow b hrlt.2.1) (hlow r hrlt.1)
        rw [hpreH.out] at h1; exact h1
      have hr4H := Lib.hid hr4
      have hsz4 : Wp.heap.size ≤ w4.heap.size := by have h1 := hgr2.size; have := hb3'.size; simp at h1; omega
      have hbel4 := Lib.hid (show Below w.heap.size w w4 from (hbWwH.out.trans (hb3'.mono hbWwH.out.size)).trans ((((Below.refl w3.heap.size w3).alloc (Nat.le_refl _) _).mono (by have := hb3'.size; have := hbWwH.out.size; omega)).grown hgr2 (by have := hb3'.size; have := hbWwH.out.size; simp; omega) (fun k hk => by have := (ownsRow_lt hCp.out.list.own k (ownL_some.2 hk)).1; have := hrbH.out; omega)))
      have hrb4 := Lib.hid (show w4.heap[rb]? = some (.cells #[.int .i64 0] 33 (0, 0)) from ((hlow rb hrlt.2.2).trans (hbWp1.out.block rb (by have := hszH.out; omega)).symm).trans hrbcW.out)
      clear hlow hr4 hny hnd hyk hy hyn hyb hz hzn hzb hown2 hgr2 hat2 hlt2 hb2 hb3 hb2' hb3' hHeld
      go_wp2_with fail
      go_roundw
      case rel => exact ⟨lp ++ ls, ss ++ [⟨e.k, e.v, y, z, gy, gz⟩], _, rfl, hr4H.out, hstep.out, hrp4.out y z gy gz, hsub2.out, hrb4.out, hbel4.out, by omega⟩
      case measure =>
        rw [hleft.out, hr4H.out.left_str, ← hpreH.out, hleft2.out]
        omega
end Go.Proofs.Ytgmdbpplfjkjmaa

/-! digest.Map.Each of a map that was never put into. -/
namespace Go.Proofs.Ytgmdbpplfjkjmaa
open Go.RowKit
set_option linter.unusedVariables false
set_option linter.unusedSimpArgs false

set_option maxRecDepth 100000 in
set_option maxHeartbeats 3200000 in
theorem each_none {w : World} {B m : Nat} {l : List PE} (h : MapW B w m none l) {L : List (Val × Val)} (hp : L.Perm (bareP l)) (F : FuncId) (caps : Array Value)
    (J : Nat → Nat → World → Prop) (go : Nat → Option Bool) (h0 : ∀ N W, Below w.heap.size w W → J N 0 W) :
    Calls Try.prog 18 #[.pointer (some ⟨m, 0, none⟩), .func (.func F) #[] caps] w (EachEnd L.length J go) := by
  have hl : l = [] := by
    obtain ⟨D, h1, h2⟩ := h.at_
    have h3 : D = .map [] := h1.2.2
    have h4 := h2.size
    rw [h3] at h4
    exact List.length_eq_zero_iff.1 h4.symm
  subst hl
  obtain rfl : L = [] := by have := hp.length_eq; exact List.length_eq_zero_iff.1 (by simpa [bareP] using this)
  have hmf : ∀ (fn : Fn) (first cap : Array Value) (w : World), (Instr.makeFunc fn first cap).run Try.prog w = .ok (.func fn first cap) w := fun _ _ _ _ => rfl
  have hmc : (w.alloc (.cells #[.int .i64 0] 33)).cell? ⟨m, 0, none⟩ = some (.map none) := by
    obtain ⟨D, h1, -⟩ := h.at_
    rw [((Below.refl w.heap.size w).alloc (Nat.le_refl _) _).cell (p := ⟨m, 0, none⟩) h1.lt.1, cell_of_row w m 0 _ _ _ h1.1]; rfl
  have hs := Lib.hid (fun W => sortP_said (w := W) (B := 0) (sv := .slice none 0 0) (ss := []) (World.ownsRow_nil _ _ _ _) (fun _ h => (by cases h)) (fun _ h => (by simp [fsM] at h)) (by decide))
  have h0H := Lib.hid h0
  have hrg := run_range_nilMap (P := Try.prog) (w.alloc (.cells #[.int .i64 0] 33)) 47 _ _ Try.underlying47
  have hnx : ∀ ty, (Instr.next (.pointer (some ⟨(w.alloc (.cells #[.int .i64 0] 33)).heap.size, 0, none⟩)) false ty).run Try.prog ((w.alloc (.cells #[.int .i64 0] 33)).alloc (.mapIter none 0 #[] 0)) = _ := fun ty => run_next_nilMap _ ty 0 0 #[]
  obtain ⟨rb, hrb⟩ : ∃ x, x = w.heap.size := ⟨_, rfl⟩
  obtain ⟨W2, hW2⟩ : ∃ W, W = (w.alloc (.cells #[.int .i64 0] 33)).alloc (.mapIter none 0 #[] 0) := ⟨_, rfl⟩
  have hbW2 := Lib.hid (show Below w.heap.size w W2 by rw [hW2]; exact ((Below.refl _ _).alloc (Nat.le_refl _) _).alloc (by simp) _)
  have hrbW := Lib.hid (show W2.heap[rb]? = some (.cells #[.int .i64 0] 33 (0, 0)) by rw [hW2, hrb]; exact (Below.heap_alloc _ _ _ (by simp)).trans (heap_alloc_new w _))
  have hrbl : rb < W2.heap.size := (Array.getElem?_eq_some_iff.1 hrbW.out).1
  simp only [World.size_alloc] at hrg hnx
  have hW2H := Lib.hid hW2
  have hrbH := Lib.hid hrb
  clear hW2 hrb
  clear h hp h0
  go_enter_defers Try.func18, Try.ntmps18
  go_wp2_with fail
  refine wp_loop_rounds 1 ?_
  rw [rounds_succ]
  go_wp2_with fail
  rw [← hW2H.out]
  refine (hs.out W2).mono ?_
  rintro e w3 ⟨rfl, ts, htp, -, -, hbut3⟩
  have hts : ts = [] := List.Perm.eq_nil htp
  have hb3 : Below w.heap.size w w3 := hbW2.out.trans (hbut3.below' (by have := hbW2.out.size; omega) (fun i hi ho => by simp [ownL, Value.ownBlock] at ho))
  have hrb3 : w3.heap[rb]? = some (.cells #[.int .i64 0] 33 (0, 0)) := (hbut3.block rb hrbl (fun ho => by simp [ownL, Value.ownBlock] at ho)).trans hrbW.out
  have hrl3 : rb < w3.heap.size := (Array.getElem?_eq_some_iff.1 hrb3).1
  obtain ⟨db, hdb⟩ : ∃ x, x = w3.heap.size := ⟨_, rfl⟩
  obtain ⟨W0, hW0⟩ : ∃ W, W = w3.alloc (.cells #[.bool false] 4) := ⟨_, rfl⟩
  have hb30 : Below w3.heap.size w3 W0 := by rw [hW0]; exact (Below.refl _ _).alloc (Nat.le_refl _) _
  have hdb5 : W0.heap[db]? = some (.cells #[.bool false] 4 (0, 0)) := by rw [hW0, hdb]; exact heap_alloc_new w3 _
  have hrb5 : W0.heap[rb]? = some (.cells #[.int .i64 0] 33 (0, 0)) := (hb30.block rb hrl3).trans hrb3
  have q1 : W0.cell? ⟨db, 0, none⟩ = some (.bool false) := by rw [cell_of_row W0 db 0 _ _ _ hdb5]; rfl
  have q2 : W0.cell? ⟨rb, 0, none⟩ = some (.int .i64 0) := by rw [cell_of_row W0 rb 0 _ _ _ hrb5]; rfl
  have z1 : W0.frozen? ⟨db, 0, none⟩ = false := by simp [World.frozen?, hdb5]
  have z2 : W0.frozen? ⟨rb, 0, none⟩ = false := by simp [World.frozen?, hrb5]
  have hdr : ¬ db = rb := by omega
  have hbF := Lib.hid (show ∀ x y, Below w.heap.size w ((W0.setCell ⟨db, 0, none⟩ x).setCell ⟨rb, 0, none⟩ y) from fun x y => (((But.refl (fun i => w.heap.size ≤ i) w).of_below (hb3.trans (hb30.mono hb3.size)) (fun i _ h => h)).setCell (p := ⟨db, 0, none⟩) (fun h => (by have h1 := hb3.size; show w.heap.size ≤ db; omega)) x).setCell (p := ⟨rb, 0, none⟩) (fun h => (by show w.heap.size ≤ rb; have := hrbH.out; omega)) y |>.below (Nat.le_refl _))
  have hW0H := Lib.hid hW0
  have hdbH := Lib.hid hdb
  clear hbut3 hb3 hrb3 hrl3 hb30 hdb5 hrb5 hW0 hdb htp hts
  go_wp2_with fail
  rw [← hW0H.out, ← hdbH.out, ← hrbH.out]
  refine wp_loop_rounds 1 ?_
  rw [rounds_succ]
  go_wp2
  refine leaves_cons (f := 84) (args := #[.pointer (some ⟨db, 0, none⟩), .pointer (some ⟨rb, 0, none⟩)]) (by simp) (by simp [go_sem]) ?_
  refine (each2_idle _ _ _ (by simp [go_sem, q1, q2, z1, z2, hdr])).mono ?_
  rintro e u' w'' ⟨rfl, rfl, rfl⟩
  exact ⟨.int .i64 0, by simp [results, Try.results18, go_sem, q1, q2, z1, z2, hdr], 0, 0, Nat.le_refl _, fun j h => absurd h (by omega), h0H.out 0 _ (hbF.out _ _), .inl ⟨rfl, fun j h => absurd h (by omega), rfl⟩⟩
end Go.Proofs.Ytgmdbpplfjkjmaa
