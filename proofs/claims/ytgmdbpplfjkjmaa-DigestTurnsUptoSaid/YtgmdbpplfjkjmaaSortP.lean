/- slices.SortFunc of the shelf, at lists of a map's pairs. -/
import Derived.Test.YtgmdbpplfjkjmaaVal
import Derived.Shelf.SlSortCmp.NoneTotal
import Derived.Test.YtgmdbpplfjkjmaaValDrawn
import Derived.Test.YtgmdbpplfjkjmaaOrdEnd
import Derived.Test.YtgmdbpplfjkjmaaValEnd
import Derived.Test.YtgmdbpplfjkjmaaMapAll
namespace Go.Proofs.Ytgmdbpplfjkjmaa
open Go.RowKit Go.Sort
set_option linter.unusedVariables false
set_option linter.unusedSimpArgs false

def sortPRen : Go.Shelf.Ren := ⟨fun n => if n == 6 then 82 else if n == 14 then 151 else if n == 15 then 152 else if n == 28 then 203 else if n == 29 then 204 else if n == 47 then 241 else if n == 48 then 242 else if n == 20 then 195 else if n == 21 then 196 else if n == 22 then 197 else if n == 23 then 198 else if n == 24 then 199 else if n == 25 then 200 else if n == 26 then 201 else if n == 27 then 202 else if n == 46 then 240 else if n == 49 then 243 else if n == 50 then 244 else 263,
  fun n => if n == 0 then 0 else if n == 3 then 3 else if n == 4 then 4 else if n == 5 then 5 else if n == 9 then 9 else if n == 22 then 156 else if n == 24 then 151 else if n == 25 then 158 else if n == 39 then 229 else if n == 45 then 292 else if n == 46 then 293 else if n == 50 then 138 else if n == 53 then 299 else if n == 55 then 27 else if n == 66 then 326 else if n == 70 then 226 else if n == 76 then 341 else 342, fun x => x⟩
theorem sortPLays : SlLaysF0.n6 Try.prog sortPRen where
  mixed := by kernel_rfl
  f6 := ⟨"slices.SortFunc[[]tenon/digest.pair,tenon/digest.pair]", by decide, by kernel_rfl⟩
  f14 := ⟨"slices.pdqsortCmpFunc[tenon/digest.pair]", by decide, by kernel_rfl⟩
  f15 := by kernel_rfl
  f20 := ⟨"slices.insertionSortCmpFunc[tenon/digest.pair]", by decide, by kernel_rfl⟩
  f21 := ⟨"slices.heapSortCmpFunc[tenon/digest.pair]", by decide, by kernel_rfl⟩
  f22 := ⟨"slices.breakPatternsCmpFunc[tenon/digest.pair]", by decide, by kernel_rfl⟩
  f23 := ⟨"slices.choosePivotCmpFunc[tenon/digest.pair]", by decide, by kernel_rfl⟩
  f24 := ⟨"slices.reverseRangeCmpFunc[tenon/digest.pair]", by decide, by kernel_rfl⟩
  f25 := ⟨"slices.partialInsertionSortCmpFunc[tenon/digest.pair]", by decide, by kernel_rfl⟩
  f26 := ⟨"slices.partitionEqualCmpFunc[tenon/digest.pair]", by decide, by kernel_rfl⟩
  f27 := ⟨"slices.partitionCmpFunc[tenon/digest.pair]", by decide, by kernel_rfl⟩
  f28 := by kernel_rfl
  f29 := by kernel_rfl
  f46 := ⟨"slices.siftDownCmpFunc[tenon/digest.pair]", by decide, by kernel_rfl⟩
  f47 := by kernel_rfl
  f48 := by kernel_rfl
  f49 := ⟨"slices.medianAdjacentCmpFunc[tenon/digest.pair]", by decide, by kernel_rfl⟩
  f50 := ⟨"slices.medianCmpFunc[tenon/digest.pair]", by decide, by kernel_rfl⟩
  f57 := ⟨"slices.order2CmpFunc[tenon/digest.pair]", by decide, by kernel_rfl⟩
  t0 := by kernel_rfl
  a0 := fun _ => by kernel_rfl
  z0 := fun _ => by kernel_rfl
  v0 := fun _ => by kernel_rfl
  t3 := by kernel_rfl
  a3 := fun _ => by kernel_rfl
  z3 := fun _ => by kernel_rfl
  v3 := fun _ => by kernel_rfl
  t4 := by kernel_rfl
  a4 := fun _ => by kernel_rfl
  z4 := fun _ => by kernel_rfl
  v4 := fun _ => by kernel_rfl
  t5 := by kernel_rfl
  a5 := fun _ => by kernel_rfl
  z5 := fun _ => by kernel_rfl
  v5 := fun _ => by kernel_rfl
  t9 := by kernel_rfl
  a9 := fun _ => by kernel_rfl
  z9 := fun _ => by kernel_rfl
  v9 := fun _ => by kernel_rfl
  t22 := by kernel_rfl
  a22 := fun _ => by kernel_rfl
  z22 := fun _ => by kernel_rfl
  v22 := fun _ => by kernel_rfl
  t25 := by kernel_rfl
  a25 := fun _ => by kernel_rfl
  z25 := fun _ => by kernel_rfl
  v25 := fun _ => by kernel_rfl
  t39 := by kernel_rfl
  a39 := fun _ => by kernel_rfl
  z39 := fun _ => by kernel_rfl
  v39 := fun _ => by kernel_rfl
  t45 := by kernel_rfl
  a45 := fun _ => by kernel_rfl
  z45 := fun _ => by kernel_rfl
  v45 := fun _ => by kernel_rfl
  t46 := by kernel_rfl
  a46 := fun _ => by kernel_rfl
  z46 := fun _ => by kernel_rfl
  v46 := fun _ => by kernel_rfl
  t50 := by kernel_rfl
  a50 := fun _ => by kernel_rfl
  z50 := fun _ => by kernel_rfl
  v50 := fun _ => by kernel_rfl
  t53 := by kernel_rfl
  a53 := fun _ => by kernel_rfl
  z53 := fun _ => by kernel_rfl
  v53 := fun _ => by kernel_rfl
  t55 := by kernel_rfl
  a55 := fun _ => by kernel_rfl
  z55 := fun _ => by kernel_rfl
  v55 := fun _ => by kernel_rfl
  t66 := by kernel_rfl
  a66 := fun _ => by kernel_rfl
  z66 := fun _ => by kernel_rfl
  v66 := fun _ => by kernel_rfl
  t70 := by kernel_rfl
  a70 := fun _ => by kernel_rfl
  z70 := fun _ => by kernel_rfl
  v70 := fun _ => by kernel_rfl
  t76 := by kernel_rfl
  a76 := fun _ => by kernel_rfl
  z76 := fun _ => by kernel_rfl
  v76 := fun _ => by kernel_rfl
  t77 := by kernel_rfl
  a77 := fun _ => by kernel_rfl
  z77 := fun _ => by kernel_rfl
  v77 := fun _ => by kernel_rfl
end Go.Proofs.Ytgmdbpplfjkjmaa

/-! The order by which digest.Map.Each sorts, and the sort. -/
namespace Go.Proofs.Ytgmdbpplfjkjmaa
open Go.RowKit Go.Sort Go.Shelf
set_option linter.unusedVariables false
set_option linter.unusedSimpArgs false

set_option maxRecDepth 100000 in
theorem OrderG_ok {w : World} {v u : Val} {x y : Value} {fs gs : List Nat} (h : VRep w v x fs) (h' : VRep w u y gs) (ho : okB v = true) (ho' : okB u = true) :
    Calls Try.prog 136 #[x, y] w fun e w' => e = .returned (.tuple #[.int .i64 (cmpV v u), .int .i64 0]) ∧ Grew w w' := by
  have hc := check_anyD h
  rw [check_ok ho] at hc
  have hcH := Lib.hid hc
  have hdH := Lib.hid (fun (W : World) (hb : Grew w W) => by
    have hd := check_anyD (h'.grew hb)
    rw [check_ok ho'] at hd
    exact hd)
  have hord := Lib.hid (fun (W : World) (hb : Grew w W) => order_any v u x y fs gs W (h.grew hb) (h'.grew hb) (okV_check ho) (okV_check ho'))
  have hx := h.one
  have hy := h'.one
  clear h h' ho ho' hc
  go_enter Try.func136, Try.ntmps136
  go_wp2_with fail
  refine hcH.out.mono ?_
  rintro e w1 ⟨rfl, hb1⟩
  have hg1 := Lib.hid hb1.grew
  clear hb1
  go_wp2_with fail
  refine (hdH.out w1 hg1.out).mono ?_
  rintro e w2 ⟨rfl, hb2⟩
  have hg2 := Lib.hid (hg1.out.trans hb2.grew)
  clear hb2
  go_wp2_with fail
  refine (hord.out w2 hg2.out).mono ?_
  rintro e w3 ⟨rfl, hg3⟩
  have hg := Lib.hid (hg2.out.trans hg3)
  clear hg3
  go_wp2
  go_ret2
  exact ⟨rfl, hg.out⟩
set_option maxRecDepth 100000 in
theorem dorderG_ok {w : World} {v u : Val} {x y : Value} {fs gs : List Nat} (h : VRep w v x fs) (h' : VRep w u y gs) (ho : okB v = true) (ho' : okB u = true) :
    Calls Try.prog 73 #[x, y] w fun e w' => e = .returned (.int .i64 (cmpV v u)) ∧ Grew w w' := by
  have hc := Lib.hid (OrderG_ok h h' ho ho')
  have hx := h.one
  have hy := h'.one
  clear h h' ho ho'
  go_enter Try.func73, Try.ntmps73
  go_wp2_with fail
  refine hc.out.mono ?_
  rintro e w1 ⟨rfl, hg⟩
  have hgH := Lib.hid hg
  clear hg
  go_wp2
  go_ret
  exact ⟨rfl, hgH.out⟩
set_option maxRecDepth 100000 in
/-- Each$1: two pairs by their keys. -/
theorem eachCmp_ok {w : World} {v u : Val} {x y c c' : Value} {fs gs : List Nat} (h : VRep w v x fs) (h' : VRep w u y gs) (ho : okB v = true) (ho' : okB u = true) (hc : c.oneCell' = true) (hc' : c'.oneCell' = true) :
    Calls Try.prog 83 #[.agg #[x, c], .agg #[y, c']] w fun e w' => e = .returned (.int .i64 (cmpV v u)) ∧ Grew w w' := by
  obtain ⟨W, hW⟩ : ∃ W, W = (w.alloc (.cells #[x, c] 151)).alloc (.cells #[y, c'] 151) := ⟨_, rfl⟩
  have hgW : Grew w W := by rw [hW]; exact ((Grew.refl w).alloc _).alloc _
  have hd := Lib.hid (dorderG_ok (h.grew hgW) (h'.grew hgW) ho ho')
  have b1 : W.heap[w.heap.size]? = some (.cells #[x, c] 151 (0, 0)) := by rw [hW]; exact (Below.heap_alloc _ _ _ (by simp)).trans (heap_alloc_new w _)
  have b2 : W.heap[w.heap.size + 1]? = some (.cells #[y, c'] 151 (0, 0)) := by rw [hW]; exact heap_alloc_at _ (by simp)
  have q1 : W.cell? ⟨w.heap.size, 0, none⟩ = some x := by rw [cell_of_row W _ 0 _ _ _ b1]; rfl
  have q2 : W.cell? ⟨w.heap.size + 1, 0, none⟩ = some y := by rw [cell_of_row W _ 0 _ _ _ b2]; rfl
  have hx := h.one
  have hy := h'.one
  have hgH := Lib.hid hgW
  have hWH := Lib.hid hW
  clear h h' ho ho' hgW hW b1 b2
  go_enter Try.func83, Try.ntmps83
  go_wp2_with fail
  rw [← hWH.out]
  go_wp2_with fail
  refine hd.out.mono ?_
  rintro e w1 ⟨rfl, hg⟩
  have hg2 := Lib.hid (hgH.out.trans hg)
  clear hg
  go_wp2
  go_ret
  exact ⟨rfl, hg2.out⟩
end Go.Proofs.Ytgmdbpplfjkjmaa

/-! slices.SortFunc at a map's pairs that were copied. -/
namespace Go.Proofs.Ytgmdbpplfjkjmaa
open Go.RowKit Go.Sort Go.Shelf
set_option linter.unusedVariables false
set_option linter.unusedSimpArgs false

def flatP (ss : List PE) : List Value := ss.flatMap fun e => [e.a, e.c]
theorem flatP_append (l m : List PE) : flatP (l ++ m) = flatP l ++ flatP m := by unfold flatP; rw [List.flatMap_append]
theorem flatP_length : ∀ ss : List PE, (flatP ss).length = ss.length * 2
  | [] => rfl
  | e :: l => by
    show ([e.a, e.c] ++ flatP l).length = _
    rw [List.length_append, flatP_length l, List.length_cons]; simp; omega
theorem flatP_at : ∀ (ss : List PE) (k : Nat) (e : PE), ss[k]? = some e → (flatP ss)[k * 2]? = some e.a ∧ (flatP ss)[k * 2 + 1]? = some e.c
  | [], k, e, h => by simp at h
  | q :: l, 0, e, h => by
    obtain rfl : q = e := by simpa using h
    exact ⟨rfl, rfl⟩
  | q :: l, k + 1, e, h => by
    have := flatP_at l k e (by simpa using h)
    have e1 : flatP (q :: l) = q.a :: q.c :: flatP l := rfl
    rw [e1, show (k + 1) * 2 = k * 2 + 1 + 1 by omega]
    exact this
/-- A copy that stands in memory. -/
def InP (w : World) (g : Nat) (e : PE) : Prop := VRep w e.k e.a e.ga ∧ VRep w e.v e.c e.gc ∧ okB e.k = true ∧ okB e.v = true ∧ ∀ b ∈ e.fs, b ≠ g
def cellsP {w : World} {g : Nat} (x : { e : PE // InP w g e }) : List Value := [x.1.a, x.1.c]
theorem flatK_P {w : World} {g : Nat} [Inhabited { e : PE // InP w g e }] (d : Array { e : PE // InP w g e }) : flatK cellsP 2 d = (flatP (d.toList.map (·.1))).toArray := by
  refine ext_get! (by simp [flatP_length]) (fun t ht => ?_)
  have ht' : t < d.size * 2 := by simpa using ht
  rw [get_flatK _ _ _ t ht']
  have hj : t / 2 < d.size := by omega
  have hd : d[t / 2]! = d[t / 2] := getElem!_pos d _ hj
  have hm : (d.toList.map (·.1))[t / 2]? = some d[t / 2].1 := by rw [List.getElem?_map]; simp [hj]
  obtain ⟨f1, f2⟩ := flatP_at _ _ _ hm
  rw [hd]
  have hr : ((flatP (d.toList.map (·.1))).toArray)[t]! = ((flatP (d.toList.map (·.1)))[t]?).getD default := by
    rw [Array.getElem!_eq_getD, Array.getD_eq_getD_getElem?, List.getElem?_toArray]
  rw [hr]
  rcases Nat.mod_two_eq_zero_or_one t with h | h
  · have e : t = t / 2 * 2 := by omega
    rw [← e] at f1
    rw [h, f1]; rfl
  · have e : t = t / 2 * 2 + 1 := by omega
    rw [← e] at f2
    rw [h, f2]; rfl
theorem heap_putI {w : World} {g n : Nat} {os : Array Obj} {cur : Array Value} {e : TypeId} {fr : Nat × Nat} (d : Array Value) (hb : w.heap[g]? = some (.cells cur e fr)) :
    (grow (putRow id (Sort.ahead w n) g 0 d) os).heap[g]? = some (.cells (putCells id 0 d cur) e fr) := by
  have hg : g < w.heap.size := (Array.getElem?_eq_some_iff.1 hb).1
  rw [heap_grow_old _ _ (by simpa using hg)]
  simp [putRow, mapBlock, Sort.ahead, Array.getElem?_modify, hb, onCells]
theorem but_putI {w : World} {g n : Nat} {os : Array Obj} (d : Array Value) : But (fun i => i = g) w (grow (putRow id (Sort.ahead w n) g 0 d) os) := by
  refine ⟨rfl, rfl, rfl, by simp, fun k hk hne => ?_⟩
  rw [heap_grow_old _ _ (by simpa using hk)]
  have : g ≠ k := fun e => hne e.symm
  simp [putRow, mapBlock, Sort.ahead, Array.getElem?_modify, this]
theorem take_putI (cur : Array Value) (ts : List Value) (h : ts.length ≤ cur.size) : (putCells id 0 ts.toArray cur).toList.take ts.length = ts := by
  apply List.ext_getElem?
  intro j
  by_cases hj : j < ts.length
  · rw [List.getElem?_take_of_lt hj, Array.getElem?_toList]
    simp only [putCells, Array.getElem?_mapIdx, Nat.zero_le, Nat.zero_add, true_and, Nat.sub_zero]
    rw [Array.getElem?_eq_getElem (by omega : j < cur.size)]
    simp [hj]
  · rw [List.getElem?_take_eq_none (by omega), List.getElem?_eq_none (by omega)]
theorem cmpP_neg {v u : Val} (h : cmpV v u < 0) : cmpV v u = -1 := by rcases cmpV_one v u with h1 | h1 | h1 <;> omega
theorem ltP_swo {w : World} {g : Nat} : SWO (ltOf (fun x y : { e : PE // InP w g e } => cmpV x.1.k y.1.k)) where
  irrefl := fun x => by simp [ltOf, cmpV_self]
  trans := fun x y z h1 h2 => by
    simp only [ltOf, decide_eq_true_eq] at *
    have a := cmpP_neg h1
    have := cmpV_lt a (by omega : cmpV y.1.k z.1.k ≤ 0)
    omega
  ntrans := fun x y z h1 h2 => by
    simp only [ltOf, decide_eq_false_iff_not] at *
    intro h3
    have h4 : cmpV z.1.k y.1.k ≤ 0 := by rw [cmpV_swap]; omega
    have := cmpV_lt (cmpP_neg h3) h4
    omega
/-- THE SORT: the same pairs, none less than one ahead of it. -/
theorem sortP_said {w : World} {B : Nat} {sv : Value} {ss : List PE} (hrow : w.ownsRow B 151 2 sv ss.length (flatP ss)) (hok : ∀ e ∈ ss, VRep w e.k e.a e.ga ∧ VRep w e.v e.c e.gc ∧ okB e.k = true ∧ okB e.v = true) (hfs : ∀ b ∈ fsM ss, b ∉ ownL sv) (hn : ss.length ≤ 1048576) :
    Calls Try.prog 82 #[sv, .func (.func 83) #[] #[]] w fun e w' => e = .returned (.tuple #[]) ∧
      ∃ ts : List PE, ts.Perm ss ∧ ts.Pairwise (fun p q => ¬ cmpV q.k p.k < 0) ∧ w'.ownsRow B 151 2 sv ts.length (flatP ts) ∧ But (fun i => i ∈ ownL sv) w w' := by
  rcases hrow.2 with ⟨rfl, hz⟩ | ⟨g, cap, cur, rfl, hbase, hblk, h1, h2, h3, h4⟩
  · obtain rfl : ss = [] := List.length_eq_zero_iff.1 hz
    refine (AnyF.slices_SortFunc_none (ρ := sortPRen) (P := Try.prog) sortPLays none 0 (.func (.func 83) #[] #[]) w).mono ?_
    rintro e w2 ⟨rfl, rfl⟩
    exact ⟨rfl, [], List.Perm.refl _, List.Pairwise.nil, hrow, But.refl _ _⟩
  · have hgw := (Array.getElem?_eq_some_iff.1 hblk).1
    by_cases hss : ss = []
    · subst hss
      refine (AnyF.slices_SortFunc_none (ρ := sortPRen) (P := Try.prog) sortPLays (some ⟨g, 0, none⟩) cap (.func (.func 83) #[] #[]) w).mono ?_
      rintro e w2 ⟨rfl, rfl⟩
      exact ⟨rfl, [], List.Perm.refl _, List.Pairwise.nil, hrow, But.refl _ _⟩
    · obtain ⟨e0, he0⟩ := List.exists_mem_of_ne_nil ss hss
      have hin : ∀ e ∈ ss, InP w g e := fun e he => by
        obtain ⟨r1, r2, r3, r4⟩ := hok e he
        exact ⟨r1, r2, r3, r4, fun b hb e1 => hfs b (fsM_of he b hb) (by rw [e1]; simp [ownL, Value.ownBlock])⟩
      haveI : Inhabited { e : PE // InP w g e } := ⟨⟨e0, hin e0 he0⟩⟩
      obtain ⟨d, hd⟩ : ∃ d : Array { e : PE // InP w g e }, d = (ss.attach.map fun e => (⟨e.1, hin e.1 e.2⟩ : { e : PE // InP w g e })).toArray := ⟨_, rfl⟩
      have hdl : d.toList.map (·.1) = ss := by rw [hd]; simp [List.map_map, Function.comp_def]
      have hds : d.size = ss.length := by rw [hd]; simp
      have hfl : flatK cellsP 2 d = (flatP ss).toArray := by rw [flatK_P, hdl]
      have hH : HoldsK cellsP 2 w g 0 d := by
        show Holds id w g 0 (flatK cellsP 2 d)
        rw [hfl]
        intro j hj
        have hj' : j < (flatP ss).length := by simpa using hj
        refine ⟨?_, by simp [World.frozen?, hblk]⟩
        have h5 := hrow.cellAt j (by rw [flatP_length] at hj'; exact hj')
        rw [Nat.zero_add, h5]
        simp [hj']
      have hcmp : CmpLays Try.prog 83 #[] cellsP 2 (fun x y : { e : PE // InP w g e } => cmpV x.1.k y.1.k) g 0 d.size w := by
        intro m os dk hdk x y
        have hk : ∀ (z : { e : PE // InP w g e }), VRep (sortWorldK cellsP 2 w g 0 m dk os) z.1.k z.1.a z.1.ga := fun z => VRep.keep _ _ _ z.2.1 (fun b hb => (but_putI (w := w) (g := g) (n := m) (os := os) (flatK cellsP 2 dk)).block b (VRep.lt _ _ _ z.2.1 b hb) (z.2.2.2.2.2 b (List.mem_append_left _ hb)))
        refine (eachCmp_ok (hk x) (hk y) x.2.2.2.1 y.2.2.2.1 x.2.2.1.one y.2.2.1.one).mono ?_
        rintro e w' ⟨rfl, ⟨q, os'⟩, hw⟩
        exact ⟨rfl, q, os', hw⟩
      have hs := AnyQ.slices_SortFunc (P := Try.prog) (ρ := sortPRen) sortPLays 2 (fun _ => by kernel_rfl) (fun _ => by kernel_rfl) cellsP (fun _ => rfl) (fun x v hv => by
        rcases List.mem_cons.1 hv with rfl | hv
        · exact x.2.1.one
        · rw [List.mem_singleton.1 hv]; exact x.2.2.1.one) (fun x y => cmpV x.1.k y.1.k) ltP_swo 83 #[] g 0 cap d w (fun args w => by kernel_rfl) hcmp hH hgw (by rw [hds]; omega)
      rw [hds] at hs
      refine hs.mono ?_
      rintro e w' ⟨rfl, d', n, os, ⟨hp1, -, hp3⟩, hsrt, hw⟩
      have hd's : d'.size = ss.length := hp1.trans hds
      have hpm : d'.toList.Perm d.toList := by
        have e1 : d'.extract 0 ss.length = d' := by rw [← hd's]; simp
        have e2 : d.extract 0 ss.length = d := by rw [← hds]; simp
        rw [e1, e2] at hp3
        exact hp3
      refine ⟨rfl, d'.toList.map (·.1), ?_, ?_, ?_, ?_⟩
      · have := hpm.map (fun x : { e : PE // InP w g e } => x.1)
        rwa [hdl] at this
      · refine List.pairwise_map.2 (List.pairwise_iff_getElem.2 (fun i j hi hj hij => ?_))
        have hi' : i < d'.size := by simpa using hi
        have hj' : j < d'.size := by simpa using hj
        have h6 := hsrt i j (Nat.zero_le _) hij (by omega)
        rw [getElem!_pos d' j hj', getElem!_pos d' i hi'] at h6
        simpa [ltOf] using h6
      · have hl : (d'.toList.map (·.1)).length = ss.length := by simp [hd's]
        have hfl' : flatK cellsP 2 d' = (flatP (d'.toList.map (·.1))).toArray := flatK_P d'
        subst hw
        show (grow (putRow id (Sort.ahead w n) g 0 (flatK cellsP 2 d')) os).ownsRow B 151 2 _ _ _
        rw [hfl', hl]
        have hfll : (flatP (d'.toList.map (·.1))).length = ss.length * 2 := by rw [flatP_length, hl]
        have hmul : ss.length * 2 ≤ cap * 2 := Nat.mul_le_mul_right _ h1
        refine ⟨hfll, .inr ⟨g, cap, _, rfl, hbase, heap_putI _ hblk, h1, h2, by simp [putCells, h3], ?_⟩⟩
        rw [← hfll]
        exact take_putI cur _ (by rw [hfll]; omega)
      · subst hw
        exact (but_putI _).mono (fun i _ hi => by subst hi; simp [ownL, Value.ownBlock])
end Go.Proofs.Ytgmdbpplfjkjmaa
