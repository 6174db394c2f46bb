/- The document's map of layer 5: Put. -/
import Derived.Test.YtgmdbpplfjkjmaaRefMap
import Derived.Laws.CopyRow
import Derived.Lib.AppendZeros
namespace Go.Proofs.Ytgmdbpplfjkjmaa
open Go.RowKit
set_option linter.unusedVariables false
set_option linter.unusedSimpArgs false

/-- A struct is stored into a row at a place of its own. -/
theorem wp_store_part {P : Program} {o : Oper} {a : Act} {w : World} {K : Act → World → Prop} {Q : Exit → Act → World → Prop} (ty : TypeId) (x y : Operand) (ho : o.op = .store ty x y)
    (g k : Nat) (cs : List Value) (hx : a.eval x = .pointer (some ⟨g, k, none⟩)) (hy : a.eval y = .agg cs.toArray)
    (t : TypeId) (cur : Array Value) (hg : w.heap[g]? = some (.cells cur t (0, 0))) (hi : (P.info? ty).map (·.size) = some cs.length)
    (hfit : k + cs.length ≤ cur.size) (h1 : ∀ u ∈ cs, u.oneCell' = true)
    (h : K (a.put o.dst undef) (w.setRow g (cur.toList.take k ++ cs ++ cur.toList.drop (k + cs.length)).toArray)) : o.wp P a w K Q := by
  have hst := run_storeCells_at P g k t cs 0 cur w hg (by simpa using hfit) h1
  simp only [Nat.add_zero] at hst
  cases hq : P.info? ty with
  | none => simp [hq] at hi
  | some i =>
    have hs : cs.length = i.size := by simp [hq] at hi; omega
    have hr : (storeVar ty ⟨g, k, none⟩ (.agg cs.toArray)).run P w = .ok () (w.setRow g (cur.toList.take k ++ cs ++ cur.toList.drop (k + cs.length)).toArray) := by
      simp [storeVar, sizeOf, typeInfo, hq, Value.cells, hs]
      simpa [hs] using hst
    unfold Oper.wp execOp
    simp only [ho, hx, hy, Instr.storeAt, Instr.sureAddr, Sem.run_bind, Sem.run_pure, Result.andThen_ok, hr]
    exact h
theorem row_part {w : World} {B : Nat} {T : TypeId} {size g cap n : Nat} {xs : List Value} (h : w.ownsRow B T size (.slice (some ⟨g, 0, none⟩) n cap) n xs) (k : Nat) (cs : List Value) (hk : k + cs.length ≤ n * size) :
    ∃ cur, w.heap[g]? = some (.cells cur T (0, 0)) ∧ k + cs.length ≤ cur.size ∧ (w.setRow g (cur.toList.take k ++ cs ++ cur.toList.drop (k + cs.length)).toArray).ownsRow B T size (.slice (some ⟨g, 0, none⟩) n cap) n (xs.take k ++ cs ++ xs.drop (k + cs.length)) := by
  obtain ⟨hl, ⟨h1, -⟩ | ⟨g', cap', cur, h1, hB, hc, hn, hm, hs, ht⟩⟩ := h
  · cases h1
  · obtain ⟨rfl, rfl⟩ : g' = g ∧ cap' = cap := by
      injection h1 with e1 e2 e3
      injection e1 with e4
      injection e4 with e5
      exact ⟨e5.symm, e3.symm⟩
    have hsz : n * size ≤ cap' * size := Nat.mul_le_mul_right _ hn
    have hcl : cur.toList.length = cap' * size := by rw [Array.length_toList, hs]
    refine ⟨cur, hc, by omega, ?_, .inr ⟨g', cap', _, rfl, hB, setRow_heap w g' cur _ _ _ hc, hn, hm, ?_, ?_⟩⟩
    · simp only [List.length_append, List.length_take, List.length_drop]; omega
    · simp only [List.size_toArray, List.length_append, List.length_take, List.length_drop]; omega
    · show List.take (n * size) (cur.toList.take k ++ cs ++ cur.toList.drop (k + cs.length)) = _
      obtain ⟨N, hN⟩ : ∃ N, N = n * size := ⟨_, rfl⟩
      rw [← hN] at hk ht hl hsz ⊢
      have e1 : (cur.toList.take k ++ cs).length = k + cs.length := by rw [List.length_append, List.length_take, hcl]; omega
      rw [← ht, List.take_take, Nat.min_eq_left (by omega), List.drop_take, List.take_append, List.take_of_length_le (l := cur.toList.take k ++ cs) (by omega), e1]
theorem flatQ_putIn {qs : List QE} (hw : wideQ qs) (i : Nat) (hi : i ≤ qs.length) (q : QE) : (flatQ qs).take (i * 22) ++ (q.kc ++ q.vc) ++ (flatQ qs).drop (i * 22) = flatQ (qs.take i ++ q :: qs.drop i) := by
  rw [flatQ_take hw i hi, flatQ_drop hw i hi, flatQ_append, List.append_assoc]; rfl
theorem flatQ_change {qs : List QE} (hw : wideQ qs) {i : Nat} {q : QE} (hq : qs[i]? = some q) (u : Term) (cs : List Value) (hcs : cs.length = 11) :
    (flatQ qs).take (i * 22 + 11) ++ cs ++ (flatQ qs).drop (i * 22 + 11 + cs.length) = flatQ (qs.take i ++ ⟨q.kc, q.k, cs, u⟩ :: qs.drop (i + 1)) := by
  have hi := (List.getElem?_eq_some_iff.1 hq).1
  obtain ⟨h1, h2⟩ := hw q (List.mem_of_getElem? hq)
  have hl : (flatQ (qs.take i)).length = i * 22 := by rw [flatQ_length (hw.take i), List.length_take]; omega
  have e : flatQ qs = flatQ (qs.take i) ++ q.kc ++ q.vc ++ flatQ (qs.drop (i + 1)) := by
    have h3 : flatQ qs = flatQ (qs.take i ++ q :: qs.drop (i + 1)) := by rw [← splitQ hq]
    rw [h3, flatQ_append]
    show _ ++ ((q.kc ++ q.vc) ++ flatQ (qs.drop (i + 1))) = _
    simp only [List.append_assoc]
  have a1 : (flatQ qs).take (i * 22 + 11) = flatQ (qs.take i) ++ q.kc := by
    rw [e, List.append_assoc]; exact List.take_left' (by rw [List.length_append, hl, h1])
  have a2 : (flatQ qs).drop (i * 22 + 11 + cs.length) = flatQ (qs.drop (i + 1)) := by
    rw [e]; exact List.drop_left' (by rw [List.length_append, List.length_append, hl, h1, h2, hcs])
  rw [a1, a2, flatQ_append]
  show _ = _ ++ ((q.kc ++ cs) ++ flatQ (qs.drop (i + 1)))
  simp only [List.append_assoc]
theorem pairRow : RowT Try.prog 155 51 22 304 := ⟨by kernel_rfl, by kernel_rfl, by omega, by omega⟩
/-- What is put, in plain. -/
def putQ (qs : List QE) (i : Nat) (q : QE) : List QE := qs.take i ++ q :: qs.drop i
def setQ (qs : List QE) (i : Nat) (q : QE) : List QE := qs.take i ++ q :: qs.drop (i + 1)
theorem putQ_ok {w : World} {qs : List QE} {i : Nat} {q : QE} (h : QsOk w qs) (hq : TRep w q.k q.kc ∧ TRep w q.v q.vc ∧ okB (builtV q.k) = true ∧ okB (builtV q.v) = true) : QsOk w (putQ qs i q) := fun p hp => by
  rcases List.mem_append.1 hp with hp | hp
  · exact h p (List.mem_of_mem_take hp)
  · rcases List.mem_cons.1 hp with rfl | hp
    · exact hq
    · exact h p (List.mem_of_mem_drop hp)
theorem setQ_ok {w : World} {qs : List QE} {i : Nat} {q : QE} (h : QsOk w qs) (hq : TRep w q.k q.kc ∧ TRep w q.v q.vc ∧ okB (builtV q.k) = true ∧ okB (builtV q.v) = true) : QsOk w (setQ qs i q) := fun p hp => by
  rcases List.mem_append.1 hp with hp | hp
  · exact h p (List.mem_of_mem_take hp)
  · rcases List.mem_cons.1 hp with rfl | hp
    · exact hq
    · exact h p (List.mem_of_mem_drop hp)
theorem putQ_length {qs : List QE} {i : Nat} {q : QE} (hi : i ≤ qs.length) : (putQ qs i q).length = qs.length + 1 := by unfold putQ; rw [List.length_append, List.length_take, List.length_cons, List.length_drop]; omega
theorem setQ_length {qs : List QE} {i : Nat} {q : QE} (hi : i < qs.length) : (setQ qs i q).length = qs.length := by unfold setQ; rw [List.length_append, List.length_take, List.length_cons, List.length_drop]; omega
def DPutEnd (w0 : World) (d : Nat) (sv : Value) (qs : List QE) (t u : Term) (cs es : List Value) (w : World) (e : Ending) (w' : World) : Prop :=
  (okB (builtV t) = false ∧ e = .returned (.tuple #[.agg zeroCells, .bool false, .int .i64 (whyF (builtV t))]) ∧ DocM w0 w' d sv qs ∧ But (OfD d sv) w w') ∨
  (okB (builtV t) = true ∧ okB (builtV u) = false ∧ e = .returned (.tuple #[.agg zeroCells, .bool false, .int .i64 (whyF (builtV u))]) ∧ DocM w0 w' d sv qs ∧ But (OfD d sv) w w') ∨
  (okB (builtV t) = true ∧ okB (builtV u) = true ∧ ∃ i, i ≤ qs.length ∧ (∀ (j : Nat) q, j < i → qs[j]? = some q → cmpV (builtV q.k) (builtV t) < 0) ∧ (∀ q, qs[i]? = some q → ¬ cmpV (builtV q.k) (builtV t) < 0) ∧
    ((∃ q, qs[i]? = some q ∧ builtV q.k = builtV t ∧ e = .returned (.tuple #[.agg q.vc.toArray, .bool true, .int .i64 0]) ∧ DocM w0 w' d sv (setQ qs i ⟨q.kc, q.k, es, u⟩) ∧ But (OfD d sv) w w') ∨
     ((¬ ∃ q, qs[i]? = some q ∧ builtV q.k = builtV t) ∧ 4096 ≤ qs.length ∧ e = .returned (.tuple #[.agg zeroCells, .bool false, .int .i64 50]) ∧ DocM w0 w' d sv qs ∧ But (OfD d sv) w w') ∨
     ((¬ ∃ q, qs[i]? = some q ∧ builtV q.k = builtV t) ∧ qs.length < 4096 ∧ e = .returned (.tuple #[.agg zeroCells, .bool false, .int .i64 0]) ∧ ∃ sv', (∀ b ∈ ownL sv', w.heap.size ≤ b) ∧ DocM w0 w' d sv' (putQ qs i ⟨cs, t, es, u⟩) ∧ But (OfD d sv) w w')))
set_option maxRecDepth 100000 in
set_option maxHeartbeats 12800000 in
theorem dput_said {w0 w : World} {d : Nat} {sv : Value} {qs : List QE} (h : DocM w0 w d sv qs) {t u : Term} {cs es : List Value} (ht : TRep w0 t cs) (hu : TRep w0 u es) :
    Calls Try.prog 17 #[.pointer (some ⟨d, 0, none⟩), .agg cs.toArray, .agg es.toArray] w (DPutEnd w0 d sv qs t u cs es w) := by
  have hones := TRep.ones ht
  have houes := TRep.ones hu
  have hsm := h.small
  obtain ⟨c0, c1, c2, c3, c4, c5, c6, c7, c8, c9, c10, rfl⟩ := eleven (TRep.len ht)
  obtain ⟨e0, e1, e2, e3, e4, e5, e6, e7, e8, e9, e10, rfl⟩ := eleven (TRep.len hu)
  have hH := Lib.hid h
  have htH := Lib.hid ht
  have huH := Lib.hid hu
  obtain ⟨bx, hbx⟩ : ∃ b, b = w.heap.size := ⟨_, rfl⟩
  obtain ⟨bv, hbv⟩ : ∃ b, b = w.heap.size + 1 := ⟨_, rfl⟩
  obtain ⟨rb, hrb⟩ : ∃ b, b = w.heap.size + 1 + 1 := ⟨_, rfl⟩
  obtain ⟨W, hW⟩ : ∃ W, W = ((w.alloc (.cells #[c0, c1, c2, c3, c4, c5, c6, c7, c8, c9, c10] 31)).alloc (.cells #[e0, e1, e2, e3, e4, e5, e6, e7, e8, e9, e10] 31)).alloc (.cells zeroCells 31) := ⟨_, rfl⟩
  have hbW : Below w.heap.size w W := by rw [hW]; exact (((Below.refl _ _).alloc (Nat.le_refl _) _).alloc (by simp) _).alloc (by simp; omega) _
  have hbxW : W.heap[bx]? = some (.cells #[c0, c1, c2, c3, c4, c5, c6, c7, c8, c9, c10] 31 (0, 0)) := by rw [hW, hbx]; exact (Below.heap_alloc _ _ _ (by simp; omega)).trans ((Below.heap_alloc _ _ _ (by simp)).trans (heap_alloc_new w _))
  have hbvW : W.heap[bv]? = some (.cells #[e0, e1, e2, e3, e4, e5, e6, e7, e8, e9, e10] 31 (0, 0)) := by rw [hW, hbv]; exact (Below.heap_alloc _ _ _ (by simp)).trans (heap_alloc_at _ (by simp))
  have hrbW : W.heap[rb]? = some (.cells zeroCells 31 (0, 0)) := by rw [hW, hrb]; exact heap_alloc_at _ (by simp)
  have hWsz : W.heap.size = w.heap.size + 1 + 1 + 1 := by rw [hW]; simp
  have hDH := Lib.hid (h.below hbW)
  have hbxH := Lib.hid (show ∀ X, Below W.heap.size W X → ∀ j, X.cell? ⟨bx, j, none⟩ = #[c0, c1, c2, c3, c4, c5, c6, c7, c8, c9, c10][j]? from fun X hX j => (hX.cell (p := ⟨bx, j, none⟩) (Array.getElem?_eq_some_iff.1 hbxW).1).trans (cell_of_row W bx j _ _ _ hbxW))
  have hbvH := Lib.hid (show ∀ X, Below W.heap.size W X → ∀ j, X.cell? ⟨bv, j, none⟩ = #[e0, e1, e2, e3, e4, e5, e6, e7, e8, e9, e10][j]? from fun X hX j => (hX.cell (p := ⟨bv, j, none⟩) (Array.getElem?_eq_some_iff.1 hbvW).1).trans (cell_of_row W bv j _ _ _ hbvW))
  have hbxB := Lib.hid (show ∀ X, Below W.heap.size W X → X.heap[bx]? = some (.cells #[c0, c1, c2, c3, c4, c5, c6, c7, c8, c9, c10] 31 (0, 0)) from fun X hX => (hX.block bx (Array.getElem?_eq_some_iff.1 hbxW).1).trans hbxW)
  have hbvB := Lib.hid (show ∀ X, Below W.heap.size W X → X.heap[bv]? = some (.cells #[e0, e1, e2, e3, e4, e5, e6, e7, e8, e9, e10] 31 (0, 0)) from fun X hX => (hX.block bv (Array.getElem?_eq_some_iff.1 hbvW).1).trans hbvW)
  have hrbX := Lib.hid (show ∀ X, Below W.heap.size W X → X.heap[rb]? = some (.cells zeroCells 31 (0, 0)) from fun X hX => (hX.block rb (Array.getElem?_eq_some_iff.1 hrbW).1).trans hrbW)
  have hclose := Lib.hid (show ∀ X cs', Below W.heap.size W X → (X.setRow rb cs').heap[rb]? = some (.cells cs' 31 (0, 0)) ∧ Below w.heap.size w (X.setRow rb cs') from fun X cs' hX => close_row (by omega) ((hX.block rb (Array.getElem?_eq_some_iff.1 hrbW).1).trans hrbW) (hbW.trans (hX.mono hbW.size)))
  have hsame := Lib.hid (show ∀ X, Below w.heap.size w X → DocM w0 X d sv qs ∧ But (OfD d sv) w X from fun X hX => ⟨h.below hX, (But.refl _ w).of_below hX (fun i hi hle => by omega)⟩)
  have hck1 := refCheck_any t _ W (TRep.keep (keeps_of_below (h.bel.trans (hbW.mono h.bel.size))) _ _ ht)
  have hck2 := Lib.hid (fun X (hX : Below W.heap.size W X) => refCheck_any u _ X (TRep.keep (keeps_of_below (h.bel.trans ((hbW.trans (hX.mono hbW.size)).mono h.bel.size))) _ _ hu))
  have hzero := Lib.hid (all_one (TRep.ones (leaf_rep w 0 false 0 0 ⟨#[]⟩ 0 (by rfl) (by rfl) (by rfl) (by simp [maxLen, ByteArray.size]) (by rfl))))
  have hWH := Lib.hid hW
  have hbx2 := Lib.hid hbx
  have hbv2 := Lib.hid hbv
  have hrb2 := Lib.hid hrb
  have hbWH := Lib.hid hbW
  have x0 := hbxH.out W (Below.refl _ _) 0
  have x1 := hbxH.out W (Below.refl _ _) 1
  have x2 := hbxH.out W (Below.refl _ _) 2
  have x3 := hbxH.out W (Below.refl _ _) 3
  have x4 := hbxH.out W (Below.refl _ _) 4
  have x5 := hbxH.out W (Below.refl _ _) 5
  have x6 := hbxH.out W (Below.refl _ _) 6
  have x7 := hbxH.out W (Below.refl _ _) 7
  have x8 := hbxH.out W (Below.refl _ _) 8
  have x9 := hbxH.out W (Below.refl _ _) 9
  have x10 := hbxH.out W (Below.refl _ _) 10
  have y0 := hbvH.out W (Below.refl _ _) 0
  have y1 := hbvH.out W (Below.refl _ _) 1
  have y2 := hbvH.out W (Below.refl _ _) 2
  have y3 := hbvH.out W (Below.refl _ _) 3
  have y4 := hbvH.out W (Below.refl _ _) 4
  have y5 := hbvH.out W (Below.refl _ _) 5
  have y6 := hbvH.out W (Below.refl _ _) 6
  have y7 := hbvH.out W (Below.refl _ _) 7
  have y8 := hbvH.out W (Below.refl _ _) 8
  have y9 := hbvH.out W (Below.refl _ _) 9
  have y10 := hbvH.out W (Below.refl _ _) 10
  simp only [List.getElem?_cons_zero, List.getElem?_cons_succ, List.getElem?_toArray, Nat.add_zero, Nat.reduceAdd] at x0 x1 x2 x3 x4 x5 x6 x7 x8 x9 x10 y0 y1 y2 y3 y4 y5 y6 y7 y8 y9 y10
  obtain ⟨v, hv⟩ : ∃ v, v = builtV t := ⟨_, rfl⟩
  rw [← hv] at hck1
  have hvH := Lib.hid hv
  obtain ⟨v', hv'⟩ : ∃ v, v = builtV u := ⟨_, rfl⟩
  rw [← hv'] at hck2
  have hvH' := Lib.hid hv'
  clear h ht hu hW hbxW hbvW hrbW hbW hbx hbv hrb hv hv'
  cases hok : okB v with
  | false =>
    have hne : (whyF v != 0) = true := by simpa using why_bad hok
    have hck3 : Hid (Calls Try.prog 76 #[.agg #[c0, c1, c2, c3, c4, c5, c6, c7, c8, c9, c10]] W fun e w' => e = .returned (.tuple #[.int .i64 (checkF v).1, .int .i64 (whyF v)]) ∧ Below W.heap.size W w') := Lib.hid hck1
    have hokF := Lib.hid hok
    clear hck1 hok
    go_enter Try.func17, Try.ntmps17
    go_wp2_with fail
    rw [← hrb2.out, ← hbv2.out, ← hbx2.out]
    rw [show ((w.alloc (Obj.cells #[c0, c1, c2, c3, c4, c5, c6, c7, c8, c9, c10] 31)).alloc (Obj.cells #[e0, e1, e2, e3, e4, e5, e6, e7, e8, e9, e10] 31)).alloc (Obj.cells #[.int .i64 0, .bool false, .int .i64 0, .float .f64 0, .string ⟨#[]⟩, .slice none 0 0, .int .u64 0, .slice none 0 0, .slice none 0 0, .string ⟨#[]⟩, .int .i64 0] 31) = W from hWH.out.symm]
    refine hck3.out.mono ?_
    rintro e w1 ⟨rfl, hb1⟩
    have hrb1 := hrbX.out w1 hb1
    have hcl := Lib.hid (hclose.out w1 zeroCells hb1)
    clear x0 x1 x2 x3 x4 x5 x6 x7 x8 x9 x10 y0 y1 y2 y3 y4 y5 y6 y7 y8 y9 y10 hb1
    go_wp2_with (refine wpList_store_row rfl 31 (.tmp 6) _ rfl rb zeroCells rfl rfl 31 zeroCells hrb1 termSize rfl hzero.out ?_)
    (try simp only [Exit.inBlock, Exit.then])
    refine bodyPost_ret (results_row_tmp2 rfl _ _ rb 31 _ (0, 0) _ rfl hcl.out.1 Try.underlying31 rfl termSize) rfl ?_
    exact .inl ⟨hvH.out ▸ hokF.out, by rw [← hvH.out]; rfl, hsame.out _ hcl.out.2⟩
  | true =>
    rw [check_ok hok] at hck1
    have hck3 := Lib.hid hck1
    have hpl := Lib.hid (fun X (hX : Below W.heap.size W X) => dplace_said (hDH.out.below hX) htH.out (by rw [← hvH.out]; exact hok))
    rw [← hvH.out] at hpl
    have hokH := Lib.hid hok
    clear hck1 hok
    go_enter Try.func17, Try.ntmps17
    go_wp2_with fail
    rw [← hrb2.out, ← hbv2.out, ← hbx2.out]
    rw [show ((w.alloc (Obj.cells #[c0, c1, c2, c3, c4, c5, c6, c7, c8, c9, c10] 31)).alloc (Obj.cells #[e0, e1, e2, e3, e4, e5, e6, e7, e8, e9, e10] 31)).alloc (Obj.cells #[.int .i64 0, .bool false, .int .i64 0, .float .f64 0, .string ⟨#[]⟩, .slice none 0 0, .int .u64 0, .slice none 0 0, .slice none 0 0, .string ⟨#[]⟩, .int .i64 0] 31) = W from hWH.out.symm]
    refine hck3.out.mono ?_
    rintro e w1 ⟨rfl, hb1⟩
    clear x0 x1 x2 x3 x4 x5 x6 x7 x8 x9 x10 y0 y1 y2 y3 y4 y5 y6 y7 y8 y9 y10
    have x0 := hbxH.out w1 hb1 0
    have x1 := hbxH.out w1 hb1 1
    have x2 := hbxH.out w1 hb1 2
    have x3 := hbxH.out w1 hb1 3
    have x4 := hbxH.out w1 hb1 4
    have x5 := hbxH.out w1 hb1 5
    have x6 := hbxH.out w1 hb1 6
    have x7 := hbxH.out w1 hb1 7
    have x8 := hbxH.out w1 hb1 8
    have x9 := hbxH.out w1 hb1 9
    have x10 := hbxH.out w1 hb1 10
    have y0 := hbvH.out w1 hb1 0
    have y1 := hbvH.out w1 hb1 1
    have y2 := hbvH.out w1 hb1 2
    have y3 := hbvH.out w1 hb1 3
    have y4 := hbvH.out w1 hb1 4
    have y5 := hbvH.out w1 hb1 5
    have y6 := hbvH.out w1 hb1 6
    have y7 := hbvH.out w1 hb1 7
    have y8 := hbvH.out w1 hb1 8
    have y9 := hbvH.out w1 hb1 9
    have y10 := hbvH.out w1 hb1 10
    simp only [List.getElem?_cons_zero, List.getElem?_cons_succ, List.getElem?_toArray, Nat.add_zero, Nat.reduceAdd] at x0 x1 x2 x3 x4 x5 x6 x7 x8 x9 x10 y0 y1 y2 y3 y4 y5 y6 y7 y8 y9 y10
    have hb1H := Lib.hid hb1
    clear hb1
    cases hov : okB v' with
    | false =>
      have hne : (whyF v' != 0) = true := by simpa using why_bad hov
      have hck4 : Hid (Calls Try.prog 76 #[.agg #[e0, e1, e2, e3, e4, e5, e6, e7, e8, e9, e10]] w1 fun e w' => e = .returned (.tuple #[.int .i64 (checkF v').1, .int .i64 (whyF v')]) ∧ Below w1.heap.size w1 w') := Lib.hid (hck2.out w1 hb1H.out)
      have hovF := Lib.hid hov
      clear hov
      go_wp2_with fail
      refine hck4.out.mono ?_
      rintro e w2 ⟨rfl, hb2⟩
      have hbw2 := Lib.hid (hb1H.out.trans (hb2.mono hb1H.out.size))
      have hrb1 := hrbX.out w2 hbw2.out
      have hcl := Lib.hid (hclose.out w2 zeroCells hbw2.out)
      clear x0 x1 x2 x3 x4 x5 x6 x7 x8 x9 x10 y0 y1 y2 y3 y4 y5 y6 y7 y8 y9 y10 hb2
      go_wp2_with (refine wpList_store_row rfl 31 (.tmp 6) _ rfl rb zeroCells rfl rfl 31 zeroCells hrb1 termSize rfl hzero.out ?_)
      (try simp only [Exit.inBlock, Exit.then])
      refine bodyPost_ret (results_row_tmp2 rfl _ _ rb 31 _ (0, 0) _ rfl hcl.out.1 Try.underlying31 rfl termSize) rfl ?_
      exact .inr (.inl ⟨hvH.out ▸ hokH.out, hvH'.out ▸ hovF.out, by rw [← hvH'.out]; rfl, hsame.out _ hcl.out.2⟩)
    | true =>
      have hck4' := hck2.out w1 hb1H.out
      rw [check_ok hov] at hck4'
      have hck4 := Lib.hid hck4'
      have hovH := Lib.hid hov
      clear hck4' hov
      go_wp2_with fail
      refine hck4.out.mono ?_
      rintro e w2 ⟨rfl, hb2⟩
      have hbw2 := Lib.hid (hb1H.out.trans (hb2.mono hb1H.out.size))
      clear x0 x1 x2 x3 x4 x5 x6 x7 x8 x9 x10 y0 y1 y2 y3 y4 y5 y6 y7 y8 y9 y10 hb2
      have x0 := hbxH.out w2 hbw2.out 0
      have x1 := hbxH.out w2 hbw2.out 1
      have x2 := hbxH.out w2 hbw2.out 2
      have x3 := hbxH.out w2 hbw2.out 3
      have x4 := hbxH.out w2 hbw2.out 4
      have x5 := hbxH.out w2 hbw2.out 5
      have x6 := hbxH.out w2 hbw2.out 6
      have x7 := hbxH.out w2 hbw2.out 7
      have x8 := hbxH.out w2 hbw2.out 8
      have x9 := hbxH.out w2 hbw2.out 9
      have x10 := hbxH.out w2 hbw2.out 10
      have y0 := hbvH.out w2 hbw2.out 0
      have y1 := hbvH.out w2 hbw2.out 1
      have y2 := hbvH.out w2 hbw2.out 2
      have y3 := hbvH.out w2 hbw2.out 3
      have y4 := hbvH.out w2 hbw2.out 4
      have y5 := hbvH.out w2 hbw2.out 5
      have y6 := hbvH.out w2 hbw2.out 6
      have y7 := hbvH.out w2 hbw2.out 7
      have y8 := hbvH.out w2 hbw2.out 8
      have y9 := hbvH.out w2 hbw2.out 9
      have y10 := hbvH.out w2 hbw2.out 10
      simp only [List.getElem?_cons_zero, List.getElem?_cons_succ, List.getElem?_toArray, Nat.add_zero, Nat.reduceAdd] at x0 x1 x2 x3 x4 x5 x6 x7 x8 x9 x10 y0 y1 y2 y3 y4 y5 y6 y7 y8 y9 y10
      go_wp2_with fail
      refine (hpl.out w2 hbw2.out).mono ?_
      rintro e w3 ⟨i, Bo, rfl, hi, h1, h2, h3, hb3⟩
      have hbw3 := Lib.hid (hbw2.out.trans (hb3.mono hbw2.out.size))
      have hrb1 := hrbX.out w3 hbw3.out
      have hD3 := hDH.out.below hbw3.out
      rw [hvH.out] at h1 h2 h3
      have h1H := Lib.hid h1
      have h2H := Lib.hid h2
      have h3H := Lib.hid h3
      clear x0 x1 x2 x3 x4 x5 x6 x7 x8 x9 x10 y0 y1 y2 y3 y4 y5 y6 y7 y8 y9 y10 hb3 h1 h2 h3
      obtain ⟨a, cap, rfl, hcap, hmax, -, hform⟩ := ownsRow_form hD3.row
      unfold maxLen at hmax
      have hdc : w3.cell? ⟨d, 0, none⟩ = some (.slice a qs.length cap) := by rw [cell_of_row w3 d 0 _ _ _ hD3.cell]; rfl
      have hdlt : d < w.heap.size := hH.out.lt
      have hdr : d ≠ rb := by have := hrb2.out; omega
      cases Bo with
      | true =>
        obtain ⟨q, hq, hqv⟩ := h3H.out.1 rfl
        have hil := (List.getElem?_eq_some_iff.1 hq).1
        have hil2 : (i : Int) < (qs.length : Int) := by omega
        rcases hform with ⟨-, h0, -⟩ | ⟨g, rfl, hg1, hgs, hgl, hrc⟩
        · omega
        have hwide := hD3.ok.wide
        obtain ⟨-, f2⟩ := flatQ_at hwide hq
        have hvc := (hwide q (List.mem_of_getElem? hq)).2
        have hqok := Lib.hid (hD3.ok q (List.mem_of_getElem? hq))
        have hone := TRep.ones (hD3.ok q (List.mem_of_getElem? hq)).2.1
        have hrow : ∀ j, j < 11 → w3.cell? ⟨g, i * 22 + 11 + j, none⟩ = q.vc[j]? := fun j hj => (hrc (i * 22 + 11 + j) (by omega)).trans (f2 j hj)
        have hch := flatQ_change hwide hq u [e0, e1, e2, e3, e4, e5, e6, e7, e8, e9, e10] rfl
        have hqH := Lib.hid hq
        have hqvH := Lib.hid hqv
        obtain ⟨vc, hvcq⟩ : ∃ vc, vc = q.vc := ⟨_, rfl⟩
        have hvcH := Lib.hid hvcq
        rw [← hvcq] at hvc hrow hone
        obtain ⟨d0, d1, d2, d3, d4, d5, d6, d7, d8, d9, d10, rfl⟩ := eleven hvc
        have q0 := hrow 0 (by omega)
        have q1 := hrow 1 (by omega)
        have q2 := hrow 2 (by omega)
        have q3 := hrow 3 (by omega)
        have q4 := hrow 4 (by omega)
        have q5 := hrow 5 (by omega)
        have q6 := hrow 6 (by omega)
        have q7 := hrow 7 (by omega)
        have q8 := hrow 8 (by omega)
        have q9 := hrow 9 (by omega)
        have q10 := hrow 10 (by omega)
        simp only [List.getElem?_cons_zero, List.getElem?_cons_succ, List.getElem?_toArray, Nat.add_zero, Nat.reduceAdd] at q0 q1 q2 q3 q4 q5 q6 q7 q8 q9 q10
        obtain ⟨Wb, hWb⟩ : ∃ Wb, Wb = w3.alloc (Obj.cells #[d0, d1, d2, d3, d4, d5, d6, d7, d8, d9, d10] 31) := ⟨_, rfl⟩
        obtain ⟨wb, hwb⟩ : ∃ wb, wb = w3.heap.size := ⟨_, rfl⟩
        have hbWb : Below w3.heap.size w3 Wb := by rw [hWb]; exact (Below.refl _ _).alloc (Nat.le_refl _) _
        have hwbB : Wb.heap[wb]? = some (.cells #[d0, d1, d2, d3, d4, d5, d6, d7, d8, d9, d10] 31 (0, 0)) := by rw [hWb, hwb]; exact heap_alloc_new w3 _
        have hbWw : Below W.heap.size W Wb := hbw3.out.trans (hbWb.mono hbw3.out.size)
        have hrowB : Wb.drew.ownsRow w0.heap.size 155 22 (.slice (some ⟨g, 0, none⟩) qs.length cap) qs.length (flatQ qs) := ownsRow_keep hD3.row (fun b hb => hbWb.block b (ownsRow_lt hD3.row b hb).2)
        obtain ⟨cur, hcur, hfit, hrow4⟩ := row_part hrowB (i * 22 + 11) [e0, e1, e2, e3, e4, e5, e6, e7, e8, e9, e10] (by show i * 22 + 11 + 11 ≤ qs.length * 22; omega)
        rw [hch] at hrow4
        obtain ⟨X, hX⟩ : ∃ X, X = Wb.drew.setRow g (cur.toList.take (i * 22 + 11) ++ [e0, e1, e2, e3, e4, e5, e6, e7, e8, e9, e10] ++ cur.toList.drop (i * 22 + 11 + 11)).toArray := ⟨_, rfl⟩
        have hX' := hX
        have hgne : g ≠ d ∧ g ≠ bx ∧ g ≠ bv ∧ g ≠ rb ∧ g ≠ wb ∧ g < w.heap.size := by
          have h1 := hH.out.lts g (.inr (by simp [ownL, Value.ownBlock]))
          have h2 : g ≠ d := fun e => hD3.apart (by rw [← e]; simp [ownL, Value.ownBlock])
          have := hbx2.out; have := hbv2.out; have := hrb2.out
          have := hbw3.out.size
          have := hbWH.out.size
          refine ⟨h2, ?_, ?_, ?_, ?_, h1.2⟩ <;> omega
        have hoth : ∀ k, k ≠ g → X.heap[k]? = Wb.heap[k]? := fun k hk => by rw [hX]; exact setRow_other Wb.drew g k _ hk
        have yy0 := hbvH.out Wb hbWw 0
        have yy1 := hbvH.out Wb hbWw 1
        have yy2 := hbvH.out Wb hbWw 2
        have yy3 := hbvH.out Wb hbWw 3
        have yy4 := hbvH.out Wb hbWw 4
        have yy5 := hbvH.out Wb hbWw 5
        have yy6 := hbvH.out Wb hbWw 6
        have yy7 := hbvH.out Wb hbWw 7
        have yy8 := hbvH.out Wb hbWw 8
        have yy9 := hbvH.out Wb hbWw 9
        have yy10 := hbvH.out Wb hbWw 10
        simp only [List.getElem?_cons_zero, List.getElem?_cons_succ, List.getElem?_toArray, Nat.add_zero, Nat.reduceAdd] at yy0 yy1 yy2 yy3 yy4 yy5 yy6 yy7 yy8 yy9 yy10
        have hS0 : Wb.cell? ⟨d, 0, none⟩ = some (.slice (some ⟨g, 0, none⟩) qs.length cap) ∧ Wb.cell? ⟨bv, 0, none⟩ = some e0 ∧ Wb.cell? ⟨bv, 1, none⟩ = some e1 ∧ Wb.cell? ⟨bv, 2, none⟩ = some e2 ∧ Wb.cell? ⟨bv, 3, none⟩ = some e3 ∧ Wb.cell? ⟨bv, 4, none⟩ = some e4 ∧ Wb.cell? ⟨bv, 5, none⟩ = some e5 ∧ Wb.cell? ⟨bv, 6, none⟩ = some e6 ∧ Wb.cell? ⟨bv, 7, none⟩ = some e7 ∧ Wb.cell? ⟨bv, 8, none⟩ = some e8 ∧ Wb.cell? ⟨bv, 9, none⟩ = some e9 ∧ Wb.cell? ⟨bv, 10, none⟩ = some e10 := ⟨(hbWb.cell (p := ⟨d, 0, none⟩) hD3.lt).trans hdc, yy0, yy1, yy2, yy3, yy4, yy5, yy6, yy7, yy8, yy9, yy10⟩
        have hSX : X.cell? ⟨d, 0, none⟩ = some (.slice (some ⟨g, 0, none⟩) qs.length cap) ∧ X.cell? ⟨bv, 0, none⟩ = some e0 ∧ X.cell? ⟨bv, 1, none⟩ = some e1 ∧ X.cell? ⟨bv, 2, none⟩ = some e2 ∧ X.cell? ⟨bv, 3, none⟩ = some e3 ∧ X.cell? ⟨bv, 4, none⟩ = some e4 ∧ X.cell? ⟨bv, 5, none⟩ = some e5 ∧ X.cell? ⟨bv, 6, none⟩ = some e6 ∧ X.cell? ⟨bv, 7, none⟩ = some e7 ∧ X.cell? ⟨bv, 8, none⟩ = some e8 ∧ X.cell? ⟨bv, 9, none⟩ = some e9 ∧ X.cell? ⟨bv, 10, none⟩ = some e10 := by
          obtain ⟨p0, p1, p2, p3, p4, p5, p6, p7, p8, p9, p10, p11⟩ := hS0
          exact ⟨(World.cell?_of_block (hoth d hgne.1.symm)).trans p0, (World.cell?_of_block (hoth bv hgne.2.2.1.symm)).trans p1, (World.cell?_of_block (hoth bv hgne.2.2.1.symm)).trans p2, (World.cell?_of_block (hoth bv hgne.2.2.1.symm)).trans p3, (World.cell?_of_block (hoth bv hgne.2.2.1.symm)).trans p4, (World.cell?_of_block (hoth bv hgne.2.2.1.symm)).trans p5, (World.cell?_of_block (hoth bv hgne.2.2.1.symm)).trans p6, (World.cell?_of_block (hoth bv hgne.2.2.1.symm)).trans p7, (World.cell?_of_block (hoth bv hgne.2.2.1.symm)).trans p8, (World.cell?_of_block (hoth bv hgne.2.2.1.symm)).trans p9, (World.cell?_of_block (hoth bv hgne.2.2.1.symm)).trans p10, (World.cell?_of_block (hoth bv hgne.2.2.1.symm)).trans p11⟩
        have hrbX4 : X.heap[rb]? = some (.cells zeroCells 31 (0, 0)) := (hoth rb hgne.2.2.2.1.symm).trans (hrbX.out Wb hbWw)
        have hwbX : X.heap[wb]? = some (.cells #[d0, d1, d2, d3, d4, d5, d6, d7, d8, d9, d10] 31 (0, 0)) := (hoth wb hgne.2.2.2.2.1.symm).trans hwbB
        have z0 := cell_of_row X wb 0 _ _ _ hwbX
        have z1 := cell_of_row X wb 1 _ _ _ hwbX
        have z2 := cell_of_row X wb 2 _ _ _ hwbX
        have z3 := cell_of_row X wb 3 _ _ _ hwbX
        have z4 := cell_of_row X wb 4 _ _ _ hwbX
        have z5 := cell_of_row X wb 5 _ _ _ hwbX
        have z6 := cell_of_row X wb 6 _ _ _ hwbX
        have z7 := cell_of_row X wb 7 _ _ _ hwbX
        have z8 := cell_of_row X wb 8 _ _ _ hwbX
        have z9 := cell_of_row X wb 9 _ _ _ hwbX
        have z10 := cell_of_row X wb 10 _ _ _ hwbX
        simp only [List.getElem?_cons_zero, List.getElem?_cons_succ, List.getElem?_toArray, Nat.add_zero, Nat.reduceAdd] at z0 z1 z2 z3 z4 z5 z6 z7 z8 z9 z10
        have hfinH := Lib.hid (show (X.setRow rb #[d0, d1, d2, d3, d4, d5, d6, d7, d8, d9, d10]).heap[rb]? = some (.cells #[d0, d1, d2, d3, d4, d5, d6, d7, d8, d9, d10] 31 (0, 0)) ∧ DocM w0 (X.setRow rb #[d0, d1, d2, d3, d4, d5, d6, d7, d8, d9, d10]) d (.slice (some ⟨g, 0, none⟩) qs.length cap) (setQ qs i ⟨q.kc, q.k, [e0, e1, e2, e3, e4, e5, e6, e7, e8, e9, e10], u⟩) ∧ But (OfD d (.slice (some ⟨g, 0, none⟩) qs.length cap)) w (X.setRow rb #[d0, d1, d2, d3, d4, d5, d6, d7, d8, d9, d10]) from by
          have hww : Below w.heap.size w Wb := hbWH.out.trans (hbWw.mono hbWH.out.size)
          have hXf : X.os = Wb.os ∧ X.tape = Wb.tape ∧ X.output = Wb.output ∧ X.heap.size = Wb.heap.size := by rw [hX]; exact ⟨rfl, rfl, rfl, setRow_size ..⟩
          have hchg : But (OfD d (.slice (some ⟨g, 0, none⟩) qs.length cap)) w (X.setRow rb #[d0, d1, d2, d3, d4, d5, d6, d7, d8, d9, d10]) := by
            refine ⟨hXf.1.trans hww.os, hXf.2.1.trans hww.tape, hXf.2.2.1.trans hww.output, by rw [setRow_size, hXf.2.2.2]; exact hww.size, fun k hk hs => ?_⟩
            rw [setRow_other _ _ _ _ (by have := hrb2.out; omega), hoth k (fun e => hs (.inr (by rw [e]; simp [ownL, Value.ownBlock])))]
            exact hww.block k hk
          refine ⟨setRow_heap X rb _ _ _ _ hrbX4, ⟨?_, ?_, setQ_ok hD3.ok ⟨hqok.out.1, huH.out, hqok.out.2.2.1, by rw [← hvH'.out]; exact hovH.out⟩, hD3.apart, hD3.base, ?_, by rw [setQ_length hil]; exact hsm⟩, hchg⟩
          · rw [setRow_other _ _ _ _ hdr, hoth d hgne.1.symm]
            exact (hbWb.block d hD3.lt).trans hD3.cell
          · rw [setQ_length hil]
            refine ownsRow_keep (w := X) (hX ▸ hrow4) (fun b hb => ?_)
            have e : b = g := by simpa [ownL, Value.ownBlock] using hb
            rw [setRow_other _ _ _ _ (by rw [e]; exact hgne.2.2.2.1)]
          · exact hH.out.bel.trans (hchg.below' hH.out.bel.size (fun k hk hs => by have := hH.out.lts k hs; omega)))
        have hSH := Lib.hid hS0
        have hSXH := Lib.hid hSX
        have hWbH := Lib.hid hWb
        have hwbH := Lib.hid hwb
        clear yy0 yy1 yy2 yy3 yy4 yy5 yy6 yy7 yy8 yy9 yy10 hX hWb hwb hoth hS0 hSX hrow4 hrowB hbWw hbWb hwbB hD3 hrc f2 hrow hvcq hqv hq hwide hch hgl hwbX
        go_wp2_with fail
        rw [← hWbH.out, ← hwbH.out]
        refine wp_region_held_drew (S := (fun w' => w'.cell? ⟨d, 0, none⟩ = some (.slice (some ⟨g, 0, none⟩) qs.length cap) ∧ w'.cell? ⟨bv, 0, none⟩ = some e0 ∧ w'.cell? ⟨bv, 1, none⟩ = some e1 ∧ w'.cell? ⟨bv, 2, none⟩ = some e2 ∧ w'.cell? ⟨bv, 3, none⟩ = some e3 ∧ w'.cell? ⟨bv, 4, none⟩ = some e4 ∧ w'.cell? ⟨bv, 5, none⟩ = some e5 ∧ w'.cell? ⟨bv, 6, none⟩ = some e6 ∧ w'.cell? ⟨bv, 7, none⟩ = some e7 ∧ w'.cell? ⟨bv, 8, none⟩ = some e8 ∧ w'.cell? ⟨bv, 9, none⟩ = some e9 ∧ w'.cell? ⟨bv, 10, none⟩ = some e10)) (by kernel_rfl) ?_ (fun hHeld => ?_)
        · exact hSH.out
        refine wpAnyH_take (i := 0) (v := ?vt0) rfl (by kernel_rfl) (by kernel_rfl) (by kernel_rfl) (fun _ _ _ h => h) (.inl ⟨by rfl, ?hyt0⟩) (by assumption) ?restt0
        case hyt0 => (intro w hSw; (try dsimp only at hSw); go_simp; first | done | with_reducible rfl)
        (try simp only [Act.put, pu1, pu2, pu3, pu4, pu5, pu6])
        refine wpAnyH_take (i := 1) (v := ?vt1) rfl (by kernel_rfl) (by kernel_rfl) (by kernel_rfl) (fun _ _ _ h => h) (.inl ⟨by rfl, ?hyt1⟩) (by assumption) ?restt1
        case hyt1 => (intro w hSw; (try dsimp only at hSw); go_simp; first | done | with_reducible rfl)
        (try simp only [Act.put, pu1, pu2, pu3, pu4, pu5, pu6])
        refine wpAnyH_take (i := 2) (v := ?vt2) rfl (by kernel_rfl) (by kernel_rfl) (by kernel_rfl) (fun _ _ _ h => h) (.inl ⟨by rfl, ?hyt2⟩) (by assumption) ?restt2
        case hyt2 => (intro w hSw; (try dsimp only at hSw); go_simp; first | done | with_reducible rfl)
        (try simp only [Act.put, pu1, pu2, pu3, pu4, pu5, pu6])
        refine wpAnyH_take (i := 3) (v := ?vt3) rfl (by kernel_rfl) (by kernel_rfl) (by kernel_rfl) (fun _ _ _ h => h) (.inl ⟨by rfl, ?hyt3⟩) (by assumption) ?restt3
        case hyt3 => (intro w hSw; (try dsimp only at hSw); go_simp; first | done | with_reducible rfl)
        (try simp only [Act.put, pu1, pu2, pu3, pu4, pu5, pu6])
        refine wpAnyH_take (i := 4) (v := ?vt4) rfl (by kernel_rfl) (by kernel_rfl) (by kernel_rfl) (fun _ _ _ h => h) (.inl ⟨by rfl, ?hyt4⟩) (by assumption) ?restt4
        case hyt4 => (intro w hSw; (try dsimp only at hSw); go_simp; first | done | with_reducible rfl)
        (try simp only [Act.put, pu1, pu2, pu3, pu4, pu5, pu6])
        refine wpAnyH_take (i := 5) (v := ?vt5) rfl (by kernel_rfl) (by kernel_rfl) (by kernel_rfl) (fun _ _ _ h => h) (.inl ⟨by rfl, ?hyt5⟩) (by assumption) ?restt5
        case hyt5 => (intro w hSw; (try dsimp only at hSw); go_simp; first | done | with_reducible rfl)
        (try simp only [Act.put, pu1, pu2, pu3, pu4, pu5, pu6])
        refine wpAnyH_take (i := 6) (v := ?vt6) rfl (by kernel_rfl) (by kernel_rfl) (by kernel_rfl) (fun _ _ _ h => h) (.inl ⟨by rfl, ?hyt6⟩) (by assumption) ?restt6
        case hyt6 => (intro w hSw; (try dsimp only at hSw); go_simp; first | done | with_reducible rfl)
        (try simp only [Act.put, pu1, pu2, pu3, pu4, pu5, pu6])
        refine wpAnyH_take (i := 7) (v := ?vt7) rfl (by kernel_rfl) (by kernel_rfl) (by kernel_rfl) (fun _ _ _ h => h) (.inl ⟨by rfl, ?hyt7⟩) (by assumption) ?restt7
        case hyt7 => (intro w hSw; (try dsimp only at hSw); go_simp; first | done | with_reducible rfl)
        (try simp only [Act.put, pu1, pu2, pu3, pu4, pu5, pu6])
        refine wpAnyH_ready (rs := [8]) (by kernel_rfl) (by simp) ?_
        refine AllReadyH.cons rfl (fun K hK => ?_) AllReadyH.nil
        rw [if_pos (by rfl)]
        refine wp_store_part 31 (.tmp 57) (.tmp 55) rfl g (i * 22 + 11) [e0, e1, e2, e3, e4, e5, e6, e7, e8, e9, e10] (by simp [Act.eval]) (by simp [Act.eval]) 155 cur hcur (by kernel_rfl) hfit houes ?_
        rw [show (i * 22 + 11 + [e0, e1, e2, e3, e4, e5, e6, e7, e8, e9, e10].length) = i * 22 + 11 + 11 from rfl, ← hX']
        refine hK.out _ _ ?_ (fun hHeld2 => ?_)
        · exact hSXH.out
        clear hK K
        (try simp only [Act.put, pu1, pu2, pu3, pu4, pu5, pu6])
        refine wpAnyH_done (by kernel_rfl) ?_ _
        clear hX' hcur hHeld
        go_wp2_with (refine wpList_store_row rfl 31 (.tmp 6) _ rfl rb #[d0, d1, d2, d3, d4, d5, d6, d7, d8, d9, d10] rfl rfl 31 zeroCells hrbX4 termSize rfl (all_one hone) ?_)
        (try simp only [Exit.inBlock, Exit.then])
        refine bodyPost_ret (results_row_tmp2 rfl _ _ rb 31 _ (0, 0) _ rfl hfinH.out.1 Try.underlying31 rfl termSize) rfl ?_
        exact .inr (.inr ⟨hvH.out ▸ hokH.out, hvH'.out ▸ hovH.out, i, hi, h1H.out, (fun q hq => (by have := h2H.out q hq; omega)), .inl ⟨q, hqH.out, hqvH.out, by rw [← hvcH.out]; rfl, hfinH.out.2⟩⟩)
      | false =>
        have hno := Lib.hid (show ¬ ∃ q, qs[i]? = some q ∧ builtV q.k = builtV t from fun h => by have := h3H.out.2 h; cases this)
        by_cases hfull : 4096 ≤ qs.length
        · have hge : (4096 : Int) ≤ (qs.length : Int) := by omega
          have hcl := Lib.hid (hclose.out w3 zeroCells hbw3.out)
          clear hD3 hform
          go_wp2_with (refine wpList_store_row rfl 31 (.tmp 6) _ rfl rb zeroCells rfl rfl 31 zeroCells hrb1 termSize rfl hzero.out ?_)
          (try simp only [Exit.inBlock, Exit.then])
          refine bodyPost_ret (results_row_tmp2 rfl _ _ rb 31 _ (0, 0) _ rfl hcl.out.1 Try.underlying31 rfl termSize) rfl ?_
          exact .inr (.inr ⟨hvH.out ▸ hokH.out, hvH'.out ▸ hovH.out, i, hi, h1H.out, (fun q hq => (by have := h2H.out q hq; omega)), .inr (.inl ⟨hno.out, hfull, rfl, hsame.out _ hcl.out.2⟩)⟩)
        · have hge : ¬ ((4096 : Int) ≤ (qs.length : Int)) := by omega
          rcases hform with ⟨rfl, hn0, rfl⟩ | ⟨g, rfl, hg1, hgs, hgl, hrc⟩
          · obtain rfl : i = 0 := by omega
            rw [hn0] at hdc
            have hfrd : w3.heap[d]? = some (.cells #[(.slice none 0 0)] 53 (0, 0)) := (by have h := hD3.cell; rwa [hn0] at h)
            obtain ⟨v1, W1, v2, W2, v3, W3, r1, r2, r3, hW1, hW2, hW3, hv1, hv2, hv3, hv3n, hrow3⟩ := rows_put pairRow hD3.row hD3.ok.ones hi (by omega) [c0, c1, c2, c3, c4, c5, c6, c7, c8, c9, c10, e0, e1, e2, e3, e4, e5, e6, e7, e8, e9, e10] rfl (fun z hz => by
              rcases List.mem_append.1 (show z ∈ [c0, c1, c2, c3, c4, c5, c6, c7, c8, c9, c10] ++ [e0, e1, e2, e3, e4, e5, e6, e7, e8, e9, e10] from hz) with hz | hz
              · exact hones z hz
              · exact houes z hz) (y := .slice none 0 0) (by have e : flatQ qs = [] := (by rw [List.length_eq_zero_iff.1 hn0]; rfl); rw [hn0, e]; simpa using Piece.nought w3 22)
            obtain ⟨g3, cap3, rfl, -, -⟩ := row_form hrow3 hv3n
            have hbW1 := hbw3.out.trans (hW1.mono hbw3.out.size)
            have hbW2 := hbw3.out.trans (hW2.mono hbw3.out.size)
            have hbW3 := hbw3.out.trans (hW3.mono hbw3.out.size)
            have hd3 : d < w3.heap.size := hD3.lt
            have hdc1 : W1.cell? ⟨d, 0, none⟩ = some (.slice none 0 0) := (hW1.cell (p := ⟨d, 0, none⟩) hd3).trans hdc
            have hdc2 : W2.cell? ⟨d, 0, none⟩ = some (.slice none 0 0) := (hW2.cell (p := ⟨d, 0, none⟩) hd3).trans hdc
            have hdc3 : W3.cell? ⟨d, 0, none⟩ = some (.slice none 0 0) := (hW3.cell (p := ⟨d, 0, none⟩) hd3).trans hdc
            have hdcA : (w3.alloc (Obj.cells #[] 155)).cell? ⟨d, 0, none⟩ = some (.slice none 0 0) := (((Below.refl w3.heap.size w3).alloc (Nat.le_refl _) _).cell (p := ⟨d, 0, none⟩) hd3).trans hdc
            have hfr3 : W3.frozen? ⟨d, 0, none⟩ = false := frozen_of_row W3 d 0 _ _ ((hW3.block d hd3).trans hfrd)
            have hrbX3 : (W3.setCell ⟨d, 0, none⟩ (.slice (some ⟨g3, 0, none⟩) (qs.length + 1) cap3)).heap[rb]? = some (.cells zeroCells 31 (0, 0)) := (Below.heap_setCell W3 ⟨d, 0, none⟩ (.slice (some ⟨g3, 0, none⟩) (qs.length + 1) cap3) rb (by show rb ≠ d; omega)).trans (hrbX.out W3 hbW3)
            have hfinH := Lib.hid (show ∀ X, X = (W3.setCell ⟨d, 0, none⟩ (.slice (some ⟨g3, 0, none⟩) (qs.length + 1) cap3)).setRow rb zeroCells → X.heap[rb]? = some (.cells zeroCells 31 (0, 0)) ∧ (∀ b ∈ ownL (.slice (some ⟨g3, 0, none⟩) (qs.length + 1) cap3), w.heap.size ≤ b) ∧ DocM w0 X d (.slice (some ⟨g3, 0, none⟩) (qs.length + 1) cap3) (putQ qs 0 ⟨[c0, c1, c2, c3, c4, c5, c6, c7, c8, c9, c10], t, [e0, e1, e2, e3, e4, e5, e6, e7, e8, e9, e10], u⟩) ∧ But (OfD d (.slice none qs.length 0)) w X from fun X hX => by
              subst hX
              have hsw : w.heap.size ≤ w3.heap.size := (hbWH.out.trans (hbw3.out.mono hbWH.out.size)).size
              have hrb3 : rb < w3.heap.size := by have := hbw3.out.size; have := hrb2.out; omega
              have hrow4 : W3.ownsRow w3.heap.size 155 22 (.slice (some ⟨g3, 0, none⟩) (qs.length + 1) cap3) (putQ qs 0 ⟨[c0, c1, c2, c3, c4, c5, c6, c7, c8, c9, c10], t, [e0, e1, e2, e3, e4, e5, e6, e7, e8, e9, e10], u⟩).length (flatQ (putQ qs 0 ⟨[c0, c1, c2, c3, c4, c5, c6, c7, c8, c9, c10], t, [e0, e1, e2, e3, e4, e5, e6, e7, e8, e9, e10], u⟩)) := by
                rw [putQ_length hi, putQ, ← flatQ_putIn hD3.ok.wide 0 hi]
                exact hrow3
              have hnw := fun b (hb : b ∈ ownL (.slice (some ⟨g3, 0, none⟩) (qs.length + 1) cap3)) => (ownsRow_lt hrow4 b hb).1
              have hch : But (OfD d (.slice none qs.length 0)) w ((W3.setCell ⟨d, 0, none⟩ (.slice (some ⟨g3, 0, none⟩) (qs.length + 1) cap3)).setRow rb zeroCells) := by
                refine ⟨?_, ?_, ?_, ?_, fun k hk hs => ?_⟩
                · exact ((hbWH.out.trans (hbW3.mono hbWH.out.size))).os
                · exact ((hbWH.out.trans (hbW3.mono hbWH.out.size))).tape
                · exact ((hbWH.out.trans (hbW3.mono hbWH.out.size))).output
                · rw [setRow_size, size_setCell]; exact ((hbWH.out.trans (hbW3.mono hbWH.out.size))).size
                · rw [setRow_other _ _ _ _ (by have := hrb2.out; omega), Below.heap_setCell W3 ⟨d, 0, none⟩ (.slice (some ⟨g3, 0, none⟩) (qs.length + 1) cap3) k (fun e => hs (.inl e))]
                  exact (hbWH.out.trans (hbW3.mono hbWH.out.size)).block k hk
              refine ⟨setRow_heap _ rb _ _ _ _ hrbX3, fun b hb => Nat.le_trans hsw (hnw b hb), ⟨?_, ?_, putQ_ok hD3.ok ⟨htH.out, huH.out, by rw [← hvH.out]; exact hokH.out, by rw [← hvH'.out]; exact hovH.out⟩, fun hb => by have := hnw d hb; omega, hD3.base, ?_, by rw [putQ_length hi]; omega⟩, hch⟩
              · rw [setRow_other _ _ _ _ hdr]
                have h5 : W3.heap[d]? = some (.cells #[(.slice none 0 0)] 53 (0, 0)) := (hW3.block d hd3).trans hfrd
                rw [setCell_eq_setRow W3 d 0 _ _ _ _ h5]
                exact setRow_heap W3 d _ _ _ _ h5
              · exact (ownsRow_keep hrow4 (fun b hb => by
                  have h6 := hnw b hb
                  rw [setRow_other _ _ _ _ (by omega), Below.heap_setCell W3 ⟨d, 0, none⟩ (.slice (some ⟨g3, 0, none⟩) (qs.length + 1) cap3) b (by show b ≠ d; omega)])).mono (by have := hH.out.bel.size; omega)
              · exact hH.out.bel.trans (hch.below' hH.out.bel.size (fun k hk hs => by have := hH.out.lts k hs; omega)))
            have r1H := Lib.hid r1
            have r2H := Lib.hid r2
            have r3H := Lib.hid r3
            have hn0H := Lib.hid hn0
            clear hn0 r1 r2 r3 hrow3 hv3n hbW2 hbW3 hW1 hW2 hW3 hD3
            have x0 := hbxH.out W1 hbW1 0
            have x1 := hbxH.out W1 hbW1 1
            have x2 := hbxH.out W1 hbW1 2
            have x3 := hbxH.out W1 hbW1 3
            have x4 := hbxH.out W1 hbW1 4
            have x5 := hbxH.out W1 hbW1 5
            have x6 := hbxH.out W1 hbW1 6
            have x7 := hbxH.out W1 hbW1 7
            have x8 := hbxH.out W1 hbW1 8
            have x9 := hbxH.out W1 hbW1 9
            have x10 := hbxH.out W1 hbW1 10
            have y0 := hbvH.out W1 hbW1 0
            have y1 := hbvH.out W1 hbW1 1
            have y2 := hbvH.out W1 hbW1 2
            have y3 := hbvH.out W1 hbW1 3
            have y4 := hbvH.out W1 hbW1 4
            have y5 := hbvH.out W1 hbW1 5
            have y6 := hbvH.out W1 hbW1 6
            have y7 := hbvH.out W1 hbW1 7
            have y8 := hbvH.out W1 hbW1 8
            have y9 := hbvH.out W1 hbW1 9
            have y10 := hbvH.out W1 hbW1 10
            simp only [List.getElem?_cons_zero, List.getElem?_cons_succ, List.getElem?_toArray, Nat.add_zero, Nat.reduceAdd] at x0 x1 x2 x3 x4 x5 x6 x7 x8 x9 x10 y0 y1 y2 y3 y4 y5 y6 y7 y8 y9 y10
            clear hbW1
            go_wp2_with (first | (at_builtin; refine Lib.wpList_append_run _ rfl _ _ _ _ rfl _ _ rfl rfl _ _ r1H.out ?_) | (at_builtin; refine Lib.wpList_append_run _ rfl _ _ _ _ rfl _ _ rfl rfl _ _ r2H.out ?_) | (at_builtin; refine Lib.wpList_append_run _ rfl _ _ _ _ rfl _ _ rfl rfl _ _ r3H.out ?_) | (refine wpList_store_row rfl 31 (.tmp 6) _ rfl rb zeroCells rfl rfl 31 zeroCells hrbX3 termSize rfl hzero.out ?_))
            have hfin := Lib.hid (hfinH.out _ rfl)
            (try simp only [Exit.inBlock, Exit.then])
            refine bodyPost_ret (results_row_tmp2 rfl _ _ rb 31 _ (0, 0) _ rfl hfin.out.1 Try.underlying31 rfl termSize) rfl ?_
            exact .inr (.inr ⟨hvH.out ▸ hokH.out, hvH'.out ▸ hovH.out, 0, hi, h1H.out, (fun q hq => (by have := h2H.out q hq; omega)), .inr (.inr ⟨hno.out, by omega, rfl, (.slice (some ⟨g3, 0, none⟩) (qs.length + 1) cap3), hfin.out.2⟩)⟩)
          · by_cases hck : cap = i
            · have hck' := hck.symm
              subst hck'
              obtain rfl : i = qs.length := by omega
              have hfrd : w3.heap[d]? = some (.cells #[(.slice (some ⟨g, 0, none⟩) qs.length qs.length)] 53 (0, 0)) := hD3.cell
              obtain ⟨v1, W1, v2, W2, v3, W3, r1, r2, r3, hW1, hW2, hW3, hv1, hv2, hv3, hv3n, hrow3⟩ := rows_put pairRow hD3.row hD3.ok.ones hi (by omega) [c0, c1, c2, c3, c4, c5, c6, c7, c8, c9, c10, e0, e1, e2, e3, e4, e5, e6, e7, e8, e9, e10] rfl (fun z hz => by
                rcases List.mem_append.1 (show z ∈ [c0, c1, c2, c3, c4, c5, c6, c7, c8, c9, c10] ++ [e0, e1, e2, e3, e4, e5, e6, e7, e8, e9, e10] from hz) with hz | hz
                · exact hones z hz
                · exact houes z hz) (y := .slice (some ⟨g, 0, none⟩) (qs.length - qs.length) (qs.length - qs.length)) (by have h := Piece.back hD3.row hi; rwa [if_pos rfl] at h)
              obtain ⟨g3, cap3, rfl, -, -⟩ := row_form hrow3 hv3n
              have hbW1 := hbw3.out.trans (hW1.mono hbw3.out.size)
              have hbW2 := hbw3.out.trans (hW2.mono hbw3.out.size)
              have hbW3 := hbw3.out.trans (hW3.mono hbw3.out.size)
              have hd3 : d < w3.heap.size := hD3.lt
              have hdc1 : W1.cell? ⟨d, 0, none⟩ = some (.slice (some ⟨g, 0, none⟩) qs.length qs.length) := (hW1.cell (p := ⟨d, 0, none⟩) hd3).trans hdc
              have hdc2 : W2.cell? ⟨d, 0, none⟩ = some (.slice (some ⟨g, 0, none⟩) qs.length qs.length) := (hW2.cell (p := ⟨d, 0, none⟩) hd3).trans hdc
              have hdc3 : W3.cell? ⟨d, 0, none⟩ = some (.slice (some ⟨g, 0, none⟩) qs.length qs.length) := (hW3.cell (p := ⟨d, 0, none⟩) hd3).trans hdc
              have hdcA : (w3.alloc (Obj.cells #[] 155)).cell? ⟨d, 0, none⟩ = some (.slice (some ⟨g, 0, none⟩) qs.length qs.length) := (((Below.refl w3.heap.size w3).alloc (Nat.le_refl _) _).cell (p := ⟨d, 0, none⟩) hd3).trans hdc
              have hfr3 : W3.frozen? ⟨d, 0, none⟩ = false := frozen_of_row W3 d 0 _ _ ((hW3.block d hd3).trans hfrd)
              have hrbX3 : (W3.setCell ⟨d, 0, none⟩ (.slice (some ⟨g3, 0, none⟩) (qs.length + 1) cap3)).heap[rb]? = some (.cells zeroCells 31 (0, 0)) := (Below.heap_setCell W3 ⟨d, 0, none⟩ (.slice (some ⟨g3, 0, none⟩) (qs.length + 1) cap3) rb (by show rb ≠ d; omega)).trans (hrbX.out W3 hbW3)
              have hfinH := Lib.hid (show ∀ X, X = (W3.setCell ⟨d, 0, none⟩ (.slice (some ⟨g3, 0, none⟩) (qs.length + 1) cap3)).setRow rb zeroCells → X.heap[rb]? = some (.cells zeroCells 31 (0, 0)) ∧ (∀ b ∈ ownL (.slice (some ⟨g3, 0, none⟩) (qs.length + 1) cap3), w.heap.size ≤ b) ∧ DocM w0 X d (.slice (some ⟨g3, 0, none⟩) (qs.length + 1) cap3) (putQ qs qs.length ⟨[c0, c1, c2, c3, c4, c5, c6, c7, c8, c9, c10], t, [e0, e1, e2, e3, e4, e5, e6, e7, e8, e9, e10], u⟩) ∧ But (OfD d (.slice (some ⟨g, 0, none⟩) qs.length qs.length)) w X from fun X hX => by
                subst hX
                have hsw : w.heap.size ≤ w3.heap.size := (hbWH.out.trans (hbw3.out.mono hbWH.out.size)).size
                have hrb3 : rb < w3.heap.size := by have := hbw3.out.size; have := hrb2.out; omega
                have hrow4 : W3.ownsRow w3.heap.size 155 22 (.slice (some ⟨g3, 0, none⟩) (qs.length + 1) cap3) (putQ qs qs.length ⟨[c0, c1, c2, c3, c4, c5, c6, c7, c8, c9, c10], t, [e0, e1, e2, e3, e4, e5, e6, e7, e8, e9, e10], u⟩).length (flatQ (putQ qs qs.length ⟨[c0, c1, c2, c3, c4, c5, c6, c7, c8, c9, c10], t, [e0, e1, e2, e3, e4, e5, e6, e7, e8, e9, e10], u⟩)) := by
                  rw [putQ_length hi, putQ, ← flatQ_putIn hD3.ok.wide qs.length hi]
                  exact hrow3
                have hnw := fun b (hb : b ∈ ownL (.slice (some ⟨g3, 0, none⟩) (qs.length + 1) cap3)) => (ownsRow_lt hrow4 b hb).1
                have hch : But (OfD d (.slice (some ⟨g, 0, none⟩) qs.length qs.length)) w ((W3.setCell ⟨d, 0, none⟩ (.slice (some ⟨g3, 0, none⟩) (qs.length + 1) cap3)).setRow rb zeroCells) := by
                  refine ⟨?_, ?_, ?_, ?_, fun k hk hs => ?_⟩
                  · exact ((hbWH.out.trans (hbW3.mono hbWH.out.size))).os
                  · exact ((hbWH.out.trans (hbW3.mono hbWH.out.size))).tape
                  · exact ((hbWH.out.trans (hbW3.mono hbWH.out.size))).output
                  · rw [setRow_size, size_setCell]; exact ((hbWH.out.trans (hbW3.mono hbWH.out.size))).size
                  · rw [setRow_other _ _ _ _ (by have := hrb2.out; omega), Below.heap_setCell W3 ⟨d, 0, none⟩ (.slice (some ⟨g3, 0, none⟩) (qs.length + 1) cap3) k (fun e => hs (.inl e))]
                    exact (hbWH.out.trans (hbW3.mono hbWH.out.size)).block k hk
                refine ⟨setRow_heap _ rb _ _ _ _ hrbX3, fun b hb => Nat.le_trans hsw (hnw b hb), ⟨?_, ?_, putQ_ok hD3.ok ⟨htH.out, huH.out, by rw [← hvH.out]; exact hokH.out, by rw [← hvH'.out]; exact hovH.out⟩, fun hb => by have := hnw d hb; omega, hD3.base, ?_, by rw [putQ_length hi]; omega⟩, hch⟩
                · rw [setRow_other _ _ _ _ hdr]
                  have h5 : W3.heap[d]? = some (.cells #[(.slice (some ⟨g, 0, none⟩) qs.length qs.length)] 53 (0, 0)) := (hW3.block d hd3).trans hfrd
                  rw [setCell_eq_setRow W3 d 0 _ _ _ _ h5]
                  exact setRow_heap W3 d _ _ _ _ h5
                · exact (ownsRow_keep hrow4 (fun b hb => by
                    have h6 := hnw b hb
                    rw [setRow_other _ _ _ _ (by omega), Below.heap_setCell W3 ⟨d, 0, none⟩ (.slice (some ⟨g3, 0, none⟩) (qs.length + 1) cap3) b (by show b ≠ d; omega)])).mono (by have := hH.out.bel.size; omega)
                · exact hH.out.bel.trans (hch.below' hH.out.bel.size (fun k hk hs => by have := hH.out.lts k hs; omega)))
              have r1H := Lib.hid r1
              have r2H := Lib.hid r2
              simp only [Nat.sub_self] at r3
              have r3H := Lib.hid r3
              clear r1 r2 r3 hrow3 hv3n hbW2 hbW3 hW1 hW2 hW3 hD3
              have x0 := hbxH.out W1 hbW1 0
              have x1 := hbxH.out W1 hbW1 1
              have x2 := hbxH.out W1 hbW1 2
              have x3 := hbxH.out W1 hbW1 3
              have x4 := hbxH.out W1 hbW1 4
              have x5 := hbxH.out W1 hbW1 5
              have x6 := hbxH.out W1 hbW1 6
              have x7 := hbxH.out W1 hbW1 7
              have x8 := hbxH.out W1 hbW1 8
              have x9 := hbxH.out W1 hbW1 9
              have x10 := hbxH.out W1 hbW1 10
              have y0 := hbvH.out W1 hbW1 0
              have y1 := hbvH.out W1 hbW1 1
              have y2 := hbvH.out W1 hbW1 2
              have y3 := hbvH.out W1 hbW1 3
              have y4 := hbvH.out W1 hbW1 4
              have y5 := hbvH.out W1 hbW1 5
              have y6 := hbvH.out W1 hbW1 6
              have y7 := hbvH.out W1 hbW1 7
              have y8 := hbvH.out W1 hbW1 8
              have y9 := hbvH.out W1 hbW1 9
              have y10 := hbvH.out W1 hbW1 10
              simp only [List.getElem?_cons_zero, List.getElem?_cons_succ, List.getElem?_toArray, Nat.add_zero, Nat.reduceAdd] at x0 x1 x2 x3 x4 x5 x6 x7 x8 x9 x10 y0 y1 y2 y3 y4 y5 y6 y7 y8 y9 y10
              clear hbW1
              go_wp2_with (first | (at_builtin; refine Lib.wpList_append_run _ rfl _ _ _ _ rfl _ _ rfl rfl _ _ r1H.out ?_) | (at_builtin; refine Lib.wpList_append_run _ rfl _ _ _ _ rfl _ _ rfl rfl _ _ r2H.out ?_) | (at_builtin; refine Lib.wpList_append_run _ rfl _ _ _ _ rfl _ _ rfl rfl _ _ r3H.out ?_) | (refine wpList_store_row rfl 31 (.tmp 6) _ rfl rb zeroCells rfl rfl 31 zeroCells hrbX3 termSize rfl hzero.out ?_))
              have hfin := Lib.hid (hfinH.out _ rfl)
              (try simp only [Exit.inBlock, Exit.then])
              refine bodyPost_ret (results_row_tmp2 rfl _ _ rb 31 _ (0, 0) _ rfl hfin.out.1 Try.underlying31 rfl termSize) rfl ?_
              exact .inr (.inr ⟨hvH.out ▸ hokH.out, hvH'.out ▸ hovH.out, qs.length, hi, h1H.out, (fun q hq => (by have := h2H.out q hq; omega)), .inr (.inr ⟨hno.out, by omega, rfl, (.slice (some ⟨g3, 0, none⟩) (qs.length + 1) cap3), hfin.out.2⟩)⟩)
            · have hc0 : ¬ cap = 0 := by omega
              have hfrd : w3.heap[d]? = some (.cells #[(.slice (some ⟨g, 0, none⟩) qs.length cap)] 53 (0, 0)) := hD3.cell
              obtain ⟨v1, W1, v2, W2, v3, W3, r1, r2, r3, hW1, hW2, hW3, hv1, hv2, hv3, hv3n, hrow3⟩ := rows_put pairRow hD3.row hD3.ok.ones hi (by omega) [c0, c1, c2, c3, c4, c5, c6, c7, c8, c9, c10, e0, e1, e2, e3, e4, e5, e6, e7, e8, e9, e10] rfl (fun z hz => by
                rcases List.mem_append.1 (show z ∈ [c0, c1, c2, c3, c4, c5, c6, c7, c8, c9, c10] ++ [e0, e1, e2, e3, e4, e5, e6, e7, e8, e9, e10] from hz) with hz | hz
                · exact hones z hz
                · exact houes z hz) (y := .slice (some ⟨g, i * 22, none⟩) (qs.length - i) (cap - i)) (by have h := Piece.back hD3.row hi; rwa [if_neg hck] at h)
              obtain ⟨g3, cap3, rfl, -, -⟩ := row_form hrow3 hv3n
              have hbW1 := hbw3.out.trans (hW1.mono hbw3.out.size)
              have hbW2 := hbw3.out.trans (hW2.mono hbw3.out.size)
              have hbW3 := hbw3.out.trans (hW3.mono hbw3.out.size)
              have hd3 : d < w3.heap.size := hD3.lt
              have hdc1 : W1.cell? ⟨d, 0, none⟩ = some (.slice (some ⟨g, 0, none⟩) qs.length cap) := (hW1.cell (p := ⟨d, 0, none⟩) hd3).trans hdc
              have hdc2 : W2.cell? ⟨d, 0, none⟩ = some (.slice (some ⟨g, 0, none⟩) qs.length cap) := (hW2.cell (p := ⟨d, 0, none⟩) hd3).trans hdc
              have hdc3 : W3.cell? ⟨d, 0, none⟩ = some (.slice (some ⟨g, 0, none⟩) qs.length cap) := (hW3.cell (p := ⟨d, 0, none⟩) hd3).trans hdc
              have hdcA : (w3.alloc (Obj.cells #[] 155)).cell? ⟨d, 0, none⟩ = some (.slice (some ⟨g, 0, none⟩) qs.length cap) := (((Below.refl w3.heap.size w3).alloc (Nat.le_refl _) _).cell (p := ⟨d, 0, none⟩) hd3).trans hdc
              have hfr3 : W3.frozen? ⟨d, 0, none⟩ = false := frozen_of_row W3 d 0 _ _ ((hW3.block d hd3).trans hfrd)
              have hrbX3 : (W3.setCell ⟨d, 0, none⟩ (.slice (some ⟨g3, 0, none⟩) (qs.length + 1) cap3)).heap[rb]? = some (.cells zeroCells 31 (0, 0)) := (Below.heap_setCell W3 ⟨d, 0, none⟩ (.slice (some ⟨g3, 0, none⟩) (qs.length + 1) cap3) rb (by show rb ≠ d; omega)).trans (hrbX.out W3 hbW3)
              have hfinH := Lib.hid (show ∀ X, X = (W3.setCell ⟨d, 0, none⟩ (.slice (some ⟨g3, 0, none⟩) (qs.length + 1) cap3)).setRow rb zeroCells → X.heap[rb]? = some (.cells zeroCells 31 (0, 0)) ∧ (∀ b ∈ ownL (.slice (some ⟨g3, 0, none⟩) (qs.length + 1) cap3), w.heap.size ≤ b) ∧ DocM w0 X d (.slice (some ⟨g3, 0, none⟩) (qs.length + 1) cap3) (putQ qs i ⟨[c0, c1, c2, c3, c4, c5, c6, c7, c8, c9, c10], t, [e0, e1, e2, e3, e4, e5, e6, e7, e8, e9, e10], u⟩) ∧ But (OfD d (.slice (some ⟨g, 0, none⟩) qs.length cap)) w X from fun X hX => by
                subst hX
                have hsw : w.heap.size ≤ w3.heap.size := (hbWH.out.trans (hbw3.out.mono hbWH.out.size)).size
                have hrb3 : rb < w3.heap.size := by have := hbw3.out.size; have := hrb2.out; omega
                have hrow4 : W3.ownsRow w3.heap.size 155 22 (.slice (some ⟨g3, 0, none⟩) (qs.length + 1) cap3) (putQ qs i ⟨[c0, c1, c2, c3, c4, c5, c6, c7, c8, c9, c10], t, [e0, e1, e2, e3, e4, e5, e6, e7, e8, e9, e10], u⟩).length (flatQ (putQ qs i ⟨[c0, c1, c2, c3, c4, c5, c6, c7, c8, c9, c10], t, [e0, e1, e2, e3, e4, e5, e6, e7, e8, e9, e10], u⟩)) := by
                  rw [putQ_length hi, putQ, ← flatQ_putIn hD3.ok.wide i hi]
                  exact hrow3
                have hnw := fun b (hb : b ∈ ownL (.slice (some ⟨g3, 0, none⟩) (qs.length + 1) cap3)) => (ownsRow_lt hrow4 b hb).1
                have hch : But (OfD d (.slice (some ⟨g, 0, none⟩) qs.length cap)) w ((W3.setCell ⟨d, 0, none⟩ (.slice (some ⟨g3, 0, none⟩) (qs.length + 1) cap3)).setRow rb zeroCells) := by
                  refine ⟨?_, ?_, ?_, ?_, fun k hk hs => ?_⟩
                  · exact ((hbWH.out.trans (hbW3.mono hbWH.out.size))).os
                  · exact ((hbWH.out.trans (hbW3.mono hbWH.out.size))).tape
                  · exact ((hbWH.out.trans (hbW3.mono hbWH.out.size))).output
                  · rw [setRow_size, size_setCell]; exact ((hbWH.out.trans (hbW3.mono hbWH.out.size))).size
                  · rw [setRow_other _ _ _ _ (by have := hrb2.out; omega), Below.heap_setCell W3 ⟨d, 0, none⟩ (.slice (some ⟨g3, 0, none⟩) (qs.length + 1) cap3) k (fun e => hs (.inl e))]
                    exact (hbWH.out.trans (hbW3.mono hbWH.out.size)).block k hk
                refine ⟨setRow_heap _ rb _ _ _ _ hrbX3, fun b hb => Nat.le_trans hsw (hnw b hb), ⟨?_, ?_, putQ_ok hD3.ok ⟨htH.out, huH.out, by rw [← hvH.out]; exact hokH.out, by rw [← hvH'.out]; exact hovH.out⟩, fun hb => by have := hnw d hb; omega, hD3.base, ?_, by rw [putQ_length hi]; omega⟩, hch⟩
                · rw [setRow_other _ _ _ _ hdr]
                  have h5 : W3.heap[d]? = some (.cells #[(.slice (some ⟨g, 0, none⟩) qs.length cap)] 53 (0, 0)) := (hW3.block d hd3).trans hfrd
                  rw [setCell_eq_setRow W3 d 0 _ _ _ _ h5]
                  exact setRow_heap W3 d _ _ _ _ h5
                · exact (ownsRow_keep hrow4 (fun b hb => by
                    have h6 := hnw b hb
                    rw [setRow_other _ _ _ _ (by omega), Below.heap_setCell W3 ⟨d, 0, none⟩ (.slice (some ⟨g3, 0, none⟩) (qs.length + 1) cap3) b (by show b ≠ d; omega)])).mono (by have := hH.out.bel.size; omega)
                · exact hH.out.bel.trans (hch.below' hH.out.bel.size (fun k hk hs => by have := hH.out.lts k hs; omega)))
              have r1H := Lib.hid r1
              have r2H := Lib.hid r2
              have r3H := Lib.hid r3
              clear r1 r2 r3 hrow3 hv3n hbW2 hbW3 hW1 hW2 hW3 hD3
              have x0 := hbxH.out W1 hbW1 0
              have x1 := hbxH.out W1 hbW1 1
              have x2 := hbxH.out W1 hbW1 2
              have x3 := hbxH.out W1 hbW1 3
              have x4 := hbxH.out W1 hbW1 4
              have x5 := hbxH.out W1 hbW1 5
              have x6 := hbxH.out W1 hbW1 6
              have x7 := hbxH.out W1 hbW1 7
              have x8 := hbxH.out W1 hbW1 8
              have x9 := hbxH.out W1 hbW1 9
              have x10 := hbxH.out W1 hbW1 10
              have y0 := hbvH.out W1 hbW1 0
              have y1 := hbvH.out W1 hbW1 1
              have y2 := hbvH.out W1 hbW1 2
              have y3 := hbvH.out W1 hbW1 3
              have y4 := hbvH.out W1 hbW1 4
              have y5 := hbvH.out W1 hbW1 5
              have y6 := hbvH.out W1 hbW1 6
              have y7 := hbvH.out W1 hbW1 7
              have y8 := hbvH.out W1 hbW1 8
              have y9 := hbvH.out W1 hbW1 9
              have y10 := hbvH.out W1 hbW1 10
              simp only [List.getElem?_cons_zero, List.getElem?_cons_succ, List.getElem?_toArray, Nat.add_zero, Nat.reduceAdd] at x0 x1 x2 x3 x4 x5 x6 x7 x8 x9 x10 y0 y1 y2 y3 y4 y5 y6 y7 y8 y9 y10
              clear hbW1
              go_wp2_with (first | (at_builtin; refine Lib.wpList_append_run _ rfl _ _ _ _ rfl _ _ rfl rfl _ _ r1H.out ?_) | (at_builtin; refine Lib.wpList_append_run _ rfl _ _ _ _ rfl _ _ rfl rfl _ _ r2H.out ?_) | (at_builtin; refine Lib.wpList_append_run _ rfl _ _ _ _ rfl _ _ rfl rfl _ _ r3H.out ?_) | (refine wpList_store_row rfl 31 (.tmp 6) _ rfl rb zeroCells rfl rfl 31 zeroCells hrbX3 termSize rfl hzero.out ?_))
              have hfin := Lib.hid (hfinH.out _ rfl)
              (try simp only [Exit.inBlock, Exit.then])
              refine bodyPost_ret (results_row_tmp2 rfl _ _ rb 31 _ (0, 0) _ rfl hfin.out.1 Try.underlying31 rfl termSize) rfl ?_
              exact .inr (.inr ⟨hvH.out ▸ hokH.out, hvH'.out ▸ hovH.out, i, hi, h1H.out, (fun q hq => (by have := h2H.out q hq; omega)), .inr (.inr ⟨hno.out, by omega, rfl, (.slice (some ⟨g3, 0, none⟩) (qs.length + 1) cap3), hfin.out.2⟩)⟩)
end Go.Proofs.Ytgmdbpplfjkjmaa
