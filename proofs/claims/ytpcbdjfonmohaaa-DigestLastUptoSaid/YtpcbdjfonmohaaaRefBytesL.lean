/- tenonref03.Bytes of lists and records, and of any term; Encode. -/
import Derived.Test.YtpcbdjfonmohaaaRefBytesK
import Derived.Test.YtpcbdjfonmohaaaRefPart
namespace Go.Proofs.Ytpcbdjfonmohaaa
open Go.RowKit
set_option linter.unusedVariables false
set_option linter.unusedSimpArgs false

section
variable (b : Bool) (n : Int) (fl : Nat) (tx : ByteArray) (bs : List UInt8) (rf : Int) (ls : List Term) (es : List (ByteArray × Term)) (cl : ByteArray) (ver : Int)

set_option maxRecDepth 100000 in
set_option maxHeartbeats 1600000 in
theorem refBytes_list (ih : ∀ u ∈ ls, RefBytes u) : RefBytes (.mk 8 b n fl tx bs rf ls es cl ver) := by
  intro cs w h hok hlen
  simp only [TRep] at h
  obtain ⟨sb, sl, se, xl, xe, rfl, ⟨hk, hn, hf, ht, hr, hc, hv⟩, hrb, hrl, htl, hre, hte⟩ := h
  have hvv : builtV (.mk 8 b n fl tx bs rf ls es cl ver) = .list (builtVs ls) := by rw [builtV]; rfl
  rw [hvv] at hlen hok ⊢
  rw [encV] at hlen ⊢
  simp only [List.length_cons] at hlen
  have hrbH := Lib.hid hrb
  have hrlH := Lib.hid hrl
  have hreH := Lib.hid hre
  have htlH := Lib.hid htl
  have hteH := Lib.hid hte
  obtain ⟨ob, ocb, rfl, -⟩ := hrb
  obtain ⟨ol, ocl, rfl, -⟩ := hrl
  obtain ⟨oe, oce, rfl, -⟩ := hre
  obtain ⟨i0, hi0, hz0, hz1, hz2⟩ := info_parts Try.infoU8
  have own1 := ownsRow_one (w.alloc (.cells #[.int .i64 8, .bool b, .int .i64 n, .float .f64 fl, .string tx, .slice ob bs.length ocb, .int .u64 rf, .slice ol ls.length ocl, .slice oe es.length oce, .string cl, .int .i64 ver] 34)) (w.heap.size + 1) (by simp) (.int .u8 8) 5
  have hbB : Below w.heap.size w (w.alloc (.cells #[.int .i64 8, .bool b, .int .i64 n, .float .f64 fl, .string tx, .slice ob bs.length ocb, .int .u64 rf, .slice ol ls.length ocl, .slice oe es.length oce, .string cl, .int .i64 ver] 34)) := (Below.refl _ _).alloc (Nat.le_refl _) _
  have hb0 : Below w.heap.size w ((w.alloc (.cells #[.int .i64 8, .bool b, .int .i64 n, .float .f64 fl, .string tx, .slice ob bs.length ocb, .int .u64 rf, .slice ol ls.length ocl, .slice oe es.length oce, .string cl, .int .i64 ver] 34)).alloc (.cells #[.int .u8 8] 5)) := hbB.alloc (by simp) _
  rw [size_alloc] at own1
  have hsz0 : w.heap.size + 2 ≤ ((w.alloc (.cells #[.int .i64 8, .bool b, .int .i64 n, .float .f64 fl, .string tx, .slice ob bs.length ocb, .int .u64 rf, .slice ol ls.length ocl, .slice oe es.length oce, .string cl, .int .i64 ver] 34)).alloc (.cells #[.int .u8 8] 5)).heap.size := by simp
  obtain ⟨oa0, cap0, e0, hcap0, hmax0, hsm0, -, -, hform⟩ := hrlH.out
  cases e0
  unfold maxLen at hmax0
  obtain ⟨d, hdd⟩ : ∃ d, d = builtVs ls := ⟨_, rfl⟩
  have hdl : d.length = ls.length := by rw [hdd, builtVs_eq, List.length_map]
  have hdk := Lib.hid (fun (k : Nat) (t : Term) (h : ls[k]? = some t) => (show d[k]? = some (builtV t) by rw [hdd, builtVs_eq, List.getElem?_map, h]; rfl))
  rw [← hdd] at hok hlen ⊢
  rw [hdl] at hlen ⊢
  have hokH := Lib.hid (okVs_mem d hok.2)
  rw [List.length_append] at hlen
  have hwi : IntKind.u64.wrap (ls.length : Int) = (ls.length : Int) := by rw [IntKind.wrap_u64]; omega
  have hnum := Lib.hid (fun W => refNumber_said ls.length (by omega) W)
  have hnp := numB_pos ls.length
  have hdat := Lib.hid (TsRep.at ls xl htl)
  have ihH := Lib.hid ih
  have hbox : (w.alloc (.cells #[.int .i64 8, .bool b, .int .i64 n, .float .f64 fl, .string tx, .slice ob bs.length ocb, .int .u64 rf, .slice ol ls.length ocl, .slice oe es.length oce, .string cl, .int .i64 ver] 34)).cell? ⟨w.heap.size, 7, none⟩ = some (.slice ol ls.length ocl) := by simp [go_sem]
  have hboxH := Lib.hid hbox
  have hformH := Lib.hid hform
  clear ih hok hdd hbox hform
  clear hvv htl hte
  go_enter Try.func100, Try.ntmps100
  go_wp2_with fail
  refine (hnum.out _).mono ?_
  rintro e w3 ⟨sv3, rfl, hown3, hb3⟩
  obtain ⟨g3, cap3, rfl, -, -⟩ := row_some hown3 hnp
  have hownD := ownsRow_keep own1 (fun b hb' => hb3.block b (ownsRow_lt own1 b hb').2)
  have hbw3 : Below (w.heap.size + 1) (w.alloc (.cells #[.int .i64 8, .bool b, .int .i64 n, .float .f64 fl, .string tx, .slice ob bs.length ocb, .int .u64 rf, .slice ol ls.length ocl, .slice oe es.length oce, .string cl, .int .i64 ver] 34)) w3 := ((Below.refl _ _).alloc (by simp) _).trans (below_le hb3 (by omega))
  have hsz3 := hbw3.size
  rw [size_alloc] at hsz3
  clear own1
  go_wp2_with (at_builtin; refine wpList_append_own _ rfl _ _ 28 rfl (w.heap.size + 1) 5 i0 _ 1 1 Try.underlying28 hi0 hz0 hz1 hz2 rfl (by omega) _ _ _ rfl hownD ⟨g3, 0, none⟩ _ cap3 (byteCells (numB ls.length)) rfl (by simp [byteCells]) ?c1 (byteCells_one _) (by unfold maxLen; omega) (by omega) (by omega) ?_; (case c1 => exact World.ownsRow.cells hown3 rfl); intro v4 w4 hown4 hgr4 _; have hp4 := put_cat (l := [UInt8.ofNat 8]) (m := (numB ls.length)) hbw3 (by omega) hownD hgr4 hown4; clear hgr4 hown4; have hone4 : v4.oneCell' = true := (by obtain ⟨_, _, rfl, -⟩ := ownsRow_form hp4.1; rfl); have hown4 := hp4.1; have hb4 := hp4.2; have hsz4 := hb4.size; clear hp4; have own4H := Lib.hid hown4; clear hown4)
  go_loopw [3, 6] (fun cur i wr => ∃ (k : Nat) (bs' : List UInt8) (yv : Value), yv = cur ∧ k ≤ ls.length ∧ i = .int .i64 k ∧ bs' ++ encVs (d.drop k) = 8 :: (numB ls.length ++ encVs d) ∧ wr.ownsRow (w.heap.size + 1) 5 1 yv bs'.length (byteCells bs') ∧ Below (w.heap.size + 1) (w.alloc (.cells #[.int .i64 8, .bool b, .int .i64 n, .float .f64 fl, .string tx, .slice ob bs.length ocb, .int .u64 rf, .slice ol ls.length ocl, .slice oe es.length oce, .string cl, .int .i64 ver] 34)) wr) (fun _ i _ => ls.length - (intOf i).toNat)
  case atStart => exact ⟨0, _, _, rfl, Nat.zero_le _, rfl, by rw [List.drop_zero]; simp, own4H.out, hb4⟩
  case round =>
    obtain ⟨k, bs', yv, hyv, hk, rfl, heq, hown, hb⟩ := hrel
    subst hyv
    have heqH := Lib.hid heq
    have hll : bs'.length + (encVs (d.drop k)).length = (numB ls.length).length + (encVs d).length + 1 := by rw [← List.length_append, heq, List.length_cons, List.length_append]
    have hone : yv.oneCell' = true := by obtain ⟨_, _, rfl, -⟩ := ownsRow_form hown; rfl
    have hbs := hb.size
    rw [size_alloc] at hbs
    have r7 := (hb.cell (p := ⟨w.heap.size, 7, none⟩) (Nat.lt_succ_self _)).trans hboxH.out
    have hbw : Below w.heap.size w wr := hbB.trans (below_le hb (Nat.le_succ _))
    clear heq
    by_cases hlt : k < ls.length
    · obtain ⟨g, o, rfl, hcells⟩ := hformH.out (by omega)
      obtain ⟨u, hp⟩ : ∃ u, ls[k]? = some u := ⟨_, List.getElem?_eq_getElem hlt⟩
      obtain ⟨ds, ht', e1⟩ := hdat.out k u hp
      have hcell : ∀ j, j < 11 → w.cell? ⟨g, o + k * 11 + j, none⟩ = ds[j]? := fun j hj => by
        have h1 := hcells (k * 11 + j) (by omega)
        rw [e1 j hj, ← Nat.add_assoc] at h1
        exact h1
      have hdp := hdk.out k u hp
      have hsp := encVs_drop hdp
      have hll2 : (encVs (d.drop k)).length = (encV (builtV u)).length + (encVs (d.drop (k + 1))).length := by rw [hsp, List.length_append]
      have hsplit := Lib.hid hsp
      have hvp := encV_pos (builtV u)
      have hih := Lib.hid (ihH.out u (List.mem_of_getElem? hp) ds wr (TRep.keep (keeps_of_below hbw) _ _ ht') (hokH.out _ (List.mem_of_getElem? hdp)) (by omega))
      obtain ⟨d0, d1, d2, d3, d4, d5, d6, d7, d8, d9, d10, rfl⟩ := eleven (TRep.len ht')
      have q0 := hcell 0 (by omega)
      have q1 := hcell 1 (by omega)
      have q2 := hcell 2 (by omega)
      have q3 := hcell 3 (by omega)
      have q4 := hcell 4 (by omega)
      have q5 := hcell 5 (by omega)
      have q6 := hcell 6 (by omega)
      have q7 := hcell 7 (by omega)
      have q8 := hcell 8 (by omega)
      have q9 := hcell 9 (by omega)
      have q10 := hcell 10 (by omega)
      simp only [List.getElem?_cons_zero, List.getElem?_cons_succ, Nat.add_zero] at q0 q1 q2 q3 q4 q5 q6 q7 q8 q9 q10
      have p0 := keeps_of_below hbw _ _ q0
      have p1 := keeps_of_below hbw _ _ q1
      have p2 := keeps_of_below hbw _ _ q2
      have p3 := keeps_of_below hbw _ _ q3
      have p4 := keeps_of_below hbw _ _ q4
      have p5 := keeps_of_below hbw _ _ q5
      have p6 := keeps_of_below hbw _ _ q6
      have p7 := keeps_of_below hbw _ _ q7
      have p8 := keeps_of_below hbw _ _ q8
      have p9 := keeps_of_below hbw _ _ q9
      have p10 := keeps_of_below hbw _ _ q10
      clear hcell hcells e1 ht' hp hsp hdp q0 q1 q2 q3 q4 q5 q6 q7 q8 q9 q10
      go_wp2_with fail
      refine hih.out.mono ?_
      rintro e w5 ⟨sv5, rfl, hown5, hb5⟩
      obtain ⟨g5, cap5, rfl, -, -⟩ := row_some hown5 hvp
      have hownE := ownsRow_keep hown (fun b hb' => hb5.block b (ownsRow_lt hown b hb').2)
      have hbw5 := hb.trans (below_le hb5 hbs)
      have hsz5 := hbw5.size
      rw [size_alloc] at hsz5
      clear hown r7 p0 p1 p2 p3 p4 p5 p6 p7 p8 p9 p10
      go_wp2_with (at_builtin; refine wpList_append_own _ rfl _ _ 28 rfl (w.heap.size + 1) 5 i0 _ 1 1 Try.underlying28 hi0 hz0 hz1 hz2 rfl (by omega) _ _ _ rfl hownE ⟨g5, 0, none⟩ _ cap5 (byteCells (encV (builtV u))) rfl (by simp [byteCells]) ?c1 (byteCells_one _) (by unfold maxLen; omega) (by omega) (by omega) ?_; (case c1 => exact World.ownsRow.cells hown5 rfl); intro v6 w6 hown6 hgr6 _; have hp6 := put_cat (l := bs') (m := (encV (builtV u))) hbw5 (by omega) hownE hgr6 hown6; clear hgr6 hown6; have hone6 : v6.oneCell' = true := (by obtain ⟨_, _, rfl, -⟩ := ownsRow_form hp6.1; rfl); have hown6 := hp6.1; have hb6 := hp6.2; have hsz6 := hb6.size; clear hp6)
      go_roundw
      case rel => exact ⟨k + 1, _, _, rfl, by omega, by go_num, by rw [List.append_assoc]; exact (congrArg (bs' ++ ·) hsplit.out.symm).trans heqH.out, hown6, hb6⟩
      case measure => simp [intOf]; omega
    · obtain rfl : k = ls.length := by omega
      have hfin := heqH.out
      rw [List.drop_of_length_le (by omega), encVs, List.append_nil] at hfin
      have hownH := Lib.hid hown
      have hfinH := Lib.hid hfin
      clear hfin hown
      go_wp2_with fail
      go_ret
      rw [← hfinH.out]
      exact ⟨_, rfl, ownsRow_base hownH.out (Nat.le_succ _), hbw⟩

set_option maxRecDepth 100000 in
set_option maxHeartbeats 1600000 in
theorem refBytes_record (ih : ∀ u ∈ es.map (·.2), RefBytes u) : RefBytes (.mk 10 b n fl tx bs rf ls es cl ver) := by
  intro cs w h hok hlen
  simp only [TRep] at h
  obtain ⟨sb, sl, se, xl, xe, rfl, ⟨hk, hn, hf, ht, hr, hc, hv⟩, hrb, hrl, htl, hre, hte⟩ := h
  have hvv : builtV (.mk 10 b n fl tx bs rf ls es cl ver) = .record cl ver (builtEs es) := by rw [builtV]; rfl
  rw [hvv] at hlen hok ⊢
  rw [encV] at hlen ⊢
  simp only [List.length_cons] at hlen
  have hrbH := Lib.hid hrb
  have hrlH := Lib.hid hrl
  have hreH := Lib.hid hre
  have htlH := Lib.hid htl
  have hteH := Lib.hid hte
  obtain ⟨ob, ocb, rfl, -⟩ := hrb
  obtain ⟨ol, ocl, rfl, -⟩ := hrl
  obtain ⟨oe, oce, rfl, -⟩ := hre
  obtain ⟨i0, hi0, hz0, hz1, hz2⟩ := info_parts Try.infoU8
  have own1 := ownsRow_one (w.alloc (.cells #[.int .i64 10, .bool b, .int .i64 n, .float .f64 fl, .string tx, .slice ob bs.length ocb, .int .u64 rf, .slice ol ls.length ocl, .slice oe es.length oce, .string cl, .int .i64 ver] 34)) (w.heap.size + 1) (by simp) (.int .u8 10) 5
  have hbB : Below w.heap.size w (w.alloc (.cells #[.int .i64 10, .bool b, .int .i64 n, .float .f64 fl, .string tx, .slice ob bs.length ocb, .int .u64 rf, .slice ol ls.length ocl, .slice oe es.length oce, .string cl, .int .i64 ver] 34)) := (Below.refl _ _).alloc (Nat.le_refl _) _
  have hb0 : Below w.heap.size w ((w.alloc (.cells #[.int .i64 10, .bool b, .int .i64 n, .float .f64 fl, .string tx, .slice ob bs.length ocb, .int .u64 rf, .slice ol ls.length ocl, .slice oe es.length oce, .string cl, .int .i64 ver] 34)).alloc (.cells #[.int .u8 10] 5)) := hbB.alloc (by simp) _
  rw [size_alloc] at own1
  have hsz0 : w.heap.size + 2 ≤ ((w.alloc (.cells #[.int .i64 10, .bool b, .int .i64 n, .float .f64 fl, .string tx, .slice ob bs.length ocb, .int .u64 rf, .slice ol ls.length ocl, .slice oe es.length oce, .string cl, .int .i64 ver] 34)).alloc (.cells #[.int .u8 10] 5)).heap.size := by simp
  have hn1 : 1 ≤ ver ∧ ver ≤ 1000 := by
    have h1 : (if nameOk cl = false then (8 : Int) else if ver < 1 ∨ 1000 < ver then 1 else fieldsF (builtEs es)) = 0 := hok.1
    split at h1
    · omega
    · split at h1 <;> omega
  obtain ⟨m, hm⟩ : ∃ m : Nat, ver = (m : Int) := ⟨ver.toNat, by omega⟩
  subst hm
  rw [Int.toNat_natCast] at hlen ⊢
  have hwm : IntKind.u64.wrap (m : Int) = (m : Int) := by rw [IntKind.wrap_u64]; omega
  have hdl : (builtEs es).length = es.length := by rw [builtEs_eq, List.length_map]
  rw [hdl] at hlen ⊢
  obtain ⟨F, hF⟩ : ∃ F, F = numB es.length ++ encDs (builtEs es) := ⟨_, rfl⟩
  have hFp : 1 ≤ F.length := by rw [hF, List.length_append]; have := numB_pos es.length; omega
  have htx0 := fun W (hbW : Below w.heap.size w W) => refFields_said es ih _ xe W (hreH.out.keep (keeps_of_below hbW)) (EsRep.keep (keeps_of_below hbW) _ _ hteH.out) hok.2
  rw [← hF] at hlen ⊢ htx0
  rw [List.length_append, List.length_append] at hlen
  have htg := textB_ge cl
  have hfl := Lib.hid (fun W hbW => htx0 W hbW (by omega))
  have htx := Lib.hid (fun W => refText_said cl W (by omega))
  have hnum := Lib.hid (fun W => refNumber_said m (by omega) W)
  have hbox : (w.alloc (.cells #[.int .i64 10, .bool b, .int .i64 n, .float .f64 fl, .string tx, .slice ob bs.length ocb, .int .u64 rf, .slice ol ls.length ocl, .slice oe es.length oce, .string cl, .int .i64 (m : Int)] 34)).heap[w.heap.size]? = some (.cells #[.int .i64 10, .bool b, .int .i64 n, .float .f64 fl, .string tx, .slice ob bs.length ocb, .int .u64 rf, .slice ol ls.length ocl, .slice oe es.length oce, .string cl, .int .i64 (m : Int)] 34 (0, 0)) := heap_alloc_new w _
  have hboxH := Lib.hid hbox
  clear hF htx0 ih hok hbox
  clear hvv htl hte
  go_enter Try.func100, Try.ntmps100
  go_wp2_with fail
  refine (htx.out _).mono ?_
  rintro e w3 ⟨sv3, rfl, hown3, hb3⟩
  obtain ⟨g3, cap3, rfl, -, -⟩ := row_some hown3 (textB_pos cl)
  have hownD := ownsRow_keep own1 (fun b hb' => hb3.block b (ownsRow_lt own1 b hb').2)
  have hbw3 : Below (w.heap.size + 1) (w.alloc (.cells #[.int .i64 10, .bool b, .int .i64 n, .float .f64 fl, .string tx, .slice ob bs.length ocb, .int .u64 rf, .slice ol ls.length ocl, .slice oe es.length oce, .string cl, .int .i64 (m : Int)] 34)) w3 := ((Below.refl _ _).alloc (by simp) _).trans (below_le hb3 (by omega))
  have hsz3 := hbw3.size
  rw [size_alloc] at hsz3
  clear own1
  go_wp2_with (at_builtin; refine wpList_append_own _ rfl _ _ 28 rfl (w.heap.size + 1) 5 i0 _ 1 1 Try.underlying28 hi0 hz0 hz1 hz2 rfl (by omega) _ _ _ rfl hownD ⟨g3, 0, none⟩ _ cap3 (byteCells (textB cl)) rfl (by simp [byteCells]) ?c1 (byteCells_one _) (by unfold maxLen; omega) (by omega) (by omega) ?_; (case c1 => exact World.ownsRow.cells hown3 rfl); intro v4 w4 hown4 hgr4 _; have hp4 := put_cat (l := [UInt8.ofNat 10]) (m := (textB cl)) hbw3 (by omega) hownD hgr4 hown4; clear hgr4 hown4; have hone4 : v4.oneCell' = true := (by obtain ⟨_, _, rfl, -⟩ := ownsRow_form hp4.1; rfl); have hown4 := hp4.1; have hb4 := hp4.2; have hsz4 := hb4.size; clear hp4; have x10 := block_cells ((hb4.block w.heap.size (Nat.lt_succ_self _)).trans hboxH.out) 10; have x8 := block_cells ((hb4.block w.heap.size (Nat.lt_succ_self _)).trans hboxH.out) 8; simp only [List.getElem?_toArray, List.getElem?_cons_zero, List.getElem?_cons_succ] at x10 x8)
  rw [size_alloc] at hsz4
  refine (hnum.out _).mono ?_
  rintro e w5 ⟨sv5, rfl, hown5, hb5⟩
  obtain ⟨g5, cap5, rfl, -, -⟩ := row_some hown5 (numB_pos m)
  have hownE := ownsRow_keep hown4 (fun b hb' => hb5.block b (ownsRow_lt hown4 b hb').2)
  have hbw5 : Below (w.heap.size + 1) (w.alloc (.cells #[.int .i64 10, .bool b, .int .i64 n, .float .f64 fl, .string tx, .slice ob bs.length ocb, .int .u64 rf, .slice ol ls.length ocl, .slice oe es.length oce, .string cl, .int .i64 (m : Int)] 34)) w5 := hb4.trans (below_le hb5 hsz4)
  have hsz5 := hbw5.size
  rw [size_alloc] at hsz5
  have hl4 : ([UInt8.ofNat 10] ++ textB cl).length = 1 + (textB cl).length := List.length_append
  clear hown4 x10 x8
  go_wp2_with (at_builtin; refine wpList_append_own _ rfl _ _ 28 rfl (w.heap.size + 1) 5 i0 _ 1 1 Try.underlying28 hi0 hz0 hz1 hz2 rfl (by omega) _ _ _ rfl hownE ⟨g5, 0, none⟩ _ cap5 (byteCells (numB m)) rfl (by simp [byteCells]) ?c1 (byteCells_one _) (by unfold maxLen; omega) (by omega) (by omega) ?_; (case c1 => exact World.ownsRow.cells hown5 rfl); intro v6 w6 hown6 hgr6 _; have hp6 := put_cat (l := ([UInt8.ofNat 10] ++ textB cl)) (m := (numB m)) hbw5 (by omega) hownE hgr6 hown6; clear hgr6 hown6; have hone6 : v6.oneCell' = true := (by obtain ⟨_, _, rfl, -⟩ := ownsRow_form hp6.1; rfl); have hown6 := hp6.1; have hb6 := hp6.2; have hsz6 := hb6.size; clear hp6; have x8 := block_cells ((hb6.block w.heap.size (Nat.lt_succ_self _)).trans hboxH.out) 8; simp only [List.getElem?_toArray, List.getElem?_cons_zero, List.getElem?_cons_succ] at x8)
  rw [size_alloc] at hsz6
  refine (hfl.out _ (hbB.trans (below_le hb6 (Nat.le_succ _)))).mono ?_
  rintro e w7 ⟨sv7, rfl, hown7, hb7⟩
  obtain ⟨g7, cap7, rfl, -, -⟩ := row_some hown7 hFp
  have hownF := ownsRow_keep hown6 (fun b hb' => hb7.block b (ownsRow_lt hown6 b hb').2)
  have hbw7 : Below (w.heap.size + 1) (w.alloc (.cells #[.int .i64 10, .bool b, .int .i64 n, .float .f64 fl, .string tx, .slice ob bs.length ocb, .int .u64 rf, .slice ol ls.length ocl, .slice oe es.length oce, .string cl, .int .i64 (m : Int)] 34)) w7 := hb6.trans (below_le hb7 hsz6)
  have hsz7 := hbw7.size
  rw [size_alloc] at hsz7
  have hl6 : ([UInt8.ofNat 10] ++ textB cl ++ numB m).length = 1 + (textB cl).length + (numB m).length := by rw [List.length_append, hl4]
  clear hown6 x8
  go_wp2_with (at_builtin; refine wpList_append_own _ rfl _ _ 28 rfl (w.heap.size + 1) 5 i0 _ 1 1 Try.underlying28 hi0 hz0 hz1 hz2 rfl (by omega) _ _ _ rfl hownF ⟨g7, 0, none⟩ _ cap7 (byteCells F) rfl (by simp [byteCells]) ?c1 (byteCells_one _) (by unfold maxLen; omega) (by omega) (by omega) ?_; (case c1 => exact World.ownsRow.cells hown7 rfl); intro v8 w8 hown8 hgr8 _; have hp8 := put_cat (l := ([UInt8.ofNat 10] ++ textB cl ++ numB m)) (m := F) hbw7 (by omega) hownF hgr8 hown8; clear hgr8 hown8; have hone8 : v8.oneCell' = true := (by obtain ⟨_, _, rfl, -⟩ := ownsRow_form hp8.1; rfl); have hown8 := hp8.1; have hb8 := hp8.2; have hsz8 := hb8.size; clear hp8)
  rw [List.append_assoc, List.append_assoc] at hown8
  go_ret
  exact ⟨_, rfl, ownsRow_base hown8 (Nat.le_succ _), hbB.trans (below_le hb8 (Nat.le_succ _))⟩
end
theorem refBytes_any : ∀ t : Term, RefBytes t := term_all fun t ih => by
  obtain ⟨k, b, n, fl, tx, bs, rf, ls, es, cl, ver⟩ := t
  have ihl : ∀ u ∈ ls, RefBytes u := fun u hu => ih u (List.mem_append_left _ hu)
  have ihe : ∀ u ∈ es.map (·.2), RefBytes u := fun u hu => ih u (List.mem_append_right _ hu)
  by_cases h1 : k = 1
  · subst h1; exact refBytes_nil b n fl tx bs rf ls es cl ver
  by_cases h2 : k = 2
  · subst h2; exact refBytes_bool b n fl tx bs rf ls es cl ver
  by_cases h3 : k = 3
  · subst h3; exact refBytes_int b n fl tx bs rf ls es cl ver
  by_cases h4 : k = 4
  · subst h4; exact refBytes_float b n fl tx bs rf ls es cl ver
  by_cases h5 : k = 5
  · subst h5; exact refBytes_text b n fl tx bs rf ls es cl ver
  by_cases h6 : k = 6
  · subst h6; exact refBytes_bytes b n fl tx bs rf ls es cl ver
  by_cases h7 : k = 7
  · subst h7; exact refBytes_ref b n fl tx bs rf ls es cl ver
  by_cases h8 : k = 8
  · subst h8; exact refBytes_list b n fl tx bs rf ls es cl ver ihl
  by_cases h9 : k = 9
  · subst h9; exact refBytes_dict b n fl tx bs rf ls es cl ver ihe
  by_cases h10 : k = 10
  · subst h10; exact refBytes_record b n fl tx bs rf ls es cl ver ihe
  intro cs w h hok
  exfalso
  rw [builtV, show (k == 1) = false by simp; omega, show (k == 2) = false by simp; omega, show (k == 3) = false by simp; omega, show (k == 4) = false by simp; omega, show (k == 5) = false by simp; omega, show (k == 6) = false by simp; omega, show (k == 7) = false by simp; omega, show (k == 8) = false by simp; omega, show (k == 9) = false by simp; omega, show (k == 10) = false by simp; omega] at hok
  simp only [cond_false] at hok
  cases hk : k == 11 <;> rw [hk] at hok <;> exact hok
end Go.Proofs.Ytpcbdjfonmohaaa
