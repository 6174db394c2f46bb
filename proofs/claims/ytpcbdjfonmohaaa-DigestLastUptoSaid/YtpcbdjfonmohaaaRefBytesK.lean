/- tenonref03.Bytes, kind by kind. -/
import Derived.Test.YtpcbdjfonmohaaaRefBytes
namespace Go.Proofs.Ytpcbdjfonmohaaa
open Go.RowKit
set_option linter.unusedVariables false
set_option linter.unusedSimpArgs false

section
variable (b : Bool) (n : Int) (fl : Nat) (tx : ByteArray) (bs : List UInt8) (rf : Int) (ls : List Term) (es : List (ByteArray × Term)) (cl : ByteArray) (ver : Int)

set_option maxRecDepth 100000 in
set_option maxHeartbeats 1600000 in
theorem refBytes_nil : RefBytes (.mk 1 b n fl tx bs rf ls es cl ver) := by
  intro cs w h hok hlen
  simp only [TRep] at h
  obtain ⟨sb, sl, se, xl, xe, rfl, ⟨hk, hn, hf, ht, hr, hc, hv⟩, hrb, hrl, htl, hre, hte⟩ := h
  have hvv : builtV (.mk 1 b n fl tx bs rf ls es cl ver) = .nil := by rw [builtV]; rfl
  rw [hvv] at hlen hok ⊢
  rw [encV] at hlen ⊢
  simp only [List.length_cons] at hlen
  have hrbH := Lib.hid hrb
  have hrlH := Lib.hid hrl
  have hreH := Lib.hid hre
  have htlH := Lib.hid htl
  have hteH := Lib.hid hte
  obtain ⟨ob, ocb, rfl, -⟩ := hrb
  obtain ⟨ol, ocl, rfl, -⟩ := hrl
  obtain ⟨oe, oce, rfl, -⟩ := hre
  obtain ⟨i0, hi0, hz0, hz1, hz2⟩ := info_parts Try.infoU8
  have own1 := ownsRow_one (w.alloc (.cells #[.int .i64 1, .bool b, .int .i64 n, .float .f64 fl, .string tx, .slice ob bs.length ocb, .int .u64 rf, .slice ol ls.length ocl, .slice oe es.length oce, .string cl, .int .i64 ver] 34)) (w.heap.size + 1) (by simp) (.int .u8 1) 5
  have hbB : Below w.heap.size w (w.alloc (.cells #[.int .i64 1, .bool b, .int .i64 n, .float .f64 fl, .string tx, .slice ob bs.length ocb, .int .u64 rf, .slice ol ls.length ocl, .slice oe es.length oce, .string cl, .int .i64 ver] 34)) := (Below.refl _ _).alloc (Nat.le_refl _) _
  have hb0 : Below w.heap.size w ((w.alloc (.cells #[.int .i64 1, .bool b, .int .i64 n, .float .f64 fl, .string tx, .slice ob bs.length ocb, .int .u64 rf, .slice ol ls.length ocl, .slice oe es.length oce, .string cl, .int .i64 ver] 34)).alloc (.cells #[.int .u8 1] 5)) := hbB.alloc (by simp) _
  rw [size_alloc] at own1
  have hsz0 : w.heap.size + 2 ≤ ((w.alloc (.cells #[.int .i64 1, .bool b, .int .i64 n, .float .f64 fl, .string tx, .slice ob bs.length ocb, .int .u64 rf, .slice ol ls.length ocl, .slice oe es.length oce, .string cl, .int .i64 ver] 34)).alloc (.cells #[.int .u8 1] 5)).heap.size := by simp
  clear hvv htl hte
  go_enter Try.func100, Try.ntmps100
  go_wp2
  go_ret
  exact ⟨_, rfl, ownsRow_base own1 (Nat.le_succ _), hb0⟩

set_option maxRecDepth 100000 in
set_option maxHeartbeats 1600000 in
theorem refBytes_bool : RefBytes (.mk 2 b n fl tx bs rf ls es cl ver) := by
  intro cs w h hok hlen
  simp only [TRep] at h
  obtain ⟨sb, sl, se, xl, xe, rfl, ⟨hk, hn, hf, ht, hr, hc, hv⟩, hrb, hrl, htl, hre, hte⟩ := h
  have hvv : builtV (.mk 2 b n fl tx bs rf ls es cl ver) = .bool b := by rw [builtV]; rfl
  rw [hvv] at hlen hok ⊢
  rw [encV] at hlen ⊢
  simp only [List.length_cons] at hlen
  have hrbH := Lib.hid hrb
  have hrlH := Lib.hid hrl
  have hreH := Lib.hid hre
  have htlH := Lib.hid htl
  have hteH := Lib.hid hte
  obtain ⟨ob, ocb, rfl, -⟩ := hrb
  obtain ⟨ol, ocl, rfl, -⟩ := hrl
  obtain ⟨oe, oce, rfl, -⟩ := hre
  obtain ⟨i0, hi0, hz0, hz1, hz2⟩ := info_parts Try.infoU8
  have own1 := ownsRow_one (w.alloc (.cells #[.int .i64 2, .bool b, .int .i64 n, .float .f64 fl, .string tx, .slice ob bs.length ocb, .int .u64 rf, .slice ol ls.length ocl, .slice oe es.length oce, .string cl, .int .i64 ver] 34)) (w.heap.size + 1) (by simp) (.int .u8 2) 5
  have hbB : Below w.heap.size w (w.alloc (.cells #[.int .i64 2, .bool b, .int .i64 n, .float .f64 fl, .string tx, .slice ob bs.length ocb, .int .u64 rf, .slice ol ls.length ocl, .slice oe es.length oce, .string cl, .int .i64 ver] 34)) := (Below.refl _ _).alloc (Nat.le_refl _) _
  have hb0 : Below w.heap.size w ((w.alloc (.cells #[.int .i64 2, .bool b, .int .i64 n, .float .f64 fl, .string tx, .slice ob bs.length ocb, .int .u64 rf, .slice ol ls.length ocl, .slice oe es.length oce, .string cl, .int .i64 ver] 34)).alloc (.cells #[.int .u8 2] 5)) := hbB.alloc (by simp) _
  rw [size_alloc] at own1
  have hsz0 : w.heap.size + 2 ≤ ((w.alloc (.cells #[.int .i64 2, .bool b, .int .i64 n, .float .f64 fl, .string tx, .slice ob bs.length ocb, .int .u64 rf, .slice ol ls.length ocl, .slice oe es.length oce, .string cl, .int .i64 ver] 34)).alloc (.cells #[.int .u8 2] 5)).heap.size := by simp
  clear hvv htl hte
  go_enter Try.func100, Try.ntmps100
  cases b
  all_goals
    go_wp2_with (first | (at_builtin; refine wpList_append_lies _ rfl _ _ 28 rfl (w.heap.size + 1) 5 i0 _ 1 1 Try.underlying28 hi0 hz0 hz1 hz2 rfl (by omega) _ 1 _ rfl (own1.alloc _) ⟨w.heap.size + 1 + 1, 0, none⟩ 1 1 [.int .u8 0] rfl rfl (World.news_of_block (cs := #[.int .u8 0]) (t := 5) (fr := (0, 0)) (heap_alloc_at _ (by simp))) (one_single rfl) (by omega) (by unfold maxLen; omega) (by omega) (by simp) _ rfl ?_; intro g2 cap2 w2 hown2 hgr2 hat2 hlt2) | (at_builtin; refine wpList_append_lies _ rfl _ _ 28 rfl (w.heap.size + 1) 5 i0 _ 1 1 Try.underlying28 hi0 hz0 hz1 hz2 rfl (by omega) _ 1 _ rfl (own1.alloc _) ⟨w.heap.size + 1 + 1, 0, none⟩ 1 1 [.int .u8 1] rfl rfl (World.news_of_block (cs := #[.int .u8 1]) (t := 5) (fr := (0, 0)) (heap_alloc_at _ (by simp))) (one_single rfl) (by omega) (by unfold maxLen; omega) (by omega) (by simp) _ rfl ?_; intro g2 cap2 w2 hown2 hgr2 hat2 hlt2))
    go_ret
    exact ⟨_, rfl, ownsRow_base hown2 (Nat.le_succ _), (hb0.alloc (by omega) _).grown hgr2 (by simp; omega) (fun k hk => by have := (ownsRow_lt own1 k (ownL_some.2 hk)).1; omega)⟩

set_option maxRecDepth 100000 in
set_option maxHeartbeats 1600000 in
theorem refBytes_text : RefBytes (.mk 5 b n fl tx bs rf ls es cl ver) := by
  intro cs w h hok hlen
  simp only [TRep] at h
  obtain ⟨sb, sl, se, xl, xe, rfl, ⟨hk, hn, hf, ht, hr, hc, hv⟩, hrb, hrl, htl, hre, hte⟩ := h
  have hvv : builtV (.mk 5 b n fl tx bs rf ls es cl ver) = .text tx := by rw [builtV]; rfl
  rw [hvv] at hlen hok ⊢
  rw [encV] at hlen ⊢
  simp only [List.length_cons] at hlen
  have hrbH := Lib.hid hrb
  have hrlH := Lib.hid hrl
  have hreH := Lib.hid hre
  have htlH := Lib.hid htl
  have hteH := Lib.hid hte
  obtain ⟨ob, ocb, rfl, -⟩ := hrb
  obtain ⟨ol, ocl, rfl, -⟩ := hrl
  obtain ⟨oe, oce, rfl, -⟩ := hre
  obtain ⟨i0, hi0, hz0, hz1, hz2⟩ := info_parts Try.infoU8
  have own1 := ownsRow_one (w.alloc (.cells #[.int .i64 5, .bool b, .int .i64 n, .float .f64 fl, .string tx, .slice ob bs.length ocb, .int .u64 rf, .slice ol ls.length ocl, .slice oe es.length oce, .string cl, .int .i64 ver] 34)) (w.heap.size + 1) (by simp) (.int .u8 5) 5
  have hbB : Below w.heap.size w (w.alloc (.cells #[.int .i64 5, .bool b, .int .i64 n, .float .f64 fl, .string tx, .slice ob bs.length ocb, .int .u64 rf, .slice ol ls.length ocl, .slice oe es.length oce, .string cl, .int .i64 ver] 34)) := (Below.refl _ _).alloc (Nat.le_refl _) _
  have hb0 : Below w.heap.size w ((w.alloc (.cells #[.int .i64 5, .bool b, .int .i64 n, .float .f64 fl, .string tx, .slice ob bs.length ocb, .int .u64 rf, .slice ol ls.length ocl, .slice oe es.length oce, .string cl, .int .i64 ver] 34)).alloc (.cells #[.int .u8 5] 5)) := hbB.alloc (by simp) _
  rw [size_alloc] at own1
  have hsz0 : w.heap.size + 2 ≤ ((w.alloc (.cells #[.int .i64 5, .bool b, .int .i64 n, .float .f64 fl, .string tx, .slice ob bs.length ocb, .int .u64 rf, .slice ol ls.length ocl, .slice oe es.length oce, .string cl, .int .i64 ver] 34)).alloc (.cells #[.int .u8 5] 5)).heap.size := by simp
  have htg := textB_ge tx
  have htx := Lib.hid (fun W => refText_said tx W (by omega))
  clear hvv htl hte
  go_enter Try.func100, Try.ntmps100
  go_wp2_with fail
  refine (htx.out _).mono ?_
  rintro e w3 ⟨sv3, rfl, hown3, hb3⟩
  obtain ⟨g3, cap3, rfl, -, -⟩ := row_some hown3 (textB_pos tx)
  have hownD := ownsRow_keep own1 (fun b hb' => hb3.block b (ownsRow_lt own1 b hb').2)
  have hbw3 : Below (w.heap.size + 1) (w.alloc (.cells #[.int .i64 5, .bool b, .int .i64 n, .float .f64 fl, .string tx, .slice ob bs.length ocb, .int .u64 rf, .slice ol ls.length ocl, .slice oe es.length oce, .string cl, .int .i64 ver] 34)) w3 := ((Below.refl _ _).alloc (by simp) _).trans (below_le hb3 (by omega))
  have hsz3 := hbw3.size
  rw [size_alloc] at hsz3
  clear own1
  go_wp2_with (at_builtin; refine wpList_append_own _ rfl _ _ 28 rfl (w.heap.size + 1) 5 i0 _ 1 1 Try.underlying28 hi0 hz0 hz1 hz2 rfl (by omega) _ _ _ rfl hownD ⟨g3, 0, none⟩ _ cap3 (byteCells (textB tx)) rfl (by simp [byteCells]) ?c1 (byteCells_one _) (by unfold maxLen; omega) (by omega) (by omega) ?_; (case c1 => exact World.ownsRow.cells hown3 rfl); intro v4 w4 hown4 hgr4 _; have hp4 := put_cat (l := [UInt8.ofNat 5]) (m := (textB tx)) hbw3 (by omega) hownD hgr4 hown4; clear hgr4 hown4; have hone4 : v4.oneCell' = true := (by obtain ⟨_, _, rfl, -⟩ := ownsRow_form hp4.1; rfl); have hown4 := hp4.1; have hb4 := hp4.2; have hsz4 := hb4.size; clear hp4)
  go_ret
  exact ⟨_, rfl, ownsRow_base hown4 (Nat.le_succ _), hbB.trans (below_le hb4 (Nat.le_succ _))⟩

set_option maxRecDepth 100000 in
set_option maxHeartbeats 1600000 in
theorem refBytes_bytes : RefBytes (.mk 6 b n fl tx bs rf ls es cl ver) := by
  intro cs w h hok hlen
  simp only [TRep] at h
  obtain ⟨sb, sl, se, xl, xe, rfl, ⟨hk, hn, hf, ht, hr, hc, hv⟩, hrb, hrl, htl, hre, hte⟩ := h
  have hvv : builtV (.mk 6 b n fl tx bs rf ls es cl ver) = .bytes bs := by rw [builtV]; rfl
  rw [hvv] at hlen hok ⊢
  rw [encV] at hlen ⊢
  simp only [List.length_cons] at hlen
  have hrbH := Lib.hid hrb
  have hrlH := Lib.hid hrl
  have hreH := Lib.hid hre
  have htlH := Lib.hid htl
  have hteH := Lib.hid hte
  obtain ⟨ob, ocb, rfl, -⟩ := hrb
  obtain ⟨ol, ocl, rfl, -⟩ := hrl
  obtain ⟨oe, oce, rfl, -⟩ := hre
  obtain ⟨i0, hi0, hz0, hz1, hz2⟩ := info_parts Try.infoU8
  have own1 := ownsRow_one (w.alloc (.cells #[.int .i64 6, .bool b, .int .i64 n, .float .f64 fl, .string tx, .slice ob bs.length ocb, .int .u64 rf, .slice ol ls.length ocl, .slice oe es.length oce, .string cl, .int .i64 ver] 34)) (w.heap.size + 1) (by simp) (.int .u8 6) 5
  have hbB : Below w.heap.size w (w.alloc (.cells #[.int .i64 6, .bool b, .int .i64 n, .float .f64 fl, .string tx, .slice ob bs.length ocb, .int .u64 rf, .slice ol ls.length ocl, .slice oe es.length oce, .string cl, .int .i64 ver] 34)) := (Below.refl _ _).alloc (Nat.le_refl _) _
  have hb0 : Below w.heap.size w ((w.alloc (.cells #[.int .i64 6, .bool b, .int .i64 n, .float .f64 fl, .string tx, .slice ob bs.length ocb, .int .u64 rf, .slice ol ls.length ocl, .slice oe es.length oce, .string cl, .int .i64 ver] 34)).alloc (.cells #[.int .u8 6] 5)) := hbB.alloc (by simp) _
  rw [size_alloc] at own1
  have hsz0 : w.heap.size + 2 ≤ ((w.alloc (.cells #[.int .i64 6, .bool b, .int .i64 n, .float .f64 fl, .string tx, .slice ob bs.length ocb, .int .u64 rf, .slice ol ls.length ocl, .slice oe es.length oce, .string cl, .int .i64 ver] 34)).alloc (.cells #[.int .u8 6] 5)).heap.size := by simp
  have htb : textB ⟨bs.toArray⟩ = numB bs.length ++ bs := by unfold textB; rfl
  rw [← htb] at hlen ⊢
  have htg : bs.length ≤ (textB ⟨bs.toArray⟩).length := textB_ge ⟨bs.toArray⟩
  have htx := Lib.hid (fun W => refText_said ⟨bs.toArray⟩ W (show bs.length ≤ 1099511627776 from by omega))
  have htp := textB_pos ⟨bs.toArray⟩
  have hcv := conv_bytes (hrbH.out.keep (keeps_of_below hb0))
  clear htb
  clear hvv htl hte
  go_enter Try.func100, Try.ntmps100
  go_wp2_with fail
  refine (htx.out _).mono ?_
  rintro e w3 ⟨sv3, rfl, hown3, hb3⟩
  obtain ⟨g3, cap3, rfl, -, -⟩ := row_some hown3 htp
  have hownD := ownsRow_keep own1 (fun b hb' => hb3.block b (ownsRow_lt own1 b hb').2)
  have hbw3 : Below (w.heap.size + 1) (w.alloc (.cells #[.int .i64 6, .bool b, .int .i64 n, .float .f64 fl, .string tx, .slice ob bs.length ocb, .int .u64 rf, .slice ol ls.length ocl, .slice oe es.length oce, .string cl, .int .i64 ver] 34)) w3 := ((Below.refl _ _).alloc (by simp) _).trans (below_le hb3 (by omega))
  have hsz3 := hbw3.size
  rw [size_alloc] at hsz3
  clear own1
  go_wp2_with (at_builtin; refine wpList_append_own _ rfl _ _ 28 rfl (w.heap.size + 1) 5 i0 _ 1 1 Try.underlying28 hi0 hz0 hz1 hz2 rfl (by omega) _ _ _ rfl hownD ⟨g3, 0, none⟩ _ cap3 (byteCells (textB ⟨bs.toArray⟩)) rfl (by simp [byteCells]) ?c1 (byteCells_one _) (by unfold maxLen; omega) (by omega) (by omega) ?_; (case c1 => exact World.ownsRow.cells hown3 rfl); intro v4 w4 hown4 hgr4 _; have hp4 := put_cat (l := [UInt8.ofNat 6]) (m := (textB ⟨bs.toArray⟩)) hbw3 (by omega) hownD hgr4 hown4; clear hgr4 hown4; have hone4 : v4.oneCell' = true := (by obtain ⟨_, _, rfl, -⟩ := ownsRow_form hp4.1; rfl); have hown4 := hp4.1; have hb4 := hp4.2; have hsz4 := hb4.size; clear hp4)
  go_ret
  exact ⟨_, rfl, ownsRow_base hown4 (Nat.le_succ _), hbB.trans (below_le hb4 (Nat.le_succ _))⟩

set_option maxRecDepth 100000 in
set_option maxHeartbeats 1600000 in
theorem refBytes_ref : RefBytes (.mk 7 b n fl tx bs rf ls es cl ver) := by
  intro cs w h hok hlen
  simp only [TRep] at h
  obtain ⟨sb, sl, se, xl, xe, rfl, ⟨hk, hn, hf, ht, hr, hc, hv⟩, hrb, hrl, htl, hre, hte⟩ := h
  have hvv : builtV (.mk 7 b n fl tx bs rf ls es cl ver) = .ref rf := by rw [builtV]; rfl
  rw [hvv] at hlen hok ⊢
  rw [encV] at hlen ⊢
  simp only [List.length_cons] at hlen
  have hrbH := Lib.hid hrb
  have hrlH := Lib.hid hrl
  have hreH := Lib.hid hre
  have htlH := Lib.hid htl
  have hteH := Lib.hid hte
  obtain ⟨ob, ocb, rfl, -⟩ := hrb
  obtain ⟨ol, ocl, rfl, -⟩ := hrl
  obtain ⟨oe, oce, rfl, -⟩ := hre
  obtain ⟨i0, hi0, hz0, hz1, hz2⟩ := info_parts Try.infoU8
  have own1 := ownsRow_one (w.alloc (.cells #[.int .i64 7, .bool b, .int .i64 n, .float .f64 fl, .string tx, .slice ob bs.length ocb, .int .u64 rf, .slice ol ls.length ocl, .slice oe es.length oce, .string cl, .int .i64 ver] 34)) (w.heap.size + 1) (by simp) (.int .u8 7) 5
  have hbB : Below w.heap.size w (w.alloc (.cells #[.int .i64 7, .bool b, .int .i64 n, .float .f64 fl, .string tx, .slice ob bs.length ocb, .int .u64 rf, .slice ol ls.length ocl, .slice oe es.length oce, .string cl, .int .i64 ver] 34)) := (Below.refl _ _).alloc (Nat.le_refl _) _
  have hb0 : Below w.heap.size w ((w.alloc (.cells #[.int .i64 7, .bool b, .int .i64 n, .float .f64 fl, .string tx, .slice ob bs.length ocb, .int .u64 rf, .slice ol ls.length ocl, .slice oe es.length oce, .string cl, .int .i64 ver] 34)).alloc (.cells #[.int .u8 7] 5)) := hbB.alloc (by simp) _
  rw [size_alloc] at own1
  have hsz0 : w.heap.size + 2 ≤ ((w.alloc (.cells #[.int .i64 7, .bool b, .int .i64 n, .float .f64 fl, .string tx, .slice ob bs.length ocb, .int .u64 rf, .slice ol ls.length ocl, .slice oe es.length oce, .string cl, .int .i64 ver] 34)).alloc (.cells #[.int .u8 7] 5)).heap.size := by simp
  have hrn : 0 ≤ rf ∧ rf ≤ 18446744073709551615 := by simpa [Lit.wf, IntKind.min, IntKind.max, IntKind.signed, IntKind.bits] using hr
  obtain ⟨m, hm⟩ : ∃ m : Nat, rf = (m : Int) := ⟨rf.toNat, by omega⟩
  subst hm
  rw [Int.toNat_natCast] at hlen ⊢
  have htx := Lib.hid (fun W => refNumber_said m (by omega) W)
  clear hvv htl hte
  go_enter Try.func100, Try.ntmps100
  go_wp2_with fail
  refine (htx.out _).mono ?_
  rintro e w3 ⟨sv3, rfl, hown3, hb3⟩
  obtain ⟨g3, cap3, rfl, -, -⟩ := row_some hown3 (numB_pos m)
  have hownD := ownsRow_keep own1 (fun b hb' => hb3.block b (ownsRow_lt own1 b hb').2)
  have hbw3 : Below (w.heap.size + 1) (w.alloc (.cells #[.int .i64 7, .bool b, .int .i64 n, .float .f64 fl, .string tx, .slice ob bs.length ocb, .int .u64 m, .slice ol ls.length ocl, .slice oe es.length oce, .string cl, .int .i64 ver] 34)) w3 := ((Below.refl _ _).alloc (by simp) _).trans (below_le hb3 (by omega))
  have hsz3 := hbw3.size
  rw [size_alloc] at hsz3
  clear own1
  go_wp2_with (at_builtin; refine wpList_append_own _ rfl _ _ 28 rfl (w.heap.size + 1) 5 i0 _ 1 1 Try.underlying28 hi0 hz0 hz1 hz2 rfl (by omega) _ _ _ rfl hownD ⟨g3, 0, none⟩ _ cap3 (byteCells (numB m)) rfl (by simp [byteCells]) ?c1 (byteCells_one _) (by unfold maxLen; omega) (by omega) (by omega) ?_; (case c1 => exact World.ownsRow.cells hown3 rfl); intro v4 w4 hown4 hgr4 _; have hp4 := put_cat (l := [UInt8.ofNat 7]) (m := (numB m)) hbw3 (by omega) hownD hgr4 hown4; clear hgr4 hown4; have hone4 : v4.oneCell' = true := (by obtain ⟨_, _, rfl, -⟩ := ownsRow_form hp4.1; rfl); have hown4 := hp4.1; have hb4 := hp4.2; have hsz4 := hb4.size; clear hp4)
  go_ret
  exact ⟨_, rfl, ownsRow_base hown4 (Nat.le_succ _), hbB.trans (below_le hb4 (Nat.le_succ _))⟩

set_option maxRecDepth 100000 in
set_option maxHeartbeats 1600000 in
theorem refBytes_int : RefBytes (.mk 3 b n fl tx bs rf ls es cl ver) := by
  intro cs w h hok hlen
  simp only [TRep] at h
  obtain ⟨sb, sl, se, xl, xe, rfl, ⟨hk, hn, hf, ht, hr, hc, hv⟩, hrb, hrl, htl, hre, hte⟩ := h
  have hvv : builtV (.mk 3 b n fl tx bs rf ls es cl ver) = .int n := by rw [builtV]; rfl
  rw [hvv] at hlen hok ⊢
  rw [encV] at hlen ⊢
  simp only [List.length_cons] at hlen
  have hrbH := Lib.hid hrb
  have hrlH := Lib.hid hrl
  have hreH := Lib.hid hre
  have htlH := Lib.hid htl
  have hteH := Lib.hid hte
  obtain ⟨ob, ocb, rfl, -⟩ := hrb
  obtain ⟨ol, ocl, rfl, -⟩ := hrl
  obtain ⟨oe, oce, rfl, -⟩ := hre
  obtain ⟨i0, hi0, hz0, hz1, hz2⟩ := info_parts Try.infoU8
  have own1 := ownsRow_one (w.alloc (.cells #[.int .i64 3, .bool b, .int .i64 n, .float .f64 fl, .string tx, .slice ob bs.length ocb, .int .u64 rf, .slice ol ls.length ocl, .slice oe es.length oce, .string cl, .int .i64 ver] 34)) (w.heap.size + 1) (by simp) (.int .u8 3) 5
  have hbB : Below w.heap.size w (w.alloc (.cells #[.int .i64 3, .bool b, .int .i64 n, .float .f64 fl, .string tx, .slice ob bs.length ocb, .int .u64 rf, .slice ol ls.length ocl, .slice oe es.length oce, .string cl, .int .i64 ver] 34)) := (Below.refl _ _).alloc (Nat.le_refl _) _
  have hb0 : Below w.heap.size w ((w.alloc (.cells #[.int .i64 3, .bool b, .int .i64 n, .float .f64 fl, .string tx, .slice ob bs.length ocb, .int .u64 rf, .slice ol ls.length ocl, .slice oe es.length oce, .string cl, .int .i64 ver] 34)).alloc (.cells #[.int .u8 3] 5)) := hbB.alloc (by simp) _
  rw [size_alloc] at own1
  have hsz0 : w.heap.size + 2 ≤ ((w.alloc (.cells #[.int .i64 3, .bool b, .int .i64 n, .float .f64 fl, .string tx, .slice ob bs.length ocb, .int .u64 rf, .slice ol ls.length ocl, .slice oe es.length oce, .string cl, .int .i64 ver] 34)).alloc (.cells #[.int .u8 3] 5)).heap.size := by simp
  have hrn : -9223372036854775808 ≤ n ∧ n ≤ 9223372036854775807 := by simpa [Lit.wf, IntKind.min, IntKind.max, IntKind.signed, IntKind.bits] using hn
  have htx := Lib.hid (fun W => refNumber_said (zzN n) (zzN_lt n hrn.1 hrn.2) W)
  clear hvv htl hte
  by_cases hneg : n < 0
  · have hz : ((zzN n : Nat) : Int) = 2 * (-(n + 1)) + 1 := by unfold zzN; rw [if_neg (by omega)]; omega
    have e1 : wrap64 (n + 1) = n + 1 := by unfold wrap64; omega
    have e1' : IntKind.i64.wrap (n + 1) = n + 1 := by simp [IntKind.wrap, IntKind.bits, IntKind.signed]; omega
    have e2 : wrap64 (-(n + 1)) = -(n + 1) := by unfold wrap64; omega
    have e2' : IntKind.i64.wrap (-(n + 1)) = -(n + 1) := by simp [IntKind.wrap, IntKind.bits, IntKind.signed]; omega
    have e3 : IntKind.u64.wrap (-(n + 1)) = -(n + 1) := by rw [IntKind.wrap_u64]; omega
    have e4 : IntKind.u64.wrap (2 * -(n + 1)) = 2 * -(n + 1) := by rw [IntKind.wrap_u64]; omega
    have e5 : IntKind.u64.wrap (2 * -(n + 1) + 1) = ((zzN n : Nat) : Int) := by rw [IntKind.wrap_u64]; omega
    clear hz
    go_enter Try.func100, Try.ntmps100
    go_wp2_with fail
    refine (htx.out _).mono ?_
    rintro e w3 ⟨sv3, rfl, hown3, hb3⟩
    obtain ⟨g3, cap3, rfl, -, -⟩ := row_some hown3 (numB_pos (zzN n))
    have hownD := ownsRow_keep own1 (fun b hb' => hb3.block b (ownsRow_lt own1 b hb').2)
    have hbw3 : Below (w.heap.size + 1) (w.alloc (.cells #[.int .i64 3, .bool b, .int .i64 n, .float .f64 fl, .string tx, .slice ob bs.length ocb, .int .u64 rf, .slice ol ls.length ocl, .slice oe es.length oce, .string cl, .int .i64 ver] 34)) w3 := ((Below.refl _ _).alloc (by simp) _).trans (below_le hb3 (by omega))
    have hsz3 := hbw3.size
    rw [size_alloc] at hsz3
    clear own1
    go_wp2_with (at_builtin; refine wpList_append_own _ rfl _ _ 28 rfl (w.heap.size + 1) 5 i0 _ 1 1 Try.underlying28 hi0 hz0 hz1 hz2 rfl (by omega) _ _ _ rfl hownD ⟨g3, 0, none⟩ _ cap3 (byteCells (numB (zzN n))) rfl (by simp [byteCells]) ?c1 (byteCells_one _) (by unfold maxLen; omega) (by omega) (by omega) ?_; (case c1 => exact World.ownsRow.cells hown3 rfl); intro v4 w4 hown4 hgr4 _; have hp4 := put_cat (l := [UInt8.ofNat 3]) (m := (numB (zzN n))) hbw3 (by omega) hownD hgr4 hown4; clear hgr4 hown4; have hone4 : v4.oneCell' = true := (by obtain ⟨_, _, rfl, -⟩ := ownsRow_form hp4.1; rfl); have hown4 := hp4.1; have hb4 := hp4.2; have hsz4 := hb4.size; clear hp4)
    go_ret
    exact ⟨_, rfl, ownsRow_base hown4 (Nat.le_succ _), hbB.trans (below_le hb4 (Nat.le_succ _))⟩
  · have hz : ((zzN n : Nat) : Int) = 2 * n := by unfold zzN; rw [if_pos (by omega)]; omega
    have e3 : IntKind.u64.wrap n = n := by rw [IntKind.wrap_u64]; omega
    have e4 : IntKind.u64.wrap (2 * n) = ((zzN n : Nat) : Int) := by rw [IntKind.wrap_u64]; omega
    clear hz
    go_enter Try.func100, Try.ntmps100
    go_wp2_with fail
    refine (htx.out _).mono ?_
    rintro e w3 ⟨sv3, rfl, hown3, hb3⟩
    obtain ⟨g3, cap3, rfl, -, -⟩ := row_some hown3 (numB_pos (zzN n))
    have hownD := ownsRow_keep own1 (fun b hb' => hb3.block b (ownsRow_lt own1 b hb').2)
    have hbw3 : Below (w.heap.size + 1) (w.alloc (.cells #[.int .i64 3, .bool b, .int .i64 n, .float .f64 fl, .string tx, .slice ob bs.length ocb, .int .u64 rf, .slice ol ls.length ocl, .slice oe es.length oce, .string cl, .int .i64 ver] 34)) w3 := ((Below.refl _ _).alloc (by simp) _).trans (below_le hb3 (by omega))
    have hsz3 := hbw3.size
    rw [size_alloc] at hsz3
    clear own1
    go_wp2_with (at_builtin; refine wpList_append_own _ rfl _ _ 28 rfl (w.heap.size + 1) 5 i0 _ 1 1 Try.underlying28 hi0 hz0 hz1 hz2 rfl (by omega) _ _ _ rfl hownD ⟨g3, 0, none⟩ _ cap3 (byteCells (numB (zzN n))) rfl (by simp [byteCells]) ?c1 (byteCells_one _) (by unfold maxLen; omega) (by omega) (by omega) ?_; (case c1 => exact World.ownsRow.cells hown3 rfl); intro v4 w4 hown4 hgr4 _; have hp4 := put_cat (l := [UInt8.ofNat 3]) (m := (numB (zzN n))) hbw3 (by omega) hownD hgr4 hown4; clear hgr4 hown4; have hone4 : v4.oneCell' = true := (by obtain ⟨_, _, rfl, -⟩ := ownsRow_form hp4.1; rfl); have hown4 := hp4.1; have hb4 := hp4.2; have hsz4 := hb4.size; clear hp4)
    go_ret
    exact ⟨_, rfl, ownsRow_base hown4 (Nat.le_succ _), hbB.trans (below_le hb4 (Nat.le_succ _))⟩

set_option maxRecDepth 100000 in
set_option maxHeartbeats 1600000 in
theorem refBytes_dict (ih : ∀ u ∈ es.map (·.2), RefBytes u) : RefBytes (.mk 9 b n fl tx bs rf ls es cl ver) := by
  intro cs w h hok hlen
  simp only [TRep] at h
  obtain ⟨sb, sl, se, xl, xe, rfl, ⟨hk, hn, hf, ht, hr, hc, hv⟩, hrb, hrl, htl, hre, hte⟩ := h
  have hvv : builtV (.mk 9 b n fl tx bs rf ls es cl ver) = .dict (builtEs es) := by rw [builtV]; rfl
  rw [hvv] at hlen hok ⊢
  rw [encV] at hlen ⊢
  simp only [List.length_cons] at hlen
  have hrbH := Lib.hid hrb
  have hrlH := Lib.hid hrl
  have hreH := Lib.hid hre
  have htlH := Lib.hid htl
  have hteH := Lib.hid hte
  obtain ⟨ob, ocb, rfl, -⟩ := hrb
  obtain ⟨ol, ocl, rfl, -⟩ := hrl
  have hre' := hre
  obtain ⟨oe, oce, rfl, -⟩ := hre
  obtain ⟨i0, hi0, hz0, hz1, hz2⟩ := info_parts Try.infoU8
  have own1 := ownsRow_one (w.alloc (.cells #[.int .i64 9, .bool b, .int .i64 n, .float .f64 fl, .string tx, .slice ob bs.length ocb, .int .u64 rf, .slice ol ls.length ocl, .slice oe es.length oce, .string cl, .int .i64 ver] 34)) (w.heap.size + 1) (by simp) (.int .u8 9) 5
  have hbB : Below w.heap.size w (w.alloc (.cells #[.int .i64 9, .bool b, .int .i64 n, .float .f64 fl, .string tx, .slice ob bs.length ocb, .int .u64 rf, .slice ol ls.length ocl, .slice oe es.length oce, .string cl, .int .i64 ver] 34)) := (Below.refl _ _).alloc (Nat.le_refl _) _
  have hb0 : Below w.heap.size w ((w.alloc (.cells #[.int .i64 9, .bool b, .int .i64 n, .float .f64 fl, .string tx, .slice ob bs.length ocb, .int .u64 rf, .slice ol ls.length ocl, .slice oe es.length oce, .string cl, .int .i64 ver] 34)).alloc (.cells #[.int .u8 9] 5)) := hbB.alloc (by simp) _
  rw [size_alloc] at own1
  have hsz0 : w.heap.size + 2 ≤ ((w.alloc (.cells #[.int .i64 9, .bool b, .int .i64 n, .float .f64 fl, .string tx, .slice ob bs.length ocb, .int .u64 rf, .slice ol ls.length ocl, .slice oe es.length oce, .string cl, .int .i64 ver] 34)).alloc (.cells #[.int .u8 9] 5)).heap.size := by simp
  have hdl : (builtEs es).length = es.length := by rw [builtEs_eq, List.length_map]
  rw [hdl] at hlen ⊢
  obtain ⟨F, hF⟩ : ∃ F, F = numB es.length ++ encDs (builtEs es) := ⟨_, rfl⟩
  have hFp : 1 ≤ F.length := by rw [hF, List.length_append]; have := numB_pos es.length; omega
  have htx0 := fun W (hbW : Below w.heap.size w W) => refFields_said es ih _ xe W (hre'.keep (keeps_of_below hbW)) (EsRep.keep (keeps_of_below hbW) _ _ hte) hok.2 (by omega)
  rw [← hF] at hlen ⊢ htx0
  have htx := Lib.hid htx0
  clear hF htx0 ih
  clear hvv htl hte
  go_enter Try.func100, Try.ntmps100
  go_wp2_with fail
  refine (htx.out _ hb0).mono ?_
  rintro e w3 ⟨sv3, rfl, hown3, hb3⟩
  obtain ⟨g3, cap3, rfl, -, -⟩ := row_some hown3 hFp
  have hownD := ownsRow_keep own1 (fun b hb' => hb3.block b (ownsRow_lt own1 b hb').2)
  have hbw3 : Below (w.heap.size + 1) (w.alloc (.cells #[.int .i64 9, .bool b, .int .i64 n, .float .f64 fl, .string tx, .slice ob bs.length ocb, .int .u64 rf, .slice ol ls.length ocl, .slice oe es.length oce, .string cl, .int .i64 ver] 34)) w3 := ((Below.refl _ _).alloc (by simp) _).trans (below_le hb3 (by omega))
  have hsz3 := hbw3.size
  rw [size_alloc] at hsz3
  clear own1
  go_wp2_with (at_builtin; refine wpList_append_own _ rfl _ _ 28 rfl (w.heap.size + 1) 5 i0 _ 1 1 Try.underlying28 hi0 hz0 hz1 hz2 rfl (by omega) _ _ _ rfl hownD ⟨g3, 0, none⟩ _ cap3 (byteCells F) rfl (by simp [byteCells]) ?c1 (byteCells_one _) (by unfold maxLen; omega) (by omega) (by omega) ?_; (case c1 => exact World.ownsRow.cells hown3 rfl); intro v4 w4 hown4 hgr4 _; have hp4 := put_cat (l := [UInt8.ofNat 9]) (m := F) hbw3 (by omega) hownD hgr4 hown4; clear hgr4 hown4; have hone4 : v4.oneCell' = true := (by obtain ⟨_, _, rfl, -⟩ := ownsRow_form hp4.1; rfl); have hown4 := hp4.1; have hb4 := hp4.2; have hsz4 := hb4.size; clear hp4)
  go_ret
  exact ⟨_, rfl, ownsRow_base hown4 (Nat.le_succ _), hbB.trans (below_le hb4 (Nat.le_succ _))⟩

set_option maxRecDepth 100000 in
set_option maxHeartbeats 1600000 in
theorem refBytes_float : RefBytes (.mk 4 b n fl tx bs rf ls es cl ver) := by
  intro cs w h hok hlen
  simp only [TRep] at h
  obtain ⟨sb, sl, se, xl, xe, rfl, ⟨hk, hn, hf, ht, hr, hc, hv⟩, hrb, hrl, htl, hre, hte⟩ := h
  have hvv : builtV (.mk 4 b n fl tx bs rf ls es cl ver) = .float fl := by rw [builtV]; rfl
  rw [hvv] at hlen hok ⊢
  rw [encV] at hlen ⊢
  simp only [List.length_cons] at hlen
  have hrbH := Lib.hid hrb
  have hrlH := Lib.hid hrl
  have hreH := Lib.hid hre
  have htlH := Lib.hid htl
  have hteH := Lib.hid hte
  obtain ⟨ob, ocb, rfl, -⟩ := hrb
  obtain ⟨ol, ocl, rfl, -⟩ := hrl
  obtain ⟨oe, oce, rfl, -⟩ := hre
  obtain ⟨i0, hi0, hz0, hz1, hz2⟩ := info_parts Try.infoU8
  have own1 := ownsRow_one (w.alloc (.cells #[.int .i64 4, .bool b, .int .i64 n, .float .f64 fl, .string tx, .slice ob bs.length ocb, .int .u64 rf, .slice ol ls.length ocl, .slice oe es.length oce, .string cl, .int .i64 ver] 34)) (w.heap.size + 1) (by simp) (.int .u8 4) 5
  have hbB : Below w.heap.size w (w.alloc (.cells #[.int .i64 4, .bool b, .int .i64 n, .float .f64 fl, .string tx, .slice ob bs.length ocb, .int .u64 rf, .slice ol ls.length ocl, .slice oe es.length oce, .string cl, .int .i64 ver] 34)) := (Below.refl _ _).alloc (Nat.le_refl _) _
  have hb0 : Below w.heap.size w ((w.alloc (.cells #[.int .i64 4, .bool b, .int .i64 n, .float .f64 fl, .string tx, .slice ob bs.length ocb, .int .u64 rf, .slice ol ls.length ocl, .slice oe es.length oce, .string cl, .int .i64 ver] 34)).alloc (.cells #[.int .u8 4] 5)) := hbB.alloc (by simp) _
  rw [size_alloc] at own1
  have hsz0 : w.heap.size + 2 ≤ ((w.alloc (.cells #[.int .i64 4, .bool b, .int .i64 n, .float .f64 fl, .string tx, .slice ob bs.length ocb, .int .u64 rf, .slice ol ls.length ocl, .slice oe es.length oce, .string cl, .int .i64 ver] 34)).alloc (.cells #[.int .u8 4] 5)).heap.size := by simp
  have hfb := fun W => bits_of_float fl W
  have hbl : fl < 18446744073709551616 := by simpa [Lit.wf] using hf
  have h8 : ∀ j, ((f8 fl).take j).length ≤ 8 := fun j => by rw [List.length_take]; simp [f8]; omega
  clear hvv htl hte
  go_enter Try.func100, Try.ntmps100
  go_wp2_with fail
  have hrH := Lib.hid own1
  clear own1
  go_loopw [3, 5] (fun sv i wr => ∃ (j : Nat) (z : Int), i = .int .i64 z ∧ ((z = 0 ∧ j = 0) ∨ (z = 1 ∧ j = 1) ∨ (z = 2 ∧ j = 2) ∨ (z = 3 ∧ j = 3) ∨ (z = 4 ∧ j = 4) ∨ (z = 5 ∧ j = 5) ∨ (z = 6 ∧ j = 6) ∨ (z = 7 ∧ j = 7) ∨ (z = 8 ∧ j = 8)) ∧ wr.ownsRow (w.heap.size + 1) 5 1 sv (4 :: (f8 fl).take j).length (byteCells (4 :: (f8 fl).take j)) ∧ Below (w.heap.size + 1) (w.alloc (.cells #[.int .i64 4, .bool b, .int .i64 n, .float .f64 fl, .string tx, .slice ob bs.length ocb, .int .u64 rf, .slice ol ls.length ocl, .slice oe es.length oce, .string cl, .int .i64 ver] 34)) wr) (fun _ i _ => (8 - intOf i).toNat)
  case atStart => exact ⟨0, 0, rfl, by omega, hrH.out, (Below.refl _ _).alloc (by simp) _⟩
  case round =>
    obtain ⟨j, z, rfl, hz, hown, hb⟩ := hrel
    have hsz := hb.size
    rw [size_alloc] at hsz
    have hlj : (4 :: (f8 fl).take j).length ≤ 9 := by rw [List.length_cons]; have := h8 j; omega
    clear h8
    obtain ⟨L, hL⟩ : ∃ L, L = 4 :: (f8 fl).take j := ⟨_, rfl⟩
    rw [← hL] at hown hlj
    have hLH := Lib.hid hL
    clear hL
    rcases hz with ⟨rfl, rfl⟩ | ⟨rfl, rfl⟩ | ⟨rfl, rfl⟩ | ⟨rfl, rfl⟩ | ⟨rfl, rfl⟩ | ⟨rfl, rfl⟩ | ⟨rfl, rfl⟩ | ⟨rfl, rfl⟩ | ⟨rfl, rfl⟩
    · have hfl : (f8 fl).take 1 = (f8 fl).take 0 ++ [UInt8.ofNat (fl / 72057594037927936)] := (by unfold f8; rw [Nat.mod_eq_of_lt (show fl / 72057594037927936 < 256 by omega)]; rfl)
      go_wp2_with (at_builtin; refine wpList_append_lies _ rfl _ _ 28 rfl (w.heap.size + 1) 5 i0 _ 1 1 Try.underlying28 hi0 hz0 hz1 hz2 rfl (by omega) _ _ _ rfl (hown.alloc _) ⟨wr.heap.size, 0, none⟩ 1 1 [.int .u8 ((fl / 72057594037927936 : Nat) : Int)] rfl rfl (World.news_of_block (cs := #[.int .u8 ((fl / 72057594037927936 : Nat) : Int)]) (t := 5) (fr := (0, 0)) (heap_alloc_new wr _)) (one_single rfl) (by omega) (by unfold maxLen; omega) (by omega) (by simp; omega) _ rfl ?_; intro g2 cap2 w2 hown2 hgr2 hat2 hlt2)
      have hp := put_byte hb hsz hown (m := fl / 72057594037927936) (by omega) hgr2 hown2 (l2 := 4 :: (f8 fl).take 1) (by rw [hLH.out, hfl]; rfl)
      go_roundw
      case rel => exact ⟨1, 1, rfl, by omega, hp.1, hp.2⟩
      case measure => decide
    · have hfl : (f8 fl).take 2 = (f8 fl).take 1 ++ [UInt8.ofNat (fl / 281474976710656 % 256)] := rfl
      go_wp2_with (at_builtin; refine wpList_append_lies _ rfl _ _ 28 rfl (w.heap.size + 1) 5 i0 _ 1 1 Try.underlying28 hi0 hz0 hz1 hz2 rfl (by omega) _ _ _ rfl (hown.alloc _) ⟨wr.heap.size, 0, none⟩ 1 1 [.int .u8 ((fl / 281474976710656 % 256 : Nat) : Int)] rfl rfl (World.news_of_block (cs := #[.int .u8 ((fl / 281474976710656 % 256 : Nat) : Int)]) (t := 5) (fr := (0, 0)) (heap_alloc_new wr _)) (one_single rfl) (by omega) (by unfold maxLen; omega) (by omega) (by simp; omega) _ rfl ?_; intro g2 cap2 w2 hown2 hgr2 hat2 hlt2)
      have hp := put_byte hb hsz hown (m := fl / 281474976710656 % 256) (Nat.mod_lt _ (by decide)) hgr2 hown2 (l2 := 4 :: (f8 fl).take 2) (by rw [hLH.out, hfl]; rfl)
      go_roundw
      case rel => exact ⟨2, 2, rfl, by omega, hp.1, hp.2⟩
      case measure => decide
    · have hfl : (f8 fl).take 3 = (f8 fl).take 2 ++ [UInt8.ofNat (fl / 1099511627776 % 256)] := rfl
      go_wp2_with (at_builtin; refine wpList_append_lies _ rfl _ _ 28 rfl (w.heap.size + 1) 5 i0 _ 1 1 Try.underlying28 hi0 hz0 hz1 hz2 rfl (by omega) _ _ _ rfl (hown.alloc _) ⟨wr.heap.size, 0, none⟩ 1 1 [.int .u8 ((fl / 1099511627776 % 256 : Nat) : Int)] rfl rfl (World.news_of_block (cs := #[.int .u8 ((fl / 1099511627776 % 256 : Nat) : Int)]) (t := 5) (fr := (0, 0)) (heap_alloc_new wr _)) (one_single rfl) (by omega) (by unfold maxLen; omega) (by omega) (by simp; omega) _ rfl ?_; intro g2 cap2 w2 hown2 hgr2 hat2 hlt2)
      have hp := put_byte hb hsz hown (m := fl / 1099511627776 % 256) (Nat.mod_lt _ (by decide)) hgr2 hown2 (l2 := 4 :: (f8 fl).take 3) (by rw [hLH.out, hfl]; rfl)
      go_roundw
      case rel => exact ⟨3, 3, rfl, by omega, hp.1, hp.2⟩
      case measure => decide
    · have hfl : (f8 fl).take 4 = (f8 fl).take 3 ++ [UInt8.ofNat (fl / 4294967296 % 256)] := rfl
      go_wp2_with (at_builtin; refine wpList_append_lies _ rfl _ _ 28 rfl (w.heap.size + 1) 5 i0 _ 1 1 Try.underlying28 hi0 hz0 hz1 hz2 rfl (by omega) _ _ _ rfl (hown.alloc _) ⟨wr.heap.size, 0, none⟩ 1 1 [.int .u8 ((fl / 4294967296 % 256 : Nat) : Int)] rfl rfl (World.news_of_block (cs := #[.int .u8 ((fl / 4294967296 % 256 : Nat) : Int)]) (t := 5) (fr := (0, 0)) (heap_alloc_new wr _)) (one_single rfl) (by omega) (by unfold maxLen; omega) (by omega) (by simp; omega) _ rfl ?_; intro g2 cap2 w2 hown2 hgr2 hat2 hlt2)
      have hp := put_byte hb hsz hown (m := fl / 4294967296 % 256) (Nat.mod_lt _ (by decide)) hgr2 hown2 (l2 := 4 :: (f8 fl).take 4) (by rw [hLH.out, hfl]; rfl)
      go_roundw
      case rel => exact ⟨4, 4, rfl, by omega, hp.1, hp.2⟩
      case measure => decide
    · have hfl : (f8 fl).take 5 = (f8 fl).take 4 ++ [UInt8.ofNat (fl / 16777216 % 256)] := rfl
      go_wp2_with (at_builtin; refine wpList_append_lies _ rfl _ _ 28 rfl (w.heap.size + 1) 5 i0 _ 1 1 Try.underlying28 hi0 hz0 hz1 hz2 rfl (by omega) _ _ _ rfl (hown.alloc _) ⟨wr.heap.size, 0, none⟩ 1 1 [.int .u8 ((fl / 16777216 % 256 : Nat) : Int)] rfl rfl (World.news_of_block (cs := #[.int .u8 ((fl / 16777216 % 256 : Nat) : Int)]) (t := 5) (fr := (0, 0)) (heap_alloc_new wr _)) (one_single rfl) (by omega) (by unfold maxLen; omega) (by omega) (by simp; omega) _ rfl ?_; intro g2 cap2 w2 hown2 hgr2 hat2 hlt2)
      have hp := put_byte hb hsz hown (m := fl / 16777216 % 256) (Nat.mod_lt _ (by decide)) hgr2 hown2 (l2 := 4 :: (f8 fl).take 5) (by rw [hLH.out, hfl]; rfl)
      go_roundw
      case rel => exact ⟨5, 5, rfl, by omega, hp.1, hp.2⟩
      case measure => decide
    · have hfl : (f8 fl).take 6 = (f8 fl).take 5 ++ [UInt8.ofNat (fl / 65536 % 256)] := rfl
      go_wp2_with (at_builtin; refine wpList_append_lies _ rfl _ _ 28 rfl (w.heap.size + 1) 5 i0 _ 1 1 Try.underlying28 hi0 hz0 hz1 hz2 rfl (by omega) _ _ _ rfl (hown.alloc _) ⟨wr.heap.size, 0, none⟩ 1 1 [.int .u8 ((fl / 65536 % 256 : Nat) : Int)] rfl rfl (World.news_of_block (cs := #[.int .u8 ((fl / 65536 % 256 : Nat) : Int)]) (t := 5) (fr := (0, 0)) (heap_alloc_new wr _)) (one_single rfl) (by omega) (by unfold maxLen; omega) (by omega) (by simp; omega) _ rfl ?_; intro g2 cap2 w2 hown2 hgr2 hat2 hlt2)
      have hp := put_byte hb hsz hown (m := fl / 65536 % 256) (Nat.mod_lt _ (by decide)) hgr2 hown2 (l2 := 4 :: (f8 fl).take 6) (by rw [hLH.out, hfl]; rfl)
      go_roundw
      case rel => exact ⟨6, 6, rfl, by omega, hp.1, hp.2⟩
      case measure => decide
    · have hfl : (f8 fl).take 7 = (f8 fl).take 6 ++ [UInt8.ofNat (fl / 256 % 256)] := rfl
      go_wp2_with (at_builtin; refine wpList_append_lies _ rfl _ _ 28 rfl (w.heap.size + 1) 5 i0 _ 1 1 Try.underlying28 hi0 hz0 hz1 hz2 rfl (by omega) _ _ _ rfl (hown.alloc _) ⟨wr.heap.size, 0, none⟩ 1 1 [.int .u8 ((fl / 256 % 256 : Nat) : Int)] rfl rfl (World.news_of_block (cs := #[.int .u8 ((fl / 256 % 256 : Nat) : Int)]) (t := 5) (fr := (0, 0)) (heap_alloc_new wr _)) (one_single rfl) (by omega) (by unfold maxLen; omega) (by omega) (by simp; omega) _ rfl ?_; intro g2 cap2 w2 hown2 hgr2 hat2 hlt2)
      have hp := put_byte hb hsz hown (m := fl / 256 % 256) (Nat.mod_lt _ (by decide)) hgr2 hown2 (l2 := 4 :: (f8 fl).take 7) (by rw [hLH.out, hfl]; rfl)
      go_roundw
      case rel => exact ⟨7, 7, rfl, by omega, hp.1, hp.2⟩
      case measure => decide
    · have hfl : (f8 fl).take 8 = (f8 fl).take 7 ++ [UInt8.ofNat (fl % 256)] := rfl
      go_wp2_with (at_builtin; refine wpList_append_lies _ rfl _ _ 28 rfl (w.heap.size + 1) 5 i0 _ 1 1 Try.underlying28 hi0 hz0 hz1 hz2 rfl (by omega) _ _ _ rfl (hown.alloc _) ⟨wr.heap.size, 0, none⟩ 1 1 [.int .u8 ((fl % 256 : Nat) : Int)] rfl rfl (World.news_of_block (cs := #[.int .u8 ((fl % 256 : Nat) : Int)]) (t := 5) (fr := (0, 0)) (heap_alloc_new wr _)) (one_single rfl) (by omega) (by unfold maxLen; omega) (by omega) (by simp; omega) _ rfl ?_; intro g2 cap2 w2 hown2 hgr2 hat2 hlt2)
      have hp := put_byte hb hsz hown (m := fl % 256) (Nat.mod_lt _ (by decide)) hgr2 hown2 (l2 := 4 :: (f8 fl).take 8) (by rw [hLH.out, hfl]; rfl)
      go_roundw
      case rel => exact ⟨8, 8, rfl, by omega, hp.1, hp.2⟩
      case measure => decide
    · have hall : (f8 fl).take 8 = f8 fl := rfl
      rw [hLH.out, hall] at hown
      go_wp2
      go_ret
      exact ⟨_, rfl, ownsRow_base hown (Nat.le_succ _), hbB.trans (below_le hb (Nat.le_succ _))⟩

end
end Go.Proofs.Ytpcbdjfonmohaaa
