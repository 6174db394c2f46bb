/- wire.put of values that can be. -/
import Derived.Test.YtgmdbpplfjkjmaaWireNum
import Derived.Laws.AppendOwnNone
namespace Go.Proofs.Ytgmdbpplfjkjmaa
open Go.RowKit
set_option linter.unusedVariables false
set_option linter.unusedSimpArgs false

/-- A float's bytes. -/
def f8 (b : Nat) : List UInt8 := [UInt8.ofNat (b / 72057594037927936 % 256), UInt8.ofNat (b / 281474976710656 % 256), UInt8.ofNat (b / 1099511627776 % 256), UInt8.ofNat (b / 4294967296 % 256), UInt8.ofNat (b / 16777216 % 256), UInt8.ofNat (b / 65536 % 256), UInt8.ofNat (b / 256 % 256), UInt8.ofNat (b % 256)]
mutual
/-- A value's bytes. -/
def encV : Val → List UInt8
  | .nil => [1]
  | .bool b => [2, bif b then 1 else 0]
  | .int n => 3 :: numB (zzN n)
  | .float b => 4 :: f8 b
  | .text s => 5 :: textB s
  | .bytes l => 6 :: (numB l.length ++ l)
  | .ref n => 7 :: numB n.toNat
  | .list l => 8 :: (numB l.length ++ encVs l)
  | .dict d => 9 :: (numB d.length ++ encDs d)
  | .record c n d => 10 :: (textB c ++ (numB n.toNat ++ (numB d.length ++ encDs d)))
  | .nothing => [11]
  | .alien _ => [0]
def encVs : List Val → List UInt8
  | [] => []
  | v :: l => encV v ++ encVs l
def encDs : List (ByteArray × Val) → List UInt8
  | [] => []
  | p :: l => encP p ++ encDs l
def encP : ByteArray × Val → List UInt8
  | (s, v) => textB s ++ encV v
end
theorem kind_said {w : World} {v : Val} {x : Value} {fs : List Nat} (h : VRep w v x fs) : Calls Try.prog 189 #[x] w fun e w' => e = .returned (.int .i64 (kindV v)) ∧ w = w' := by
  have hk := Lib.hid (kind_val h w)
  clear h
  go_enter Try.func189, Try.ntmps189
  go_wp2_with fail
  refine hk.out.mono ?_
  rintro e w1 ⟨rfl, rfl⟩
  go_wp2
  go_ret
  exact ⟨rfl, rfl⟩
def PutSaid (v : Val) : Prop := ∀ (x : Value) (fs : List Nat) (w : World) (B : Nat) (bs : List UInt8) (sv : Value), VRep w v x fs → okV v → (∀ b ∈ fs, b < B) → B ≤ w.heap.size → w.ownsRow B 5 1 sv bs.length (byteCells bs) → bs.length + (encV v).length ≤ 1099511627776 →
  Calls Try.prog 149 #[sv, x] w (BytesEnd B (bs ++ encV v) w)
theorem put_row {B : Nat} {w w1 w2 : World} {o : Obj} {bs : List UInt8} {sv : Value} {g cap m : Nat} (hb : Below B w w1) (hB : B ≤ w1.heap.size) (hown : w1.ownsRow B 5 1 sv bs.length (byteCells bs)) (hm : m < 256) (hgr : (w1.alloc o).grownBy w2 sv.ownBlock)
    (h2 : w2.ownsRow B 5 1 (.slice (some ⟨g, 0, none⟩) (bs.length + 1) cap) (bs.length + 1) (byteCells bs ++ [.int .u8 m])) : w2.ownsRow B 5 1 (.slice (some ⟨g, 0, none⟩) (bs.length + 1) cap) (bs ++ [UInt8.ofNat m]).length (byteCells (bs ++ [UInt8.ofNat m])) ∧ Below B w w2 := by
  refine ⟨?_, (hb.alloc hB o).grown hgr (by simp; omega) (fun k hk => (ownsRow_lt hown k (ownL_some.2 hk)).1)⟩
  rw [byteCells_append, byteCells_single hm, List.length_append]
  exact h2
theorem cells_one_u8 (n : Nat) (h : n < 256) : byteCells [UInt8.ofNat n] = [.int .u8 n] := byteCells_single h

set_option maxRecDepth 100000 in
set_option maxHeartbeats 800000 in
theorem put_nil : PutSaid (.nil) := by
  intro x fs w B bs sv h hv hfs hB ho hlen
  have hk := Lib.hid (kind_said h)
  simp only [VRep] at h
  obtain ⟨rfl, -⟩ := h
  obtain ⟨i0, hi0, hz0, hz1, hz2⟩ := info_parts Try.infoU8
  rw [encV] at hlen ⊢
  simp only [List.length_cons] at hlen
  have hone1 : sv.oneCell' = true := by obtain ⟨_, _, rfl, -⟩ := ownsRow_form ho; rfl
  go_enter Try.func149, Try.ntmps149
  go_wp2_with fail
  refine hk.out.mono ?_
  rintro e w1 ⟨rfl, rfl⟩
  go_wp2_with (first | (at_builtin; refine wpList_append_lies _ rfl _ _ 26 rfl B 5 i0 _ 1 1 Try.underlying26 hi0 hz0 hz1 hz2 rfl (by omega) _ bs.length (byteCells bs) rfl (ho.alloc _) ⟨w.heap.size, 0, none⟩ 1 1 [.int .u8 1] rfl rfl (World.news_of_block (cs := #[.int .u8 1]) (t := 5) (fr := (0, 0)) (heap_alloc_new w _)) (one_single rfl) (by omega) (by unfold maxLen; omega) (by omega) (by simp; omega) _ rfl ?_; intro g2 cap2 w2 hown2 hgr2 hat2 hlt2; have hp1 := put_row (Below.refl B w) hB ho (m := 1) (by decide) hgr2 hown2; have hr1 := hp1.1; have hb1 := hp1.2; have hsz1 := hb1.size; have hl1 : (bs ++ [UInt8.ofNat 1]).length = bs.length + 1 := List.length_append; clear hgr2 hat2 hlt2 hown2 hp1))
  go_ret
  exact ⟨_, rfl, hr1, hb1⟩

set_option maxRecDepth 100000 in
set_option maxHeartbeats 800000 in
theorem put_bool (b : Bool) : PutSaid (.bool b) := by
  intro x fs w B bs sv h hv hfs hB ho hlen
  have hk := Lib.hid (kind_said h)
  simp only [VRep] at h
  obtain ⟨rfl, -⟩ := h
  obtain ⟨i0, hi0, hz0, hz1, hz2⟩ := info_parts Try.infoU8
  rw [encV] at hlen ⊢
  simp only [List.length_cons] at hlen
  have hone1 : sv.oneCell' = true := by obtain ⟨_, _, rfl, -⟩ := ownsRow_form ho; rfl
  cases b
  all_goals
    go_enter Try.func149, Try.ntmps149
    go_wp2_with fail
    refine hk.out.mono ?_
    rintro e w1 ⟨rfl, rfl⟩
    go_wp2_with (first | (at_builtin; refine wpList_append_lies _ rfl _ _ 26 rfl B 5 i0 _ 1 1 Try.underlying26 hi0 hz0 hz1 hz2 rfl (by omega) _ bs.length (byteCells bs) rfl (ho.alloc _) ⟨w.heap.size, 0, none⟩ 1 1 [.int .u8 2] rfl rfl (World.news_of_block (cs := #[.int .u8 2]) (t := 5) (fr := (0, 0)) (heap_alloc_new w _)) (one_single rfl) (by omega) (by unfold maxLen; omega) (by omega) (by simp; omega) _ rfl ?_; intro g2 cap2 w2 hown2 hgr2 hat2 hlt2; have hp1 := put_row (Below.refl B w) hB ho (m := 2) (by decide) hgr2 hown2; have hr1 := hp1.1; have hb1 := hp1.2; have hsz1 := hb1.size; have hl1 : (bs ++ [UInt8.ofNat 2]).length = bs.length + 1 := List.length_append; clear hgr2 hat2 hlt2 hown2 hp1) | (at_builtin; refine wpList_append_lies _ rfl _ _ 26 rfl B 5 i0 _ 1 1 Try.underlying26 hi0 hz0 hz1 hz2 rfl (by omega) _ _ _ rfl (hr1.alloc _) ⟨w2.heap.size, 0, none⟩ 1 1 [.int .u8 0] rfl rfl (World.news_of_block (cs := #[.int .u8 0]) (t := 5) (fr := (0, 0)) (heap_alloc_new w2 _)) (one_single rfl) (by omega) (by unfold maxLen; omega) (by omega) (by simp; omega) _ rfl ?_; intro g3 cap3 w3 hown3 hgr3 hat3 hlt3) | (at_builtin; refine wpList_append_lies _ rfl _ _ 26 rfl B 5 i0 _ 1 1 Try.underlying26 hi0 hz0 hz1 hz2 rfl (by omega) _ _ _ rfl (hr1.alloc _) ⟨w2.heap.size, 0, none⟩ 1 1 [.int .u8 1] rfl rfl (World.news_of_block (cs := #[.int .u8 1]) (t := 5) (fr := (0, 0)) (heap_alloc_new w2 _)) (one_single rfl) (by omega) (by unfold maxLen; omega) (by omega) (by simp; omega) _ rfl ?_; intro g3 cap3 w3 hown3 hgr3 hat3 hlt3))
    go_ret
    have hp2 := put_row hb1 (by omega) hr1 (by decide) hgr3 hown3
    rw [hl1, List.append_assoc] at hp2
    exact ⟨_, rfl, hp2.1, hp2.2⟩

set_option maxRecDepth 100000 in
set_option maxHeartbeats 800000 in
theorem put_int (n : Int) : PutSaid (.int n) := by
  intro x fs w B bs sv h hv hfs hB ho hlen
  have hk := Lib.hid (kind_said h)
  simp only [VRep] at h
  obtain ⟨rfl, hwf, -⟩ := h
  obtain ⟨i0, hi0, hz0, hz1, hz2⟩ := info_parts Try.infoU8
  rw [encV] at hlen ⊢
  simp only [List.length_cons] at hlen
  have hone1 : sv.oneCell' = true := by obtain ⟨_, _, rfl, -⟩ := ownsRow_form ho; rfl
  have hr : -9223372036854775808 ≤ n ∧ n ≤ 9223372036854775807 := by simpa [Lit.wf, IntKind.min, IntKind.max, IntKind.signed, IntKind.bits] using hwf
  have hzz := Lib.hid (fun W => zigzag_said n hr.1 hr.2 W)
  have hzl := zzN_lt n hr.1 hr.2
  go_enter Try.func149, Try.ntmps149
  go_wp2_with fail
  refine hk.out.mono ?_
  rintro e w1 ⟨rfl, rfl⟩
  go_wp2_with (first | (at_builtin; refine wpList_append_lies _ rfl _ _ 26 rfl B 5 i0 _ 1 1 Try.underlying26 hi0 hz0 hz1 hz2 rfl (by omega) _ bs.length (byteCells bs) rfl (ho.alloc _) ⟨w.heap.size, 0, none⟩ 1 1 [.int .u8 3] rfl rfl (World.news_of_block (cs := #[.int .u8 3]) (t := 5) (fr := (0, 0)) (heap_alloc_new w _)) (one_single rfl) (by omega) (by unfold maxLen; omega) (by omega) (by simp; omega) _ rfl ?_; intro g2 cap2 w2 hown2 hgr2 hat2 hlt2; have hp1 := put_row (Below.refl B w) hB ho (m := 3) (by decide) hgr2 hown2; have hr1 := hp1.1; have hb1 := hp1.2; have hsz1 := hb1.size; have hl1 : (bs ++ [UInt8.ofNat 3]).length = bs.length + 1 := List.length_append; clear hgr2 hat2 hlt2 hown2 hp1))
  refine (hzz.out _).mono ?_
  rintro e w3 ⟨rfl, rfl⟩
  have hnum := Lib.hid (number_said (zzN n) hzl B _ _ w2 (by omega) hr1 (by omega))
  clear hr1
  go_wp2_with fail
  refine hnum.out.mono ?_
  rintro e w3 ⟨sv3, rfl, hown3, hb3⟩
  have hone3 : sv3.oneCell' = true := by obtain ⟨_, _, rfl, -⟩ := ownsRow_form hown3; rfl
  rw [List.append_assoc] at hown3
  go_wp2
  go_ret
  exact ⟨_, rfl, hown3, hb1.trans hb3⟩

set_option maxRecDepth 100000 in
set_option maxHeartbeats 800000 in
theorem put_text (s : ByteArray) : PutSaid (.text s) := by
  intro x fs w B bs sv h hv hfs hB ho hlen
  have hk := Lib.hid (kind_said h)
  simp only [VRep] at h
  obtain ⟨rfl, -, -⟩ := h
  obtain ⟨i0, hi0, hz0, hz1, hz2⟩ := info_parts Try.infoU8
  rw [encV] at hlen ⊢
  simp only [List.length_cons] at hlen
  have hone1 : sv.oneCell' = true := by obtain ⟨_, _, rfl, -⟩ := ownsRow_form ho; rfl
  have hsl : s.size ≤ (textB s).length := by unfold textB; rw [List.length_append]; have : s.data.toList.length = s.size := by simp
                                             omega
  go_enter Try.func149, Try.ntmps149
  go_wp2_with fail
  refine hk.out.mono ?_
  rintro e w1 ⟨rfl, rfl⟩
  go_wp2_with (first | (at_builtin; refine wpList_append_lies _ rfl _ _ 26 rfl B 5 i0 _ 1 1 Try.underlying26 hi0 hz0 hz1 hz2 rfl (by omega) _ bs.length (byteCells bs) rfl (ho.alloc _) ⟨w.heap.size, 0, none⟩ 1 1 [.int .u8 5] rfl rfl (World.news_of_block (cs := #[.int .u8 5]) (t := 5) (fr := (0, 0)) (heap_alloc_new w _)) (one_single rfl) (by omega) (by unfold maxLen; omega) (by omega) (by simp; omega) _ rfl ?_; intro g2 cap2 w2 hown2 hgr2 hat2 hlt2; have hp1 := put_row (Below.refl B w) hB ho (m := 5) (by decide) hgr2 hown2; have hr1 := hp1.1; have hb1 := hp1.2; have hsz1 := hb1.size; have hl1 : (bs ++ [UInt8.ofNat 5]).length = bs.length + 1 := List.length_append; clear hgr2 hat2 hlt2 hown2 hp1))
  have hnum := Lib.hid (text_said s B _ _ w2 (by omega) hr1 (by omega))
  clear hr1
  refine hnum.out.mono ?_
  rintro e w3 ⟨sv3, rfl, hown3, hb3⟩
  have hone3 : sv3.oneCell' = true := by obtain ⟨_, _, rfl, -⟩ := ownsRow_form hown3; rfl
  rw [List.append_assoc] at hown3
  go_wp2
  go_ret
  exact ⟨_, rfl, hown3, hb1.trans hb3⟩

set_option maxRecDepth 100000 in
set_option maxHeartbeats 800000 in
theorem put_ref (n : Int) : PutSaid (.ref n) := by
  intro x fs w B bs sv h hv hfs hB ho hlen
  have hk := Lib.hid (kind_said h)
  simp only [VRep] at h
  obtain ⟨rfl, hwf, -⟩ := h
  obtain ⟨i0, hi0, hz0, hz1, hz2⟩ := info_parts Try.infoU8
  rw [encV] at hlen ⊢
  simp only [List.length_cons] at hlen
  have hone1 : sv.oneCell' = true := by obtain ⟨_, _, rfl, -⟩ := ownsRow_form ho; rfl
  have hr : 0 ≤ n ∧ n ≤ 18446744073709551615 := by simpa [Lit.wf, IntKind.min, IntKind.max, IntKind.signed, IntKind.bits] using hwf
  obtain ⟨m, hm⟩ : ∃ m : Nat, n = (m : Int) := ⟨n.toNat, by omega⟩
  subst hm
  rw [Int.toNat_natCast] at hlen ⊢
  go_enter Try.func149, Try.ntmps149
  go_wp2_with fail
  refine hk.out.mono ?_
  rintro e w1 ⟨rfl, rfl⟩
  go_wp2_with (first | (at_builtin; refine wpList_append_lies _ rfl _ _ 26 rfl B 5 i0 _ 1 1 Try.underlying26 hi0 hz0 hz1 hz2 rfl (by omega) _ bs.length (byteCells bs) rfl (ho.alloc _) ⟨w.heap.size, 0, none⟩ 1 1 [.int .u8 7] rfl rfl (World.news_of_block (cs := #[.int .u8 7]) (t := 5) (fr := (0, 0)) (heap_alloc_new w _)) (one_single rfl) (by omega) (by unfold maxLen; omega) (by omega) (by simp; omega) _ rfl ?_; intro g2 cap2 w2 hown2 hgr2 hat2 hlt2; have hp1 := put_row (Below.refl B w) hB ho (m := 7) (by decide) hgr2 hown2; have hr1 := hp1.1; have hb1 := hp1.2; have hsz1 := hb1.size; have hl1 : (bs ++ [UInt8.ofNat 7]).length = bs.length + 1 := List.length_append; clear hgr2 hat2 hlt2 hown2 hp1))
  have hnum := Lib.hid (number_said m (by omega) B _ _ w2 (by omega) hr1 (by omega))
  clear hr1
  refine hnum.out.mono ?_
  rintro e w3 ⟨sv3, rfl, hown3, hb3⟩
  have hone3 : sv3.oneCell' = true := by obtain ⟨_, _, rfl, -⟩ := ownsRow_form hown3; rfl
  rw [List.append_assoc] at hown3
  go_wp2
  go_ret
  exact ⟨_, rfl, hown3, hb1.trans hb3⟩
theorem put_byte {B : Nat} {w w1 w2 : World} {o : Obj} {l l2 : List UInt8} {sv : Value} {g cap m : Nat} (hb : Below B w w1) (hB : B ≤ w1.heap.size) (hown : w1.ownsRow B 5 1 sv l.length (byteCells l)) (hm : m < 256) (hgr : (w1.alloc o).grownBy w2 sv.ownBlock)
    (h2 : w2.ownsRow B 5 1 (.slice (some ⟨g, 0, none⟩) (l.length + 1) cap) (l.length + 1) (byteCells l ++ [.int .u8 m])) (e : l2 = l ++ [UInt8.ofNat m]) : w2.ownsRow B 5 1 (.slice (some ⟨g, 0, none⟩) (l.length + 1) cap) l2.length (byteCells l2) ∧ Below B w w2 := by
  subst e; exact put_row hb hB hown hm hgr h2
theorem put_cat {B : Nat} {w w1 w2 : World} {l m : List UInt8} {sv v' : Value} (hb : Below B w w1) (hB : B ≤ w1.heap.size) (hown : w1.ownsRow B 5 1 sv l.length (byteCells l)) (hgr : w1.grownBy w2 sv.ownBlock)
    (h2 : w2.ownsRow B 5 1 v' (l.length + m.length) (byteCells l ++ byteCells m)) : w2.ownsRow B 5 1 v' (l ++ m).length (byteCells (l ++ m)) ∧ Below B w w2 := by
  refine ⟨?_, hb.grown hgr hB (fun k hk => (ownsRow_lt hown k (ownL_some.2 hk)).1)⟩
  rw [byteCells_append, List.length_append]
  exact h2

set_option maxRecDepth 100000 in
set_option maxHeartbeats 800000 in
theorem put_bytes (l : List UInt8) : PutSaid (.bytes l) := by
  intro x fs w B bs sv h hv hfs hB ho hlen
  have hk := Lib.hid (kind_said h)
  simp only [VRep] at h
  obtain ⟨xv, rfl, hx, rfl⟩ := h
  obtain ⟨a, cap, rfl, hcap, hmax, -, hform⟩ := ownsRow_form hx
  obtain ⟨i0, hi0, hz0, hz1, hz2⟩ := info_parts Try.infoU8
  rw [encV] at hlen ⊢
  simp only [List.length_cons] at hlen
  have hone1 : sv.oneCell' = true := by obtain ⟨_, _, rfl, -⟩ := ownsRow_form ho; rfl
  rw [List.length_append] at hlen
  have hwi : IntKind.u64.wrap (l.length : Int) = (l.length : Int) := by rw [IntKind.wrap_u64]; omega
  have hfsH := Lib.hid hfs
  clear hx hfs
  unfold maxLen at hmax
  have hten := numB_ten (n := l.length) (by omega)
  rcases hform with ⟨rfl, hl0, rfl⟩ | ⟨g, rfl, -, hg, hog, hcells⟩
  · obtain rfl : l = [] := List.eq_nil_of_length_eq_zero hl0
    go_enter Try.func149, Try.ntmps149
    go_wp2_with fail
    refine hk.out.mono ?_
    rintro e w1 ⟨rfl, rfl⟩
    go_wp2_with (first | (at_builtin; refine wpList_append_lies _ rfl _ _ 26 rfl B 5 i0 _ 1 1 Try.underlying26 hi0 hz0 hz1 hz2 rfl (by omega) _ bs.length (byteCells bs) rfl (ho.alloc _) ⟨w.heap.size, 0, none⟩ 1 1 [.int .u8 6] rfl rfl (World.news_of_block (cs := #[.int .u8 6]) (t := 5) (fr := (0, 0)) (heap_alloc_new w _)) (one_single rfl) (by omega) (by unfold maxLen; omega) (by omega) (by simp; omega) _ rfl ?_; intro g2 cap2 w2 hown2 hgr2 hat2 hlt2; have hp1 := put_row (Below.refl B w) hB ho (m := 6) (by decide) hgr2 hown2; have hr1 := hp1.1; have hb1 := hp1.2; have hsz1 := hb1.size; have hl1 : (bs ++ [UInt8.ofNat 6]).length = bs.length + 1 := List.length_append; clear hgr2 hat2 hlt2 hown2 hp1))
    have hnum := Lib.hid (number_said 0 (by simp) B _ _ w2 (by omega) hr1 (by omega))
    clear hr1
    refine hnum.out.mono ?_
    rintro e w3 ⟨sv3, rfl, hown3, hb3⟩
    have hone3 : sv3.oneCell' = true := by obtain ⟨_, _, rfl, -⟩ := ownsRow_form hown3; rfl
    have hsz3 := hb3.size
    have hl3 : (bs ++ [UInt8.ofNat 6] ++ numB 0).length = (bs ++ [UInt8.ofNat 6]).length + (numB 0).length := List.length_append
    go_wp2_with (at_builtin; refine wpList_append_own_none rfl _ _ 26 rfl B 5 i0 1 Try.underlying26 hi0 _ _ _ rfl hown3 rfl ?_)
    rw [List.append_assoc] at hown3
    go_ret
    exact ⟨_, rfl, by rw [List.append_nil]; exact hown3, hb1.trans hb3⟩
  · have hgB : g < B := hfsH.out g (by rw [hog]; exact List.mem_singleton.2 rfl)
    have hcl : ∀ W, Below B w W → ∀ j u, (byteCells l)[j]? = some u → W.cell? ((⟨g, 0, none⟩ : Addr).add j) = some u := by
      intro W hb j u hu
      have hj : j < l.length := by have := (List.getElem?_eq_some_iff.1 hu).1; simpa [byteCells] using this
      rw [Addr.add_mid, Nat.zero_add]
      exact (hb.cell (p := ⟨g, j, none⟩) hgB).trans ((hcells j (by omega)).trans hu)
    have hclH := Lib.hid hcl
    clear hcells hcl
    go_enter Try.func149, Try.ntmps149
    go_wp2_with fail
    refine hk.out.mono ?_
    rintro e w1 ⟨rfl, rfl⟩
    go_wp2_with (first | (at_builtin; refine wpList_append_lies _ rfl _ _ 26 rfl B 5 i0 _ 1 1 Try.underlying26 hi0 hz0 hz1 hz2 rfl (by omega) _ bs.length (byteCells bs) rfl (ho.alloc _) ⟨w.heap.size, 0, none⟩ 1 1 [.int .u8 6] rfl rfl (World.news_of_block (cs := #[.int .u8 6]) (t := 5) (fr := (0, 0)) (heap_alloc_new w _)) (one_single rfl) (by omega) (by unfold maxLen; omega) (by omega) (by simp; omega) _ rfl ?_; intro g2 cap2 w2 hown2 hgr2 hat2 hlt2; have hp1 := put_row (Below.refl B w) hB ho (m := 6) (by decide) hgr2 hown2; have hr1 := hp1.1; have hb1 := hp1.2; have hsz1 := hb1.size; have hl1 : (bs ++ [UInt8.ofNat 6]).length = bs.length + 1 := List.length_append; clear hgr2 hat2 hlt2 hown2 hp1))
    have hnum := Lib.hid (number_said l.length (by omega) B _ _ w2 (by omega) hr1 (by omega))
    clear hr1
    refine hnum.out.mono ?_
    rintro e w3 ⟨sv3, rfl, hown3, hb3⟩
    have hone3 : sv3.oneCell' = true := by obtain ⟨_, _, rfl, -⟩ := ownsRow_form hown3; rfl
    have hsz3 := hb3.size
    have hl3 : (bs ++ [UInt8.ofNat 6] ++ numB l.length).length = (bs ++ [UInt8.ofNat 6]).length + (numB l.length).length := List.length_append
    go_wp2_with (at_builtin; refine wpList_append_own _ rfl _ _ 26 rfl B 5 i0 _ 1 1 Try.underlying26 hi0 hz0 hz1 hz2 rfl (by omega) _ _ _ rfl hown3 ⟨g, 0, none⟩ l.length cap (byteCells l) rfl (by simp [byteCells]) ?c1 (byteCells_one l) (by unfold maxLen; omega) (by omega) (by omega) ?_; (case c1 => exact hclH.out _ (hb1.trans hb3)); intro v' w4 hown4 hgr4 _)
    have hp4 := put_cat (m := l) (hb1.trans hb3) (by omega) hown3 hgr4 hown4
    rw [List.append_assoc, List.append_assoc] at hp4
    go_ret
    exact ⟨_, rfl, hp4.1, hp4.2⟩

theorem bits_of_float (x : Nat) (W : World) : (callFunc 146 #[.float .f64 x]).run Try.prog W = .ok (.value (.int .u64 x)) W := by kernel_rfl

set_option maxRecDepth 100000 in
set_option maxHeartbeats 800000 in
theorem put_float (b : Nat) : PutSaid (.float b) := by
  intro x fs w B bs sv h hv hfs hB ho hlen
  have hk := Lib.hid (kind_said h)
  simp only [VRep] at h
  obtain ⟨rfl, hwf, -⟩ := h
  obtain ⟨i0, hi0, hz0, hz1, hz2⟩ := info_parts Try.infoU8
  rw [encV] at hlen ⊢
  simp only [List.length_cons] at hlen
  have hone1 : sv.oneCell' = true := by obtain ⟨_, _, rfl, -⟩ := ownsRow_form ho; rfl
  have hfb := fun W => bits_of_float b W
  have hbl : b < 18446744073709551616 := by simpa [Lit.wf] using hwf
  have h8 : ∀ j, ((f8 b).take j).length ≤ 8 := fun j => by rw [List.length_take]; simp [f8]; omega
  go_enter Try.func149, Try.ntmps149
  go_wp2_with fail
  refine hk.out.mono ?_
  rintro e w1 ⟨rfl, rfl⟩
  go_wp2_with (first | (at_builtin; refine wpList_append_lies _ rfl _ _ 26 rfl B 5 i0 _ 1 1 Try.underlying26 hi0 hz0 hz1 hz2 rfl (by omega) _ bs.length (byteCells bs) rfl (ho.alloc _) ⟨w.heap.size, 0, none⟩ 1 1 [.int .u8 4] rfl rfl (World.news_of_block (cs := #[.int .u8 4]) (t := 5) (fr := (0, 0)) (heap_alloc_new w _)) (one_single rfl) (by omega) (by unfold maxLen; omega) (by omega) (by simp; omega) _ rfl ?_; intro g2 cap2 w2 hown2 hgr2 hat2 hlt2; have hp1 := put_row (Below.refl B w) hB ho (m := 4) (by decide) hgr2 hown2; have hr1 := hp1.1; have hb1 := hp1.2; have hsz1 := hb1.size; have hl1 : (bs ++ [UInt8.ofNat 4]).length = bs.length + 1 := List.length_append; clear hgr2 hat2 hlt2 hown2 hp1))
  have hrH := Lib.hid hr1
  clear hr1
  go_loopw [0, 9] (fun sv i wr => ∃ (j : Nat) (z : Int), i = .int .i64 z ∧ ((z = 56 ∧ j = 0) ∨ (z = 48 ∧ j = 1) ∨ (z = 40 ∧ j = 2) ∨ (z = 32 ∧ j = 3) ∨ (z = 24 ∧ j = 4) ∨ (z = 16 ∧ j = 5) ∨ (z = 8 ∧ j = 6) ∨ (z = 0 ∧ j = 7) ∨ (z = -8 ∧ j = 8)) ∧ wr.ownsRow B 5 1 sv (bs ++ 4 :: (f8 b).take j).length (byteCells (bs ++ 4 :: (f8 b).take j)) ∧ Below B w wr) (fun _ i _ => (intOf i + 8).toNat)
  case atStart => exact ⟨0, 56, rfl, by omega, hrH.out, hb1⟩
  case round =>
    obtain ⟨j, z, rfl, hz, hown, hb⟩ := hrel
    have hsz := hb.size
    have hlj : (bs ++ 4 :: (f8 b).take j).length ≤ bs.length + 9 := by rw [List.length_append, List.length_cons]; have := h8 j; omega
    clear h8
    obtain ⟨L, hL⟩ : ∃ L, L = bs ++ 4 :: (f8 b).take j := ⟨_, rfl⟩
    rw [← hL] at hown hlj
    have hLH := Lib.hid hL
    clear hL
    rcases hz with ⟨rfl, rfl⟩ | ⟨rfl, rfl⟩ | ⟨rfl, rfl⟩ | ⟨rfl, rfl⟩ | ⟨rfl, rfl⟩ | ⟨rfl, rfl⟩ | ⟨rfl, rfl⟩ | ⟨rfl, rfl⟩ | ⟨rfl, rfl⟩
    · have hfl : (f8 b).take 1 = (f8 b).take 0 ++ [UInt8.ofNat (b / 72057594037927936)] := (by unfold f8; rw [Nat.mod_eq_of_lt (show b / 72057594037927936 < 256 by omega)]; rfl)
      go_wp2_with (at_builtin; refine wpList_append_lies _ rfl _ _ 26 rfl B 5 i0 _ 1 1 Try.underlying26 hi0 hz0 hz1 hz2 rfl (by omega) _ _ _ rfl (hown.alloc _) ⟨wr.heap.size, 0, none⟩ 1 1 [.int .u8 ((b / 72057594037927936 : Nat) : Int)] rfl rfl (World.news_of_block (cs := #[.int .u8 ((b / 72057594037927936 : Nat) : Int)]) (t := 5) (fr := (0, 0)) (heap_alloc_new wr _)) (one_single rfl) (by omega) (by unfold maxLen; omega) (by omega) (by simp; omega) _ rfl ?_; intro g2 cap2 w2 hown2 hgr2 hat2 hlt2)
      have hp := put_byte hb (by omega) hown (m := b / 72057594037927936) (by omega) hgr2 hown2 (l2 := bs ++ 4 :: (f8 b).take 1) (by rw [hLH.out, hfl]; simp)
      go_roundw
      case rel => exact ⟨1, 48, rfl, by omega, hp.1, hp.2⟩
      case measure => decide
    · have hfl : (f8 b).take 2 = (f8 b).take 1 ++ [UInt8.ofNat (b / 281474976710656 % 256)] := rfl
      go_wp2_with (at_builtin; refine wpList_append_lies _ rfl _ _ 26 rfl B 5 i0 _ 1 1 Try.underlying26 hi0 hz0 hz1 hz2 rfl (by omega) _ _ _ rfl (hown.alloc _) ⟨wr.heap.size, 0, none⟩ 1 1 [.int .u8 ((b / 281474976710656 % 256 : Nat) : Int)] rfl rfl (World.news_of_block (cs := #[.int .u8 ((b / 281474976710656 % 256 : Nat) : Int)]) (t := 5) (fr := (0, 0)) (heap_alloc_new wr _)) (one_single rfl) (by omega) (by unfold maxLen; omega) (by omega) (by simp; omega) _ rfl ?_; intro g2 cap2 w2 hown2 hgr2 hat2 hlt2)
      have hp := put_byte hb (by omega) hown (m := b / 281474976710656 % 256) (Nat.mod_lt _ (by decide)) hgr2 hown2 (l2 := bs ++ 4 :: (f8 b).take 2) (by rw [hLH.out, hfl]; simp)
      go_roundw
      case rel => exact ⟨2, 40, rfl, by omega, hp.1, hp.2⟩
      case measure => decide
    · have hfl : (f8 b).take 3 = (f8 b).take 2 ++ [UInt8.ofNat (b / 1099511627776 % 256)] := rfl
      go_wp2_with (at_builtin; refine wpList_append_lies _ rfl _ _ 26 rfl B 5 i0 _ 1 1 Try.underlying26 hi0 hz0 hz1 hz2 rfl (by omega) _ _ _ rfl (hown.alloc _) ⟨wr.heap.size, 0, none⟩ 1 1 [.int .u8 ((b / 1099511627776 % 256 : Nat) : Int)] rfl rfl (World.news_of_block (cs := #[.int .u8 ((b / 1099511627776 % 256 : Nat) : Int)]) (t := 5) (fr := (0, 0)) (heap_alloc_new wr _)) (one_single rfl) (by omega) (by unfold maxLen; omega) (by omega) (by simp; omega) _ rfl ?_; intro g2 cap2 w2 hown2 hgr2 hat2 hlt2)
      have hp := put_byte hb (by omega) hown (m := b / 1099511627776 % 256) (Nat.mod_lt _ (by decide)) hgr2 hown2 (l2 := bs ++ 4 :: (f8 b).take 3) (by rw [hLH.out, hfl]; simp)
      go_roundw
      case rel => exact ⟨3, 32, rfl, by omega, hp.1, hp.2⟩
      case measure => decide
    · have hfl : (f8 b).take 4 = (f8 b).take 3 ++ [UInt8.ofNat (b / 4294967296 % 256)] := rfl
      go_wp2_with (at_builtin; refine wpList_append_lies _ rfl _ _ 26 rfl B 5 i0 _ 1 1 Try.underlying26 hi0 hz0 hz1 hz2 rfl (by omega) _ _ _ rfl (hown.alloc _) ⟨wr.heap.size, 0, none⟩ 1 1 [.int .u8 ((b / 4294967296 % 256 : Nat) : Int)] rfl rfl (World.news_of_block (cs := #[.int .u8 ((b / 4294967296 % 256 : Nat) : Int)]) (t := 5) (fr := (0, 0)) (heap_alloc_new wr _)) (one_single rfl) (by omega) (by unfold maxLen; omega) (by omega) (by simp; omega) _ rfl ?_; intro g2 cap2 w2 hown2 hgr2 hat2 hlt2)
      have hp := put_byte hb (by omega) hown (m := b / 4294967296 % 256) (Nat.mod_lt _ (by decide)) hgr2 hown2 (l2 := bs ++ 4 :: (f8 b).take 4) (by rw [hLH.out, hfl]; simp)
      go_roundw
      case rel => exact ⟨4, 24, rfl, by omega, hp.1, hp.2⟩
      case measure => decide
    · have hfl : (f8 b).take 5 = (f8 b).take 4 ++ [UInt8.ofNat (b / 16777216 % 256)] := rfl
      go_wp2_with (at_builtin; refine wpList_append_lies _ rfl _ _ 26 rfl B 5 i0 _ 1 1 Try.underlying26 hi0 hz0 hz1 hz2 rfl (by omega) _ _ _ rfl (hown.alloc _) ⟨wr.heap.size, 0, none⟩ 1 1 [.int .u8 ((b / 16777216 % 256 : Nat) : Int)] rfl rfl (World.news_of_block (cs := #[.int .u8 ((b / 16777216 % 256 : Nat) : Int)]) (t := 5) (fr := (0, 0)) (heap_alloc_new wr _)) (one_single rfl) (by omega) (by unfold maxLen; omega) (by omega) (by simp; omega) _ rfl ?_; intro g2 cap2 w2 hown2 hgr2 hat2 hlt2)
      have hp := put_byte hb (by omega) hown (m := b / 16777216 % 256) (Nat.mod_lt _ (by decide)) hgr2 hown2 (l2 := bs ++ 4 :: (f8 b).take 5) (by rw [hLH.out, hfl]; simp)
      go_roundw
      case rel => exact ⟨5, 16, rfl, by omega, hp.1, hp.2⟩
      case measure => decide
    · have hfl : (f8 b).take 6 = (f8 b).take 5 ++ [UInt8.ofNat (b / 65536 % 256)] := rfl
      go_wp2_with (at_builtin; refine wpList_append_lies _ rfl _ _ 26 rfl B 5 i0 _ 1 1 Try.underlying26 hi0 hz0 hz1 hz2 rfl (by omega) _ _ _ rfl (hown.alloc _) ⟨wr.heap.size, 0, none⟩ 1 1 [.int .u8 ((b / 65536 % 256 : Nat) : Int)] rfl rfl (World.news_of_block (cs := #[.int .u8 ((b / 65536 % 256 : Nat) : Int)]) (t := 5) (fr := (0, 0)) (heap_alloc_new wr _)) (one_single rfl) (by omega) (by unfold maxLen; omega) (by omega) (by simp; omega) _ rfl ?_; intro g2 cap2 w2 hown2 hgr2 hat2 hlt2)
      have hp := put_byte hb (by omega) hown (m := b / 65536 % 256) (Nat.mod_lt _ (by decide)) hgr2 hown2 (l2 := bs ++ 4 :: (f8 b).take 6) (by rw [hLH.out, hfl]; simp)
      go_roundw
      case rel => exact ⟨6, 8, rfl, by omega, hp.1, hp.2⟩
      case measure => decide
    · have hfl : (f8 b).take 7 = (f8 b).take 6 ++ [UInt8.ofNat (b / 256 % 256)] := rfl
      go_wp2_with (at_builtin; refine wpList_append_lies _ rfl _ _ 26 rfl B 5 i0 _ 1 1 Try.underlying26 hi0 hz0 hz1 hz2 rfl (by omega) _ _ _ rfl (hown.alloc _) ⟨wr.heap.size, 0, none⟩ 1 1 [.int .u8 ((b / 256 % 256 : Nat) : Int)] rfl rfl (World.news_of_block (cs := #[.int .u8 ((b / 256 % 256 : Nat) : Int)]) (t := 5) (fr := (0, 0)) (heap_alloc_new wr _)) (one_single rfl) (by omega) (by unfold maxLen; omega) (by omega) (by simp; omega) _ rfl ?_; intro g2 cap2 w2 hown2 hgr2 hat2 hlt2)
      have hp := put_byte hb (by omega) hown (m := b / 256 % 256) (Nat.mod_lt _ (by decide)) hgr2 hown2 (l2 := bs ++ 4 :: (f8 b).take 7) (by rw [hLH.out, hfl]; simp)
      go_roundw
      case rel => exact ⟨7, 0, rfl, by omega, hp.1, hp.2⟩
      case measure => decide
    · have hfl : (f8 b).take 8 = (f8 b).take 7 ++ [UInt8.ofNat (b % 256)] := rfl
      go_wp2_with (at_builtin; refine wpList_append_lies _ rfl _ _ 26 rfl B 5 i0 _ 1 1 Try.underlying26 hi0 hz0 hz1 hz2 rfl (by omega) _ _ _ rfl (hown.alloc _) ⟨wr.heap.size, 0, none⟩ 1 1 [.int .u8 ((b % 256 : Nat) : Int)] rfl rfl (World.news_of_block (cs := #[.int .u8 ((b % 256 : Nat) : Int)]) (t := 5) (fr := (0, 0)) (heap_alloc_new wr _)) (one_single rfl) (by omega) (by unfold maxLen; omega) (by omega) (by simp; omega) _ rfl ?_; intro g2 cap2 w2 hown2 hgr2 hat2 hlt2)
      have hp := put_byte hb (by omega) hown (m := b % 256) (Nat.mod_lt _ (by decide)) hgr2 hown2 (l2 := bs ++ 4 :: (f8 b).take 8) (by rw [hLH.out, hfl]; simp)
      go_roundw
      case rel => exact ⟨8, -8, rfl, by omega, hp.1, hp.2⟩
      case measure => decide
    · have hall : (f8 b).take 8 = f8 b := rfl
      rw [hLH.out, hall] at hown
      go_wp2
      go_ret
      exact ⟨_, rfl, hown, hb⟩

end Go.Proofs.Ytgmdbpplfjkjmaa
