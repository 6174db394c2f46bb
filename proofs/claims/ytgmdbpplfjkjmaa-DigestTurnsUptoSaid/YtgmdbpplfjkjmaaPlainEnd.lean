/- tenonmake.plain of records. -/
import Derived.Test.YtgmdbpplfjkjmaaPlainL
namespace Go.Proofs.Ytgmdbpplfjkjmaa
open Go.RowKit
set_option linter.unusedVariables false
set_option linter.unusedSimpArgs false

set_option maxRecDepth 100000 in
set_option maxHeartbeats 1600000 in
theorem plain_record (c : ByteArray) (n : Int) (d : List (ByteArray × Val)) (ih : ∀ u ∈ d.map (·.2), PlainSaid u) : PlainSaid (.record c n d) := by
  intro deep x fs w h hs h0 h1
  simp only [VRep] at h
  obtain ⟨b, sv, xs, gs, rfl, hr, hc, hn, ho, hd, rfl⟩ := h
  obtain ⟨r0, r1, r2, hbl, -⟩ := recCells hr
  simp only [smallV] at hs
  by_cases hd4 : 400 < deep
  · have hd' : decide (400 < deep) = true := by simpa using hd4
    have hT := fun W => leaf_rep W 0 false 0 0 ⟨#[]⟩ 0 (by rfl) (by rfl) (by rfl) (by simp [maxLen, ByteArray.size]) (by rfl)
    go_enter Try.func87, Try.ntmps87
    go_wp2_with (refine wpList_store_row rfl 31 (.tmp 4) _ rfl w.heap.size zeroCells rfl rfl 31 zeroCells (zeroB w) termSize rfl (all_one (TRep.ones (hT w))) ?_)
    all_goals rw [World.setRow_alloc_new]
    all_goals go_wp2
    all_goals refine ⟨rfl, _, results_cell_row rfl _ _ w.heap.size 31 zeroCells (0, 0) _ rfl (heap_alloc_new w _) Try.underlying31 rfl termSize, _, rfl, ?_, (Below.refl _ _).alloc (Nat.le_refl _) _⟩
    all_goals (rw [plainT, hd']; exact hT _)
  · have hd' : decide (400 < deep) = false := by simpa using hd4
    have hal : Below w.heap.size w (w.alloc (.cells zeroCells 31)) := (Below.refl _ _).alloc (Nat.le_refl _) _
    have hen := Lib.hid (entries_plain d ih sv xs gs (w.alloc (.cells zeroCells 31)).drew deep (ownsRow_keep ho (fun b hb => hal.drew.block b (ownsRow_lt ho b hb).2)) (DsRep.but hd (below_but0 hal.drew) (fun _ _ f => f)) hs.1 hs.2 h0 (by omega))
    have hsz : (w.alloc (.cells zeroCells 31)).drew.heap.size = w.heap.size + 1 := size_alloc _ _
    rw [hsz] at hen
    have hpl : plainT (.record c n d) deep = .mk 10 false 0 0 ⟨#[]⟩ [] 0 [] (plainEs d (deep + 1)) c n := by rw [plainT, hd']; rfl
    unfold PlainEnd
    rw [hpl]
    have hsm := Lib.hid hs.1
    have hcn := Lib.hid (And.intro hc hn)
    obtain ⟨a0, cap0, rfl, -⟩ := ownsRow_form ho
    have hSk : ∀ w', Below w.heap.size w w' → w'.cell? ⟨b, 0, none⟩ = some (.string c) ∧ w'.cell? ⟨b, 1, none⟩ = some (.int .i64 n) ∧ w'.cell? ⟨b, 2, none⟩ = some (.slice a0 d.length cap0) := fun w' hb' => ⟨keeps_of_below hb' _ _ r0, keeps_of_below hb' _ _ r1, keeps_of_below hb' _ _ r2⟩
    clear hs ho hd ih hpl hr hc hn r0 r1 r2
    go_enter Try.func87, Try.ntmps87
    go_wp2_with fail
    refine wp_region_held_drew (S := (fun w' => w'.cell? ⟨b, 0, none⟩ = some (.string c) ∧ w'.cell? ⟨b, 1, none⟩ = some (.int .i64 n) ∧ w'.cell? ⟨b, 2, none⟩ = some (.slice a0 d.length cap0))) (by kernel_rfl) ?_ (fun hHeld => ?_)
    · exact hSk _ hal.drew
    refine wpAnyH_take (i := 0) (v := ?vq0) rfl (by kernel_rfl) (by kernel_rfl) (by kernel_rfl) (fun _ _ _ h => h) (.inl ⟨by rfl, ?hyq0⟩) (by assumption) ?restq0
    case hyq0 => (intro w hSw; (try dsimp only at hSw); go_simp; first | done | with_reducible rfl)
    (try simp only [Act.put, pu1, pu2, pu3, pu4, pu5, pu6])
    refine wpAnyH_take (i := 1) (v := ?vq1) rfl (by kernel_rfl) (by kernel_rfl) (by kernel_rfl) (fun _ _ _ h => h) (.inl ⟨by rfl, ?hyq1⟩) (by assumption) ?restq1
    case hyq1 => (intro w hSw; (try dsimp only at hSw); go_simp; first | done | with_reducible rfl)
    (try simp only [Act.put, pu1, pu2, pu3, pu4, pu5, pu6])
    refine wpAnyH_take (i := 2) (v := ?vq2) rfl (by kernel_rfl) (by kernel_rfl) (by kernel_rfl) (fun _ _ _ h => h) (.inl ⟨by rfl, ?hyq2⟩) (by assumption) ?restq2
    case hyq2 => (intro w hSw; (try dsimp only at hSw); go_simp; first | done | with_reducible rfl)
    (try simp only [Act.put, pu1, pu2, pu3, pu4, pu5, pu6])
    refine wpAnyH_take (i := 3) (v := ?vq3) rfl (by kernel_rfl) (by kernel_rfl) (by kernel_rfl) (fun _ _ _ h => h) (.inl ⟨by rfl, ?hyq3⟩) (by assumption) ?restq3
    case hyq3 => (intro w hSw; (try dsimp only at hSw); go_simp; first | done | with_reducible rfl)
    (try simp only [Act.put, pu1, pu2, pu3, pu4, pu5, pu6])
    refine wpAnyH_take (i := 4) (v := ?vq4) rfl (by kernel_rfl) (by kernel_rfl) (by kernel_rfl) (fun _ _ _ h => h) (.inl ⟨by rfl, ?hyq4⟩) (by assumption) ?restq4
    case hyq4 => (intro w hSw; (try dsimp only at hSw); go_simp; first | done | with_reducible rfl)
    (try simp only [Act.put, pu1, pu2, pu3, pu4, pu5, pu6])
    refine wpAnyH_take (i := 5) (v := ?vq5) rfl (by kernel_rfl) (by kernel_rfl) (by kernel_rfl) (fun _ _ _ h => h) (.inl ⟨by rfl, ?hyq5⟩) (by assumption) ?restq5
    case hyq5 => (intro w hSw; (try dsimp only at hSw); go_simp; first | done | with_reducible rfl)
    (try simp only [Act.put, pu1, pu2, pu3, pu4, pu5, pu6])
    refine wpAnyH_take (i := 6) (v := ?vq6) rfl (by kernel_rfl) (by kernel_rfl) (by kernel_rfl) (fun _ _ _ h => h) (.inl ⟨by rfl, ?hyq6⟩) (by assumption) ?restq6
    case hyq6 => (intro w hSw; (try dsimp only at hSw); go_simp; first | done | with_reducible rfl)
    (try simp only [Act.put, pu1, pu2, pu3, pu4, pu5, pu6])
    refine wpAnyH_take (i := 7) (v := ?vq7) rfl (by kernel_rfl) (by kernel_rfl) (by kernel_rfl) (fun _ _ _ h => h) (.inl ⟨by rfl, ?hyq7⟩) (by assumption) ?restq7
    case hyq7 => (intro w hSw; (try dsimp only at hSw); go_simp; first | done | with_reducible rfl)
    (try simp only [Act.put, pu1, pu2, pu3, pu4, pu5, pu6])
    refine wpAnyH_take (i := 8) (v := ?vq8) rfl (by kernel_rfl) (by kernel_rfl) (by kernel_rfl) (fun _ _ _ h => h) (.inl ⟨by rfl, ?hyq8⟩) (by assumption) ?restq8
    case hyq8 => (intro w hSw; (try dsimp only at hSw); go_simp; first | done | with_reducible rfl)
    (try simp only [Act.put, pu1, pu2, pu3, pu4, pu5, pu6])
    refine wpAnyH_take (i := 9) (v := ?vq9) rfl (by kernel_rfl) (by kernel_rfl) (by kernel_rfl) (fun _ _ _ h => h) (.inl ⟨by rfl, ?hyq9⟩) (by assumption) ?restq9
    case hyq9 => (intro w hSw; (try dsimp only at hSw); go_simp; first | done | with_reducible rfl)
    (try simp only [Act.put, pu1, pu2, pu3, pu4, pu5, pu6])
    refine wpAnyH_take (i := 10) (v := ?vq10) rfl (by kernel_rfl) (by kernel_rfl) (by kernel_rfl) (fun _ _ _ h => h) (.inl ⟨by rfl, ?hyq10⟩) (by assumption) ?restq10
    case hyq10 => (intro w hSw; (try dsimp only at hSw); go_simp; first | done | with_reducible rfl)
    (try simp only [Act.put, pu1, pu2, pu3, pu4, pu5, pu6])
    refine wpAnyH_take (i := 11) (v := ?vq11) rfl (by kernel_rfl) (by kernel_rfl) (by kernel_rfl) (fun _ _ _ h => h) (.inl ⟨by rfl, ?hyq11⟩) (by assumption) ?restq11
    case hyq11 => (intro w hSw; (try dsimp only at hSw); go_simp; first | done | with_reducible rfl)
    (try simp only [Act.put, pu1, pu2, pu3, pu4, pu5, pu6])
    refine wpAnyH_take (i := 12) (v := ?vq12) rfl (by kernel_rfl) (by kernel_rfl) (by kernel_rfl) (fun _ _ _ h => h) (.inl ⟨by rfl, ?hyq12⟩) (by assumption) ?restq12
    case hyq12 => (intro w hSw; (try dsimp only at hSw); go_simp; first | done | with_reducible rfl)
    (try simp only [Act.put, pu1, pu2, pu3, pu4, pu5, pu6])
    refine wpAnyH_ready (rs := [13]) (by kernel_rfl) (by simp) ?_
    refine AllReadyH.cons rfl (fun K hK => ?_) AllReadyH.nil
    rw [if_pos (by rfl)]
    go_simp
    refine hen.out.mono ?_
    rintro e w1 ⟨se, xe, rfl, ho1, hes, hb1⟩
    have hB := (hb1.block w.heap.size (by omega)).trans (zeroB w)
    have hbw : Below w.heap.size w w1 := hal.drew.trans (below_le hb1 (by omega))
    obtain ⟨hrow, hes'⟩ := entries_field (w := w) (by omega) ho1 hsm.out hes
    obtain ⟨oa, cap, rfl, -⟩ := ownsRow_form ho1
    have hT : TRep (only w1 (fun b => w.heap.size < b)) (.mk 10 false 0 0 ⟨#[]⟩ [] 0 [] (plainEs d (deep + 1)) c n) [.int .i64 10, .bool false, .int .i64 0, .float .f64 0, .string ⟨#[]⟩, .slice none 0 0, .int .u64 0, .slice none 0 0, .slice oa d.length cap, .string c, .int .i64 n] := by
      simp only [TRep]
      refine ⟨_, _, _, [], xe, rfl, ⟨by rfl, by rfl, by rfl, by simp [maxLen, ByteArray.size], by rfl, hcn.out.1, hcn.out.2⟩, nilRow, nilRow, rfl, ?_, hes'⟩
      rw [plainEs_eq, List.length_map]
      exact hrow
    have hcl := Lib.hid (plain_close hB hbw hT)
    have hone := TRep.ones hT
    have hS1 := hSk w1 hbw
    clear hrow hes' hT hes ho1
    refine hK.out _ _ ?_ (fun hHeld2 => ?_)
    · exact hS1
    clear hK K
    (try simp only [Act.put, pu1, pu2, pu3, pu4, pu5, pu6])
    refine wpAnyH_take (i := 14) (v := ?vq14) rfl (by kernel_rfl) (by kernel_rfl) (by kernel_rfl) (fun _ _ _ h => h) (.inl ⟨by rfl, ?hyq14⟩) (by assumption) ?restq14
    case hyq14 => (intro w hSw; (try dsimp only at hSw); go_simp; first | done | with_reducible rfl)
    (try simp only [Act.put, pu1, pu2, pu3, pu4, pu5, pu6])
    refine wpAnyH_ready (rs := [15]) (by kernel_rfl) (by simp) ?_
    refine AllReadyH.cons rfl (fun K hK => ?_) AllReadyH.nil
    refine wp_store_row 31 (.tmp 4) (.tmp 105) rfl w.heap.size #[.int .i64 10, .bool false, .int .i64 0, .float .f64 0, .string ⟨#[]⟩, .slice none 0 0, .int .u64 0, .slice none 0 0, .slice oa d.length cap, .string c, .int .i64 n] rfl rfl 31 zeroCells hB termSize rfl (all_one hone) ?_
    refine hK.out _ _ ?_ (fun hHeld2 => ?_)
    · exact hSk _ hcl.out.2.2
    clear hK K
    (try simp only [Act.put, pu1, pu2, pu3, pu4, pu5, pu6])
    refine wpAnyH_done (by kernel_rfl) ?_ _
    go_wp2_with fail
    exact ⟨rfl, _, results_cell_row rfl _ _ w.heap.size 31 _ (0, 0) _ rfl hcl.out.1 Try.underlying31 rfl termSize, _, rfl, hcl.out.2.1, hcl.out.2.2⟩
end Go.Proofs.Ytgmdbpplfjkjmaa

/-! tenonmake.plain of bytes. -/
namespace Go.Proofs.Ytgmdbpplfjkjmaa
open Go.RowKit
set_option linter.unusedVariables false
set_option linter.unusedSimpArgs false

/-- Bytes of the call's own, as a term's field. -/
theorem bytes_term {w w1 : World} {B cap : Nat} {a : Option Addr} {l : List UInt8} (hlt : w.heap.size < B) (ho : w1.ownsRow B 5 1 (.slice a l.length cap) l.length (byteCells l)) (hn : l.length ≤ 1048576) :
    TRep (only w1 (fun b => w.heap.size < b)) (.mk 6 false 0 0 ⟨#[]⟩ l 0 [] [] ⟨#[]⟩ 0) [.int .i64 6, .bool false, .int .i64 0, .float .f64 0, .string ⟨#[]⟩, .slice a l.length cap, .int .u64 0, .slice none 0 0, .slice none 0 0, .string ⟨#[]⟩, .int .i64 0] := by
  simp only [TRep]
  refine ⟨_, _, _, [], [], rfl, ⟨by rfl, by rfl, by rfl, by simp [maxLen, ByteArray.size], by rfl, by simp [maxLen, ByteArray.size], by rfl⟩, ?_, nilRow, rfl, nilRow, rfl⟩
  exact (AtRow.of_own ho hn).only (fun _ b hb => by have := (ownsRow_lt ho b (ownL_some.2 hb)).1; omega) (by omega)
set_option maxRecDepth 100000 in
set_option maxHeartbeats 1600000 in
theorem plain_bytes (l : List UInt8) : PlainSaid (.bytes l) := by
  intro deep x fs w h hs h0 h1
  simp only [VRep] at h
  obtain ⟨sv, rfl, ho, rfl⟩ := h
  simp only [smallV] at hs
  obtain ⟨i0, hi0, hz0, hz1, hz2⟩ := info_parts Try.infoU8
  by_cases hd4 : 400 < deep
  · have hd' : decide (400 < deep) = true := by simpa using hd4
    have hT := fun W => leaf_rep W 0 false 0 0 ⟨#[]⟩ 0 (by rfl) (by rfl) (by rfl) (by simp [maxLen, ByteArray.size]) (by rfl)
    clear ho
    go_enter Try.func87, Try.ntmps87
    go_wp2_with (refine wpList_store_row rfl 31 (.tmp 4) _ rfl w.heap.size zeroCells rfl rfl 31 zeroCells (zeroB w) termSize rfl (all_one (TRep.ones (hT w))) ?_)
    all_goals rw [World.setRow_alloc_new]
    all_goals go_wp2
    all_goals refine ⟨rfl, _, results_cell_row rfl _ _ w.heap.size 31 zeroCells (0, 0) _ rfl (heap_alloc_new w _) Try.underlying31 rfl termSize, _, rfl, ?_, (Below.refl _ _).alloc (Nat.le_refl _) _⟩
    all_goals (rw [plainT, hd']; exact hT _)
  · have hd' : decide (400 < deep) = false := by simpa using hd4
    have hal : Below w.heap.size w (w.alloc (.cells zeroCells 31)) := (Below.refl _ _).alloc (Nat.le_refl _) _
    have hsz : (w.alloc (.cells zeroCells 31)).heap.size = w.heap.size + 1 := size_alloc _ _
    have hown0 := ownsRow_new (w.alloc (.cells zeroCells 31)) 5 1 (w.heap.size + 1) (by omega)
    have hb0 : Below w.heap.size w ((w.alloc (.cells zeroCells 31)).alloc (.cells #[] 5)) := hal.alloc (by omega) _
    have hB0 : ((w.alloc (.cells zeroCells 31)).alloc (.cells #[] 5)).heap[w.heap.size]? = some (.cells zeroCells 31 (0, 0)) := (Below.heap_alloc _ _ _ (by omega)).trans (zeroB w)
    rw [hsz] at hown0
    have hpl : plainT (.bytes l) deep = .mk 6 false 0 0 ⟨#[]⟩ l 0 [] [] ⟨#[]⟩ 0 := by rw [plainT, hd']; rfl
    unfold PlainEnd
    rw [hpl]
    obtain ⟨a, cap, rfl, hcap, hmax, -, hform⟩ := ownsRow_form ho
    unfold maxLen at hmax
    clear ho hpl
    rcases hform with ⟨rfl, hl0, rfl⟩ | ⟨g, rfl, -, hg, -, hcells⟩
    · obtain rfl : l = [] := List.eq_nil_of_length_eq_zero hl0
      have hT := bytes_term (w := w) (l := []) (by omega) hown0 (by omega)
      have hcl := Lib.hid (plain_close hB0 hb0 hT)
      have hone := TRep.ones hT
      clear hl0 hmax hcap hT
      go_enter Try.func87, Try.ntmps87
      go_wp2_with (first | (at_builtin; refine wpList_append_own_none rfl _ _ 26 rfl (w.heap.size + 1) 5 i0 1 Try.underlying26 hi0 _ 0 [] rfl hown0 rfl ?_) | (refine wpList_store_row rfl 31 (.tmp 4) _ rfl w.heap.size #[.int .i64 6, .bool false, .int .i64 0, .float .f64 0, .string ⟨#[]⟩, .slice (some ⟨w.heap.size + 1, 0, none⟩) 0 0, .int .u64 0, .slice none 0 0, .slice none 0 0, .string ⟨#[]⟩, .int .i64 0] rfl rfl 31 zeroCells hB0 termSize rfl (all_one hone) ?_))
      all_goals go_wp2
      all_goals exact ⟨rfl, _, results_cell_row rfl _ _ w.heap.size 31 _ (0, 0) _ rfl hcl.out.1 Try.underlying31 rfl termSize, _, rfl, hcl.out.2.1, hcl.out.2.2⟩
    · have hcl : ∀ j u, (byteCells l)[j]? = some u → ((w.alloc (.cells zeroCells 31)).alloc (.cells #[] 5)).cell? ((⟨g, 0, none⟩ : Addr).add j) = some u := by
        intro j u hu
        have hj : j < l.length := by have := (List.getElem?_eq_some_iff.1 hu).1; simpa [byteCells] using this
        rw [Addr.add_mid, Nat.zero_add]
        exact keeps_of_below hb0 _ _ ((hcells j (by omega)).trans hu)
      have hclH := Lib.hid hcl
      clear hcells hcl
      go_enter Try.func87, Try.ntmps87
      go_wp2_with (first | (at_builtin; refine wpList_append_own _ rfl _ _ 26 rfl (w.heap.size + 1) 5 i0 _ 1 1 Try.underlying26 hi0 hz0 hz1 hz2 rfl (by omega) _ 0 [] rfl hown0 ⟨g, 0, none⟩ l.length cap (byteCells l) rfl (by simp [byteCells]) ?c1 (byteCells_one l) (by unfold maxLen; omega) (by omega) (by simp) ?_; (case c1 => exact hclH.out); intro v' w' hown' hgr' _; clear hclH; simp only [Nat.zero_add, List.nil_append] at hown'; obtain ⟨a', cap', rfl, -⟩ := ownsRow_form hown'; have hB := (hgr'.block w.heap.size (by simp; omega) (by intro e; have := (Option.some.inj e); simp at this)).trans hB0; have hbw : Below w.heap.size w w' := hb0.grown hgr' (by simp; omega) (fun k hk => by injection hk with hk; rw [← hk]; simp); have hT := bytes_term (w := w) (l := l) (by omega) hown' hs; have hcl := Lib.hid (plain_close hB hbw hT); have hone := TRep.ones hT; clear hT hown' hgr') | (refine wpList_store_row rfl 31 (.tmp 4) _ rfl w.heap.size #[.int .i64 6, .bool false, .int .i64 0, .float .f64 0, .string ⟨#[]⟩, .slice a' l.length cap', .int .u64 0, .slice none 0 0, .slice none 0 0, .string ⟨#[]⟩, .int .i64 0] rfl rfl 31 zeroCells hB termSize rfl (all_one hone) ?_))
      all_goals go_wp2
      all_goals exact ⟨rfl, _, results_cell_row rfl _ _ w.heap.size 31 _ (0, 0) _ rfl hcl.out.1 Try.underlying31 rfl termSize, _, rfl, hcl.out.2.1, hcl.out.2.2⟩
end Go.Proofs.Ytgmdbpplfjkjmaa

/-! tenonmake.plain of any value. -/
namespace Go.Proofs.Ytgmdbpplfjkjmaa
open Go.RowKit
set_option linter.unusedVariables false
set_option linter.unusedSimpArgs false

theorem plain_any : ∀ v, PlainSaid v := val_ind fun v ih => by
  cases v with
  | nil => exact plain_nil
  | bool b => exact plain_bool b
  | int n => exact plain_int n
  | float b => exact plain_float b
  | text s => exact plain_text s
  | bytes l => exact plain_bytes l
  | ref n => exact plain_ref n
  | list l => exact plain_list l ih
  | dict d => exact plain_dict d ih
  | record s n d => exact plain_record s n d ih
  | nothing => exact plain_nothing
  | alien u => exact plain_alien u
/-- What Built makes of a small term is small. -/
theorem small_built {w : World} : ∀ (t : Term), (∀ cs, TRep w t cs → smallV (builtV t)) := term_all fun t ih => by
  obtain ⟨k, b, n, fl, tx, bs, rf, ls, es, cl, ver⟩ := t
  intro cs h
  simp only [TRep] at h
  obtain ⟨sb, sl, se, xl, xe, rfl, -, ⟨_, _, _, _, _, hb, _⟩, ⟨_, _, _, _, _, hl, _⟩, hls, ⟨_, _, _, _, _, he, _⟩, hes⟩ := h
  have hVs : ∀ (l : List Term) (xs : List Value), TsRep w l xs → (∀ u ∈ l, ∀ cs, TRep w u cs → smallV (builtV u)) → smallVs (builtVs l) := by
    intro l
    induction l with
    | nil => intro xs _ _; rw [builtVs, smallVs]; trivial
    | cons u l il =>
      rintro xs ⟨cs, ys, -, h1, h2⟩ hu
      rw [builtVs, smallVs]
      exact ⟨hu u List.mem_cons_self cs h1, il ys h2 (fun v hv => hu v (List.mem_cons_of_mem _ hv))⟩
  have hDs : ∀ (l : List (ByteArray × Term)) (xs : List Value), EsRep w l xs → (∀ u ∈ l.map (·.2), ∀ cs, TRep w u cs → smallV (builtV u)) → smallDs (builtEs l) := by
    intro l
    induction l with
    | nil => intro xs _ _; rw [builtEs, smallDs]; trivial
    | cons p l il =>
      obtain ⟨s, u⟩ := p
      rintro xs ⟨cs, ys, -, -, h1, h2⟩ hu
      rw [builtEs, builtE, smallDs, smallP]
      exact ⟨hu u (by simp) cs h1, il ys h2 (fun v hv => hu v (List.mem_cons_of_mem _ hv))⟩
  have h1 := hVs ls xl hls (fun u hu => ih u (List.mem_append_left _ hu))
  have h2 := hDs es xe hes (fun u hu => ih u (List.mem_append_right _ hu))
  have hl' : (builtVs ls).length ≤ 1048576 := by rw [builtVs_eq, List.length_map]; exact hl
  have he' : (builtEs es).length ≤ 1048576 := by rw [builtEs_eq, List.length_map]; exact he
  rw [builtV]
  cases (k == 1) <;> cases (k == 2) <;> cases (k == 3) <;> cases (k == 4) <;> cases (k == 5) <;> cases (k == 6) <;> cases (k == 7) <;> cases (k == 8) <;> cases (k == 9) <;> cases (k == 10) <;> cases (k == 11) <;> simp only [cond_true, cond_false, smallV] <;> first | trivial | exact hb | exact ⟨hl', h1⟩ | exact ⟨he', h2⟩
end Go.Proofs.Ytgmdbpplfjkjmaa
