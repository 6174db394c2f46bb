/- value.fields, own, part, check, Check: what they turn, and that the draws do not go back. -/
import Derived.Test.YtgmdbpplfjkjmaaValPart
import Derived.Test.YtgmdbpplfjkjmaaGrew
namespace Go.Proofs.Ytgmdbpplfjkjmaa
open Go.RowKit Go.Sort
set_option linter.unusedVariables false
set_option linter.unusedSimpArgs false

structure BelowD (B : Nat) (w w' : World) : Prop where
  below : Below B w w'
  drawn : w.drawn ≤ w'.drawn
structure ButD (S : Nat → Prop) (w w' : World) : Prop where
  but : But S w w'
  drawn : w.drawn ≤ w'.drawn
section
variable {B : Nat} {S : Nat → Prop} {a b c w w' : World}
theorem BelowD.refl (B : Nat) (w : World) : BelowD B w w := ⟨Below.refl _ _, Nat.le_refl _⟩
theorem BelowD.alloc (h : BelowD B a b) (hB : B ≤ b.heap.size) (o : Obj) : BelowD B a (b.alloc o) := ⟨h.below.alloc hB o, h.drawn⟩
theorem BelowD.size (h : BelowD B a b) : a.heap.size ≤ b.heap.size := h.below.size
theorem BelowD.block (h : BelowD B a b) (k : Nat) (hk : k < B) : b.heap[k]? = a.heap[k]? := h.below.block k hk
theorem BelowD.cell (h : BelowD B a b) {p : Addr} (hp : p.block < B) : b.cell? p = a.cell? p := h.below.cell hp
theorem BelowD.frozen (h : BelowD B a b) {p : Addr} (hp : p.block < B) : b.frozen? p = a.frozen? p := h.below.frozen hp
theorem BelowD.trans (h : BelowD B a b) (k : BelowD B b c) : BelowD B a c := ⟨h.below.trans k.below, Nat.le_trans h.drawn k.drawn⟩
theorem BelowD.mono {B' : Nat} (h : BelowD B a b) (hB : B' ≤ B) : BelowD B' a b := ⟨h.below.mono hB, h.drawn⟩
theorem BelowD.drew (h : BelowD B a b) : BelowD B a b.drew := ⟨h.below.drew, Nat.le_succ_of_le h.drawn⟩
theorem BelowD.drewN' (h : BelowD B a b) (n : Nat) : BelowD B a { b with drawn := b.drawn + n } := ⟨Below.drewN' h.below n, Nat.le_trans h.drawn (Nat.le_add_right _ _)⟩
theorem ButD.refl (S : Nat → Prop) (w : World) : ButD S w w := ⟨But.refl _ _, Nat.le_refl _⟩
theorem ButD.trans (h : ButD S a b) (k : ButD S b c) : ButD S a c := ⟨h.but.trans k.but, Nat.le_trans h.drawn k.drawn⟩
theorem ButD.alloc (h : ButD S a b) (o : Obj) : ButD S a (b.alloc o) := ⟨h.but.alloc o, h.drawn⟩
theorem ButD.setCell (h : ButD S a b) {p : Addr} (hp : p.block < a.heap.size → S p.block) (u : Value) : ButD S a (b.setCell p u) := ⟨h.but.setCell hp u, h.drawn⟩
theorem ButD.of_below (h : ButD S a b) {B : Nat} (k : BelowD B b c) (hb : ∀ i, i < a.heap.size → B ≤ i → S i) : ButD S a c := ⟨h.but.of_below k.below hb, Nat.le_trans h.drawn k.drawn⟩
theorem ButD.cell (h : ButD S a b) {p : Addr} (hp : p.block < a.heap.size) (hs : ¬ S p.block) : b.cell? p = a.cell? p := h.but.cell hp hs
theorem ButD.frozen (h : ButD S a b) {p : Addr} (hp : p.block < a.heap.size) (hs : ¬ S p.block) : b.frozen? p = a.frozen? p := h.but.frozen hp hs
theorem ButD.size (h : ButD S a b) : a.heap.size ≤ b.heap.size := h.but.size
theorem ButD.block (h : ButD S a b) (k : Nat) (hk : k < a.heap.size) (hs : ¬ S k) : b.heap[k]? = a.heap[k]? := h.but.block k hk hs
theorem ButD.drew (h : ButD S a b) : ButD S a b.drew := ⟨h.but.drew, Nat.le_succ_of_le h.drawn⟩
theorem ButD.drewN (h : ButD S a b) (n : Nat) : ButD S a (b.drewN n) := ⟨h.but.drewN n, Nat.le_trans h.drawn (Nat.le_add_right _ _)⟩
theorem ButD.new_below {w2 : World} {o : Obj} (h : ButD (· = w.heap.size) (w.alloc o) w2) : BelowD w.heap.size w w2 := ⟨h.but.new_below, h.drawn⟩
theorem VRep.butD {v : Val} {x : Value} {fs : List Nat} (h : VRep w v x fs) (hb : ButD S w w') (hs : ∀ b ∈ fs, ¬ S b) : VRep w' v x fs := VRep.but h hb.but hs
theorem VsRep.butD {v : List Val} {x : List Value} {fs : List Nat} (h : VsRep w v x fs) (hb : ButD S w w') (hs : ∀ b ∈ fs, ¬ S b) : VsRep w' v x fs := VsRep.but h hb.but hs
theorem DsRep.butD {v : List (ByteArray × Val)} {x : List Value} {fs : List Nat} (h : DsRep w v x fs) (hb : ButD S w w') (hs : ∀ b ∈ fs, ¬ S b) : DsRep w' v x fs := DsRep.but h hb.but hs
theorem ownsRow_butD {base : Nat} {e : TypeId} {size : Nat} {sv : Value} {n : Nat} {xs : List Value} (h : w.ownsRow base e size sv n xs) (hb : ButD S w w') (hs : ∀ b ∈ ownL sv, ¬ S b) : w'.ownsRow base e size sv n xs := ownsRow_but h hb.but hs
/-- Nothing turned, the draws not gone back: the world has grown. -/
theorem BelowD.grew (h : BelowD w.heap.size w w') : Grew w w' := by
  obtain ⟨⟨h1, h2, h3, h4, h5⟩, h6⟩ := h
  refine ⟨⟨w'.drawn - w.drawn, w'.heap.extract w.heap.size w'.heap.size⟩, ?_⟩
  have hh : w'.heap = w.heap ++ w'.heap.extract w.heap.size w'.heap.size := by
    apply Array.ext_getElem?
    intro i
    by_cases hi : i < w.heap.size
    · rw [Array.getElem?_append_left hi]; exact h5 i hi
    · rw [Array.getElem?_append_right (by omega), Array.getElem?_extract]
      by_cases hj : i < w'.heap.size
      · rw [if_pos (by omega), show w.heap.size + (i - w.heap.size) = i by omega]
      · rw [if_neg (by omega)]; exact Array.getElem?_eq_none (by omega)
  obtain ⟨heap, tape, drawn, os, output⟩ := w'
  simp only at h1 h2 h3 h6 hh
  show World.mk heap tape drawn os output = World.mk (w.heap ++ heap.extract w.heap.size heap.size) w.tape (w.drawn + (drawn - w.drawn)) w.os w.output
  rw [← hh, h1, h2, h3, show w.drawn + (drawn - w.drawn) = drawn by omega]
end
theorem bytes_ofD (s : ByteArray) (w : World) : ∃ w1 cap, (convert 9 26 (.string s)).run Try.prog w = .ok (.slice (some ⟨w.heap.size, 0, none⟩) s.size cap) w1 ∧
    (∀ j, j < s.size → w1.cell? ⟨w.heap.size, j, none⟩ = some (.int .u8 (s.data.toList.getD j 0).toNat)) ∧ BelowD w.heap.size w w1 ∧ w1.heap.size = w.heap.size + 1 := by
  refine ⟨_, _, Lib.run_convert_string_bytes w 9 26 5 s Try.underlying9 Try.underlying26 Try.underlying5, fun j hj => Lib.bytesWorld_cell w _ s j hj, ⟨⟨?_, ?_, ?_, ?_, fun k hk => Lib.bytesWorld_at_old w _ s k hk⟩, ?_⟩, Lib.bytesWorld_size w _ s⟩
  all_goals simp [Lib.bytesWorld, World.freeze, World.alloc, World.drew, -World.alloc_eq, -World.drew_eq]
set_option maxRecDepth 100000 in
theorem name_anyD (s : ByteArray) (w : World) : Calls Try.prog 261 #[.string s] w fun e w' => e = .returned (.bool (nameOk s)) ∧ BelowD w.heap.size w w' := by
  by_cases h0 : s.size = 0
  · have hn := Lib.hid (nameOk_head (s := s) (by omega))
    have hz := toList_nil h0
    clear h0
    go_enter Try.func261, Try.ntmps261
    go_wp2
    go_ret
    exact ⟨ret_bool hn.out.symm, BelowD.refl _ _⟩
  · have hz := toList_cons h0
    have hf := Lib.hid (first_getD (s := s) (by omega))
    obtain ⟨w1, cap, hconv, hcell, hb, hsz⟩ := bytes_ofD s w
    have hcelL := Lib.hid hcell
    clear hsz hcell
    by_cases h1 : 32 < s.size
    · have hn := Lib.hid (nameOk_head (s := s) (by omega))
      go_enter Try.func261, Try.ntmps261
      go_wp2
      go_ret
      exact ⟨ret_bool hn.out.symm, BelowD.refl _ _⟩
    · by_cases h2 : 97 ≤ (s[0]'(by omega)).toNat ∧ (s[0]'(by omega)).toNat ≤ 122
      · obtain ⟨h2, h3⟩ := h2
        have hall := Lib.hid (nameOk_all (s := s) (by omega) (by omega) (by rw [← hf.out]; exact h2) (by rw [← hf.out]; exact h3))
        have g1 : ((s.size : Nat) : Int) ≤ 32 := by omega
        have g2 : (97 : Int) ≤ ((s[0]'(by omega)).toNat : Int) := by omega
        have g3 : ((s[0]'(by omega)).toNat : Int) ≤ 122 := by omega
        have d1 : decide (32 < (s.size : Int)) = false := by simp; omega
        have d2 : decide (((s[0]'(by omega)).toNat : Int) < 97) = false := by simp; omega
        have d3 : decide (122 < ((s[0]'(by omega)).toNat : Int)) = false := by simp; omega
        clear h2 h3 hf
        go_enter Try.func261, Try.ntmps261
        go_wp2
        clear d1 d2 d3 hconv hz
        go_loop [25] (fun i => ∃ k : Nat, k ≤ s.size ∧ i = .int .i64 k ∧ ∀ j, j < k → nameCh (s.data.toList.getD j 0) = true) (fun i => s.size - (intOf i).toNat)
        case atStart => exact ⟨0, Nat.zero_le _, rfl, fun j hj => absurd hj (Nat.not_lt_zero _)⟩
        case round =>
          obtain ⟨k, hk, rfl, hpre⟩ := hrel
          have hprE := Lib.hid hpre
          clear hpre
          by_cases hlt : k < s.size
          · have hc := hcelL.out k hlt
            have hbad0 := nameOk_bad (s := s) hlt
            generalize hcv : s.data.toList.getD k 0 = c at hc hbad0
            have hcV := Lib.hid hcv
            have hbad := Lib.hid hbad0
            clear hcv hbad0
            have hc2 : (c.toNat : Int) < 256 := by have := c.toNat_lt; omega
            go_wp2
            all_goals first
              | (go_round
                 case rel => exact ⟨k + 1, by omega, by go_num, pre_snoc hprE hcV (by unfold nameCh; rw [decide_eq_true_eq]; simp at *; omega)⟩
                 case measure => simp [intOf]; omega)
              | (go_ret; exact ⟨ret_bool (hbad.out (by unfold nameCh; rw [decide_eq_false_iff_not]; simp at *; omega)).symm, hb⟩)
          · obtain rfl : k = s.size := by omega
            go_wp2
            go_ret
            exact ⟨ret_bool (hall.out hprE.out).symm, hb⟩
      · have hn := Lib.hid (nameOk_head (s := s) (fun ⟨_, _, a, b⟩ => h2 (by rw [hf.out]; exact ⟨a, b⟩)))
        clear hf
        go_enter Try.func261, Try.ntmps261
        go_wp2
        all_goals go_ret
        all_goals exact ⟨ret_bool hn.out.symm, BelowD.refl _ _⟩
set_option maxRecDepth 100000 in
set_option maxHeartbeats 800000 in
theorem fields_anyD (d : List (ByteArray × Val)) (sv : Value) (xs : List Value) (gs : List Nat) (w : World) (ho : w.ownsRow 0 220 2 sv d.length xs) (hd : DsRep w d xs gs) :
    Calls Try.prog 260 #[sv] w fun e w' => e = .returned (.int .i64 (fieldsF d)) ∧ BelowD w.heap.size w w' := by
  obtain ⟨a, cap, rfl, hcap, hmax, hlen, hform⟩ := ownsRow_form ho
  unfold maxLen at hmax
  have hdat := Lib.hid (DsRep.at d xs gs hd)
  clear ho hd
  by_cases hl : 4096 < d.length
  · have hf := Lib.hid (fieldsF_long hl)
    go_enter Try.func260, Try.ntmps260
    go_wp2
    go_ret
    exact ⟨ret_int hf.out.symm, BelowD.refl _ _⟩
  · have hbadF := Lib.hid (fun k => fieldsF_bad (d := d) (by omega) (k := k))
    have hokF := Lib.hid (fieldsF_ok (d := d) (by omega))
    have hl' : ((d.length : Nat) : Int) ≤ 4096 := by omega
    have hformH := Lib.hid hform
    clear hform hlen
    go_enter Try.func260, Try.ntmps260
    go_wp2
    go_loopw [10] (fun i wr => ∃ k : Nat, k ≤ d.length ∧ i = .int .i64 k ∧ (∀ j, j < k → badName d j = false) ∧ BelowD w.heap.size w wr) (fun i _ => d.length - (intOf i).toNat)
    case atStart => exact ⟨0, Nat.zero_le _, rfl, fun j hj => absurd hj (Nat.not_lt_zero _), BelowD.refl _ _⟩
    case round =>
      obtain ⟨k, hk, rfl, hpre, hb⟩ := hrel
      have hpreH := Lib.hid hpre
      clear hpre
      by_cases hlt : k < d.length
      · rcases hformH.out with ⟨-, h0, -⟩ | ⟨g, rfl, -, hg, -, hcells⟩
        · omega
        · obtain ⟨⟨s, v⟩, hp⟩ : ∃ p, d[k]? = some p := ⟨_, List.getElem?_eq_getElem hlt⟩
          obtain ⟨x, f, e1, e2, e3, -⟩ := hdat.out k _ hp
          have hx1 := e3.one
          have hpH := Lib.hid hp
          clear hp
          have hc0 := (hb.cell (p := ⟨g, k * 2, none⟩) hg).trans ((hcells (k * 2) (by omega)).trans e1)
          have hc1 := (hb.cell (p := ⟨g, k * 2 + 1, none⟩) hg).trans ((hcells (k * 2 + 1) (by omega)).trans e2)
          clear e1 e2 e3
          have hname := name_anyD s
          have hg' : g < wr.heap.size := Nat.lt_of_lt_of_le hg hb.size
          go_wp2_with fail
          generalize hW : wr.alloc (Obj.cells #[Value.string s, x] 220) = W
          have hbW : BelowD w.heap.size w W := hW ▸ hb.alloc hb.size _
          have hB0 : W.cell? ⟨wr.heap.size, 0, none⟩ = some (.string s) := by rw [← hW]; simp [go_sem]
          have hBs : wr.heap.size < W.heap.size := by rw [← hW]; simp
          have hbw : BelowD wr.heap.size wr W := hW ▸ (BelowD.refl _ _).alloc (Nat.le_refl _) _
          clear hW
          cases hno : nameOk s with
          | false =>
            have hfin := Lib.hid (hbadF.out k hlt (badName_name hpH.out hno))
            simp only [hno] at hname
            have hnameH := Lib.hid hname
            clear hname hno
            refine wp_region_held_drew (S := (fun w' => w'.cell? ⟨wr.heap.size, 0, none⟩ = some (.string s))) (by kernel_rfl) ?_ (fun hHeld => ?_)
            · exact hB0
            refine wpAnyH_take (i := 0) (v := ?vf0) rfl (by kernel_rfl) (by kernel_rfl) (by kernel_rfl) (fun _ _ _ h => h) (.inl ⟨by rfl, ?hyf0⟩) (by assumption) ?restf0
            case hyf0 => (intro w hSw; (try dsimp only at hSw); go_simp; first | done | with_reducible rfl)
            (try simp only [Act.put, pu1, pu2, pu3, pu4, pu5, pu6])
            refine wpAnyH_take (i := 1) (v := ?vf1) rfl (by kernel_rfl) (by kernel_rfl) (by kernel_rfl) (fun _ _ _ h => h) (.inl ⟨by rfl, ?hyf1⟩) (by assumption) ?restf1
            case hyf1 => (intro w hSw; (try dsimp only at hSw); go_simp; first | done | with_reducible rfl)
            (try simp only [Act.put, pu1, pu2, pu3, pu4, pu5, pu6])
            refine wpAnyH_ready (rs := [2]) (by kernel_rfl) (by simp) ?_
            refine AllReadyH.cons rfl (fun K hK => ?_) AllReadyH.nil
            rw [if_pos (by rfl)]
            go_simp
            refine (hnameH.out _).mono ?_
            rintro e w' ⟨rfl, hb1⟩
            refine hK.out _ _ ?_ (fun hHeld2 => ?_)
            · exact (hb1.cell hBs).trans hB0
            clear hK K
            (try simp only [Act.put, pu1, pu2, pu3, pu4, pu5, pu6])
            refine wpAnyH_take (i := 3) (v := ?vf3) rfl (by kernel_rfl) (by kernel_rfl) (by kernel_rfl) (fun _ _ _ h => h) (.inl ⟨by rfl, ?hyf3⟩) (by assumption) ?restf3
            case hyf3 => (intro w hSw; (try dsimp only at hSw); go_simp; first | done | with_reducible rfl)
            (try simp only [Act.put, pu1, pu2, pu3, pu4, pu5, pu6])
            refine wpAnyH_take (i := 4) (v := ?vf4) rfl (by kernel_rfl) (by kernel_rfl) (by kernel_rfl) (fun _ _ _ h => h) (.inl ⟨by rfl, ?hyf4⟩) (by assumption) ?restf4
            case hyf4 => (intro w hSw; (try dsimp only at hSw); go_simp; first | done | with_reducible rfl)
            (try simp only [Act.put, pu1, pu2, pu3, pu4, pu5, pu6])
            refine wpAnyH_take (i := 5) (v := undef) rfl (by kernel_rfl) (by kernel_rfl) (by kernel_rfl) (fun _ _ _ h => h) (.inr ⟨by rfl, rfl⟩) (by assumption) ?_
            (try simp only [Act.put, pu1, pu2, pu3, pu4, pu5, pu6])
            refine wpAnyH_take (i := 6) (v := undef) rfl (by kernel_rfl) (by kernel_rfl) (by kernel_rfl) (fun _ _ _ h => h) (.inr ⟨by rfl, rfl⟩) (by assumption) ?_
            (try simp only [Act.put, pu1, pu2, pu3, pu4, pu5, pu6])
            refine wpAnyH_take (i := 7) (v := undef) rfl (by kernel_rfl) (by kernel_rfl) (by kernel_rfl) (fun _ _ _ h => h) (.inr ⟨by rfl, rfl⟩) (by assumption) ?_
            (try simp only [Act.put, pu1, pu2, pu3, pu4, pu5, pu6])
            refine wpAnyH_take (i := 8) (v := undef) rfl (by kernel_rfl) (by kernel_rfl) (by kernel_rfl) (fun _ _ _ h => h) (.inr ⟨by rfl, rfl⟩) (by assumption) ?_
            (try simp only [Act.put, pu1, pu2, pu3, pu4, pu5, pu6])
            refine wpAnyH_take (i := 9) (v := undef) rfl (by kernel_rfl) (by kernel_rfl) (by kernel_rfl) (fun _ _ _ h => h) (.inr ⟨by rfl, rfl⟩) (by assumption) ?_
            (try simp only [Act.put, pu1, pu2, pu3, pu4, pu5, pu6])
            refine wpAnyH_take (i := 10) (v := undef) rfl (by kernel_rfl) (by kernel_rfl) (by kernel_rfl) (fun _ _ _ h => h) (.inr ⟨by rfl, rfl⟩) (by assumption) ?_
            (try simp only [Act.put, pu1, pu2, pu3, pu4, pu5, pu6])
            refine wpAnyH_take (i := 11) (v := undef) rfl (by kernel_rfl) (by kernel_rfl) (by kernel_rfl) (fun _ _ _ h => h) (.inr ⟨by rfl, rfl⟩) (by assumption) ?_
            (try simp only [Act.put, pu1, pu2, pu3, pu4, pu5, pu6])
            refine wpAnyH_take (i := 12) (v := undef) rfl (by kernel_rfl) (by kernel_rfl) (by kernel_rfl) (fun _ _ _ h => h) (.inr ⟨by rfl, rfl⟩) (by assumption) ?_
            (try simp only [Act.put, pu1, pu2, pu3, pu4, pu5, pu6])
            refine wpAnyH_take (i := 13) (v := undef) rfl (by kernel_rfl) (by kernel_rfl) (by kernel_rfl) (fun _ _ _ h => h) (.inr ⟨by rfl, rfl⟩) (by assumption) ?_
            (try simp only [Act.put, pu1, pu2, pu3, pu4, pu5, pu6])
            refine wpAnyH_take (i := 14) (v := undef) rfl (by kernel_rfl) (by kernel_rfl) (by kernel_rfl) (fun _ _ _ h => h) (.inr ⟨by rfl, rfl⟩) (by assumption) ?_
            (try simp only [Act.put, pu1, pu2, pu3, pu4, pu5, pu6])
            refine wpAnyH_take (i := 15) (v := undef) rfl (by kernel_rfl) (by kernel_rfl) (by kernel_rfl) (fun _ _ _ h => h) (.inr ⟨by rfl, rfl⟩) (by assumption) ?_
            (try simp only [Act.put, pu1, pu2, pu3, pu4, pu5, pu6])
            refine wpAnyH_take (i := 16) (v := undef) rfl (by kernel_rfl) (by kernel_rfl) (by kernel_rfl) (fun _ _ _ h => h) (.inr ⟨by rfl, rfl⟩) (by assumption) ?_
            (try simp only [Act.put, pu1, pu2, pu3, pu4, pu5, pu6])
            refine wpAnyH_take (i := 17) (v := undef) rfl (by kernel_rfl) (by kernel_rfl) (by kernel_rfl) (fun _ _ _ h => h) (.inr ⟨by rfl, rfl⟩) (by assumption) ?_
            (try simp only [Act.put, pu1, pu2, pu3, pu4, pu5, pu6])
            refine wpAnyH_take (i := 18) (v := ?vf18) rfl (by kernel_rfl) (by kernel_rfl) (by kernel_rfl) (fun _ _ _ h => h) (.inl ⟨by rfl, ?hyf18⟩) (by assumption) ?restf18
            case hyf18 => (intro w hSw; (try dsimp only at hSw); go_simp; first | done | with_reducible rfl)
            (try simp only [Act.put, pu1, pu2, pu3, pu4, pu5, pu6])
            refine wpAnyH_done (by kernel_rfl) ?_ _
            go_wp2_with fail
            go_ret
            exact ⟨ret_int hfin.out.symm, hbW.drew.trans (hb1.mono hbW.size)⟩
          | true =>
            simp only [hno] at hname
            have hnameH := Lib.hid hname
            clear hname
            by_cases hk0 : k = 0
            · have hbad := Lib.hid (badName_zero hk0 hpH.out hno)
              have hkz : ((k : Nat) : Int) ≤ 0 := by omega
              have hkd : decide ((0 : Nat) < k) = false := by simp; omega
              clear hk0 hno
              refine wp_region_held_drew (S := (fun w' => w'.cell? ⟨wr.heap.size, 0, none⟩ = some (.string s))) (by kernel_rfl) ?_ (fun hHeld => ?_)
              · exact hB0
              refine wpAnyH_take (i := 0) (v := ?vz0) rfl (by kernel_rfl) (by kernel_rfl) (by kernel_rfl) (fun _ _ _ h => h) (.inl ⟨by rfl, ?hyz0⟩) (by assumption) ?restz0
              case hyz0 => (intro w hSw; (try dsimp only at hSw); go_simp; first | done | with_reducible rfl)
              (try simp only [Act.put, pu1, pu2, pu3, pu4, pu5, pu6])
              refine wpAnyH_take (i := 1) (v := ?vz1) rfl (by kernel_rfl) (by kernel_rfl) (by kernel_rfl) (fun _ _ _ h => h) (.inl ⟨by rfl, ?hyz1⟩) (by assumption) ?restz1
              case hyz1 => (intro w hSw; (try dsimp only at hSw); go_simp; first | done | with_reducible rfl)
              (try simp only [Act.put, pu1, pu2, pu3, pu4, pu5, pu6])
              refine wpAnyH_ready (rs := [2]) (by kernel_rfl) (by simp) ?_
              refine AllReadyH.cons rfl (fun K hK => ?_) AllReadyH.nil
              rw [if_pos (by rfl)]
              go_simp
              refine (hnameH.out _).mono ?_
              rintro e w' ⟨rfl, hb1⟩
              refine hK.out _ _ ?_ (fun hHeld2 => ?_)
              · exact (hb1.cell hBs).trans hB0
              clear hK K
              (try simp only [Act.put, pu1, pu2, pu3, pu4, pu5, pu6])
              refine wpAnyH_take (i := 3) (v := ?vz3) rfl (by kernel_rfl) (by kernel_rfl) (by kernel_rfl) (fun _ _ _ h => h) (.inl ⟨by rfl, ?hyz3⟩) (by assumption) ?restz3
              case hyz3 => (intro w hSw; (try dsimp only at hSw); go_simp; first | done | with_reducible rfl)
              (try simp only [Act.put, pu1, pu2, pu3, pu4, pu5, pu6])
              refine wpAnyH_take (i := 4) (v := ?vz4) rfl (by kernel_rfl) (by kernel_rfl) (by kernel_rfl) (fun _ _ _ h => h) (.inl ⟨by rfl, ?hyz4⟩) (by assumption) ?restz4
              case hyz4 => (intro w hSw; (try dsimp only at hSw); go_simp; first | done | with_reducible rfl)
              (try simp only [Act.put, pu1, pu2, pu3, pu4, pu5, pu6])
              refine wpAnyH_take (i := 5) (v := ?vz5) rfl (by kernel_rfl) (by kernel_rfl) (by kernel_rfl) (fun _ _ _ h => h) (.inl ⟨by rfl, ?hyz5⟩) (by assumption) ?restz5
              case hyz5 => (intro w hSw; (try dsimp only at hSw); go_simp; first | done | with_reducible rfl)
              (try simp only [Act.put, pu1, pu2, pu3, pu4, pu5, pu6])
              refine wpAnyH_take (i := 6) (v := ?vz6) rfl (by kernel_rfl) (by kernel_rfl) (by kernel_rfl) (fun _ _ _ h => h) (.inl ⟨by rfl, ?hyz6⟩) (by assumption) ?restz6
              case hyz6 => (intro w hSw; (try dsimp only at hSw); go_simp; first | done | with_reducible rfl)
              (try simp only [Act.put, pu1, pu2, pu3, pu4, pu5, pu6])
              refine wpAnyH_take (i := 7) (v := ?vz7) rfl (by kernel_rfl) (by kernel_rfl) (by kernel_rfl) (fun _ _ _ h => h) (.inl ⟨by rfl, ?hyz7⟩) (by assumption) ?restz7
              case hyz7 => (intro w hSw; (try dsimp only at hSw); go_simp; first | done | with_reducible rfl)
              (try simp only [Act.put, pu1, pu2, pu3, pu4, pu5, pu6])
              refine wpAnyH_take (i := 8) (v := undef) rfl (by kernel_rfl) (by kernel_rfl) (by kernel_rfl) (fun _ _ _ h => h) (.inr ⟨by rfl, rfl⟩) (by assumption) ?_
              (try simp only [Act.put, pu1, pu2, pu3, pu4, pu5, pu6])
              refine wpAnyH_take (i := 9) (v := undef) rfl (by kernel_rfl) (by kernel_rfl) (by kernel_rfl) (fun _ _ _ h => h) (.inr ⟨by rfl, rfl⟩) (by assumption) ?_
              (try simp only [Act.put, pu1, pu2, pu3, pu4, pu5, pu6])
              refine wpAnyH_take (i := 10) (v := undef) rfl (by kernel_rfl) (by kernel_rfl) (by kernel_rfl) (fun _ _ _ h => h) (.inr ⟨by rfl, rfl⟩) (by assumption) ?_
              (try simp only [Act.put, pu1, pu2, pu3, pu4, pu5, pu6])
              refine wpAnyH_take (i := 11) (v := undef) rfl (by kernel_rfl) (by kernel_rfl) (by kernel_rfl) (fun _ _ _ h => h) (.inr ⟨by rfl, rfl⟩) (by assumption) ?_
              (try simp only [Act.put, pu1, pu2, pu3, pu4, pu5, pu6])
              refine wpAnyH_take (i := 12) (v := undef) rfl (by kernel_rfl) (by kernel_rfl) (by kernel_rfl) (fun _ _ _ h => h) (.inr ⟨by rfl, rfl⟩) (by assumption) ?_
              (try simp only [Act.put, pu1, pu2, pu3, pu4, pu5, pu6])
              refine wpAnyH_take (i := 13) (v := undef) rfl (by kernel_rfl) (by kernel_rfl) (by kernel_rfl) (fun _ _ _ h => h) (.inr ⟨by rfl, rfl⟩) (by assumption) ?_
              (try simp only [Act.put, pu1, pu2, pu3, pu4, pu5, pu6])
              refine wpAnyH_take (i := 14) (v := undef) rfl (by kernel_rfl) (by kernel_rfl) (by kernel_rfl) (fun _ _ _ h => h) (.inr ⟨by rfl, rfl⟩) (by assumption) ?_
              (try simp only [Act.put, pu1, pu2, pu3, pu4, pu5, pu6])
              refine wpAnyH_take (i := 15) (v := undef) rfl (by kernel_rfl) (by kernel_rfl) (by kernel_rfl) (fun _ _ _ h => h) (.inr ⟨by rfl, rfl⟩) (by assumption) ?_
              (try simp only [Act.put, pu1, pu2, pu3, pu4, pu5, pu6])
              refine wpAnyH_take (i := 16) (v := undef) rfl (by kernel_rfl) (by kernel_rfl) (by kernel_rfl) (fun _ _ _ h => h) (.inr ⟨by rfl, rfl⟩) (by assumption) ?_
              (try simp only [Act.put, pu1, pu2, pu3, pu4, pu5, pu6])
              refine wpAnyH_take (i := 17) (v := ?vz17) rfl (by kernel_rfl) (by kernel_rfl) (by kernel_rfl) (fun _ _ _ h => h) (.inl ⟨by rfl, ?hyz17⟩) (by assumption) ?restz17
              case hyz17 => (intro w hSw; (try dsimp only at hSw); go_simp; first | done | with_reducible rfl)
              (try simp only [Act.put, pu1, pu2, pu3, pu4, pu5, pu6])
              refine wpAnyH_take (i := 18) (v := ?vz18) rfl (by kernel_rfl) (by kernel_rfl) (by kernel_rfl) (fun _ _ _ h => h) (.inl ⟨by rfl, ?hyz18⟩) (by assumption) ?restz18
              case hyz18 => (intro w hSw; (try dsimp only at hSw); go_simp; first | done | with_reducible rfl)
              (try simp only [Act.put, pu1, pu2, pu3, pu4, pu5, pu6])
              refine wpAnyH_done (by kernel_rfl) ?_ _
              go_wp2_with fail
              go_roundw
              case rel => exact ⟨k + 1, by omega, by go_num, all_snoc hpreH hbad.out, hbW.drew.trans (hb1.mono hbW.size)⟩
              case measure => simp [intOf]; omega
            · obtain ⟨j, hj⟩ : ∃ j, k = j + 1 := ⟨k - 1, by omega⟩
              obtain ⟨⟨q, vq⟩, hq⟩ : ∃ p, d[j]? = some p := ⟨_, List.getElem?_eq_getElem (by omega)⟩
              obtain ⟨_, _, eq1, -⟩ := hdat.out j _ hq
              have hbad := Lib.hid (badName_succ hj hpH.out hq hno)
              have hgW : g < W.heap.size := Nat.lt_of_lt_of_le hg hbW.size
              have hBq : W.cell? ⟨g, j * 2, none⟩ = some (.string q) := (hbW.cell (p := ⟨g, j * 2, none⟩) hg).trans ((hcells (j * 2) (by omega)).trans eq1)
              obtain ⟨B, hB⟩ : ∃ B, B = leS s q := ⟨_, rfl⟩
              have hBl := Lib.hid hB
              have hle : (Op.bytesLess s.toList q.toList || s.toList == q.toList) = B := hB.symm
              clear hB
              have hw1 : IntKind.i64.wrap ((k : Int) - 1) = (j : Int) := by rw [IntWalk.i64_in _ (by omega)]; omega
              have hj0 : (0 : Int) ≤ (j : Int) := by omega
              have hj1 : (j : Int) < ((d.length : Nat) : Int) := by omega
              have hkd : decide ((0 : Nat) < k) = true := by simp; omega
              clear hk0 hno hq eq1 hj
              refine wp_region_held_drew (S := (fun w' => w'.cell? ⟨wr.heap.size, 0, none⟩ = some (.string s) ∧ w'.cell? ⟨g, j * 2, none⟩ = some (.string q))) (by kernel_rfl) ?_ (fun hHeld => ?_)
              · exact ⟨hB0, hBq⟩
              refine wpAnyH_take (i := 0) (v := ?vq0) rfl (by kernel_rfl) (by kernel_rfl) (by kernel_rfl) (fun _ _ _ h => h) (.inl ⟨by rfl, ?hyq0⟩) (by assumption) ?restq0
              case hyq0 => (intro w hSw; (try dsimp only at hSw); go_simp; first | done | with_reducible rfl)
              (try simp only [Act.put, pu1, pu2, pu3, pu4, pu5, pu6])
              refine wpAnyH_take (i := 1) (v := ?vq1) rfl (by kernel_rfl) (by kernel_rfl) (by kernel_rfl) (fun _ _ _ h => h) (.inl ⟨by rfl, ?hyq1⟩) (by assumption) ?restq1
              case hyq1 => (intro w hSw; (try dsimp only at hSw); go_simp; first | done | with_reducible rfl)
              (try simp only [Act.put, pu1, pu2, pu3, pu4, pu5, pu6])
              refine wpAnyH_ready (rs := [2]) (by kernel_rfl) (by simp) ?_
              refine AllReadyH.cons rfl (fun K hK => ?_) AllReadyH.nil
              rw [if_pos (by rfl)]
              go_simp
              refine (hnameH.out _).mono ?_
              rintro e w' ⟨rfl, hb1⟩
              refine hK.out _ _ ?_ (fun hHeld2 => ?_)
              · exact ⟨(hb1.cell hBs).trans hB0, (hb1.cell hgW).trans hBq⟩
              clear hK K
              (try simp only [Act.put, pu1, pu2, pu3, pu4, pu5, pu6])
              refine wpAnyH_take (i := 3) (v := ?vq3) rfl (by kernel_rfl) (by kernel_rfl) (by kernel_rfl) (fun _ _ _ h => h) (.inl ⟨by rfl, ?hyq3⟩) (by assumption) ?restq3
              case hyq3 => (intro w hSw; (try dsimp only at hSw); go_simp; first | done | with_reducible rfl)
              (try simp only [Act.put, pu1, pu2, pu3, pu4, pu5, pu6])
              refine wpAnyH_take (i := 4) (v := ?vq4) rfl (by kernel_rfl) (by kernel_rfl) (by kernel_rfl) (fun _ _ _ h => h) (.inl ⟨by rfl, ?hyq4⟩) (by assumption) ?restq4
              case hyq4 => (intro w hSw; (try dsimp only at hSw); go_simp; first | done | with_reducible rfl)
              (try simp only [Act.put, pu1, pu2, pu3, pu4, pu5, pu6])
              refine wpAnyH_take (i := 5) (v := ?vq5) rfl (by kernel_rfl) (by kernel_rfl) (by kernel_rfl) (fun _ _ _ h => h) (.inl ⟨by rfl, ?hyq5⟩) (by assumption) ?restq5
              case hyq5 => (intro w hSw; (try dsimp only at hSw); go_simp; first | done | with_reducible rfl)
              (try simp only [Act.put, pu1, pu2, pu3, pu4, pu5, pu6])
              refine wpAnyH_take (i := 6) (v := ?vq6) rfl (by kernel_rfl) (by kernel_rfl) (by kernel_rfl) (fun _ _ _ h => h) (.inl ⟨by rfl, ?hyq6⟩) (by assumption) ?restq6
              case hyq6 => (intro w hSw; (try dsimp only at hSw); go_simp; first | done | with_reducible rfl)
              (try simp only [Act.put, pu1, pu2, pu3, pu4, pu5, pu6])
              refine wpAnyH_take (i := 7) (v := ?vq7) rfl (by kernel_rfl) (by kernel_rfl) (by kernel_rfl) (fun _ _ _ h => h) (.inl ⟨by rfl, ?hyq7⟩) (by assumption) ?restq7
              case hyq7 => (intro w hSw; (try dsimp only at hSw); go_simp; first | done | with_reducible rfl)
              (try simp only [Act.put, pu1, pu2, pu3, pu4, pu5, pu6])
              refine wpAnyH_take (i := 8) (v := ?vq8) rfl (by kernel_rfl) (by kernel_rfl) (by kernel_rfl) (fun _ _ _ h => h) (.inl ⟨by rfl, ?hyq8⟩) (by assumption) ?restq8
              case hyq8 => (intro w hSw; (try dsimp only at hSw); go_simp; first | done | with_reducible rfl)
              (try simp only [Act.put, pu1, pu2, pu3, pu4, pu5, pu6])
              refine wpAnyH_take (i := 9) (v := ?vq9) rfl (by kernel_rfl) (by kernel_rfl) (by kernel_rfl) (fun _ _ _ h => h) (.inl ⟨by rfl, ?hyq9⟩) (by assumption) ?restq9
              case hyq9 => (intro w hSw; (try dsimp only at hSw); go_simp; first | done | with_reducible rfl)
              (try simp only [Act.put, pu1, pu2, pu3, pu4, pu5, pu6])
              refine wpAnyH_take (i := 10) (v := ?vq10) rfl (by kernel_rfl) (by kernel_rfl) (by kernel_rfl) (fun _ _ _ h => h) (.inl ⟨by rfl, ?hyq10⟩) (by assumption) ?restq10
              case hyq10 => (intro w hSw; (try dsimp only at hSw); go_simp; first | done | with_reducible rfl)
              (try simp only [Act.put, pu1, pu2, pu3, pu4, pu5, pu6])
              refine wpAnyH_take (i := 11) (v := ?vq11) rfl (by kernel_rfl) (by kernel_rfl) (by kernel_rfl) (fun _ _ _ h => h) (.inl ⟨by rfl, ?hyq11⟩) (by assumption) ?restq11
              case hyq11 => (intro w hSw; (try dsimp only at hSw); go_simp; first | done | with_reducible rfl)
              (try simp only [Act.put, pu1, pu2, pu3, pu4, pu5, pu6])
              refine wpAnyH_take (i := 12) (v := ?vq12) rfl (by kernel_rfl) (by kernel_rfl) (by kernel_rfl) (fun _ _ _ h => h) (.inl ⟨by rfl, ?hyq12⟩) (by assumption) ?restq12
              case hyq12 => (intro w hSw; (try dsimp only at hSw); go_simp; first | done | with_reducible rfl)
              (try simp only [Act.put, pu1, pu2, pu3, pu4, pu5, pu6])
              refine wpAnyH_take (i := 13) (v := ?vq13) rfl (by kernel_rfl) (by kernel_rfl) (by kernel_rfl) (fun _ _ _ h => h) (.inl ⟨by rfl, ?hyq13⟩) (by assumption) ?restq13
              case hyq13 => (intro w hSw; (try dsimp only at hSw); go_simp; first | done | with_reducible rfl)
              (try simp only [Act.put, pu1, pu2, pu3, pu4, pu5, pu6])
              refine wpAnyH_take (i := 14) (v := ?vq14) rfl (by kernel_rfl) (by kernel_rfl) (by kernel_rfl) (fun _ _ _ h => h) (.inl ⟨by rfl, ?hyq14⟩) (by assumption) ?restq14
              case hyq14 => (intro w hSw; (try dsimp only at hSw); go_simp; first | done | with_reducible rfl)
              (try simp only [Act.put, pu1, pu2, pu3, pu4, pu5, pu6])
              refine wpAnyH_take (i := 15) (v := ?vq15) rfl (by kernel_rfl) (by kernel_rfl) (by kernel_rfl) (fun _ _ _ h => h) (.inl ⟨by rfl, ?hyq15⟩) (by assumption) ?restq15
              case hyq15 => (intro w hSw; (try dsimp only at hSw); go_simp; first | done | with_reducible rfl)
              (try simp only [Act.put, pu1, pu2, pu3, pu4, pu5, pu6])
              refine wpAnyH_take (i := 16) (v := ?vq16) rfl (by kernel_rfl) (by kernel_rfl) (by kernel_rfl) (fun _ _ _ h => h) (.inl ⟨by rfl, ?hyq16⟩) (by assumption) ?restq16
              case hyq16 => (intro w hSw; (try dsimp only at hSw); go_simp; first | done | with_reducible rfl)
              (try simp only [Act.put, pu1, pu2, pu3, pu4, pu5, pu6])
              refine wpAnyH_take (i := 17) (v := ?vq17) rfl (by kernel_rfl) (by kernel_rfl) (by kernel_rfl) (fun _ _ _ h => h) (.inl ⟨by rfl, ?hyq17⟩) (by assumption) ?restq17
              case hyq17 => (intro w hSw; (try dsimp only at hSw); go_simp; first | done | with_reducible rfl)
              (try simp only [Act.put, pu1, pu2, pu3, pu4, pu5, pu6])
              refine wpAnyH_take (i := 18) (v := ?vq18) rfl (by kernel_rfl) (by kernel_rfl) (by kernel_rfl) (fun _ _ _ h => h) (.inl ⟨by rfl, ?hyq18⟩) (by assumption) ?restq18
              case hyq18 => (intro w hSw; (try dsimp only at hSw); go_simp; first | done | with_reducible rfl)
              (try simp only [Act.put, pu1, pu2, pu3, pu4, pu5, pu6])
              refine wpAnyH_done (by kernel_rfl) ?_ _
              go_wp2_with fail
              · rename_i hB
                go_ret
                exact ⟨ret_int (hbadF.out k hlt (hbad.out.trans (hBl.out.symm.trans hB))).symm, hbW.drew.trans (hb1.mono hbW.size)⟩
              · rename_i hB
                go_roundw
                case rel => exact ⟨k + 1, by omega, by go_num, all_snoc hpreH (hbad.out.trans (hBl.out.symm.trans hB)), hbW.drew.trans (hb1.mono hbW.size)⟩
                case measure => simp [intOf]; omega
      · obtain rfl : k = d.length := by omega
        go_wp2_with fail
        go_ret
        exact ⟨ret_int (hokF.out hpreH.out).symm, hb⟩
set_option maxRecDepth 100000 in
theorem own_overD {w : World} {v : Val} {x : Value} {fs : List Nat} (h : VRep w v x fs) (n deep : Int) (W : World) (ho : 16384 ≤ n ∨ 64 < deep) :
    Calls Try.prog 224 #[x, .int .i64 n, .int .i64 deep] W fun e w' => e = .returned (.int .i64 (ownF v n deep)) ∧ BelowD W.heap.size W w' := by
  have hk := Lib.hid (kind_val h)
  have hf : ownF v n deep = (if kindV v = 11 then 7 else if kindV v = 0 then 6 else 2) := if_pos ho
  rw [hf]
  clear h hf
  generalize kindV v = kv at *
  by_cases hn : 16384 ≤ n
  · clear ho
    go_enter Try.func224, Try.ntmps224
    go_wp2_with (go_at_call 227; refine (hk.out _).mono ?_; rintro e w' ⟨rfl, rfl⟩)
    all_goals go_ret
    all_goals exact ⟨ret_int (by simp_all), BelowD.refl _ _⟩
  · have hd : 64 < deep := by omega
    clear ho
    go_enter Try.func224, Try.ntmps224
    go_wp2_with (go_at_call 227; refine (hk.out _).mono ?_; rintro e w' ⟨rfl, rfl⟩)
    all_goals go_ret
    all_goals exact ⟨ret_int (by simp_all), BelowD.refl _ _⟩

set_option maxRecDepth 100000 in
theorem own_underD {w : World} {v : Val} {x : Value} {fs : List Nat} (h : VRep w v x fs) (n deep : Int) (h1 : n < 16384) (h2 : deep ≤ 64) :
    Calls Try.prog 224 #[x, .int .i64 n, .int .i64 deep] w fun e w' => e = .returned (.int .i64 (ownIn v)) ∧ BelowD w.heap.size w w' := by
  have hkind := Lib.hid (kind_val h)
  cases v <;> simp only [VRep] at h
  case nil =>
    obtain ⟨rfl, _⟩ := h
    go_enter Try.func224, Try.ntmps224
    go_wp2_with ((go_at_call 227; refine (hkind.out _).mono ?_; rintro e w' ⟨rfl, rfl⟩))
    go_ret
    exact ⟨rfl, BelowD.refl _ _⟩
  case bool =>
    obtain ⟨rfl, _⟩ := h
    go_enter Try.func224, Try.ntmps224
    go_wp2_with ((go_at_call 227; refine (hkind.out _).mono ?_; rintro e w' ⟨rfl, rfl⟩))
    go_ret
    exact ⟨rfl, BelowD.refl _ _⟩
  case int =>
    obtain ⟨rfl, _⟩ := h
    go_enter Try.func224, Try.ntmps224
    go_wp2_with ((go_at_call 227; refine (hkind.out _).mono ?_; rintro e w' ⟨rfl, rfl⟩))
    go_ret
    exact ⟨rfl, BelowD.refl _ _⟩
  case float =>
    obtain ⟨rfl, _⟩ := h
    go_enter Try.func224, Try.ntmps224
    go_wp2_with ((go_at_call 227; refine (hkind.out _).mono ?_; rintro e w' ⟨rfl, rfl⟩))
    go_ret
    exact ⟨rfl, BelowD.refl _ _⟩
  case ref =>
    obtain ⟨rfl, _⟩ := h
    go_enter Try.func224, Try.ntmps224
    go_wp2_with ((go_at_call 227; refine (hkind.out _).mono ?_; rintro e w' ⟨rfl, rfl⟩))
    go_ret
    exact ⟨rfl, BelowD.refl _ _⟩
  case text s =>
    obtain ⟨rfl, hs, _⟩ := h
    unfold maxLen at hs
    go_enter Try.func224, Try.ntmps224
    go_wp2_with (fail)
    all_goals go_ret
    all_goals exact ⟨ret_int (by simp only [ownIn]; first | rw [if_pos (by omega)] | rw [if_neg (by omega)]), BelowD.refl _ _⟩
  case bytes l =>
    obtain ⟨sv, rfl, ho, _⟩ := h
    obtain ⟨a, cap, rfl, hc, hm, -⟩ := ownsRow_form ho
    unfold maxLen at hm
    go_enter Try.func224, Try.ntmps224
    go_wp2_with (fail)
    all_goals go_ret
    all_goals exact ⟨ret_int (by simp only [ownIn]; first | rw [if_pos (by omega)] | rw [if_neg (by omega)]), BelowD.refl _ _⟩
  case list l =>
    obtain ⟨sv, _, _, rfl, ho, _⟩ := h
    obtain ⟨a, cap, rfl, hc, hm, -⟩ := ownsRow_form ho
    unfold maxLen at hm
    go_enter Try.func224, Try.ntmps224
    go_wp2_with (fail)
    all_goals go_ret
    all_goals exact ⟨ret_int (by simp only [ownIn]; first | rw [if_pos (by omega)] | rw [if_neg (by omega)]), BelowD.refl _ _⟩
  case dict d =>
    obtain ⟨sv, xs, gs, rfl, ho, hd, _⟩ := h
    have hf := Lib.hid (fields_anyD d sv xs gs w ho hd)
    clear ho hd
    go_enter Try.func224, Try.ntmps224
    go_wp2_with ((go_at_call 260; refine hf.out.mono ?_; rintro e w' ⟨rfl, hb⟩))
    go_ret
    exact ⟨rfl, hb⟩
  case nothing =>
    obtain ⟨rfl, _⟩ := h
    go_enter Try.func224, Try.ntmps224
    go_wp2_with ((go_at_call 227; refine (hkind.out _).mono ?_; rintro e w' ⟨rfl, rfl⟩))
    go_ret
    exact ⟨rfl, BelowD.refl _ _⟩
  case alien u =>
    obtain ⟨y, rfl, hk, _⟩ := h
    obtain ⟨k1, k2, k3, k4, k5, k6, k7, k8, k9⟩ := kinded_no hk
    clear hk
    go_enter Try.func224, Try.ntmps224
    go_wp2_with ((go_at_call 227; refine (hkind.out _).mono ?_; rintro e w' ⟨rfl, rfl⟩))
    go_ret
    exact ⟨rfl, BelowD.refl _ _⟩
  case record c m d =>
    obtain ⟨b, sv, xs, gs, rfl, hr, hc, hm, ho, hd, _⟩ := h
    obtain ⟨r0, r1, r2, hbl, -⟩ := recCells hr
    have hname := Lib.hid (name_anyD c w)
    have hfl := Lib.hid (fun (w' : World) (hb : BelowD w.heap.size w w') => fields_anyD d sv xs gs w' (ownsRow_keep ho (fun k hk => hb.block k (ownsRow_lt ho k hk).2)) (DsRep.keep d xs gs hd (fun k hk => hb.block k (DsRep.lt d xs gs hd k hk))))
    clear hr ho hd hkind
    cases hno : nameOk c with
    | false =>
      have hname2 := Lib.hid (by have := hname.out; rw [hno] at this; exact this)
      clear hname
      go_enter Try.func224, Try.ntmps224
      go_wp2_with ((go_at_call 261; refine hname2.out.mono ?_; rintro e w' ⟨rfl, hb⟩))
      go_ret
      exact ⟨ret_int (by simp [ownIn, hno]), hb⟩
    | true =>
      have hname2 := Lib.hid (by have := hname.out; rw [hno] at this; exact this)
      clear hname
      go_enter Try.func224, Try.ntmps224
      go_wp2_with (first | (go_at_call 261; refine hname2.out.mono ?_; rintro e w' ⟨rfl, hb⟩; obtain ⟨q0, q1, q2⟩ : w'.cell? ⟨b, 0, none⟩ = some (.string c) ∧ w'.cell? ⟨b, 1, none⟩ = some (.int .i64 m) ∧ w'.cell? ⟨b, 2, none⟩ = some sv := ⟨(hb.cell hbl).trans r0, (hb.cell hbl).trans r1, (hb.cell hbl).trans r2⟩; clear r0 r1 r2) | (go_at_call 260; refine (hfl.out _ (by assumption)).mono ?_; rintro e w'' ⟨rfl, hb2⟩))
      all_goals go_ret
      all_goals first
        | exact ⟨ret_int (by simp only [ownIn, hno]; rw [if_neg (by decide), if_pos (by omega)]), hb⟩
        | exact ⟨ret_int (by simp only [ownIn, hno]; rw [if_neg (by decide), if_neg (by omega)]), hb.trans (hb2.mono hb.size)⟩

theorem own_anyD {w : World} {v : Val} {x : Value} {fs : List Nat} (h : VRep w v x fs) (n deep : Int) :
    Calls Try.prog 224 #[x, .int .i64 n, .int .i64 deep] w fun e w' => e = .returned (.int .i64 (ownF v n deep)) ∧ BelowD w.heap.size w w' := by
  by_cases ho : 16384 ≤ n ∨ 64 < deep
  · exact own_overD h n deep w ho
  · have : ownF v n deep = ownIn v := if_neg ho
    rw [this]
    exact own_underD h n deep (by omega) (by omega)
/-- The contract of (*count).part at a value. -/
def PartSaidD (v : Val) : Prop := ∀ (x : Value) (fs : List Nat) (w : World) (cb : Nat) (c : Cnt) (deep : Int), VRep w v x fs → cb ∉ fs → w.heap[cb]? = some (cntObj c) → 0 ≤ c.n → c.n ≤ 16384 → 1 ≤ deep → deep ≤ 65 →
  Calls Try.prog 184 #[.pointer (some ⟨cb, 0, none⟩), x, .int .i64 deep] w fun e w' => e = .returned (.bool (partF v deep c).1) ∧ w'.heap[cb]? = some (cntObj (partF v deep c).2) ∧ ButD (· = cb) w w'

set_option maxRecDepth 100000 in
set_option maxHeartbeats 800000 in
theorem all_ofD (d : List (ByteArray × Val)) (ih : ∀ u ∈ d.map (·.2), PartSaidD u) (sv : Value) (xs : List Value) (gs : List Nat) (w : World) (cb : Nat) (c : Cnt) (deep : Int)
    (ho : w.ownsRow 0 220 2 sv d.length xs) (hd : DsRep w d xs gs) (hcb : cb ∉ ownL sv ++ gs) (hc : w.heap[cb]? = some (cntObj c)) (h0 : 0 ≤ c.n) (h1 : c.n ≤ 16384) (h2 : 0 ≤ deep) (h3 : deep ≤ 64) :
    Calls Try.prog 225 #[.pointer (some ⟨cb, 0, none⟩), sv, .int .i64 deep] w fun e w' => e = .returned (.bool (dpartsF d (deep + 1) c).1) ∧ w'.heap[cb]? = some (cntObj (dpartsF d (deep + 1) c).2) ∧ ButD (· = cb) w w' := by
  obtain ⟨a, cap, rfl, hcap, hmax, hlen, hform⟩ := ownsRow_form ho
  unfold maxLen at hmax
  have hdat := Lib.hid (DsRep.at d xs gs hd)
  have hgs := Lib.hid (DsRep.lt d xs gs hd)
  have hformH := Lib.hid hform
  have ihH := Lib.hid ih
  have hcbH := Lib.hid hcb
  have hcH := Lib.hid hc
  obtain ⟨ob, hob⟩ : ∃ ob, ob = dpartsF d (deep + 1) c := ⟨_, rfl⟩
  have hobH := Lib.hid hob
  clear ho hd hform ih hcb hlen hc hob
  go_enter Try.func225, Try.ntmps225
  go_wp2
  go_loopw [11] (fun i wr => ∃ (k : Nat) (ck : Cnt), k ≤ d.length ∧ i = .int .i64 k ∧ dpartsF (d.drop k) (deep + 1) ck = dpartsF d (deep + 1) c ∧ 0 ≤ ck.n ∧ ck.n ≤ 16384 ∧ wr.heap[cb]? = some (cntObj ck) ∧ ButD (· = cb) w wr) (fun i _ => d.length - (intOf i).toNat)
  case atStart => exact ⟨0, c, Nat.zero_le _, rfl, by simp, h0, h1, hcH.out, ButD.refl _ _⟩
  case round =>
    obtain ⟨k, ck, hk, rfl, heq, hn0, hn1, hck, hb⟩ := hrel
    have heqH := Lib.hid heq
    have hckH := Lib.hid hck
    clear heq hck
    by_cases hlt : k < d.length
    · rcases hformH.out with ⟨-, h0', -⟩ | ⟨g, rfl, -, hg, hown, hcells⟩
      · omega
      · obtain ⟨⟨s, v⟩, hp⟩ : ∃ p, d[k]? = some p := ⟨_, List.getElem?_eq_getElem hlt⟩
        obtain ⟨x, f, e1, e2, e3, e4, -⟩ := hdat.out k _ hp
        have hx1 := e3.one
        have hgc : ¬ g = cb := fun e => hcbH.out (by rw [hown, e]; exact List.mem_append_left _ (List.mem_singleton.2 rfl))
        have hfc : ∀ b ∈ f, ¬ b = cb := fun b hbf e => hcbH.out (List.mem_append_right _ (e ▸ e4 b hbf))
        have hc0 := (hb.cell (p := ⟨g, k * 2, none⟩) hg hgc).trans ((hcells (k * 2) (by omega)).trans e1)
        have hc1 := (hb.cell (p := ⟨g, k * 2 + 1, none⟩) hg hgc).trans ((hcells (k * 2 + 1) (by omega)).trans e2)
        have hdrop := Lib.hid (dparts_drop hp (deep + 1) ck)
        have hrep := Lib.hid (VRep.butD e3 hb hfc)
        have hih := Lib.hid (ihH.out v (List.mem_map.2 ⟨_, hp |> List.mem_of_getElem?, rfl⟩) x f)
        have hcbs := Lib.hid (fun (e : cb ∈ f) => hfc cb e rfl)
        have hcblt := (Array.getElem?_eq_some_iff.1 hckH.out).1
        have hnb := Lib.hid (partF_n v (deep + 1) ck hn0 hn1)
        clear e1 e2 e3 e4 hcells hp hgc hfc
        cases hr : partF v (deep + 1) ck with
        | mk ok c' =>
        have hrH := Lib.hid hr
        clear hr
        cases ok with
        | true =>
          go_wp2_with (go_at_call 184; refine (hih.out _ cb ck _ (VRep.butD hrep.out (ButD.alloc (ButD.refl (fun _ => False) _) _) (fun _ _ f => f)) hcbs.out ((Below.heap_alloc _ _ _ hcblt).trans hckH.out) hn0 hn1 (by omega) (by omega)).mono ?_; rw [hrH.out]; rintro e w' ⟨rfl, hc', hb'⟩)
          have hnb' := hnb.out
          rw [hrH.out] at hnb'
          go_roundw
          case rel => exact ⟨k + 1, c', by omega, by go_num, by rw [← heqH.out, hdrop.out, hrH.out], hnb'.1, hnb'.2, hc', (hb.alloc _).trans hb'⟩
          case measure => simp [intOf]; omega
        | false =>
          go_wp2_with (go_at_call 184; refine (hih.out _ cb ck _ (VRep.butD hrep.out (ButD.alloc (ButD.refl (fun _ => False) _) _) (fun _ _ f => f)) hcbs.out ((Below.heap_alloc _ _ _ hcblt).trans hckH.out) hn0 hn1 (by omega) (by omega)).mono ?_; rw [hrH.out]; rintro e w' ⟨rfl, hc', hb'⟩)
          have hfin : dpartsF d (deep + 1) c = (false, c') := by rw [← heqH.out, hdrop.out, hrH.out]
          go_ret
          rw [hfin]
          exact ⟨rfl, hc', (hb.alloc _).trans hb'⟩
    · obtain rfl : k = d.length := by omega
      have hfin : dpartsF d (deep + 1) c = (true, ck) := by rw [← heqH.out, List.drop_length]; rfl
      have hfinH := Lib.hid hfin
      clear hfin
      go_wp2
      go_ret
      rw [hfinH.out]
      exact ⟨rfl, hckH.out, hb⟩

set_option maxRecDepth 100000 in
theorem part_badD (v : Val) (x : Value) (fs : List Nat) (w : World) (cb : Nat) (c : Cnt) (deep : Int) (h : VRep w v x fs) (hc : w.heap[cb]? = some (cntObj c)) (how : ¬ ownF v c.n deep = 0) :
    Calls Try.prog 184 #[.pointer (some ⟨cb, 0, none⟩), x, .int .i64 deep] w fun e w' => e = .returned (.bool (partF v deep c).1) ∧ w'.heap[cb]? = some (cntObj (partF v deep c).2) ∧ ButD (· = cb) w w' := by
  rw [partF_bad how]
  obtain ⟨c0, c1, c2, hlt, hfz⟩ := cntCells hc
  have hown := Lib.hid (own_anyD h c.n deep)
  have hcH := Lib.hid hc
  have hfzH := Lib.hid hfz
  generalize ownF v c.n deep = why at *
  have hne : (why != 0) = true := by simpa using how
  clear h hc hfz how
  go_enter Try.func184, Try.ntmps184
  go_wp2_with (go_at_call 224; refine hown.out.mono ?_; rintro e w1 ⟨rfl, hb⟩; have q2 := (hb.cell (p := ⟨cb, 2, none⟩) hlt).trans c2; have z2 := (hb.frozen (p := ⟨cb, 2, none⟩) hlt).trans (hfzH.out 2); clear c0 c1 c2)
  go_ret
  exact ⟨rfl, setCell_block ((hb.block cb hlt).trans hcH.out) 2 _, ((ButD.refl (· = cb) w).of_below hb (fun i hi h => absurd hi (by omega))).setCell (p := ⟨cb, 2, none⟩) (fun _ => rfl) _⟩

/-- What the first steps leave of the count. -/
theorem part_worldD {w w1 : World} {cb : Nat} {c : Cnt} (hb : BelowD w.heap.size w w1) (hc : w.heap[cb]? = some (cntObj c)) (hlt : cb < w.heap.size) (a b : Int) :
    (((w1.setCell ⟨cb, 2, none⟩ (.int .i64 0)).setCell ⟨cb, 0, none⟩ (.int .i64 a)).setCell ⟨cb, 1, none⟩ (.int .i64 b)).heap[cb]? = some (cntObj ⟨a, b, 0⟩) ∧
    ButD (· = cb) w (((w1.setCell ⟨cb, 2, none⟩ (.int .i64 0)).setCell ⟨cb, 0, none⟩ (.int .i64 a)).setCell ⟨cb, 1, none⟩ (.int .i64 b)) :=
  ⟨setCell_block (setCell_block (setCell_block ((hb.block cb hlt).trans hc) 2 _) 0 _) 1 _,
   ((((ButD.refl (· = cb) w).of_below hb (fun i hi h => absurd hi (by omega))).setCell (p := ⟨cb, 2, none⟩) (fun _ => rfl) _).setCell (p := ⟨cb, 0, none⟩) (fun _ => rfl) _).setCell (p := ⟨cb, 1, none⟩) (fun _ => rfl) _⟩

set_option maxRecDepth 100000 in
theorem part_nilD  : PartSaidD (.nil) := by
  intro x fs w cb c deep h hcb hc h0 h1 h2 h3
  by_cases how : ownF (.nil) c.n deep = 0
  · obtain ⟨c0, c1, c2, hlt, hfz⟩ := cntCells hc
    have hown0 := own_anyD h c.n deep
    have hn1 := ownF_n how
    have hd1 := ownF_deep how
    have hfin : partF (.nil) deep c = (true, ⟨c.n + 1, max c.dp deep, 0⟩) := by rw [partF]; exact if_pos how
    rw [hfin]
    clear hfin
    rw [how] at hown0
    have hown := Lib.hid hown0
    have hcH := Lib.hid hc
    have hfzH := Lib.hid hfz
    simp only [VRep] at h
    obtain ⟨rfl, _⟩ := h
    clear hc hfz how hown0
    go_enter Try.func184, Try.ntmps184
    go_wp2_with (go_at_call 224; refine hown.out.mono ?_; rintro e w1 ⟨rfl, hb⟩; have q0 := (hb.cell (p := ⟨cb, 0, none⟩) hlt).trans c0; have q1 := (hb.cell (p := ⟨cb, 1, none⟩) hlt).trans c1; have q2 := (hb.cell (p := ⟨cb, 2, none⟩) hlt).trans c2; have z0 := (hb.frozen (p := ⟨cb, 0, none⟩) hlt).trans (hfzH.out 0); have z1 := (hb.frozen (p := ⟨cb, 1, none⟩) hlt).trans (hfzH.out 1); have z2 := (hb.frozen (p := ⟨cb, 2, none⟩) hlt).trans (hfzH.out 2); clear c0 c1 c2)
    go_ret
    exact ⟨rfl, part_worldD hb hcH.out hlt _ _⟩
  · exact part_badD _ _ _ _ _ _ _ h hc how

set_option maxRecDepth 100000 in
theorem part_boolD (b : Bool) : PartSaidD (.bool b) := by
  intro x fs w cb c deep h hcb hc h0 h1 h2 h3
  by_cases how : ownF (.bool b) c.n deep = 0
  · obtain ⟨c0, c1, c2, hlt, hfz⟩ := cntCells hc
    have hown0 := own_anyD h c.n deep
    have hn1 := ownF_n how
    have hd1 := ownF_deep how
    have hfin : partF (.bool b) deep c = (true, ⟨c.n + 1, max c.dp deep, 0⟩) := by rw [partF]; exact if_pos how
    rw [hfin]
    clear hfin
    rw [how] at hown0
    have hown := Lib.hid hown0
    have hcH := Lib.hid hc
    have hfzH := Lib.hid hfz
    simp only [VRep] at h
    obtain ⟨rfl, _⟩ := h
    clear hc hfz how hown0
    go_enter Try.func184, Try.ntmps184
    go_wp2_with (go_at_call 224; refine hown.out.mono ?_; rintro e w1 ⟨rfl, hb⟩; have q0 := (hb.cell (p := ⟨cb, 0, none⟩) hlt).trans c0; have q1 := (hb.cell (p := ⟨cb, 1, none⟩) hlt).trans c1; have q2 := (hb.cell (p := ⟨cb, 2, none⟩) hlt).trans c2; have z0 := (hb.frozen (p := ⟨cb, 0, none⟩) hlt).trans (hfzH.out 0); have z1 := (hb.frozen (p := ⟨cb, 1, none⟩) hlt).trans (hfzH.out 1); have z2 := (hb.frozen (p := ⟨cb, 2, none⟩) hlt).trans (hfzH.out 2); clear c0 c1 c2)
    go_ret
    exact ⟨rfl, part_worldD hb hcH.out hlt _ _⟩
  · exact part_badD _ _ _ _ _ _ _ h hc how

set_option maxRecDepth 100000 in
theorem part_intD (n : Int) : PartSaidD (.int n) := by
  intro x fs w cb c deep h hcb hc h0 h1 h2 h3
  by_cases how : ownF (.int n) c.n deep = 0
  · obtain ⟨c0, c1, c2, hlt, hfz⟩ := cntCells hc
    have hown0 := own_anyD h c.n deep
    have hn1 := ownF_n how
    have hd1 := ownF_deep how
    have hfin : partF (.int n) deep c = (true, ⟨c.n + 1, max c.dp deep, 0⟩) := by rw [partF]; exact if_pos how
    rw [hfin]
    clear hfin
    rw [how] at hown0
    have hown := Lib.hid hown0
    have hcH := Lib.hid hc
    have hfzH := Lib.hid hfz
    simp only [VRep] at h
    obtain ⟨rfl, _⟩ := h
    clear hc hfz how hown0
    go_enter Try.func184, Try.ntmps184
    go_wp2_with (go_at_call 224; refine hown.out.mono ?_; rintro e w1 ⟨rfl, hb⟩; have q0 := (hb.cell (p := ⟨cb, 0, none⟩) hlt).trans c0; have q1 := (hb.cell (p := ⟨cb, 1, none⟩) hlt).trans c1; have q2 := (hb.cell (p := ⟨cb, 2, none⟩) hlt).trans c2; have z0 := (hb.frozen (p := ⟨cb, 0, none⟩) hlt).trans (hfzH.out 0); have z1 := (hb.frozen (p := ⟨cb, 1, none⟩) hlt).trans (hfzH.out 1); have z2 := (hb.frozen (p := ⟨cb, 2, none⟩) hlt).trans (hfzH.out 2); clear c0 c1 c2)
    go_ret
    exact ⟨rfl, part_worldD hb hcH.out hlt _ _⟩
  · exact part_badD _ _ _ _ _ _ _ h hc how

set_option maxRecDepth 100000 in
theorem part_floatD (b : Nat) : PartSaidD (.float b) := by
  intro x fs w cb c deep h hcb hc h0 h1 h2 h3
  by_cases how : ownF (.float b) c.n deep = 0
  · obtain ⟨c0, c1, c2, hlt, hfz⟩ := cntCells hc
    have hown0 := own_anyD h c.n deep
    have hn1 := ownF_n how
    have hd1 := ownF_deep how
    have hfin : partF (.float b) deep c = (true, ⟨c.n + 1, max c.dp deep, 0⟩) := by rw [partF]; exact if_pos how
    rw [hfin]
    clear hfin
    rw [how] at hown0
    have hown := Lib.hid hown0
    have hcH := Lib.hid hc
    have hfzH := Lib.hid hfz
    simp only [VRep] at h
    obtain ⟨rfl, _⟩ := h
    clear hc hfz how hown0
    go_enter Try.func184, Try.ntmps184
    go_wp2_with (go_at_call 224; refine hown.out.mono ?_; rintro e w1 ⟨rfl, hb⟩; have q0 := (hb.cell (p := ⟨cb, 0, none⟩) hlt).trans c0; have q1 := (hb.cell (p := ⟨cb, 1, none⟩) hlt).trans c1; have q2 := (hb.cell (p := ⟨cb, 2, none⟩) hlt).trans c2; have z0 := (hb.frozen (p := ⟨cb, 0, none⟩) hlt).trans (hfzH.out 0); have z1 := (hb.frozen (p := ⟨cb, 1, none⟩) hlt).trans (hfzH.out 1); have z2 := (hb.frozen (p := ⟨cb, 2, none⟩) hlt).trans (hfzH.out 2); clear c0 c1 c2)
    go_ret
    exact ⟨rfl, part_worldD hb hcH.out hlt _ _⟩
  · exact part_badD _ _ _ _ _ _ _ h hc how

set_option maxRecDepth 100000 in
theorem part_textD (s : ByteArray) : PartSaidD (.text s) := by
  intro x fs w cb c deep h hcb hc h0 h1 h2 h3
  by_cases how : ownF (.text s) c.n deep = 0
  · obtain ⟨c0, c1, c2, hlt, hfz⟩ := cntCells hc
    have hown0 := own_anyD h c.n deep
    have hn1 := ownF_n how
    have hd1 := ownF_deep how
    have hfin : partF (.text s) deep c = (true, ⟨c.n + 1, max c.dp deep, 0⟩) := by rw [partF]; exact if_pos how
    rw [hfin]
    clear hfin
    rw [how] at hown0
    have hown := Lib.hid hown0
    have hcH := Lib.hid hc
    have hfzH := Lib.hid hfz
    simp only [VRep] at h
    obtain ⟨rfl, _⟩ := h
    clear hc hfz how hown0
    go_enter Try.func184, Try.ntmps184
    go_wp2_with (go_at_call 224; refine hown.out.mono ?_; rintro e w1 ⟨rfl, hb⟩; have q0 := (hb.cell (p := ⟨cb, 0, none⟩) hlt).trans c0; have q1 := (hb.cell (p := ⟨cb, 1, none⟩) hlt).trans c1; have q2 := (hb.cell (p := ⟨cb, 2, none⟩) hlt).trans c2; have z0 := (hb.frozen (p := ⟨cb, 0, none⟩) hlt).trans (hfzH.out 0); have z1 := (hb.frozen (p := ⟨cb, 1, none⟩) hlt).trans (hfzH.out 1); have z2 := (hb.frozen (p := ⟨cb, 2, none⟩) hlt).trans (hfzH.out 2); clear c0 c1 c2)
    go_ret
    exact ⟨rfl, part_worldD hb hcH.out hlt _ _⟩
  · exact part_badD _ _ _ _ _ _ _ h hc how

set_option maxRecDepth 100000 in
theorem part_refD (n : Int) : PartSaidD (.ref n) := by
  intro x fs w cb c deep h hcb hc h0 h1 h2 h3
  by_cases how : ownF (.ref n) c.n deep = 0
  · obtain ⟨c0, c1, c2, hlt, hfz⟩ := cntCells hc
    have hown0 := own_anyD h c.n deep
    have hn1 := ownF_n how
    have hd1 := ownF_deep how
    have hfin : partF (.ref n) deep c = (true, ⟨c.n + 1, max c.dp deep, 0⟩) := by rw [partF]; exact if_pos how
    rw [hfin]
    clear hfin
    rw [how] at hown0
    have hown := Lib.hid hown0
    have hcH := Lib.hid hc
    have hfzH := Lib.hid hfz
    simp only [VRep] at h
    obtain ⟨rfl, _⟩ := h
    clear hc hfz how hown0
    go_enter Try.func184, Try.ntmps184
    go_wp2_with (go_at_call 224; refine hown.out.mono ?_; rintro e w1 ⟨rfl, hb⟩; have q0 := (hb.cell (p := ⟨cb, 0, none⟩) hlt).trans c0; have q1 := (hb.cell (p := ⟨cb, 1, none⟩) hlt).trans c1; have q2 := (hb.cell (p := ⟨cb, 2, none⟩) hlt).trans c2; have z0 := (hb.frozen (p := ⟨cb, 0, none⟩) hlt).trans (hfzH.out 0); have z1 := (hb.frozen (p := ⟨cb, 1, none⟩) hlt).trans (hfzH.out 1); have z2 := (hb.frozen (p := ⟨cb, 2, none⟩) hlt).trans (hfzH.out 2); clear c0 c1 c2)
    go_ret
    exact ⟨rfl, part_worldD hb hcH.out hlt _ _⟩
  · exact part_badD _ _ _ _ _ _ _ h hc how

set_option maxRecDepth 100000 in
theorem part_bytesD (l : List UInt8) : PartSaidD (.bytes l) := by
  intro x fs w cb c deep h hcb hc h0 h1 h2 h3
  by_cases how : ownF (.bytes l) c.n deep = 0
  · obtain ⟨c0, c1, c2, hlt, hfz⟩ := cntCells hc
    have hown0 := own_anyD h c.n deep
    have hn1 := ownF_n how
    have hd1 := ownF_deep how
    have hfin : partF (.bytes l) deep c = (true, ⟨c.n + 1, max c.dp deep, 0⟩) := by rw [partF]; exact if_pos how
    rw [hfin]
    clear hfin
    rw [how] at hown0
    have hown := Lib.hid hown0
    have hcH := Lib.hid hc
    have hfzH := Lib.hid hfz
    simp only [VRep] at h
    obtain ⟨sv, rfl, _⟩ := h
    clear hc hfz how hown0
    go_enter Try.func184, Try.ntmps184
    go_wp2_with (go_at_call 224; refine hown.out.mono ?_; rintro e w1 ⟨rfl, hb⟩; have q0 := (hb.cell (p := ⟨cb, 0, none⟩) hlt).trans c0; have q1 := (hb.cell (p := ⟨cb, 1, none⟩) hlt).trans c1; have q2 := (hb.cell (p := ⟨cb, 2, none⟩) hlt).trans c2; have z0 := (hb.frozen (p := ⟨cb, 0, none⟩) hlt).trans (hfzH.out 0); have z1 := (hb.frozen (p := ⟨cb, 1, none⟩) hlt).trans (hfzH.out 1); have z2 := (hb.frozen (p := ⟨cb, 2, none⟩) hlt).trans (hfzH.out 2); clear c0 c1 c2)
    go_ret
    exact ⟨rfl, part_worldD hb hcH.out hlt _ _⟩
  · exact part_badD _ _ _ _ _ _ _ h hc how

theorem part_nothingD : PartSaidD .nothing := by
  intro x fs w cb c deep h hcb hc h0 h1 h2 h3
  exact part_badD _ _ _ _ _ _ _ h hc (by unfold ownF kindV ownIn; split <;> simp)

theorem part_alienD (u : TypeId) : PartSaidD (.alien u) := by
  intro x fs w cb c deep h hcb hc h0 h1 h2 h3
  exact part_badD _ _ _ _ _ _ _ h hc (by unfold ownF kindV ownIn; split <;> simp)

set_option maxRecDepth 100000 in
theorem part_dictD (d : List (ByteArray × Val)) (ih : ∀ u ∈ d.map (·.2), PartSaidD u) : PartSaidD (.dict d) := by
  intro x fs w cb c deep h hcb hc h0 h1 h2 h3
  by_cases how : ownF (.dict d) c.n deep = 0
  · obtain ⟨c0, c1, c2, hlt, hfz⟩ := cntCells hc
    have hown0 := own_anyD h c.n deep
    have hn1 := ownF_n how
    have hd1 := ownF_deep how
    rw [how] at hown0
    have hown := Lib.hid hown0
    have hcH := Lib.hid hc
    have hfzH := Lib.hid hfz
    simp only [VRep] at h
    obtain ⟨sv, xs, gs, rfl, ho, hd, rfl⟩ := h
    have hfin : partF (.dict d) deep c = dpartsF d (deep + 1) ⟨c.n + 1, max c.dp deep, 0⟩ := by rw [partF]; exact if_pos how
    rw [hfin]
    have hall := Lib.hid (fun (W : World) (hW : W.heap[cb]? = some (cntObj ⟨c.n + 1, max c.dp deep, 0⟩) ∧ ButD (· = cb) w W) =>
      all_ofD d ih sv xs gs W cb ⟨c.n + 1, max c.dp deep, 0⟩ deep (ownsRow_butD ho hW.2 (fun b hb e => hcb (by rw [← e]; exact List.mem_append_left _ hb))) (DsRep.butD hd hW.2 (fun b hb e => hcb (by rw [← e]; exact List.mem_append_right _ hb))) hcb hW.1 (by dsimp only; omega) (by dsimp only; omega) (by omega) hd1)
    clear hc hfz how hown0 ho hd ih hfin
    go_enter Try.func184, Try.ntmps184
    go_wp2_with (go_at_call 224; refine hown.out.mono ?_; rintro e w1 ⟨rfl, hb⟩; have q0 := (hb.cell (p := ⟨cb, 0, none⟩) hlt).trans c0; have q1 := (hb.cell (p := ⟨cb, 1, none⟩) hlt).trans c1; have q2 := (hb.cell (p := ⟨cb, 2, none⟩) hlt).trans c2; have z0 := (hb.frozen (p := ⟨cb, 0, none⟩) hlt).trans (hfzH.out 0); have z1 := (hb.frozen (p := ⟨cb, 1, none⟩) hlt).trans (hfzH.out 1); have z2 := (hb.frozen (p := ⟨cb, 2, none⟩) hlt).trans (hfzH.out 2); clear c0 c1 c2)
    refine (hall.out _ (part_worldD hb hcH.out hlt _ _)).mono ?_
    rintro e w2 ⟨rfl, hc2, hb2⟩
    have hb3 := (part_worldD hb hcH.out hlt (c.n + 1) (max c.dp deep)).2.trans hb2
    go_wp2
    go_ret
    exact ⟨rfl, hc2, hb3⟩
  · exact part_badD _ _ _ _ _ _ _ h hc how

set_option maxRecDepth 100000 in
set_option maxHeartbeats 800000 in
theorem part_recordD (s : ByteArray) (m : Int) (d : List (ByteArray × Val)) (ih : ∀ u ∈ d.map (·.2), PartSaidD u) : PartSaidD (.record s m d) := by
  intro x fs w cb c deep h hcb hc h0 h1 h2 h3
  by_cases how : ownF (.record s m d) c.n deep = 0
  · obtain ⟨c0, c1, c2, hlt, hfz⟩ := cntCells hc
    have hown0 := own_anyD h c.n deep
    have hn1 := ownF_n how
    have hd1 := ownF_deep how
    rw [how] at hown0
    have hown := Lib.hid hown0
    have hcH := Lib.hid hc
    have hfzH := Lib.hid hfz
    simp only [VRep] at h
    obtain ⟨b, sv, xs, gs, rfl, hr, -, -, ho, hd, rfl⟩ := h
    have hfin : partF (.record s m d) deep c = dpartsF d (deep + 1) ⟨c.n + 1, max c.dp deep, 0⟩ := by rw [partF]; exact if_pos how
    rw [hfin]
    obtain ⟨-, -, r2, hbl, -⟩ := recCells hr
    have hcb2 : cb ∉ ownL sv ++ gs := fun e => hcb (List.mem_cons_of_mem _ e)
    have hbc : ¬ b = cb := fun e => hcb (by rw [e]; exact List.mem_cons_self)
    have hbc' : ¬ cb = b := fun e => hbc e.symm
    have hall := Lib.hid (fun (W : World) (hW : W.heap[cb]? = some (cntObj ⟨c.n + 1, max c.dp deep, 0⟩) ∧ ButD (· = cb) w W) =>
      all_ofD d ih sv xs gs W cb ⟨c.n + 1, max c.dp deep, 0⟩ deep (ownsRow_butD ho hW.2 (fun b hb e => hcb2 (by rw [← e]; exact List.mem_append_left _ hb))) (DsRep.butD hd hW.2 (fun b hb e => hcb2 (by rw [← e]; exact List.mem_append_right _ hb))) hcb2 hW.1 (by dsimp only; omega) (by dsimp only; omega) (by omega) hd1)
    clear hc hfz how hown0 ho hd ih hfin hcb hcb2 hr
    go_enter Try.func184, Try.ntmps184
    go_wp2_with (go_at_call 224; refine hown.out.mono ?_; rintro e w1 ⟨rfl, hb⟩; have q0 := (hb.cell (p := ⟨cb, 0, none⟩) hlt).trans c0; have q1 := (hb.cell (p := ⟨cb, 1, none⟩) hlt).trans c1; have q2 := (hb.cell (p := ⟨cb, 2, none⟩) hlt).trans c2; have z0 := (hb.frozen (p := ⟨cb, 0, none⟩) hlt).trans (hfzH.out 0); have z1 := (hb.frozen (p := ⟨cb, 1, none⟩) hlt).trans (hfzH.out 1); have z2 := (hb.frozen (p := ⟨cb, 2, none⟩) hlt).trans (hfzH.out 2); clear c0 c1 c2; have q3 := (hb.cell (p := ⟨b, 2, none⟩) hbl).trans r2; clear r2)
    refine (hall.out _ (part_worldD hb hcH.out hlt _ _)).mono ?_
    rintro e w2 ⟨rfl, hc2, hb2⟩
    have hb3 := (part_worldD hb hcH.out hlt (c.n + 1) (max c.dp deep)).2.trans hb2
    go_wp2
    go_ret
    exact ⟨rfl, hc2, hb3⟩
  · exact part_badD _ _ _ _ _ _ _ h hc how

set_option maxRecDepth 100000 in
set_option maxHeartbeats 800000 in
theorem part_listD (l : List Val) (ih : ∀ u ∈ l, PartSaidD u) : PartSaidD (.list l) := by
  intro x fs w cb c deep h hcb hc h0 h1 h2 h3
  by_cases how : ownF (.list l) c.n deep = 0
  · obtain ⟨c0, c1, c2, hlt, hfz⟩ := cntCells hc
    have hown0 := own_anyD h c.n deep
    have hn1 := ownF_n how
    have hd1 := ownF_deep how
    rw [how] at hown0
    have hown := Lib.hid hown0
    have hcH := Lib.hid hc
    have hfzH := Lib.hid hfz
    simp only [VRep] at h
    obtain ⟨sv, xs, gs, rfl, ho, hd, rfl⟩ := h
    have hfin : partF (.list l) deep c = partsF l (deep + 1) ⟨c.n + 1, max c.dp deep, 0⟩ := by rw [partF]; exact if_pos how
    rw [hfin]
    obtain ⟨a, cap, rfl, hcap, hmax, hlen, hform⟩ := ownsRow_form ho
    unfold maxLen at hmax
    have hdat := Lib.hid (VsRep.at l xs gs hd)
    have hformH := Lib.hid hform
    have ihH := Lib.hid ih
    have hcbH := Lib.hid hcb
    clear hc hfz how hown0 ho hd ih hfin hcb hform hlen
    go_enter Try.func184, Try.ntmps184
    go_wp2_with (go_at_call 224; refine hown.out.mono ?_; rintro e w1 ⟨rfl, hb⟩; have q0 := (hb.cell (p := ⟨cb, 0, none⟩) hlt).trans c0; have q1 := (hb.cell (p := ⟨cb, 1, none⟩) hlt).trans c1; have q2 := (hb.cell (p := ⟨cb, 2, none⟩) hlt).trans c2; have z0 := (hb.frozen (p := ⟨cb, 0, none⟩) hlt).trans (hfzH.out 0); have z1 := (hb.frozen (p := ⟨cb, 1, none⟩) hlt).trans (hfzH.out 1); have z2 := (hb.frozen (p := ⟨cb, 2, none⟩) hlt).trans (hfzH.out 2); clear c0 c1 c2)
    have hw3 := part_worldD hb hcH.out hlt (c.n + 1) (max c.dp deep)
    generalize ((w1.setCell ⟨cb, 2, none⟩ (Value.int .i64 0)).setCell ⟨cb, 0, none⟩ (Value.int .i64 (c.n + 1))).setCell ⟨cb, 1, none⟩ (Value.int .i64 (max c.dp deep)) = w3 at hw3 ⊢
    obtain ⟨hc3, hb3⟩ := hw3
    have hc3H := Lib.hid hc3
    clear hc3 q0 q1 q2 z0 z1 z2 hb
    generalize hmx : max c.dp deep = mx at *
    have hmxH := Lib.hid hmx
    clear hmx
    go_loopw [49] (fun i wr => ∃ (k : Nat) (ck : Cnt), k ≤ l.length ∧ i = .int .i64 k ∧ partsF (l.drop k) (deep + 1) ck = partsF l (deep + 1) ⟨c.n + 1, mx, 0⟩ ∧ 0 ≤ ck.n ∧ ck.n ≤ 16384 ∧ wr.heap[cb]? = some (cntObj ck) ∧ ButD (· = cb) w wr) (fun i _ => l.length - (intOf i).toNat)
    case atStart => exact ⟨0, _, Nat.zero_le _, rfl, by simp, by dsimp only; omega, by dsimp only; omega, hc3H.out, hb3⟩
    case round =>
      obtain ⟨k, ck, hk, rfl, heq, hn0, hn2, hck, hb⟩ := hrel
      have heqH := Lib.hid heq
      have hckH := Lib.hid hck
      clear heq hck
      by_cases hlt2 : k < l.length
      · rcases hformH.out with ⟨-, h0', -⟩ | ⟨g, rfl, -, hg, hown', hcells⟩
        · omega
        · obtain ⟨v, hp⟩ : ∃ p, l[k]? = some p := ⟨_, List.getElem?_eq_getElem hlt2⟩
          obtain ⟨x, f, e1, e3, e4⟩ := hdat.out k _ hp
          have hgc : ¬ g = cb := fun e => hcbH.out (by rw [hown', e]; exact List.mem_append_left _ (List.mem_singleton.2 rfl))
          have hfc : ∀ b ∈ f, ¬ b = cb := fun b hbf e => hcbH.out (List.mem_append_right _ (e ▸ e4 b hbf))
          have hc0 := (hb.cell (p := ⟨g, k, none⟩) hg hgc).trans ((hcells k (by omega)).trans e1)
          have hdrop := Lib.hid (parts_drop hp (deep + 1) ck)
          have hrep := Lib.hid (VRep.butD e3 hb hfc)
          have hih := Lib.hid (ihH.out v (List.mem_of_getElem? hp) x f)
          have hcbs := Lib.hid (fun (e : cb ∈ f) => hfc cb e rfl)
          have hnb := Lib.hid (partF_n v (deep + 1) ck hn0 hn2)
          clear e1 e3 e4 hcells hp hgc hfc
          cases hr : partF v (deep + 1) ck with
          | mk ok c' =>
          have hrH := Lib.hid hr
          clear hr
          cases ok with
          | true =>
            go_wp2_with (go_at_call 184; refine (hih.out _ cb ck _ hrep.out hcbs.out hckH.out hn0 hn2 (by omega) (by omega)).mono ?_; rw [hrH.out]; rintro e w' ⟨rfl, hc', hb'⟩)
            have hnb' := hnb.out
            rw [hrH.out] at hnb'
            go_roundw
            case rel => exact ⟨k + 1, c', by omega, by go_num, by rw [← heqH.out, hdrop.out, hrH.out], hnb'.1, hnb'.2, hc', hb.trans hb'⟩
            case measure => simp [intOf]; omega
          | false =>
            go_wp2_with (go_at_call 184; refine (hih.out _ cb ck _ hrep.out hcbs.out hckH.out hn0 hn2 (by omega) (by omega)).mono ?_; rw [hrH.out]; rintro e w' ⟨rfl, hc', hb'⟩)
            have hfin : partsF l (deep + 1) ⟨c.n + 1, mx, 0⟩ = (false, c') := by rw [← heqH.out, hdrop.out, hrH.out]
            go_ret
            rw [hmxH.out, hfin]
            exact ⟨rfl, hc', hb.trans hb'⟩
      · obtain rfl : k = l.length := by omega
        have hfin : partsF l (deep + 1) ⟨c.n + 1, mx, 0⟩ = (true, ck) := by rw [← heqH.out, List.drop_length]; rfl
        have hfinH := Lib.hid hfin
        clear hfin
        go_wp2
        go_ret
        rw [hmxH.out, hfinH.out]
        exact ⟨rfl, hckH.out, hb⟩
  · exact part_badD _ _ _ _ _ _ _ h hc how

theorem part_anyD : ∀ v, PartSaidD v := val_ind fun v ih => by
  cases v with
  | nil => exact part_nilD
  | bool b => exact part_boolD b
  | int n => exact part_intD n
  | float b => exact part_floatD b
  | text s => exact part_textD s
  | bytes l => exact part_bytesD l
  | ref n => exact part_refD n
  | list l => exact part_listD l ih
  | dict d => exact part_dictD d ih
  | record s n d => exact part_recordD s n d ih
  | nothing => exact part_nothingD
  | alien u => exact part_alienD u
set_option maxRecDepth 100000 in
theorem check_anyD {w : World} {v : Val} {x : Value} {fs : List Nat} (h : VRep w v x fs) :
    Calls Try.prog 135 #[x] w fun e w' => e = .returned (.tuple #[.int .i64 (checkF v).1, .int .i64 (checkF v).2]) ∧ BelowD w.heap.size w w' := by
  have hl := VRep.lt v x fs h
  have hp := Lib.hid (fun (W : World) (hW : W.heap[w.heap.size]? = some (cntObj ⟨0, 0, 0⟩)) (hb : ButD (fun _ => False) w W) =>
    part_anyD v x fs W w.heap.size ⟨0, 0, 0⟩ 1 (VRep.butD h hb (fun _ _ f => f)) (fun e => by have := hl _ e; omega) hW (by decide) (by decide) (by decide) (by decide))
  have hcheck : checkF v = (match partF v 1 ⟨0, 0, 0⟩ with | (true, _) => (0, 0) | (false, c) => (c.n, c.why)) := rfl
  clear h hl
  cases hr : partF v 1 ⟨0, 0, 0⟩ with
  | mk ok c =>
  rw [hr] at hcheck
  have hrH := Lib.hid hr
  clear hr
  cases ok with
  | true =>
    rw [hcheck]
    clear hcheck
    go_enter Try.func135, Try.ntmps135
    go_wp2_with (go_at_call 184; refine (hp.out _ (heap_alloc_new w _) (ButD.alloc (ButD.refl _ _) _)).mono ?_; rw [hrH.out]; rintro e w2 ⟨rfl, hc2, hb2⟩)
    go_ret2
    exact ⟨rfl, hb2.new_below⟩
  | false =>
    rw [hcheck]
    clear hcheck
    go_enter Try.func135, Try.ntmps135
    go_wp2_with (go_at_call 184; refine (hp.out _ (heap_alloc_new w _) (ButD.alloc (ButD.refl _ _) _)).mono ?_; rw [hrH.out]; rintro e w2 ⟨rfl, hc2, hb2⟩)
    obtain ⟨q0, -, q2, -, -⟩ := cntCells hc2
    go_quiet (fail)
    go_wp2
    go_ret2
    exact ⟨rfl, BelowD.drewN' hb2.new_below nq⟩
theorem Check_anyD {w : World} {v : Val} {x : Value} {fs : List Nat} (h : VRep w v x fs) :
    Calls Try.prog 70 #[x] w fun e w' => e = .returned (.tuple #[.int .i64 (checkF v).1, .int .i64 (checkF v).2]) ∧ BelowD w.heap.size w w' := by
  have hc := Lib.hid (check_anyD h)
  clear h
  go_enter Try.func70, Try.ntmps70
  go_wp2_with (go_at_call 135; refine hc.out.mono ?_; rintro e w2 ⟨rfl, hb2⟩)
  go_ret2
  exact ⟨rfl, hb2⟩
end Go.Proofs.Ytgmdbpplfjkjmaa
