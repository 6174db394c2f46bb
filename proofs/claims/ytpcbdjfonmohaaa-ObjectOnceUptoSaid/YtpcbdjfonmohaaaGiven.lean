/- The walk of ObjectGiven. -/
import Derived.Test.YtpcbdjfonmohaaaGive
import Derived.Test.YtpcbdjfonmohaaaMust
namespace Go.Proofs.Ytpcbdjfonmohaaa
open Go.RowKit
set_option linter.unusedVariables false
set_option linter.unusedSimpArgs false

theorem or_low (h : Int) (m : Nat) (hm : m < 16) : fitH (bits .or .i64 h m) = (((BitVec.ofInt 64 h).toNat % 16 ||| m : Nat) : Int) := by
  have e1 : (BitVec.ofInt 64 h ||| BitVec.ofInt 64 (m : Int)).toNat = (BitVec.ofInt 64 h).toNat ||| m := by
    rw [BitVec.toNat_or]
    congr 1
    simp
    omega
  have e2 : (bits .or .i64 h m) % 16 = (((BitVec.ofInt 64 h).toNat ||| m : Nat) : Int) % 16 := by
    show (IntKind.i64.wrap ((BitVec.ofInt 64 h ||| BitVec.ofInt 64 (m : Int)).toNat : Int)) % 16 = _
    rw [e1, IntKind.wrap_i64]
    omega
  rw [fitH_eq, e2]
  have e3 : ((BitVec.ofInt 64 h).toNat ||| m) % 2 ^ 4 = (BitVec.ofInt 64 h).toNat % 2 ^ 4 ||| m % 2 ^ 4 := Nat.or_mod_two_pow
  have e4 : m % 2 ^ 4 = m := Nat.mod_eq_of_lt hm
  rw [e4] at e3
  have e5 : (2 : Nat) ^ 4 = 16 := rfl
  rw [e5] at e3
  omega
theorem or_four (h : Int) : (4 ≤ fitH (bits .or .i64 h 4) ∧ fitH (bits .or .i64 h 4) < 8) ∨ (12 ≤ fitH (bits .or .i64 h 4) ∧ fitH (bits .or .i64 h 4) < 16) := by
  have h1 := or_low h 4 (by decide)
  rw [show ((4 : Nat) : Int) = 4 from rfl] at h1
  rw [h1]
  have h2 : ∀ x : Fin 16, (4 ≤ (x.val ||| 4) ∧ (x.val ||| 4) < 8) ∨ (12 ≤ (x.val ||| 4) ∧ (x.val ||| 4) < 16) := by decide
  have h3 := h2 ⟨(BitVec.ofInt 64 h).toNat % 16, Nat.mod_lt _ (by decide)⟩
  simp only at h3
  omega
theorem or_eight (h : Int) : 8 ≤ fitH (bits .or .i64 h 8) ∧ fitH (bits .or .i64 h 8) < 16 := by
  have h1 := or_low h 8 (by decide)
  rw [show ((8 : Nat) : Int) = 8 from rfl] at h1
  rw [h1]
  have h2 : ∀ x : Fin 16, 8 ≤ (x.val ||| 8) ∧ (x.val ||| 8) < 16 := by decide
  have h3 := h2 ⟨(BitVec.ofInt 64 h).toNat % 16, Nat.mod_lt _ (by decide)⟩
  simp only at h3
  omega
section
variable (sh id ve gv ld wi : Int) (fo ko : Option Addr) (fl fc kl kc : Nat) (cl ow : ByteArray) (lo : Bool)

theorem kinds_owned (k : Int) (hk : (4 ≤ k ∧ k < 8) ∨ (12 ≤ k ∧ k < 16)) : ∃ b, ∀ W, Calls Try.prog 84 #[.agg #[.int .i64 0, .int .i64 k, .int .i64 sh, .int .u64 id, .slice fo fl fc, .string cl, .int .i64 ve, .slice ko kl kc, .string ow, .int .i64 gv, .bool lo, .int .i64 ld, .int .i64 0, .int .i64 wi]] W (ObjEnd true b ⟨.int .i64 k, .int .i64 sh, .int .u64 id, .slice fo fl fc, .string cl, .int .i64 ve, .slice ko kl kc, ow, gv, lo, ld, .int .i64 wi, 0, 0, 0, 0⟩ W) := by
  obtain rfl | rfl | rfl | rfl | rfl | rfl | rfl | rfl : k = 4 ∨ k = 5 ∨ k = 6 ∨ k = 7 ∨ k = 12 ∨ k = 13 ∨ k = 14 ∨ k = 15 := by omega
  · exact ⟨_, fun W => object_kind sh id ve gv ld wi fo ko fl fc kl kc cl ow lo W kind_4 (by decide) (by decide)⟩
  · exact ⟨_, fun W => object_kind sh id ve gv ld wi fo ko fl fc kl kc cl ow lo W kind_5 (by decide) (by decide)⟩
  · exact ⟨_, fun W => object_kind sh id ve gv ld wi fo ko fl fc kl kc cl ow lo W kind_6 (by decide) (by decide)⟩
  · exact ⟨_, fun W => object_kind sh id ve gv ld wi fo ko fl fc kl kc cl ow lo W kind_7 (by decide) (by decide)⟩
  · exact ⟨_, fun W => object_kind sh id ve gv ld wi fo ko fl fc kl kc cl ow lo W kind_12 (by decide) (by decide)⟩
  · exact ⟨_, fun W => object_kind sh id ve gv ld wi fo ko fl fc kl kc cl ow lo W kind_13 (by decide) (by decide)⟩
  · exact ⟨_, fun W => object_kind sh id ve gv ld wi fo ko fl fc kl kc cl ow lo W kind_14 (by decide) (by decide)⟩
  · exact ⟨_, fun W => object_15 sh id ve gv ld wi fo ko fl fc kl kc cl ow lo W⟩
theorem kinds_lazy (k : Int) (hk : 8 ≤ k ∧ k < 16) : ∃ b, ∀ W, Calls Try.prog 84 #[.agg #[.int .i64 0, .int .i64 k, .int .i64 sh, .int .u64 id, .slice fo fl fc, .string cl, .int .i64 ve, .slice ko kl kc, .string ow, .int .i64 gv, .bool lo, .int .i64 ld, .int .i64 0, .int .i64 wi]] W (ObjEnd b true ⟨.int .i64 k, .int .i64 sh, .int .u64 id, .slice fo fl fc, .string cl, .int .i64 ve, .slice ko kl kc, ow, gv, lo, ld, .int .i64 wi, 0, 0, 0, 0⟩ W) := by
  obtain rfl | rfl | rfl | rfl | rfl | rfl | rfl | rfl : k = 8 ∨ k = 9 ∨ k = 10 ∨ k = 11 ∨ k = 12 ∨ k = 13 ∨ k = 14 ∨ k = 15 := by omega
  · exact ⟨_, fun W => object_kind sh id ve gv ld wi fo ko fl fc kl kc cl ow lo W kind_8 (by decide) (by decide)⟩
  · exact ⟨_, fun W => object_kind sh id ve gv ld wi fo ko fl fc kl kc cl ow lo W kind_9 (by decide) (by decide)⟩
  · exact ⟨_, fun W => object_kind sh id ve gv ld wi fo ko fl fc kl kc cl ow lo W kind_10 (by decide) (by decide)⟩
  · exact ⟨_, fun W => object_kind sh id ve gv ld wi fo ko fl fc kl kc cl ow lo W kind_11 (by decide) (by decide)⟩
  · exact ⟨_, fun W => object_kind sh id ve gv ld wi fo ko fl fc kl kc cl ow lo W kind_12 (by decide) (by decide)⟩
  · exact ⟨_, fun W => object_kind sh id ve gv ld wi fo ko fl fc kl kc cl ow lo W kind_13 (by decide) (by decide)⟩
  · exact ⟨_, fun W => object_kind sh id ve gv ld wi fo ko fl fc kl kc cl ow lo W kind_14 (by decide) (by decide)⟩
  · exact ⟨_, fun W => object_15 sh id ve gv ld wi fo ko fl fc kl kc cl ow lo W⟩
variable (w : World)
theorem give_any {T : TypeId} {v : Value} {B cb : Nat} {c : CoreS} (to : ByteArray) (hr : 0 ≤ c.n6 ∧ c.n6 < 1000) : ∃ (f : Int) (d : CoreS), (∀ W, CoreAt W cb c → Able 148 ownedMs (.iface T v) B cb W → Calls Try.prog 44 #[.iface T v, .string to] W fun e w' => e = .returned (.int .i64 f) ∧ CoreAt w' cb d ∧ But (· = cb) W w') ∧ d.n5 = c.n5 ∧ (f = 0 ∧ nameOk to = true ∧ d.owner = to ∨ (f == 0) = false ∧ d.owner = c.owner) := by
  cases hn : nameOk to with
  | false => exact ⟨8, c, fun W h ha => give_no W to hn h ha, rfl, .inr ⟨rfl, rfl⟩⟩
  | true =>
    refine ⟨c.gives, _, fun W h ha => give_yes W to hn h hr ha, rfl, ?_⟩
    by_cases hg : c.gives = 0
    · exact .inl ⟨hg, rfl, by simp [hg]⟩
    · exact .inr ⟨by simpa using hg, by simp [hg]⟩

set_option maxRecDepth 100000 in
set_option maxHeartbeats 1600000 in
theorem given_walk (hs h pn : Int) (to : ByteArray) : Calls Try.prog 9 #[.agg #[.int .i64 hs, .int .i64 h, .int .i64 sh, .int .u64 id, .slice fo fl fc, .string cl, .int .i64 ve, .slice ko kl kc, .string ow, .int .i64 gv, .bool lo, .int .i64 ld, .int .i64 pn, .int .i64 wi], .string to] w fun e w' => e = .returned (.bool true) ∧ Below w.heap.size w w' := by
  obtain ⟨W0, hW0⟩ : ∃ W0, W0 = w.alloc (.cells #[.int .i64 hs, .int .i64 h, .int .i64 sh, .int .u64 id, .slice fo fl fc, .string cl, .int .i64 ve, .slice ko kl kc, .string ow, .int .i64 gv, .bool lo, .int .i64 ld, .int .i64 pn, .int .i64 wi] 72) := ⟨_, rfl⟩
  have hb0 : Below w.heap.size w W0 := by rw [hW0]; exact (Below.refl _ _).alloc (Nat.le_refl _) _
  have e0 : W0.heap[w.heap.size]? = some (.cells #[.int .i64 hs, .int .i64 h, .int .i64 sh, .int .u64 id, .slice fo fl fc, .string cl, .int .i64 ve, .slice ko kl kc, .string ow, .int .i64 gv, .bool lo, .int .i64 ld, .int .i64 pn, .int .i64 wi] 72 (0, 0)) := by rw [hW0]; exact heap_alloc_new _ _
  have hl0 : w.heap.size < W0.heap.size := by rw [hW0]; simp
  have hlives := Lib.hid (lives10_said W0)
  obtain ⟨bb, hkin⟩ := kinds_owned sh id ve gv ld wi fo ko fl fc kl kc cl ow lo _ (or_four h)
  have hmade := Lib.hid (fun W => made_said sh id ve gv ld wi fo ko fl fc kl kc cl ow lo W (bits .or .i64 h 4) _ rfl true bb hkin)
  obtain ⟨k, hk⟩ : ∃ k, k = fitH (bits .or .i64 h 4) := ⟨_, rfl⟩
  rw [← hk] at hmade
  clear hkin hk
  have hb0H := Lib.hid hb0
  clear hb0
  go_enter Try.func9, Try.ntmps9
  go_wp2_with fail
  rw [← hW0]
  clear hW0
  refine hlives.out.mono ?_
  rintro e w1 ⟨rfl, hb1⟩
  have q1 := (hb1.block _ hl0).trans e0
  have g0 := row_block q1 (k := 0) (v := .int .i64 hs) rfl
  have g1 := row_block q1 (k := 1) (v := .int .i64 h) rfl
  have g2 := row_block q1 (k := 2) (v := .int .i64 sh) rfl
  have g3 := row_block q1 (k := 3) (v := .int .u64 id) rfl
  have g4 := row_block q1 (k := 4) (v := .slice fo fl fc) rfl
  have g5 := row_block q1 (k := 5) (v := .string cl) rfl
  have g6 := row_block q1 (k := 6) (v := .int .i64 ve) rfl
  have g7 := row_block q1 (k := 7) (v := .slice ko kl kc) rfl
  have g8 := row_block q1 (k := 8) (v := .string ow) rfl
  have g9 := row_block q1 (k := 9) (v := .int .i64 gv) rfl
  have g10 := row_block q1 (k := 10) (v := .bool lo) rfl
  have g11 := row_block q1 (k := 11) (v := .int .i64 ld) rfl
  have g12 := row_block q1 (k := 12) (v := .int .i64 pn) rfl
  have g13 := row_block q1 (k := 13) (v := .int .i64 wi) rfl
  have z0 := frozen_of' q1 0
  have z1 := frozen_of' q1 1
  have z12 := frozen_of' q1 12
  have hb1H := Lib.hid (hb0H.out.trans (below_le hb1 hb0H.out.size))
  clear hb1 e0 q1
  go_wp2_with fail
  obtain ⟨W1, hW1⟩ : ∃ W1, W1 = ((w1.setCell ⟨w.heap.size, 0, none⟩ (.int .i64 0)).setCell ⟨w.heap.size, 1, none⟩ (.int .i64 (bits .or .i64 h 4))).setCell ⟨w.heap.size, 12, none⟩ (.int .i64 0) := ⟨_, rfl⟩
  have hbW1 : Below w.heap.size w W1 := by rw [hW1]; exact ((hb1H.out.setCell (p := ⟨w.heap.size, 0, none⟩) (Nat.le_refl _) _).setCell (p := ⟨w.heap.size, 1, none⟩) (Nat.le_refl _) _).setCell (p := ⟨w.heap.size, 12, none⟩) (Nat.le_refl _) _
  rw [← hW1]
  clear hW1 g0 g1 g2 g3 g4 g5 g6 g7 g8 g9 g10 g11 g12 g13 z0 z1 z12
  have hszW1 := hbW1.size
  refine (hmade.out W1).mono ?_
  rintro e w2 ⟨T, v, B, cb, db, rfl, hcore, ho0, hl, hcb, hb⟩
  have ho := ho0 rfl
  have hcw := hcore.lt
  obtain ⟨c1, hc1⟩ : ∃ c1 : CoreS, c1 = ⟨.int .i64 k, .int .i64 sh, .int .u64 id, .slice fo fl fc, .string cl, .int .i64 ve, .slice ko kl kc, ow, gv, lo, ld, .int .i64 wi, 0, 0, 0, 0⟩ := ⟨_, rfl⟩
  rw [← hc1] at hcore
  have hn5 : c1.n5 = 0 := by rw [hc1]
  have hn6 : c1.n6 = 0 := by rw [hc1]
  clear hc1 ho0 hl
  obtain ⟨f, d, hgv, hd5, hcase⟩ := give_any (T := T) (v := v) (B := B) (cb := cb) (c := { c1 with n5 := c1.n5 + 1 }) to (by simp [hn6])
  have hd5' : d.n5 = 1 := by rw [hd5]; simp [hn5]
  obtain ⟨w3, hw3⟩ : ∃ w3, w3 = w2.alloc (.cells #[.iface T v, .pointer (some ⟨cb, 0, none⟩), .pointer (some ⟨db, 0, none⟩)] 78) := ⟨_, rfl⟩
  have hb3 : But (fun _ => False) w2 w3 := by rw [hw3]; exact (But.refl _ _).alloc _
  have hsz3 : w3.heap.size = w2.heap.size + 1 := by rw [hw3]; simp
  have h3 := hcore.but hb3 (fun h => h)
  have ha3 := ho.move (fun b _ h2 _ => hb3.block b h2 (fun h => h)) hb3.size
  have x3 : w3.cell? ⟨w2.heap.size, 0, none⟩ = some (.iface T v) := by rw [hw3]; exact row_block (heap_alloc_new _ _) rfl
  have hbw3 : Below w.heap.size w w3 := (hbW1.trans (below_le hb hszW1)).trans (hb3.below' (by have := hb.size; omega) (fun _ _ h => h))
  have hneX : ¬ w2.heap.size = cb := by omega
  have hown1 := Lib.hid (ownerOf_said w3 h3 (by omega) ha3)
  have ha3H := Lib.hid ha3
  have hgvH := Lib.hid hgv
  have hbw3H := Lib.hid hbw3
  have hcaseH := Lib.hid hcase
  obtain ⟨s1, hs1⟩ : ∃ s1, s1 = (if nameOk c1.owner = true then c1.owner else ⟨#[]⟩) := ⟨_, rfl⟩
  obtain ⟨e1, he1⟩ : ∃ e1 : Int, e1 = (if nameOk c1.owner = true then 0 else 8) := ⟨_, rfl⟩
  rw [← hs1, ← he1] at hown1
  have hs1H := Lib.hid (And.intro hs1 he1)
  clear hs1 he1 hgv hcase ha3 h3 hb3 hbw3 hbW1 hcore ho hb hd5 hn5 hn6 hmade hlives
  go_wp2_with fail
  rw [← hw3]
  clear hw3
  refine hown1.out.mono ?_
  rintro e w4 ⟨rfl, h4, hb4⟩
  have x4 := (hb4.cell (p := ⟨w2.heap.size, 0, none⟩) (cell_in x3) hneX).trans x3
  have ha4 := ha3H.out.move (same_but hb4) hb4.size
  have hgive := Lib.hid (hgvH.out w4 h4 ha4)
  have ha4H := Lib.hid ha4
  have hb4H := Lib.hid hb4
  clear ha4 hb4 h4 x3 hown1
  go_wp2_with fail
  refine hgive.out.mono ?_
  rintro e w5 ⟨rfl, h5, hb5⟩
  have x5 := (hb5.cell (p := ⟨w2.heap.size, 0, none⟩) (cell_in x4) hneX).trans x4
  have ha5 := ha4H.out.move (same_but hb5) hb5.size
  have hown2 := Lib.hid (ownerOf_said w5 h5 (by omega) ha5)
  have hb5H := Lib.hid hb5
  obtain ⟨s2, hs2⟩ : ∃ s2, s2 = (if nameOk d.owner = true then d.owner else ⟨#[]⟩) := ⟨_, rfl⟩
  obtain ⟨e2, he2⟩ : ∃ e2 : Int, e2 = (if nameOk d.owner = true then 0 else 8) := ⟨_, rfl⟩
  rw [← hs2, ← he2] at hown2
  have hlaw : (f = 0 ∧ s2 = to ∧ e2 = 0) ∨ ((f == 0) = false ∧ s2 = s1 ∧ e2 = e1) := by
    rcases hcaseH.out with ⟨h1, h2, h3⟩ | ⟨h1, h2⟩
    · refine .inl ⟨h1, ?_, ?_⟩
      · rw [hs2, h3, if_pos h2]
      · rw [he2, h3, if_pos h2]
    · refine .inr ⟨h1, ?_, ?_⟩
      · rw [hs2, h2]; exact hs1H.out.1.symm
      · rw [he2, h2]; exact hs1H.out.2.symm
  have hlawH := Lib.hid hlaw
  clear ha5 hb5 h5 x4 hgive hs2 he2 hlaw hgvH hcaseH hs1H
  go_wp2_with fail
  refine hown2.out.mono ?_
  rintro e w6 ⟨rfl, h6, hb6⟩
  have hend : Below w.heap.size w w6 := hbw3H.out.trans (((hb4H.out.trans hb5H.out).trans hb6).below' (by omega) (fun i h1 h2 => by omega))
  have hendH := Lib.hid hend
  clear hend h6 hb6 x5 hown2
  rcases hlawH.out with ⟨h1, h2, h3⟩ | ⟨h1, h2, h3⟩
  · subst h1
    subst h2
    subst h3
    go_wp2_with fail
    go_ret
    exact ⟨rfl, hendH.out⟩
  · subst h2
    subst h3
    go_wp2_with fail
    go_ret
    exact ⟨rfl, hendH.out⟩
end
end Go.Proofs.Ytpcbdjfonmohaaa
