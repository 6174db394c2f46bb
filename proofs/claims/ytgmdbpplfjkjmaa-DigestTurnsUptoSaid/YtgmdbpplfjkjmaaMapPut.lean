/- digest.Map: copied, key, Len, Get, Delete over a Go map that holds pairs. -/
import Derived.Test.YtgmdbpplfjkjmaaDigEnc
import Derived.Maps.OwnSet
import Derived.Maps.OwnOps
import Derived.Maps.Ext
import Derived.Carry
namespace Go.Proofs.Ytgmdbpplfjkjmaa
open Go.RowKit
set_option linter.unusedVariables false
set_option linter.unusedSimpArgs false

/-- digest.copied of a value that can be. -/
theorem dcopied_ok {w : World} {v : Val} {x : Value} {fs : List Nat} (h : VRep w v x fs) (hok : okB v = true) : Calls Try.prog 75 #[x] w (Fresh v w) := by
  have hc := Lib.hid (Copy_ok h hok)
  have hx := h.one
  clear h
  go_enter Try.func75, Try.ntmps75
  go_wp2_with fail
  refine hc.out.mono ?_
  rintro e w1 ⟨y, gs, rfl, hv, hn, hg, hb⟩
  have hy := hv.one
  have hvH := Lib.hid hv
  clear hv
  go_wp2
  go_ret
  exact ⟨y, gs, rfl, hvH.out, hn, hg, hb⟩
/-- digest.key. -/
theorem dkey_ok {w : World} {v : Val} {x : Value} {fs : List Nat} (h : VRep w v x fs) (hn : numsV v) (hok : okB v = true) : Calls Try.prog 86 #[x] w fun e w' => e = .returned (.tuple #[.string ⟨(encV v).toArray⟩, .bool true]) ∧ Below w.heap.size w w' := by
  have henc := Lib.hid (encode_ok h hn hok)
  have hx := h.one
  clear h hok hn
  go_enter Try.func86, Try.ntmps86
  go_wp2_with fail
  refine henc.out.mono ?_
  rintro e w1 ⟨sv, rfl, hown, hb1⟩
  have hone : sv.oneCell' = true := by obtain ⟨_, _, rfl, -⟩ := ownsRow_form hown; rfl
  have hcv := conv_own hown
  clear hown
  go_wp2
  go_ret2
  exact ⟨rfl, hb1⟩
theorem dkey_bad {w : World} {v : Val} {x : Value} {fs : List Nat} (h : VRep w v x fs) (hok : okB v = false) : Calls Try.prog 86 #[x] w fun e w' => e = .returned (.tuple #[.string ⟨#[]⟩, .bool false]) ∧ Below w.heap.size w w' := by
  have henc := Lib.hid (encode_bad h hok)
  have hx := h.one
  have hcv := fun W => conv_own (w := W) (B := 0) (v := .slice none 0 0) (bs := []) ⟨rfl, .inl ⟨rfl, rfl⟩⟩
  have hne : (whyF v == 0) = false := by simpa using why_bad hok
  clear h hok
  go_enter Try.func86, Try.ntmps86
  go_wp2_with fail
  refine henc.out.mono ?_
  rintro e w1 ⟨rfl, hb1⟩
  have hcv1 := hcv w1
  clear hcv
  go_wp2
  go_ret2
  exact ⟨rfl, hb1⟩

/-- An element of the map reads as itself. -/
def pairR (v : Value) : Option (DataW Value × List MemPlace) :=
  match v with
  | .agg cs => if (cs.toList.length == 2 && cs.toList.all Value.oneCell') = true then some (.held (.agg cs), []) else none
  | _ => none
theorem pairR_mk {a c : Value} (ha : a.oneCell' = true) (hc : c.oneCell' = true) : pairR (.agg #[a, c]) = some (.held (.agg #[a, c]), []) := by
  simp [pairR, ha, hc]
theorem pairR_inv {v : Value} {z : DataW Value × List MemPlace} (h : pairR v = some z) : ∃ a c, v = .agg #[a, c] ∧ z = (.held (.agg #[a, c]), []) ∧ a.oneCell' = true ∧ c.oneCell' = true := by
  unfold pairR at h
  split at h
  · rename_i cs
    split at h
    · rename_i hc
      obtain ⟨l⟩ := cs
      match l, hc with
      | [a, c], hc =>
        simp at hc
        cases h
        exact ⟨a, c, rfl, rfl, hc.1, hc.2⟩
      | [], hc => simp at hc
      | [_], hc => simp at hc
      | _ :: _ :: _ :: _, hc => simp at hc
    · cases h
  · cases h
/-- The key of a value's bytes. -/
def keyL (v : Val) : Lit := .string (encV v)
theorem keyL_key (v : Val) : WideAt.IsKeyLit (keyL v) := trivial
theorem keyL_of (v : Val) (h : (encV v).length ≤ 1099511627776) : keyOf Try.prog 9 (.string ⟨(encV v).toArray⟩) = some (keyL v) := by
  have h1 : (ByteArray.mk (encV v).toArray).size ≤ maxLen := by
    show (encV v).toArray.size ≤ maxLen
    unfold maxLen
    simp
    omega
  rw [WideMaps.keyOf_string_mk Try.underlying9 h1]
  unfold keyL
  simp
theorem stringK : Maps.Keyed Try.prog 9 := Maps.string_keyed Try.underlying9
/-- A map in cell 0 of block m reads as D. -/
def MapAt (w : World) (m : Nat) (o : Option Nat) (D : DataW Value) : Prop :=
  w.heap[m]? = some (.cells #[.map o] 49 (0, 0)) ∧ Maps.size D ≤ 4096 ∧
    (match o with | none => D = .map [] | some b => b ≠ m ∧ ∃ n, w.ownsMap Try.prog 9 pairR b n D)
theorem MapAt.isMap {w : World} {m : Nat} {o : Option Nat} {D : DataW Value} (h : MapAt w m o D) : Maps.IsMap D := by
  obtain ⟨-, -, h⟩ := h
  cases o with
  | none => exact ⟨[], h⟩
  | some b => obtain ⟨-, n, h⟩ := h; exact h.isMap
theorem MapAt.keep {w w' : World} {m : Nat} {o : Option Nat} {D : DataW Value} (h : MapAt w m o D) (hm : w'.heap[m]? = w.heap[m]?) (ho : ∀ b, o = some b → w'.heap[b]? = w.heap[b]?) : MapAt w' m o D := by
  obtain ⟨h1, h2, h3⟩ := h
  refine ⟨hm.trans h1, h2, ?_⟩
  cases o with
  | none => exact h3
  | some b =>
    obtain ⟨hne, n, es, clock, hb, F, hs, hD⟩ := h3
    exact ⟨hne, n, es, clock, (ho b rfl).trans hb, F, hs, hD⟩
theorem MapAt.lt {w : World} {m : Nat} {o : Option Nat} {D : DataW Value} (h : MapAt w m o D) : m < w.heap.size ∧ ∀ b, o = some b → b < w.heap.size := by
  obtain ⟨h1, -, h3⟩ := h
  refine ⟨(Array.getElem?_eq_some_iff.1 h1).1, fun b hb => ?_⟩
  subst hb
  obtain ⟨-, n, h⟩ := h3
  exact h.lt
theorem MapAt.below {w w' : World} {m : Nat} {o : Option Nat} {D : DataW Value} (h : MapAt w m o D) (hb : Below w.heap.size w w') : MapAt w' m o D :=
  h.keep (hb.block m h.lt.1) (fun b e => hb.block b (h.lt.2 b e))
/-- What stands under a key: its two cells, nil where nothing stands. -/
def pairAt (D : DataW Value) (k : Lit) : Value := match D.atKey k (.held (.agg #[.nilIface, .nilIface])) with | .held v => v | _ => .nilIface
theorem pair_zero (W : World) : (zeroValue 151).run Try.prog W = .ok (.agg #[.nilIface, .nilIface]) W := by kernel_rfl
/-- A look-up: what comes back and whether it was there. -/
theorem MapAt.look {w : World} {m : Nat} {o : Option Nat} {D : DataW Value} (h : MapAt w m o D) {key : Value} {kl : Lit} (hkey : keyOf Try.prog 9 key = some kl) :
    ∃ a c, (Instr.lookup 47 (.map o) key true).run Try.prog w = .ok (.tuple #[.agg #[a, c], .bool (Maps.has D kl)]) w ∧ D.atKey kl (.held (.agg #[.nilIface, .nilIface])) = .held (.agg #[a, c]) ∧ a.oneCell' = true ∧ c.oneCell' = true := by
  obtain ⟨-, -, h3⟩ := h
  cases o with
  | none =>
    obtain rfl : D = .map [] := h3
    exact ⟨.nilIface, .nilIface, Maps.look_nil true stringK Try.underlying47 (pair_zero w) hkey, rfl, rfl, rfl⟩
  | some b =>
    obtain ⟨-, n, h⟩ := h3
    obtain ⟨v, ps, hrun, hv⟩ := h.look_ok stringK Try.underlying47 (pair_zero w) (pairR_mk rfl rfl) hkey
    obtain ⟨a, c, rfl, hz, ha, hc⟩ := pairR_inv hv
    have hz1 := congrArg Prod.fst hz
    exact ⟨a, c, hrun, hz1, ha, hc⟩
theorem MapAt.look_at {w : World} {m : Nat} {o : Option Nat} {D : DataW Value} (h : MapAt w m o D) {key : Value} {kl : Lit} (hkey : keyOf Try.prog 9 key = some kl) {a c : Value} (hat : D.atKey kl (.held (.agg #[.nilIface, .nilIface])) = .held (.agg #[a, c])) :
    (Instr.lookup 47 (.map o) key true).run Try.prog w = .ok (.tuple #[.agg #[a, c], .bool (Maps.has D kl)]) w ∧ a.oneCell' = true ∧ c.oneCell' = true := by
  obtain ⟨a', c', hrun, hat', ha, hc⟩ := h.look hkey
  rw [hat] at hat'
  cases hat'
  exact ⟨hrun, ha, hc⟩
theorem MapAt.len {w : World} {m : Nat} {o : Option Nat} {D : DataW Value} (h : MapAt w m o D) (ty : TypeId) : (Builtin.len_ #[47] ty #[.map o]).run Try.prog w = .ok (.int .i64 (Maps.size D)) w := by
  obtain ⟨-, -, h3⟩ := h
  cases o with
  | none => obtain rfl : D = .map [] := h3; exact Maps.len_nil Try.underlying47 ty
  | some b => obtain ⟨-, n, h⟩ := h3; exact h.len Try.underlying47 ty
theorem size_del_le {D : DataW Value} (k : Lit) : Maps.size (D.del k) ≤ Maps.size D := by
  cases D <;> try exact Nat.le_refl _
  exact List.length_filter_le _ _
/-- A key is struck. -/
theorem MapAt.drop {w : World} {m : Nat} {o : Option Nat} {D : DataW Value} (h : MapAt w m o D) {key : Value} {kl : Lit} (hkey : keyOf Try.prog 9 key = some kl) (ty : TypeId) :
    ∃ w', (Builtin.delete_ #[47, 9] ty #[.map o, key]).run Try.prog w = .ok (.tuple #[]) w' ∧ MapAt w' m o (D.del kl) ∧ But (fun b => o = some b) w w' ∧ w'.heap.size = w.heap.size := by
  have hlt := h.lt
  obtain ⟨h1, h2, h3⟩ := h
  cases o with
  | none =>
    obtain rfl : D = .map [] := h3
    exact ⟨w, Maps.drop_nil stringK Try.underlying47 hkey ty, ⟨h1, h2, rfl⟩, But.refl _ _, rfl⟩
  | some b =>
    obtain ⟨hne, n, h⟩ := h3
    obtain ⟨w', hrun, hown, hturn⟩ := h.drop stringK Try.underlying47 hkey ty
    have hg := hturn.grown
    refine ⟨w', hrun, ⟨(hg.block m hlt.1 (fun e => hne (Option.some.inj e).symm)).trans h1, Nat.le_trans (size_del_le kl) h2, hne, n, hown⟩, ⟨hg.os, hg.tape, hg.output, hg.size, fun k hk hs => hg.block k hk (fun e => hs e.symm)⟩, ?_⟩
    obtain ⟨_, _, _, _, _, rfl⟩ := hturn
    simp [ChangeMaps.setBlock]
/-- Len. -/
theorem mapLen {w : World} {m : Nat} {o : Option Nat} {D : DataW Value} (h : MapAt w m o D) : Calls Try.prog 26 #[.pointer (some ⟨m, 0, none⟩)] w fun e w' => e = .returned (.int .i64 (Maps.size D)) ∧ Below w.heap.size w w' := by
  have hl := h.len 3
  have hc : w.cell? ⟨m, 0, none⟩ = some (.map o) := block_cells h.1 0
  clear h
  go_enter Try.func26, Try.ntmps26
  go_wp2
  go_ret
  exact ⟨rfl, Below.refl _ _⟩
theorem mapGet_bad {w : World} {m : Nat} {v : Val} {x : Value} {fs : List Nat} (h : VRep w v x fs) (hok : okB v = false) : Calls Try.prog 22 #[.pointer (some ⟨m, 0, none⟩), x] w fun e w' => e = .returned (.tuple #[.nilIface, .bool false]) ∧ Below w.heap.size w w' := by
  have hx := h.one
  have hk := Lib.hid (dkey_bad h hok)
  clear h
  go_enter Try.func22, Try.ntmps22
  go_wp2_with fail
  refine hk.out.mono ?_
  rintro e w1 ⟨rfl, hb1⟩
  go_wp2
  go_ret2
  exact ⟨rfl, hb1⟩
theorem mapDelete_bad {w : World} {m : Nat} {v : Val} {x : Value} {fs : List Nat} (h : VRep w v x fs) (hok : okB v = false) : Calls Try.prog 24 #[.pointer (some ⟨m, 0, none⟩), x] w fun e w' => e = .returned (.tuple #[.nilIface, .bool false]) ∧ Below w.heap.size w w' := by
  have hx := h.one
  have hk := Lib.hid (dkey_bad h hok)
  clear h
  go_enter Try.func24, Try.ntmps24
  go_wp2_with fail
  refine hk.out.mono ?_
  rintro e w1 ⟨rfl, hb1⟩
  go_wp2
  go_ret2
  exact ⟨rfl, hb1⟩
/-- Get of a key that can be: a copy of what stands there; nil where nothing stands. -/
theorem mapGet_ok {w : World} {m : Nat} {o : Option Nat} {D : DataW Value} (hm : MapAt w m o D) {v : Val} {x : Value} {fs : List Nat} (h : VRep w v x fs) (hn : numsV v) (hok : okB v = true)
    {u : Val} {a c : Value} {gs : List Nat} (hat : D.atKey (keyL v) (.held (.agg #[.nilIface, .nilIface])) = .held (.agg #[a, c])) (hu : VRep w u c gs) (huk : okB u = true) :
    Calls Try.prog 22 #[.pointer (some ⟨m, 0, none⟩), x] w fun e w' => ∃ y gy, e = .returned (.tuple #[y, .bool (Maps.has D (keyL v))]) ∧ VRep w' u y gy ∧ gy.Nodup ∧ (∀ b ∈ gy, w.heap.size ≤ b) ∧ Below w.heap.size w w' := by
  have hx := h.one
  have hk := Lib.hid (dkey_ok h hn hok)
  have hkey := keyL_of v (enc_small hn hok)
  have hlook := Lib.hid (fun W (hb : Below w.heap.size w W) => (hm.below hb).look_at hkey hat)
  have hmc := Lib.hid (fun W (hb : Below w.heap.size w W) => (show W.cell? ⟨m, 0, none⟩ = some (.map o) from block_cells (hm.below hb).1 0))
  have huH := Lib.hid (fun W (hb : Below w.heap.size w W) => dcopied_ok (VRep.but hu (below_but0 hb) (fun _ _ f => f)) huk)
  have hcone := hu.one
  clear h hm hkey hu hat
  go_enter Try.func22, Try.ntmps22
  go_wp2_with fail
  refine hk.out.mono ?_
  rintro e w1 ⟨rfl, hb1⟩
  obtain ⟨hrun, ha1, hc1⟩ := hlook.out w1 hb1
  have hmc1 := hmc.out w1 hb1
  go_wp2_with fail
  refine (huH.out _ (hb1.alloc hb1.size _)).mono ?_
  rintro e w2 ⟨y, gy, rfl, hy, hyn, hyb, hb2⟩
  have hyone := hy.one
  have hyH := Lib.hid hy
  clear hy
  go_wp2
  go_ret2
  have hs1 := hb1.size
  have hb2' : Below w.heap.size w w2 := (hb1.alloc hb1.size _).trans (below_le hb2 (by simp; omega))
  exact ⟨y, gy, rfl, hyH.out, hyn, fun b hb => by have h1 := hyb b hb; have h2 : (w1.alloc (Obj.cells #[a, c] 151)).heap.size = w1.heap.size + 1 := by simp
                                                  omega, hb2'⟩
set_option maxRecDepth 100000 in
theorem mapDelete_ok {w : World} {m : Nat} {o : Option Nat} {D : DataW Value} (hm : MapAt w m o D) {v : Val} {x : Value} {fs : List Nat} (h : VRep w v x fs) (hn : numsV v) (hok : okB v = true)
    {a c : Value} (hat : D.atKey (keyL v) (.held (.agg #[.nilIface, .nilIface])) = .held (.agg #[a, c])) :
    Calls Try.prog 24 #[.pointer (some ⟨m, 0, none⟩), x] w fun e w' => e = .returned (.tuple #[c, .bool (Maps.has D (keyL v))]) ∧ MapAt w' m o (D.del (keyL v)) ∧ But (fun b => o = some b) w w' := by
  have hx := h.one
  have hk := Lib.hid (dkey_ok h hn hok)
  have hkey := keyL_of v (enc_small hn hok)
  have hlook := Lib.hid (fun W (hb : Below w.heap.size w W) => (hm.below hb).look_at hkey hat)
  have hdrop := Lib.hid (fun W (hb : Below w.heap.size w W) => (hm.below hb).drop hkey 0)
  have hmc := Lib.hid (fun W (hb : Below w.heap.size w W) => (show W.cell? ⟨m, 0, none⟩ = some (.map o) from block_cells (hm.below hb).1 0))
  have hlt := hm.lt
  clear h hm hkey hat
  go_enter Try.func24, Try.ntmps24
  go_wp2_with fail
  refine hk.out.mono ?_
  rintro e w1 ⟨rfl, hb1⟩
  obtain ⟨hrun, ha1, hc1⟩ := hlook.out w1 hb1
  have hmc1 := hmc.out w1 hb1
  obtain ⟨w2, hdel, hm2, hbut2, hsz2⟩ := hdrop.out _ (hb1.alloc hb1.size (Obj.cells #[a, c] 151))
  have hml : m < w1.heap.size := Nat.lt_of_lt_of_le hlt.1 hb1.size
  have hcc : w2.cell? ⟨w1.heap.size, 1, none⟩ = some c := (hbut2.cell (p := ⟨w1.heap.size, 1, none⟩) (by simp) (fun e => absurd (Nat.lt_of_lt_of_le (hlt.2 _ e) hb1.size) (Nat.lt_irrefl _))).trans (by simp [go_sem])
  have hm2H := Lib.hid hm2
  have hbutH := Lib.hid (show But (fun b => o = some b) w w2 from ((below_but0 hb1).alloc (Obj.cells #[a, c] 151)).mono (fun _ _ f => f.elim) |>.trans hbut2)
  clear hm2 hbut2
  go_wp2
  go_ret2
  exact ⟨rfl, hm2H.out, hbutH.out⟩
end Go.Proofs.Ytgmdbpplfjkjmaa

/-! digest.Map's Put. -/
namespace Go.Proofs.Ytgmdbpplfjkjmaa
open Go.RowKit
set_option linter.unusedVariables false
set_option linter.unusedSimpArgs false

theorem ownsMap_size {w : World} {b n : Nat} {D : DataW Value} (h : w.ownsMap Try.prog 9 pairR b n D) : w.ownsMap Try.prog 9 pairR b (Maps.size D) D := by
  obtain ⟨es, clock, hb, F, hs, rfl⟩ := h
  refine ⟨es, clock, hb, F, ?_, rfl⟩
  rw [Maps.size_eq, length_sorted]
  simp
/-- A pair is laid under a key. -/
theorem MapAt.store {w : World} {m b : Nat} {D : DataW Value} (h : MapAt w m (some b) D) {key : Value} {kl : Lit} (hkey : keyOf Try.prog 9 key = some kl) (hroom : Maps.has D kl = true ∨ Maps.size D < 4096) {a c : Value} (ha : a.oneCell' = true) (hc : c.oneCell' = true) :
    ∃ w', (Instr.mapUpdate 47 (.map (some b)) key (.agg #[a, c])).run Try.prog w = .ok () w' ∧ MapAt w' m (some b) (D.put kl (.held (.agg #[a, c]))) ∧ But (fun i => i = b) w w' ∧ w'.heap.size = w.heap.size := by
  have hlt := h.lt
  obtain ⟨h1, h2, hne, n, h⟩ := h
  have hh := ownsMap_size h
  obtain ⟨w', hrun, hown, hturn⟩ := hh.store stringK Try.underlying47 (show Maps.size D < maxLen by unfold maxLen; omega) hkey (pairR_mk ha hc)
  have hg := hturn.grown
  have hsz : Maps.size (D.put kl (.held (.agg #[a, c]))) ≤ 4096 := by
    rw [Maps.size_put (hh.tidy stringK)]
    rcases hroom with hr | hr
    · rw [hr]; exact h2
    · split <;> omega
  refine ⟨w', hrun, ⟨(hg.block m hlt.1 (fun e => hne (Option.some.inj e).symm)).trans h1, hsz, hne, _, hown⟩, ⟨hg.os, hg.tape, hg.output, hg.size, fun k hk hs => hg.block k hk (fun e => hs (Option.some.inj e))⟩, ?_⟩
  obtain ⟨_, _, _, _, _, rfl⟩ := hturn
  simp [ChangeMaps.setBlock]
theorem mapPut_badKey {w : World} {m : Nat} {k v : Val} {x y : Value} {fs : List Nat} (h : VRep w k x fs) (hok : okB k = false) (hy : y.oneCell' = true) : Calls Try.prog 16 #[.pointer (some ⟨m, 0, none⟩), x, y] w fun e w' => e = .returned (.tuple #[.nilIface, .bool false, .int .i64 (whyF k)]) ∧ Below w.heap.size w w' := by
  have hx := h.one
  have hk := Lib.hid (encode_bad h hok)
  have hne : (whyF k != 0) = true := by simpa using why_bad hok
  clear h
  go_enter Try.func16, Try.ntmps16
  go_wp2_with fail
  refine hk.out.mono ?_
  rintro e w1 ⟨rfl, hb1⟩
  go_wp2
  go_ret3
  exact ⟨rfl, hb1⟩
set_option maxRecDepth 100000 in
theorem mapPut_badVal {w : World} {m : Nat} {k v : Val} {x y : Value} {fs gs : List Nat} (h : VRep w k x fs) (hn : numsV k) (hok : okB k = true) (hv : VRep w v y gs) (hvk : okB v = false) :
    Calls Try.prog 16 #[.pointer (some ⟨m, 0, none⟩), x, y] w fun e w' => e = .returned (.tuple #[.nilIface, .bool false, .int .i64 (whyF v)]) ∧ Below w.heap.size w w' := by
  have hx := h.one
  have hy := hv.one
  have hk := Lib.hid (encode_ok h hn hok)
  have hc := Lib.hid (fun W (hb : Below w.heap.size w W) => Check_any (VRep.but hv (below_but0 hb) (fun _ _ f => f)))
  have hne : ¬ (checkF v).2 = 0 := why_bad hvk
  unfold whyF
  generalize checkF v = cf at *
  obtain ⟨n0, y0⟩ := cf
  have hy0 : (y0 != 0) = true := by simpa using hne
  clear h hv hne
  go_enter Try.func16, Try.ntmps16
  go_wp2_with fail
  refine hk.out.mono ?_
  rintro e w1 ⟨sv, rfl, hown, hb1⟩
  have hone : sv.oneCell' = true := by obtain ⟨_, _, rfl, -⟩ := ownsRow_form hown; rfl
  clear hown
  go_wp2_with fail
  refine (hc.out _ hb1).mono ?_
  rintro e w2 ⟨rfl, hb2⟩
  go_wp2
  go_ret3
  exact ⟨rfl, hb1.trans (below_le hb2 hb1.size)⟩
theorem run_buildPair (x y : Value) (hx : x.oneCell' = true) (h : y.oneCell' = true) (W : World) : (Instr.build 151 #[(0, x), (1, y)]).run Try.prog W = .ok (.agg #[x, y]) W := by
  cases x <;> cases y <;> first | (cases h; done) | (cases hx; done) | kernel_rfl
theorem frozen_block {w : World} {b : Nat} {cs : Array Value} {t : TypeId} (h : w.heap[b]? = some (.cells cs t (0, 0))) (j : Nat) : w.frozen? ⟨b, j, none⟩ = false := by simp [World.frozen?, h]
theorem map_made {w : World} {m : Nat} {D : DataW Value} (h : MapAt w m none D) : MapAt ((w.setCell ⟨m, 0, none⟩ (.map (some w.heap.size))).alloc (Obj.map #[] 0)) m (some w.heap.size) D := by
  have hlt := h.lt.1
  obtain ⟨h1, h2, h3⟩ := h
  obtain rfl : D = .map [] := h3
  have hs : (w.setCell ⟨m, 0, none⟩ (.map (some w.heap.size))).heap.size = w.heap.size := by simp [World.setCell]
  refine ⟨?_, h2, by omega, 0, ?_⟩
  · rw [Below.heap_alloc _ _ _ (by rw [hs]; exact hlt)]
    simp [World.setCell, h1, Array.getElem?_modify]
  · have := World.ownsMap_made (H := Value) (w.setCell ⟨m, 0, none⟩ (.map (some w.heap.size))) Try.prog 9 pairR
    rw [hs] at this
    exact this
/-- What Put answers of a key and a value that can be, where there is room. -/
def PutEnd (w : World) (m : Nat) (o : Option Nat) (D : DataW Value) (k v : Val) (was : Value) (e : Ending) (w' : World) : Prop :=
  ∃ b a c ga gc, e = .returned (.tuple #[was, .bool (Maps.has D (keyL k)), .int .i64 0]) ∧ MapAt w' m (some b) (D.put (keyL k) (.held (.agg #[a, c]))) ∧ VRep w' k a ga ∧ VRep w' v c gc ∧ ga.Nodup ∧ gc.Nodup ∧ (∀ i ∈ ga, i ∉ gc) ∧ (∀ i ∈ ga ++ gc, w.heap.size ≤ i ∧ i ≠ b) ∧
    (o = some b ∨ o = none ∧ w.heap.size ≤ b) ∧ But (fun i => o = some i ∨ o = none ∧ i = m) w w'
set_option maxRecDepth 100000 in
set_option maxHeartbeats 3200000 in
theorem mapPut_ok {w : World} {m : Nat} {o : Option Nat} {D : DataW Value} (hm : MapAt w m o D) {k v : Val} {x y : Value} {fs gs : List Nat} (h : VRep w k x fs) (hn : numsV k) (hok : okB k = true) (hv : VRep w v y gs) (hvk : okB v = true)
    {a0 c0 : Value} (hat : D.atKey (keyL k) (.held (.agg #[.nilIface, .nilIface])) = .held (.agg #[a0, c0])) (hroom : Maps.has D (keyL k) = true ∨ Maps.size D < 4096) (hfk : m ∉ fs) (hfv : m ∉ gs) :
    Calls Try.prog 16 #[.pointer (some ⟨m, 0, none⟩), x, y] w (PutEnd w m o D k v c0) := by
  have hx := h.one
  have hy := hv.one
  have hk := Lib.hid (encode_ok h hn hok)
  have hc := Lib.hid (fun W (hb : Below w.heap.size w W) => Check_any (VRep.but hv (below_but0 hb) (fun _ _ f => f)))
  rw [check_ok hvk] at hc
  have hkey := keyL_of k (enc_small hn hok)
  have hlook := Lib.hid (fun W (hb : Below w.heap.size w W) => (hm.below hb).look_at hkey hat)
  have hmc := Lib.hid (fun W (hb : Below w.heap.size w W) => (show W.cell? ⟨m, 0, none⟩ = some (.map o) from block_cells (hm.below hb).1 0))
  have hlt := hm.lt
  have hmH := Lib.hid hm
  have hkeyH := Lib.hid hkey
  have hroomH := Lib.hid hroom
  have hroomF := Lib.hid (fun (hF : Maps.has D (keyL k) = false) => (show Maps.size D < 4096 from hroom.elim (fun e => by rw [hF] at e; cases e) id))
  have hck := Lib.hid (fun W (hb : But (fun i => i = m) w W) => dcopied_ok (VRep.but h hb (fun b hb' e => hfk (e ▸ hb'))) hok)
  have hcvv := Lib.hid (fun W (hb : But (fun i => i = m) w W) => dcopied_ok (VRep.but hv hb (fun b hb' e => hfv (e ▸ hb'))) hvk)
  clear h hm hkey hat hv hroom
  go_enter Try.func16, Try.ntmps16
  go_wp2_with fail
  refine hk.out.mono ?_
  rintro e w1 ⟨sv, rfl, hown, hb1⟩
  have hone : sv.oneCell' = true := by obtain ⟨_, _, rfl, -⟩ := ownsRow_form hown; rfl
  have hcv := Lib.hid (fun (W : World) (hb : ∀ i, w.heap.size ≤ i → i < w1.heap.size → W.heap[i]? = w1.heap[i]?) => conv_own (ownsRow_keep hown (fun b hb' => hb b (ownsRow_lt hown b hb').1 (ownsRow_lt hown b hb').2)))
  have hm0 : Hid (∀ {a c : World}, But (fun _ => False) a c → But (fun i => i = m) a c) := Lib.hid (fun h => h.mono (fun _ _ f => f.elim))
  clear hown
  go_wp2_with fail
  refine (hc.out _ hb1).mono ?_
  rintro e w2 ⟨rfl, hb2⟩
  obtain ⟨-, ha0, hc0⟩ := hlook.out w (Below.refl _ _)
  have hbw2 : Below w.heap.size w w2 := hb1.trans (below_le hb2 hb1.size)
  go_wp2_with fail
  have hS7 := Lib.hid (fun W (hb : Below w.heap.size w W) (hb' : Below w1.heap.size w1 W) => (⟨hmc.out W hb, hcv.out W (fun i _ h2 => hb'.block i h2)⟩ : W.cell? ⟨m, 0, none⟩ = some (.map o) ∧ (convert 26 9 sv).run Try.prog W = .ok (.string ⟨(encV k).toArray⟩) W))
  refine wp_region_held_drew (S := (fun w' => w'.cell? ⟨m, 0, none⟩ = some (.map o) ∧ (convert 26 9 sv).run Try.prog w' = .ok (.string ⟨(encV k).toArray⟩) w')) (by kernel_rfl) (hS7.out _ hbw2.drew hb2.drew) (fun hHeld => ?_)
  refine wpAnyH_take (i := 0) (v := ?vq1) rfl (by kernel_rfl) (by kernel_rfl) (by kernel_rfl) (fun _ _ _ h => h) (.inl ⟨by rfl, ?hyq1⟩) (by assumption) ?restq1
  case hyq1 => (intro w hSw; (try dsimp only at hSw); go_simp; first | done | with_reducible rfl)
  (try simp only [Act.put, pu1, pu2, pu3, pu4, pu5, pu6])
  refine wpAnyH_take (i := 1) (v := ?vq2) rfl (by kernel_rfl) (by kernel_rfl) (by kernel_rfl) (fun _ _ _ h => h) (.inl ⟨by rfl, ?hyq2⟩) (by assumption) ?restq2
  case hyq2 => (intro w hSw; (try dsimp only at hSw); go_simp; first | done | with_reducible rfl)
  (try simp only [Act.put, pu1, pu2, pu3, pu4, pu5, pu6])
  refine wpAnyH_take (i := 2) (v := ?vq3) rfl (by kernel_rfl) (by kernel_rfl) (by kernel_rfl) (fun _ _ _ h => h) (.inl ⟨by rfl, ?hyq3⟩) (by assumption) ?restq3
  case hyq3 => (intro w hSw; (try dsimp only at hSw); go_simp; first | done | with_reducible rfl)
  (try simp only [Act.put, pu1, pu2, pu3, pu4, pu5, pu6])
  refine wpAnyH_take (i := 3) (v := ?vq4) rfl (by kernel_rfl) (by kernel_rfl) (by kernel_rfl) (fun _ _ _ h => h) (.inl ⟨by rfl, ?hyq4⟩) (by assumption) ?restq4
  case hyq4 => (intro w hSw; (try dsimp only at hSw); go_simp; first | done | with_reducible rfl)
  (try simp only [Act.put, pu1, pu2, pu3, pu4, pu5, pu6])
  refine wpAnyH_take (i := 4) (v := ?vq5) rfl (by kernel_rfl) (by kernel_rfl) (by kernel_rfl) (fun _ _ _ h => h) (.inl ⟨by rfl, ?hyq5⟩) (by assumption) ?restq5
  case hyq5 => (intro w hSw; (try dsimp only at hSw); go_simp; first | done | with_reducible rfl)
  (try simp only [Act.put, pu1, pu2, pu3, pu4, pu5, pu6])
  refine wpAnyH_take (i := 5) (v := ?vq6) rfl (by kernel_rfl) (by kernel_rfl) (by kernel_rfl) (fun _ _ _ h => h) (.inl ⟨by rfl, ?hyq6⟩) (by assumption) ?restq6
  case hyq6 => (intro w hSw; (try dsimp only at hSw); go_simp; first | done | with_reducible rfl)
  (try simp only [Act.put, pu1, pu2, pu3, pu4, pu5, pu6])
  refine wpAnyH_ready (rs := [6, 10]) (by kernel_rfl) (by simp) ?_
  refine AllReadyH.cons rfl (fun K hK => ?_) (AllReadyH.cons rfl (fun K hK => ?_) AllReadyH.nil)
  · rw [if_pos (by rfl)]
    have hrun := (hlook.out _ hbw2.drew).1
    go_simp
    refine hK.out _ _ ?_ (fun hHeld2 => ?_)
    · exact hS7.out _ hbw2.drew hb2.drew
    clear hK K
    (try simp only [Act.put, pu1, pu2, pu3, pu4, pu5, pu6])
    refine wpAnyH_take (i := 7) (v := ?vq7) rfl (by kernel_rfl) (by kernel_rfl) (by kernel_rfl) (fun _ _ _ h => h) (.inl ⟨by rfl, ?hyq7⟩) (by assumption) ?restq7
    case hyq7 => (intro w hSw; (try dsimp only at hSw); go_simp; first | done | with_reducible rfl)
    (try simp only [Act.put, pu1, pu2, pu3, pu4, pu5, pu6])
    refine wpAnyH_take (i := 8) (v := ?vq8) rfl (by kernel_rfl) (by kernel_rfl) (by kernel_rfl) (fun _ _ _ h => h) (.inl ⟨by rfl, ?hyq8⟩) (by assumption) ?restq8
    case hyq8 => (intro w hSw; (try dsimp only at hSw); go_simp; first | done | with_reducible rfl)
    (try simp only [Act.put, pu1, pu2, pu3, pu4, pu5, pu6])
    refine wpAnyH_take (i := 9) (v := ?vq9) rfl (by kernel_rfl) (by kernel_rfl) (by kernel_rfl) (fun _ _ _ h => h) (.inl ⟨by rfl, ?hyq9⟩) (by assumption) ?restq9
    case hyq9 => (intro w hSw; (try dsimp only at hSw); go_simp; first | done | with_reducible rfl)
    (try simp only [Act.put, pu1, pu2, pu3, pu4, pu5, pu6])
    refine wpAnyH_ready (rs := [10]) (by kernel_rfl) (by simp) ?_
    refine AllReadyH.cons rfl (fun K hK => ?_) AllReadyH.nil
    rw [if_pos (by rfl)]
    go_simp
    refine hK.out _ _ ?_ (fun hHeld2 => ?_)
    · exact hS7.out _ (hbw2.alloc hbw2.size (Obj.cells #[Value.nilIface, Value.nilIface] 151)).drew (hb2.alloc hb2.size _).drew
    clear hK K
    (try simp only [Act.put, pu1, pu2, pu3, pu4, pu5, pu6])
    refine wpAnyH_ready (rs := [11]) (by kernel_rfl) (by simp) ?_
    refine AllReadyH.cons rfl (fun K hK => ?_) AllReadyH.nil
    rw [if_pos (by rfl)]
    go_simp
    refine hK.out _ _ ?_ (fun hHeld2 => ?_)
    · exact hS7.out _ (hbw2.alloc hbw2.size _).drew (hb2.alloc hb2.size _).drew
    clear hK K
    (try simp only [Act.put, pu1, pu2, pu3, pu4, pu5, pu6])
    refine wpAnyH_take (i := 12) (v := ?vq10) rfl (by kernel_rfl) (by kernel_rfl) (by kernel_rfl) (fun _ _ _ h => h) (.inl ⟨by rfl, ?hyq10⟩) (by assumption) ?restq10
    case hyq10 => (intro w hSw; (try dsimp only at hSw); go_simp; first | done | with_reducible rfl)
    (try simp only [Act.put, pu1, pu2, pu3, pu4, pu5, pu6])
    refine wpAnyH_done (by kernel_rfl) ?_ _
    have hbw3 : Below w.heap.size w (w2.alloc (Obj.cells #[a0, c0] 151)).drew := (hbw2.alloc hbw2.size _).drew
    have hcc3 : (w2.alloc (Obj.cells #[a0, c0] 151)).drew.cell? ⟨w2.heap.size, 1, none⟩ = some c0 := by simp [go_sem]
    have hl3 : w2.heap.size < (w2.alloc (Obj.cells #[a0, c0] 151)).drew.heap.size := by simp
    have hb13 : Below w1.heap.size w1 (w2.alloc (Obj.cells #[a0, c0] 151)).drew := (hb2.alloc hb2.size _).drew
    have hm3 := hmH.out.below hbw3
    generalize (w2.alloc (Obj.cells #[a0, c0] 151)).drew = w3 at hbw3 hcc3 hl3 hb13 hm3 ⊢
    clear hHeld
    have hlen3 := hm3.len 3
    have hmc3 := hmc.out w3 hbw3
    obtain ⟨B, hB⟩ : ∃ B, B = Maps.has D (keyL k) := ⟨_, rfl⟩
    have hBH := Lib.hid hB
    rw [← hB]
    clear hB
    cases B with
    | false =>
      have hsz : ¬ ((4096 : Int) ≤ (Maps.size D : Int)) := by have := hroomF.out hBH.out.symm; omega
      cases o with
      | none =>
        have heq3 := run_eql_map_nil w3 47 9 151 none Try.underlying47
        have hmk3 := run_makeMap (P := Try.prog) 47 w3
        have hml3 : m < w3.heap.size := Nat.lt_of_lt_of_le hlt.1 hbw3.size
        have hfz3 := frozen_block hm3.1 0
        go_wp2_with fail
        obtain ⟨W, hW⟩ : ∃ W, W = (w3.setCell ⟨m, 0, none⟩ (.map (some w3.heap.size))).alloc (Obj.map #[] 0) := ⟨_, rfl⟩
        have hm4 : MapAt W m (some w3.heap.size) D := by rw [hW]; exact map_made hm3
        have hmne : ¬ w2.heap.size = m := by have := hlt.1; have := hbw2.size; omega
        have hcc4 : W.cell? ⟨w2.heap.size, 1, none⟩ = some c0 := by rw [hW]; simp [go_sem, hl3, hmne, hcc3]
        have hl4 : w2.heap.size < W.heap.size := by rw [hW]; simp; omega
        have hbut4 : But (fun i => i = m) w W := by rw [hW]; exact ((hm0.out (below_but0 hbw3)).setCell (fun _ => rfl) _).alloc _
        have hbut14 : But (fun i => i = m) w1 W := by rw [hW]; exact ((hm0.out (below_but0 hb13)).setCell (fun _ => rfl) _).alloc _
        have hne4 : ¬ w2.heap.size = w3.heap.size := by omega
        have hb4 : w.heap.size ≤ w3.heap.size := hbw3.size
        have hb4q : w1.heap.size ≤ w3.heap.size := hb13.size
        rw [← hW]
        clear hW
        generalize w3.heap.size = b4 at *
        clear hm3 hcc3 hlen3 hmc3 heq3 hmk3 hfz3 hml3
        have hb4r : b4 < w.heap.size ∨ w1.heap.size ≤ b4 := .inr hb4q
        have hbutS4 : But (fun i => (none : Option Nat) = some i ∨ (none : Option Nat) = none ∧ i = m) w W := hbut4.mono (fun _ _ e => .inr ⟨rfl, e⟩)
        have hS12 := Lib.hid (fun W9 (hb : Below W.heap.size W.drew W9) => (⟨(block_cells (hm4.keep (w' := W9) (hb.block m hm4.lt.1) (fun b e => hb.block b (hm4.lt.2 b e))).1 0), hcv.out W9 (fun i h1 h2 => (hb.block i (Nat.lt_of_lt_of_le h2 hbut14.size)).trans (hbut14.drew.block i h2 (fun e => by have := hlt.1; omega)))⟩ : W9.cell? ⟨m, 0, none⟩ = some (.map (some b4)) ∧ (convert 26 9 sv).run Try.prog W9 = .ok (.string ⟨(encV k).toArray⟩) W9))
        have hm4H := Lib.hid hm4
        clear hm4
        refine wp_region_held_drew (S := (fun w' => w'.cell? ⟨m, 0, none⟩ = some (.map (some b4)) ∧ (convert 26 9 sv).run Try.prog w' = .ok (.string ⟨(encV k).toArray⟩) w')) (by kernel_rfl) (hS12.out _ (Below.refl _ _)) (fun hHeld => ?_)
        refine wpAnyH_take (i := 0) (v := ?vr11) rfl (by kernel_rfl) (by kernel_rfl) (by kernel_rfl) (fun _ _ _ h => h) (.inl ⟨by rfl, ?hyr11⟩) (by assumption) ?restr11
        case hyr11 => (intro w hSw; (try dsimp only at hSw); go_simp; first | done | with_reducible rfl)
        (try simp only [Act.put, pu1, pu2, pu3, pu4, pu5, pu6])
        refine wpAnyH_take (i := 1) (v := ?vr12) rfl (by kernel_rfl) (by kernel_rfl) (by kernel_rfl) (fun _ _ _ h => h) (.inl ⟨by rfl, ?hyr12⟩) (by assumption) ?restr12
        case hyr12 => (intro w hSw; (try dsimp only at hSw); go_simp; first | done | with_reducible rfl)
        (try simp only [Act.put, pu1, pu2, pu3, pu4, pu5, pu6])
        refine wpAnyH_take (i := 2) (v := ?vr13) rfl (by kernel_rfl) (by kernel_rfl) (by kernel_rfl) (fun _ _ _ h => h) (.inl ⟨by rfl, ?hyr13⟩) (by assumption) ?restr13
        case hyr13 => (intro w hSw; (try dsimp only at hSw); go_simp; first | done | with_reducible rfl)
        (try simp only [Act.put, pu1, pu2, pu3, pu4, pu5, pu6])
        refine wpAnyH_take (i := 3) (v := ?vr14) rfl (by kernel_rfl) (by kernel_rfl) (by kernel_rfl) (fun _ _ _ h => h) (.inl ⟨by rfl, ?hyr14⟩) (by assumption) ?restr14
        case hyr14 => (intro w hSw; (try dsimp only at hSw); go_simp; first | done | with_reducible rfl)
        (try simp only [Act.put, pu1, pu2, pu3, pu4, pu5, pu6])
        refine wpAnyH_take (i := 4) (v := ?vr15) rfl (by kernel_rfl) (by kernel_rfl) (by kernel_rfl) (fun _ _ _ h => h) (.inl ⟨by rfl, ?hyr15⟩) (by assumption) ?restr15
        case hyr15 => (intro w hSw; (try dsimp only at hSw); go_simp; first | done | with_reducible rfl)
        (try simp only [Act.put, pu1, pu2, pu3, pu4, pu5, pu6])
        refine wpAnyH_take (i := 5) (v := ?vr16) rfl (by kernel_rfl) (by kernel_rfl) (by kernel_rfl) (fun _ _ _ h => h) (.inl ⟨by rfl, ?hyr16⟩) (by assumption) ?restr16
        case hyr16 => (intro w hSw; (try dsimp only at hSw); go_simp; first | done | with_reducible rfl)
        (try simp only [Act.put, pu1, pu2, pu3, pu4, pu5, pu6])
        refine wpAnyH_take (i := 6) (v := ?vr17) rfl (by kernel_rfl) (by kernel_rfl) (by kernel_rfl) (fun _ _ _ h => h) (.inl ⟨by rfl, ?hyr17⟩) (by assumption) ?restr17
        case hyr17 => (intro w hSw; (try dsimp only at hSw); go_simp; first | done | with_reducible rfl)
        (try simp only [Act.put, pu1, pu2, pu3, pu4, pu5, pu6])
        refine wpAnyH_take (i := 8) (v := ?vr18) rfl (by kernel_rfl) (by kernel_rfl) (by kernel_rfl) (fun _ _ _ h => h) (.inl ⟨by rfl, ?hyr18⟩) (by assumption) ?restr18
        case hyr18 => (intro w hSw; (try dsimp only at hSw); go_simp; first | done | with_reducible rfl)
        (try simp only [Act.put, pu1, pu2, pu3, pu4, pu5, pu6])
        refine wpAnyH_ready (rs := [7]) (by kernel_rfl) (by simp) ?_
        refine AllReadyH.cons rfl (fun K hK => ?_) AllReadyH.nil
        rw [if_pos (by rfl)]
        go_simp
        refine (hck.out _ hbut4.drew).mono ?_
        rintro e w5 ⟨kx, gk, rfl, hkr, hkn, hkb, hb5⟩
        have hkone := hkr.one
        have hkrH := Lib.hid hkr
        have hbut5 := hbut4.drew.trans (hm0.out (below_but0 hb5))
        clear hkr
        refine hK.out _ _ ?_ (fun hHeld2 => ?_)
        · exact hS12.out _ hb5
        clear hK K
        (try simp only [Act.put, pu1, pu2, pu3, pu4, pu5, pu6])
        refine wpAnyH_ready (rs := [9]) (by kernel_rfl) (by simp) ?_
        refine AllReadyH.cons rfl (fun K hK => ?_) AllReadyH.nil
        rw [if_pos (by rfl)]
        go_simp
        refine (hcvv.out _ hbut5).mono ?_
        rintro e w6 ⟨vx, gv, rfl, hvr, hvn, hvb, hb6⟩
        have hvone := hvr.one
        have hvrH := Lib.hid hvr
        have hb46 : Below W.heap.size W.drew w6 := hb5.trans (below_le hb6 hb5.size)
        obtain ⟨w7, hupd, hm7, hbut7, hsz7⟩ := (hm4H.out.keep (w' := w6) (hb46.block m hm4H.out.lt.1) (fun b e => hb46.block b (hm4H.out.lt.2 b e))).store hkeyH.out hroomH.out hkone hvone
        have hm7H := Lib.hid hm7
        have hcc7 := (hbut7.cell (p := ⟨w2.heap.size, 1, none⟩) (Nat.lt_of_lt_of_le hl4 hb46.size) hne4).trans ((hb46.cell (p := ⟨w2.heap.size, 1, none⟩) hl4).trans hcc4)
        clear hvr hm7
        refine hK.out _ _ ?_ (fun hHeld2 => ?_)
        · exact hS12.out _ hb46
        clear hK K
        (try simp only [Act.put, pu1, pu2, pu3, pu4, pu5, pu6])
        refine wpAnyH_take (i := 10) (v := .agg #[kx, vx]) rfl (by kernel_rfl) (by kernel_rfl) (by kernel_rfl) (fun _ _ _ h => h) (.inl ⟨by rfl, ?hyr19⟩) (by assumption) ?restr19
        case hyr19 => (intro w hSw; exact exec_build (vs := #[(0, kx), (1, vx)]) rfl (by simp [Act.eval]) (run_buildPair kx vx hkone hvone w))
        (try simp only [Act.put, pu1, pu2, pu3, pu4, pu5, pu6])
        refine wpAnyH_ready (rs := [11]) (by kernel_rfl) (by simp) ?_
        refine AllReadyH.cons rfl (fun K hK => ?_) AllReadyH.nil
        rw [if_pos (by rfl)]
        go_simp
        refine hK.out _ _ ?_ (fun hHeld2 => ?_)
        · exact (⟨block_cells hm7H.out.1 0, hcv.out w7 (fun i h1 h2 => (hbut7.block i (Nat.lt_of_lt_of_le h2 (Nat.le_trans hbut14.size hb46.size)) (fun e => by omega)).trans ((hb46.block i (Nat.lt_of_lt_of_le h2 hbut14.size)).trans (hbut14.drew.block i h2 (fun e => by have := hlt.1; omega))))⟩ : w7.cell? ⟨m, 0, none⟩ = some (.map (some b4)) ∧ (convert 26 9 sv).run Try.prog w7 = .ok (.string ⟨(encV k).toArray⟩) w7)
        clear hK K
        (try simp only [Act.put, pu1, pu2, pu3, pu4, pu5, pu6])
        refine wpAnyH_done (by kernel_rfl) ?_ _
        go_wp2_with fail
        go_ret3
        have hl44 := hm4H.out.lt.2 b4 rfl
        have hs4 : W.drew.heap.size = W.heap.size := rfl
        have hs5 := hb5.size
        have hs04 := hbut4.size
        refine ⟨b4, kx, vx, gk, gv, by (rw [← hBH.out]; rfl), hm7H.out, VRep.but (VRep.but hkrH.out (below_but0 hb6) (fun _ _ f => f)) hbut7 (fun i hi e => by have := hkb i hi; omega), VRep.but hvrH.out hbut7 (fun i hi e => by have := hvb i hi; omega), hkn, hvn, fun i hi hi' => by (have h1 := VRep.lt _ _ _ hkrH.out i hi; have h2 := hvb i hi'; omega), fun i hi => ?_, .inr ⟨rfl, hb4⟩, ?_⟩
        · rcases List.mem_append.1 hi with h1 | h1
          · have := hkb i h1; omega
          · have := hvb i h1; omega
        · refine But.mono ((hbutS4.drew.then (T := fun _ => False) (below_but0 hb46) (fun _ _ f => f.elim)).then (T := fun i => i = b4) hbut7 (fun i hi e => absurd hi (by omega))) (fun i _ h => h.elim .inl (fun h => .inr ⟨rfl, h.2⟩))
      | some b =>
        have heq3 := run_eql_map_nil w3 47 9 151 (some b) Try.underlying47
        go_wp2_with fail
        have hm4 := hm3
        have hcc4 := hcc3
        have hl4 := hl3
        have hbut4 : But (fun i => i = m) w w3 := hm0.out (below_but0 hbw3)
        have hbut14 : But (fun i => i = m) w1 w3 := hm0.out (below_but0 hb13)
        have hne4 : ¬ w2.heap.size = b := by have := hlt.2 b rfl; have := hbw2.size; omega
        have hb4r : b < w.heap.size ∨ w1.heap.size ≤ b := .inl (hlt.2 b rfl)
        have hbutS4 : But (fun i => some b = some i ∨ some b = none ∧ i = m) w w3 := (below_but0 hbw3).mono (fun _ _ f => f.elim)
        clear hm3 hcc3 hl3 hlen3 hmc3 heq3
        have hS12 := Lib.hid (fun W9 (hb : Below w3.heap.size w3.drew W9) => (⟨(block_cells (hm4.keep (w' := W9) (hb.block m hm4.lt.1) (fun b e => hb.block b (hm4.lt.2 b e))).1 0), hcv.out W9 (fun i h1 h2 => (hb.block i (Nat.lt_of_lt_of_le h2 hbut14.size)).trans (hbut14.drew.block i h2 (fun e => by have := hlt.1; omega)))⟩ : W9.cell? ⟨m, 0, none⟩ = some (.map (some b)) ∧ (convert 26 9 sv).run Try.prog W9 = .ok (.string ⟨(encV k).toArray⟩) W9))
        have hm4H := Lib.hid hm4
        clear hm4
        refine wp_region_held_drew (S := (fun w' => w'.cell? ⟨m, 0, none⟩ = some (.map (some b)) ∧ (convert 26 9 sv).run Try.prog w' = .ok (.string ⟨(encV k).toArray⟩) w')) (by kernel_rfl) (hS12.out _ (Below.refl _ _)) (fun hHeld => ?_)
        refine wpAnyH_take (i := 0) (v := ?vr21) rfl (by kernel_rfl) (by kernel_rfl) (by kernel_rfl) (fun _ _ _ h => h) (.inl ⟨by rfl, ?hyr21⟩) (by assumption) ?restr21
        case hyr21 => (intro w hSw; (try dsimp only at hSw); go_simp; first | done | with_reducible rfl)
        (try simp only [Act.put, pu1, pu2, pu3, pu4, pu5, pu6])
        refine wpAnyH_take (i := 1) (v := ?vr22) rfl (by kernel_rfl) (by kernel_rfl) (by kernel_rfl) (fun _ _ _ h => h) (.inl ⟨by rfl, ?hyr22⟩) (by assumption) ?restr22
        case hyr22 => (intro w hSw; (try dsimp only at hSw); go_simp; first | done | with_reducible rfl)
        (try simp only [Act.put, pu1, pu2, pu3, pu4, pu5, pu6])
        refine wpAnyH_take (i := 2) (v := ?vr23) rfl (by kernel_rfl) (by kernel_rfl) (by kernel_rfl) (fun _ _ _ h => h) (.inl ⟨by rfl, ?hyr23⟩) (by assumption) ?restr23
        case hyr23 => (intro w hSw; (try dsimp only at hSw); go_simp; first | done | with_reducible rfl)
        (try simp only [Act.put, pu1, pu2, pu3, pu4, pu5, pu6])
        refine wpAnyH_take (i := 3) (v := ?vr24) rfl (by kernel_rfl) (by kernel_rfl) (by kernel_rfl) (fun _ _ _ h => h) (.inl ⟨by rfl, ?hyr24⟩) (by assumption) ?restr24
        case hyr24 => (intro w hSw; (try dsimp only at hSw); go_simp; first | done | with_reducible rfl)
        (try simp only [Act.put, pu1, pu2, pu3, pu4, pu5, pu6])
        refine wpAnyH_take (i := 4) (v := ?vr25) rfl (by kernel_rfl) (by kernel_rfl) (by kernel_rfl) (fun _ _ _ h => h) (.inl ⟨by rfl, ?hyr25⟩) (by assumption) ?restr25
        case hyr25 => (intro w hSw; (try dsimp only at hSw); go_simp; first | done | with_reducible rfl)
        (try simp only [Act.put, pu1, pu2, pu3, pu4, pu5, pu6])
        refine wpAnyH_take (i := 5) (v := ?vr26) rfl (by kernel_rfl) (by kernel_rfl) (by kernel_rfl) (fun _ _ _ h => h) (.inl ⟨by rfl, ?hyr26⟩) (by assumption) ?restr26
        case hyr26 => (intro w hSw; (try dsimp only at hSw); go_simp; first | done | with_reducible rfl)
        (try simp only [Act.put, pu1, pu2, pu3, pu4, pu5, pu6])
        refine wpAnyH_take (i := 6) (v := ?vr27) rfl (by kernel_rfl) (by kernel_rfl) (by kernel_rfl) (fun _ _ _ h => h) (.inl ⟨by rfl, ?hyr27⟩) (by assumption) ?restr27
        case hyr27 => (intro w hSw; (try dsimp only at hSw); go_simp; first | done | with_reducible rfl)
        (try simp only [Act.put, pu1, pu2, pu3, pu4, pu5, pu6])
        refine wpAnyH_take (i := 8) (v := ?vr28) rfl (by kernel_rfl) (by kernel_rfl) (by kernel_rfl) (fun _ _ _ h => h) (.inl ⟨by rfl, ?hyr28⟩) (by assumption) ?restr28
        case hyr28 => (intro w hSw; (try dsimp only at hSw); go_simp; first | done | with_reducible rfl)
        (try simp only [Act.put, pu1, pu2, pu3, pu4, pu5, pu6])
        refine wpAnyH_ready (rs := [7]) (by kernel_rfl) (by simp) ?_
        refine AllReadyH.cons rfl (fun K hK => ?_) AllReadyH.nil
        rw [if_pos (by rfl)]
        go_simp
        refine (hck.out _ hbut4.drew).mono ?_
        rintro e w5 ⟨kx, gk, rfl, hkr, hkn, hkb, hb5⟩
        have hkone := hkr.one
        have hkrH := Lib.hid hkr
        have hbut5 := hbut4.drew.trans (hm0.out (below_but0 hb5))
        clear hkr
        refine hK.out _ _ ?_ (fun hHeld2 => ?_)
        · exact hS12.out _ hb5
        clear hK K
        (try simp only [Act.put, pu1, pu2, pu3, pu4, pu5, pu6])
        refine wpAnyH_ready (rs := [9]) (by kernel_rfl) (by simp) ?_
        refine AllReadyH.cons rfl (fun K hK => ?_) AllReadyH.nil
        rw [if_pos (by rfl)]
        go_simp
        refine (hcvv.out _ hbut5).mono ?_
        rintro e w6 ⟨vx, gv, rfl, hvr, hvn, hvb, hb6⟩
        have hvone := hvr.one
        have hvrH := Lib.hid hvr
        have hb46 : Below w3.heap.size w3.drew w6 := hb5.trans (below_le hb6 hb5.size)
        obtain ⟨w7, hupd, hm7, hbut7, hsz7⟩ := (hm4H.out.keep (w' := w6) (hb46.block m hm4H.out.lt.1) (fun b e => hb46.block b (hm4H.out.lt.2 b e))).store hkeyH.out hroomH.out hkone hvone
        have hm7H := Lib.hid hm7
        have hcc7 := (hbut7.cell (p := ⟨w2.heap.size, 1, none⟩) (Nat.lt_of_lt_of_le hl4 hb46.size) hne4).trans ((hb46.cell (p := ⟨w2.heap.size, 1, none⟩) hl4).trans hcc4)
        clear hvr hm7
        refine hK.out _ _ ?_ (fun hHeld2 => ?_)
        · exact hS12.out _ hb46
        clear hK K
        (try simp only [Act.put, pu1, pu2, pu3, pu4, pu5, pu6])
        refine wpAnyH_take (i := 10) (v := .agg #[kx, vx]) rfl (by kernel_rfl) (by kernel_rfl) (by kernel_rfl) (fun _ _ _ h => h) (.inl ⟨by rfl, ?hyr29⟩) (by assumption) ?restr29
        case hyr29 => (intro w hSw; exact exec_build (vs := #[(0, kx), (1, vx)]) rfl (by simp [Act.eval]) (run_buildPair kx vx hkone hvone w))
        (try simp only [Act.put, pu1, pu2, pu3, pu4, pu5, pu6])
        refine wpAnyH_ready (rs := [11]) (by kernel_rfl) (by simp) ?_
        refine AllReadyH.cons rfl (fun K hK => ?_) AllReadyH.nil
        rw [if_pos (by rfl)]
        go_simp
        refine hK.out _ _ ?_ (fun hHeld2 => ?_)
        · exact (⟨block_cells hm7H.out.1 0, hcv.out w7 (fun i h1 h2 => (hbut7.block i (Nat.lt_of_lt_of_le h2 (Nat.le_trans hbut14.size hb46.size)) (fun e => by omega)).trans ((hb46.block i (Nat.lt_of_lt_of_le h2 hbut14.size)).trans (hbut14.drew.block i h2 (fun e => by have := hlt.1; omega))))⟩ : w7.cell? ⟨m, 0, none⟩ = some (.map (some b)) ∧ (convert 26 9 sv).run Try.prog w7 = .ok (.string ⟨(encV k).toArray⟩) w7)
        clear hK K
        (try simp only [Act.put, pu1, pu2, pu3, pu4, pu5, pu6])
        refine wpAnyH_done (by kernel_rfl) ?_ _
        go_wp2_with fail
        go_ret3
        have hl44 := hm4H.out.lt.2 b rfl
        have hs4 : w3.drew.heap.size = w3.heap.size := rfl
        have hs5 := hb5.size
        have hs04 := hbut4.size
        refine ⟨b, kx, vx, gk, gv, by (rw [← hBH.out]; rfl), hm7H.out, VRep.but (VRep.but hkrH.out (below_but0 hb6) (fun _ _ f => f)) hbut7 (fun i hi e => by have := hkb i hi; omega), VRep.but hvrH.out hbut7 (fun i hi e => by have := hvb i hi; omega), hkn, hvn, fun i hi hi' => by (have h1 := VRep.lt _ _ _ hkrH.out i hi; have h2 := hvb i hi'; omega), fun i hi => ?_, .inl rfl, ?_⟩
        · rcases List.mem_append.1 hi with h1 | h1
          · have := hkb i h1; omega
          · have := hvb i h1; omega
        · refine ((hbutS4.drew.then (T := fun _ => False) (below_but0 hb46) (fun _ _ f => f.elim)).then (T := fun i => i = b) hbut7 (fun i hi e => .inl (by rw [e])))
    | true =>
      cases o with
      | none =>
        have heq3 := run_eql_map_nil w3 47 9 151 none Try.underlying47
        have hmk3 := run_makeMap (P := Try.prog) 47 w3
        have hml3 : m < w3.heap.size := Nat.lt_of_lt_of_le hlt.1 hbw3.size
        have hfz3 := frozen_block hm3.1 0
        go_wp2_with fail
        obtain ⟨W, hW⟩ : ∃ W, W = (w3.setCell ⟨m, 0, none⟩ (.map (some w3.heap.size))).alloc (Obj.map #[] 0) := ⟨_, rfl⟩
        have hm4 : MapAt W m (some w3.heap.size) D := by rw [hW]; exact map_made hm3
        have hmne : ¬ w2.heap.size = m := by have := hlt.1; have := hbw2.size; omega
        have hcc4 : W.cell? ⟨w2.heap.size, 1, none⟩ = some c0 := by rw [hW]; simp [go_sem, hl3, hmne, hcc3]
        have hl4 : w2.heap.size < W.heap.size := by rw [hW]; simp; omega
        have hbut4 : But (fun i => i = m) w W := by rw [hW]; exact ((hm0.out (below_but0 hbw3)).setCell (fun _ => rfl) _).alloc _
        have hbut14 : But (fun i => i = m) w1 W := by rw [hW]; exact ((hm0.out (below_but0 hb13)).setCell (fun _ => rfl) _).alloc _
        have hne4 : ¬ w2.heap.size = w3.heap.size := by omega
        have hb4 : w.heap.size ≤ w3.heap.size := hbw3.size
        have hb4q : w1.heap.size ≤ w3.heap.size := hb13.size
        rw [← hW]
        clear hW
        generalize w3.heap.size = b4 at *
        clear hm3 hcc3 hlen3 hmc3 heq3 hmk3 hfz3 hml3
        have hb4r : b4 < w.heap.size ∨ w1.heap.size ≤ b4 := .inr hb4q
        have hbutS4 : But (fun i => (none : Option Nat) = some i ∨ (none : Option Nat) = none ∧ i = m) w W := hbut4.mono (fun _ _ e => .inr ⟨rfl, e⟩)
        have hS12 := Lib.hid (fun W9 (hb : Below W.heap.size W.drew W9) => (⟨(block_cells (hm4.keep (w' := W9) (hb.block m hm4.lt.1) (fun b e => hb.block b (hm4.lt.2 b e))).1 0), hcv.out W9 (fun i h1 h2 => (hb.block i (Nat.lt_of_lt_of_le h2 hbut14.size)).trans (hbut14.drew.block i h2 (fun e => by have := hlt.1; omega)))⟩ : W9.cell? ⟨m, 0, none⟩ = some (.map (some b4)) ∧ (convert 26 9 sv).run Try.prog W9 = .ok (.string ⟨(encV k).toArray⟩) W9))
        have hm4H := Lib.hid hm4
        clear hm4
        refine wp_region_held_drew (S := (fun w' => w'.cell? ⟨m, 0, none⟩ = some (.map (some b4)) ∧ (convert 26 9 sv).run Try.prog w' = .ok (.string ⟨(encV k).toArray⟩) w')) (by kernel_rfl) (hS12.out _ (Below.refl _ _)) (fun hHeld => ?_)
        refine wpAnyH_take (i := 0) (v := ?vr31) rfl (by kernel_rfl) (by kernel_rfl) (by kernel_rfl) (fun _ _ _ h => h) (.inl ⟨by rfl, ?hyr31⟩) (by assumption) ?restr31
        case hyr31 => (intro w hSw; (try dsimp only at hSw); go_simp; first | done | with_reducible rfl)
        (try simp only [Act.put, pu1, pu2, pu3, pu4, pu5, pu6])
        refine wpAnyH_take (i := 1) (v := ?vr32) rfl (by kernel_rfl) (by kernel_rfl) (by kernel_rfl) (fun _ _ _ h => h) (.inl ⟨by rfl, ?hyr32⟩) (by assumption) ?restr32
        case hyr32 => (intro w hSw; (try dsimp only at hSw); go_simp; first | done | with_reducible rfl)
        (try simp only [Act.put, pu1, pu2, pu3, pu4, pu5, pu6])
        refine wpAnyH_take (i := 2) (v := ?vr33) rfl (by kernel_rfl) (by kernel_rfl) (by kernel_rfl) (fun _ _ _ h => h) (.inl ⟨by rfl, ?hyr33⟩) (by assumption) ?restr33
        case hyr33 => (intro w hSw; (try dsimp only at hSw); go_simp; first | done | with_reducible rfl)
        (try simp only [Act.put, pu1, pu2, pu3, pu4, pu5, pu6])
        refine wpAnyH_take (i := 3) (v := ?vr34) rfl (by kernel_rfl) (by kernel_rfl) (by kernel_rfl) (fun _ _ _ h => h) (.inl ⟨by rfl, ?hyr34⟩) (by assumption) ?restr34
        case hyr34 => (intro w hSw; (try dsimp only at hSw); go_simp; first | done | with_reducible rfl)
        (try simp only [Act.put, pu1, pu2, pu3, pu4, pu5, pu6])
        refine wpAnyH_take (i := 4) (v := ?vr35) rfl (by kernel_rfl) (by kernel_rfl) (by kernel_rfl) (fun _ _ _ h => h) (.inl ⟨by rfl, ?hyr35⟩) (by assumption) ?restr35
        case hyr35 => (intro w hSw; (try dsimp only at hSw); go_simp; first | done | with_reducible rfl)
        (try simp only [Act.put, pu1, pu2, pu3, pu4, pu5, pu6])
        refine wpAnyH_take (i := 5) (v := ?vr36) rfl (by kernel_rfl) (by kernel_rfl) (by kernel_rfl) (fun _ _ _ h => h) (.inl ⟨by rfl, ?hyr36⟩) (by assumption) ?restr36
        case hyr36 => (intro w hSw; (try dsimp only at hSw); go_simp; first | done | with_reducible rfl)
        (try simp only [Act.put, pu1, pu2, pu3, pu4, pu5, pu6])
        refine wpAnyH_take (i := 6) (v := ?vr37) rfl (by kernel_rfl) (by kernel_rfl) (by kernel_rfl) (fun _ _ _ h => h) (.inl ⟨by rfl, ?hyr37⟩) (by assumption) ?restr37
        case hyr37 => (intro w hSw; (try dsimp only at hSw); go_simp; first | done | with_reducible rfl)
        (try simp only [Act.put, pu1, pu2, pu3, pu4, pu5, pu6])
        refine wpAnyH_take (i := 8) (v := ?vr38) rfl (by kernel_rfl) (by kernel_rfl) (by kernel_rfl) (fun _ _ _ h => h) (.inl ⟨by rfl, ?hyr38⟩) (by assumption) ?restr38
        case hyr38 => (intro w hSw; (try dsimp only at hSw); go_simp; first | done | with_reducible rfl)
        (try simp only [Act.put, pu1, pu2, pu3, pu4, pu5, pu6])
        refine wpAnyH_ready (rs := [7]) (by kernel_rfl) (by simp) ?_
        refine AllReadyH.cons rfl (fun K hK => ?_) AllReadyH.nil
        rw [if_pos (by rfl)]
        go_simp
        refine (hck.out _ hbut4.drew).mono ?_
        rintro e w5 ⟨kx, gk, rfl, hkr, hkn, hkb, hb5⟩
        have hkone := hkr.one
        have hkrH := Lib.hid hkr
        have hbut5 := hbut4.drew.trans (hm0.out (below_but0 hb5))
        clear hkr
        refine hK.out _ _ ?_ (fun hHeld2 => ?_)
        · exact hS12.out _ hb5
        clear hK K
        (try simp only [Act.put, pu1, pu2, pu3, pu4, pu5, pu6])
        refine wpAnyH_ready (rs := [9]) (by kernel_rfl) (by simp) ?_
        refine AllReadyH.cons rfl (fun K hK => ?_) AllReadyH.nil
        rw [if_pos (by rfl)]
        go_simp
        refine (hcvv.out _ hbut5).mono ?_
        rintro e w6 ⟨vx, gv, rfl, hvr, hvn, hvb, hb6⟩
        have hvone := hvr.one
        have hvrH := Lib.hid hvr
        have hb46 : Below W.heap.size W.drew w6 := hb5.trans (below_le hb6 hb5.size)
        obtain ⟨w7, hupd, hm7, hbut7, hsz7⟩ := (hm4H.out.keep (w' := w6) (hb46.block m hm4H.out.lt.1) (fun b e => hb46.block b (hm4H.out.lt.2 b e))).store hkeyH.out hroomH.out hkone hvone
        have hm7H := Lib.hid hm7
        have hcc7 := (hbut7.cell (p := ⟨w2.heap.size, 1, none⟩) (Nat.lt_of_lt_of_le hl4 hb46.size) hne4).trans ((hb46.cell (p := ⟨w2.heap.size, 1, none⟩) hl4).trans hcc4)
        clear hvr hm7
        refine hK.out _ _ ?_ (fun hHeld2 => ?_)
        · exact hS12.out _ hb46
        clear hK K
        (try simp only [Act.put, pu1, pu2, pu3, pu4, pu5, pu6])
        refine wpAnyH_take (i := 10) (v := .agg #[kx, vx]) rfl (by kernel_rfl) (by kernel_rfl) (by kernel_rfl) (fun _ _ _ h => h) (.inl ⟨by rfl, ?hyr39⟩) (by assumption) ?restr39
        case hyr39 => (intro w hSw; exact exec_build (vs := #[(0, kx), (1, vx)]) rfl (by simp [Act.eval]) (run_buildPair kx vx hkone hvone w))
        (try simp only [Act.put, pu1, pu2, pu3, pu4, pu5, pu6])
        refine wpAnyH_ready (rs := [11]) (by kernel_rfl) (by simp) ?_
        refine AllReadyH.cons rfl (fun K hK => ?_) AllReadyH.nil
        rw [if_pos (by rfl)]
        go_simp
        refine hK.out _ _ ?_ (fun hHeld2 => ?_)
        · exact (⟨block_cells hm7H.out.1 0, hcv.out w7 (fun i h1 h2 => (hbut7.block i (Nat.lt_of_lt_of_le h2 (Nat.le_trans hbut14.size hb46.size)) (fun e => by omega)).trans ((hb46.block i (Nat.lt_of_lt_of_le h2 hbut14.size)).trans (hbut14.drew.block i h2 (fun e => by have := hlt.1; omega))))⟩ : w7.cell? ⟨m, 0, none⟩ = some (.map (some b4)) ∧ (convert 26 9 sv).run Try.prog w7 = .ok (.string ⟨(encV k).toArray⟩) w7)
        clear hK K
        (try simp only [Act.put, pu1, pu2, pu3, pu4, pu5, pu6])
        refine wpAnyH_done (by kernel_rfl) ?_ _
        go_wp2_with fail
        go_ret3
        have hl44 := hm4H.out.lt.2 b4 rfl
        have hs4 : W.drew.heap.size = W.heap.size := rfl
        have hs5 := hb5.size
        have hs04 := hbut4.size
        refine ⟨b4, kx, vx, gk, gv, by (rw [← hBH.out]; rfl), hm7H.out, VRep.but (VRep.but hkrH.out (below_but0 hb6) (fun _ _ f => f)) hbut7 (fun i hi e => by have := hkb i hi; omega), VRep.but hvrH.out hbut7 (fun i hi e => by have := hvb i hi; omega), hkn, hvn, fun i hi hi' => by (have h1 := VRep.lt _ _ _ hkrH.out i hi; have h2 := hvb i hi'; omega), fun i hi => ?_, .inr ⟨rfl, hb4⟩, ?_⟩
        · rcases List.mem_append.1 hi with h1 | h1
          · have := hkb i h1; omega
          · have := hvb i h1; omega
        · refine But.mono ((hbutS4.drew.then (T := fun _ => False) (below_but0 hb46) (fun _ _ f => f.elim)).then (T := fun i => i = b4) hbut7 (fun i hi e => absurd hi (by omega))) (fun i _ h => h.elim .inl (fun h => .inr ⟨rfl, h.2⟩))
      | some b =>
        have heq3 := run_eql_map_nil w3 47 9 151 (some b) Try.underlying47
        go_wp2_with fail
        have hm4 := hm3
        have hcc4 := hcc3
        have hl4 := hl3
        have hbut4 : But (fun i => i = m) w w3 := hm0.out (below_but0 hbw3)
        have hbut14 : But (fun i => i = m) w1 w3 := hm0.out (below_but0 hb13)
        have hne4 : ¬ w2.heap.size = b := by have := hlt.2 b rfl; have := hbw2.size; omega
        have hb4r : b < w.heap.size ∨ w1.heap.size ≤ b := .inl (hlt.2 b rfl)
        have hbutS4 : But (fun i => some b = some i ∨ some b = none ∧ i = m) w w3 := (below_but0 hbw3).mono (fun _ _ f => f.elim)
        clear hm3 hcc3 hl3 hlen3 hmc3 heq3
        have hS12 := Lib.hid (fun W9 (hb : Below w3.heap.size w3.drew W9) => (⟨(block_cells (hm4.keep (w' := W9) (hb.block m hm4.lt.1) (fun b e => hb.block b (hm4.lt.2 b e))).1 0), hcv.out W9 (fun i h1 h2 => (hb.block i (Nat.lt_of_lt_of_le h2 hbut14.size)).trans (hbut14.drew.block i h2 (fun e => by have := hlt.1; omega)))⟩ : W9.cell? ⟨m, 0, none⟩ = some (.map (some b)) ∧ (convert 26 9 sv).run Try.prog W9 = .ok (.string ⟨(encV k).toArray⟩) W9))
        have hm4H := Lib.hid hm4
        clear hm4
        refine wp_region_held_drew (S := (fun w' => w'.cell? ⟨m, 0, none⟩ = some (.map (some b)) ∧ (convert 26 9 sv).run Try.prog w' = .ok (.string ⟨(encV k).toArray⟩) w')) (by kernel_rfl) (hS12.out _ (Below.refl _ _)) (fun hHeld => ?_)
        refine wpAnyH_take (i := 0) (v := ?vr41) rfl (by kernel_rfl) (by kernel_rfl) (by kernel_rfl) (fun _ _ _ h => h) (.inl ⟨by rfl, ?hyr41⟩) (by assumption) ?restr41
        case hyr41 => (intro w hSw; (try dsimp only at hSw); go_simp; first | done | with_reducible rfl)
        (try simp only [Act.put, pu1, pu2, pu3, pu4, pu5, pu6])
        refine wpAnyH_take (i := 1) (v := ?vr42) rfl (by kernel_rfl) (by kernel_rfl) (by kernel_rfl) (fun _ _ _ h => h) (.inl ⟨by rfl, ?hyr42⟩) (by assumption) ?restr42
        case hyr42 => (intro w hSw; (try dsimp only at hSw); go_simp; first | done | with_reducible rfl)
        (try simp only [Act.put, pu1, pu2, pu3, pu4, pu5, pu6])
        refine wpAnyH_take (i := 2) (v := ?vr43) rfl (by kernel_rfl) (by kernel_rfl) (by kernel_rfl) (fun _ _ _ h => h) (.inl ⟨by rfl, ?hyr43⟩) (by assumption) ?restr43
        case hyr43 => (intro w hSw; (try dsimp only at hSw); go_simp; first | done | with_reducible rfl)
        (try simp only [Act.put, pu1, pu2, pu3, pu4, pu5, pu6])
        refine wpAnyH_take (i := 3) (v := ?vr44) rfl (by kernel_rfl) (by kernel_rfl) (by kernel_rfl) (fun _ _ _ h => h) (.inl ⟨by rfl, ?hyr44⟩) (by assumption) ?restr44
        case hyr44 => (intro w hSw; (try dsimp only at hSw); go_simp; first | done | with_reducible rfl)
        (try simp only [Act.put, pu1, pu2, pu3, pu4, pu5, pu6])
        refine wpAnyH_take (i := 4) (v := ?vr45) rfl (by kernel_rfl) (by kernel_rfl) (by kernel_rfl) (fun _ _ _ h => h) (.inl ⟨by rfl, ?hyr45⟩) (by assumption) ?restr45
        case hyr45 => (intro w hSw; (try dsimp only at hSw); go_simp; first | done | with_reducible rfl)
        (try simp only [Act.put, pu1, pu2, pu3, pu4, pu5, pu6])
        refine wpAnyH_take (i := 5) (v := ?vr46) rfl (by kernel_rfl) (by kernel_rfl) (by kernel_rfl) (fun _ _ _ h => h) (.inl ⟨by rfl, ?hyr46⟩) (by assumption) ?restr46
        case hyr46 => (intro w hSw; (try dsimp only at hSw); go_simp; first | done | with_reducible rfl)
        (try simp only [Act.put, pu1, pu2, pu3, pu4, pu5, pu6])
        refine wpAnyH_take (i := 6) (v := ?vr47) rfl (by kernel_rfl) (by kernel_rfl) (by kernel_rfl) (fun _ _ _ h => h) (.inl ⟨by rfl, ?hyr47⟩) (by assumption) ?restr47
        case hyr47 => (intro w hSw; (try dsimp only at hSw); go_simp; first | done | with_reducible rfl)
        (try simp only [Act.put, pu1, pu2, pu3, pu4, pu5, pu6])
        refine wpAnyH_take (i := 8) (v := ?vr48) rfl (by kernel_rfl) (by kernel_rfl) (by kernel_rfl) (fun _ _ _ h => h) (.inl ⟨by rfl, ?hyr48⟩) (by assumption) ?restr48
        case hyr48 => (intro w hSw; (try dsimp only at hSw); go_simp; first | done | with_reducible rfl)
        (try simp only [Act.put, pu1, pu2, pu3, pu4, pu5, pu6])
        refine wpAnyH_ready (rs := [7]) (by kernel_rfl) (by simp) ?_
        refine AllReadyH.cons rfl (fun K hK => ?_) AllReadyH.nil
        rw [if_pos (by rfl)]
        go_simp
        refine (hck.out _ hbut4.drew).mono ?_
        rintro e w5 ⟨kx, gk, rfl, hkr, hkn, hkb, hb5⟩
        have hkone := hkr.one
        have hkrH := Lib.hid hkr
        have hbut5 := hbut4.drew.trans (hm0.out (below_but0 hb5))
        clear hkr
        refine hK.out _ _ ?_ (fun hHeld2 => ?_)
        · exact hS12.out _ hb5
        clear hK K
        (try simp only [Act.put, pu1, pu2, pu3, pu4, pu5, pu6])
        refine wpAnyH_ready (rs := [9]) (by kernel_rfl) (by simp) ?_
        refine AllReadyH.cons rfl (fun K hK => ?_) AllReadyH.nil
        rw [if_pos (by rfl)]
        go_simp
        refine (hcvv.out _ hbut5).mono ?_
        rintro e w6 ⟨vx, gv, rfl, hvr, hvn, hvb, hb6⟩
        have hvone := hvr.one
        have hvrH := Lib.hid hvr
        have hb46 : Below w3.heap.size w3.drew w6 := hb5.trans (below_le hb6 hb5.size)
        obtain ⟨w7, hupd, hm7, hbut7, hsz7⟩ := (hm4H.out.keep (w' := w6) (hb46.block m hm4H.out.lt.1) (fun b e => hb46.block b (hm4H.out.lt.2 b e))).store hkeyH.out hroomH.out hkone hvone
        have hm7H := Lib.hid hm7
        have hcc7 := (hbut7.cell (p := ⟨w2.heap.size, 1, none⟩) (Nat.lt_of_lt_of_le hl4 hb46.size) hne4).trans ((hb46.cell (p := ⟨w2.heap.size, 1, none⟩) hl4).trans hcc4)
        clear hvr hm7
        refine hK.out _ _ ?_ (fun hHeld2 => ?_)
        · exact hS12.out _ hb46
        clear hK K
        (try simp only [Act.put, pu1, pu2, pu3, pu4, pu5, pu6])
        refine wpAnyH_take (i := 10) (v := .agg #[kx, vx]) rfl (by kernel_rfl) (by kernel_rfl) (by kernel_rfl) (fun _ _ _ h => h) (.inl ⟨by rfl, ?hyr49⟩) (by assumption) ?restr49
        case hyr49 => (intro w hSw; exact exec_build (vs := #[(0, kx), (1, vx)]) rfl (by simp [Act.eval]) (run_buildPair kx vx hkone hvone w))
        (try simp only [Act.put, pu1, pu2, pu3, pu4, pu5, pu6])
        refine wpAnyH_ready (rs := [11]) (by kernel_rfl) (by simp) ?_
        refine AllReadyH.cons rfl (fun K hK => ?_) AllReadyH.nil
        rw [if_pos (by rfl)]
        go_simp
        refine hK.out _ _ ?_ (fun hHeld2 => ?_)
        · exact (⟨block_cells hm7H.out.1 0, hcv.out w7 (fun i h1 h2 => (hbut7.block i (Nat.lt_of_lt_of_le h2 (Nat.le_trans hbut14.size hb46.size)) (fun e => by omega)).trans ((hb46.block i (Nat.lt_of_lt_of_le h2 hbut14.size)).trans (hbut14.drew.block i h2 (fun e => by have := hlt.1; omega))))⟩ : w7.cell? ⟨m, 0, none⟩ = some (.map (some b)) ∧ (convert 26 9 sv).run Try.prog w7 = .ok (.string ⟨(encV k).toArray⟩) w7)
        clear hK K
        (try simp only [Act.put, pu1, pu2, pu3, pu4, pu5, pu6])
        refine wpAnyH_done (by kernel_rfl) ?_ _
        go_wp2_with fail
        go_ret3
        have hl44 := hm4H.out.lt.2 b rfl
        have hs4 : w3.drew.heap.size = w3.heap.size := rfl
        have hs5 := hb5.size
        have hs04 := hbut4.size
        refine ⟨b, kx, vx, gk, gv, by (rw [← hBH.out]; rfl), hm7H.out, VRep.but (VRep.but hkrH.out (below_but0 hb6) (fun _ _ f => f)) hbut7 (fun i hi e => by have := hkb i hi; omega), VRep.but hvrH.out hbut7 (fun i hi e => by have := hvb i hi; omega), hkn, hvn, fun i hi hi' => by (have h1 := VRep.lt _ _ _ hkrH.out i hi; have h2 := hvb i hi'; omega), fun i hi => ?_, .inl rfl, ?_⟩
        · rcases List.mem_append.1 hi with h1 | h1
          · have := hkb i h1; omega
          · have := hvb i h1; omega
        · refine ((hbutS4.drew.then (T := fun _ => False) (below_but0 hb46) (fun _ _ f => f.elim)).then (T := fun i => i = b) hbut7 (fun i hi e => .inl (by rw [e])))
  · rw [if_pos (by rfl)]
    go_simp
    refine hK.out _ _ ?_ (fun hHeld2 => ?_)
    · exact hS7.out _ (hbw2.alloc hbw2.size (Obj.cells #[Value.nilIface, Value.nilIface] 151)).drew (hb2.alloc hb2.size _).drew
    clear hK K
    (try simp only [Act.put, pu1, pu2, pu3, pu4, pu5, pu6])
    refine wpAnyH_ready (rs := [6]) (by kernel_rfl) (by simp) ?_
    refine AllReadyH.cons rfl (fun K hK => ?_) AllReadyH.nil
    rw [if_pos (by rfl)]
    have hrun := (hlook.out _ (hbw2.alloc hbw2.size (Obj.cells #[Value.nilIface, Value.nilIface] 151)).drew).1
    go_simp
    refine hK.out _ _ ?_ (fun hHeld2 => ?_)
    · exact hS7.out _ (hbw2.alloc hbw2.size (Obj.cells #[Value.nilIface, Value.nilIface] 151)).drew (hb2.alloc hb2.size _).drew
    clear hK K
    (try simp only [Act.put, pu1, pu2, pu3, pu4, pu5, pu6])
    refine wpAnyH_take (i := 7) (v := ?vq11) rfl (by kernel_rfl) (by kernel_rfl) (by kernel_rfl) (fun _ _ _ h => h) (.inl ⟨by rfl, ?hyq11⟩) (by assumption) ?restq11
    case hyq11 => (intro w hSw; (try dsimp only at hSw); go_simp; first | done | with_reducible rfl)
    (try simp only [Act.put, pu1, pu2, pu3, pu4, pu5, pu6])
    refine wpAnyH_take (i := 8) (v := ?vq12) rfl (by kernel_rfl) (by kernel_rfl) (by kernel_rfl) (fun _ _ _ h => h) (.inl ⟨by rfl, ?hyq12⟩) (by assumption) ?restq12
    case hyq12 => (intro w hSw; (try dsimp only at hSw); go_simp; first | done | with_reducible rfl)
    (try simp only [Act.put, pu1, pu2, pu3, pu4, pu5, pu6])
    refine wpAnyH_take (i := 9) (v := ?vq13) rfl (by kernel_rfl) (by kernel_rfl) (by kernel_rfl) (fun _ _ _ h => h) (.inl ⟨by rfl, ?hyq13⟩) (by assumption) ?restq13
    case hyq13 => (intro w hSw; (try dsimp only at hSw); go_simp; first | done | with_reducible rfl)
    (try simp only [Act.put, pu1, pu2, pu3, pu4, pu5, pu6])
    refine wpAnyH_ready (rs := [11]) (by kernel_rfl) (by simp) ?_
    refine AllReadyH.cons rfl (fun K hK => ?_) AllReadyH.nil
    rw [if_pos (by rfl)]
    go_simp
    refine hK.out _ _ ?_ (fun hHeld2 => ?_)
    · exact hS7.out _ (hbw2.alloc hbw2.size _).drew (hb2.alloc hb2.size _).drew
    clear hK K
    (try simp only [Act.put, pu1, pu2, pu3, pu4, pu5, pu6])
    refine wpAnyH_take (i := 12) (v := ?vq14) rfl (by kernel_rfl) (by kernel_rfl) (by kernel_rfl) (fun _ _ _ h => h) (.inl ⟨by rfl, ?hyq14⟩) (by assumption) ?restq14
    case hyq14 => (intro w hSw; (try dsimp only at hSw); go_simp; first | done | with_reducible rfl)
    (try simp only [Act.put, pu1, pu2, pu3, pu4, pu5, pu6])
    refine wpAnyH_done (by kernel_rfl) ?_ _
    have hbw3 : Below w.heap.size w (w2.alloc (Obj.cells #[a0, c0] 151)).drew := (hbw2.alloc hbw2.size _).drew
    have hcc3 : (w2.alloc (Obj.cells #[a0, c0] 151)).drew.cell? ⟨w2.heap.size, 1, none⟩ = some c0 := by simp [go_sem]
    have hl3 : w2.heap.size < (w2.alloc (Obj.cells #[a0, c0] 151)).drew.heap.size := by simp
    have hb13 : Below w1.heap.size w1 (w2.alloc (Obj.cells #[a0, c0] 151)).drew := (hb2.alloc hb2.size _).drew
    have hm3 := hmH.out.below hbw3
    generalize (w2.alloc (Obj.cells #[a0, c0] 151)).drew = w3 at hbw3 hcc3 hl3 hb13 hm3 ⊢
    clear hHeld
    have hlen3 := hm3.len 3
    have hmc3 := hmc.out w3 hbw3
    obtain ⟨B, hB⟩ : ∃ B, B = Maps.has D (keyL k) := ⟨_, rfl⟩
    have hBH := Lib.hid hB
    rw [← hB]
    clear hB
    cases B with
    | false =>
      have hsz : ¬ ((4096 : Int) ≤ (Maps.size D : Int)) := by have := hroomF.out hBH.out.symm; omega
      cases o with
      | none =>
        have heq3 := run_eql_map_nil w3 47 9 151 none Try.underlying47
        have hmk3 := run_makeMap (P := Try.prog) 47 w3
        have hml3 : m < w3.heap.size := Nat.lt_of_lt_of_le hlt.1 hbw3.size
        have hfz3 := frozen_block hm3.1 0
        go_wp2_with fail
        obtain ⟨W, hW⟩ : ∃ W, W = (w3.setCell ⟨m, 0, none⟩ (.map (some w3.heap.size))).alloc (Obj.map #[] 0) := ⟨_, rfl⟩
        have hm4 : MapAt W m (some w3.heap.size) D := by rw [hW]; exact map_made hm3
        have hmne : ¬ w2.heap.size = m := by have := hlt.1; have := hbw2.size; omega
        have hcc4 : W.cell? ⟨w2.heap.size, 1, none⟩ = some c0 := by rw [hW]; simp [go_sem, hl3, hmne, hcc3]
        have hl4 : w2.heap.size < W.heap.size := by rw [hW]; simp; omega
        have hbut4 : But (fun i => i = m) w W := by rw [hW]; exact ((hm0.out (below_but0 hbw3)).setCell (fun _ => rfl) _).alloc _
        have hbut14 : But (fun i => i = m) w1 W := by rw [hW]; exact ((hm0.out (below_but0 hb13)).setCell (fun _ => rfl) _).alloc _
        have hne4 : ¬ w2.heap.size = w3.heap.size := by omega
        have hb4 : w.heap.size ≤ w3.heap.size := hbw3.size
        have hb4q : w1.heap.size ≤ w3.heap.size := hb13.size
        rw [← hW]
        clear hW
        generalize w3.heap.size = b4 at *
        clear hm3 hcc3 hlen3 hmc3 heq3 hmk3 hfz3 hml3
        have hb4r : b4 < w.heap.size ∨ w1.heap.size ≤ b4 := .inr hb4q
        have hbutS4 : But (fun i => (none : Option Nat) = some i ∨ (none : Option Nat) = none ∧ i = m) w W := hbut4.mono (fun _ _ e => .inr ⟨rfl, e⟩)
        have hS12 := Lib.hid (fun W9 (hb : Below W.heap.size W.drew W9) => (⟨(block_cells (hm4.keep (w' := W9) (hb.block m hm4.lt.1) (fun b e => hb.block b (hm4.lt.2 b e))).1 0), hcv.out W9 (fun i h1 h2 => (hb.block i (Nat.lt_of_lt_of_le h2 hbut14.size)).trans (hbut14.drew.block i h2 (fun e => by have := hlt.1; omega)))⟩ : W9.cell? ⟨m, 0, none⟩ = some (.map (some b4)) ∧ (convert 26 9 sv).run Try.prog W9 = .ok (.string ⟨(encV k).toArray⟩) W9))
        have hm4H := Lib.hid hm4
        clear hm4
        refine wp_region_held_drew (S := (fun w' => w'.cell? ⟨m, 0, none⟩ = some (.map (some b4)) ∧ (convert 26 9 sv).run Try.prog w' = .ok (.string ⟨(encV k).toArray⟩) w')) (by kernel_rfl) (hS12.out _ (Below.refl _ _)) (fun hHeld => ?_)
        refine wpAnyH_take (i := 0) (v := ?vr51) rfl (by kernel_rfl) (by kernel_rfl) (by kernel_rfl) (fun _ _ _ h => h) (.inl ⟨by rfl, ?hyr51⟩) (by assumption) ?restr51
        case hyr51 => (intro w hSw; (try dsimp only at hSw); go_simp; first | done | with_reducible rfl)
        (try simp only [Act.put, pu1, pu2, pu3, pu4, pu5, pu6])
        refine wpAnyH_take (i := 1) (v := ?vr52) rfl (by kernel_rfl) (by kernel_rfl) (by kernel_rfl) (fun _ _ _ h => h) (.inl ⟨by rfl, ?hyr52⟩) (by assumption) ?restr52
        case hyr52 => (intro w hSw; (try dsimp only at hSw); go_simp; first | done | with_reducible rfl)
        (try simp only [Act.put, pu1, pu2, pu3, pu4, pu5, pu6])
        refine wpAnyH_take (i := 2) (v := ?vr53) rfl (by kernel_rfl) (by kernel_rfl) (by kernel_rfl) (fun _ _ _ h => h) (.inl ⟨by rfl, ?hyr53⟩) (by assumption) ?restr53
        case hyr53 => (intro w hSw; (try dsimp only at hSw); go_simp; first | done | with_reducible rfl)
        (try simp only [Act.put, pu1, pu2, pu3, pu4, pu5, pu6])
        refine wpAnyH_take (i := 3) (v := ?vr54) rfl (by kernel_rfl) (by kernel_rfl) (by kernel_rfl) (fun _ _ _ h => h) (.inl ⟨by rfl, ?hyr54⟩) (by assumption) ?restr54
        case hyr54 => (intro w hSw; (try dsimp only at hSw); go_simp; first | done | with_reducible rfl)
        (try simp only [Act.put, pu1, pu2, pu3, pu4, pu5, pu6])
        refine wpAnyH_take (i := 4) (v := ?vr55) rfl (by kernel_rfl) (by kernel_rfl) (by kernel_rfl) (fun _ _ _ h => h) (.inl ⟨by rfl, ?hyr55⟩) (by assumption) ?restr55
        case hyr55 => (intro w hSw; (try dsimp only at hSw); go_simp; first | done | with_reducible rfl)
        (try simp only [Act.put, pu1, pu2, pu3, pu4, pu5, pu6])
        refine wpAnyH_take (i := 5) (v := ?vr56) rfl (by kernel_rfl) (by kernel_rfl) (by kernel_rfl) (fun _ _ _ h => h) (.inl ⟨by rfl, ?hyr56⟩) (by assumption) ?restr56
        case hyr56 => (intro w hSw; (try dsimp only at hSw); go_simp; first | done | with_reducible rfl)
        (try simp only [Act.put, pu1, pu2, pu3, pu4, pu5, pu6])
        refine wpAnyH_take (i := 6) (v := ?vr57) rfl (by kernel_rfl) (by kernel_rfl) (by kernel_rfl) (fun _ _ _ h => h) (.inl ⟨by rfl, ?hyr57⟩) (by assumption) ?restr57
        case hyr57 => (intro w hSw; (try dsimp only at hSw); go_simp; first | done | with_reducible rfl)
        (try simp only [Act.put, pu1, pu2, pu3, pu4, pu5, pu6])
        refine wpAnyH_take (i := 8) (v := ?vr58) rfl (by kernel_rfl) (by kernel_rfl) (by kernel_rfl) (fun _ _ _ h => h) (.inl ⟨by rfl, ?hyr58⟩) (by assumption) ?restr58
        case hyr58 => (intro w hSw; (try dsimp only at hSw); go_simp; first | done | with_reducible rfl)
        (try simp only [Act.put, pu1, pu2, pu3, pu4, pu5, pu6])
        refine wpAnyH_ready (rs := [7]) (by kernel_rfl) (by simp) ?_
        refine AllReadyH.cons rfl (fun K hK => ?_) AllReadyH.nil
        rw [if_pos (by rfl)]
        go_simp
        refine (hck.out _ hbut4.drew).mono ?_
        rintro e w5 ⟨kx, gk, rfl, hkr, hkn, hkb, hb5⟩
        have hkone := hkr.one
        have hkrH := Lib.hid hkr
        have hbut5 := hbut4.drew.trans (hm0.out (below_but0 hb5))
        clear hkr
        refine hK.out _ _ ?_ (fun hHeld2 => ?_)
        · exact hS12.out _ hb5
        clear hK K
        (try simp only [Act.put, pu1, pu2, pu3, pu4, pu5, pu6])
        refine wpAnyH_ready (rs := [9]) (by kernel_rfl) (by simp) ?_
        refine AllReadyH.cons rfl (fun K hK => ?_) AllReadyH.nil
        rw [if_pos (by rfl)]
        go_simp
        refine (hcvv.out _ hbut5).mono ?_
        rintro e w6 ⟨vx, gv, rfl, hvr, hvn, hvb, hb6⟩
        have hvone := hvr.one
        have hvrH := Lib.hid hvr
        have hb46 : Below W.heap.size W.drew w6 := hb5.trans (below_le hb6 hb5.size)
        obtain ⟨w7, hupd, hm7, hbut7, hsz7⟩ := (hm4H.out.keep (w' := w6) (hb46.block m hm4H.out.lt.1) (fun b e => hb46.block b (hm4H.out.lt.2 b e))).store hkeyH.out hroomH.out hkone hvone
        have hm7H := Lib.hid hm7
        have hcc7 := (hbut7.cell (p := ⟨w2.heap.size, 1, none⟩) (Nat.lt_of_lt_of_le hl4 hb46.size) hne4).trans ((hb46.cell (p := ⟨w2.heap.size, 1, none⟩) hl4).trans hcc4)
        clear hvr hm7
        refine hK.out _ _ ?_ (fun hHeld2 => ?_)
        · exact hS12.out _ hb46
        clear hK K
        (try simp only [Act.put, pu1, pu2, pu3, pu4, pu5, pu6])
        refine wpAnyH_take (i := 10) (v := .agg #[kx, vx]) rfl (by kernel_rfl) (by kernel_rfl) (by kernel_rfl) (fun _ _ _ h => h) (.inl ⟨by rfl, ?hyr59⟩) (by assumption) ?restr59
        case hyr59 => (intro w hSw; exact exec_build (vs := #[(0, kx), (1, vx)]) rfl (by simp [Act.eval]) (run_buildPair kx vx hkone hvone w))
        (try simp only [Act.put, pu1, pu2, pu3, pu4, pu5, pu6])
        refine wpAnyH_ready (rs := [11]) (by kernel_rfl) (by simp) ?_
        refine AllReadyH.cons rfl (fun K hK => ?_) AllReadyH.nil
        rw [if_pos (by rfl)]
        go_simp
        refine hK.out _ _ ?_ (fun hHeld2 => ?_)
        · exact (⟨block_cells hm7H.out.1 0, hcv.out w7 (fun i h1 h2 => (hbut7.block i (Nat.lt_of_lt_of_le h2 (Nat.le_trans hbut14.size hb46.size)) (fun e => by omega)).trans ((hb46.block i (Nat.lt_of_lt_of_le h2 hbut14.size)).trans (hbut14.drew.block i h2 (fun e => by have := hlt.1; omega))))⟩ : w7.cell? ⟨m, 0, none⟩ = some (.map (some b4)) ∧ (convert 26 9 sv).run Try.prog w7 = .ok (.string ⟨(encV k).toArray⟩) w7)
        clear hK K
        (try simp only [Act.put, pu1, pu2, pu3, pu4, pu5, pu6])
        refine wpAnyH_done (by kernel_rfl) ?_ _
        go_wp2_with fail
        go_ret3
        have hl44 := hm4H.out.lt.2 b4 rfl
        have hs4 : W.drew.heap.size = W.heap.size := rfl
        have hs5 := hb5.size
        have hs04 := hbut4.size
        refine ⟨b4, kx, vx, gk, gv, by (rw [← hBH.out]; rfl), hm7H.out, VRep.but (VRep.but hkrH.out (below_but0 hb6) (fun _ _ f => f)) hbut7 (fun i hi e => by have := hkb i hi; omega), VRep.but hvrH.out hbut7 (fun i hi e => by have := hvb i hi; omega), hkn, hvn, fun i hi hi' => by (have h1 := VRep.lt _ _ _ hkrH.out i hi; have h2 := hvb i hi'; omega), fun i hi => ?_, .inr ⟨rfl, hb4⟩, ?_⟩
        · rcases List.mem_append.1 hi with h1 | h1
          · have := hkb i h1; omega
          · have := hvb i h1; omega
        · refine But.mono ((hbutS4.drew.then (T := fun _ => False) (below_but0 hb46) (fun _ _ f => f.elim)).then (T := fun i => i = b4) hbut7 (fun i hi e => absurd hi (by omega))) (fun i _ h => h.elim .inl (fun h => .inr ⟨rfl, h.2⟩))
      | some b =>
        have heq3 := run_eql_map_nil w3 47 9 151 (some b) Try.underlying47
        go_wp2_with fail
        have hm4 := hm3
        have hcc4 := hcc3
        have hl4 := hl3
        have hbut4 : But (fun i => i = m) w w3 := hm0.out (below_but0 hbw3)
        have hbut14 : But (fun i => i = m) w1 w3 := hm0.out (below_but0 hb13)
        have hne4 : ¬ w2.heap.size = b := by have := hlt.2 b rfl; have := hbw2.size; omega
        have hb4r : b < w.heap.size ∨ w1.heap.size ≤ b := .inl (hlt.2 b rfl)
        have hbutS4 : But (fun i => some b = some i ∨ some b = none ∧ i = m) w w3 := (below_but0 hbw3).mono (fun _ _ f => f.elim)
        clear hm3 hcc3 hl3 hlen3 hmc3 heq3
        have hS12 := Lib.hid (fun W9 (hb : Below w3.heap.size w3.drew W9) => (⟨(block_cells (hm4.keep (w' := W9) (hb.block m hm4.lt.1) (fun b e => hb.block b (hm4.lt.2 b e))).1 0), hcv.out W9 (fun i h1 h2 => (hb.block i (Nat.lt_of_lt_of_le h2 hbut14.size)).trans (hbut14.drew.block i h2 (fun e => by have := hlt.1; omega)))⟩ : W9.cell? ⟨m, 0, none⟩ = some (.map (some b)) ∧ (convert 26 9 sv).run Try.prog W9 = .ok (.string ⟨(encV k).toArray⟩) W9))
        have hm4H := Lib.hid hm4
        clear hm4
        refine wp_region_held_drew (S := (fun w' => w'.cell? ⟨m, 0, none⟩ = some (.map (some b)) ∧ (convert 26 9 sv).run Try.prog w' = .ok (.string ⟨(encV k).toArray⟩) w')) (by kernel_rfl) (hS12.out _ (Below.refl _ _)) (fun hHeld => ?_)
        refine wpAnyH_take (i := 0) (v := ?vr61) rfl (by kernel_rfl) (by kernel_rfl) (by kernel_rfl) (fun _ _ _ h => h) (.inl ⟨by rfl, ?hyr61⟩) (by assumption) ?restr61
        case hyr61 => (intro w hSw; (try dsimp only at hSw); go_simp; first | done | with_reducible rfl)
        (try simp only [Act.put, pu1, pu2, pu3, pu4, pu5, pu6])
        refine wpAnyH_take (i := 1) (v := ?vr62) rfl (by kernel_rfl) (by kernel_rfl) (by kernel_rfl) (fun _ _ _ h => h) (.inl ⟨by rfl, ?hyr62⟩) (by assumption) ?restr62
        case hyr62 => (intro w hSw; (try dsimp only at hSw); go_simp; first | done | with_reducible rfl)
        (try simp only [Act.put, pu1, pu2, pu3, pu4, pu5, pu6])
        refine wpAnyH_take (i := 2) (v := ?vr63) rfl (by kernel_rfl) (by kernel_rfl) (by kernel_rfl) (fun _ _ _ h => h) (.inl ⟨by rfl, ?hyr63⟩) (by assumption) ?restr63
        case hyr63 => (intro w hSw; (try dsimp only at hSw); go_simp; first | done | with_reducible rfl)
        (try simp only [Act.put, pu1, pu2, pu3, pu4, pu5, pu6])
        refine wpAnyH_take (i := 3) (v := ?vr64) rfl (by kernel_rfl) (by kernel_rfl) (by kernel_rfl) (fun _ _ _ h => h) (.inl ⟨by rfl, ?hyr64⟩) (by assumption) ?restr64
        case hyr64 => (intro w hSw; (try dsimp only at hSw); go_simp; first | done | with_reducible rfl)
        (try simp only [Act.put, pu1, pu2, pu3, pu4, pu5, pu6])
        refine wpAnyH_take (i := 4) (v := ?vr65) rfl (by kernel_rfl) (by kernel_rfl) (by kernel_rfl) (fun _ _ _ h => h) (.inl ⟨by rfl, ?hyr65⟩) (by assumption) ?restr65
        case hyr65 => (intro w hSw; (try dsimp only at hSw); go_simp; first | done | with_reducible rfl)
        (try simp only [Act.put, pu1, pu2, pu3, pu4, pu5, pu6])
        refine wpAnyH_take (i := 5) (v := ?vr66) rfl (by kernel_rfl) (by kernel_rfl) (by kernel_rfl) (fun _ _ _ h => h) (.inl ⟨by rfl, ?hyr66⟩) (by assumption) ?restr66
        case hyr66 => (intro w hSw; (try dsimp only at hSw); go_simp; first | done | with_reducible rfl)
        (try simp only [Act.put, pu1, pu2, pu3, pu4, pu5, pu6])
        refine wpAnyH_take (i := 6) (v := ?vr67) rfl (by kernel_rfl) (by kernel_rfl) (by kernel_rfl) (fun _ _ _ h => h) (.inl ⟨by rfl, ?hyr67⟩) (by assumption) ?restr67
        case hyr67 => (intro w hSw; (try dsimp only at hSw); go_simp; first | done | with_reducible rfl)
        (try simp only [Act.put, pu1, pu2, pu3, pu4, pu5, pu6])
        refine wpAnyH_take (i := 8) (v := ?vr68) rfl (by kernel_rfl) (by kernel_rfl) (by kernel_rfl) (fun _ _ _ h => h) (.inl ⟨by rfl, ?hyr68⟩) (by assumption) ?restr68
        case hyr68 => (intro w hSw; (try dsimp only at hSw); go_simp; first | done | with_reducible rfl)
        (try simp only [Act.put, pu1, pu2, pu3, pu4, pu5, pu6])
        refine wpAnyH_ready (rs := [7]) (by kernel_rfl) (by simp) ?_
        refine AllReadyH.cons rfl (fun K hK => ?_) AllReadyH.nil
        rw [if_pos (by rfl)]
        go_simp
        refine (hck.out _ hbut4.drew).mono ?_
        rintro e w5 ⟨kx, gk, rfl, hkr, hkn, hkb, hb5⟩
        have hkone := hkr.one
        have hkrH := Lib.hid hkr
        have hbut5 := hbut4.drew.trans (hm0.out (below_but0 hb5))
        clear hkr
        refine hK.out _ _ ?_ (fun hHeld2 => ?_)
        · exact hS12.out _ hb5
        clear hK K
        (try simp only [Act.put, pu1, pu2, pu3, pu4, pu5, pu6])
        refine wpAnyH_ready (rs := [9]) (by kernel_rfl) (by simp) ?_
        refine AllReadyH.cons rfl (fun K hK => ?_) AllReadyH.nil
        rw [if_pos (by rfl)]
        go_simp
        refine (hcvv.out _ hbut5).mono ?_
        rintro e w6 ⟨vx, gv, rfl, hvr, hvn, hvb, hb6⟩
        have hvone := hvr.one
        have hvrH := Lib.hid hvr
        have hb46 : Below w3.heap.size w3.drew w6 := hb5.trans (below_le hb6 hb5.size)
        obtain ⟨w7, hupd, hm7, hbut7, hsz7⟩ := (hm4H.out.keep (w' := w6) (hb46.block m hm4H.out.lt.1) (fun b e => hb46.block b (hm4H.out.lt.2 b e))).store hkeyH.out hroomH.out hkone hvone
        have hm7H := Lib.hid hm7
        have hcc7 := (hbut7.cell (p := ⟨w2.heap.size, 1, none⟩) (Nat.lt_of_lt_of_le hl4 hb46.size) hne4).trans ((hb46.cell (p := ⟨w2.heap.size, 1, none⟩) hl4).trans hcc4)
        clear hvr hm7
        refine hK.out _ _ ?_ (fun hHeld2 => ?_)
        · exact hS12.out _ hb46
        clear hK K
        (try simp only [Act.put, pu1, pu2, pu3, pu4, pu5, pu6])
        refine wpAnyH_take (i := 10) (v := .agg #[kx, vx]) rfl (by kernel_rfl) (by kernel_rfl) (by kernel_rfl) (fun _ _ _ h => h) (.inl ⟨by rfl, ?hyr69⟩) (by assumption) ?restr69
        case hyr69 => (intro w hSw; exact exec_build (vs := #[(0, kx), (1, vx)]) rfl (by simp [Act.eval]) (run_buildPair kx vx hkone hvone w))
        (try simp only [Act.put, pu1, pu2, pu3, pu4, pu5, pu6])
        refine wpAnyH_ready (rs := [11]) (by kernel_rfl) (by simp) ?_
        refine AllReadyH.cons rfl (fun K hK => ?_) AllReadyH.nil
        rw [if_pos (by rfl)]
        go_simp
        refine hK.out _ _ ?_ (fun hHeld2 => ?_)
        · exact (⟨block_cells hm7H.out.1 0, hcv.out w7 (fun i h1 h2 => (hbut7.block i (Nat.lt_of_lt_of_le h2 (Nat.le_trans hbut14.size hb46.size)) (fun e => by omega)).trans ((hb46.block i (Nat.lt_of_lt_of_le h2 hbut14.size)).trans (hbut14.drew.block i h2 (fun e => by have := hlt.1; omega))))⟩ : w7.cell? ⟨m, 0, none⟩ = some (.map (some b)) ∧ (convert 26 9 sv).run Try.prog w7 = .ok (.string ⟨(encV k).toArray⟩) w7)
        clear hK K
        (try simp only [Act.put, pu1, pu2, pu3, pu4, pu5, pu6])
        refine wpAnyH_done (by kernel_rfl) ?_ _
        go_wp2_with fail
        go_ret3
        have hl44 := hm4H.out.lt.2 b rfl
        have hs4 : w3.drew.heap.size = w3.heap.size := rfl
        have hs5 := hb5.size
        have hs04 := hbut4.size
        refine ⟨b, kx, vx, gk, gv, by (rw [← hBH.out]; rfl), hm7H.out, VRep.but (VRep.but hkrH.out (below_but0 hb6) (fun _ _ f => f)) hbut7 (fun i hi e => by have := hkb i hi; omega), VRep.but hvrH.out hbut7 (fun i hi e => by have := hvb i hi; omega), hkn, hvn, fun i hi hi' => by (have h1 := VRep.lt _ _ _ hkrH.out i hi; have h2 := hvb i hi'; omega), fun i hi => ?_, .inl rfl, ?_⟩
        · rcases List.mem_append.1 hi with h1 | h1
          · have := hkb i h1; omega
          · have := hvb i h1; omega
        · refine ((hbutS4.drew.then (T := fun _ => False) (below_but0 hb46) (fun _ _ f => f.elim)).then (T := fun i => i = b) hbut7 (fun i hi e => .inl (by rw [e])))
    | true =>
      cases o with
      | none =>
        have heq3 := run_eql_map_nil w3 47 9 151 none Try.underlying47
        have hmk3 := run_makeMap (P := Try.prog) 47 w3
        have hml3 : m < w3.heap.size := Nat.lt_of_lt_of_le hlt.1 hbw3.size
        have hfz3 := frozen_block hm3.1 0
        go_wp2_with fail
        obtain ⟨W, hW⟩ : ∃ W, W = (w3.setCell ⟨m, 0, none⟩ (.map (some w3.heap.size))).alloc (Obj.map #[] 0) := ⟨_, rfl⟩
        have hm4 : MapAt W m (some w3.heap.size) D := by rw [hW]; exact map_made hm3
        have hmne : ¬ w2.heap.size = m := by have := hlt.1; have := hbw2.size; omega
        have hcc4 : W.cell? ⟨w2.heap.size, 1, none⟩ = some c0 := by rw [hW]; simp [go_sem, hl3, hmne, hcc3]
        have hl4 : w2.heap.size < W.heap.size := by rw [hW]; simp; omega
        have hbut4 : But (fun i => i = m) w W := by rw [hW]; exact ((hm0.out (below_but0 hbw3)).setCell (fun _ => rfl) _).alloc _
        have hbut14 : But (fun i => i = m) w1 W := by rw [hW]; exact ((hm0.out (below_but0 hb13)).setCell (fun _ => rfl) _).alloc _
        have hne4 : ¬ w2.heap.size = w3.heap.size := by omega
        have hb4 : w.heap.size ≤ w3.heap.size := hbw3.size
        have hb4q : w1.heap.size ≤ w3.heap.size := hb13.size
        rw [← hW]
        clear hW
        generalize w3.heap.size = b4 at *
        clear hm3 hcc3 hlen3 hmc3 heq3 hmk3 hfz3 hml3
        have hb4r : b4 < w.heap.size ∨ w1.heap.size ≤ b4 := .inr hb4q
        have hbutS4 : But (fun i => (none : Option Nat) = some i ∨ (none : Option Nat) = none ∧ i = m) w W := hbut4.mono (fun _ _ e => .inr ⟨rfl, e⟩)
        have hS12 := Lib.hid (fun W9 (hb : Below W.heap.size W.drew W9) => (⟨(block_cells (hm4.keep (w' := W9) (hb.block m hm4.lt.1) (fun b e => hb.block b (hm4.lt.2 b e))).1 0), hcv.out W9 (fun i h1 h2 => (hb.block i (Nat.lt_of_lt_of_le h2 hbut14.size)).trans (hbut14.drew.block i h2 (fun e => by have := hlt.1; omega)))⟩ : W9.cell? ⟨m, 0, none⟩ = some (.map (some b4)) ∧ (convert 26 9 sv).run Try.prog W9 = .ok (.string ⟨(encV k).toArray⟩) W9))
        have hm4H := Lib.hid hm4
        clear hm4
        refine wp_region_held_drew (S := (fun w' => w'.cell? ⟨m, 0, none⟩ = some (.map (some b4)) ∧ (convert 26 9 sv).run Try.prog w' = .ok (.string ⟨(encV k).toArray⟩) w')) (by kernel_rfl) (hS12.out _ (Below.refl _ _)) (fun hHeld => ?_)
        refine wpAnyH_take (i := 0) (v := ?vr71) rfl (by kernel_rfl) (by kernel_rfl) (by kernel_rfl) (fun _ _ _ h => h) (.inl ⟨by rfl, ?hyr71⟩) (by assumption) ?restr71
        case hyr71 => (intro w hSw; (try dsimp only at hSw); go_simp; first | done | with_reducible rfl)
        (try simp only [Act.put, pu1, pu2, pu3, pu4, pu5, pu6])
        refine wpAnyH_take (i := 1) (v := ?vr72) rfl (by kernel_rfl) (by kernel_rfl) (by kernel_rfl) (fun _ _ _ h => h) (.inl ⟨by rfl, ?hyr72⟩) (by assumption) ?restr72
        case hyr72 => (intro w hSw; (try dsimp only at hSw); go_simp; first | done | with_reducible rfl)
        (try simp only [Act.put, pu1, pu2, pu3, pu4, pu5, pu6])
        refine wpAnyH_take (i := 2) (v := ?vr73) rfl (by kernel_rfl) (by kernel_rfl) (by kernel_rfl) (fun _ _ _ h => h) (.inl ⟨by rfl, ?hyr73⟩) (by assumption) ?restr73
        case hyr73 => (intro w hSw; (try dsimp only at hSw); go_simp; first | done | with_reducible rfl)
        (try simp only [Act.put, pu1, pu2, pu3, pu4, pu5, pu6])
        refine wpAnyH_take (i := 3) (v := ?vr74) rfl (by kernel_rfl) (by kernel_rfl) (by kernel_rfl) (fun _ _ _ h => h) (.inl ⟨by rfl, ?hyr74⟩) (by assumption) ?restr74
        case hyr74 => (intro w hSw; (try dsimp only at hSw); go_simp; first | done | with_reducible rfl)
        (try simp only [Act.put, pu1, pu2, pu3, pu4, pu5, pu6])
        refine wpAnyH_take (i := 4) (v := ?vr75) rfl (by kernel_rfl) (by kernel_rfl) (by kernel_rfl) (fun _ _ _ h => h) (.inl ⟨by rfl, ?hyr75⟩) (by assumption) ?restr75
        case hyr75 => (intro w hSw; (try dsimp only at hSw); go_simp; first | done | with_reducible rfl)
        (try simp only [Act.put, pu1, pu2, pu3, pu4, pu5, pu6])
        refine wpAnyH_take (i := 5) (v := ?vr76) rfl (by kernel_rfl) (by kernel_rfl) (by kernel_rfl) (fun _ _ _ h => h) (.inl ⟨by rfl, ?hyr76⟩) (by assumption) ?restr76
        case hyr76 => (intro w hSw; (try dsimp only at hSw); go_simp; first | done | with_reducible rfl)
        (try simp only [Act.put, pu1, pu2, pu3, pu4, pu5, pu6])
        refine wpAnyH_take (i := 6) (v := ?vr77) rfl (by kernel_rfl) (by kernel_rfl) (by kernel_rfl) (fun _ _ _ h => h) (.inl ⟨by rfl, ?hyr77⟩) (by assumption) ?restr77
        case hyr77 => (intro w hSw; (try dsimp only at hSw); go_simp; first | done | with_reducible rfl)
        (try simp only [Act.put, pu1, pu2, pu3, pu4, pu5, pu6])
        refine wpAnyH_take (i := 8) (v := ?vr78) rfl (by kernel_rfl) (by kernel_rfl) (by kernel_rfl) (fun _ _ _ h => h) (.inl ⟨by rfl, ?hyr78⟩) (by assumption) ?restr78
        case hyr78 => (intro w hSw; (try dsimp only at hSw); go_simp; first | done | with_reducible rfl)
        (try simp only [Act.put, pu1, pu2, pu3, pu4, pu5, pu6])
        refine wpAnyH_ready (rs := [7]) (by kernel_rfl) (by simp) ?_
        refine AllReadyH.cons rfl (fun K hK => ?_) AllReadyH.nil
        rw [if_pos (by rfl)]
        go_simp
        refine (hck.out _ hbut4.drew).mono ?_
        rintro e w5 ⟨kx, gk, rfl, hkr, hkn, hkb, hb5⟩
        have hkone := hkr.one
        have hkrH := Lib.hid hkr
        have hbut5 := hbut4.drew.trans (hm0.out (below_but0 hb5))
        clear hkr
        refine hK.out _ _ ?_ (fun hHeld2 => ?_)
        · exact hS12.out _ hb5
        clear hK K
        (try simp only [Act.put, pu1, pu2, pu3, pu4, pu5, pu6])
        refine wpAnyH_ready (rs := [9]) (by kernel_rfl) (by simp) ?_
        refine AllReadyH.cons rfl (fun K hK => ?_) AllReadyH.nil
        rw [if_pos (by rfl)]
        go_simp
        refine (hcvv.out _ hbut5).mono ?_
        rintro e w6 ⟨vx, gv, rfl, hvr, hvn, hvb, hb6⟩
        have hvone := hvr.one
        have hvrH := Lib.hid hvr
        have hb46 : Below W.heap.size W.drew w6 := hb5.trans (below_le hb6 hb5.size)
        obtain ⟨w7, hupd, hm7, hbut7, hsz7⟩ := (hm4H.out.keep (w' := w6) (hb46.block m hm4H.out.lt.1) (fun b e => hb46.block b (hm4H.out.lt.2 b e))).store hkeyH.out hroomH.out hkone hvone
        have hm7H := Lib.hid hm7
        have hcc7 := (hbut7.cell (p := ⟨w2.heap.size, 1, none⟩) (Nat.lt_of_lt_of_le hl4 hb46.size) hne4).trans ((hb46.cell (p := ⟨w2.heap.size, 1, none⟩) hl4).trans hcc4)
        clear hvr hm7
        refine hK.out _ _ ?_ (fun hHeld2 => ?_)
        · exact hS12.out _ hb46
        clear hK K
        (try simp only [Act.put, pu1, pu2, pu3, pu4, pu5, pu6])
        refine wpAnyH_take (i := 10) (v := .agg #[kx, vx]) rfl (by kernel_rfl) (by kernel_rfl) (by kernel_rfl) (fun _ _ _ h => h) (.inl ⟨by rfl, ?hyr79⟩) (by assumption) ?restr79
        case hyr79 => (intro w hSw; exact exec_build (vs := #[(0, kx), (1, vx)]) rfl (by simp [Act.eval]) (run_buildPair kx vx hkone hvone w))
        (try simp only [Act.put, pu1, pu2, pu3, pu4, pu5, pu6])
        refine wpAnyH_ready (rs := [11]) (by kernel_rfl) (by simp) ?_
        refine AllReadyH.cons rfl (fun K hK => ?_) AllReadyH.nil
        rw [if_pos (by rfl)]
        go_simp
        refine hK.out _ _ ?_ (fun hHeld2 => ?_)
        · exact (⟨block_cells hm7H.out.1 0, hcv.out w7 (fun i h1 h2 => (hbut7.block i (Nat.lt_of_lt_of_le h2 (Nat.le_trans hbut14.size hb46.size)) (fun e => by omega)).trans ((hb46.block i (Nat.lt_of_lt_of_le h2 hbut14.size)).trans (hbut14.drew.block i h2 (fun e => by have := hlt.1; omega))))⟩ : w7.cell? ⟨m, 0, none⟩ = some (.map (some b4)) ∧ (convert 26 9 sv).run Try.prog w7 = .ok (.string ⟨(encV k).toArray⟩) w7)
        clear hK K
        (try simp only [Act.put, pu1, pu2, pu3, pu4, pu5, pu6])
        refine wpAnyH_done (by kernel_rfl) ?_ _
        go_wp2_with fail
        go_ret3
        have hl44 := hm4H.out.lt.2 b4 rfl
        have hs4 : W.drew.heap.size = W.heap.size := rfl
        have hs5 := hb5.size
        have hs04 := hbut4.size
        refine ⟨b4, kx, vx, gk, gv, by (rw [← hBH.out]; rfl), hm7H.out, VRep.but (VRep.but hkrH.out (below_but0 hb6) (fun _ _ f => f)) hbut7 (fun i hi e => by have := hkb i hi; omega), VRep.but hvrH.out hbut7 (fun i hi e => by have := hvb i hi; omega), hkn, hvn, fun i hi hi' => by (have h1 := VRep.lt _ _ _ hkrH.out i hi; have h2 := hvb i hi'; omega), fun i hi => ?_, .inr ⟨rfl, hb4⟩, ?_⟩
        · rcases List.mem_append.1 hi with h1 | h1
          · have := hkb i h1; omega
          · have := hvb i h1; omega
        · refine But.mono ((hbutS4.drew.then (T := fun _ => False) (below_but0 hb46) (fun _ _ f => f.elim)).then (T := fun i => i = b4) hbut7 (fun i hi e => absurd hi (by omega))) (fun i _ h => h.elim .inl (fun h => .inr ⟨rfl, h.2⟩))
      | some b =>
        have heq3 := run_eql_map_nil w3 47 9 151 (some b) Try.underlying47
        go_wp2_with fail
        have hm4 := hm3
        have hcc4 := hcc3
        have hl4 := hl3
        have hbut4 : But (fun i => i = m) w w3 := hm0.out (below_but0 hbw3)
        have hbut14 : But (fun i => i = m) w1 w3 := hm0.out (below_but0 hb13)
        have hne4 : ¬ w2.heap.size = b := by have := hlt.2 b rfl; have := hbw2.size; omega
        have hb4r : b < w.heap.size ∨ w1.heap.size ≤ b := .inl (hlt.2 b rfl)
        have hbutS4 : But (fun i => some b = some i ∨ some b = none ∧ i = m) w w3 := (below_but0 hbw3).mono (fun _ _ f => f.elim)
        clear hm3 hcc3 hl3 hlen3 hmc3 heq3
        have hS12 := Lib.hid (fun W9 (hb : Below w3.heap.size w3.drew W9) => (⟨(block_cells (hm4.keep (w' := W9) (hb.block m hm4.lt.1) (fun b e => hb.block b (hm4.lt.2 b e))).1 0), hcv.out W9 (fun i h1 h2 => (hb.block i (Nat.lt_of_lt_of_le h2 hbut14.size)).trans (hbut14.drew.block i h2 (fun e => by have := hlt.1; omega)))⟩ : W9.cell? ⟨m, 0, none⟩ = some (.map (some b)) ∧ (convert 26 9 sv).run Try.prog W9 = .ok (.string ⟨(encV k).toArray⟩) W9))
        have hm4H := Lib.hid hm4
        clear hm4
        refine wp_region_held_drew (S := (fun w' => w'.cell? ⟨m, 0, none⟩ = some (.map (some b)) ∧ (convert 26 9 sv).run Try.prog w' = .ok (.string ⟨(encV k).toArray⟩) w')) (by kernel_rfl) (hS12.out _ (Below.refl _ _)) (fun hHeld => ?_)
        refine wpAnyH_take (i := 0) (v := ?vr81) rfl (by kernel_rfl) (by kernel_rfl) (by kernel_rfl) (fun _ _ _ h => h) (.inl ⟨by rfl, ?hyr81⟩) (by assumption) ?restr81
        case hyr81 => (intro w hSw; (try dsimp only at hSw); go_simp; first | done | with_reducible rfl)
        (try simp only [Act.put, pu1, pu2, pu3, pu4, pu5, pu6])
        refine wpAnyH_take (i := 1) (v := ?vr82) rfl (by kernel_rfl) (by kernel_rfl) (by kernel_rfl) (fun _ _ _ h => h) (.inl ⟨by rfl, ?hyr82⟩) (by assumption) ?restr82
        case hyr82 => (intro w hSw; (try dsimp only at hSw); go_simp; first | done | with_reducible rfl)
        (try simp only [Act.put, pu1, pu2, pu3, pu4, pu5, pu6])
        refine wpAnyH_take (i := 2) (v := ?vr83) rfl (by kernel_rfl) (by kernel_rfl) (by kernel_rfl) (fun _ _ _ h => h) (.inl ⟨by rfl, ?hyr83⟩) (by assumption) ?restr83
        case hyr83 => (intro w hSw; (try dsimp only at hSw); go_simp; first | done | with_reducible rfl)
        (try simp only [Act.put, pu1, pu2, pu3, pu4, pu5, pu6])
        refine wpAnyH_take (i := 3) (v := ?vr84) rfl (by kernel_rfl) (by kernel_rfl) (by kernel_rfl) (fun _ _ _ h => h) (.inl ⟨by rfl, ?hyr84⟩) (by assumption) ?restr84
        case hyr84 => (intro w hSw; (try dsimp only at hSw); go_simp; first | done | with_reducible rfl)
        (try simp only [Act.put, pu1, pu2, pu3, pu4, pu5, pu6])
        refine wpAnyH_take (i := 4) (v := ?vr85) rfl (by kernel_rfl) (by kernel_rfl) (by kernel_rfl) (fun _ _ _ h => h) (.inl ⟨by rfl, ?hyr85⟩) (by assumption) ?restr85
        case hyr85 => (intro w hSw; (try dsimp only at hSw); go_simp; first | done | with_reducible rfl)
        (try simp only [Act.put, pu1, pu2, pu3, pu4, pu5, pu6])
        refine wpAnyH_take (i := 5) (v := ?vr86) rfl (by kernel_rfl) (by kernel_rfl) (by kernel_rfl) (fun _ _ _ h => h) (.inl ⟨by rfl, ?hyr86⟩) (by assumption) ?restr86
        case hyr86 => (intro w hSw; (try dsimp only at hSw); go_simp; first | done | with_reducible rfl)
        (try simp only [Act.put, pu1, pu2, pu3, pu4, pu5, pu6])
        refine wpAnyH_take (i := 6) (v := ?vr87) rfl (by kernel_rfl) (by kernel_rfl) (by kernel_rfl) (fun _ _ _ h => h) (.inl ⟨by rfl, ?hyr87⟩) (by assumption) ?restr87
        case hyr87 => (intro w hSw; (try dsimp only at hSw); go_simp; first | done | with_reducible rfl)
        (try simp only [Act.put, pu1, pu2, pu3, pu4, pu5, pu6])
        refine wpAnyH_take (i := 8) (v := ?vr88) rfl (by kernel_rfl) (by kernel_rfl) (by kernel_rfl) (fun _ _ _ h => h) (.inl ⟨by rfl, ?hyr88⟩) (by assumption) ?restr88
        case hyr88 => (intro w hSw; (try dsimp only at hSw); go_simp; first | done | with_reducible rfl)
        (try simp only [Act.put, pu1, pu2, pu3, pu4, pu5, pu6])
        refine wpAnyH_ready (rs := [7]) (by kernel_rfl) (by simp) ?_
        refine AllReadyH.cons rfl (fun K hK => ?_) AllReadyH.nil
        rw [if_pos (by rfl)]
        go_simp
        refine (hck.out _ hbut4.drew).mono ?_
        rintro e w5 ⟨kx, gk, rfl, hkr, hkn, hkb, hb5⟩
        have hkone := hkr.one
        have hkrH := Lib.hid hkr
        have hbut5 := hbut4.drew.trans (hm0.out (below_but0 hb5))
        clear hkr
        refine hK.out _ _ ?_ (fun hHeld2 => ?_)
        · exact hS12.out _ hb5
        clear hK K
        (try simp only [Act.put, pu1, pu2, pu3, pu4, pu5, pu6])
        refine wpAnyH_ready (rs := [9]) (by kernel_rfl) (by simp) ?_
        refine AllReadyH.cons rfl (fun K hK => ?_) AllReadyH.nil
        rw [if_pos (by rfl)]
        go_simp
        refine (hcvv.out _ hbut5).mono ?_
        rintro e w6 ⟨vx, gv, rfl, hvr, hvn, hvb, hb6⟩
        have hvone := hvr.one
        have hvrH := Lib.hid hvr
        have hb46 : Below w3.heap.size w3.drew w6 := hb5.trans (below_le hb6 hb5.size)
        obtain ⟨w7, hupd, hm7, hbut7, hsz7⟩ := (hm4H.out.keep (w' := w6) (hb46.block m hm4H.out.lt.1) (fun b e => hb46.block b (hm4H.out.lt.2 b e))).store hkeyH.out hroomH.out hkone hvone
        have hm7H := Lib.hid hm7
        have hcc7 := (hbut7.cell (p := ⟨w2.heap.size, 1, none⟩) (Nat.lt_of_lt_of_le hl4 hb46.size) hne4).trans ((hb46.cell (p := ⟨w2.heap.size, 1, none⟩) hl4).trans hcc4)
        clear hvr hm7
        refine hK.out _ _ ?_ (fun hHeld2 => ?_)
        · exact hS12.out _ hb46
        clear hK K
        (try simp only [Act.put, pu1, pu2, pu3, pu4, pu5, pu6])
        refine wpAnyH_take (i := 10) (v := .agg #[kx, vx]) rfl (by kernel_rfl) (by kernel_rfl) (by kernel_rfl) (fun _ _ _ h => h) (.inl ⟨by rfl, ?hyr89⟩) (by assumption) ?restr89
        case hyr89 => (intro w hSw; exact exec_build (vs := #[(0, kx), (1, vx)]) rfl (by simp [Act.eval]) (run_buildPair kx vx hkone hvone w))
        (try simp only [Act.put, pu1, pu2, pu3, pu4, pu5, pu6])
        refine wpAnyH_ready (rs := [11]) (by kernel_rfl) (by simp) ?_
        refine AllReadyH.cons rfl (fun K hK => ?_) AllReadyH.nil
        rw [if_pos (by rfl)]
        go_simp
        refine hK.out _ _ ?_ (fun hHeld2 => ?_)
        · exact (⟨block_cells hm7H.out.1 0, hcv.out w7 (fun i h1 h2 => (hbut7.block i (Nat.lt_of_lt_of_le h2 (Nat.le_trans hbut14.size hb46.size)) (fun e => by omega)).trans ((hb46.block i (Nat.lt_of_lt_of_le h2 hbut14.size)).trans (hbut14.drew.block i h2 (fun e => by have := hlt.1; omega))))⟩ : w7.cell? ⟨m, 0, none⟩ = some (.map (some b)) ∧ (convert 26 9 sv).run Try.prog w7 = .ok (.string ⟨(encV k).toArray⟩) w7)
        clear hK K
        (try simp only [Act.put, pu1, pu2, pu3, pu4, pu5, pu6])
        refine wpAnyH_done (by kernel_rfl) ?_ _
        go_wp2_with fail
        go_ret3
        have hl44 := hm4H.out.lt.2 b rfl
        have hs4 : w3.drew.heap.size = w3.heap.size := rfl
        have hs5 := hb5.size
        have hs04 := hbut4.size
        refine ⟨b, kx, vx, gk, gv, by (rw [← hBH.out]; rfl), hm7H.out, VRep.but (VRep.but hkrH.out (below_but0 hb6) (fun _ _ f => f)) hbut7 (fun i hi e => by have := hkb i hi; omega), VRep.but hvrH.out hbut7 (fun i hi e => by have := hvb i hi; omega), hkn, hvn, fun i hi hi' => by (have h1 := VRep.lt _ _ _ hkrH.out i hi; have h2 := hvb i hi'; omega), fun i hi => ?_, .inl rfl, ?_⟩
        · rcases List.mem_append.1 hi with h1 | h1
          · have := hkb i h1; omega
          · have := hvb i h1; omega
        · refine ((hbutS4.drew.then (T := fun _ => False) (below_but0 hb46) (fun _ _ f => f.elim)).then (T := fun i => i = b) hbut7 (fun i hi e => .inl (by rw [e])))
set_option maxRecDepth 100000 in
set_option maxHeartbeats 3200000 in
/-- Where there is no room. -/
theorem mapPut_full {w : World} {m : Nat} {o : Option Nat} {D : DataW Value} (hm : MapAt w m o D) {k v : Val} {x y : Value} {fs gs : List Nat} (h : VRep w k x fs) (hn : numsV k) (hok : okB k = true) (hv : VRep w v y gs) (hvk : okB v = true)
    (hnot : Maps.has D (keyL k) = false) (hfull : 4096 ≤ Maps.size D) :
    Calls Try.prog 16 #[.pointer (some ⟨m, 0, none⟩), x, y] w fun e w' => e = .returned (.tuple #[.nilIface, .bool false, .int .i64 50]) ∧ Below w.heap.size w w' := by
  have hx := h.one
  have hy := hv.one
  obtain ⟨a0, c0, -, hat, -, -⟩ := hm.look (keyL_of k (enc_small hn hok))
  have hk := Lib.hid (encode_ok h hn hok)
  have hc := Lib.hid (fun W (hb : Below w.heap.size w W) => Check_any (VRep.but hv (below_but0 hb) (fun _ _ f => f)))
  rw [check_ok hvk] at hc
  have hkey := keyL_of k (enc_small hn hok)
  have hlook := Lib.hid (fun W (hb : Below w.heap.size w W) => (hm.below hb).look_at hkey hat)
  have hmc := Lib.hid (fun W (hb : Below w.heap.size w W) => (show W.cell? ⟨m, 0, none⟩ = some (.map o) from block_cells (hm.below hb).1 0))
  have hlt := hm.lt
  have hmH := Lib.hid hm
  have hkeyH := Lib.hid hkey
  clear h hm hkey hat hv
  go_enter Try.func16, Try.ntmps16
  go_wp2_with fail
  refine hk.out.mono ?_
  rintro e w1 ⟨sv, rfl, hown, hb1⟩
  have hone : sv.oneCell' = true := by obtain ⟨_, _, rfl, -⟩ := ownsRow_form hown; rfl
  have hcv := Lib.hid (fun (W : World) (hb : ∀ i, w.heap.size ≤ i → i < w1.heap.size → W.heap[i]? = w1.heap[i]?) => conv_own (ownsRow_keep hown (fun b hb' => hb b (ownsRow_lt hown b hb').1 (ownsRow_lt hown b hb').2)))
  have hm0 : Hid (∀ {a c : World}, But (fun _ => False) a c → But (fun i => i = m) a c) := Lib.hid (fun h => h.mono (fun _ _ f => f.elim))
  clear hown
  go_wp2_with fail
  refine (hc.out _ hb1).mono ?_
  rintro e w2 ⟨rfl, hb2⟩
  obtain ⟨-, ha0, hc0⟩ := hlook.out w (Below.refl _ _)
  have hbw2 : Below w.heap.size w w2 := hb1.trans (below_le hb2 hb1.size)
  go_wp2_with fail
  have hS7 := Lib.hid (fun W (hb : Below w.heap.size w W) (hb' : Below w1.heap.size w1 W) => (⟨hmc.out W hb, hcv.out W (fun i _ h2 => hb'.block i h2)⟩ : W.cell? ⟨m, 0, none⟩ = some (.map o) ∧ (convert 26 9 sv).run Try.prog W = .ok (.string ⟨(encV k).toArray⟩) W))
  refine wp_region_held_drew (S := (fun w' => w'.cell? ⟨m, 0, none⟩ = some (.map o) ∧ (convert 26 9 sv).run Try.prog w' = .ok (.string ⟨(encV k).toArray⟩) w')) (by kernel_rfl) (hS7.out _ hbw2.drew hb2.drew) (fun hHeld => ?_)
  refine wpAnyH_take (i := 0) (v := ?vqf1) rfl (by kernel_rfl) (by kernel_rfl) (by kernel_rfl) (fun _ _ _ h => h) (.inl ⟨by rfl, ?hyqf1⟩) (by assumption) ?restqf1
  case hyqf1 => (intro w hSw; (try dsimp only at hSw); go_simp; first | done | with_reducible rfl)
  (try simp only [Act.put, pu1, pu2, pu3, pu4, pu5, pu6])
  refine wpAnyH_take (i := 1) (v := ?vqf2) rfl (by kernel_rfl) (by kernel_rfl) (by kernel_rfl) (fun _ _ _ h => h) (.inl ⟨by rfl, ?hyqf2⟩) (by assumption) ?restqf2
  case hyqf2 => (intro w hSw; (try dsimp only at hSw); go_simp; first | done | with_reducible rfl)
  (try simp only [Act.put, pu1, pu2, pu3, pu4, pu5, pu6])
  refine wpAnyH_take (i := 2) (v := ?vqf3) rfl (by kernel_rfl) (by kernel_rfl) (by kernel_rfl) (fun _ _ _ h => h) (.inl ⟨by rfl, ?hyqf3⟩) (by assumption) ?restqf3
  case hyqf3 => (intro w hSw; (try dsimp only at hSw); go_simp; first | done | with_reducible rfl)
  (try simp only [Act.put, pu1, pu2, pu3, pu4, pu5, pu6])
  refine wpAnyH_take (i := 3) (v := ?vqf4) rfl (by kernel_rfl) (by kernel_rfl) (by kernel_rfl) (fun _ _ _ h => h) (.inl ⟨by rfl, ?hyqf4⟩) (by assumption) ?restqf4
  case hyqf4 => (intro w hSw; (try dsimp only at hSw); go_simp; first | done | with_reducible rfl)
  (try simp only [Act.put, pu1, pu2, pu3, pu4, pu5, pu6])
  refine wpAnyH_take (i := 4) (v := ?vqf5) rfl (by kernel_rfl) (by kernel_rfl) (by kernel_rfl) (fun _ _ _ h => h) (.inl ⟨by rfl, ?hyqf5⟩) (by assumption) ?restqf5
  case hyqf5 => (intro w hSw; (try dsimp only at hSw); go_simp; first | done | with_reducible rfl)
  (try simp only [Act.put, pu1, pu2, pu3, pu4, pu5, pu6])
  refine wpAnyH_take (i := 5) (v := ?vqf6) rfl (by kernel_rfl) (by kernel_rfl) (by kernel_rfl) (fun _ _ _ h => h) (.inl ⟨by rfl, ?hyqf6⟩) (by assumption) ?restqf6
  case hyqf6 => (intro w hSw; (try dsimp only at hSw); go_simp; first | done | with_reducible rfl)
  (try simp only [Act.put, pu1, pu2, pu3, pu4, pu5, pu6])
  refine wpAnyH_ready (rs := [6, 10]) (by kernel_rfl) (by simp) ?_
  refine AllReadyH.cons rfl (fun K hK => ?_) (AllReadyH.cons rfl (fun K hK => ?_) AllReadyH.nil)
  · rw [if_pos (by rfl)]
    have hrun := (hlook.out _ hbw2.drew).1
    go_simp
    refine hK.out _ _ ?_ (fun hHeld2 => ?_)
    · exact hS7.out _ hbw2.drew hb2.drew
    clear hK K
    (try simp only [Act.put, pu1, pu2, pu3, pu4, pu5, pu6])
    refine wpAnyH_take (i := 7) (v := ?vqf7) rfl (by kernel_rfl) (by kernel_rfl) (by kernel_rfl) (fun _ _ _ h => h) (.inl ⟨by rfl, ?hyqf7⟩) (by assumption) ?restqf7
    case hyqf7 => (intro w hSw; (try dsimp only at hSw); go_simp; first | done | with_reducible rfl)
    (try simp only [Act.put, pu1, pu2, pu3, pu4, pu5, pu6])
    refine wpAnyH_take (i := 8) (v := ?vqf8) rfl (by kernel_rfl) (by kernel_rfl) (by kernel_rfl) (fun _ _ _ h => h) (.inl ⟨by rfl, ?hyqf8⟩) (by assumption) ?restqf8
    case hyqf8 => (intro w hSw; (try dsimp only at hSw); go_simp; first | done | with_reducible rfl)
    (try simp only [Act.put, pu1, pu2, pu3, pu4, pu5, pu6])
    refine wpAnyH_take (i := 9) (v := ?vqf9) rfl (by kernel_rfl) (by kernel_rfl) (by kernel_rfl) (fun _ _ _ h => h) (.inl ⟨by rfl, ?hyqf9⟩) (by assumption) ?restqf9
    case hyqf9 => (intro w hSw; (try dsimp only at hSw); go_simp; first | done | with_reducible rfl)
    (try simp only [Act.put, pu1, pu2, pu3, pu4, pu5, pu6])
    refine wpAnyH_ready (rs := [10]) (by kernel_rfl) (by simp) ?_
    refine AllReadyH.cons rfl (fun K hK => ?_) AllReadyH.nil
    rw [if_pos (by rfl)]
    go_simp
    refine hK.out _ _ ?_ (fun hHeld2 => ?_)
    · exact hS7.out _ (hbw2.alloc hbw2.size (Obj.cells #[Value.nilIface, Value.nilIface] 151)).drew (hb2.alloc hb2.size _).drew
    clear hK K
    (try simp only [Act.put, pu1, pu2, pu3, pu4, pu5, pu6])
    refine wpAnyH_ready (rs := [11]) (by kernel_rfl) (by simp) ?_
    refine AllReadyH.cons rfl (fun K hK => ?_) AllReadyH.nil
    rw [if_pos (by rfl)]
    go_simp
    refine hK.out _ _ ?_ (fun hHeld2 => ?_)
    · exact hS7.out _ (hbw2.alloc hbw2.size _).drew (hb2.alloc hb2.size _).drew
    clear hK K
    (try simp only [Act.put, pu1, pu2, pu3, pu4, pu5, pu6])
    refine wpAnyH_take (i := 12) (v := ?vqf10) rfl (by kernel_rfl) (by kernel_rfl) (by kernel_rfl) (fun _ _ _ h => h) (.inl ⟨by rfl, ?hyqf10⟩) (by assumption) ?restqf10
    case hyqf10 => (intro w hSw; (try dsimp only at hSw); go_simp; first | done | with_reducible rfl)
    (try simp only [Act.put, pu1, pu2, pu3, pu4, pu5, pu6])
    refine wpAnyH_done (by kernel_rfl) ?_ _
    have hbw3 : Below w.heap.size w (w2.alloc (Obj.cells #[a0, c0] 151)).drew := (hbw2.alloc hbw2.size _).drew
    have hm3 := hmH.out.below hbw3
    generalize (w2.alloc (Obj.cells #[a0, c0] 151)).drew = w3 at hbw3 hm3 ⊢
    clear hHeld
    have hlen3 := hm3.len 3
    have hmc3 := hmc.out w3 hbw3
    have hsz : (4096 : Int) ≤ (Maps.size D : Int) := by omega
    clear hnot hm3
    go_wp2
    go_ret3
    exact ⟨rfl, hbw3⟩
  · rw [if_pos (by rfl)]
    go_simp
    refine hK.out _ _ ?_ (fun hHeld2 => ?_)
    · exact hS7.out _ (hbw2.alloc hbw2.size (Obj.cells #[Value.nilIface, Value.nilIface] 151)).drew (hb2.alloc hb2.size _).drew
    clear hK K
    (try simp only [Act.put, pu1, pu2, pu3, pu4, pu5, pu6])
    refine wpAnyH_ready (rs := [6]) (by kernel_rfl) (by simp) ?_
    refine AllReadyH.cons rfl (fun K hK => ?_) AllReadyH.nil
    rw [if_pos (by rfl)]
    have hrun := (hlook.out _ (hbw2.alloc hbw2.size (Obj.cells #[Value.nilIface, Value.nilIface] 151)).drew).1
    go_simp
    refine hK.out _ _ ?_ (fun hHeld2 => ?_)
    · exact hS7.out _ (hbw2.alloc hbw2.size (Obj.cells #[Value.nilIface, Value.nilIface] 151)).drew (hb2.alloc hb2.size _).drew
    clear hK K
    (try simp only [Act.put, pu1, pu2, pu3, pu4, pu5, pu6])
    refine wpAnyH_take (i := 7) (v := ?vqf11) rfl (by kernel_rfl) (by kernel_rfl) (by kernel_rfl) (fun _ _ _ h => h) (.inl ⟨by rfl, ?hyqf11⟩) (by assumption) ?restqf11
    case hyqf11 => (intro w hSw; (try dsimp only at hSw); go_simp; first | done | with_reducible rfl)
    (try simp only [Act.put, pu1, pu2, pu3, pu4, pu5, pu6])
    refine wpAnyH_take (i := 8) (v := ?vqf12) rfl (by kernel_rfl) (by kernel_rfl) (by kernel_rfl) (fun _ _ _ h => h) (.inl ⟨by rfl, ?hyqf12⟩) (by assumption) ?restqf12
    case hyqf12 => (intro w hSw; (try dsimp only at hSw); go_simp; first | done | with_reducible rfl)
    (try simp only [Act.put, pu1, pu2, pu3, pu4, pu5, pu6])
    refine wpAnyH_take (i := 9) (v := ?vqf13) rfl (by kernel_rfl) (by kernel_rfl) (by kernel_rfl) (fun _ _ _ h => h) (.inl ⟨by rfl, ?hyqf13⟩) (by assumption) ?restqf13
    case hyqf13 => (intro w hSw; (try dsimp only at hSw); go_simp; first | done | with_reducible rfl)
    (try simp only [Act.put, pu1, pu2, pu3, pu4, pu5, pu6])
    refine wpAnyH_ready (rs := [11]) (by kernel_rfl) (by simp) ?_
    refine AllReadyH.cons rfl (fun K hK => ?_) AllReadyH.nil
    rw [if_pos (by rfl)]
    go_simp
    refine hK.out _ _ ?_ (fun hHeld2 => ?_)
    · exact hS7.out _ (hbw2.alloc hbw2.size _).drew (hb2.alloc hb2.size _).drew
    clear hK K
    (try simp only [Act.put, pu1, pu2, pu3, pu4, pu5, pu6])
    refine wpAnyH_take (i := 12) (v := ?vqf14) rfl (by kernel_rfl) (by kernel_rfl) (by kernel_rfl) (fun _ _ _ h => h) (.inl ⟨by rfl, ?hyqf14⟩) (by assumption) ?restqf14
    case hyqf14 => (intro w hSw; (try dsimp only at hSw); go_simp; first | done | with_reducible rfl)
    (try simp only [Act.put, pu1, pu2, pu3, pu4, pu5, pu6])
    refine wpAnyH_done (by kernel_rfl) ?_ _
    have hbw3 : Below w.heap.size w (w2.alloc (Obj.cells #[a0, c0] 151)).drew := (hbw2.alloc hbw2.size _).drew
    have hm3 := hmH.out.below hbw3
    generalize (w2.alloc (Obj.cells #[a0, c0] 151)).drew = w3 at hbw3 hm3 ⊢
    clear hHeld
    have hlen3 := hm3.len 3
    have hmc3 := hmc.out w3 hbw3
    have hsz : (4096 : Int) ≤ (Maps.size D : Int) := by omega
    clear hnot hm3
    go_wp2
    go_ret3
    exact ⟨rfl, hbw3⟩

end Go.Proofs.Ytgmdbpplfjkjmaa
