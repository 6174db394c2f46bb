/- value.order of any two values: the order of values. -/
import Derived.Test.YtgmdbpplfjkjmaaOrdLeaf
import Derived.Test.YtgmdbpplfjkjmaaGrew
import Derived.Test.YtgmdbpplfjkjmaaValPart
namespace Go.Proofs.Ytgmdbpplfjkjmaa
open Go.RowKit Go.Sort
set_option linter.unusedVariables false
set_option linter.unusedSimpArgs false

theorem VRep.grew {w w' : World} {v : Val} {x : Value} {fs : List Nat} (h : VRep w v x fs) (hg : Grew w w') : VRep w' v x fs := VRep.keep v x fs h (fun b hb => hg.below.block b (VRep.lt _ _ _ h b hb))
def OrderSaid (v : Val) : Prop := ∀ (u : Val) (x y : Value) (fs gs : List Nat) (w : World), VRep w v x fs → VRep w u y gs → okV v → okV u →
  Calls Try.prog 185 #[x, y] w fun e w' => e = .returned (.int .i64 (cmpV v u)) ∧ Grew w w'
def orderF : Value := .func (.func 185) #[] #[]
def fieldF : Value := .func (.func 237) #[] #[]
set_option maxRecDepth 100000 in
set_option maxHeartbeats 1600000 in
theorem cmpfunc_list (l m : List Val) (ih : ∀ v ∈ l, OrderSaid v) (x y : Value) (xs ys : List Value) (gs hs : List Nat) (w : World) (hx : w.ownsRow 0 20 1 x l.length xs) (hxs : VsRep w l xs gs)
    (hy : w.ownsRow 0 20 1 y m.length ys) (hys : VsRep w m ys hs) (hok : okVs l) (hok' : okVs m) :
    Calls Try.prog 235 #[x, y, .func (.func 185) #[] #[]] w fun e w' => e = .returned (.int .i64 (lexN (ordVs l) (ordVs m))) ∧ Grew w w' := by
  obtain ⟨a, cap, rfl, hcap, hmax, -, hform⟩ := ownsRow_form hx
  obtain ⟨a', cap', rfl, hcap', hmax', -, hform'⟩ := ownsRow_form hy
  unfold maxLen at hmax hmax'
  have hf := Lib.hid hform
  have hf' := Lib.hid hform'
  have hdat := Lib.hid (VsRep.at l xs gs hxs)
  have hdat' := Lib.hid (VsRep.at m ys hs hys)
  have ihH := Lib.hid ih
  have hokH := Lib.hid (okVs_mem l hok)
  have hokH' := Lib.hid (okVs_mem m hok')
  obtain ⟨R, hR⟩ : ∃ R : Int, R = lexN (ordVs l) (ordVs m) := ⟨_, rfl⟩
  rw [← hR]
  have hRH := Lib.hid hR.symm
  clear hR hx hy hform hform' hxs hys ih hok hok'
  go_enter Try.func235, Try.ntmps235
  go_wp2_with fail
  go_loopw [13] (fun i wr => ∃ k : Nat, k ≤ l.length ∧ k ≤ m.length ∧ i = .int .i64 k ∧ lexN (ordVs (l.drop k)) (ordVs (m.drop k)) = R ∧ Grew w wr) (fun i _ => l.length - (intOf i).toNat)
  case atStart => exact ⟨0, Nat.zero_le _, Nat.zero_le _, rfl, hRH.out, Grew.refl _⟩
  case round =>
    obtain ⟨k, hk, hk', rfl, hkR, hg⟩ := hrel
    have hkH := Lib.hid hkR
    have hgH := Lib.hid hg
    clear hkR
    by_cases h1 : k < l.length
    · have l1 : (k : Int) < (l.length : Int) := by omega
      rcases hf.out with ⟨-, h0', -⟩ | ⟨g, rfl, -, hgs, -, hcells⟩
      · omega
      obtain ⟨v, hv⟩ : ∃ c, l[k]? = some c := ⟨_, List.getElem?_eq_getElem h1⟩
      obtain ⟨vx, fv, e1, e2, -⟩ := hdat.out k _ hv
      have hvone := e2.one
      have hc1 : wr.cell? ⟨g, k, none⟩ = some vx := (hg.below.cell (p := ⟨g, k, none⟩) hgs).trans ((hcells k (by omega)).trans e1)
      by_cases h2 : k < m.length
      · have l2 : ¬ (m.length : Int) ≤ (k : Int) := by omega
        rcases hf'.out with ⟨-, h0', -⟩ | ⟨g', rfl, -, hgs', -, hcells'⟩
        · omega
        obtain ⟨u, hu⟩ : ∃ c, m[k]? = some c := ⟨_, List.getElem?_eq_getElem h2⟩
        obtain ⟨uy, fu, e3, e4, -⟩ := hdat'.out k _ hu
        have huone := e4.one
        have hd1 : wr.cell? ⟨g', k, none⟩ = some uy := (hg.below.cell (p := ⟨g', k, none⟩) hgs').trans ((hcells' k (by omega)).trans e3)
        have hst0 := hkH.out.symm.trans (vs_step hv hu)
        have hord0 := ihH.out v (List.mem_of_getElem? hv) u vx uy fv fu wr (e2.grew hg) (e4.grew hg) (hokH.out _ (List.mem_of_getElem? hv)) (hokH'.out _ (List.mem_of_getElem? hu))
        obtain ⟨r, hr⟩ : ∃ r : Int, r = cmpV v u := ⟨_, rfl⟩
        rw [← hr] at hst0 hord0
        have hst := Lib.hid hst0
        have hord := Lib.hid hord0
        clear hst0 hord0 hr hv hu hcells hcells' e1 e2 e3 e4 hg
        by_cases hr0 : r = 0
        · subst hr0
          have hnext := Lib.hid hst.out.symm
          rw [if_pos rfl] at hnext
          go_wp2_with fail
          refine hord.out.mono ?_
          rintro e w' ⟨rfl, hg2⟩
          go_wp2_with fail
          go_roundw
          case rel => exact ⟨k + 1, by omega, by omega, by go_num, hnext.out, hgH.out.trans hg2⟩
          case measure => simp [intOf]; omega
        · have hrb : (r != 0) = true := by simpa using hr0
          have hne := Lib.hid hst.out
          rw [if_neg hr0] at hne
          clear hr0
          go_wp2_with fail
          refine hord.out.mono ?_
          rintro e w' ⟨rfl, hg2⟩
          go_wp2_with fail
          go_ret
          exact ⟨ret_int hne.out.symm, hgH.out.trans hg2⟩
      · have hend := Lib.hid (hkH.out.symm.trans (vs_end (by omega) (by omega) (by omega)))
        have l2 : (m.length : Int) ≤ (k : Int) := by omega
        clear hv e1 e2 hcells hg
        go_wp2_with fail
        go_ret
        exact ⟨ret_int (by rw [hend.out]; unfold cmpI; rw [if_neg (by omega), if_pos (by omega)]), hgH.out⟩
    · have hend := Lib.hid (hkH.out.symm.trans (vs_end (by omega) (by omega) (by omega)))
      have l1 : ¬ (k : Int) < (l.length : Int) := by omega
      clear hg
      by_cases h2 : l.length < m.length
      · have l2 : (l.length : Int) < (m.length : Int) := by omega
        go_wp2_with fail
        go_ret
        exact ⟨ret_int (by rw [hend.out]; unfold cmpI; rw [if_pos (by omega)]), hgH.out⟩
      · have l2 : ¬ (l.length : Int) < (m.length : Int) := by omega
        go_wp2_with fail
        go_ret
        exact ⟨ret_int (by rw [hend.out]; unfold cmpI; rw [if_neg (by omega), if_neg (by omega)]), hgH.out⟩
set_option maxRecDepth 100000 in
theorem field_said (s q : ByteArray) (v u : Val) (ih : OrderSaid v) (x y : Value) (fs gs : List Nat) (w : World) (h : VRep w v x fs) (h' : VRep w u y gs) (ho : okV v) (ho' : okV u) :
    Calls Try.prog 237 #[.agg #[.string s, x], .agg #[.string q, y]] w fun e w' => e = .returned (.int .i64 (if lexN (ordT s.data.toList) (ordT q.data.toList) = 0 then cmpV v u else lexN (ordT s.data.toList) (ordT q.data.toList))) ∧ Grew w w' := by
  have hx := h.one
  have hy := h'.one
  have hg2 : Grew w ((w.alloc (.cells #[.string s, x] 220)).alloc (.cells #[.string q, y] 220)) := ((Grew.refl w).alloc _).alloc _
  have hord := Lib.hid (ih u x y fs gs _ (h.grew hg2) (h'.grew hg2) ho ho')
  have hg2H := Lib.hid hg2
  clear h h' ih hg2
  obtain ⟨c, hcd⟩ : ∃ c : Int, c = lexN (ordT s.data.toList) (ordT q.data.toList) := ⟨_, rfl⟩
  have htxt0 := fun W => vcmp_string s q W
  rw [← hcd] at htxt0 ⊢
  have htxt := Lib.hid htxt0
  clear htxt0 hcd
  by_cases hc0 : c = 0
  · subst hc0
    rw [if_pos rfl]
    go_enter Try.func237, Try.ntmps237
    go_wp2_with fail
    refine (htxt.out _).mono ?_
    rintro e w3 ⟨rfl, rfl⟩
    go_wp2_with fail
    refine hord.out.mono ?_
    rintro e w3 ⟨rfl, hg3⟩
    go_wp2
    go_ret
    exact ⟨rfl, hg2H.out.trans hg3⟩
  · rw [if_neg hc0]
    have hcb : (c != 0) = true := by simpa using hc0
    clear hc0 hord
    go_enter Try.func237, Try.ntmps237
    go_wp2_with fail
    refine (htxt.out _).mono ?_
    rintro e w3 ⟨rfl, rfl⟩
    go_wp2
    go_ret
    exact ⟨rfl, hg2H.out⟩
set_option maxRecDepth 100000 in
set_option maxHeartbeats 1600000 in
theorem cmpfunc_dict (l m : List (ByteArray × Val)) (ih : ∀ v ∈ l.map (·.2), OrderSaid v) (x y : Value) (xs ys : List Value) (gs hs : List Nat) (w : World) (hx : w.ownsRow 0 220 2 x l.length xs) (hxs : DsRep w l xs gs)
    (hy : w.ownsRow 0 220 2 y m.length ys) (hys : DsRep w m ys hs) (hok : okDs l) (hok' : okDs m) :
    Calls Try.prog 236 #[x, y, .func (.func 237) #[] #[]] w fun e w' => e = .returned (.int .i64 (lexN (ordDs l) (ordDs m))) ∧ Grew w w' := by
  obtain ⟨a, cap, rfl, hcap, hmax, -, hform⟩ := ownsRow_form hx
  obtain ⟨a', cap', rfl, hcap', hmax', -, hform'⟩ := ownsRow_form hy
  unfold maxLen at hmax hmax'
  have hf := Lib.hid hform
  have hf' := Lib.hid hform'
  have hdat := Lib.hid (DsRep.at l xs gs hxs)
  have hdat' := Lib.hid (DsRep.at m ys hs hys)
  have ihH := Lib.hid ih
  have hokH := Lib.hid (okDs_mem l hok)
  have hokH' := Lib.hid (okDs_mem m hok')
  obtain ⟨R, hR⟩ : ∃ R : Int, R = lexN (ordDs l) (ordDs m) := ⟨_, rfl⟩
  rw [← hR]
  have hRH := Lib.hid hR.symm
  clear hR hx hy hform hform' hxs hys ih hok hok'
  go_enter Try.func236, Try.ntmps236
  go_wp2_with fail
  go_loopw [13] (fun i wr => ∃ k : Nat, k ≤ l.length ∧ k ≤ m.length ∧ i = .int .i64 k ∧ lexN (ordDs (l.drop k)) (ordDs (m.drop k)) = R ∧ Grew w wr) (fun i _ => l.length - (intOf i).toNat)
  case atStart => exact ⟨0, Nat.zero_le _, Nat.zero_le _, rfl, hRH.out, Grew.refl _⟩
  case round =>
    obtain ⟨k, hk, hk', rfl, hkR, hg⟩ := hrel
    have hkH := Lib.hid hkR
    have hgH := Lib.hid hg
    clear hkR
    by_cases h1 : k < l.length
    · have l1 : (k : Int) < (l.length : Int) := by omega
      rcases hf.out with ⟨-, h0', -⟩ | ⟨g, rfl, -, hgs, -, hcells⟩
      · omega
      obtain ⟨⟨s, v⟩, hv⟩ : ∃ c, l[k]? = some c := ⟨_, List.getElem?_eq_getElem h1⟩
      obtain ⟨vx, fv, e0, e1, e2, -⟩ := hdat.out k _ hv
      have hvone := e2.one
      have hc0 : wr.cell? ⟨g, k * 2, none⟩ = some (.string s) := (hg.below.cell (p := ⟨g, k * 2, none⟩) hgs).trans ((hcells (k * 2) (by omega)).trans e0)
      have hc1 : wr.cell? ⟨g, k * 2 + 1, none⟩ = some vx := (hg.below.cell (p := ⟨g, k * 2 + 1, none⟩) hgs).trans ((hcells (k * 2 + 1) (by omega)).trans e1)
      have hgr : g < wr.heap.size := Nat.lt_of_lt_of_le hgs hg.size
      by_cases h2 : k < m.length
      · have l2 : ¬ (m.length : Int) ≤ (k : Int) := by omega
        rcases hf'.out with ⟨-, h0', -⟩ | ⟨g', rfl, -, hgs', -, hcells'⟩
        · omega
        obtain ⟨⟨q, u⟩, hu⟩ : ∃ c, m[k]? = some c := ⟨_, List.getElem?_eq_getElem h2⟩
        obtain ⟨uy, fu, e3, e4, e5, -⟩ := hdat'.out k _ hu
        have huone := e5.one
        have hd0 : wr.cell? ⟨g', k * 2, none⟩ = some (.string q) := (hg.below.cell (p := ⟨g', k * 2, none⟩) hgs').trans ((hcells' (k * 2) (by omega)).trans e3)
        have hd1 : wr.cell? ⟨g', k * 2 + 1, none⟩ = some uy := (hg.below.cell (p := ⟨g', k * 2 + 1, none⟩) hgs').trans ((hcells' (k * 2 + 1) (by omega)).trans e4)
        have hgr' : g' < wr.heap.size := Nat.lt_of_lt_of_le hgs' hg.size
        have hst0 := hkH.out.symm.trans (ds_step hv hu)
        have hga : Grew wr (((wr.alloc (.cells #[.string s, vx] 220)).alloc (.cells #[.string q, uy] 220))) := ((Grew.refl wr).alloc _).alloc _
        have hord0 := field_said s q v u (ihH.out v (List.mem_map.2 ⟨_, List.mem_of_getElem? hv, rfl⟩)) vx uy fv fu _ (e2.grew (hg.trans hga)) (e5.grew (hg.trans hga)) (hokH.out _ (List.mem_of_getElem? hv)) (hokH'.out _ (List.mem_of_getElem? hu))
        have hgaH := Lib.hid hga
        have hst1 : (if (if lexN (ordT s.data.toList) (ordT q.data.toList) = 0 then cmpV v u else lexN (ordT s.data.toList) (ordT q.data.toList)) = 0 then lexN (ordDs (l.drop (k + 1))) (ordDs (m.drop (k + 1))) else (if lexN (ordT s.data.toList) (ordT q.data.toList) = 0 then cmpV v u else lexN (ordT s.data.toList) (ordT q.data.toList))) = R := by
          rw [hst0]
          by_cases c1 : lexN (ordT s.data.toList) (ordT q.data.toList) = 0
          · rw [if_pos c1, if_pos c1]
          · rw [if_neg c1, if_neg c1, if_neg c1]
        obtain ⟨r, hr⟩ : ∃ r : Int, r = (if lexN (ordT s.data.toList) (ordT q.data.toList) = 0 then cmpV v u else lexN (ordT s.data.toList) (ordT q.data.toList)) := ⟨_, rfl⟩
        rw [← hr] at hst1 hord0
        have hst := Lib.hid hst1
        have hord := Lib.hid hord0
        clear hst0 hst1 hord0 hr hv hu hcells hcells' e0 e1 e2 e3 e4 e5 hg hga
        by_cases hr0 : r = 0
        · subst hr0
          have hnext := Lib.hid hst.out
          rw [if_pos rfl] at hnext
          go_wp2_with fail
          refine hord.out.mono ?_
          rintro e w' ⟨rfl, hg2⟩
          go_wp2_with fail
          go_roundw
          case rel => exact ⟨k + 1, by omega, by omega, by go_num, hnext.out, hgH.out.trans (hgaH.out.trans hg2)⟩
          case measure => simp [intOf]; omega
        · have hrb : (r != 0) = true := by simpa using hr0
          have hne := Lib.hid hst.out
          rw [if_neg hr0] at hne
          clear hr0
          go_wp2_with fail
          refine hord.out.mono ?_
          rintro e w' ⟨rfl, hg2⟩
          go_wp2_with fail
          go_ret
          exact ⟨ret_int hne.out, hgH.out.trans (hgaH.out.trans hg2)⟩
      · have hend := Lib.hid (hkH.out.symm.trans (ds_end (by omega) (by omega) (by omega)))
        have l2 : (m.length : Int) ≤ (k : Int) := by omega
        have hga := Lib.hid ((hg).alloc (.cells #[.string s, vx] 220))
        clear hv e0 e1 e2 hcells hg
        go_wp2_with fail
        go_ret
        exact ⟨ret_int (by rw [hend.out]; unfold cmpI; rw [if_neg (by omega), if_pos (by omega)]), hga.out⟩
    · have hend := Lib.hid (hkH.out.symm.trans (ds_end (by omega) (by omega) (by omega)))
      have l1 : ¬ (k : Int) < (l.length : Int) := by omega
      clear hg
      by_cases h2 : l.length < m.length
      · have l2 : (l.length : Int) < (m.length : Int) := by omega
        go_wp2_with fail
        go_ret
        exact ⟨ret_int (by rw [hend.out]; unfold cmpI; rw [if_pos (by omega)]), hgH.out⟩
      · have l2 : ¬ (l.length : Int) < (m.length : Int) := by omega
        go_wp2_with fail
        go_ret
        exact ⟨ret_int (by rw [hend.out]; unfold cmpI; rw [if_neg (by omega), if_neg (by omega)]), hgH.out⟩
end Go.Proofs.Ytgmdbpplfjkjmaa
