/- tenonref01.Parts: the terms that a term holds. -/
import Derived.Test.YtgmdbpplfjkjmaaPlainL
import Derived.Test.YtgmdbpplfjkjmaaBuilt
namespace Go.Proofs.Ytgmdbpplfjkjmaa
open Go.RowKit
set_option linter.unusedVariables false
set_option linter.unusedSimpArgs false

/-- The terms that a term holds. -/
def kidsT : Term → List Term
  | .mk k _ _ _ _ _ _ ls es _ _ => if k = 8 then ls else if k = 9 ∨ k = 10 then es.map (·.2) else []
theorem kids_subs (t : Term) : (kidsT t).map builtV = subs (builtV t) := by
  obtain ⟨k, b, n, fl, tx, bs, rf, ls, es, cl, ver⟩ := t
  unfold kidsT
  by_cases h8 : k = 8
  · subst h8; rw [builtV]; simp only [Int.reduceBEq, cond_true, cond_false, subs, if_true]; rw [builtVs_eq]
  by_cases h9 : k = 9
  · subst h9; rw [builtV]; simp [subs, builtEs_eq]
  by_cases h10 : k = 10
  · subst h10; rw [builtV]; simp [subs, builtEs_eq]
  show List.map builtV (if k = 8 then ls else if k = 9 ∨ k = 10 then es.map (·.2) else []) = _
  rw [if_neg h8, if_neg (by omega), builtV, show (k == 8) = false by simp; omega, show (k == 9) = false by simp; omega, show (k == 10) = false by simp; omega]
  simp only [cond_false]
  cases k == 1 <;> cases k == 2 <;> cases k == 3 <;> cases k == 4 <;> cases k == 5 <;> cases k == 6 <;> cases k == 7 <;> cases k == 11 <;> rfl
def PartsEnd (S : Nat → Prop) (l : List Term) (w : World) (e : Ending) (w' : World) : Prop := ∃ sv xs, e = .returned sv ∧ AtRow (only w' (fun b => S b ∨ w.heap.size ≤ b)) sv l.length 11 xs ∧ TsRep (only w' (fun b => S b ∨ w.heap.size ≤ b)) l xs ∧ Below w.heap.size w w'
theorem parts_keep {S : Nat → Prop} {w w' : World} (hb : Below w.heap.size w w') : ∀ a u, (only w S).cell? a = some u → (only w' (fun b => S b ∨ w.heap.size ≤ b)).cell? a = some u := only_keep fun b hb' hs => ⟨.inl hs, hb.block b hb'⟩
section
variable (S : Nat → Prop) (b : Bool) (n : Int) (fl : Nat) (tx : ByteArray) (bs : List UInt8) (rf : Int) (ls : List Term) (es : List (ByteArray × Term)) (cl : ByteArray) (ver : Int)
set_option maxRecDepth 100000 in
set_option maxHeartbeats 1600000 in
theorem parts_list (cs : List Value) (w : World) (h : TRep (only w S) (.mk 8 b n fl tx bs rf ls es cl ver) cs) :
    Calls Try.prog 176 #[.agg cs.toArray] w (PartsEnd S ls w) := by
  simp only [TRep] at h
  obtain ⟨sb, sl, se, xl, xe, rfl, -, -, hrow, hts, -⟩ := h
  have hrH := Lib.hid hrow
  have htH := Lib.hid hts
  obtain ⟨oa, cap, rfl, -⟩ := hrow
  have hbel : ∀ cs : Array Value, Below w.heap.size w (w.alloc (.cells cs 31)) := fun cs => (Below.refl _ _).alloc (Nat.le_refl _) _
  clear hts
  go_enter Try.func176, Try.ntmps176
  go_wp2
  go_ret
  exact ⟨_, xl, rfl, hrH.out.keep (parts_keep (hbel _)), TsRep.keep (parts_keep (hbel _)) _ _ htH.out, hbel _⟩
set_option maxRecDepth 100000 in
set_option maxHeartbeats 1600000 in
theorem parts_none (k : Int) (h8 : ¬ k = 8) (h9 : ¬ k = 9) (h10 : ¬ k = 10) (cs : List Value) (w : World) (h : TRep (only w S) (.mk k b n fl tx bs rf ls es cl ver) cs) :
    Calls Try.prog 176 #[.agg cs.toArray] w (PartsEnd S [] w) := by
  simp only [TRep] at h
  obtain ⟨sb, sl, se, xl, xe, rfl, -⟩ := h
  have e8 : (k == 8) = false := by simpa using h8
  have e9 : (k == 9) = false := by simpa using h9
  have e10 : (k == 10) = false := by simpa using h10
  have hbel : ∀ cs : Array Value, Below w.heap.size w (w.alloc (.cells cs 31)) := fun cs => (Below.refl _ _).alloc (Nat.le_refl _) _
  have hown : ∀ (W : World) (g : Nat), g = W.heap.size → w.heap.size ≤ g → AtRow (only (W.alloc (.cells #[] 31)) (fun b => S b ∨ w.heap.size ≤ b)) (.slice (some ⟨g, 0, none⟩) 0 0) 0 11 [] := fun W g hg hs => hg ▸ AtRow.only (AtRow.of_own (ownsRow_new W 31 11 W.heap.size (Nat.le_refl _)) (by omega)) (fun h => absurd h (by omega)) (by omega)
  have howH := Lib.hid hown
  clear hown h8 h9 h10
  go_enter Try.func176, Try.ntmps176
  go_wp2
  go_ret
  have h1 := howH.out
  exact ⟨_, [], rfl, h1 _ _ (by simp) (by simp), rfl, (hbel _).alloc (by simp) _⟩
set_option maxRecDepth 100000 in
set_option maxHeartbeats 1600000 in
theorem parts_dict (k : Int) (hk : k = 9 ∨ k = 10) (cs : List Value) (w : World) (h : TRep (only w S) (.mk k b n fl tx bs rf ls es cl ver) cs) :
    Calls Try.prog 176 #[.agg cs.toArray] w (PartsEnd S (es.map (·.2)) w) := by
  simp only [TRep] at h
  obtain ⟨sb, sl, se, xl, xe, rfl, -, -, -, -, ⟨oa, cap, rfl, hcap, hmax, hsm, -, -, hform⟩, hes⟩ := h
  unfold maxLen at hmax
  have hdat := Lib.hid (EsRep.at es xe hes)
  have hformH := Lib.hid hform
  clear hform hes
  obtain ⟨i0, hi0, hz0, hz1, hz2⟩ := info_parts Try.infoTerm
  obtain ⟨W, hW⟩ : ∃ W, W = w.alloc (.cells #[.int .i64 k, .bool b, .int .i64 n, .float .f64 fl, .string tx, sb, .int .u64 rf, sl, .slice oa es.length cap, .string cl, .int .i64 ver] 31) := ⟨_, rfl⟩
  have hWs : W.heap.size = w.heap.size + 1 := by rw [hW]; simp
  have hW8 : W.cell? ⟨w.heap.size, 8, none⟩ = some (.slice oa es.length cap) := by rw [hW]; simp [go_sem]
  have hWb : Below w.heap.size w W := by rw [hW]; exact (Below.refl _ _).alloc (Nat.le_refl _) _
  have hown0 := Lib.hid (ownsRow_new W 31 11 (w.heap.size + 1) (by omega))
  have hb0 : Below (w.heap.size + 1) W (W.alloc (.cells #[] 31)) := (Below.refl _ _).alloc (by omega) _
  have h8c : (W.alloc (.cells #[] 31)).cell? ⟨w.heap.size, 8, none⟩ = some (.slice oa es.length cap) := (hb0.cell (p := ⟨w.heap.size, 8, none⟩) (by simp)).trans hW8
  rw [hWs, hW] at hown0
  have hb0H := Lib.hid hb0
  have h8H := Lib.hid h8c
  rw [hW] at hb0H h8H
  have hWbH := Lib.hid hWb
  have hWeH := Lib.hid hW
  clear hb0 h8c hWb hW8 hWs hW
  rcases hk with rfl | rfl
  all_goals
    go_enter Try.func176, Try.ntmps176
    go_wp2_with fail
    go_loopw [3, 4] (fun sv i wr => ∃ (k : Nat) (ys : List Value), k ≤ es.length ∧ i = .int .i64 k ∧ wr.ownsRow (w.heap.size + 1) 31 11 sv k ys ∧ TsRep (only w S) ((es.map (·.2)).take k) ys ∧ Below (w.heap.size + 1) W wr ∧ wr.cell? ⟨w.heap.size, 8, none⟩ = some (.slice oa es.length cap)) (fun _ i _ => es.length - (intOf i).toNat)
    case atStart => exact ⟨0, [], Nat.zero_le _, rfl, hown0.out, rfl, by rw [hWeH.out]; exact hb0H.out, h8H.out⟩
    case round =>
      obtain ⟨k, ys, hk, rfl, hown, hds, hb, hc8⟩ := hrel
      have hdsH := Lib.hid hds
      have hsz1 : w.heap.size + 1 ≤ wr.heap.size := by have h1 := hb.size; rw [hWeH.out] at h1; simp at h1; omega
      clear hds
      by_cases hlt : k < es.length
      · obtain ⟨b, o, rfl, hcells⟩ := hformH.out (by omega)
        obtain ⟨⟨s, t⟩, hp⟩ : ∃ p, es[k]? = some p := ⟨_, List.getElem?_eq_getElem hlt⟩
        obtain ⟨cs, ht, -, -, e1⟩ := hdat.out k _ hp
        have hk1 : ∀ a u, w.cell? a = some u → wr.cell? a = some u := keeps_of_below (hWbH.out.trans (below_le hb (by omega)))
        have hcell : ∀ j, j < 11 → wr.cell? ⟨b, o + k * 12 + (1 + j), none⟩ = cs[j]? := fun j hj => by
          have h1 := hcells (k * 12 + (1 + j)) (by omega)
          rw [e1 j hj, ← Nat.add_assoc] at h1
          rw [List.getElem?_eq_getElem (by rw [ht.len]; exact hj)] at h1 ⊢
          exact hk1 _ _ (only_all _ _ h1)
        have hpH : Hid ((es.map (·.2))[k]? = some t) := Lib.hid (by rw [List.getElem?_map, hp]; rfl)
        have hone := TRep.ones ht
        have htH := Lib.hid ht
        obtain ⟨c0, c1, c2, c3, c4, c5, c6, c7, c8, c9, c10, rfl⟩ := eleven (TRep.len ht)
        have q0 := hcell 0 (by omega)
        have q1 := hcell 1 (by omega)
        have q2 := hcell 2 (by omega)
        have q3 := hcell 3 (by omega)
        have q4 := hcell 4 (by omega)
        have q5 := hcell 5 (by omega)
        have q6 := hcell 6 (by omega)
        have q7 := hcell 7 (by omega)
        have q8 := hcell 8 (by omega)
        have q9 := hcell 9 (by omega)
        have q10 := hcell 10 (by omega)
        simp only [List.getElem?_cons_zero, List.getElem?_cons_succ, Nat.reduceAdd] at q0 q1 q2 q3 q4 q5 q6 q7 q8 q9 q10
        have hk1H := Lib.hid hk1
        clear ht hcell e1 hp hcells hk1
        go_wp2_with (first | (refine wpList_of_exec rfl (exec_buildSlice (T := 22) (n := 1) (parts := #[(0, .tmp 32)]) (vs := #[(0, .agg #[c0, c1, c2, c3, c4, c5, c6, c7, c8, c9, c10])]) rfl (by simp [Act.eval]) (run_buildTerm1 c0 c1 c2 c3 c4 c5 c6 c7 c8 c9 c10 _)) ?_) | (at_builtin; refine wpList_append_lies _ rfl _ _ 22 rfl (w.heap.size + 1) 31 i0 _ 11 152 Try.underlying22 hi0 hz0 hz1 hz2 rfl (by omega) _ k ys rfl (hown.alloc _) ⟨wr.heap.size, 0, none⟩ 1 1 [c0, c1, c2, c3, c4, c5, c6, c7, c8, c9, c10] rfl rfl (World.news_of_block (cs := #[c0, c1, c2, c3, c4, c5, c6, c7, c8, c9, c10]) (t := 31) (fr := (0, 0)) (heap_alloc_new wr _)) hone (by omega) (by unfold maxLen; omega) (by omega) (by simp; omega) _ rfl ?_; intro g2 cap2 w2 hown2 hgr2 hat2 hlt2))
        have hfin : Below (w.heap.size + 1) W w2 := (hb.alloc (by omega) _).grown hgr2 (by simp; omega) (fun b h => (ownsRow_lt hown b (ownL_some.2 h)).1)
        have hWsz : w.heap.size + 1 ≤ W.heap.size := by rw [hWeH.out]; simp
        have hc8' := (hfin.cell (p := ⟨w.heap.size, 8, none⟩) (by simp)).trans ((hb.cell (p := ⟨w.heap.size, 8, none⟩) (by simp)).symm.trans hc8)
        go_roundw
        case rel => exact ⟨k + 1, _, by omega, by go_num, hown2, by rw [List.take_add_one, hpH.out]; exact TsRep.snoc htH.out _ _ hdsH.out, hfin, hc8'⟩
        case measure => simp [intOf]; omega
      · obtain rfl : k = es.length := by omega
        have hds := hdsH.out
        rw [List.take_of_length_le (by simp)] at hds
        have hds2 := Lib.hid hds
        clear hds
        go_wp2_with fail
        go_ret
        have hbw := hWbH.out.trans (below_le hb (by omega))
        exact ⟨_, ys, rfl, by rw [List.length_map]; exact AtRow.only (AtRow.of_own hown hsm) (fun _ b e => .inr (by have := (ownsRow_lt hown b (ownL_some.2 e)).1; omega)) (by omega), TsRep.keep (parts_keep hbw) _ _ hds2.out, hbw⟩
end
theorem parts_any (S : Nat → Prop) (t : Term) (cs : List Value) (w : World) (h : TRep (only w S) t cs) : Calls Try.prog 176 #[.agg cs.toArray] w (PartsEnd S (kidsT t) w) := by
  obtain ⟨k, b, n, fl, tx, bs, rf, ls, es, cl, ver⟩ := t
  show Calls _ _ _ _ (PartsEnd S (if k = 8 then ls else if k = 9 ∨ k = 10 then es.map (·.2) else []) w)
  by_cases h8 : k = 8
  · subst h8; exact parts_list _ _ _ _ _ _ _ _ _ _ _ cs w h
  by_cases h9 : k = 9 ∨ k = 10
  · rw [if_neg h8, if_pos h9]; exact parts_dict _ _ _ _ _ _ _ _ _ _ _ k h9 cs w h
  · rw [if_neg h8, if_neg h9]; exact parts_none _ _ _ _ _ _ _ _ _ _ _ k h8 (by omega) (by omega) cs w h
end Go.Proofs.Ytgmdbpplfjkjmaa
