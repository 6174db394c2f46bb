/- tenonref03.Number, text, fields, Bytes: a term's bytes by definition. -/
import Derived.Test.YtpcbdjfonmohaaaWireEnc
import Derived.Test.YtpcbdjfonmohaaaBuilt
import Derived.Test.YtpcbdjfonmohaaaSameT
namespace Go.Proofs.Ytpcbdjfonmohaaa
open Go.RowKit
set_option linter.unusedVariables false
set_option linter.unusedSimpArgs false

theorem ownsRow_one (W : World) (B : Nat) (hB : B ≤ W.heap.size) (v : Value) (e : TypeId) : (W.alloc (.cells #[v] e)).ownsRow B e 1 (.slice (some ⟨W.heap.size, 0, none⟩) 1 1) 1 [v] :=
  ⟨rfl, .inr ⟨W.heap.size, 1, #[v], rfl, hB, heap_alloc_new W _, Nat.le_refl _, by decide, rfl, rfl⟩⟩
theorem row_some {w : World} {B : Nat} {sv : Value} {l : List UInt8} (h : w.ownsRow B 5 1 sv l.length (byteCells l)) (hp : 1 ≤ l.length) : ∃ g cap, sv = .slice (some ⟨g, 0, none⟩) l.length cap ∧ B ≤ g ∧ g < w.heap.size := by
  obtain ⟨a, cap, rfl, -, -, -, hf⟩ := ownsRow_form h
  rcases hf with ⟨-, h0, -⟩ | ⟨g, rfl, h1, h2, -⟩
  · omega
  · exact ⟨g, cap, rfl, h1, h2⟩
set_option maxRecDepth 100000 in
set_option maxHeartbeats 800000 in
theorem refNumber_said (n : Nat) (hn : n < 18446744073709551616) (w : World) : Calls Try.prog 123 #[.int .u64 n] w (BytesEnd w.heap.size (numB n) w) := by
  obtain ⟨i0, hi0, hz0, hz1, hz2⟩ := info_parts Try.infoU8
  have hten := numB_ten hn
  have hown0 := Lib.hid (ownsRow_new w 5 1 w.heap.size (Nat.le_refl _))
  have hb0 : Below w.heap.size w (w.alloc (.cells #[] 5)) := (Below.refl _ _).alloc (Nat.le_refl _) _
  go_enter Try.func123, Try.ntmps123
  go_wp2_with fail
  go_loopw [0, 3] (fun i cur wr => ∃ (m : Nat) (l : List UInt8), m < 18446744073709551616 ∧ i = .int .u64 m ∧ l ++ numB m = numB n ∧ wr.ownsRow w.heap.size 5 1 cur l.length (byteCells l) ∧ Below w.heap.size w wr) (fun i _ _ => (intOf i).toNat)
  case atStart => exact ⟨n, [], hn, rfl, rfl, hown0.out, hb0⟩
  case round =>
    obtain ⟨m, l, hm, rfl, heq, hown, hb⟩ := hrel
    have hll : l.length + (numB m).length = (numB n).length := by rw [← List.length_append, heq]
    have hlp := numB_pos m
    have heqH := Lib.hid heq
    have hbs := hb.size
    clear heq
    by_cases hlt : m < 128
    · have hmi : (m : Int) < 128 := by omega
      go_wp2_with (at_builtin; refine wpList_append_lies _ rfl _ _ 28 rfl w.heap.size 5 i0 _ 1 1 Try.underlying28 hi0 hz0 hz1 hz2 rfl (by omega) _ l.length (byteCells l) rfl (hown.alloc _) ⟨wr.heap.size, 0, none⟩ 1 1 [.int .u8 m] rfl rfl (World.news_of_block (cs := #[.int .u8 m]) (t := 5) (fr := (0, 0)) (heap_alloc_new wr _)) (one_single rfl) (by omega) (by unfold maxLen; omega) (by omega) (by simp; omega) _ rfl ?_; intro g2 cap2 w2 hown2 hgr2 hat2 hlt2)
      go_ret
      have hp := put_row hb hbs hown (m := m) (by omega) hgr2 hown2
      rw [← heqH.out, numB_small hlt]
      exact ⟨_, rfl, hp.1, hp.2⟩
    · have hmi : (128 : Int) ≤ (m : Int) := by omega
      have hq : ((m / 128 : Nat) : Int) = (m : Int) / 128 := Int.natCast_ediv m 128
      have hr : ((m % 128 + 128 : Nat) : Int) = (m : Int) % 128 + 128 := by omega
      go_wp2_with (at_builtin; refine wpList_append_lies _ rfl _ _ 28 rfl w.heap.size 5 i0 _ 1 1 Try.underlying28 hi0 hz0 hz1 hz2 rfl (by omega) _ l.length (byteCells l) rfl (hown.alloc _) ⟨wr.heap.size, 0, none⟩ 1 1 [.int .u8 ((m % 128 + 128 : Nat) : Int)] rfl rfl (World.news_of_block (cs := #[.int .u8 ((m % 128 + 128 : Nat) : Int)]) (t := 5) (fr := (0, 0)) (heap_alloc_new wr _)) (one_single rfl) (by omega) (by unfold maxLen; omega) (by omega) (by simp; omega) _ rfl ?_; intro g2 cap2 w2 hown2 hgr2 hat2 hlt2)
      have hp := put_row hb hbs hown (m := m % 128 + 128) (by omega) hgr2 hown2
      go_roundw
      case rel => exact ⟨m / 128, l ++ [UInt8.ofNat (m % 128 + 128)], by omega, by rw [hq], by rw [← heqH.out, numB_big hlt, List.append_assoc]; rfl, hp.1, hp.2⟩
      case measure => show ((m : Int) / 128).toNat < ((m : Int)).toNat; omega
set_option maxRecDepth 100000 in
set_option maxHeartbeats 800000 in
theorem refText_said (s : ByteArray) (w : World) (hs : s.size ≤ 1099511627776) : Calls Try.prog 124 #[.string s] w (BytesEnd w.heap.size (textB s) w) := by
  obtain ⟨i0, hi0, hz0, hz1, hz2⟩ := info_parts Try.infoU8
  have hnum := Lib.hid (refNumber_said s.size (by omega) w)
  have hten := numB_ten (n := s.size) (by omega)
  have hwi : IntKind.u64.wrap (s.size : Int) = (s.size : Int) := by rw [IntKind.wrap_u64]; omega
  go_enter Try.func124, Try.ntmps124
  go_wp2_with fail
  refine hnum.out.mono ?_
  rintro e w1 ⟨sv1, rfl, hown, hb1⟩
  have hbs := hb1.size
  go_wp2_with (at_builtin; refine Lib.wpList_append_own_string _ rfl _ _ 28 9 rfl w.heap.size 5 i0 Try.underlying28 Try.underlying9 hi0 hz0 hz1 hz2 _ _ _ rfl hown s rfl (by unfold maxLen; omega) (by omega) (by omega) ?_; intro v' w' hown' hgr' _)
  go_ret
  refine ⟨_, rfl, ?_, hb1.grown hgr' (by omega) (fun k hk => (ownsRow_lt hown k (ownL_some.2 hk)).1)⟩
  rw [strCells_bytes, ← byteCells_append] at hown'
  unfold textB
  rw [List.length_append]
  have hsz : s.data.toList.length = s.size := by simp
  rw [hsz]
  exact hown'
theorem ownsRow_base {w : World} {B B' : Nat} {e : TypeId} {size : Nat} {sv : Value} {n : Nat} {xs : List Value} (h : w.ownsRow B e size sv n xs) (hb : B' ≤ B) : w.ownsRow B' e size sv n xs := by
  obtain ⟨h1, h2⟩ := h
  exact ⟨h1, h2.imp id fun ⟨g, cap, cur, e, hg, r⟩ => ⟨g, cap, cur, e, Nat.le_trans hb hg, r⟩⟩
def RefBytes (t : Term) : Prop := ∀ (cs : List Value) (w : World), TRep w t cs → okV (builtV t) → (encV (builtV t)).length ≤ 1099511627776 → Calls Try.prog 100 #[.agg cs.toArray] w (BytesEnd w.heap.size (encV (builtV t)) w)
theorem encV_pos : ∀ v, 1 ≤ (encV v).length := fun v => by cases v <;> rw [encV] <;> simp
theorem textB_pos (s : ByteArray) : 1 ≤ (textB s).length := by unfold textB; rw [List.length_append]; have := numB_pos s.size; omega
set_option maxRecDepth 100000 in
set_option maxHeartbeats 1600000 in
theorem refFields_said (es : List (ByteArray × Term)) (ih : ∀ u ∈ es.map (·.2), RefBytes u) (sv : Value) (xs : List Value) (w : World) (ho : AtRow w sv es.length 12 xs) (hd : EsRep w es xs) (hok : okDs (builtEs es)) (hlen : (numB es.length ++ encDs (builtEs es)).length ≤ 1099511627776) :
    Calls Try.prog 125 #[sv] w (BytesEnd w.heap.size (numB es.length ++ encDs (builtEs es)) w) := by
  obtain ⟨oa, cap, rfl, hcap, hmax, hsm, -, -, hform⟩ := ho
  unfold maxLen at hmax
  have hdat := Lib.hid (EsRep.at es xs hd)
  have hformH := Lib.hid hform
  have ihH := Lib.hid ih
  obtain ⟨i0, hi0, hz0, hz1, hz2⟩ := info_parts Try.infoU8
  obtain ⟨d, hdd⟩ : ∃ d, d = builtEs es := ⟨_, rfl⟩
  have hdl : d.length = es.length := by rw [hdd, builtEs_eq, List.length_map]
  have hdk := Lib.hid (fun (k : Nat) (s : ByteArray) (t : Term) (h : es[k]? = some (s, t)) => (show d[k]? = some (s, builtV t) by rw [hdd, builtEs_eq, List.getElem?_map, h]; rfl))
  rw [← hdd] at hok hlen ⊢
  have hokH := Lib.hid (okDs_mem d hok)
  rw [List.length_append] at hlen
  have hwi : IntKind.u64.wrap (es.length : Int) = (es.length : Int) := by rw [IntKind.wrap_u64]; omega
  have hnum := Lib.hid (refNumber_said es.length (by omega) w)
  clear hd hform ih hok hdd
  go_enter Try.func125, Try.ntmps125
  go_wp2_with fail
  refine hnum.out.mono ?_
  rintro e w1 ⟨sv1, rfl, hown1, hb1⟩
  have hone1 : sv1.oneCell' = true := by obtain ⟨_, _, rfl, -⟩ := ownsRow_form hown1; rfl
  have hown1H := Lib.hid hown1
  clear hown1
  go_wp2_with fail
  go_loopw [3, 4] (fun cur i wr => ∃ (k : Nat) (bs' : List UInt8) (yv : Value), yv = cur ∧ k ≤ es.length ∧ i = .int .i64 k ∧ bs' ++ encDs (d.drop k) = numB es.length ++ encDs d ∧ wr.ownsRow w.heap.size 5 1 yv bs'.length (byteCells bs') ∧ Below w.heap.size w wr) (fun _ i _ => es.length - (intOf i).toNat)
  case atStart => exact ⟨0, _, _, rfl, Nat.zero_le _, rfl, by rw [List.drop_zero], hown1H.out, hb1⟩
  case round =>
    obtain ⟨k, bs', yv, hyv, hk, rfl, heq, hown, hb⟩ := hrel
    subst hyv
    have heqH := Lib.hid heq
    have hll : bs'.length + (encDs (d.drop k)).length = (numB es.length).length + (encDs d).length := by rw [← List.length_append, heq, List.length_append]
    have hone : yv.oneCell' = true := by obtain ⟨_, _, rfl, -⟩ := ownsRow_form hown; rfl
    have hbs := hb.size
    clear heq
    by_cases hlt : k < es.length
    · obtain ⟨b, o, rfl, hcells⟩ := hformH.out (by omega)
      obtain ⟨⟨s, t⟩, hp⟩ : ∃ p, es[k]? = some p := ⟨_, List.getElem?_eq_getElem hlt⟩
      obtain ⟨ds, ht, hsz, e0, e1⟩ := hdat.out k _ hp
      have hcell : ∀ j, j < 11 → w.cell? ⟨b, o + k * 12 + (1 + j), none⟩ = ds[j]? := fun j hj => by
        have h1 := hcells (k * 12 + (1 + j)) (by omega)
        rw [e1 j hj, ← Nat.add_assoc] at h1
        exact h1
      have hname := keeps_of_below hb _ _ ((hcells (k * 12) (by omega)).trans e0)
      have hdp := hdk.out k s t hp
      have hsp := encDs_drop hdp
      have hll2 : (encDs (d.drop k)).length = (textB s).length + (encV (builtV t)).length + (encDs (d.drop (k + 1))).length := by rw [hsp, List.length_append, List.length_append]
      have hsplit := Lib.hid hsp
      have htg := textB_ge s
      have htp := textB_pos s
      have hvp := encV_pos (builtV t)
      have hoku : okV (builtV t) := hokH.out _ (List.mem_of_getElem? hdp)
      have hih := Lib.hid (fun W h => ihH.out t (List.mem_map.2 ⟨_, List.mem_of_getElem? hp, rfl⟩) ds W h hoku (by omega))
      have hrepH := Lib.hid ht
      have htx := Lib.hid (refText_said s wr (by omega))
      obtain ⟨d0, d1, d2, d3, d4, d5, d6, d7, d8, d9, d10, rfl⟩ := eleven (TRep.len ht)
      have q0 := hcell 0 (by omega)
      have q1 := hcell 1 (by omega)
      have q2 := hcell 2 (by omega)
      have q3 := hcell 3 (by omega)
      have q4 := hcell 4 (by omega)
      have q5 := hcell 5 (by omega)
      have q6 := hcell 6 (by omega)
      have q7 := hcell 7 (by omega)
      have q8 := hcell 8 (by omega)
      have q9 := hcell 9 (by omega)
      have q10 := hcell 10 (by omega)
      simp only [List.getElem?_cons_zero, List.getElem?_cons_succ, Nat.reduceAdd] at q0 q1 q2 q3 q4 q5 q6 q7 q8 q9 q10
      clear hcell hcells e0 e1 ht hp hsz hsp hdp hoku
      go_wp2_with fail
      refine htx.out.mono ?_
      rintro e w3 ⟨sv3, rfl, hown3, hb3⟩
      obtain ⟨g3, cap3, rfl, -, -⟩ := row_some hown3 htp
      have hownD := ownsRow_keep hown (fun b hb' => hb3.block b (ownsRow_lt hown b hb').2)
      have hbw3 : Below w.heap.size w w3 := hb.trans (below_le hb3 hbs)
      have hsz3 := hbw3.size
      clear hown
      go_wp2_with (at_builtin; refine wpList_append_own _ rfl _ _ 28 rfl w.heap.size 5 i0 _ 1 1 Try.underlying28 hi0 hz0 hz1 hz2 rfl (by omega) _ _ _ rfl hownD ⟨g3, 0, none⟩ _ cap3 (byteCells (textB s)) rfl (by simp [byteCells]) ?c1 (byteCells_one _) (by unfold maxLen; omega) (by omega) (by omega) ?_; (case c1 => exact World.ownsRow.cells hown3 rfl); intro v4 w4 hown4 hgr4 _; have hp4 := put_cat (m := (textB s)) hbw3 (by omega) hownD hgr4 hown4; clear hgr4 hown4; have hone4 : v4.oneCell' = true := (by obtain ⟨_, _, rfl, -⟩ := ownsRow_form hp4.1; rfl); have hown4 := hp4.1; have hb4 := hp4.2; have hsz4 := hb4.size; clear hp4; have p0 := keeps_of_below hb4 _ _ q0; have p1 := keeps_of_below hb4 _ _ q1; have p2 := keeps_of_below hb4 _ _ q2; have p3 := keeps_of_below hb4 _ _ q3; have p4 := keeps_of_below hb4 _ _ q4; have p5 := keeps_of_below hb4 _ _ q5; have p6 := keeps_of_below hb4 _ _ q6; have p7 := keeps_of_below hb4 _ _ q7; have p8 := keeps_of_below hb4 _ _ q8; have p9 := keeps_of_below hb4 _ _ q9; have p10 := keeps_of_below hb4 _ _ q10; clear hownD hown3)
      refine (hih.out w4 (TRep.keep (keeps_of_below hb4) _ _ hrepH.out)).mono ?_
      rintro e w5 ⟨sv5, rfl, hown5, hb5⟩
      obtain ⟨g5, cap5, rfl, -, -⟩ := row_some hown5 hvp
      have hownE := ownsRow_keep hown4 (fun b hb' => hb5.block b (ownsRow_lt hown4 b hb').2)
      have hbw5 : Below w.heap.size w w5 := hb4.trans (below_le hb5 hsz4)
      have hsz5 := hbw5.size
      have hl4 : (bs' ++ textB s).length = bs'.length + (textB s).length := List.length_append
      clear hown4 p0 p1 p2 p3 p4 p5 p6 p7 p8 p9 p10
      go_wp2_with (at_builtin; refine wpList_append_own _ rfl _ _ 28 rfl w.heap.size 5 i0 _ 1 1 Try.underlying28 hi0 hz0 hz1 hz2 rfl (by omega) _ _ _ rfl hownE ⟨g5, 0, none⟩ _ cap5 (byteCells (encV (builtV t))) rfl (by simp [byteCells]) ?c1 (byteCells_one _) (by unfold maxLen; omega) (by omega) (by omega) ?_; (case c1 => exact World.ownsRow.cells hown5 rfl); intro v6 w6 hown6 hgr6 _; have hp6 := put_cat (m := (encV (builtV t))) hbw5 (by omega) hownE hgr6 hown6; clear hgr6 hown6; have hone6 : v6.oneCell' = true := (by obtain ⟨_, _, rfl, -⟩ := ownsRow_form hp6.1; rfl); have hown6 := hp6.1; have hb6 := hp6.2; have hsz6 := hb6.size; clear hp6)
      rw [List.append_assoc] at hown6
      go_roundw
      case rel => exact ⟨k + 1, _, _, rfl, by omega, by go_num, by rw [List.append_assoc]; exact (congrArg (bs' ++ ·) hsplit.out.symm).trans heqH.out, hown6, hb6⟩
      case measure => simp [intOf]; omega
    · obtain rfl : k = es.length := by omega
      have hfin := heqH.out
      rw [List.drop_of_length_le (by omega), encDs, List.append_nil] at hfin
      have hownH := Lib.hid hown
      have hfinH := Lib.hid hfin
      clear hfin hown
      go_wp2_with fail
      go_ret
      rw [← hfinH.out]
      exact ⟨_, rfl, hownH.out, hb⟩
end Go.Proofs.Ytpcbdjfonmohaaa
