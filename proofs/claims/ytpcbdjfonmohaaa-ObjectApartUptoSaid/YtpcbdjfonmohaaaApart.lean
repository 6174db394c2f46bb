/- The walk of ObjectApart. -/
import Derived.Test.YtpcbdjfonmohaaaMust
import Derived.Test.YtpcbdjfonmohaaaPlainLaw
import Derived.Test.YtpcbdjfonmohaaaSpoil
import Derived.Test.YtpcbdjfonmohaaaPlainEnd
import Derived.Test.YtpcbdjfonmohaaaIs
namespace Go.Proofs.Ytpcbdjfonmohaaa
open Go.RowKit
set_option linter.unusedVariables false
set_option linter.unusedSimpArgs false

/-- An entry's name in a dict that can be. -/
theorem dict_names {d : List (ByteArray × Val)} (h : okB (.dict d) = true) : ∀ (k : Nat) (p : ByteArray × Val), d[k]? = some p → nameOk p.1 = true := fun k p hk => by
  have h1 := ownF_in (part_deep (show (partF (.dict d) 1 ⟨0, 0, 0⟩).1 = true from h))
  have h2 : fieldsF d = 0 := h1
  by_cases hl : 4096 < d.length
  · rw [fieldsF_long hl] at h2; omega
  · cases hn : nameOk p.1 with
    | true => rfl
    | false =>
      have := fieldsF_bad (by omega) (List.getElem?_eq_some_iff.1 hk).1 (badName_name hk hn)
      omega
theorem field_some {d : List (ByteArray × Val)} {k : Nat} {p : ByteArray × Val} (hk : d[k]? = some p) : ∃ v, fieldOf d p.1 = some v ∧ ∃ q ∈ d, q.2 = v := by
  unfold fieldOf
  cases hf : d.find? (fun q => q.1.toList == p.1.toList) with
  | none =>
    have := List.find?_eq_none.1 hf p (List.mem_of_getElem? hk)
    simp at this
  | some q => exact ⟨q.2, rfl, q, List.mem_of_find?_eq_some hf, rfl⟩
theorem dict_ok {d : List (ByteArray × Val)} (h : okB (.dict d) = true) : ∀ q ∈ d, okB q.2 = true := fun q hq =>
  sub_ok h q.2 (by show q.2 ∈ d.map (·.2); exact List.mem_map.2 ⟨q, hq, rfl⟩)
/-- A thing with its entries, the law's. -/
structure ThingHas (w : World) (tb : Nat) (id : Int) (d : List (ByteArray × Val)) (sv : Value) (xs : List Value) (gs : List Nat) : Prop where
  idc : w.cell? ⟨tb, 0, none⟩ = some (.int .u64 id)
  svc : w.cell? ⟨tb, 1, none⟩ = some sv
  own : w.ownsRow 0 133 2 sv d.length xs
  rep : DsRep w d xs gs
theorem ThingHas.below {w w' : World} {tb : Nat} {id : Int} {d : List (ByteArray × Val)} {sv : Value} {xs : List Value} {gs : List Nat} (h : ThingHas w tb id d sv xs gs) (hb : Below w.heap.size w w') : ThingHas w' tb id d sv xs gs :=
  ⟨(hb.cell (p := ⟨tb, 0, none⟩) (cell_lt h.idc)).trans h.idc, (hb.cell (p := ⟨tb, 1, none⟩) (cell_lt h.svc)).trans h.svc, ownsRow_keep h.own (fun b hb' => hb.block b (ownsRow_lt h.own b hb').2), DsRep.but h.rep (below_but0 hb) (fun _ _ f => f)⟩
theorem apart_small {w : World} {es : List (ByteArray × Term)} {xs : List Value} (hd : EsRep w es xs) : ∀ q ∈ builtEs es, smallV q.2 := by
  induction es generalizing xs with
  | nil => intro q hq; rw [builtEs] at hq; cases hq
  | cons p es ih =>
    obtain ⟨s, t⟩ := p
    obtain ⟨cs, ys, -, -, ht, hr⟩ := hd
    intro q hq
    rw [builtEs] at hq
    rcases List.mem_cons.1 hq with rfl | hq
    · have ht' : TRep w t cs := ht
      have e : builtE (s, t) = builtV t := by rw [builtE]
      show smallV (builtE (s, t))
      rw [e]
      exact small_built t cs ht'
    · exact ih hr q hq
theorem built_term {es : List (ByteArray × Term)} : ∀ q ∈ builtEs es, ∃ t, q.2 = builtV t := by
  induction es with
  | nil => intro q hq; rw [builtEs] at hq; cases hq
  | cons p es ih =>
    obtain ⟨s, t⟩ := p
    intro q hq
    rw [builtEs] at hq
    rcases List.mem_cons.1 hq with rfl | hq
    · exact ⟨t, by show builtE (s, t) = builtV t; rw [builtE]⟩
    · exact ih q hq
theorem plain_self {t : Term} (h : okB (builtV t) = true) : sameT (plainT (builtV t) 0) (plainT (builtV t) 0) = true := by
  rw [plain_clean t 1 ⟨0, 0, 0⟩ 0 (Int.le_refl _) h (by omega)]
  exact same_clean t 1 ⟨0, 0, 0⟩ (Int.le_refl _) h
theorem entries_name {w : World} : ∀ {es : List (ByteArray × Term)} {xs : List Value}, EsRep w es xs → ∀ k, k < es.length → ∃ nm v, (builtEs es)[k]? = some (nm, v) ∧ xs[k * 12]? = some (.string nm)
  | [], _, _, k, hk => absurd hk (Nat.not_lt_zero _)
  | (s, t) :: es, xs, h, k, hk => by
    obtain ⟨cs, ys, rfl, -, ht, hr⟩ := h
    cases k with
    | zero => exact ⟨s, _, by rw [builtEs]; rfl, rfl⟩
    | succ k =>
      obtain ⟨nm, v, h1, h2⟩ := entries_name hr k (by simpa using hk)
      have hl : cs.length = 11 := TRep.len (w := w) (t := t) ht
      refine ⟨nm, v, by rw [builtEs]; simpa using h1, ?_⟩
      rw [show (k + 1) * 12 = (k * 12 + 11) + 1 from by omega, List.getElem?_cons_succ, List.getElem?_append_right (by omega), hl]
      simpa using h2
set_option maxRecDepth 100000 in
/-- told, of a term that stands for the value. -/
theorem told_said {v : Val} {x : Value} {fs : List Nat} {w : World} (h : VRep w v x fs) (hs : smallV v) {t : Term} {cs : List Value} (ht : TRep w t cs) :
    Calls Try.prog 58 #[x, .agg cs.toArray] w fun e w' => e = .returned (.bool (sameT (plainT v 0) t)) ∧ Below w.heap.size w w' := by
  have hx1 := h.one
  have hone := TRep.ones ht
  obtain ⟨c0, c1, c2, c3, c4, c5, c6, c7, c8, c9, c10, rfl⟩ := eleven (TRep.len ht)
  obtain ⟨W, hW⟩ : ∃ W, W = w.alloc (.cells #[c0, c1, c2, c3, c4, c5, c6, c7, c8, c9, c10] 34) := ⟨_, rfl⟩
  have hbW : Below w.heap.size w W := by rw [hW]; exact (Below.refl _ _).alloc (Nat.le_refl _) _
  have his := Lib.hid (Is_said (plain_any v) (w := W) (VRep.but h (below_but0 hbW) (fun _ _ f => f)) hs (TRep.keep (keeps_of_below hbW) _ _ ht))
  have hbx : W.heap[w.heap.size]? = some (.cells #[c0, c1, c2, c3, c4, c5, c6, c7, c8, c9, c10] 34 (0, 0)) := by rw [hW]; exact heap_alloc_new w _
  have hbWH := Lib.hid hbW
  obtain ⟨r, hr⟩ : ∃ r, r = sameT (plainT v 0) t := ⟨_, rfl⟩
  rw [← hr] at his
  rw [← hr]
  clear h ht hbx hbW hs hr
  go_enter Try.func58, Try.ntmps58
  go_wp2_with fail
  rw [← hW]
  refine his.out.mono ?_
  rintro e w2 ⟨rfl, hb2⟩
  go_wp2
  go_ret
  exact ⟨rfl, hbWH.out.trans (below_le hb2 hbWH.out.size)⟩
theorem law_dict {es : List (ByteArray × Term)} {sv : Value} {xs : List Value} {w : World} (ho : AtRow w sv es.length 12 xs) (hd : EsRep w es xs) :
    Calls Try.prog 45 #[sv] w fun e w1 => ∃ a n c dxs gs, e = .returned (.slice a n c) ∧ w1.ownsRow 0 133 2 (.slice a n c) (builtEs es).length dxs ∧ DsRep w1 (builtEs es) dxs gs ∧ Below w.heap.size w w1 :=
  (dict_built es (fun u _ => built_any u) _ xs _ ho hd).mono fun e w1 ⟨dv, dxs, gs, he, hown, hds, hnd, hnew, hb1⟩ => by
    obtain ⟨da, dcap, rfl, -⟩ := ownsRow_form hown
    exact ⟨_, _, _, dxs, gs, he, ownsRow_mono hown, hds, hb1⟩
section
variable (id : Int) (es : List (ByteArray × Term)) (sv : Value) (xs : List Value) (w : World) (ho : AtRow w sv es.length 12 xs) (hd : EsRep w es xs)
include ho hd
set_option maxRecDepth 100000 in
set_option maxHeartbeats 1600000 in
theorem apart_no (hno : id = 0 ∨ (id == 0) = false ∧ okB (.dict (builtEs es)) = false) : Calls Try.prog 11 #[.int .u64 id, sv] w fun e w' => e = .returned (.bool true) ∧ Below w.heap.size w w' := by
  have hlives := Lib.hid (lives10_said w)
  have hdict := Lib.hid (fun W (hb : Below w.heap.size w W) => law_dict (ho.keep (keeps_of_below hb)) (EsRep.keep (keeps_of_below hb) _ _ hd))
  have hnew := Lib.hid (show ∀ (dv : Value) dxs gs W, W.ownsRow 0 133 2 dv (builtEs es).length dxs → DsRep W (builtEs es) dxs gs → Calls Try.prog 46 #[.int .u64 id, dv] W fun e w' => ∃ y : Int, e = .returned (.tuple #[.pointer none, .int .i64 y]) ∧ (y == 0) = false ∧ Below W.heap.size W w' from fun dv dxs gs W h1 h2 => by
    rcases hno with rfl | ⟨hid, hok⟩
    · exact (thing_new_zero dv W).mono fun e w' ⟨he, hb⟩ => ⟨1, he, rfl, hb⟩
    · exact (thing_new_bad (builtEs es) dv dxs gs W id hid h1 h2 hok).mono fun e w' ⟨he, hb⟩ => ⟨_, he, by simpa using why_bad hok, hb⟩)
  obtain ⟨oa, cap, rfl, -⟩ := ho
  clear hd hno
  go_enter Try.func11, Try.ntmps11
  go_wp2_with fail
  refine hlives.out.mono ?_
  rintro e w1 ⟨rfl, hb1⟩
  have hb1H := Lib.hid hb1
  have hdi := Lib.hid (hdict.out w1 hb1)
  clear hb1
  go_wp2_with fail
  refine hdi.out.mono ?_
  rintro e w2 ⟨a, n, c, dxs, gs, rfl, hown, hds, hb2⟩
  have hne := Lib.hid (hnew.out _ dxs gs w2 hown hds)
  have hb2H := Lib.hid (hb1H.out.trans (below_le hb2 hb1H.out.size))
  clear hown hds hb2
  go_wp2_with fail
  refine hne.out.mono ?_
  rintro e w3 ⟨y, rfl, hy, hb3⟩
  have hy2 : (y != 0) = true := by simpa using hy
  go_wp2
  go_ret
  exact ⟨rfl, hb2H.out.trans (below_le hb3 hb2H.out.size)⟩
end
/-- What stays of a thing through the law's round. -/
def ApartAt (w wr : World) (tb : Nat) (id : Int) (es : List (ByteArray × Term)) : Prop := (∃ sv xs gs, ThingHas wr tb id (builtEs es) sv xs gs) ∧ Below w.heap.size w wr
section
variable (id : Int) (es : List (ByteArray × Term)) (sv : Value) (xs : List Value) (w : World) (ho : AtRow w sv es.length 12 xs) (hd : EsRep w es xs)
include ho hd
set_option maxRecDepth 100000 in
set_option maxHeartbeats 3200000 in
theorem apart_yes (hid : (id == 0) = false) (hok : okB (.dict (builtEs es)) = true) : Calls Try.prog 11 #[.int .u64 id, sv] w fun e w' => e = .returned (.bool true) ∧ Below w.heap.size w w' := by
  have hlives := Lib.hid (lives10_said w)
  have hdict := Lib.hid (fun W (hb : Below w.heap.size w W) => law_dict (ho.keep (keeps_of_below hb)) (EsRep.keep (keeps_of_below hb) _ _ hd))
  have hname := Lib.hid (fun (k : Nat) (p : ByteArray × Val) (hp : (builtEs es)[k]? = some p) => dict_names hok k p hp)
  have hnew := Lib.hid (fun (dv : Value) dxs gs W h1 h2 => thing_new_ok (builtEs es) dv dxs gs W id hid h1 h2 hok)
  have hval := Lib.hid (show ∀ (k : Nat) (p : ByteArray × Val), (builtEs es)[k]? = some p → ∃ v, fieldOf (builtEs es) p.1 = some v ∧ okB v = true ∧ smallV v ∧ sameT (plainT v 0) (plainT v 0) = true from fun k p hp => by
    obtain ⟨v, hv, q, hq, rfl⟩ := field_some hp
    obtain ⟨t, ht⟩ := built_term q hq
    have hqo := dict_ok hok q hq
    exact ⟨q.2, hv, hqo, apart_small hd q hq, by rw [ht]; exact plain_self (by rw [← ht]; exact hqo)⟩)
  have hnm := Lib.hid (show ∀ k, k < es.length → ∃ nm v, (builtEs es)[k]? = some (nm, v) ∧ xs[k * 12]? = some (.string nm) from fun k hk => entries_name hd k hk)
  obtain ⟨oa, cap, rfl, hcap, hmax, hsm, -, -, hform⟩ := ho
  have hformH := Lib.hid hform
  unfold maxLen at hmax
  have hidH := Lib.hid hid
  clear hd hok hid hform
  go_enter Try.func11, Try.ntmps11
  go_wp2_with fail
  refine hlives.out.mono ?_
  rintro e w1 ⟨rfl, hb1⟩
  have hb1H := Lib.hid hb1
  have hdi := Lib.hid (hdict.out w1 hb1)
  clear hb1
  go_wp2_with fail
  refine hdi.out.mono ?_
  rintro e w2 ⟨a, n, c, dxs, gs, rfl, hown, hds, hb2⟩
  have hne := Lib.hid (hnew.out _ dxs gs w2 hown hds)
  have hb2H := Lib.hid (hb1H.out.trans (below_le hb2 hb1H.out.size))
  clear hown hds hb2
  go_wp2_with fail
  refine hne.out.mono ?_
  rintro e w3 ⟨tb, sv3, xs3, gs3, rfl, -, i3, c3, own3, ds3, -, hb3⟩
  have hA0 := Lib.hid (show ApartAt w w3 tb id es from ⟨⟨sv3, xs3, gs3, i3, c3, own3, ds3⟩, hb2H.out.trans (below_le hb3 hb2H.out.size)⟩)
  clear i3 c3 own3 ds3 hb3 hne
  go_wp2_with fail
  go_loopw [7] (fun i wr => ∃ k : Nat, k ≤ es.length ∧ i = .int .i64 k ∧ ApartAt w wr tb id es) (fun i _ => es.length - (intOf i).toNat)
  case atStart => exact ⟨0, Nat.zero_le _, rfl, hA0.out⟩
  case round =>
    obtain ⟨k, hk, rfl, hA⟩ := hrel
    have hAH := Lib.hid hA
    clear hA
    by_cases hlt : k < es.length
    · obtain ⟨b, o, rfl, hc⟩ := hformH.out (by omega)
      obtain ⟨nm, v0, hp, hx⟩ := hnm.out k hlt
      obtain ⟨v, hf, hvok, hvsm, hsame⟩ := hval.out k _ hp
      have hno := hname.out k _ hp
      have hcell : w.cell? ⟨b, o + k * 12, none⟩ = some (.string nm) := (hc (k * 12) (by omega)).trans hx
      obtain ⟨⟨sv4, xs4, gs4, hth⟩, hbel⟩ := hAH.out
      have q1 := (hbel.cell (p := ⟨b, o + k * 12, none⟩) (cell_lt hcell)).trans hcell
      have hcellL := cell_lt hcell
      have hgetH := Lib.hid (fun W (hb : Below wr.heap.size wr W) => thing_told tb (builtEs es) sv4 xs4 gs4 W nm (hth.below hb).svc (hth.below hb).own (hth.below hb).rep hf hvok)
      have hthH := Lib.hid hth
      have hbelH := Lib.hid hbel
      have hnoH := Lib.hid hno
      have hokH := Lib.hid hvok
      have hsmH := Lib.hid hvsm
      have hsameH := Lib.hid hsame
      have hcellH := Lib.hid hcell
      clear hc hp hx hf hno hcell hth hbel hvok hvsm hsame
      go_wp2_with fail
      refine (hgetH.out wr (Below.refl _ _)).mono ?_
      rintro e r1 ⟨y1, g1, rfl, hv1, hn1, hg1, hb1⟩
      have hy1 := hv1.one
      have hpl := Lib.hid (Plain_said (plain_any v) hv1 hsmH.out)
      have hv1H := Lib.hid (And.intro hv1 (And.intro hn1 hg1))
      have hb1H := Lib.hid hb1
      clear hv1 hn1 hg1 hb1 q1
      go_wp2_with fail
      refine hpl.out.mono ?_
      rintro e r2 ⟨cs, rfl, ht2, hb2⟩
      have hb2H := Lib.hid hb2
      have ht2H := Lib.hid ht2
      have hone := TRep.ones ht2
      obtain ⟨c0, c1, c2, c3, c4, c5, c6, c7, c8, c9, c10, rfl⟩ := eleven (TRep.len ht2)
      clear ht2 hb2 hpl
      go_wp2_with (refine wpList_store_row rfl 34 (.tmp 10) _ rfl r2.heap.size #[c0, c1, c2, c3, c4, c5, c6, c7, c8, c9, c10] rfl rfl 34 zeroCells (heap_alloc_new r2 _) termSize rfl (all_one hone) ?_)
      have hsp := Lib.hid (fun W (hv : VRep W v y1 g1) => spoil_any v y1 g1 W hv hsmH.out hv1H.out.2.1)
      have hs1 := hb1H.out.size
      have hs2 := hb2H.out.size
      obtain ⟨r3, hr3⟩ : ∃ r3, r3 = r2.alloc (.cells #[c0, c1, c2, c3, c4, c5, c6, c7, c8, c9, c10] 34) := ⟨_, rfl⟩
      have hb3 : Below r2.heap.size r2 r3 := by rw [hr3]; exact (Below.refl _ _).alloc (Nat.le_refl _) _
      have hs3 : r3.heap.size = r2.heap.size + 1 := by rw [hr3]; simp
      have hB3 : r3.heap[r2.heap.size]? = some (.cells #[c0, c1, c2, c3, c4, c5, c6, c7, c8, c9, c10] 34 (0, 0)) := by rw [hr3]; exact heap_alloc_new _ _
      have hB3H := Lib.hid hB3
      have hb3H := Lib.hid hb3
      rw [World.setRow_alloc_new, ← hr3]
      have hv3 := Lib.hid (VRep.but hv1H.out.1 (below_but0 (hb2H.out.trans (below_le hb3 hs2))) (fun _ _ f => f))
      clear hr3 hB3 hb3
      go_wp2_with fail
      refine (hsp.out _ hv3.out).mono ?_
      rintro e r4 ⟨rfl, hb4⟩
      have hb4H := Lib.hid hb4
      have hs4 := hb4.size
      have hbw4 : Below wr.heap.size wr r4 := (((hb1H.out.trans (below_le hb2H.out hs1)).trans (below_le hb3H.out (by omega))).trans (hb4.below' (by omega) (fun i hi hm => by have := hv1H.out.2.2 i hm; omega)))
      have hbw4H := Lib.hid hbw4
      have hB4H := Lib.hid ((hb4.block r2.heap.size (by omega) (fun hm => by have := VRep.lt _ _ _ hv1H.out.1 _ hm; omega)).trans hB3H.out)
      have ht4H := Lib.hid (TRep.keep (only_keep (S' := fun b => r1.heap.size ≤ b) fun b hb hs => ⟨hs, (hb4.block b (by omega) (fun hm => by have := VRep.lt _ _ _ hv1H.out.1 _ hm; omega)).trans (hb3H.out.block b hb)⟩) _ _ ht2H.out)
      have q4 := (hbelH.out.trans (below_le hbw4 hbelH.out.size)).cell (p := ⟨b, o + k * 12, none⟩) (show _ < _ from hcellL)
      rw [hcellH.out] at q4
      have hask := Lib.hid (Ask_told tb nm hnoH.out r4 hokH.out (fun W hb => hgetH.out W (hbw4H.out.trans (below_le hb hbw4H.out.size))))
      clear hb4 hbw4 hsp hv3
      go_wp2_with fail
      refine hask.out.mono ?_
      rintro e r5 ⟨y2, g2, rfl, hv5, hn5, hg5, hb5⟩
      have hy2 := hv5.one
      have hb5H := Lib.hid hb5
      have hv5H := Lib.hid (And.intro hv5 (And.intro hn5 hg5))
      have hlt4 := (Array.getElem?_eq_some_iff.1 hB4H.out).1
      have hB5H := Lib.hid ((hb5.block r2.heap.size hlt4).trans hB4H.out)
      have ht5H := Lib.hid (TRep.keep (keeps_of_below hb5) _ _ (TRep.keep only_all _ _ ht4H.out))
      have q5 := hb5.cell (p := ⟨b, o + k * 12, none⟩) (cell_lt q4)
      rw [q4] at q5
      have htold := Lib.hid (told_said hv5 hsmH.out ht5H.out)
      rw [hsameH.out] at htold
      have hC := block_cells hB5H.out
      have hC0 := hC 0
      have hC1 := hC 1
      have hC2 := hC 2
      have hC3 := hC 3
      have hC4 := hC 4
      have hC5 := hC 5
      have hC6 := hC 6
      have hC7 := hC 7
      have hC8 := hC 8
      have hC9 := hC 9
      have hC10 := hC 10
      clear hb5 hv5 hn5 hg5 q4 hC hask
      simp only [List.getElem?_toArray, List.getElem?_cons_zero, List.getElem?_cons_succ] at hC0 hC1 hC2 hC3 hC4 hC5 hC6 hC7 hC8 hC9 hC10
      go_wp2_with fail
      refine htold.out.mono ?_
      rintro e r6 ⟨rfl, hb6⟩
      have hb6H := Lib.hid hb6
      have hs5 := hb5H.out.size
      have hs6 := hb6.size
      have hv6 := Lib.hid (VRep.but hv5H.out.1 (below_but0 hb6) (fun _ _ f => f))
      have hsp2 := Lib.hid (spoil_any v y2 g2 r6 hv6.out hsmH.out hv5H.out.2.1)
      have hB6H := Lib.hid ((hb6.block r2.heap.size (by omega)).trans hB5H.out)
      have q6 := hb6.cell (p := ⟨b, o + k * 12, none⟩) (cell_lt q5)
      rw [q5] at q6
      clear hb6 htold hC0 hC1 hC2 hC3 hC4 hC5 hC6 hC7 hC8 hC9 hC10 q5
      go_wp2_with fail
      refine hsp2.out.mono ?_
      rintro e r7 ⟨rfl, hb7⟩
      have hs7 := hb7.size
      have hlow : ∀ i ∈ g2, r4.heap.size ≤ i := hv5H.out.2.2
      have hbw7 : Below wr.heap.size wr r7 := ((hbw4H.out.trans (below_le hb5H.out (by omega))).trans (below_le hb6H.out (by omega))).trans (hb7.below' (by omega) (fun i hi hm => by have := hlow i hm; omega))
      have hbw7H := Lib.hid hbw7
      have hB7H := Lib.hid ((hb7.block r2.heap.size (by omega) (fun hm => by have := hlow _ hm; omega)).trans hB6H.out)
      have ht7H := Lib.hid (TRep.keep (only_keep (S := fun b => r1.heap.size ≤ b ∧ b < r4.heap.size) (S' := fun _ => True) fun b hb hs => ⟨trivial, (hb7.block b (by omega) (fun hm => by have := hlow _ hm; omega)).trans ((hb6H.out.block b (by omega)).trans (hb5H.out.block b hs.2))⟩) _ _ (TRep.keep (only_keep (S' := fun b => r1.heap.size ≤ b ∧ b < r4.heap.size) fun b hb hs => ⟨⟨hs, hb⟩, rfl⟩) _ _ ht4H.out))
      have q7 := hb7.cell (p := ⟨b, o + k * 12, none⟩) (cell_lt q6) (fun hm => by have h1 := hlow _ hm; have h2 : b < wr.heap.size := Nat.lt_of_lt_of_le hcellL hbelH.out.size; have h3 := hbw4H.out.size; dsimp only at h1; omega)
      rw [q6] at q7
      have hget7 := Lib.hid (hgetH.out r7 hbw7)
      clear hb7 hbw7 q6 hsp2 hlow
      go_wp2_with fail
      refine hget7.out.mono ?_
      rintro e r8 ⟨y3, g3, rfl, hv8, -, -, hb8⟩
      have hy3 := hv8.one
      have hB8H := Lib.hid ((hb8.block r2.heap.size (by omega)).trans hB7H.out)
      have ht8 := TRep.keep (keeps_of_below hb8) _ _ (TRep.keep only_all _ _ ht7H.out)
      have htold := Lib.hid (told_said hv8 hsmH.out ht8)
      rw [hsameH.out] at htold
      have hb8H := Lib.hid hb8
      have hC := block_cells hB8H.out
      have hC0 := hC 0
      have hC1 := hC 1
      have hC2 := hC 2
      have hC3 := hC 3
      have hC4 := hC 4
      have hC5 := hC 5
      have hC6 := hC 6
      have hC7 := hC 7
      have hC8 := hC 8
      have hC9 := hC 9
      have hC10 := hC 10
      clear hv8 ht8 hb8 hC q7 hget7
      simp only [List.getElem?_toArray, List.getElem?_cons_zero, List.getElem?_cons_succ] at hC0 hC1 hC2 hC3 hC4 hC5 hC6 hC7 hC8 hC9 hC10
      go_wp2_with fail
      refine htold.out.mono ?_
      rintro e r9 ⟨rfl, hb9⟩
      have hb9H := Lib.hid hb9
      clear hb9 htold hC0 hC1 hC2 hC3 hC4 hC5 hC6 hC7 hC8 hC9 hC10
      go_wp2_with fail
      go_roundw
      case rel =>
        have hs8 := hb8H.out.size
        have hbw9 : Below wr.heap.size wr r9 := (hbw7H.out.trans (below_le hb8H.out (by omega))).trans (below_le hb9H.out (by omega))
        exact ⟨k + 1, by omega, by go_num, ⟨⟨sv4, xs4, gs4, hthH.out.below hbw9⟩, hbelH.out.trans (below_le hbw9 hbelH.out.size)⟩⟩
      case measure => simp [intOf]; omega
    · obtain rfl : k = es.length := by omega
      obtain ⟨⟨sv4, xs4, gs4, hth⟩, hbel⟩ := hAH.out
      have hidr := Lib.hid (thing_id tb id sv4 wr hth.idc)
      have hbelH := Lib.hid hbel
      clear hth hbel
      go_wp2_with fail
      refine hidr.out.mono ?_
      rintro e r1 ⟨rfl, rfl⟩
      go_wp2
      go_ret
      exact ⟨rfl, hbelH.out⟩
end
end Go.Proofs.Ytpcbdjfonmohaaa
