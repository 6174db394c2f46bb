/- tenonref01.Compare of lists, dicts, records; Order; Same. -/
import Derived.Test.YtpcbdjfonmohaaaCompare
namespace Go.Proofs.Ytpcbdjfonmohaaa
open Go.RowKit
set_option linter.unusedVariables false
set_option linter.unusedSimpArgs false

def CmpSaid (t : Term) : Prop := ∀ (u : Term) (cs ds : List Value) (w : World), TRep w t cs → TRep w u ds → okV (builtV t) → okV (builtV u) →
  Calls Try.prog 126 #[.agg cs.toArray, .agg ds.toArray] w (CmpEnd (builtV t = builtV u) w)
theorem takes_eq {α : Type} {l m : List α} {k : Nat} (h : l.take k = m.take k) (hk : k = l.length ∨ k = m.length) (hl : k ≤ l.length) (hm : k ≤ m.length) : l.length = m.length ↔ l = m := by
  constructor
  · intro e
    have h1 : l.take k = l := List.take_of_length_le (by omega)
    have h2 : m.take k = m := List.take_of_length_le (by omega)
    rw [← h1, ← h2, h]
  · rintro rfl; rfl
theorem takes_snoc {α : Type} {l m : List α} {k : Nat} {a b : α} (h : l.take k = m.take k) (ha : l[k]? = some a) (hb : m[k]? = some b) (e : a = b) : l.take (k + 1) = m.take (k + 1) := by
  rw [List.take_add_one, List.take_add_one, h, ha, hb, e]
set_option maxRecDepth 100000 in
set_option maxHeartbeats 3200000 in
theorem fields_cmp (la lb : List (ByteArray × Term)) (ih : ∀ u ∈ la.map (·.2), CmpSaid u) (sa sb : Value) (xa xb : List Value) (w : World) (ha : AtRow w sa la.length 12 xa) (hta : EsRep w la xa) (hb0 : AtRow w sb lb.length 12 xb) (htb : EsRep w lb xb) (hok : okDs (builtEs la)) (hok' : okDs (builtEs lb)) :
    Calls Try.prog 144 #[sa, sb] w (CmpEnd (builtEs la = builtEs lb) w) := by
  obtain ⟨aa, capa, rfl, hcapa, hmaxa, hsma, -, -, hforma⟩ := ha
  obtain ⟨ab, capb, rfl, hcapb, hmaxb, hsmb, -, -, hformb⟩ := hb0
  unfold maxLen at hmaxa hmaxb
  have hdata := Lib.hid (EsRep.at la xa hta)
  have hdatb := Lib.hid (EsRep.at lb xb htb)
  have hformaH := Lib.hid hforma
  have hformbH := Lib.hid hformb
  have ihH := Lib.hid ih
  have hokH := Lib.hid (okDs_mem _ hok)
  have hokH' := Lib.hid (okDs_mem _ hok')
  have hla : (builtEs la).length = la.length := by rw [builtEs_eq, List.length_map]
  have hlb : (builtEs lb).length = lb.length := by rw [builtEs_eq, List.length_map]
  have hka := Lib.hid (fun (k : Nat) (s : ByteArray) (t : Term) (h : la[k]? = some (s, t)) => (show (builtEs la)[k]? = some (s, builtV t) by rw [builtEs_eq, List.getElem?_map, h]; rfl))
  have hkb := Lib.hid (fun (k : Nat) (s : ByteArray) (t : Term) (h : lb[k]? = some (s, t)) => (show (builtEs lb)[k]? = some (s, builtV t) by rw [builtEs_eq, List.getElem?_map, h]; rfl))
  have hwa : IntKind.u64.wrap (la.length : Int) = (la.length : Int) := by rw [IntKind.wrap_u64]; omega
  have hwb : IntKind.u64.wrap (lb.length : Int) = (lb.length : Int) := by rw [IntKind.wrap_u64]; omega
  generalize builtEs la = da at *
  generalize builtEs lb = db at *
  clear hforma hformb hta htb ih hok hok'
  go_enter Try.func144, Try.ntmps144
  go_wp2_with fail
  go_loopw [5] (fun i wr => ∃ k : Nat, k ≤ la.length ∧ k ≤ lb.length ∧ i = .int .i64 k ∧ da.take k = db.take k ∧ Below w.heap.size w wr) (fun i _ => la.length - (intOf i).toNat)
  case atStart => exact ⟨0, Nat.zero_le _, Nat.zero_le _, rfl, by rw [List.take_zero, List.take_zero], Below.refl _ _⟩
  case round =>
    obtain ⟨k, hk, hk', rfl, htk, hb⟩ := hrel
    have htkH := Lib.hid htk
    clear htk
    by_cases hlt : k < la.length ∧ k < lb.length
    · have l1 : (k : Int) < (la.length : Int) := by omega
      have l2 : (k : Int) < (lb.length : Int) := by omega
      obtain ⟨ba, oa, rfl, hca⟩ := hformaH.out (by omega)
      obtain ⟨bb, ob, rfl, hcb⟩ := hformbH.out (by omega)
      obtain ⟨⟨s, ta⟩, hp⟩ : ∃ p, la[k]? = some p := ⟨_, List.getElem?_eq_getElem hlt.1⟩
      obtain ⟨⟨q, tb⟩, hq⟩ : ∃ p, lb[k]? = some p := ⟨_, List.getElem?_eq_getElem hlt.2⟩
      obtain ⟨xs, hta, -, ea, ea1⟩ := hdata.out k _ hp
      obtain ⟨ys, htb, -, eb, eb1⟩ := hdatb.out k _ hq
      have hcella : ∀ j, j < 11 → w.cell? ⟨ba, oa + k * 12 + (1 + j), none⟩ = xs[j]? := fun j hj => by
        have h1 := hca (k * 12 + (1 + j)) (by omega)
        rw [ea1 j hj, ← Nat.add_assoc] at h1
        exact h1
      have hcellb : ∀ j, j < 11 → w.cell? ⟨bb, ob + k * 12 + (1 + j), none⟩ = ys[j]? := fun j hj => by
        have h1 := hcb (k * 12 + (1 + j)) (by omega)
        rw [eb1 j hj, ← Nat.add_assoc] at h1
        exact h1
      have hna := (hca (k * 12) (by omega)).trans ea
      have hnb := (hcb (k * 12) (by omega)).trans eb
      have hpa := hka.out k s ta hp
      have hpb := hkb.out k q tb hq
      have hih := Lib.hid (fun W (hbW : Below w.heap.size w W) => ihH.out ta (List.mem_map.2 ⟨_, List.mem_of_getElem? hp, rfl⟩) tb xs ys W (TRep.keep (keeps_of_below hbW) _ _ hta) (TRep.keep (keeps_of_below hbW) _ _ htb) (hokH.out _ (List.mem_of_getElem? hpa)) (hokH'.out _ (List.mem_of_getElem? hpb)))
      have hpaH := Lib.hid hpa
      have hpbH := Lib.hid hpb
      obtain ⟨d0, d1, d2, d3, d4, d5, d6, d7, d8, d9, d10, rfl⟩ := eleven (TRep.len hta)
      obtain ⟨f0, f1, f2, f3, f4, f5, f6, f7, f8, f9, f10, rfl⟩ := eleven (TRep.len htb)
      have p0 := hcella 0 (by omega)
      have q0 := hcellb 0 (by omega)
      have p1 := hcella 1 (by omega)
      have q1 := hcellb 1 (by omega)
      have p2 := hcella 2 (by omega)
      have q2 := hcellb 2 (by omega)
      have p3 := hcella 3 (by omega)
      have q3 := hcellb 3 (by omega)
      have p4 := hcella 4 (by omega)
      have q4 := hcellb 4 (by omega)
      have p5 := hcella 5 (by omega)
      have q5 := hcellb 5 (by omega)
      have p6 := hcella 6 (by omega)
      have q6 := hcellb 6 (by omega)
      have p7 := hcella 7 (by omega)
      have q7 := hcellb 7 (by omega)
      have p8 := hcella 8 (by omega)
      have q8 := hcellb 8 (by omega)
      have p9 := hcella 9 (by omega)
      have q9 := hcellb 9 (by omega)
      have p10 := hcella 10 (by omega)
      have q10 := hcellb 10 (by omega)
      simp only [List.getElem?_cons_zero, List.getElem?_cons_succ, Nat.reduceAdd] at p0 q0 p1 q1 p2 q2 p3 q3 p4 q4 p5 q5 p6 q6 p7 q7 p8 q8 p9 q9 p10 q10
      have hSn : ∀ w', Below w.heap.size w w' → w'.cell? ⟨ba, oa + k * 12, none⟩ = some (.string s) ∧ w'.cell? ⟨bb, ob + k * 12, none⟩ = some (.string q) := fun w' hb' => ⟨keeps_of_below hb' _ _ hna, keeps_of_below hb' _ _ hnb⟩
      have hSk : ∀ w', Below w.heap.size w w' → w'.cell? ⟨ba, oa + k * 12 + 1, none⟩ = some d0 ∧ w'.cell? ⟨ba, oa + k * 12 + 2, none⟩ = some d1 ∧ w'.cell? ⟨ba, oa + k * 12 + 3, none⟩ = some d2 ∧ w'.cell? ⟨ba, oa + k * 12 + 4, none⟩ = some d3 ∧ w'.cell? ⟨ba, oa + k * 12 + 5, none⟩ = some d4 ∧ w'.cell? ⟨ba, oa + k * 12 + 6, none⟩ = some d5 ∧ w'.cell? ⟨ba, oa + k * 12 + 7, none⟩ = some d6 ∧ w'.cell? ⟨ba, oa + k * 12 + 8, none⟩ = some d7 ∧ w'.cell? ⟨ba, oa + k * 12 + 9, none⟩ = some d8 ∧ w'.cell? ⟨ba, oa + k * 12 + 10, none⟩ = some d9 ∧ w'.cell? ⟨ba, oa + k * 12 + 11, none⟩ = some d10 ∧ w'.cell? ⟨bb, ob + k * 12 + 1, none⟩ = some f0 ∧ w'.cell? ⟨bb, ob + k * 12 + 2, none⟩ = some f1 ∧ w'.cell? ⟨bb, ob + k * 12 + 3, none⟩ = some f2 ∧ w'.cell? ⟨bb, ob + k * 12 + 4, none⟩ = some f3 ∧ w'.cell? ⟨bb, ob + k * 12 + 5, none⟩ = some f4 ∧ w'.cell? ⟨bb, ob + k * 12 + 6, none⟩ = some f5 ∧ w'.cell? ⟨bb, ob + k * 12 + 7, none⟩ = some f6 ∧ w'.cell? ⟨bb, ob + k * 12 + 8, none⟩ = some f7 ∧ w'.cell? ⟨bb, ob + k * 12 + 9, none⟩ = some f8 ∧ w'.cell? ⟨bb, ob + k * 12 + 10, none⟩ = some f9 ∧ w'.cell? ⟨bb, ob + k * 12 + 11, none⟩ = some f10 := fun w' hb' => ⟨keeps_of_below hb' _ _ p0, keeps_of_below hb' _ _ p1, keeps_of_below hb' _ _ p2, keeps_of_below hb' _ _ p3, keeps_of_below hb' _ _ p4, keeps_of_below hb' _ _ p5, keeps_of_below hb' _ _ p6, keeps_of_below hb' _ _ p7, keeps_of_below hb' _ _ p8, keeps_of_below hb' _ _ p9, keeps_of_below hb' _ _ p10, keeps_of_below hb' _ _ q0, keeps_of_below hb' _ _ q1, keeps_of_below hb' _ _ q2, keeps_of_below hb' _ _ q3, keeps_of_below hb' _ _ q4, keeps_of_below hb' _ _ q5, keeps_of_below hb' _ _ q6, keeps_of_below hb' _ _ q7, keeps_of_below hb' _ _ q8, keeps_of_below hb' _ _ q9, keeps_of_below hb' _ _ q10⟩
      clear hcella hcellb ea ea1 eb eb1 hca hcb hna hnb hpa hpb hta htb hp hq p0 q0 p1 q1 p2 q2 p3 q3 p4 q4 p5 q5 p6 q6 p7 q7 p8 q8 p9 q9 p10 q10
      go_wp2_with fail
      refine wp_region_held_drew (S := (fun w' => w'.cell? ⟨ba, oa + k * 12, none⟩ = some (.string s) ∧ w'.cell? ⟨bb, ob + k * 12, none⟩ = some (.string q))) (by kernel_rfl) ?_ (fun hHeld => ?_)
      · exact hSn _ hb.drew
      refine wpAnyH_take (i := 0) (v := ?vn0) rfl (by kernel_rfl) (by kernel_rfl) (by kernel_rfl) (fun _ _ _ h => h) (.inl ⟨by rfl, ?hyn0⟩) (by assumption) ?restn0
      case hyn0 => (intro w hSw; (try dsimp only at hSw); go_simp; first | done | with_reducible rfl)
      (try simp only [Act.put, List.setIfInBounds_toArray, List.set_cons_zero, List.set_cons_succ, List.getElem_toArray, List.getElem_cons_zero, List.getElem_cons_succ])
      refine wpAnyH_take (i := 1) (v := ?vn1) rfl (by kernel_rfl) (by kernel_rfl) (by kernel_rfl) (fun _ _ _ h => h) (.inl ⟨by rfl, ?hyn1⟩) (by assumption) ?restn1
      case hyn1 => (intro w hSw; (try dsimp only at hSw); go_simp; first | done | with_reducible rfl)
      (try simp only [Act.put, List.setIfInBounds_toArray, List.set_cons_zero, List.set_cons_succ, List.getElem_toArray, List.getElem_cons_zero, List.getElem_cons_succ])
      refine wpAnyH_take (i := 2) (v := ?vn2) rfl (by kernel_rfl) (by kernel_rfl) (by kernel_rfl) (fun _ _ _ h => h) (.inl ⟨by rfl, ?hyn2⟩) (by assumption) ?restn2
      case hyn2 => (intro w hSw; (try dsimp only at hSw); go_simp; first | done | with_reducible rfl)
      (try simp only [Act.put, List.setIfInBounds_toArray, List.set_cons_zero, List.set_cons_succ, List.getElem_toArray, List.getElem_cons_zero, List.getElem_cons_succ])
      refine wpAnyH_take (i := 3) (v := ?vn3) rfl (by kernel_rfl) (by kernel_rfl) (by kernel_rfl) (fun _ _ _ h => h) (.inl ⟨by rfl, ?hyn3⟩) (by assumption) ?restn3
      case hyn3 => (intro w hSw; (try dsimp only at hSw); go_simp; first | done | with_reducible rfl)
      (try simp only [Act.put, List.setIfInBounds_toArray, List.set_cons_zero, List.set_cons_succ, List.getElem_toArray, List.getElem_cons_zero, List.getElem_cons_succ])
      refine wpAnyH_take (i := 4) (v := ?vn4) rfl (by kernel_rfl) (by kernel_rfl) (by kernel_rfl) (fun _ _ _ h => h) (.inl ⟨by rfl, ?hyn4⟩) (by assumption) ?restn4
      case hyn4 => (intro w hSw; (try dsimp only at hSw); go_simp; first | done | with_reducible rfl)
      (try simp only [Act.put, List.setIfInBounds_toArray, List.set_cons_zero, List.set_cons_succ, List.getElem_toArray, List.getElem_cons_zero, List.getElem_cons_succ])
      refine wpAnyH_take (i := 5) (v := ?vn5) rfl (by kernel_rfl) (by kernel_rfl) (by kernel_rfl) (fun _ _ _ h => h) (.inl ⟨by rfl, ?hyn5⟩) (by assumption) ?restn5
      case hyn5 => (intro w hSw; (try dsimp only at hSw); go_simp; first | done | with_reducible rfl)
      (try simp only [Act.put, List.setIfInBounds_toArray, List.set_cons_zero, List.set_cons_succ, List.getElem_toArray, List.getElem_cons_zero, List.getElem_cons_succ])
      refine wpAnyH_take (i := 6) (v := ?vn6) rfl (by kernel_rfl) (by kernel_rfl) (by kernel_rfl) (fun _ _ _ h => h) (.inl ⟨by rfl, ?hyn6⟩) (by assumption) ?restn6
      case hyn6 => (intro w hSw; (try dsimp only at hSw); go_simp; first | done | with_reducible rfl)
      (try simp only [Act.put, List.setIfInBounds_toArray, List.set_cons_zero, List.set_cons_succ, List.getElem_toArray, List.getElem_cons_zero, List.getElem_cons_succ])
      refine wpAnyH_take (i := 7) (v := ?vn7) rfl (by kernel_rfl) (by kernel_rfl) (by kernel_rfl) (fun _ _ _ h => h) (.inl ⟨by rfl, ?hyn7⟩) (by assumption) ?restn7
      case hyn7 => (intro w hSw; (try dsimp only at hSw); go_simp; first | done | with_reducible rfl)
      (try simp only [Act.put, List.setIfInBounds_toArray, List.set_cons_zero, List.set_cons_succ, List.getElem_toArray, List.getElem_cons_zero, List.getElem_cons_succ])
      refine wpAnyH_take (i := 8) (v := ?vn8) rfl (by kernel_rfl) (by kernel_rfl) (by kernel_rfl) (fun _ _ _ h => h) (.inl ⟨by rfl, ?hyn8⟩) (by assumption) ?restn8
      case hyn8 => (intro w hSw; (try dsimp only at hSw); go_simp; first | done | with_reducible rfl)
      (try simp only [Act.put, List.setIfInBounds_toArray, List.set_cons_zero, List.set_cons_succ, List.getElem_toArray, List.getElem_cons_zero, List.getElem_cons_succ])
      refine wpAnyH_take (i := 9) (v := ?vn9) rfl (by kernel_rfl) (by kernel_rfl) (by kernel_rfl) (fun _ _ _ h => h) (.inl ⟨by rfl, ?hyn9⟩) (by assumption) ?restn9
      case hyn9 => (intro w hSw; (try dsimp only at hSw); go_simp; first | done | with_reducible rfl)
      (try simp only [Act.put, List.setIfInBounds_toArray, List.set_cons_zero, List.set_cons_succ, List.getElem_toArray, List.getElem_cons_zero, List.getElem_cons_succ])
      refine wpAnyH_ready (rs := [10]) (by kernel_rfl) (by simp) ?_
      refine AllReadyH.cons rfl (fun K hK => ?_) AllReadyH.nil
      rw [if_pos (by rfl)]
      go_simp
      refine (texts_said s q _).mono ?_
      rintro e w3 ⟨c, rfl, hcc, rfl⟩
      refine hK.out _ _ ?_ (fun hHeld2 => ?_)
      · exact hSn _ hb.drew
      clear hK K
      (try simp only [Act.put, List.setIfInBounds_toArray, List.set_cons_zero, List.set_cons_succ, List.getElem_toArray, List.getElem_cons_zero, List.getElem_cons_succ])
      refine wpAnyH_take (i := 11) (v := ?vn11) rfl (by kernel_rfl) (by kernel_rfl) (by kernel_rfl) (fun _ _ _ h => h) (.inl ⟨by rfl, ?hyn11⟩) (by assumption) ?restn11
      case hyn11 => (intro w hSw; (try dsimp only at hSw); go_simp; first | done | with_reducible rfl)
      (try simp only [Act.put, List.setIfInBounds_toArray, List.set_cons_zero, List.set_cons_succ, List.getElem_toArray, List.getElem_cons_zero, List.getElem_cons_succ])
      refine wpAnyH_done (by kernel_rfl) ?_ _
      by_cases hc0 : c = 0
      · subst hc0
        have hsq : s = q := hcc.1 rfl
        have hsqH := Lib.hid hsq
        clear hsq hcc
        go_wp2_with fail
        refine wp_region_held_drew (S := (fun w' => w'.cell? ⟨ba, oa + k * 12 + 1, none⟩ = some d0 ∧ w'.cell? ⟨ba, oa + k * 12 + 2, none⟩ = some d1 ∧ w'.cell? ⟨ba, oa + k * 12 + 3, none⟩ = some d2 ∧ w'.cell? ⟨ba, oa + k * 12 + 4, none⟩ = some d3 ∧ w'.cell? ⟨ba, oa + k * 12 + 5, none⟩ = some d4 ∧ w'.cell? ⟨ba, oa + k * 12 + 6, none⟩ = some d5 ∧ w'.cell? ⟨ba, oa + k * 12 + 7, none⟩ = some d6 ∧ w'.cell? ⟨ba, oa + k * 12 + 8, none⟩ = some d7 ∧ w'.cell? ⟨ba, oa + k * 12 + 9, none⟩ = some d8 ∧ w'.cell? ⟨ba, oa + k * 12 + 10, none⟩ = some d9 ∧ w'.cell? ⟨ba, oa + k * 12 + 11, none⟩ = some d10 ∧ w'.cell? ⟨bb, ob + k * 12 + 1, none⟩ = some f0 ∧ w'.cell? ⟨bb, ob + k * 12 + 2, none⟩ = some f1 ∧ w'.cell? ⟨bb, ob + k * 12 + 3, none⟩ = some f2 ∧ w'.cell? ⟨bb, ob + k * 12 + 4, none⟩ = some f3 ∧ w'.cell? ⟨bb, ob + k * 12 + 5, none⟩ = some f4 ∧ w'.cell? ⟨bb, ob + k * 12 + 6, none⟩ = some f5 ∧ w'.cell? ⟨bb, ob + k * 12 + 7, none⟩ = some f6 ∧ w'.cell? ⟨bb, ob + k * 12 + 8, none⟩ = some f7 ∧ w'.cell? ⟨bb, ob + k * 12 + 9, none⟩ = some f8 ∧ w'.cell? ⟨bb, ob + k * 12 + 10, none⟩ = some f9 ∧ w'.cell? ⟨bb, ob + k * 12 + 11, none⟩ = some f10)) (by kernel_rfl) ?_ (fun hHeld => ?_)
        · exact hSk _ (hb.drew.drew)
        refine wpAnyH_take (i := 0) (v := ?vm0) rfl (by kernel_rfl) (by kernel_rfl) (by kernel_rfl) (fun _ _ _ h => h) (.inl ⟨by rfl, ?hym0⟩) (by assumption) ?restm0
        case hym0 => (intro w hSw; (try dsimp only at hSw); go_simp; first | done | with_reducible rfl)
        (try simp only [Act.put, List.setIfInBounds_toArray, List.set_cons_zero, List.set_cons_succ, List.getElem_toArray, List.getElem_cons_zero, List.getElem_cons_succ])
        refine wpAnyH_take (i := 1) (v := ?vm1) rfl (by kernel_rfl) (by kernel_rfl) (by kernel_rfl) (fun _ _ _ h => h) (.inl ⟨by rfl, ?hym1⟩) (by assumption) ?restm1
        case hym1 => (intro w hSw; (try dsimp only at hSw); go_simp; first | done | with_reducible rfl)
        (try simp only [Act.put, List.setIfInBounds_toArray, List.set_cons_zero, List.set_cons_succ, List.getElem_toArray, List.getElem_cons_zero, List.getElem_cons_succ])
        refine wpAnyH_take (i := 2) (v := ?vm2) rfl (by kernel_rfl) (by kernel_rfl) (by kernel_rfl) (fun _ _ _ h => h) (.inl ⟨by rfl, ?hym2⟩) (by assumption) ?restm2
        case hym2 => (intro w hSw; (try dsimp only at hSw); go_simp; first | done | with_reducible rfl)
        (try simp only [Act.put, List.setIfInBounds_toArray, List.set_cons_zero, List.set_cons_succ, List.getElem_toArray, List.getElem_cons_zero, List.getElem_cons_succ])
        refine wpAnyH_take (i := 3) (v := ?vm3) rfl (by kernel_rfl) (by kernel_rfl) (by kernel_rfl) (fun _ _ _ h => h) (.inl ⟨by rfl, ?hym3⟩) (by assumption) ?restm3
        case hym3 => (intro w hSw; (try dsimp only at hSw); go_simp; first | done | with_reducible rfl)
        (try simp only [Act.put, List.setIfInBounds_toArray, List.set_cons_zero, List.set_cons_succ, List.getElem_toArray, List.getElem_cons_zero, List.getElem_cons_succ])
        refine wpAnyH_take (i := 4) (v := ?vm4) rfl (by kernel_rfl) (by kernel_rfl) (by kernel_rfl) (fun _ _ _ h => h) (.inl ⟨by rfl, ?hym4⟩) (by assumption) ?restm4
        case hym4 => (intro w hSw; (try dsimp only at hSw); go_simp; first | done | with_reducible rfl)
        (try simp only [Act.put, List.setIfInBounds_toArray, List.set_cons_zero, List.set_cons_succ, List.getElem_toArray, List.getElem_cons_zero, List.getElem_cons_succ])
        refine wpAnyH_take (i := 5) (v := ?vm5) rfl (by kernel_rfl) (by kernel_rfl) (by kernel_rfl) (fun _ _ _ h => h) (.inl ⟨by rfl, ?hym5⟩) (by assumption) ?restm5
        case hym5 => (intro w hSw; (try dsimp only at hSw); go_simp; first | done | with_reducible rfl)
        (try simp only [Act.put, List.setIfInBounds_toArray, List.set_cons_zero, List.set_cons_succ, List.getElem_toArray, List.getElem_cons_zero, List.getElem_cons_succ])
        refine wpAnyH_take (i := 6) (v := ?vm6) rfl (by kernel_rfl) (by kernel_rfl) (by kernel_rfl) (fun _ _ _ h => h) (.inl ⟨by rfl, ?hym6⟩) (by assumption) ?restm6
        case hym6 => (intro w hSw; (try dsimp only at hSw); go_simp; first | done | with_reducible rfl)
        (try simp only [Act.put, List.setIfInBounds_toArray, List.set_cons_zero, List.set_cons_succ, List.getElem_toArray, List.getElem_cons_zero, List.getElem_cons_succ])
        refine wpAnyH_take (i := 7) (v := ?vm7) rfl (by kernel_rfl) (by kernel_rfl) (by kernel_rfl) (fun _ _ _ h => h) (.inl ⟨by rfl, ?hym7⟩) (by assumption) ?restm7
        case hym7 => (intro w hSw; (try dsimp only at hSw); go_simp; first | done | with_reducible rfl)
        (try simp only [Act.put, List.setIfInBounds_toArray, List.set_cons_zero, List.set_cons_succ, List.getElem_toArray, List.getElem_cons_zero, List.getElem_cons_succ])
        refine wpAnyH_take (i := 8) (v := ?vm8) rfl (by kernel_rfl) (by kernel_rfl) (by kernel_rfl) (fun _ _ _ h => h) (.inl ⟨by rfl, ?hym8⟩) (by assumption) ?restm8
        case hym8 => (intro w hSw; (try dsimp only at hSw); go_simp; first | done | with_reducible rfl)
        (try simp only [Act.put, List.setIfInBounds_toArray, List.set_cons_zero, List.set_cons_succ, List.getElem_toArray, List.getElem_cons_zero, List.getElem_cons_succ])
        refine wpAnyH_take (i := 9) (v := ?vm9) rfl (by kernel_rfl) (by kernel_rfl) (by kernel_rfl) (fun _ _ _ h => h) (.inl ⟨by rfl, ?hym9⟩) (by assumption) ?restm9
        case hym9 => (intro w hSw; (try dsimp only at hSw); go_simp; first | done | with_reducible rfl)
        (try simp only [Act.put, List.setIfInBounds_toArray, List.set_cons_zero, List.set_cons_succ, List.getElem_toArray, List.getElem_cons_zero, List.getElem_cons_succ])
        refine wpAnyH_ready (rs := [10]) (by kernel_rfl) (by simp) ?_
        refine AllReadyH.cons rfl (fun K hK => ?_) AllReadyH.nil
        rw [if_pos (by rfl)]
        go_simp
        refine (hih.out _ (hb.drew.drew)).mono ?_
        rintro e w4 ⟨c2, rfl, hcc2, hb4⟩
        refine hK.out _ _ ?_ (fun hHeld2 => ?_)
        · exact hSk _ ((hb.drew.drew).trans (below_le hb4 (hb.drew.drew).size))
        clear hK K
        (try simp only [Act.put, List.setIfInBounds_toArray, List.set_cons_zero, List.set_cons_succ, List.getElem_toArray, List.getElem_cons_zero, List.getElem_cons_succ])
        refine wpAnyH_take (i := 11) (v := ?vm11) rfl (by kernel_rfl) (by kernel_rfl) (by kernel_rfl) (fun _ _ _ h => h) (.inl ⟨by rfl, ?hym11⟩) (by assumption) ?restm11
        case hym11 => (intro w hSw; (try dsimp only at hSw); go_simp; first | done | with_reducible rfl)
        (try simp only [Act.put, List.setIfInBounds_toArray, List.set_cons_zero, List.set_cons_succ, List.getElem_toArray, List.getElem_cons_zero, List.getElem_cons_succ])
        refine wpAnyH_done (by kernel_rfl) ?_ _
        have hbw4 := hb.drew.drew.trans (below_le hb4 hb.drew.drew.size)
        by_cases hc2 : c2 = 0
        · subst hc2
          have hvv := hcc2.1 rfl
          have hnext := Lib.hid (takes_snoc htkH.out hpaH.out hpbH.out (by rw [hsqH.out, hvv]))
          clear hcc2 hvv
          go_wp2_with fail
          go_roundw
          case rel => exact ⟨k + 1, by omega, by omega, by go_num, hnext.out, hbw4⟩
          case measure => simp [intOf]; omega
        · have hcb : (c2 != 0) = true := by simpa using hc2
          have hne := Lib.hid (show ¬ da = db from fun e => by
            have h1 := hpaH.out
            rw [e, hpbH.out] at h1
            exact hc2 (hcc2.2 (by injection h1 with h1; injection h1 with _ h1; exact h1.symm)))
          have hc2H := Lib.hid hc2
          clear hcc2 hc2
          go_wp2_with fail
          go_ret
          exact ⟨c2, rfl, ⟨fun h => absurd h hc2H.out, fun h => absurd h hne.out⟩, hbw4⟩
      · have hcb : (c != 0) = true := by simpa using hc0
        have hne := Lib.hid (show ¬ da = db from fun e => by
          have h1 := hpaH.out
          rw [e, hpbH.out] at h1
          exact hc0 (hcc.2 (by injection h1 with h1; injection h1 with h1 _; exact h1.symm)))
        have hc0H := Lib.hid hc0
        clear hcc hc0
        go_wp2_with fail
        go_ret
        exact ⟨c, rfl, ⟨fun h => absurd h hc0H.out, fun h => absurd h hne.out⟩, hb.drew⟩
    · have hend := Lib.hid (takes_eq htkH.out (by omega) (by omega) (by omega))
      by_cases h1 : k < la.length
      · have l1 : (k : Int) < (la.length : Int) := by omega
        obtain rfl : k = lb.length := by omega
        go_wp2_with fail
        refine (numbers_said _ _ _).mono ?_
        rintro e w3 ⟨c, rfl, hcc, rfl⟩
        go_wp2
        go_ret
        exact ⟨c, rfl, hcc.trans ((by omega : ((la.length : Int) = (lb.length : Int)) ↔ da.length = db.length).trans hend.out), hb⟩
      · obtain rfl : k = la.length := by omega
        go_wp2_with fail
        refine (numbers_said _ _ _).mono ?_
        rintro e w3 ⟨c, rfl, hcc, rfl⟩
        go_wp2
        go_ret
        exact ⟨c, rfl, hcc.trans ((by omega : ((la.length : Int) = (lb.length : Int)) ↔ da.length = db.length).trans hend.out), hb⟩
end Go.Proofs.Ytpcbdjfonmohaaa
