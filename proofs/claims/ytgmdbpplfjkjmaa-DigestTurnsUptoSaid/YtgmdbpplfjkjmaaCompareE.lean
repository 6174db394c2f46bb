/- tenonref01.Compare of lists, dicts, records; Order; Same. -/
import Derived.Test.YtgmdbpplfjkjmaaCompare
namespace Go.Proofs.Ytgmdbpplfjkjmaa
open Go.RowKit
set_option linter.unusedVariables false
set_option linter.unusedSimpArgs false

def CmpSaid (t : Term) : Prop := ∀ (u : Term) (cs ds : List Value) (w : World), TRep w t cs → TRep w u ds → okV (builtV t) → okV (builtV u) →
  Calls Try.prog 77 #[.agg cs.toArray, .agg ds.toArray] w (CmpEnd (cmpV (builtV t) (builtV u)) w)
theorem pick3 {R c c2 n : Int} (h : R = if c = 0 then (if c2 = 0 then n else c2) else c) : (c = 0 → c2 = 0 → n = R) ∧ (c = 0 → c2 ≠ 0 → c2 = R) ∧ (c ≠ 0 → c = R) := by
  refine ⟨fun h1 h2 => ?_, fun h1 h2 => ?_, fun h1 => ?_⟩
  · rw [if_pos h1, if_pos h2] at h; exact h.symm
  · rw [if_pos h1, if_neg h2] at h; exact h.symm
  · rw [if_neg h1] at h; exact h.symm
set_option maxRecDepth 100000 in
set_option maxHeartbeats 3200000 in
theorem fields_cmp (la lb : List (ByteArray × Term)) (ih : ∀ u ∈ la.map (·.2), CmpSaid u) (sa sb : Value) (xa xb : List Value) (w : World) (ha : AtRow w sa la.length 12 xa) (hta : EsRep w la xa) (hb0 : AtRow w sb lb.length 12 xb) (htb : EsRep w lb xb) (hok : okDs (builtEs la)) (hok' : okDs (builtEs lb)) :
    Calls Try.prog 145 #[sa, sb] w (CmpEnd (lexN (ordDs (builtEs la)) (ordDs (builtEs lb))) w) := by
  obtain ⟨aa, capa, rfl, hcapa, hmaxa, hsma, -, -, hforma⟩ := ha
  obtain ⟨ab, capb, rfl, hcapb, hmaxb, hsmb, -, -, hformb⟩ := hb0
  unfold maxLen at hmaxa hmaxb
  have hdata := Lib.hid (EsRep.at la xa hta)
  have hdatb := Lib.hid (EsRep.at lb xb htb)
  have hformaH := Lib.hid hforma
  have hformbH := Lib.hid hformb
  have ihH := Lib.hid ih
  have hokH := Lib.hid (okDs_mem _ hok)
  have hokH' := Lib.hid (okDs_mem _ hok')
  have hla : (builtEs la).length = la.length := by rw [builtEs_eq, List.length_map]
  have hlb : (builtEs lb).length = lb.length := by rw [builtEs_eq, List.length_map]
  have hka := Lib.hid (fun (k : Nat) (s : ByteArray) (t : Term) (h : la[k]? = some (s, t)) => (show (builtEs la)[k]? = some (s, builtV t) by rw [builtEs_eq, List.getElem?_map, h]; rfl))
  have hkb := Lib.hid (fun (k : Nat) (s : ByteArray) (t : Term) (h : lb[k]? = some (s, t)) => (show (builtEs lb)[k]? = some (s, builtV t) by rw [builtEs_eq, List.getElem?_map, h]; rfl))
  have hwa : IntKind.u64.wrap (la.length : Int) = (la.length : Int) := by rw [IntKind.wrap_u64]; omega
  have hwb : IntKind.u64.wrap (lb.length : Int) = (lb.length : Int) := by rw [IntKind.wrap_u64]; omega
  generalize builtEs la = da at *
  generalize builtEs lb = db at *
  obtain ⟨R, hR⟩ : ∃ R : Int, R = lexN (ordDs da) (ordDs db) := ⟨_, rfl⟩
  rw [← hR]
  have hRH := Lib.hid hR.symm
  clear hR
  clear hforma hformb hta htb ih hok hok'
  go_enter Try.func145, Try.ntmps145
  go_wp2_with fail
  go_loopw [5] (fun i wr => ∃ k : Nat, k ≤ la.length ∧ k ≤ lb.length ∧ i = .int .i64 k ∧ lexN (ordDs (da.drop k)) (ordDs (db.drop k)) = R ∧ Below w.heap.size w wr) (fun i _ => la.length - (intOf i).toNat)
  case atStart => exact ⟨0, Nat.zero_le _, Nat.zero_le _, rfl, hRH.out, Below.refl _ _⟩
  case round =>
    obtain ⟨k, hk, hk', rfl, htk, hb⟩ := hrel
    have htkH := Lib.hid htk
    clear htk
    by_cases hlt : k < la.length ∧ k < lb.length
    · have l1 : (k : Int) < (la.length : Int) := by omega
      have l2 : (k : Int) < (lb.length : Int) := by omega
      obtain ⟨ba, oa, rfl, hca⟩ := hformaH.out (by omega)
      obtain ⟨bb, ob, rfl, hcb⟩ := hformbH.out (by omega)
      obtain ⟨⟨s, ta⟩, hp⟩ : ∃ p, la[k]? = some p := ⟨_, List.getElem?_eq_getElem hlt.1⟩
      obtain ⟨⟨q, tb⟩, hq⟩ : ∃ p, lb[k]? = some p := ⟨_, List.getElem?_eq_getElem hlt.2⟩
      obtain ⟨xs, hta, -, ea, ea1⟩ := hdata.out k _ hp
      obtain ⟨ys, htb, -, eb, eb1⟩ := hdatb.out k _ hq
      have hcella : ∀ j, j < 11 → w.cell? ⟨ba, oa + k * 12 + (1 + j), none⟩ = xs[j]? := fun j hj => by
        have h1 := hca (k * 12 + (1 + j)) (by omega)
        rw [ea1 j hj, ← Nat.add_assoc] at h1
        exact h1
      have hcellb : ∀ j, j < 11 → w.cell? ⟨bb, ob + k * 12 + (1 + j), none⟩ = ys[j]? := fun j hj => by
        have h1 := hcb (k * 12 + (1 + j)) (by omega)
        rw [eb1 j hj, ← Nat.add_assoc] at h1
        exact h1
      have hna := (hca (k * 12) (by omega)).trans ea
      have hnb := (hcb (k * 12) (by omega)).trans eb
      have hpa := hka.out k s ta hp
      have hpb := hkb.out k q tb hq
      have hih0 := (fun W (hbW : Below w.heap.size w W) => ihH.out ta (List.mem_map.2 ⟨_, List.mem_of_getElem? hp, rfl⟩) tb xs ys W (TRep.keep (keeps_of_below hbW) _ _ hta) (TRep.keep (keeps_of_below hbW) _ _ htb) (hokH.out _ (List.mem_of_getElem? hpa)) (hokH'.out _ (List.mem_of_getElem? hpb)))
      obtain ⟨c, hcd⟩ : ∃ c : Int, c = lexN (ordT s.data.toList) (ordT q.data.toList) := ⟨_, rfl⟩
      obtain ⟨c2, hc2d⟩ : ∃ c : Int, c = cmpV (builtV ta) (builtV tb) := ⟨_, rfl⟩
      have hst0 := htkH.out.symm.trans (ds_step hpa hpb)
      rw [← hcd, ← hc2d] at hst0
      have hst := Lib.hid (pick3 hst0)
      clear hst0
      have htxt0 := fun W => texts_is s q W
      rw [← hcd] at htxt0
      have htxt := Lib.hid htxt0
      clear htxt0
      rw [← hc2d] at hih0
      have hih := Lib.hid hih0
      clear hih0
      clear hcd hc2d
      obtain ⟨d0, d1, d2, d3, d4, d5, d6, d7, d8, d9, d10, rfl⟩ := eleven (TRep.len hta)
      obtain ⟨f0, f1, f2, f3, f4, f5, f6, f7, f8, f9, f10, rfl⟩ := eleven (TRep.len htb)
      have p0 := hcella 0 (by omega)
      have q0 := hcellb 0 (by omega)
      have p1 := hcella 1 (by omega)
      have q1 := hcellb 1 (by omega)
      have p2 := hcella 2 (by omega)
      have q2 := hcellb 2 (by omega)
      have p3 := hcella 3 (by omega)
      have q3 := hcellb 3 (by omega)
      have p4 := hcella 4 (by omega)
      have q4 := hcellb 4 (by omega)
      have p5 := hcella 5 (by omega)
      have q5 := hcellb 5 (by omega)
      have p6 := hcella 6 (by omega)
      have q6 := hcellb 6 (by omega)
      have p7 := hcella 7 (by omega)
      have q7 := hcellb 7 (by omega)
      have p8 := hcella 8 (by omega)
      have q8 := hcellb 8 (by omega)
      have p9 := hcella 9 (by omega)
      have q9 := hcellb 9 (by omega)
      have p10 := hcella 10 (by omega)
      have q10 := hcellb 10 (by omega)
      simp only [List.getElem?_cons_zero, List.getElem?_cons_succ, Nat.reduceAdd] at p0 q0 p1 q1 p2 q2 p3 q3 p4 q4 p5 q5 p6 q6 p7 q7 p8 q8 p9 q9 p10 q10
      have hSn : ∀ w', Below w.heap.size w w' → w'.cell? ⟨ba, oa + k * 12, none⟩ = some (.string s) ∧ w'.cell? ⟨bb, ob + k * 12, none⟩ = some (.string q) := fun w' hb' => ⟨keeps_of_below hb' _ _ hna, keeps_of_below hb' _ _ hnb⟩
      have hSk : ∀ w', Below w.heap.size w w' → w'.cell? ⟨ba, oa + k * 12 + 1, none⟩ = some d0 ∧ w'.cell? ⟨ba, oa + k * 12 + 2, none⟩ = some d1 ∧ w'.cell? ⟨ba, oa + k * 12 + 3, none⟩ = some d2 ∧ w'.cell? ⟨ba, oa + k * 12 + 4, none⟩ = some d3 ∧ w'.cell? ⟨ba, oa + k * 12 + 5, none⟩ = some d4 ∧ w'.cell? ⟨ba, oa + k * 12 + 6, none⟩ = some d5 ∧ w'.cell? ⟨ba, oa + k * 12 + 7, none⟩ = some d6 ∧ w'.cell? ⟨ba, oa + k * 12 + 8, none⟩ = some d7 ∧ w'.cell? ⟨ba, oa + k * 12 + 9, none⟩ = some d8 ∧ w'.cell? ⟨ba, oa + k * 12 + 10, none⟩ = some d9 ∧ w'.cell? ⟨ba, oa + k * 12 + 11, none⟩ = some d10 ∧ w'.cell? ⟨bb, ob + k * 12 + 1, none⟩ = some f0 ∧ w'.cell? ⟨bb, ob + k * 12 + 2, none⟩ = some f1 ∧ w'.cell? ⟨bb, ob + k * 12 + 3, none⟩ = some f2 ∧ w'.cell? ⟨bb, ob + k * 12 + 4, none⟩ = some f3 ∧ w'.cell? ⟨bb, ob + k * 12 + 5, none⟩ = some f4 ∧ w'.cell? ⟨bb, ob + k * 12 + 6, none⟩ = some f5 ∧ w'.cell? ⟨bb, ob + k * 12 + 7, none⟩ = some f6 ∧ w'.cell? ⟨bb, ob + k * 12 + 8, none⟩ = some f7 ∧ w'.cell? ⟨bb, ob + k * 12 + 9, none⟩ = some f8 ∧ w'.cell? ⟨bb, ob + k * 12 + 10, none⟩ = some f9 ∧ w'.cell? ⟨bb, ob + k * 12 + 11, none⟩ = some f10 := fun w' hb' => ⟨keeps_of_below hb' _ _ p0, keeps_of_below hb' _ _ p1, keeps_of_below hb' _ _ p2, keeps_of_below hb' _ _ p3, keeps_of_below hb' _ _ p4, keeps_of_below hb' _ _ p5, keeps_of_below hb' _ _ p6, keeps_of_below hb' _ _ p7, keeps_of_below hb' _ _ p8, keeps_of_below hb' _ _ p9, keeps_of_below hb' _ _ p10, keeps_of_below hb' _ _ q0, keeps_of_below hb' _ _ q1, keeps_of_below hb' _ _ q2, keeps_of_below hb' _ _ q3, keeps_of_below hb' _ _ q4, keeps_of_below hb' _ _ q5, keeps_of_below hb' _ _ q6, keeps_of_below hb' _ _ q7, keeps_of_below hb' _ _ q8, keeps_of_below hb' _ _ q9, keeps_of_below hb' _ _ q10⟩
      clear hcella hcellb ea ea1 eb eb1 hca hcb hna hnb hpa hpb hta htb hp hq p0 q0 p1 q1 p2 q2 p3 q3 p4 q4 p5 q5 p6 q6 p7 q7 p8 q8 p9 q9 p10 q10
      go_wp2_with fail
      refine wp_region_held_drew (S := (fun w' => w'.cell? ⟨ba, oa + k * 12, none⟩ = some (.string s) ∧ w'.cell? ⟨bb, ob + k * 12, none⟩ = some (.string q))) (by kernel_rfl) ?_ (fun hHeld => ?_)
      · exact hSn _ hb.drew
      refine wpAnyH_take (i := 0) (v := ?vn0) rfl (by kernel_rfl) (by kernel_rfl) (by kernel_rfl) (fun _ _ _ h => h) (.inl ⟨by rfl, ?hyn0⟩) (by assumption) ?restn0
      case hyn0 => (intro w hSw; (try dsimp only at hSw); go_simp; first | done | with_reducible rfl)
      (try simp only [Act.put, pu1, pu2, pu3, pu4, pu5, pu6])
      refine wpAnyH_take (i := 1) (v := ?vn1) rfl (by kernel_rfl) (by kernel_rfl) (by kernel_rfl) (fun _ _ _ h => h) (.inl ⟨by rfl, ?hyn1⟩) (by assumption) ?restn1
      case hyn1 => (intro w hSw; (try dsimp only at hSw); go_simp; first | done | with_reducible rfl)
      (try simp only [Act.put, pu1, pu2, pu3, pu4, pu5, pu6])
      refine wpAnyH_take (i := 2) (v := ?vn2) rfl (by kernel_rfl) (by kernel_rfl) (by kernel_rfl) (fun _ _ _ h => h) (.inl ⟨by rfl, ?hyn2⟩) (by assumption) ?restn2
      case hyn2 => (intro w hSw; (try dsimp only at hSw); go_simp; first | done | with_reducible rfl)
      (try simp only [Act.put, pu1, pu2, pu3, pu4, pu5, pu6])
      refine wpAnyH_take (i := 3) (v := ?vn3) rfl (by kernel_rfl) (by kernel_rfl) (by kernel_rfl) (fun _ _ _ h => h) (.inl ⟨by rfl, ?hyn3⟩) (by assumption) ?restn3
      case hyn3 => (intro w hSw; (try dsimp only at hSw); go_simp; first | done | with_reducible rfl)
      (try simp only [Act.put, pu1, pu2, pu3, pu4, pu5, pu6])
      refine wpAnyH_take (i := 4) (v := ?vn4) rfl (by kernel_rfl) (by kernel_rfl) (by kernel_rfl) (fun _ _ _ h => h) (.inl ⟨by rfl, ?hyn4⟩) (by assumption) ?restn4
      case hyn4 => (intro w hSw; (try dsimp only at hSw); go_simp; first | done | with_reducible rfl)
      (try simp only [Act.put, pu1, pu2, pu3, pu4, pu5, pu6])
      refine wpAnyH_take (i := 5) (v := ?vn5) rfl (by kernel_rfl) (by kernel_rfl) (by kernel_rfl) (fun _ _ _ h => h) (.inl ⟨by rfl, ?hyn5⟩) (by assumption) ?restn5
      case hyn5 => (intro w hSw; (try dsimp only at hSw); go_simp; first | done | with_reducible rfl)
      (try simp only [Act.put, pu1, pu2, pu3, pu4, pu5, pu6])
      refine wpAnyH_take (i := 6) (v := ?vn6) rfl (by kernel_rfl) (by kernel_rfl) (by kernel_rfl) (fun _ _ _ h => h) (.inl ⟨by rfl, ?hyn6⟩) (by assumption) ?restn6
      case hyn6 => (intro w hSw; (try dsimp only at hSw); go_simp; first | done | with_reducible rfl)
      (try simp only [Act.put, pu1, pu2, pu3, pu4, pu5, pu6])
      refine wpAnyH_take (i := 7) (v := ?vn7) rfl (by kernel_rfl) (by kernel_rfl) (by kernel_rfl) (fun _ _ _ h => h) (.inl ⟨by rfl, ?hyn7⟩) (by assumption) ?restn7
      case hyn7 => (intro w hSw; (try dsimp only at hSw); go_simp; first | done | with_reducible rfl)
      (try simp only [Act.put, pu1, pu2, pu3, pu4, pu5, pu6])
      refine wpAnyH_take (i := 8) (v := ?vn8) rfl (by kernel_rfl) (by kernel_rfl) (by kernel_rfl) (fun _ _ _ h => h) (.inl ⟨by rfl, ?hyn8⟩) (by assumption) ?restn8
      case hyn8 => (intro w hSw; (try dsimp only at hSw); go_simp; first | done | with_reducible rfl)
      (try simp only [Act.put, pu1, pu2, pu3, pu4, pu5, pu6])
      refine wpAnyH_take (i := 9) (v := ?vn9) rfl (by kernel_rfl) (by kernel_rfl) (by kernel_rfl) (fun _ _ _ h => h) (.inl ⟨by rfl, ?hyn9⟩) (by assumption) ?restn9
      case hyn9 => (intro w hSw; (try dsimp only at hSw); go_simp; first | done | with_reducible rfl)
      (try simp only [Act.put, pu1, pu2, pu3, pu4, pu5, pu6])
      refine wpAnyH_ready (rs := [10]) (by kernel_rfl) (by simp) ?_
      refine AllReadyH.cons rfl (fun K hK => ?_) AllReadyH.nil
      rw [if_pos (by rfl)]
      go_simp
      refine (htxt.out _).mono ?_
      rintro e w3 ⟨rfl, rfl⟩
      refine hK.out _ _ ?_ (fun hHeld2 => ?_)
      · exact hSn _ hb.drew
      clear hK K
      (try simp only [Act.put, pu1, pu2, pu3, pu4, pu5, pu6])
      refine wpAnyH_take (i := 11) (v := ?vn11) rfl (by kernel_rfl) (by kernel_rfl) (by kernel_rfl) (fun _ _ _ h => h) (.inl ⟨by rfl, ?hyn11⟩) (by assumption) ?restn11
      case hyn11 => (intro w hSw; (try dsimp only at hSw); go_simp; first | done | with_reducible rfl)
      (try simp only [Act.put, pu1, pu2, pu3, pu4, pu5, pu6])
      refine wpAnyH_done (by kernel_rfl) ?_ _
      by_cases hc0 : c = 0
      · have hst1 := Lib.hid (fun h => hst.out.1 hc0 h)
        have hst2 := Lib.hid (fun h => hst.out.2.1 hc0 h)
        clear hst
        subst hc0
        go_wp2_with fail
        refine wp_region_held_drew (S := (fun w' => w'.cell? ⟨ba, oa + k * 12 + 1, none⟩ = some d0 ∧ w'.cell? ⟨ba, oa + k * 12 + 2, none⟩ = some d1 ∧ w'.cell? ⟨ba, oa + k * 12 + 3, none⟩ = some d2 ∧ w'.cell? ⟨ba, oa + k * 12 + 4, none⟩ = some d3 ∧ w'.cell? ⟨ba, oa + k * 12 + 5, none⟩ = some d4 ∧ w'.cell? ⟨ba, oa + k * 12 + 6, none⟩ = some d5 ∧ w'.cell? ⟨ba, oa + k * 12 + 7, none⟩ = some d6 ∧ w'.cell? ⟨ba, oa + k * 12 + 8, none⟩ = some d7 ∧ w'.cell? ⟨ba, oa + k * 12 + 9, none⟩ = some d8 ∧ w'.cell? ⟨ba, oa + k * 12 + 10, none⟩ = some d9 ∧ w'.cell? ⟨ba, oa + k * 12 + 11, none⟩ = some d10 ∧ w'.cell? ⟨bb, ob + k * 12 + 1, none⟩ = some f0 ∧ w'.cell? ⟨bb, ob + k * 12 + 2, none⟩ = some f1 ∧ w'.cell? ⟨bb, ob + k * 12 + 3, none⟩ = some f2 ∧ w'.cell? ⟨bb, ob + k * 12 + 4, none⟩ = some f3 ∧ w'.cell? ⟨bb, ob + k * 12 + 5, none⟩ = some f4 ∧ w'.cell? ⟨bb, ob + k * 12 + 6, none⟩ = some f5 ∧ w'.cell? ⟨bb, ob + k * 12 + 7, none⟩ = some f6 ∧ w'.cell? ⟨bb, ob + k * 12 + 8, none⟩ = some f7 ∧ w'.cell? ⟨bb, ob + k * 12 + 9, none⟩ = some f8 ∧ w'.cell? ⟨bb, ob + k * 12 + 10, none⟩ = some f9 ∧ w'.cell? ⟨bb, ob + k * 12 + 11, none⟩ = some f10)) (by kernel_rfl) ?_ (fun hHeld => ?_)
        · exact hSk _ (hb.drew.drew)
        refine wpAnyH_take (i := 0) (v := ?vm0) rfl (by kernel_rfl) (by kernel_rfl) (by kernel_rfl) (fun _ _ _ h => h) (.inl ⟨by rfl, ?hym0⟩) (by assumption) ?restm0
        case hym0 => (intro w hSw; (try dsimp only at hSw); go_simp; first | done | with_reducible rfl)
        (try simp only [Act.put, pu1, pu2, pu3, pu4, pu5, pu6])
        refine wpAnyH_take (i := 1) (v := ?vm1) rfl (by kernel_rfl) (by kernel_rfl) (by kernel_rfl) (fun _ _ _ h => h) (.inl ⟨by rfl, ?hym1⟩) (by assumption) ?restm1
        case hym1 => (intro w hSw; (try dsimp only at hSw); go_simp; first | done | with_reducible rfl)
        (try simp only [Act.put, pu1, pu2, pu3, pu4, pu5, pu6])
        refine wpAnyH_take (i := 2) (v := ?vm2) rfl (by kernel_rfl) (by kernel_rfl) (by kernel_rfl) (fun _ _ _ h => h) (.inl ⟨by rfl, ?hym2⟩) (by assumption) ?restm2
        case hym2 => (intro w hSw; (try dsimp only at hSw); go_simp; first | done | with_reducible rfl)
        (try simp only [Act.put, pu1, pu2, pu3, pu4, pu5, pu6])
        refine wpAnyH_take (i := 3) (v := ?vm3) rfl (by kernel_rfl) (by kernel_rfl) (by kernel_rfl) (fun _ _ _ h => h) (.inl ⟨by rfl, ?hym3⟩) (by assumption) ?restm3
        case hym3 => (intro w hSw; (try dsimp only at hSw); go_simp; first | done | with_reducible rfl)
        (try simp only [Act.put, pu1, pu2, pu3, pu4, pu5, pu6])
        refine wpAnyH_take (i := 4) (v := ?vm4) rfl (by kernel_rfl) (by kernel_rfl) (by kernel_rfl) (fun _ _ _ h => h) (.inl ⟨by rfl, ?hym4⟩) (by assumption) ?restm4
        case hym4 => (intro w hSw; (try dsimp only at hSw); go_simp; first | done | with_reducible rfl)
        (try simp only [Act.put, pu1, pu2, pu3, pu4, pu5, pu6])
        refine wpAnyH_take (i := 5) (v := ?vm5) rfl (by kernel_rfl) (by kernel_rfl) (by kernel_rfl) (fun _ _ _ h => h) (.inl ⟨by rfl, ?hym5⟩) (by assumption) ?restm5
        case hym5 => (intro w hSw; (try dsimp only at hSw); go_simp; first | done | with_reducible rfl)
        (try simp only [Act.put, pu1, pu2, pu3, pu4, pu5, pu6])
        refine wpAnyH_take (i := 6) (v := ?vm6) rfl (by kernel_rfl) (by kernel_rfl) (by kernel_rfl) (fun _ _ _ h => h) (.inl ⟨by rfl, ?hym6⟩) (by assumption) ?restm6
        case hym6 => (intro w hSw; (try dsimp only at hSw); go_simp; first | done | with_reducible rfl)
        (try simp only [Act.put, pu1, pu2, pu3, pu4, pu5, pu6])
        refine wpAnyH_take (i := 7) (v := ?vm7) rfl (by kernel_rfl) (by kernel_rfl) (by kernel_rfl) (fun _ _ _ h => h) (.inl ⟨by rfl, ?hym7⟩) (by assumption) ?restm7
        case hym7 => (intro w hSw; (try dsimp only at hSw); go_simp; first | done | with_reducible rfl)
        (try simp only [Act.put, pu1, pu2, pu3, pu4, pu5, pu6])
        refine wpAnyH_take (i := 8) (v := ?vm8) rfl (by kernel_rfl) (by kernel_rfl) (by kernel_rfl) (fun _ _ _ h => h) (.inl ⟨by rfl, ?hym8⟩) (by assumption) ?restm8
        case hym8 => (intro w hSw; (try dsimp only at hSw); go_simp; first | done | with_reducible rfl)
        (try simp only [Act.put, pu1, pu2, pu3, pu4, pu5, pu6])
        refine wpAnyH_take (i := 9) (v := ?vm9) rfl (by kernel_rfl) (by kernel_rfl) (by kernel_rfl) (fun _ _ _ h => h) (.inl ⟨by rfl, ?hym9⟩) (by assumption) ?restm9
        case hym9 => (intro w hSw; (try dsimp only at hSw); go_simp; first | done | with_reducible rfl)
        (try simp only [Act.put, pu1, pu2, pu3, pu4, pu5, pu6])
        refine wpAnyH_ready (rs := [10]) (by kernel_rfl) (by simp) ?_
        refine AllReadyH.cons rfl (fun K hK => ?_) AllReadyH.nil
        rw [if_pos (by rfl)]
        go_simp
        refine (hih.out _ (hb.drew.drew)).mono ?_
        rintro e w4 ⟨rfl, hb4⟩
        refine hK.out _ _ ?_ (fun hHeld2 => ?_)
        · exact hSk _ ((hb.drew.drew).trans (below_le hb4 (hb.drew.drew).size))
        clear hK K
        (try simp only [Act.put, pu1, pu2, pu3, pu4, pu5, pu6])
        refine wpAnyH_take (i := 11) (v := ?vm11) rfl (by kernel_rfl) (by kernel_rfl) (by kernel_rfl) (fun _ _ _ h => h) (.inl ⟨by rfl, ?hym11⟩) (by assumption) ?restm11
        case hym11 => (intro w hSw; (try dsimp only at hSw); go_simp; first | done | with_reducible rfl)
        (try simp only [Act.put, pu1, pu2, pu3, pu4, pu5, pu6])
        refine wpAnyH_done (by kernel_rfl) ?_ _
        have hbw4 := hb.drew.drew.trans (below_le hb4 hb.drew.drew.size)
        by_cases hc2 : c2 = 0
        · have hnext := Lib.hid (hst1.out hc2)
          subst hc2
          go_wp2_with fail
          go_roundw
          case rel => exact ⟨k + 1, by omega, by omega, by go_num, hnext.out, hbw4⟩
          case measure => simp [intOf]; omega
        · have hcb : (c2 != 0) = true := by simpa using hc2
          have hne := Lib.hid (hst2.out hc2)
          clear hc2
          go_wp2_with fail
          go_ret
          exact ⟨ret_int hne.out, hbw4⟩
      · have hcb : (c != 0) = true := by simpa using hc0
        have hne := Lib.hid (hst.out.2.2 hc0)
        clear hc0
        go_wp2_with fail
        go_ret
        exact ⟨ret_int hne.out, hb.drew⟩
    · have hend := Lib.hid (htkH.out.symm.trans (ds_end (by omega) (by omega) (by omega)))
      rw [hla, hlb] at hend
      by_cases h1 : k < la.length
      · have l1 : (k : Int) < (la.length : Int) := by omega
        obtain rfl : k = lb.length := by omega
        go_wp2_with fail
        refine (numbers_said _ _ _).mono ?_
        rintro e w3 ⟨rfl, rfl⟩
        go_wp2
        go_ret
        exact ⟨ret_int hend.out.symm, hb⟩
      · obtain rfl : k = la.length := by omega
        go_wp2_with fail
        refine (numbers_said _ _ _).mono ?_
        rintro e w3 ⟨rfl, rfl⟩
        go_wp2
        go_ret
        exact ⟨ret_int hend.out.symm, hb⟩
end Go.Proofs.Ytgmdbpplfjkjmaa

/-! tenonref01.Compare of lists, dicts, records, of any term; Order; Same. -/
namespace Go.Proofs.Ytgmdbpplfjkjmaa
open Go.RowKit
set_option linter.unusedVariables false
set_option linter.unusedSimpArgs false

section
variable (b b' : Bool) (n n' : Int) (fl fl' : Nat) (tx tx' : ByteArray) (bs bs' : List UInt8) (rf rf' : Int) (ls ls' : List Term) (es es' : List (ByteArray × Term)) (cl cl' : ByteArray) (ver ver' : Int)

set_option maxRecDepth 100000 in
set_option maxHeartbeats 1600000 in
theorem cmp_list (ih : ∀ u ∈ ls, CmpSaid u) (cs ds : List Value) (w : World) (h : TRep w (.mk 8 b n fl tx bs rf ls es cl ver) cs) (h' : TRep w (.mk 8 b' n' fl' tx' bs' rf' ls' es' cl' ver') ds) (hok : okV (builtV (.mk 8 b n fl tx bs rf ls es cl ver))) (hok' : okV (builtV (.mk 8 b' n' fl' tx' bs' rf' ls' es' cl' ver'))) :
    Calls Try.prog 77 #[.agg cs.toArray, .agg ds.toArray] w (CmpEnd (cmpV (builtV (.mk 8 b n fl tx bs rf ls es cl ver)) (builtV (.mk 8 b' n' fl' tx' bs' rf' ls' es' cl' ver'))) w) := by
  simp only [TRep] at h h'
  obtain ⟨sb, sl, se, xl, xe, rfl, ⟨hk, hn, hf, ht, hr, hc, hv⟩, hrb, hrl, htl, hre, hte⟩ := h
  obtain ⟨sb', sl', se', xl', xe', rfl, ⟨hk', hn', hf', ht', hr', hc', hv'⟩, hrb', hrl', htl', hre', hte'⟩ := h'
  have hrbH := Lib.hid hrb
  have hrlH := Lib.hid hrl
  have hreH := Lib.hid hre
  have hrbH' := Lib.hid hrb'
  have hrlH' := Lib.hid hrl'
  have hreH' := Lib.hid hre'
  have htlH := Lib.hid htl
  have htlH' := Lib.hid htl'
  have hteH := Lib.hid hte
  have hteH' := Lib.hid hte'
  obtain ⟨ob, ocb, rfl, -⟩ := hrb
  obtain ⟨ol, ocl, rfl, -⟩ := hrl
  obtain ⟨oe, oce, rfl, -⟩ := hre
  obtain ⟨ob', ocb', rfl, -⟩ := hrb'
  obtain ⟨ol', ocl', rfl, -⟩ := hrl'
  obtain ⟨oe', oce', rfl, -⟩ := hre'
  have hb2 : Below w.heap.size w ((w.alloc (.cells #[.int .i64 8, .bool b, .int .i64 n, .float .f64 fl, .string tx, .slice ob bs.length ocb, .int .u64 rf, .slice ol ls.length ocl, .slice oe es.length oce, .string cl, .int .i64 ver] 31)).alloc (.cells #[.int .i64 8, .bool b', .int .i64 n', .float .f64 fl', .string tx', .slice ob' bs'.length ocb', .int .u64 rf', .slice ol' ls'.length ocl', .slice oe' es'.length oce', .string cl', .int .i64 ver'] 31)) := ((Below.refl _ _).alloc (Nat.le_refl _) _).alloc (by simp) _
  have e1 : builtV (.mk 8 b n fl tx bs rf ls es cl ver) = .list (builtVs ls) := by rw [builtV]; rfl
  have e2 : builtV (.mk 8 b' n' fl' tx' bs' rf' ls' es' cl' ver') = .list (builtVs ls') := by rw [builtV]; rfl
  rw [e1] at hok ⊢
  rw [e2] at hok' ⊢
  rw [cmpV_list]
  clear e1 e2
  have hdata := Lib.hid (TsRep.at ls xl htl)
  have hdatb := Lib.hid (TsRep.at ls' xl' htl')
  have ihH := Lib.hid ih
  have hokH := Lib.hid (okVs_mem _ hok.2)
  have hokH' := Lib.hid (okVs_mem _ hok'.2)
  have hla : (builtVs ls).length = ls.length := by rw [builtVs_eq, List.length_map]
  have hlb : (builtVs ls').length = ls'.length := by rw [builtVs_eq, List.length_map]
  have hka := Lib.hid (fun (k : Nat) (t : Term) (h : ls[k]? = some t) => (show (builtVs ls)[k]? = some (builtV t) by rw [builtVs_eq, List.getElem?_map, h]; rfl))
  have hkb := Lib.hid (fun (k : Nat) (t : Term) (h : ls'[k]? = some t) => (show (builtVs ls')[k]? = some (builtV t) by rw [builtVs_eq, List.getElem?_map, h]; rfl))
  obtain ⟨oa0, cap0, e0, hcap0, hmax0, hsm0, -, -, hforma⟩ := hrlH.out
  cases e0
  obtain ⟨oa1, cap1, e0, hcap1, hmax1, hsm1, -, -, hformb⟩ := hrlH'.out
  cases e0
  unfold maxLen at hmax0 hmax1
  have hformaH := Lib.hid hforma
  have hformbH := Lib.hid hformb
  have hwa : IntKind.u64.wrap (ls.length : Int) = (ls.length : Int) := by rw [IntKind.wrap_u64]; omega
  have hwb : IntKind.u64.wrap (ls'.length : Int) = (ls'.length : Int) := by rw [IntKind.wrap_u64]; omega
  have hbA : ((w.alloc (.cells #[.int .i64 8, .bool b, .int .i64 n, .float .f64 fl, .string tx, .slice ob bs.length ocb, .int .u64 rf, .slice ol ls.length ocl, .slice oe es.length oce, .string cl, .int .i64 ver] 31)).alloc (.cells #[.int .i64 8, .bool b', .int .i64 n', .float .f64 fl', .string tx', .slice ob' bs'.length ocb', .int .u64 rf', .slice ol' ls'.length ocl', .slice oe' es'.length oce', .string cl', .int .i64 ver'] 31)).cell? ⟨w.heap.size, 7, none⟩ = some (.slice ol ls.length ocl) := by simp [go_sem]
  have hbB : ((w.alloc (.cells #[.int .i64 8, .bool b, .int .i64 n, .float .f64 fl, .string tx, .slice ob bs.length ocb, .int .u64 rf, .slice ol ls.length ocl, .slice oe es.length oce, .string cl, .int .i64 ver] 31)).alloc (.cells #[.int .i64 8, .bool b', .int .i64 n', .float .f64 fl', .string tx', .slice ob' bs'.length ocb', .int .u64 rf', .slice ol' ls'.length ocl', .slice oe' es'.length oce', .string cl', .int .i64 ver'] 31)).cell? ⟨w.heap.size + 1, 7, none⟩ = some (.slice ol' ls'.length ocl') := by simp [go_sem]
  have hAH := Lib.hid hbA
  have hBH := Lib.hid hbB
  have hsz2 : ((w.alloc (.cells #[.int .i64 8, .bool b, .int .i64 n, .float .f64 fl, .string tx, .slice ob bs.length ocb, .int .u64 rf, .slice ol ls.length ocl, .slice oe es.length oce, .string cl, .int .i64 ver] 31)).alloc (.cells #[.int .i64 8, .bool b', .int .i64 n', .float .f64 fl', .string tx', .slice ob' bs'.length ocb', .int .u64 rf', .slice ol' ls'.length ocl', .slice oe' es'.length oce', .string cl', .int .i64 ver'] 31)).heap.size = w.heap.size + 2 := by simp
  have hsz2H := Lib.hid hsz2
  have hb20 := Lib.hid hb2
  generalize builtVs ls = da at *
  generalize builtVs ls' = db at *
  obtain ⟨R, hR⟩ : ∃ R : Int, R = lexN (ordVs da) (ordVs db) := ⟨_, rfl⟩
  rw [← hR]
  have hRH := Lib.hid hR.symm
  clear hR
  clear ih hok hok' hforma hformb hbA hbB hsz2
  clear htl hte htl' hte'
  go_enter Try.func77, Try.ntmps77
  go_wp2_with fail
  go_loopw [5] (fun i wr => ∃ k : Nat, k ≤ ls.length ∧ k ≤ ls'.length ∧ i = .int .i64 k ∧ lexN (ordVs (da.drop k)) (ordVs (db.drop k)) = R ∧ Below (w.heap.size + 2) ((w.alloc (.cells #[.int .i64 8, .bool b, .int .i64 n, .float .f64 fl, .string tx, .slice ob bs.length ocb, .int .u64 rf, .slice ol ls.length ocl, .slice oe es.length oce, .string cl, .int .i64 ver] 31)).alloc (.cells #[.int .i64 8, .bool b', .int .i64 n', .float .f64 fl', .string tx', .slice ob' bs'.length ocb', .int .u64 rf', .slice ol' ls'.length ocl', .slice oe' es'.length oce', .string cl', .int .i64 ver'] 31)) wr) (fun i _ => ls.length - (intOf i).toNat)
  case atStart => exact ⟨0, Nat.zero_le _, Nat.zero_le _, rfl, hRH.out, Below.refl _ _⟩
  case round =>
    obtain ⟨k, hk, hk', rfl, htk, hb0⟩ := hrel
    have htkH := Lib.hid htk
    have rA := (hb0.cell (p := ⟨w.heap.size, 7, none⟩) (by show w.heap.size < w.heap.size + 2; omega)).trans hAH.out
    have rB := (hb0.cell (p := ⟨w.heap.size + 1, 7, none⟩) (by show w.heap.size + 1 < w.heap.size + 2; omega)).trans hBH.out
    have hszr : w.heap.size + 2 ≤ wr.heap.size := by have := hb0.size; rw [hsz2H.out] at this; exact this
    have hbw : Below w.heap.size w wr := hb20.out.trans (below_le hb0 (by omega))
    have hb0H := Lib.hid hb0
    clear htk hb0
    by_cases hlt : k < ls.length ∧ k < ls'.length
    · have l1 : (k : Int) < (ls.length : Int) := by omega
      have l2 : (k : Int) < (ls'.length : Int) := by omega
      obtain ⟨ga, oa, rfl, hca⟩ := hformaH.out (by omega)
      obtain ⟨gb, ob, rfl, hcb⟩ := hformbH.out (by omega)
      obtain ⟨ta, hp⟩ : ∃ p, ls[k]? = some p := ⟨_, List.getElem?_eq_getElem hlt.1⟩
      obtain ⟨tb, hq⟩ : ∃ p, ls'[k]? = some p := ⟨_, List.getElem?_eq_getElem hlt.2⟩
      obtain ⟨xs, hta, ea1⟩ := hdata.out k _ hp
      obtain ⟨ys, htb, eb1⟩ := hdatb.out k _ hq
      have hcella : ∀ j, j < 11 → w.cell? ⟨ga, oa + k * 11 + j, none⟩ = xs[j]? := fun j hj => by
        have h1 := hca (k * 11 + j) (by omega)
        rw [ea1 j hj, ← Nat.add_assoc] at h1
        exact h1
      have hcellb : ∀ j, j < 11 → w.cell? ⟨gb, ob + k * 11 + j, none⟩ = ys[j]? := fun j hj => by
        have h1 := hcb (k * 11 + j) (by omega)
        rw [eb1 j hj, ← Nat.add_assoc] at h1
        exact h1
      have hpa := hka.out k ta hp
      have hpb := hkb.out k tb hq
      have hb : Below wr.heap.size wr wr := Below.refl _ _
      have hih0 := (fun W (hbW : Below wr.heap.size wr W) => ihH.out ta (List.mem_of_getElem? hp) tb xs ys W (TRep.keep (keeps_of_below (hbw.trans (below_le hbW hbw.size))) _ _ hta) (TRep.keep (keeps_of_below (hbw.trans (below_le hbW hbw.size))) _ _ htb) (hokH.out _ (List.mem_of_getElem? hpa)) (hokH'.out _ (List.mem_of_getElem? hpb)))
      obtain ⟨c2, hc2d⟩ : ∃ c : Int, c = cmpV (builtV ta) (builtV tb) := ⟨_, rfl⟩
      have hst0 := htkH.out.symm.trans (vs_step hpa hpb)
      rw [← hc2d] at hst0 hih0
      have hst := Lib.hid hst0
      have hih := Lib.hid hih0
      clear hst0 hih0 hc2d
      obtain ⟨d0, d1, d2, d3, d4, d5, d6, d7, d8, d9, d10, rfl⟩ := eleven (TRep.len hta)
      obtain ⟨f0, f1, f2, f3, f4, f5, f6, f7, f8, f9, f10, rfl⟩ := eleven (TRep.len htb)
      have p0 := hcella 0 (by omega)
      have q0 := hcellb 0 (by omega)
      have p1 := hcella 1 (by omega)
      have q1 := hcellb 1 (by omega)
      have p2 := hcella 2 (by omega)
      have q2 := hcellb 2 (by omega)
      have p3 := hcella 3 (by omega)
      have q3 := hcellb 3 (by omega)
      have p4 := hcella 4 (by omega)
      have q4 := hcellb 4 (by omega)
      have p5 := hcella 5 (by omega)
      have q5 := hcellb 5 (by omega)
      have p6 := hcella 6 (by omega)
      have q6 := hcellb 6 (by omega)
      have p7 := hcella 7 (by omega)
      have q7 := hcellb 7 (by omega)
      have p8 := hcella 8 (by omega)
      have q8 := hcellb 8 (by omega)
      have p9 := hcella 9 (by omega)
      have q9 := hcellb 9 (by omega)
      have p10 := hcella 10 (by omega)
      have q10 := hcellb 10 (by omega)
      simp only [List.getElem?_cons_zero, List.getElem?_cons_succ, Nat.add_zero] at p0 q0 p1 q1 p2 q2 p3 q3 p4 q4 p5 q5 p6 q6 p7 q7 p8 q8 p9 q9 p10 q10
      have hSk : ∀ w', Below wr.heap.size wr w' → w'.cell? ⟨w.heap.size, 7, none⟩ = some (.slice (some ⟨ga, oa, none⟩) ls.length ocl) ∧ w'.cell? ⟨w.heap.size + 1, 7, none⟩ = some (.slice (some ⟨gb, ob, none⟩) ls'.length ocl') ∧ w'.cell? ⟨ga, oa + k * 11, none⟩ = some d0 ∧ w'.cell? ⟨ga, oa + k * 11 + 1, none⟩ = some d1 ∧ w'.cell? ⟨ga, oa + k * 11 + 2, none⟩ = some d2 ∧ w'.cell? ⟨ga, oa + k * 11 + 3, none⟩ = some d3 ∧ w'.cell? ⟨ga, oa + k * 11 + 4, none⟩ = some d4 ∧ w'.cell? ⟨ga, oa + k * 11 + 5, none⟩ = some d5 ∧ w'.cell? ⟨ga, oa + k * 11 + 6, none⟩ = some d6 ∧ w'.cell? ⟨ga, oa + k * 11 + 7, none⟩ = some d7 ∧ w'.cell? ⟨ga, oa + k * 11 + 8, none⟩ = some d8 ∧ w'.cell? ⟨ga, oa + k * 11 + 9, none⟩ = some d9 ∧ w'.cell? ⟨ga, oa + k * 11 + 10, none⟩ = some d10 ∧ w'.cell? ⟨gb, ob + k * 11, none⟩ = some f0 ∧ w'.cell? ⟨gb, ob + k * 11 + 1, none⟩ = some f1 ∧ w'.cell? ⟨gb, ob + k * 11 + 2, none⟩ = some f2 ∧ w'.cell? ⟨gb, ob + k * 11 + 3, none⟩ = some f3 ∧ w'.cell? ⟨gb, ob + k * 11 + 4, none⟩ = some f4 ∧ w'.cell? ⟨gb, ob + k * 11 + 5, none⟩ = some f5 ∧ w'.cell? ⟨gb, ob + k * 11 + 6, none⟩ = some f6 ∧ w'.cell? ⟨gb, ob + k * 11 + 7, none⟩ = some f7 ∧ w'.cell? ⟨gb, ob + k * 11 + 8, none⟩ = some f8 ∧ w'.cell? ⟨gb, ob + k * 11 + 9, none⟩ = some f9 ∧ w'.cell? ⟨gb, ob + k * 11 + 10, none⟩ = some f10 := fun w' hb' => ⟨keeps_of_below hb' _ _ rA, keeps_of_below hb' _ _ rB, keeps_of_below hb' _ _ (keeps_of_below hbw _ _ p0), keeps_of_below hb' _ _ (keeps_of_below hbw _ _ p1), keeps_of_below hb' _ _ (keeps_of_below hbw _ _ p2), keeps_of_below hb' _ _ (keeps_of_below hbw _ _ p3), keeps_of_below hb' _ _ (keeps_of_below hbw _ _ p4), keeps_of_below hb' _ _ (keeps_of_below hbw _ _ p5), keeps_of_below hb' _ _ (keeps_of_below hbw _ _ p6), keeps_of_below hb' _ _ (keeps_of_below hbw _ _ p7), keeps_of_below hb' _ _ (keeps_of_below hbw _ _ p8), keeps_of_below hb' _ _ (keeps_of_below hbw _ _ p9), keeps_of_below hb' _ _ (keeps_of_below hbw _ _ p10), keeps_of_below hb' _ _ (keeps_of_below hbw _ _ q0), keeps_of_below hb' _ _ (keeps_of_below hbw _ _ q1), keeps_of_below hb' _ _ (keeps_of_below hbw _ _ q2), keeps_of_below hb' _ _ (keeps_of_below hbw _ _ q3), keeps_of_below hb' _ _ (keeps_of_below hbw _ _ q4), keeps_of_below hb' _ _ (keeps_of_below hbw _ _ q5), keeps_of_below hb' _ _ (keeps_of_below hbw _ _ q6), keeps_of_below hb' _ _ (keeps_of_below hbw _ _ q7), keeps_of_below hb' _ _ (keeps_of_below hbw _ _ q8), keeps_of_below hb' _ _ (keeps_of_below hbw _ _ q9), keeps_of_below hb' _ _ (keeps_of_below hbw _ _ q10)⟩
      clear hcella hcellb ea1 eb1 hca hcb hpa hpb hta htb hp hq p0 q0 p1 q1 p2 q2 p3 q3 p4 q4 p5 q5 p6 q6 p7 q7 p8 q8 p9 q9 p10 q10
      go_wp2_with fail
      refine wp_region_held_drew (S := (fun w' => w'.cell? ⟨w.heap.size, 7, none⟩ = some (.slice (some ⟨ga, oa, none⟩) ls.length ocl) ∧ w'.cell? ⟨w.heap.size + 1, 7, none⟩ = some (.slice (some ⟨gb, ob, none⟩) ls'.length ocl') ∧ w'.cell? ⟨ga, oa + k * 11, none⟩ = some d0 ∧ w'.cell? ⟨ga, oa + k * 11 + 1, none⟩ = some d1 ∧ w'.cell? ⟨ga, oa + k * 11 + 2, none⟩ = some d2 ∧ w'.cell? ⟨ga, oa + k * 11 + 3, none⟩ = some d3 ∧ w'.cell? ⟨ga, oa + k * 11 + 4, none⟩ = some d4 ∧ w'.cell? ⟨ga, oa + k * 11 + 5, none⟩ = some d5 ∧ w'.cell? ⟨ga, oa + k * 11 + 6, none⟩ = some d6 ∧ w'.cell? ⟨ga, oa + k * 11 + 7, none⟩ = some d7 ∧ w'.cell? ⟨ga, oa + k * 11 + 8, none⟩ = some d8 ∧ w'.cell? ⟨ga, oa + k * 11 + 9, none⟩ = some d9 ∧ w'.cell? ⟨ga, oa + k * 11 + 10, none⟩ = some d10 ∧ w'.cell? ⟨gb, ob + k * 11, none⟩ = some f0 ∧ w'.cell? ⟨gb, ob + k * 11 + 1, none⟩ = some f1 ∧ w'.cell? ⟨gb, ob + k * 11 + 2, none⟩ = some f2 ∧ w'.cell? ⟨gb, ob + k * 11 + 3, none⟩ = some f3 ∧ w'.cell? ⟨gb, ob + k * 11 + 4, none⟩ = some f4 ∧ w'.cell? ⟨gb, ob + k * 11 + 5, none⟩ = some f5 ∧ w'.cell? ⟨gb, ob + k * 11 + 6, none⟩ = some f6 ∧ w'.cell? ⟨gb, ob + k * 11 + 7, none⟩ = some f7 ∧ w'.cell? ⟨gb, ob + k * 11 + 8, none⟩ = some f8 ∧ w'.cell? ⟨gb, ob + k * 11 + 9, none⟩ = some f9 ∧ w'.cell? ⟨gb, ob + k * 11 + 10, none⟩ = some f10)) (by kernel_rfl) ?_ (fun hHeld => ?_)
      · exact hSk _ hb.drew
      refine wpAnyH_take (i := 0) (v := ?vm0) rfl (by kernel_rfl) (by kernel_rfl) (by kernel_rfl) (fun _ _ _ h => h) (.inl ⟨by rfl, ?hym0⟩) (by assumption) ?restm0
      case hym0 => (intro w hSw; (try dsimp only at hSw); go_simp; first | done | with_reducible rfl)
      (try simp only [Act.put, pu1, pu2, pu3, pu4, pu5, pu6])
      refine wpAnyH_take (i := 1) (v := ?vm1) rfl (by kernel_rfl) (by kernel_rfl) (by kernel_rfl) (fun _ _ _ h => h) (.inl ⟨by rfl, ?hym1⟩) (by assumption) ?restm1
      case hym1 => (intro w hSw; (try dsimp only at hSw); go_simp; first | done | with_reducible rfl)
      (try simp only [Act.put, pu1, pu2, pu3, pu4, pu5, pu6])
      refine wpAnyH_take (i := 2) (v := ?vm2) rfl (by kernel_rfl) (by kernel_rfl) (by kernel_rfl) (fun _ _ _ h => h) (.inl ⟨by rfl, ?hym2⟩) (by assumption) ?restm2
      case hym2 => (intro w hSw; (try dsimp only at hSw); go_simp; first | done | with_reducible rfl)
      (try simp only [Act.put, pu1, pu2, pu3, pu4, pu5, pu6])
      refine wpAnyH_take (i := 3) (v := ?vm3) rfl (by kernel_rfl) (by kernel_rfl) (by kernel_rfl) (fun _ _ _ h => h) (.inl ⟨by rfl, ?hym3⟩) (by assumption) ?restm3
      case hym3 => (intro w hSw; (try dsimp only at hSw); go_simp; first | done | with_reducible rfl)
      (try simp only [Act.put, pu1, pu2, pu3, pu4, pu5, pu6])
      refine wpAnyH_take (i := 4) (v := ?vm4) rfl (by kernel_rfl) (by kernel_rfl) (by kernel_rfl) (fun _ _ _ h => h) (.inl ⟨by rfl, ?hym4⟩) (by assumption) ?restm4
      case hym4 => (intro w hSw; (try dsimp only at hSw); go_simp; first | done | with_reducible rfl)
      (try simp only [Act.put, pu1, pu2, pu3, pu4, pu5, pu6])
      refine wpAnyH_take (i := 5) (v := ?vm5) rfl (by kernel_rfl) (by kernel_rfl) (by kernel_rfl) (fun _ _ _ h => h) (.inl ⟨by rfl, ?hym5⟩) (by assumption) ?restm5
      case hym5 => (intro w hSw; (try dsimp only at hSw); go_simp; first | done | with_reducible rfl)
      (try simp only [Act.put, pu1, pu2, pu3, pu4, pu5, pu6])
      refine wpAnyH_take (i := 6) (v := ?vm6) rfl (by kernel_rfl) (by kernel_rfl) (by kernel_rfl) (fun _ _ _ h => h) (.inl ⟨by rfl, ?hym6⟩) (by assumption) ?restm6
      case hym6 => (intro w hSw; (try dsimp only at hSw); go_simp; first | done | with_reducible rfl)
      (try simp only [Act.put, pu1, pu2, pu3, pu4, pu5, pu6])
      refine wpAnyH_take (i := 7) (v := ?vm7) rfl (by kernel_rfl) (by kernel_rfl) (by kernel_rfl) (fun _ _ _ h => h) (.inl ⟨by rfl, ?hym7⟩) (by assumption) ?restm7
      case hym7 => (intro w hSw; (try dsimp only at hSw); go_simp; first | done | with_reducible rfl)
      (try simp only [Act.put, pu1, pu2, pu3, pu4, pu5, pu6])
      refine wpAnyH_take (i := 8) (v := ?vm8) rfl (by kernel_rfl) (by kernel_rfl) (by kernel_rfl) (fun _ _ _ h => h) (.inl ⟨by rfl, ?hym8⟩) (by assumption) ?restm8
      case hym8 => (intro w hSw; (try dsimp only at hSw); go_simp; first | done | with_reducible rfl)
      (try simp only [Act.put, pu1, pu2, pu3, pu4, pu5, pu6])
      refine wpAnyH_take (i := 9) (v := ?vm9) rfl (by kernel_rfl) (by kernel_rfl) (by kernel_rfl) (fun _ _ _ h => h) (.inl ⟨by rfl, ?hym9⟩) (by assumption) ?restm9
      case hym9 => (intro w hSw; (try dsimp only at hSw); go_simp; first | done | with_reducible rfl)
      (try simp only [Act.put, pu1, pu2, pu3, pu4, pu5, pu6])
      refine wpAnyH_ready (rs := [10]) (by kernel_rfl) (by simp) ?_
      refine AllReadyH.cons rfl (fun K hK => ?_) AllReadyH.nil
      rw [if_pos (by rfl)]
      go_simp
      refine (hih.out _ hb.drew).mono ?_
      rintro e w4 ⟨rfl, hb4⟩
      have hbw4 := hb.drew.trans (below_le hb4 hb.drew.size)
      refine hK.out _ _ ?_ (fun hHeld2 => ?_)
      · exact hSk _ hbw4
      clear hK K
      (try simp only [Act.put, pu1, pu2, pu3, pu4, pu5, pu6])
      refine wpAnyH_take (i := 11) (v := ?vm11) rfl (by kernel_rfl) (by kernel_rfl) (by kernel_rfl) (fun _ _ _ h => h) (.inl ⟨by rfl, ?hym11⟩) (by assumption) ?restm11
      case hym11 => (intro w hSw; (try dsimp only at hSw); go_simp; first | done | with_reducible rfl)
      (try simp only [Act.put, pu1, pu2, pu3, pu4, pu5, pu6])
      refine wpAnyH_done (by kernel_rfl) ?_ _
      by_cases hc2 : c2 = 0
      · subst hc2
        have hnext := Lib.hid (hst.out.symm)
        rw [if_pos rfl] at hnext
        clear rA rB
        go_wp2_with fail
        go_roundw
        case rel => exact ⟨k + 1, by omega, by omega, by go_num, hnext.out, hb0H.out.trans (below_le hbw4 hszr)⟩
        case measure => simp [intOf]; omega
      · have hcb : (c2 != 0) = true := by simpa using hc2
        have hne := Lib.hid (hst.out)
        rw [if_neg hc2] at hne
        clear hc2 rA rB
        go_wp2_with fail
        go_ret
        exact ⟨ret_int hne.out.symm, hbw.trans (below_le hbw4 hbw.size)⟩
    · have hend := Lib.hid (htkH.out.symm.trans (vs_end (by omega) (by omega) (by omega)))
      rw [hla, hlb] at hend
      by_cases h1 : k < ls.length
      · have l1 : (k : Int) < (ls.length : Int) := by omega
        obtain rfl : k = ls'.length := by omega
        go_wp2_with fail
        refine (numbers_said _ _ _).mono ?_
        rintro e w3 ⟨rfl, rfl⟩
        go_wp2
        go_ret
        exact ⟨ret_int hend.out.symm, hbw⟩
      · obtain rfl : k = ls.length := by omega
        go_wp2_with fail
        refine (numbers_said _ _ _).mono ?_
        rintro e w3 ⟨rfl, rfl⟩
        go_wp2
        go_ret
        exact ⟨ret_int hend.out.symm, hbw⟩

set_option maxRecDepth 100000 in
set_option maxHeartbeats 1600000 in
theorem cmp_dict (ih : ∀ u ∈ es.map (·.2), CmpSaid u) (cs ds : List Value) (w : World) (h : TRep w (.mk 9 b n fl tx bs rf ls es cl ver) cs) (h' : TRep w (.mk 9 b' n' fl' tx' bs' rf' ls' es' cl' ver') ds) (hok : okV (builtV (.mk 9 b n fl tx bs rf ls es cl ver))) (hok' : okV (builtV (.mk 9 b' n' fl' tx' bs' rf' ls' es' cl' ver'))) :
    Calls Try.prog 77 #[.agg cs.toArray, .agg ds.toArray] w (CmpEnd (cmpV (builtV (.mk 9 b n fl tx bs rf ls es cl ver)) (builtV (.mk 9 b' n' fl' tx' bs' rf' ls' es' cl' ver'))) w) := by
  simp only [TRep] at h h'
  obtain ⟨sb, sl, se, xl, xe, rfl, ⟨hk, hn, hf, ht, hr, hc, hv⟩, hrb, hrl, htl, hre, hte⟩ := h
  obtain ⟨sb', sl', se', xl', xe', rfl, ⟨hk', hn', hf', ht', hr', hc', hv'⟩, hrb', hrl', htl', hre', hte'⟩ := h'
  have hrbH := Lib.hid hrb
  have hrlH := Lib.hid hrl
  have hreH := Lib.hid hre
  have hrbH' := Lib.hid hrb'
  have hrlH' := Lib.hid hrl'
  have hreH' := Lib.hid hre'
  have htlH := Lib.hid htl
  have htlH' := Lib.hid htl'
  have hteH := Lib.hid hte
  have hteH' := Lib.hid hte'
  obtain ⟨ob, ocb, rfl, -⟩ := hrb
  obtain ⟨ol, ocl, rfl, -⟩ := hrl
  obtain ⟨oe, oce, rfl, -⟩ := hre
  obtain ⟨ob', ocb', rfl, -⟩ := hrb'
  obtain ⟨ol', ocl', rfl, -⟩ := hrl'
  obtain ⟨oe', oce', rfl, -⟩ := hre'
  have hb2 : Below w.heap.size w ((w.alloc (.cells #[.int .i64 9, .bool b, .int .i64 n, .float .f64 fl, .string tx, .slice ob bs.length ocb, .int .u64 rf, .slice ol ls.length ocl, .slice oe es.length oce, .string cl, .int .i64 ver] 31)).alloc (.cells #[.int .i64 9, .bool b', .int .i64 n', .float .f64 fl', .string tx', .slice ob' bs'.length ocb', .int .u64 rf', .slice ol' ls'.length ocl', .slice oe' es'.length oce', .string cl', .int .i64 ver'] 31)) := ((Below.refl _ _).alloc (Nat.le_refl _) _).alloc (by simp) _
  have e1 : builtV (.mk 9 b n fl tx bs rf ls es cl ver) = .dict (builtEs es) := by rw [builtV]; rfl
  have e2 : builtV (.mk 9 b' n' fl' tx' bs' rf' ls' es' cl' ver') = .dict (builtEs es') := by rw [builtV]; rfl
  rw [e1] at hok ⊢
  rw [e2] at hok' ⊢
  rw [cmpV_dict]
  clear e1 e2
  have hfc := Lib.hid (fields_cmp es es' ih _ _ xe xe' _ (hreH.out.keep (keeps_of_below hb2)) (EsRep.keep (keeps_of_below hb2) _ _ hte) (hreH'.out.keep (keeps_of_below hb2)) (EsRep.keep (keeps_of_below hb2) _ _ hte') hok.2 hok'.2)
  clear ih hok hok'
  clear htl hte htl' hte'
  go_enter Try.func77, Try.ntmps77
  go_wp2_with fail
  refine hfc.out.mono ?_
  rintro e w3 ⟨rfl, hb3⟩
  go_wp2
  go_ret
  exact ⟨rfl, hb2.trans (below_le hb3 hb2.size)⟩

set_option maxRecDepth 100000 in
set_option maxHeartbeats 1600000 in
theorem cmp_record (ih : ∀ u ∈ es.map (·.2), CmpSaid u) (cs ds : List Value) (w : World) (h : TRep w (.mk 10 b n fl tx bs rf ls es cl ver) cs) (h' : TRep w (.mk 10 b' n' fl' tx' bs' rf' ls' es' cl' ver') ds) (hok : okV (builtV (.mk 10 b n fl tx bs rf ls es cl ver))) (hok' : okV (builtV (.mk 10 b' n' fl' tx' bs' rf' ls' es' cl' ver'))) :
    Calls Try.prog 77 #[.agg cs.toArray, .agg ds.toArray] w (CmpEnd (cmpV (builtV (.mk 10 b n fl tx bs rf ls es cl ver)) (builtV (.mk 10 b' n' fl' tx' bs' rf' ls' es' cl' ver'))) w) := by
  simp only [TRep] at h h'
  obtain ⟨sb, sl, se, xl, xe, rfl, ⟨hk, hn, hf, ht, hr, hc, hv⟩, hrb, hrl, htl, hre, hte⟩ := h
  obtain ⟨sb', sl', se', xl', xe', rfl, ⟨hk', hn', hf', ht', hr', hc', hv'⟩, hrb', hrl', htl', hre', hte'⟩ := h'
  have hrbH := Lib.hid hrb
  have hrlH := Lib.hid hrl
  have hreH := Lib.hid hre
  have hrbH' := Lib.hid hrb'
  have hrlH' := Lib.hid hrl'
  have hreH' := Lib.hid hre'
  have htlH := Lib.hid htl
  have htlH' := Lib.hid htl'
  have hteH := Lib.hid hte
  have hteH' := Lib.hid hte'
  obtain ⟨ob, ocb, rfl, -⟩ := hrb
  obtain ⟨ol, ocl, rfl, -⟩ := hrl
  obtain ⟨oe, oce, rfl, -⟩ := hre
  obtain ⟨ob', ocb', rfl, -⟩ := hrb'
  obtain ⟨ol', ocl', rfl, -⟩ := hrl'
  obtain ⟨oe', oce', rfl, -⟩ := hre'
  have hb2 : Below w.heap.size w ((w.alloc (.cells #[.int .i64 10, .bool b, .int .i64 n, .float .f64 fl, .string tx, .slice ob bs.length ocb, .int .u64 rf, .slice ol ls.length ocl, .slice oe es.length oce, .string cl, .int .i64 ver] 31)).alloc (.cells #[.int .i64 10, .bool b', .int .i64 n', .float .f64 fl', .string tx', .slice ob' bs'.length ocb', .int .u64 rf', .slice ol' ls'.length ocl', .slice oe' es'.length oce', .string cl', .int .i64 ver'] 31)) := ((Below.refl _ _).alloc (Nat.le_refl _) _).alloc (by simp) _
  have e1 : builtV (.mk 10 b n fl tx bs rf ls es cl ver) = .record cl ver (builtEs es) := by rw [builtV]; rfl
  have e2 : builtV (.mk 10 b' n' fl' tx' bs' rf' ls' es' cl' ver') = .record cl' ver' (builtEs es') := by rw [builtV]; rfl
  rw [e1] at hok ⊢
  rw [e2] at hok' ⊢
  clear e1 e2
  obtain ⟨-, v0, v1, -⟩ := record_own hok.1
  obtain ⟨-, v2, v3, -⟩ := record_own hok'.1
  have w1 : IntKind.u64.wrap ver = ver := by rw [IntKind.wrap_u64]; omega
  have w2 : IntKind.u64.wrap ver' = ver' := by rw [IntKind.wrap_u64]; omega
  have hfc := Lib.hid (fields_cmp es es' ih _ _ xe xe' _ (hreH.out.keep (keeps_of_below hb2)) (EsRep.keep (keeps_of_below hb2) _ _ hte) (hreH'.out.keep (keeps_of_below hb2)) (EsRep.keep (keeps_of_below hb2) _ _ hte') hok.2 hok'.2)
  have hrec0 := cmpV_record cl cl' (by omega : 0 ≤ ver) (by omega : 0 ≤ ver') (builtEs es) (builtEs es')
  obtain ⟨c, hcd⟩ : ∃ c : Int, c = lexN (ordT cl.data.toList) (ordT cl'.data.toList) := ⟨_, rfl⟩
  obtain ⟨c3, hc3⟩ : ∃ c : Int, c = cmpV (.record cl ver (builtEs es)) (.record cl' ver' (builtEs es')) := ⟨_, rfl⟩
  have htxt0 := fun W => texts_is cl cl' W
  rw [← hcd] at htxt0 hrec0
  rw [← hc3] at hrec0 ⊢
  have htxt := Lib.hid htxt0
  have hrec := Lib.hid hrec0
  clear htxt0 hrec0 hcd hc3
  clear ih hok hok'
  clear htl hte htl' hte'
  go_enter Try.func77, Try.ntmps77
  go_wp2_with fail
  refine (htxt.out _).mono ?_
  rintro e w3 ⟨rfl, rfl⟩
  by_cases hc0 : c = 0
  · subst hc0
    rw [if_pos rfl] at hrec
    cases hvv : ver != ver' with
    | true =>
      have hne : ¬ ver = ver' := by simpa using hvv
      rw [if_neg hne] at hrec
      clear hne
      go_wp2_with fail
      refine (numbers_said _ _ _).mono ?_
      rintro e w3 ⟨rfl, rfl⟩
      go_wp2
      go_ret
      exact ⟨ret_int hrec.out.symm, hb2⟩
    | false =>
      have he : ver = ver' := by simpa using hvv
      rw [if_pos he] at hrec
      clear he
      go_wp2_with fail
      refine hfc.out.mono ?_
      rintro e w3 ⟨rfl, hb3⟩
      go_wp2
      go_ret
      exact ⟨ret_int hrec.out.symm, hb2.trans (below_le hb3 hb2.size)⟩
  · have hcb : (c != 0) = true := by simpa using hc0
    rw [if_neg hc0] at hrec
    clear hc0
    go_wp2_with fail
    go_ret
    exact ⟨ret_int hrec.out.symm, hb2⟩
end
theorem cmp_any : ∀ t : Term, CmpSaid t := term_all fun t ih => by
  intro u cs ds w h h' hok hok'
  obtain ⟨k, b, n, fl, tx, bs, rf, ls, es, cl, ver⟩ := t
  obtain ⟨k', b', n', fl', tx', bs', rf', ls', es', cl', ver'⟩ := u
  have ihl : ∀ u ∈ ls, CmpSaid u := fun u hu => ih u (List.mem_append_left _ hu)
  have ihe : ∀ u ∈ es.map (·.2), CmpSaid u := fun u hu => ih u (List.mem_append_right _ hu)
  cases hkk : k != k' with
  | true => exact cmp_kinds b b' n n' fl fl' tx tx' bs bs' rf rf' ls ls' es es' cl cl' ver ver' k k' hkk cs ds w h h' hok hok'
  | false =>
    obtain rfl : k = k' := by simpa using hkk
    obtain ⟨k1, k2, -⟩ := ok_kind hok
    have hks : k = 1 ∨ k = 2 ∨ k = 3 ∨ k = 4 ∨ k = 5 ∨ k = 6 ∨ k = 7 ∨ k = 8 ∨ k = 9 ∨ k = 10 := by omega
    rcases hks with rfl | rfl | rfl | rfl | rfl | rfl | rfl | rfl | rfl | rfl
    · exact cmp_nil b b' n n' fl fl' tx tx' bs bs' rf rf' ls ls' es es' cl cl' ver ver' cs ds w h h' hok hok'
    · exact cmp_bool b b' n n' fl fl' tx tx' bs bs' rf rf' ls ls' es es' cl cl' ver ver' cs ds w h h' hok hok'
    · exact cmp_int b b' n n' fl fl' tx tx' bs bs' rf rf' ls ls' es es' cl cl' ver ver' cs ds w h h' hok hok'
    · exact cmp_float b b' n n' fl fl' tx tx' bs bs' rf rf' ls ls' es es' cl cl' ver ver' cs ds w h h' hok hok'
    · exact cmp_text b b' n n' fl fl' tx tx' bs bs' rf rf' ls ls' es es' cl cl' ver ver' cs ds w h h' hok hok'
    · exact cmp_bytes b b' n n' fl fl' tx tx' bs bs' rf rf' ls ls' es es' cl cl' ver ver' cs ds w h h' hok hok'
    · exact cmp_ref b b' n n' fl fl' tx tx' bs bs' rf rf' ls ls' es es' cl cl' ver ver' cs ds w h h' hok hok'
    · exact cmp_list b b' n n' fl fl' tx tx' bs bs' rf rf' ls ls' es es' cl cl' ver ver' ihl cs ds w h h' hok hok'
    · exact cmp_dict b b' n n' fl fl' tx tx' bs bs' rf rf' ls ls' es es' cl cl' ver ver' ihe cs ds w h h' hok hok'
    · exact cmp_record b b' n n' fl fl' tx tx' bs bs' rf rf' ls ls' es es' cl cl' ver ver' ihe cs ds w h h' hok hok'
end Go.Proofs.Ytgmdbpplfjkjmaa
