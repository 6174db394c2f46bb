/- tenonmake.Same, Lists, Entries: terms are compared. -/
import Derived.Test.YtgmdbpplfjkjmaaBuiltEnd
namespace Go.Proofs.Ytgmdbpplfjkjmaa
open Go.RowKit
set_option linter.unusedVariables false
set_option linter.unusedSimpArgs false

mutual
/-- Same. -/
def sameT : Term → Term → Bool
  | .mk k b n fl tx bs rf ls es cl ver, .mk k' b' n' fl' tx' bs' rf' ls' es' cl' ver' =>
    bif !(k == k') then false else bif k == 1 || k == 11 then true else bif k == 2 then b == b' else bif k == 3 then n == n' else bif k == 4 then (fl : Int) == (fl' : Int) else bif k == 5 then tx.toList == tx'.toList else bif k == 6 then bs == bs' else bif k == 7 then rf == rf' else
    bif k == 8 then sameTs ls ls' else bif k == 9 then sameEs es es' else bif k == 10 then cl.toList == cl'.toList && (ver == ver' && sameEs es es') else false
/-- Lists. -/
def sameTs : List Term → List Term → Bool
  | [], [] => true
  | t :: l, u :: m => sameT t u && sameTs l m
  | _, _ => false
/-- Entries. -/
def sameEs : List (ByteArray × Term) → List (ByteArray × Term) → Bool
  | [], [] => true
  | p :: l, q :: m => (p.1.toList == q.1.toList && sameP p q.2) && sameEs l m
  | _, _ => false
def sameP : ByteArray × Term → Term → Bool
  | (_, t), u => sameT t u
end
theorem sameTs_len : ∀ (l m : List Term), sameTs l m = true → l.length = m.length
  | [], [], _ => rfl
  | t :: l, u :: m, h => by
    rw [sameTs, Bool.and_eq_true] at h
    simp [sameTs_len l m h.2]
  | [], _ :: _, h => by simp [sameTs] at h
  | _ :: _, [], h => by simp [sameTs] at h
theorem sameEs_len : ∀ (l m : List (ByteArray × Term)), sameEs l m = true → l.length = m.length
  | [], [], _ => rfl
  | t :: l, u :: m, h => by
    rw [sameEs, Bool.and_eq_true] at h
    simp [sameEs_len l m h.2]
  | [], _ :: _, h => by simp [sameEs] at h
  | _ :: _, [], h => by simp [sameEs] at h
theorem sameTs_drop {l m : List Term} {k : Nat} {t u : Term} (h : l[k]? = some t) (h' : m[k]? = some u) : sameTs (l.drop k) (m.drop k) = (sameT t u && sameTs (l.drop (k + 1)) (m.drop (k + 1))) := by
  have hk : k < l.length := (List.getElem?_eq_some_iff.1 h).1
  have hk' : k < m.length := (List.getElem?_eq_some_iff.1 h').1
  have e : l[k] = t := (List.getElem?_eq_some_iff.1 h).2
  have e' : m[k] = u := (List.getElem?_eq_some_iff.1 h').2
  rw [List.drop_eq_getElem_cons hk, List.drop_eq_getElem_cons hk', sameTs, e, e']
theorem sameEs_drop {l m : List (ByteArray × Term)} {k : Nat} {p q : ByteArray × Term} (h : l[k]? = some p) (h' : m[k]? = some q) : sameEs (l.drop k) (m.drop k) = ((p.1.toList == q.1.toList && sameT p.2 q.2) && sameEs (l.drop (k + 1)) (m.drop (k + 1))) := by
  have hk : k < l.length := (List.getElem?_eq_some_iff.1 h).1
  have hk' : k < m.length := (List.getElem?_eq_some_iff.1 h').1
  have e : l[k] = p := (List.getElem?_eq_some_iff.1 h).2
  have e' : m[k] = q := (List.getElem?_eq_some_iff.1 h').2
  rw [List.drop_eq_getElem_cons hk, List.drop_eq_getElem_cons hk', sameEs, e, e']
  obtain ⟨s, t⟩ := p
  rw [sameP]
def SameSaid (t : Term) : Prop := ∀ (u : Term) (cs ds : List Value) (w : World), TRep w t cs → TRep w u ds → Calls Try.prog 78 #[.agg cs.toArray, .agg ds.toArray] w fun e w' => e = .returned (.bool (sameT t u)) ∧ Below w.heap.size w w'

set_option maxRecDepth 100000 in
set_option maxHeartbeats 1600000 in
theorem lists_same (la lb : List (Term)) (ih : ∀ u ∈ la, SameSaid u) (sa sb : Value) (xa xb : List Value) (w : World) (ha : AtRow w sa la.length 11 xa) (hta : TsRep w la xa) (hb : AtRow w sb lb.length 11 xb) (htb : TsRep w lb xb) :
    Calls Try.prog 147 #[sa, sb] w fun e w' => e = .returned (.bool (sameTs la lb)) ∧ Below w.heap.size w w' := by
  obtain ⟨oaa, capa, rfl, hcapa, hmaxa, hsma, -, -, hforma⟩ := ha
  obtain ⟨oab, capb, rfl, hcapb, hmaxb, hsmb, -, -, hformb⟩ := hb
  unfold maxLen at hmaxa hmaxb
  have hdata := Lib.hid (TsRep.at la xa hta)
  have hdatb := Lib.hid (TsRep.at lb xb htb)
  have hformaH := Lib.hid hforma
  have hformbH := Lib.hid hformb
  have ihH := Lib.hid ih
  obtain ⟨r, hr⟩ : ∃ r, r = sameTs la lb := ⟨_, rfl⟩
  have hrr := Lib.hid hr
  rw [← hr]
  clear hta htb hforma hformb ih hr
  by_cases hl : la.length = lb.length
  · have hln : ((lb.length : Int) != (lb.length : Int)) = false := by simp
    rw [hl]
    go_enter Try.func147, Try.ntmps147
    go_wp2_with fail
    go_loopw [5] (fun i wr => ∃ (k : Nat), k ≤ lb.length ∧ i = .int .i64 k ∧ sameTs (la.drop k) (lb.drop k) = r ∧ Below w.heap.size w wr) (fun i _ => lb.length - (intOf i).toNat)
    case atStart => exact ⟨0, Nat.zero_le _, rfl, by rw [hrr.out]; rfl, Below.refl _ _⟩
    case round =>
      obtain ⟨k, hk, rfl, heq, hb⟩ := hrel
      have heqH := Lib.hid heq
      clear heq
      by_cases hlt : k < lb.length
      · obtain ⟨ba, oa, rfl, hcella⟩ := hformaH.out (by omega)
        obtain ⟨bb, ob, rfl, hcellb⟩ := hformbH.out (by omega)
        obtain ⟨t, hp⟩ : ∃ p, la[k]? = some p := ⟨_, List.getElem?_eq_getElem (by omega)⟩
        obtain ⟨u, hq⟩ : ∃ p, lb[k]? = some p := ⟨_, List.getElem?_eq_getElem hlt⟩
        obtain ⟨cs, hta, ea⟩ := hdata.out k _ hp
        obtain ⟨ds, htb, eb⟩ := hdatb.out k _ hq
        have hca : ∀ j, j < 11 → w.cell? ⟨ba, oa + k * 11 + j, none⟩ = cs[j]? := fun j hj => by
          have h1 := hcella (k * 11 + j) (by omega)
          rw [ea j hj, ← Nat.add_assoc] at h1
          exact h1
        have hcb : ∀ j, j < 11 → w.cell? ⟨bb, ob + k * 11 + j, none⟩ = ds[j]? := fun j hj => by
          have h1 := hcellb (k * 11 + j) (by omega)
          rw [eb j hj, ← Nat.add_assoc] at h1
          exact h1
        have htaH := Lib.hid hta
        have htbH := Lib.hid htb
        have hih := Lib.hid (fun W h h' => ihH.out t (List.mem_of_getElem? hp) u cs ds W h h')
        have hdrop := Lib.hid (sameTs_drop hp hq)
        obtain ⟨a0, a1, a2, a3, a4, a5, a6, a7, a8, a9, a10, rfl⟩ := eleven hta.len
        obtain ⟨c0, c1, c2, c3, c4, c5, c6, c7, c8, c9, c10, rfl⟩ := eleven htb.len
        · clear ea eb hcella hcellb hta htb hp hq
          have p0 := hca 0 (by omega)
          have p1 := hca 1 (by omega)
          have p2 := hca 2 (by omega)
          have p3 := hca 3 (by omega)
          have p4 := hca 4 (by omega)
          have p5 := hca 5 (by omega)
          have p6 := hca 6 (by omega)
          have p7 := hca 7 (by omega)
          have p8 := hca 8 (by omega)
          have p9 := hca 9 (by omega)
          have p10 := hca 10 (by omega)
          have q0 := hcb 0 (by omega)
          have q1 := hcb 1 (by omega)
          have q2 := hcb 2 (by omega)
          have q3 := hcb 3 (by omega)
          have q4 := hcb 4 (by omega)
          have q5 := hcb 5 (by omega)
          have q6 := hcb 6 (by omega)
          have q7 := hcb 7 (by omega)
          have q8 := hcb 8 (by omega)
          have q9 := hcb 9 (by omega)
          have q10 := hcb 10 (by omega)
          simp only [List.getElem?_cons_zero, List.getElem?_cons_succ, Nat.reduceAdd, Nat.add_zero] at p0 p1 p2 p3 p4 p5 p6 p7 p8 p9 p10 q0 q1 q2 q3 q4 q5 q6 q7 q8 q9 q10
          have hSk : ∀ w', Below w.heap.size w w' → w'.cell? ⟨ba, oa + k * 11, none⟩ = some a0 ∧ w'.cell? ⟨ba, oa + k * 11 + 1, none⟩ = some a1 ∧ w'.cell? ⟨ba, oa + k * 11 + 2, none⟩ = some a2 ∧ w'.cell? ⟨ba, oa + k * 11 + 3, none⟩ = some a3 ∧ w'.cell? ⟨ba, oa + k * 11 + 4, none⟩ = some a4 ∧ w'.cell? ⟨ba, oa + k * 11 + 5, none⟩ = some a5 ∧ w'.cell? ⟨ba, oa + k * 11 + 6, none⟩ = some a6 ∧ w'.cell? ⟨ba, oa + k * 11 + 7, none⟩ = some a7 ∧ w'.cell? ⟨ba, oa + k * 11 + 8, none⟩ = some a8 ∧ w'.cell? ⟨ba, oa + k * 11 + 9, none⟩ = some a9 ∧ w'.cell? ⟨ba, oa + k * 11 + 10, none⟩ = some a10 ∧ w'.cell? ⟨bb, ob + k * 11, none⟩ = some c0 ∧ w'.cell? ⟨bb, ob + k * 11 + 1, none⟩ = some c1 ∧ w'.cell? ⟨bb, ob + k * 11 + 2, none⟩ = some c2 ∧ w'.cell? ⟨bb, ob + k * 11 + 3, none⟩ = some c3 ∧ w'.cell? ⟨bb, ob + k * 11 + 4, none⟩ = some c4 ∧ w'.cell? ⟨bb, ob + k * 11 + 5, none⟩ = some c5 ∧ w'.cell? ⟨bb, ob + k * 11 + 6, none⟩ = some c6 ∧ w'.cell? ⟨bb, ob + k * 11 + 7, none⟩ = some c7 ∧ w'.cell? ⟨bb, ob + k * 11 + 8, none⟩ = some c8 ∧ w'.cell? ⟨bb, ob + k * 11 + 9, none⟩ = some c9 ∧ w'.cell? ⟨bb, ob + k * 11 + 10, none⟩ = some c10 := fun w' hb' => ⟨keeps_of_below hb' _ _ p0, keeps_of_below hb' _ _ p1, keeps_of_below hb' _ _ p2, keeps_of_below hb' _ _ p3, keeps_of_below hb' _ _ p4, keeps_of_below hb' _ _ p5, keeps_of_below hb' _ _ p6, keeps_of_below hb' _ _ p7, keeps_of_below hb' _ _ p8, keeps_of_below hb' _ _ p9, keeps_of_below hb' _ _ p10, keeps_of_below hb' _ _ q0, keeps_of_below hb' _ _ q1, keeps_of_below hb' _ _ q2, keeps_of_below hb' _ _ q3, keeps_of_below hb' _ _ q4, keeps_of_below hb' _ _ q5, keeps_of_below hb' _ _ q6, keeps_of_below hb' _ _ q7, keeps_of_below hb' _ _ q8, keeps_of_below hb' _ _ q9, keeps_of_below hb' _ _ q10⟩
          clear hca hcb p0 q0 p1 q1 p2 q2 p3 q3 p4 q4 p5 q5 p6 q6 p7 q7 p8 q8 p9 q9 p10 q10
          cases hr : sameT t u with
          | true =>
              have hrH := Lib.hid hr
              clear hr
              go_wp2_with fail
              refine wp_region_held_drew (S := (fun w' => w'.cell? ⟨ba, oa + k * 11, none⟩ = some a0 ∧ w'.cell? ⟨ba, oa + k * 11 + 1, none⟩ = some a1 ∧ w'.cell? ⟨ba, oa + k * 11 + 2, none⟩ = some a2 ∧ w'.cell? ⟨ba, oa + k * 11 + 3, none⟩ = some a3 ∧ w'.cell? ⟨ba, oa + k * 11 + 4, none⟩ = some a4 ∧ w'.cell? ⟨ba, oa + k * 11 + 5, none⟩ = some a5 ∧ w'.cell? ⟨ba, oa + k * 11 + 6, none⟩ = some a6 ∧ w'.cell? ⟨ba, oa + k * 11 + 7, none⟩ = some a7 ∧ w'.cell? ⟨ba, oa + k * 11 + 8, none⟩ = some a8 ∧ w'.cell? ⟨ba, oa + k * 11 + 9, none⟩ = some a9 ∧ w'.cell? ⟨ba, oa + k * 11 + 10, none⟩ = some a10 ∧ w'.cell? ⟨bb, ob + k * 11, none⟩ = some c0 ∧ w'.cell? ⟨bb, ob + k * 11 + 1, none⟩ = some c1 ∧ w'.cell? ⟨bb, ob + k * 11 + 2, none⟩ = some c2 ∧ w'.cell? ⟨bb, ob + k * 11 + 3, none⟩ = some c3 ∧ w'.cell? ⟨bb, ob + k * 11 + 4, none⟩ = some c4 ∧ w'.cell? ⟨bb, ob + k * 11 + 5, none⟩ = some c5 ∧ w'.cell? ⟨bb, ob + k * 11 + 6, none⟩ = some c6 ∧ w'.cell? ⟨bb, ob + k * 11 + 7, none⟩ = some c7 ∧ w'.cell? ⟨bb, ob + k * 11 + 8, none⟩ = some c8 ∧ w'.cell? ⟨bb, ob + k * 11 + 9, none⟩ = some c9 ∧ w'.cell? ⟨bb, ob + k * 11 + 10, none⟩ = some c10)) (by kernel_rfl) ?_ (fun hHeld => ?_)
              · exact hSk _ hb.drew
              refine wpAnyH_take (i := 0) (v := ?vl0) rfl (by kernel_rfl) (by kernel_rfl) (by kernel_rfl) (fun _ _ _ h => h) (.inl ⟨by rfl, ?hyl0⟩) (by assumption) ?restl0
              case hyl0 => (intro w hSw; (try dsimp only at hSw); go_simp; first | done | with_reducible rfl)
              (try simp only [Act.put, pu1, pu2, pu3, pu4, pu5, pu6])
              refine wpAnyH_take (i := 1) (v := ?vl1) rfl (by kernel_rfl) (by kernel_rfl) (by kernel_rfl) (fun _ _ _ h => h) (.inl ⟨by rfl, ?hyl1⟩) (by assumption) ?restl1
              case hyl1 => (intro w hSw; (try dsimp only at hSw); go_simp; first | done | with_reducible rfl)
              (try simp only [Act.put, pu1, pu2, pu3, pu4, pu5, pu6])
              refine wpAnyH_take (i := 2) (v := ?vl2) rfl (by kernel_rfl) (by kernel_rfl) (by kernel_rfl) (fun _ _ _ h => h) (.inl ⟨by rfl, ?hyl2⟩) (by assumption) ?restl2
              case hyl2 => (intro w hSw; (try dsimp only at hSw); go_simp; first | done | with_reducible rfl)
              (try simp only [Act.put, pu1, pu2, pu3, pu4, pu5, pu6])
              refine wpAnyH_take (i := 3) (v := ?vl3) rfl (by kernel_rfl) (by kernel_rfl) (by kernel_rfl) (fun _ _ _ h => h) (.inl ⟨by rfl, ?hyl3⟩) (by assumption) ?restl3
              case hyl3 => (intro w hSw; (try dsimp only at hSw); go_simp; first | done | with_reducible rfl)
              (try simp only [Act.put, pu1, pu2, pu3, pu4, pu5, pu6])
              refine wpAnyH_take (i := 4) (v := ?vl4) rfl (by kernel_rfl) (by kernel_rfl) (by kernel_rfl) (fun _ _ _ h => h) (.inl ⟨by rfl, ?hyl4⟩) (by assumption) ?restl4
              case hyl4 => (intro w hSw; (try dsimp only at hSw); go_simp; first | done | with_reducible rfl)
              (try simp only [Act.put, pu1, pu2, pu3, pu4, pu5, pu6])
              refine wpAnyH_take (i := 5) (v := ?vl5) rfl (by kernel_rfl) (by kernel_rfl) (by kernel_rfl) (fun _ _ _ h => h) (.inl ⟨by rfl, ?hyl5⟩) (by assumption) ?restl5
              case hyl5 => (intro w hSw; (try dsimp only at hSw); go_simp; first | done | with_reducible rfl)
              (try simp only [Act.put, pu1, pu2, pu3, pu4, pu5, pu6])
              refine wpAnyH_take (i := 6) (v := ?vl6) rfl (by kernel_rfl) (by kernel_rfl) (by kernel_rfl) (fun _ _ _ h => h) (.inl ⟨by rfl, ?hyl6⟩) (by assumption) ?restl6
              case hyl6 => (intro w hSw; (try dsimp only at hSw); go_simp; first | done | with_reducible rfl)
              (try simp only [Act.put, pu1, pu2, pu3, pu4, pu5, pu6])
              refine wpAnyH_take (i := 7) (v := ?vl7) rfl (by kernel_rfl) (by kernel_rfl) (by kernel_rfl) (fun _ _ _ h => h) (.inl ⟨by rfl, ?hyl7⟩) (by assumption) ?restl7
              case hyl7 => (intro w hSw; (try dsimp only at hSw); go_simp; first | done | with_reducible rfl)
              (try simp only [Act.put, pu1, pu2, pu3, pu4, pu5, pu6])
              refine wpAnyH_ready (rs := [8]) (by kernel_rfl) (by simp) ?_
              refine AllReadyH.cons rfl (fun K hK => ?_) AllReadyH.nil
              rw [if_pos (by rfl)]
              go_simp
              refine (hih.out wr.drew (TRep.keep (keeps_of_below hb.drew) _ _ htaH.out) (TRep.keep (keeps_of_below hb.drew) _ _ htbH.out)).mono ?_
              rw [hrH.out]
              rintro e w1 ⟨rfl, hb1⟩
              have hbw1 : Below w.heap.size w w1 := hb.drew.trans (below_le hb1 hb.size)
              refine hK.out _ _ ?_ (fun hHeld2 => ?_)
              · exact hSk _ hbw1
              clear hK K
              (try simp only [Act.put, pu1, pu2, pu3, pu4, pu5, pu6])
              refine wpAnyH_take (i := 9) (v := ?vl9) rfl (by kernel_rfl) (by kernel_rfl) (by kernel_rfl) (fun _ _ _ h => h) (.inl ⟨by rfl, ?hyl9⟩) (by assumption) ?restl9
              case hyl9 => (intro w hSw; (try dsimp only at hSw); go_simp; first | done | with_reducible rfl)
              (try simp only [Act.put, pu1, pu2, pu3, pu4, pu5, pu6])
              refine wpAnyH_done (by kernel_rfl) ?_ _
              go_wp2_with fail
              go_roundw
              case rel => exact ⟨k + 1, by omega, by go_num, by rw [← heqH.out, hdrop.out, hrH.out]; rfl, hbw1⟩
              case measure => simp [intOf]; omega
          | false =>
              have hrH := Lib.hid hr
              clear hr
              go_wp2_with fail
              refine wp_region_held_drew (S := (fun w' => w'.cell? ⟨ba, oa + k * 11, none⟩ = some a0 ∧ w'.cell? ⟨ba, oa + k * 11 + 1, none⟩ = some a1 ∧ w'.cell? ⟨ba, oa + k * 11 + 2, none⟩ = some a2 ∧ w'.cell? ⟨ba, oa + k * 11 + 3, none⟩ = some a3 ∧ w'.cell? ⟨ba, oa + k * 11 + 4, none⟩ = some a4 ∧ w'.cell? ⟨ba, oa + k * 11 + 5, none⟩ = some a5 ∧ w'.cell? ⟨ba, oa + k * 11 + 6, none⟩ = some a6 ∧ w'.cell? ⟨ba, oa + k * 11 + 7, none⟩ = some a7 ∧ w'.cell? ⟨ba, oa + k * 11 + 8, none⟩ = some a8 ∧ w'.cell? ⟨ba, oa + k * 11 + 9, none⟩ = some a9 ∧ w'.cell? ⟨ba, oa + k * 11 + 10, none⟩ = some a10 ∧ w'.cell? ⟨bb, ob + k * 11, none⟩ = some c0 ∧ w'.cell? ⟨bb, ob + k * 11 + 1, none⟩ = some c1 ∧ w'.cell? ⟨bb, ob + k * 11 + 2, none⟩ = some c2 ∧ w'.cell? ⟨bb, ob + k * 11 + 3, none⟩ = some c3 ∧ w'.cell? ⟨bb, ob + k * 11 + 4, none⟩ = some c4 ∧ w'.cell? ⟨bb, ob + k * 11 + 5, none⟩ = some c5 ∧ w'.cell? ⟨bb, ob + k * 11 + 6, none⟩ = some c6 ∧ w'.cell? ⟨bb, ob + k * 11 + 7, none⟩ = some c7 ∧ w'.cell? ⟨bb, ob + k * 11 + 8, none⟩ = some c8 ∧ w'.cell? ⟨bb, ob + k * 11 + 9, none⟩ = some c9 ∧ w'.cell? ⟨bb, ob + k * 11 + 10, none⟩ = some c10)) (by kernel_rfl) ?_ (fun hHeld => ?_)
              · exact hSk _ hb.drew
              refine wpAnyH_take (i := 0) (v := ?vm0) rfl (by kernel_rfl) (by kernel_rfl) (by kernel_rfl) (fun _ _ _ h => h) (.inl ⟨by rfl, ?hym0⟩) (by assumption) ?restm0
              case hym0 => (intro w hSw; (try dsimp only at hSw); go_simp; first | done | with_reducible rfl)
              (try simp only [Act.put, pu1, pu2, pu3, pu4, pu5, pu6])
              refine wpAnyH_take (i := 1) (v := ?vm1) rfl (by kernel_rfl) (by kernel_rfl) (by kernel_rfl) (fun _ _ _ h => h) (.inl ⟨by rfl, ?hym1⟩) (by assumption) ?restm1
              case hym1 => (intro w hSw; (try dsimp only at hSw); go_simp; first | done | with_reducible rfl)
              (try simp only [Act.put, pu1, pu2, pu3, pu4, pu5, pu6])
              refine wpAnyH_take (i := 2) (v := ?vm2) rfl (by kernel_rfl) (by kernel_rfl) (by kernel_rfl) (fun _ _ _ h => h) (.inl ⟨by rfl, ?hym2⟩) (by assumption) ?restm2
              case hym2 => (intro w hSw; (try dsimp only at hSw); go_simp; first | done | with_reducible rfl)
              (try simp only [Act.put, pu1, pu2, pu3, pu4, pu5, pu6])
              refine wpAnyH_take (i := 3) (v := ?vm3) rfl (by kernel_rfl) (by kernel_rfl) (by kernel_rfl) (fun _ _ _ h => h) (.inl ⟨by rfl, ?hym3⟩) (by assumption) ?restm3
              case hym3 => (intro w hSw; (try dsimp only at hSw); go_simp; first | done | with_reducible rfl)
              (try simp only [Act.put, pu1, pu2, pu3, pu4, pu5, pu6])
              refine wpAnyH_take (i := 4) (v := ?vm4) rfl (by kernel_rfl) (by kernel_rfl) (by kernel_rfl) (fun _ _ _ h => h) (.inl ⟨by rfl, ?hym4⟩) (by assumption) ?restm4
              case hym4 => (intro w hSw; (try dsimp only at hSw); go_simp; first | done | with_reducible rfl)
              (try simp only [Act.put, pu1, pu2, pu3, pu4, pu5, pu6])
              refine wpAnyH_take (i := 5) (v := ?vm5) rfl (by kernel_rfl) (by kernel_rfl) (by kernel_rfl) (fun _ _ _ h => h) (.inl ⟨by rfl, ?hym5⟩) (by assumption) ?restm5
              case hym5 => (intro w hSw; (try dsimp only at hSw); go_simp; first | done | with_reducible rfl)
              (try simp only [Act.put, pu1, pu2, pu3, pu4, pu5, pu6])
              refine wpAnyH_take (i := 6) (v := ?vm6) rfl (by kernel_rfl) (by kernel_rfl) (by kernel_rfl) (fun _ _ _ h => h) (.inl ⟨by rfl, ?hym6⟩) (by assumption) ?restm6
              case hym6 => (intro w hSw; (try dsimp only at hSw); go_simp; first | done | with_reducible rfl)
              (try simp only [Act.put, pu1, pu2, pu3, pu4, pu5, pu6])
              refine wpAnyH_take (i := 7) (v := ?vm7) rfl (by kernel_rfl) (by kernel_rfl) (by kernel_rfl) (fun _ _ _ h => h) (.inl ⟨by rfl, ?hym7⟩) (by assumption) ?restm7
              case hym7 => (intro w hSw; (try dsimp only at hSw); go_simp; first | done | with_reducible rfl)
              (try simp only [Act.put, pu1, pu2, pu3, pu4, pu5, pu6])
              refine wpAnyH_ready (rs := [8]) (by kernel_rfl) (by simp) ?_
              refine AllReadyH.cons rfl (fun K hK => ?_) AllReadyH.nil
              rw [if_pos (by rfl)]
              go_simp
              refine (hih.out wr.drew (TRep.keep (keeps_of_below hb.drew) _ _ htaH.out) (TRep.keep (keeps_of_below hb.drew) _ _ htbH.out)).mono ?_
              rw [hrH.out]
              rintro e w1 ⟨rfl, hb1⟩
              have hbw1 : Below w.heap.size w w1 := hb.drew.trans (below_le hb1 hb.size)
              refine hK.out _ _ ?_ (fun hHeld2 => ?_)
              · exact hSk _ hbw1
              clear hK K
              (try simp only [Act.put, pu1, pu2, pu3, pu4, pu5, pu6])
              refine wpAnyH_take (i := 9) (v := ?vm9) rfl (by kernel_rfl) (by kernel_rfl) (by kernel_rfl) (fun _ _ _ h => h) (.inl ⟨by rfl, ?hym9⟩) (by assumption) ?restm9
              case hym9 => (intro w hSw; (try dsimp only at hSw); go_simp; first | done | with_reducible rfl)
              (try simp only [Act.put, pu1, pu2, pu3, pu4, pu5, pu6])
              refine wpAnyH_done (by kernel_rfl) ?_ _
              have hfin : r = false := by rw [← heqH.out, hdrop.out, hrH.out]; rfl
              subst hfin
              go_wp2_with fail
              go_ret
              exact ⟨rfl, hbw1⟩
      · obtain rfl : k = lb.length := by omega
        have hfin : r = true := by rw [← heqH.out, List.drop_of_length_le (by omega), List.drop_of_length_le (by omega), sameTs]
        have hfinH := Lib.hid hfin
        clear hfin
        go_wp2_with fail
        go_ret
        rw [hfinH.out]
        exact ⟨rfl, hb⟩
  · have hln : ((la.length : Int) != (lb.length : Int)) = true := by simp; omega
    have hfin : r = false := by
      cases h : sameTs la lb with
      | true => exact absurd (sameTs_len _ _ h) hl
      | false => rw [hrr.out]; exact h
    subst hfin
    go_enter Try.func147, Try.ntmps147
    go_wp2_with fail
    go_ret
    exact ⟨rfl, Below.refl _ _⟩

set_option maxRecDepth 100000 in
set_option maxHeartbeats 1600000 in
theorem entries_same (la lb : List (ByteArray × Term)) (ih : ∀ u ∈ la.map (·.2), SameSaid u) (sa sb : Value) (xa xb : List Value) (w : World) (ha : AtRow w sa la.length 12 xa) (hta : EsRep w la xa) (hb : AtRow w sb lb.length 12 xb) (htb : EsRep w lb xb) :
    Calls Try.prog 148 #[sa, sb] w fun e w' => e = .returned (.bool (sameEs la lb)) ∧ Below w.heap.size w w' := by
  obtain ⟨oaa, capa, rfl, hcapa, hmaxa, hsma, -, -, hforma⟩ := ha
  obtain ⟨oab, capb, rfl, hcapb, hmaxb, hsmb, -, -, hformb⟩ := hb
  unfold maxLen at hmaxa hmaxb
  have hdata := Lib.hid (EsRep.at la xa hta)
  have hdatb := Lib.hid (EsRep.at lb xb htb)
  have hformaH := Lib.hid hforma
  have hformbH := Lib.hid hformb
  have ihH := Lib.hid ih
  obtain ⟨r, hr⟩ : ∃ r, r = sameEs la lb := ⟨_, rfl⟩
  have hrr := Lib.hid hr
  rw [← hr]
  clear hta htb hforma hformb ih hr
  by_cases hl : la.length = lb.length
  · have hln : ((lb.length : Int) != (lb.length : Int)) = false := by simp
    rw [hl]
    go_enter Try.func148, Try.ntmps148
    go_wp2_with fail
    go_loopw [5] (fun i wr => ∃ (k : Nat), k ≤ lb.length ∧ i = .int .i64 k ∧ sameEs (la.drop k) (lb.drop k) = r ∧ Below w.heap.size w wr) (fun i _ => lb.length - (intOf i).toNat)
    case atStart => exact ⟨0, Nat.zero_le _, rfl, by rw [hrr.out]; rfl, Below.refl _ _⟩
    case round =>
      obtain ⟨k, hk, rfl, heq, hb⟩ := hrel
      have heqH := Lib.hid heq
      clear heq
      by_cases hlt : k < lb.length
      · obtain ⟨ba, oa, rfl, hcella⟩ := hformaH.out (by omega)
        obtain ⟨bb, ob, rfl, hcellb⟩ := hformbH.out (by omega)
        obtain ⟨⟨s, t⟩, hp⟩ : ∃ p, la[k]? = some p := ⟨_, List.getElem?_eq_getElem (by omega)⟩
        obtain ⟨⟨s', u⟩, hq⟩ : ∃ p, lb[k]? = some p := ⟨_, List.getElem?_eq_getElem hlt⟩
        obtain ⟨cs, hta, -, na, ea⟩ := hdata.out k _ hp
        obtain ⟨ds, htb, -, nb, eb⟩ := hdatb.out k _ hq
        have hca : ∀ j, j < 11 → w.cell? ⟨ba, oa + k * 12 + (1 + j), none⟩ = cs[j]? := fun j hj => by
          have h1 := hcella (k * 12 + (1 + j)) (by omega)
          rw [ea j hj, ← Nat.add_assoc] at h1
          exact h1
        have hcb : ∀ j, j < 11 → w.cell? ⟨bb, ob + k * 12 + (1 + j), none⟩ = ds[j]? := fun j hj => by
          have h1 := hcellb (k * 12 + (1 + j)) (by omega)
          rw [eb j hj, ← Nat.add_assoc] at h1
          exact h1
        have hna : w.cell? ⟨ba, oa + k * 12, none⟩ = some (.string s) := (hcella (k * 12) (by omega)).trans na
        have hnb : w.cell? ⟨bb, ob + k * 12, none⟩ = some (.string s') := (hcellb (k * 12) (by omega)).trans nb
        have htaH := Lib.hid hta
        have htbH := Lib.hid htb
        have hih := Lib.hid (fun W h h' => ihH.out t (List.mem_map.2 ⟨_, List.mem_of_getElem? hp, rfl⟩) u cs ds W h h')
        have hdrop := Lib.hid (sameEs_drop hp hq)
        obtain ⟨a0, a1, a2, a3, a4, a5, a6, a7, a8, a9, a10, rfl⟩ := eleven hta.len
        obtain ⟨c0, c1, c2, c3, c4, c5, c6, c7, c8, c9, c10, rfl⟩ := eleven htb.len
        · clear ea eb hcella hcellb hta htb hp hq na nb
          have p0 := hca 0 (by omega)
          have p1 := hca 1 (by omega)
          have p2 := hca 2 (by omega)
          have p3 := hca 3 (by omega)
          have p4 := hca 4 (by omega)
          have p5 := hca 5 (by omega)
          have p6 := hca 6 (by omega)
          have p7 := hca 7 (by omega)
          have p8 := hca 8 (by omega)
          have p9 := hca 9 (by omega)
          have p10 := hca 10 (by omega)
          have q0 := hcb 0 (by omega)
          have q1 := hcb 1 (by omega)
          have q2 := hcb 2 (by omega)
          have q3 := hcb 3 (by omega)
          have q4 := hcb 4 (by omega)
          have q5 := hcb 5 (by omega)
          have q6 := hcb 6 (by omega)
          have q7 := hcb 7 (by omega)
          have q8 := hcb 8 (by omega)
          have q9 := hcb 9 (by omega)
          have q10 := hcb 10 (by omega)
          simp only [List.getElem?_cons_zero, List.getElem?_cons_succ, Nat.reduceAdd, Nat.add_zero] at p0 p1 p2 p3 p4 p5 p6 p7 p8 p9 p10 q0 q1 q2 q3 q4 q5 q6 q7 q8 q9 q10
          have hSk : ∀ w', Below w.heap.size w w' → w'.cell? ⟨ba, oa + k * 12, none⟩ = some (.string s) ∧ w'.cell? ⟨bb, ob + k * 12, none⟩ = some (.string s') ∧ w'.cell? ⟨ba, oa + k * 12 + 1, none⟩ = some a0 ∧ w'.cell? ⟨ba, oa + k * 12 + 2, none⟩ = some a1 ∧ w'.cell? ⟨ba, oa + k * 12 + 3, none⟩ = some a2 ∧ w'.cell? ⟨ba, oa + k * 12 + 4, none⟩ = some a3 ∧ w'.cell? ⟨ba, oa + k * 12 + 5, none⟩ = some a4 ∧ w'.cell? ⟨ba, oa + k * 12 + 6, none⟩ = some a5 ∧ w'.cell? ⟨ba, oa + k * 12 + 7, none⟩ = some a6 ∧ w'.cell? ⟨ba, oa + k * 12 + 8, none⟩ = some a7 ∧ w'.cell? ⟨ba, oa + k * 12 + 9, none⟩ = some a8 ∧ w'.cell? ⟨ba, oa + k * 12 + 10, none⟩ = some a9 ∧ w'.cell? ⟨ba, oa + k * 12 + 11, none⟩ = some a10 ∧ w'.cell? ⟨bb, ob + k * 12 + 1, none⟩ = some c0 ∧ w'.cell? ⟨bb, ob + k * 12 + 2, none⟩ = some c1 ∧ w'.cell? ⟨bb, ob + k * 12 + 3, none⟩ = some c2 ∧ w'.cell? ⟨bb, ob + k * 12 + 4, none⟩ = some c3 ∧ w'.cell? ⟨bb, ob + k * 12 + 5, none⟩ = some c4 ∧ w'.cell? ⟨bb, ob + k * 12 + 6, none⟩ = some c5 ∧ w'.cell? ⟨bb, ob + k * 12 + 7, none⟩ = some c6 ∧ w'.cell? ⟨bb, ob + k * 12 + 8, none⟩ = some c7 ∧ w'.cell? ⟨bb, ob + k * 12 + 9, none⟩ = some c8 ∧ w'.cell? ⟨bb, ob + k * 12 + 10, none⟩ = some c9 ∧ w'.cell? ⟨bb, ob + k * 12 + 11, none⟩ = some c10 := fun w' hb' => ⟨keeps_of_below hb' _ _ hna, keeps_of_below hb' _ _ hnb, keeps_of_below hb' _ _ p0, keeps_of_below hb' _ _ p1, keeps_of_below hb' _ _ p2, keeps_of_below hb' _ _ p3, keeps_of_below hb' _ _ p4, keeps_of_below hb' _ _ p5, keeps_of_below hb' _ _ p6, keeps_of_below hb' _ _ p7, keeps_of_below hb' _ _ p8, keeps_of_below hb' _ _ p9, keeps_of_below hb' _ _ p10, keeps_of_below hb' _ _ q0, keeps_of_below hb' _ _ q1, keeps_of_below hb' _ _ q2, keeps_of_below hb' _ _ q3, keeps_of_below hb' _ _ q4, keeps_of_below hb' _ _ q5, keeps_of_below hb' _ _ q6, keeps_of_below hb' _ _ q7, keeps_of_below hb' _ _ q8, keeps_of_below hb' _ _ q9, keeps_of_below hb' _ _ q10⟩
          clear hca hcb hna hnb p0 q0 p1 q1 p2 q2 p3 q3 p4 q4 p5 q5 p6 q6 p7 q7 p8 q8 p9 q9 p10 q10
          cases hnm : (s.toList == s'.toList) with
          | true =>
            have hnm2 : (s.toList != s'.toList) = false := by simpa using hnm
            have hnmH := Lib.hid hnm
            cases hr : sameT t u with
            | true =>
                have hrH := Lib.hid hr
                clear hr
                go_wp2_with fail
                refine wp_region_held_drew (S := (fun w' => w'.cell? ⟨ba, oa + k * 12, none⟩ = some (.string s) ∧ w'.cell? ⟨bb, ob + k * 12, none⟩ = some (.string s') ∧ w'.cell? ⟨ba, oa + k * 12 + 1, none⟩ = some a0 ∧ w'.cell? ⟨ba, oa + k * 12 + 2, none⟩ = some a1 ∧ w'.cell? ⟨ba, oa + k * 12 + 3, none⟩ = some a2 ∧ w'.cell? ⟨ba, oa + k * 12 + 4, none⟩ = some a3 ∧ w'.cell? ⟨ba, oa + k * 12 + 5, none⟩ = some a4 ∧ w'.cell? ⟨ba, oa + k * 12 + 6, none⟩ = some a5 ∧ w'.cell? ⟨ba, oa + k * 12 + 7, none⟩ = some a6 ∧ w'.cell? ⟨ba, oa + k * 12 + 8, none⟩ = some a7 ∧ w'.cell? ⟨ba, oa + k * 12 + 9, none⟩ = some a8 ∧ w'.cell? ⟨ba, oa + k * 12 + 10, none⟩ = some a9 ∧ w'.cell? ⟨ba, oa + k * 12 + 11, none⟩ = some a10 ∧ w'.cell? ⟨bb, ob + k * 12 + 1, none⟩ = some c0 ∧ w'.cell? ⟨bb, ob + k * 12 + 2, none⟩ = some c1 ∧ w'.cell? ⟨bb, ob + k * 12 + 3, none⟩ = some c2 ∧ w'.cell? ⟨bb, ob + k * 12 + 4, none⟩ = some c3 ∧ w'.cell? ⟨bb, ob + k * 12 + 5, none⟩ = some c4 ∧ w'.cell? ⟨bb, ob + k * 12 + 6, none⟩ = some c5 ∧ w'.cell? ⟨bb, ob + k * 12 + 7, none⟩ = some c6 ∧ w'.cell? ⟨bb, ob + k * 12 + 8, none⟩ = some c7 ∧ w'.cell? ⟨bb, ob + k * 12 + 9, none⟩ = some c8 ∧ w'.cell? ⟨bb, ob + k * 12 + 10, none⟩ = some c9 ∧ w'.cell? ⟨bb, ob + k * 12 + 11, none⟩ = some c10)) (by kernel_rfl) ?_ (fun hHeld => ?_)
                · exact hSk _ hb.drew
                refine wpAnyH_take (i := 0) (v := ?ve0) rfl (by kernel_rfl) (by kernel_rfl) (by kernel_rfl) (fun _ _ _ h => h) (.inl ⟨by rfl, ?hye0⟩) (by assumption) ?reste0
                case hye0 => (intro w hSw; (try dsimp only at hSw); go_simp; first | done | with_reducible rfl)
                (try simp only [Act.put, pu1, pu2, pu3, pu4, pu5, pu6])
                refine wpAnyH_take (i := 1) (v := ?ve1) rfl (by kernel_rfl) (by kernel_rfl) (by kernel_rfl) (fun _ _ _ h => h) (.inl ⟨by rfl, ?hye1⟩) (by assumption) ?reste1
                case hye1 => (intro w hSw; (try dsimp only at hSw); go_simp; first | done | with_reducible rfl)
                (try simp only [Act.put, pu1, pu2, pu3, pu4, pu5, pu6])
                refine wpAnyH_take (i := 2) (v := ?ve2) rfl (by kernel_rfl) (by kernel_rfl) (by kernel_rfl) (fun _ _ _ h => h) (.inl ⟨by rfl, ?hye2⟩) (by assumption) ?reste2
                case hye2 => (intro w hSw; (try dsimp only at hSw); go_simp; first | done | with_reducible rfl)
                (try simp only [Act.put, pu1, pu2, pu3, pu4, pu5, pu6])
                refine wpAnyH_take (i := 3) (v := ?ve3) rfl (by kernel_rfl) (by kernel_rfl) (by kernel_rfl) (fun _ _ _ h => h) (.inl ⟨by rfl, ?hye3⟩) (by assumption) ?reste3
                case hye3 => (intro w hSw; (try dsimp only at hSw); go_simp; first | done | with_reducible rfl)
                (try simp only [Act.put, pu1, pu2, pu3, pu4, pu5, pu6])
                refine wpAnyH_take (i := 4) (v := ?ve4) rfl (by kernel_rfl) (by kernel_rfl) (by kernel_rfl) (fun _ _ _ h => h) (.inl ⟨by rfl, ?hye4⟩) (by assumption) ?reste4
                case hye4 => (intro w hSw; (try dsimp only at hSw); go_simp; first | done | with_reducible rfl)
                (try simp only [Act.put, pu1, pu2, pu3, pu4, pu5, pu6])
                refine wpAnyH_take (i := 5) (v := ?ve5) rfl (by kernel_rfl) (by kernel_rfl) (by kernel_rfl) (fun _ _ _ h => h) (.inl ⟨by rfl, ?hye5⟩) (by assumption) ?reste5
                case hye5 => (intro w hSw; (try dsimp only at hSw); go_simp; first | done | with_reducible rfl)
                (try simp only [Act.put, pu1, pu2, pu3, pu4, pu5, pu6])
                refine wpAnyH_take (i := 6) (v := ?ve6) rfl (by kernel_rfl) (by kernel_rfl) (by kernel_rfl) (fun _ _ _ h => h) (.inl ⟨by rfl, ?hye6⟩) (by assumption) ?reste6
                case hye6 => (intro w hSw; (try dsimp only at hSw); go_simp; first | done | with_reducible rfl)
                (try simp only [Act.put, pu1, pu2, pu3, pu4, pu5, pu6])
                refine wpAnyH_take (i := 7) (v := ?ve7) rfl (by kernel_rfl) (by kernel_rfl) (by kernel_rfl) (fun _ _ _ h => h) (.inl ⟨by rfl, ?hye7⟩) (by assumption) ?reste7
                case hye7 => (intro w hSw; (try dsimp only at hSw); go_simp; first | done | with_reducible rfl)
                (try simp only [Act.put, pu1, pu2, pu3, pu4, pu5, pu6])
                refine wpAnyH_take (i := 8) (v := ?ve8) rfl (by kernel_rfl) (by kernel_rfl) (by kernel_rfl) (fun _ _ _ h => h) (.inl ⟨by rfl, ?hye8⟩) (by assumption) ?reste8
                case hye8 => (intro w hSw; (try dsimp only at hSw); go_simp; first | done | with_reducible rfl)
                (try simp only [Act.put, pu1, pu2, pu3, pu4, pu5, pu6])
                refine wpAnyH_take (i := 9) (v := ?ve9) rfl (by kernel_rfl) (by kernel_rfl) (by kernel_rfl) (fun _ _ _ h => h) (.inl ⟨by rfl, ?hye9⟩) (by assumption) ?reste9
                case hye9 => (intro w hSw; (try dsimp only at hSw); go_simp; first | done | with_reducible rfl)
                (try simp only [Act.put, pu1, pu2, pu3, pu4, pu5, pu6])
                refine wpAnyH_take (i := 10) (v := ?ve10) rfl (by kernel_rfl) (by kernel_rfl) (by kernel_rfl) (fun _ _ _ h => h) (.inl ⟨by rfl, ?hye10⟩) (by assumption) ?reste10
                case hye10 => (intro w hSw; (try dsimp only at hSw); go_simp; first | done | with_reducible rfl)
                (try simp only [Act.put, pu1, pu2, pu3, pu4, pu5, pu6])
                refine wpAnyH_take (i := 11) (v := ?ve11) rfl (by kernel_rfl) (by kernel_rfl) (by kernel_rfl) (fun _ _ _ h => h) (.inl ⟨by rfl, ?hye11⟩) (by assumption) ?reste11
                case hye11 => (intro w hSw; (try dsimp only at hSw); go_simp; first | done | with_reducible rfl)
                (try simp only [Act.put, pu1, pu2, pu3, pu4, pu5, pu6])
                refine wpAnyH_take (i := 12) (v := ?ve12) rfl (by kernel_rfl) (by kernel_rfl) (by kernel_rfl) (fun _ _ _ h => h) (.inl ⟨by rfl, ?hye12⟩) (by assumption) ?reste12
                case hye12 => (intro w hSw; (try dsimp only at hSw); go_simp; first | done | with_reducible rfl)
                (try simp only [Act.put, pu1, pu2, pu3, pu4, pu5, pu6])
                refine wpAnyH_take (i := 13) (v := ?ve13) rfl (by kernel_rfl) (by kernel_rfl) (by kernel_rfl) (fun _ _ _ h => h) (.inl ⟨by rfl, ?hye13⟩) (by assumption) ?reste13
                case hye13 => (intro w hSw; (try dsimp only at hSw); go_simp; first | done | with_reducible rfl)
                (try simp only [Act.put, pu1, pu2, pu3, pu4, pu5, pu6])
                refine wpAnyH_take (i := 14) (v := ?ve14) rfl (by kernel_rfl) (by kernel_rfl) (by kernel_rfl) (fun _ _ _ h => h) (.inl ⟨by rfl, ?hye14⟩) (by assumption) ?reste14
                case hye14 => (intro w hSw; (try dsimp only at hSw); go_simp; first | done | with_reducible rfl)
                (try simp only [Act.put, pu1, pu2, pu3, pu4, pu5, pu6])
                refine wpAnyH_take (i := 15) (v := ?ve15) rfl (by kernel_rfl) (by kernel_rfl) (by kernel_rfl) (fun _ _ _ h => h) (.inl ⟨by rfl, ?hye15⟩) (by assumption) ?reste15
                case hye15 => (intro w hSw; (try dsimp only at hSw); go_simp; first | done | with_reducible rfl)
                (try simp only [Act.put, pu1, pu2, pu3, pu4, pu5, pu6])
                refine wpAnyH_take (i := 16) (v := ?ve16) rfl (by kernel_rfl) (by kernel_rfl) (by kernel_rfl) (fun _ _ _ h => h) (.inl ⟨by rfl, ?hye16⟩) (by assumption) ?reste16
                case hye16 => (intro w hSw; (try dsimp only at hSw); go_simp; first | done | with_reducible rfl)
                (try simp only [Act.put, pu1, pu2, pu3, pu4, pu5, pu6])
                refine wpAnyH_take (i := 17) (v := ?ve17) rfl (by kernel_rfl) (by kernel_rfl) (by kernel_rfl) (fun _ _ _ h => h) (.inl ⟨by rfl, ?hye17⟩) (by assumption) ?reste17
                case hye17 => (intro w hSw; (try dsimp only at hSw); go_simp; first | done | with_reducible rfl)
                (try simp only [Act.put, pu1, pu2, pu3, pu4, pu5, pu6])
                refine wpAnyH_take (i := 18) (v := ?ve18) rfl (by kernel_rfl) (by kernel_rfl) (by kernel_rfl) (fun _ _ _ h => h) (.inl ⟨by rfl, ?hye18⟩) (by assumption) ?reste18
                case hye18 => (intro w hSw; (try dsimp only at hSw); go_simp; first | done | with_reducible rfl)
                (try simp only [Act.put, pu1, pu2, pu3, pu4, pu5, pu6])
                refine wpAnyH_take (i := 19) (v := ?ve19) rfl (by kernel_rfl) (by kernel_rfl) (by kernel_rfl) (fun _ _ _ h => h) (.inl ⟨by rfl, ?hye19⟩) (by assumption) ?reste19
                case hye19 => (intro w hSw; (try dsimp only at hSw); go_simp; first | done | with_reducible rfl)
                (try simp only [Act.put, pu1, pu2, pu3, pu4, pu5, pu6])
                refine wpAnyH_take (i := 20) (v := ?ve20) rfl (by kernel_rfl) (by kernel_rfl) (by kernel_rfl) (fun _ _ _ h => h) (.inl ⟨by rfl, ?hye20⟩) (by assumption) ?reste20
                case hye20 => (intro w hSw; (try dsimp only at hSw); go_simp; first | done | with_reducible rfl)
                (try simp only [Act.put, pu1, pu2, pu3, pu4, pu5, pu6])
                refine wpAnyH_take (i := 21) (v := ?ve21) rfl (by kernel_rfl) (by kernel_rfl) (by kernel_rfl) (fun _ _ _ h => h) (.inl ⟨by rfl, ?hye21⟩) (by assumption) ?reste21
                case hye21 => (intro w hSw; (try dsimp only at hSw); go_simp; first | done | with_reducible rfl)
                (try simp only [Act.put, pu1, pu2, pu3, pu4, pu5, pu6])
                refine wpAnyH_ready (rs := [22]) (by kernel_rfl) (by simp) ?_
                refine AllReadyH.cons rfl (fun K hK => ?_) AllReadyH.nil
                rw [if_pos (by rfl)]
                go_simp
                refine (hih.out wr.drew (TRep.keep (keeps_of_below hb.drew) _ _ htaH.out) (TRep.keep (keeps_of_below hb.drew) _ _ htbH.out)).mono ?_
                rw [hrH.out]
                rintro e w1 ⟨rfl, hb1⟩
                have hbw1 : Below w.heap.size w w1 := hb.drew.trans (below_le hb1 hb.size)
                refine hK.out _ _ ?_ (fun hHeld2 => ?_)
                · exact hSk _ hbw1
                clear hK K
                (try simp only [Act.put, pu1, pu2, pu3, pu4, pu5, pu6])
                refine wpAnyH_take (i := 23) (v := ?ve23) rfl (by kernel_rfl) (by kernel_rfl) (by kernel_rfl) (fun _ _ _ h => h) (.inl ⟨by rfl, ?hye23⟩) (by assumption) ?reste23
                case hye23 => (intro w hSw; (try dsimp only at hSw); go_simp; first | done | with_reducible rfl)
                (try simp only [Act.put, pu1, pu2, pu3, pu4, pu5, pu6])
                refine wpAnyH_take (i := 24) (v := ?ve24) rfl (by kernel_rfl) (by kernel_rfl) (by kernel_rfl) (fun _ _ _ h => h) (.inl ⟨by rfl, ?hye24⟩) (by assumption) ?reste24
                case hye24 => (intro w hSw; (try dsimp only at hSw); go_simp; first | done | with_reducible rfl)
                (try simp only [Act.put, pu1, pu2, pu3, pu4, pu5, pu6])
                refine wpAnyH_done (by kernel_rfl) ?_ _
                go_wp2_with fail
                go_roundw
                case rel => exact ⟨k + 1, by omega, by go_num, by rw [← heqH.out, hdrop.out, hrH.out, hnmH.out]; rfl, hbw1⟩
                case measure => simp [intOf]; omega
            | false =>
                have hrH := Lib.hid hr
                clear hr
                go_wp2_with fail
                refine wp_region_held_drew (S := (fun w' => w'.cell? ⟨ba, oa + k * 12, none⟩ = some (.string s) ∧ w'.cell? ⟨bb, ob + k * 12, none⟩ = some (.string s') ∧ w'.cell? ⟨ba, oa + k * 12 + 1, none⟩ = some a0 ∧ w'.cell? ⟨ba, oa + k * 12 + 2, none⟩ = some a1 ∧ w'.cell? ⟨ba, oa + k * 12 + 3, none⟩ = some a2 ∧ w'.cell? ⟨ba, oa + k * 12 + 4, none⟩ = some a3 ∧ w'.cell? ⟨ba, oa + k * 12 + 5, none⟩ = some a4 ∧ w'.cell? ⟨ba, oa + k * 12 + 6, none⟩ = some a5 ∧ w'.cell? ⟨ba, oa + k * 12 + 7, none⟩ = some a6 ∧ w'.cell? ⟨ba, oa + k * 12 + 8, none⟩ = some a7 ∧ w'.cell? ⟨ba, oa + k * 12 + 9, none⟩ = some a8 ∧ w'.cell? ⟨ba, oa + k * 12 + 10, none⟩ = some a9 ∧ w'.cell? ⟨ba, oa + k * 12 + 11, none⟩ = some a10 ∧ w'.cell? ⟨bb, ob + k * 12 + 1, none⟩ = some c0 ∧ w'.cell? ⟨bb, ob + k * 12 + 2, none⟩ = some c1 ∧ w'.cell? ⟨bb, ob + k * 12 + 3, none⟩ = some c2 ∧ w'.cell? ⟨bb, ob + k * 12 + 4, none⟩ = some c3 ∧ w'.cell? ⟨bb, ob + k * 12 + 5, none⟩ = some c4 ∧ w'.cell? ⟨bb, ob + k * 12 + 6, none⟩ = some c5 ∧ w'.cell? ⟨bb, ob + k * 12 + 7, none⟩ = some c6 ∧ w'.cell? ⟨bb, ob + k * 12 + 8, none⟩ = some c7 ∧ w'.cell? ⟨bb, ob + k * 12 + 9, none⟩ = some c8 ∧ w'.cell? ⟨bb, ob + k * 12 + 10, none⟩ = some c9 ∧ w'.cell? ⟨bb, ob + k * 12 + 11, none⟩ = some c10)) (by kernel_rfl) ?_ (fun hHeld => ?_)
                · exact hSk _ hb.drew
                refine wpAnyH_take (i := 0) (v := ?vf0) rfl (by kernel_rfl) (by kernel_rfl) (by kernel_rfl) (fun _ _ _ h => h) (.inl ⟨by rfl, ?hyf0⟩) (by assumption) ?restf0
                case hyf0 => (intro w hSw; (try dsimp only at hSw); go_simp; first | done | with_reducible rfl)
                (try simp only [Act.put, pu1, pu2, pu3, pu4, pu5, pu6])
                refine wpAnyH_take (i := 1) (v := ?vf1) rfl (by kernel_rfl) (by kernel_rfl) (by kernel_rfl) (fun _ _ _ h => h) (.inl ⟨by rfl, ?hyf1⟩) (by assumption) ?restf1
                case hyf1 => (intro w hSw; (try dsimp only at hSw); go_simp; first | done | with_reducible rfl)
                (try simp only [Act.put, pu1, pu2, pu3, pu4, pu5, pu6])
                refine wpAnyH_take (i := 2) (v := ?vf2) rfl (by kernel_rfl) (by kernel_rfl) (by kernel_rfl) (fun _ _ _ h => h) (.inl ⟨by rfl, ?hyf2⟩) (by assumption) ?restf2
                case hyf2 => (intro w hSw; (try dsimp only at hSw); go_simp; first | done | with_reducible rfl)
                (try simp only [Act.put, pu1, pu2, pu3, pu4, pu5, pu6])
                refine wpAnyH_take (i := 3) (v := ?vf3) rfl (by kernel_rfl) (by kernel_rfl) (by kernel_rfl) (fun _ _ _ h => h) (.inl ⟨by rfl, ?hyf3⟩) (by assumption) ?restf3
                case hyf3 => (intro w hSw; (try dsimp only at hSw); go_simp; first | done | with_reducible rfl)
                (try simp only [Act.put, pu1, pu2, pu3, pu4, pu5, pu6])
                refine wpAnyH_take (i := 4) (v := ?vf4) rfl (by kernel_rfl) (by kernel_rfl) (by kernel_rfl) (fun _ _ _ h => h) (.inl ⟨by rfl, ?hyf4⟩) (by assumption) ?restf4
                case hyf4 => (intro w hSw; (try dsimp only at hSw); go_simp; first | done | with_reducible rfl)
                (try simp only [Act.put, pu1, pu2, pu3, pu4, pu5, pu6])
                refine wpAnyH_take (i := 5) (v := ?vf5) rfl (by kernel_rfl) (by kernel_rfl) (by kernel_rfl) (fun _ _ _ h => h) (.inl ⟨by rfl, ?hyf5⟩) (by assumption) ?restf5
                case hyf5 => (intro w hSw; (try dsimp only at hSw); go_simp; first | done | with_reducible rfl)
                (try simp only [Act.put, pu1, pu2, pu3, pu4, pu5, pu6])
                refine wpAnyH_take (i := 6) (v := ?vf6) rfl (by kernel_rfl) (by kernel_rfl) (by kernel_rfl) (fun _ _ _ h => h) (.inl ⟨by rfl, ?hyf6⟩) (by assumption) ?restf6
                case hyf6 => (intro w hSw; (try dsimp only at hSw); go_simp; first | done | with_reducible rfl)
                (try simp only [Act.put, pu1, pu2, pu3, pu4, pu5, pu6])
                refine wpAnyH_take (i := 7) (v := ?vf7) rfl (by kernel_rfl) (by kernel_rfl) (by kernel_rfl) (fun _ _ _ h => h) (.inl ⟨by rfl, ?hyf7⟩) (by assumption) ?restf7
                case hyf7 => (intro w hSw; (try dsimp only at hSw); go_simp; first | done | with_reducible rfl)
                (try simp only [Act.put, pu1, pu2, pu3, pu4, pu5, pu6])
                refine wpAnyH_take (i := 8) (v := ?vf8) rfl (by kernel_rfl) (by kernel_rfl) (by kernel_rfl) (fun _ _ _ h => h) (.inl ⟨by rfl, ?hyf8⟩) (by assumption) ?restf8
                case hyf8 => (intro w hSw; (try dsimp only at hSw); go_simp; first | done | with_reducible rfl)
                (try simp only [Act.put, pu1, pu2, pu3, pu4, pu5, pu6])
                refine wpAnyH_take (i := 9) (v := ?vf9) rfl (by kernel_rfl) (by kernel_rfl) (by kernel_rfl) (fun _ _ _ h => h) (.inl ⟨by rfl, ?hyf9⟩) (by assumption) ?restf9
                case hyf9 => (intro w hSw; (try dsimp only at hSw); go_simp; first | done | with_reducible rfl)
                (try simp only [Act.put, pu1, pu2, pu3, pu4, pu5, pu6])
                refine wpAnyH_take (i := 10) (v := ?vf10) rfl (by kernel_rfl) (by kernel_rfl) (by kernel_rfl) (fun _ _ _ h => h) (.inl ⟨by rfl, ?hyf10⟩) (by assumption) ?restf10
                case hyf10 => (intro w hSw; (try dsimp only at hSw); go_simp; first | done | with_reducible rfl)
                (try simp only [Act.put, pu1, pu2, pu3, pu4, pu5, pu6])
                refine wpAnyH_take (i := 11) (v := ?vf11) rfl (by kernel_rfl) (by kernel_rfl) (by kernel_rfl) (fun _ _ _ h => h) (.inl ⟨by rfl, ?hyf11⟩) (by assumption) ?restf11
                case hyf11 => (intro w hSw; (try dsimp only at hSw); go_simp; first | done | with_reducible rfl)
                (try simp only [Act.put, pu1, pu2, pu3, pu4, pu5, pu6])
                refine wpAnyH_take (i := 12) (v := ?vf12) rfl (by kernel_rfl) (by kernel_rfl) (by kernel_rfl) (fun _ _ _ h => h) (.inl ⟨by rfl, ?hyf12⟩) (by assumption) ?restf12
                case hyf12 => (intro w hSw; (try dsimp only at hSw); go_simp; first | done | with_reducible rfl)
                (try simp only [Act.put, pu1, pu2, pu3, pu4, pu5, pu6])
                refine wpAnyH_take (i := 13) (v := ?vf13) rfl (by kernel_rfl) (by kernel_rfl) (by kernel_rfl) (fun _ _ _ h => h) (.inl ⟨by rfl, ?hyf13⟩) (by assumption) ?restf13
                case hyf13 => (intro w hSw; (try dsimp only at hSw); go_simp; first | done | with_reducible rfl)
                (try simp only [Act.put, pu1, pu2, pu3, pu4, pu5, pu6])
                refine wpAnyH_take (i := 14) (v := ?vf14) rfl (by kernel_rfl) (by kernel_rfl) (by kernel_rfl) (fun _ _ _ h => h) (.inl ⟨by rfl, ?hyf14⟩) (by assumption) ?restf14
                case hyf14 => (intro w hSw; (try dsimp only at hSw); go_simp; first | done | with_reducible rfl)
                (try simp only [Act.put, pu1, pu2, pu3, pu4, pu5, pu6])
                refine wpAnyH_take (i := 15) (v := ?vf15) rfl (by kernel_rfl) (by kernel_rfl) (by kernel_rfl) (fun _ _ _ h => h) (.inl ⟨by rfl, ?hyf15⟩) (by assumption) ?restf15
                case hyf15 => (intro w hSw; (try dsimp only at hSw); go_simp; first | done | with_reducible rfl)
                (try simp only [Act.put, pu1, pu2, pu3, pu4, pu5, pu6])
                refine wpAnyH_take (i := 16) (v := ?vf16) rfl (by kernel_rfl) (by kernel_rfl) (by kernel_rfl) (fun _ _ _ h => h) (.inl ⟨by rfl, ?hyf16⟩) (by assumption) ?restf16
                case hyf16 => (intro w hSw; (try dsimp only at hSw); go_simp; first | done | with_reducible rfl)
                (try simp only [Act.put, pu1, pu2, pu3, pu4, pu5, pu6])
                refine wpAnyH_take (i := 17) (v := ?vf17) rfl (by kernel_rfl) (by kernel_rfl) (by kernel_rfl) (fun _ _ _ h => h) (.inl ⟨by rfl, ?hyf17⟩) (by assumption) ?restf17
                case hyf17 => (intro w hSw; (try dsimp only at hSw); go_simp; first | done | with_reducible rfl)
                (try simp only [Act.put, pu1, pu2, pu3, pu4, pu5, pu6])
                refine wpAnyH_take (i := 18) (v := ?vf18) rfl (by kernel_rfl) (by kernel_rfl) (by kernel_rfl) (fun _ _ _ h => h) (.inl ⟨by rfl, ?hyf18⟩) (by assumption) ?restf18
                case hyf18 => (intro w hSw; (try dsimp only at hSw); go_simp; first | done | with_reducible rfl)
                (try simp only [Act.put, pu1, pu2, pu3, pu4, pu5, pu6])
                refine wpAnyH_take (i := 19) (v := ?vf19) rfl (by kernel_rfl) (by kernel_rfl) (by kernel_rfl) (fun _ _ _ h => h) (.inl ⟨by rfl, ?hyf19⟩) (by assumption) ?restf19
                case hyf19 => (intro w hSw; (try dsimp only at hSw); go_simp; first | done | with_reducible rfl)
                (try simp only [Act.put, pu1, pu2, pu3, pu4, pu5, pu6])
                refine wpAnyH_take (i := 20) (v := ?vf20) rfl (by kernel_rfl) (by kernel_rfl) (by kernel_rfl) (fun _ _ _ h => h) (.inl ⟨by rfl, ?hyf20⟩) (by assumption) ?restf20
                case hyf20 => (intro w hSw; (try dsimp only at hSw); go_simp; first | done | with_reducible rfl)
                (try simp only [Act.put, pu1, pu2, pu3, pu4, pu5, pu6])
                refine wpAnyH_take (i := 21) (v := ?vf21) rfl (by kernel_rfl) (by kernel_rfl) (by kernel_rfl) (fun _ _ _ h => h) (.inl ⟨by rfl, ?hyf21⟩) (by assumption) ?restf21
                case hyf21 => (intro w hSw; (try dsimp only at hSw); go_simp; first | done | with_reducible rfl)
                (try simp only [Act.put, pu1, pu2, pu3, pu4, pu5, pu6])
                refine wpAnyH_ready (rs := [22]) (by kernel_rfl) (by simp) ?_
                refine AllReadyH.cons rfl (fun K hK => ?_) AllReadyH.nil
                rw [if_pos (by rfl)]
                go_simp
                refine (hih.out wr.drew (TRep.keep (keeps_of_below hb.drew) _ _ htaH.out) (TRep.keep (keeps_of_below hb.drew) _ _ htbH.out)).mono ?_
                rw [hrH.out]
                rintro e w1 ⟨rfl, hb1⟩
                have hbw1 : Below w.heap.size w w1 := hb.drew.trans (below_le hb1 hb.size)
                refine hK.out _ _ ?_ (fun hHeld2 => ?_)
                · exact hSk _ hbw1
                clear hK K
                (try simp only [Act.put, pu1, pu2, pu3, pu4, pu5, pu6])
                refine wpAnyH_take (i := 23) (v := ?vf23) rfl (by kernel_rfl) (by kernel_rfl) (by kernel_rfl) (fun _ _ _ h => h) (.inl ⟨by rfl, ?hyf23⟩) (by assumption) ?restf23
                case hyf23 => (intro w hSw; (try dsimp only at hSw); go_simp; first | done | with_reducible rfl)
                (try simp only [Act.put, pu1, pu2, pu3, pu4, pu5, pu6])
                refine wpAnyH_take (i := 24) (v := ?vf24) rfl (by kernel_rfl) (by kernel_rfl) (by kernel_rfl) (fun _ _ _ h => h) (.inl ⟨by rfl, ?hyf24⟩) (by assumption) ?restf24
                case hyf24 => (intro w hSw; (try dsimp only at hSw); go_simp; first | done | with_reducible rfl)
                (try simp only [Act.put, pu1, pu2, pu3, pu4, pu5, pu6])
                refine wpAnyH_done (by kernel_rfl) ?_ _
                have hfin : r = false := by rw [← heqH.out, hdrop.out, hrH.out, hnmH.out]; rfl
                subst hfin
                go_wp2_with fail
                go_ret
                exact ⟨rfl, hbw1⟩
          | false =>
              have hnm2 : (s.toList != s'.toList) = true := by simpa using hnm
              have hnmH := Lib.hid hnm
              have hfin : r = false := by rw [← heqH.out, hdrop.out, hnmH.out]; rfl
              subst hfin
              go_wp2_with fail
              refine wp_region_held_drew (S := (fun w' => w'.cell? ⟨ba, oa + k * 12, none⟩ = some (.string s) ∧ w'.cell? ⟨bb, ob + k * 12, none⟩ = some (.string s') ∧ w'.cell? ⟨ba, oa + k * 12 + 1, none⟩ = some a0 ∧ w'.cell? ⟨ba, oa + k * 12 + 2, none⟩ = some a1 ∧ w'.cell? ⟨ba, oa + k * 12 + 3, none⟩ = some a2 ∧ w'.cell? ⟨ba, oa + k * 12 + 4, none⟩ = some a3 ∧ w'.cell? ⟨ba, oa + k * 12 + 5, none⟩ = some a4 ∧ w'.cell? ⟨ba, oa + k * 12 + 6, none⟩ = some a5 ∧ w'.cell? ⟨ba, oa + k * 12 + 7, none⟩ = some a6 ∧ w'.cell? ⟨ba, oa + k * 12 + 8, none⟩ = some a7 ∧ w'.cell? ⟨ba, oa + k * 12 + 9, none⟩ = some a8 ∧ w'.cell? ⟨ba, oa + k * 12 + 10, none⟩ = some a9 ∧ w'.cell? ⟨ba, oa + k * 12 + 11, none⟩ = some a10 ∧ w'.cell? ⟨bb, ob + k * 12 + 1, none⟩ = some c0 ∧ w'.cell? ⟨bb, ob + k * 12 + 2, none⟩ = some c1 ∧ w'.cell? ⟨bb, ob + k * 12 + 3, none⟩ = some c2 ∧ w'.cell? ⟨bb, ob + k * 12 + 4, none⟩ = some c3 ∧ w'.cell? ⟨bb, ob + k * 12 + 5, none⟩ = some c4 ∧ w'.cell? ⟨bb, ob + k * 12 + 6, none⟩ = some c5 ∧ w'.cell? ⟨bb, ob + k * 12 + 7, none⟩ = some c6 ∧ w'.cell? ⟨bb, ob + k * 12 + 8, none⟩ = some c7 ∧ w'.cell? ⟨bb, ob + k * 12 + 9, none⟩ = some c8 ∧ w'.cell? ⟨bb, ob + k * 12 + 10, none⟩ = some c9 ∧ w'.cell? ⟨bb, ob + k * 12 + 11, none⟩ = some c10)) (by kernel_rfl) ?_ (fun hHeld => ?_)
              · exact hSk _ hb.drew
              refine wpAnyH_take (i := 0) (v := ?vg0) rfl (by kernel_rfl) (by kernel_rfl) (by kernel_rfl) (fun _ _ _ h => h) (.inl ⟨by rfl, ?hyg0⟩) (by assumption) ?restg0
              case hyg0 => (intro w hSw; (try dsimp only at hSw); go_simp; first | done | with_reducible rfl)
              (try simp only [Act.put, pu1, pu2, pu3, pu4, pu5, pu6])
              refine wpAnyH_take (i := 1) (v := ?vg1) rfl (by kernel_rfl) (by kernel_rfl) (by kernel_rfl) (fun _ _ _ h => h) (.inl ⟨by rfl, ?hyg1⟩) (by assumption) ?restg1
              case hyg1 => (intro w hSw; (try dsimp only at hSw); go_simp; first | done | with_reducible rfl)
              (try simp only [Act.put, pu1, pu2, pu3, pu4, pu5, pu6])
              refine wpAnyH_take (i := 2) (v := ?vg2) rfl (by kernel_rfl) (by kernel_rfl) (by kernel_rfl) (fun _ _ _ h => h) (.inl ⟨by rfl, ?hyg2⟩) (by assumption) ?restg2
              case hyg2 => (intro w hSw; (try dsimp only at hSw); go_simp; first | done | with_reducible rfl)
              (try simp only [Act.put, pu1, pu2, pu3, pu4, pu5, pu6])
              refine wpAnyH_take (i := 3) (v := ?vg3) rfl (by kernel_rfl) (by kernel_rfl) (by kernel_rfl) (fun _ _ _ h => h) (.inl ⟨by rfl, ?hyg3⟩) (by assumption) ?restg3
              case hyg3 => (intro w hSw; (try dsimp only at hSw); go_simp; first | done | with_reducible rfl)
              (try simp only [Act.put, pu1, pu2, pu3, pu4, pu5, pu6])
              refine wpAnyH_take (i := 4) (v := ?vg4) rfl (by kernel_rfl) (by kernel_rfl) (by kernel_rfl) (fun _ _ _ h => h) (.inl ⟨by rfl, ?hyg4⟩) (by assumption) ?restg4
              case hyg4 => (intro w hSw; (try dsimp only at hSw); go_simp; first | done | with_reducible rfl)
              (try simp only [Act.put, pu1, pu2, pu3, pu4, pu5, pu6])
              refine wpAnyH_take (i := 5) (v := ?vg5) rfl (by kernel_rfl) (by kernel_rfl) (by kernel_rfl) (fun _ _ _ h => h) (.inl ⟨by rfl, ?hyg5⟩) (by assumption) ?restg5
              case hyg5 => (intro w hSw; (try dsimp only at hSw); go_simp; first | done | with_reducible rfl)
              (try simp only [Act.put, pu1, pu2, pu3, pu4, pu5, pu6])
              refine wpAnyH_take (i := 6) (v := ?vg6) rfl (by kernel_rfl) (by kernel_rfl) (by kernel_rfl) (fun _ _ _ h => h) (.inl ⟨by rfl, ?hyg6⟩) (by assumption) ?restg6
              case hyg6 => (intro w hSw; (try dsimp only at hSw); go_simp; first | done | with_reducible rfl)
              (try simp only [Act.put, pu1, pu2, pu3, pu4, pu5, pu6])
              refine wpAnyH_take (i := 7) (v := ?vg7) rfl (by kernel_rfl) (by kernel_rfl) (by kernel_rfl) (fun _ _ _ h => h) (.inl ⟨by rfl, ?hyg7⟩) (by assumption) ?restg7
              case hyg7 => (intro w hSw; (try dsimp only at hSw); go_simp; first | done | with_reducible rfl)
              (try simp only [Act.put, pu1, pu2, pu3, pu4, pu5, pu6])
              refine wpAnyH_take (i := 8) (v := ?vg8) rfl (by kernel_rfl) (by kernel_rfl) (by kernel_rfl) (fun _ _ _ h => h) (.inl ⟨by rfl, ?hyg8⟩) (by assumption) ?restg8
              case hyg8 => (intro w hSw; (try dsimp only at hSw); go_simp; first | done | with_reducible rfl)
              (try simp only [Act.put, pu1, pu2, pu3, pu4, pu5, pu6])
              refine wpAnyH_take (i := 9) (v := ?vg9) rfl (by kernel_rfl) (by kernel_rfl) (by kernel_rfl) (fun _ _ _ h => h) (.inl ⟨by rfl, ?hyg9⟩) (by assumption) ?restg9
              case hyg9 => (intro w hSw; (try dsimp only at hSw); go_simp; first | done | with_reducible rfl)
              (try simp only [Act.put, pu1, pu2, pu3, pu4, pu5, pu6])
              refine wpAnyH_take (i := 10) (v := ?vg10) rfl (by kernel_rfl) (by kernel_rfl) (by kernel_rfl) (fun _ _ _ h => h) (.inl ⟨by rfl, ?hyg10⟩) (by assumption) ?restg10
              case hyg10 => (intro w hSw; (try dsimp only at hSw); go_simp; first | done | with_reducible rfl)
              (try simp only [Act.put, pu1, pu2, pu3, pu4, pu5, pu6])
              refine wpAnyH_take (i := 11) (v := ?vg11) rfl (by kernel_rfl) (by kernel_rfl) (by kernel_rfl) (fun _ _ _ h => h) (.inl ⟨by rfl, ?hyg11⟩) (by assumption) ?restg11
              case hyg11 => (intro w hSw; (try dsimp only at hSw); go_simp; first | done | with_reducible rfl)
              (try simp only [Act.put, pu1, pu2, pu3, pu4, pu5, pu6])
              refine wpAnyH_take (i := 12) (v := undef) rfl (by kernel_rfl) (by kernel_rfl) (by kernel_rfl) (fun _ _ _ h => h) (.inr ⟨by rfl, rfl⟩) (by assumption) ?_
              (try simp only [Act.put, pu1, pu2, pu3, pu4, pu5, pu6])
              refine wpAnyH_take (i := 13) (v := undef) rfl (by kernel_rfl) (by kernel_rfl) (by kernel_rfl) (fun _ _ _ h => h) (.inr ⟨by rfl, rfl⟩) (by assumption) ?_
              (try simp only [Act.put, pu1, pu2, pu3, pu4, pu5, pu6])
              refine wpAnyH_take (i := 14) (v := undef) rfl (by kernel_rfl) (by kernel_rfl) (by kernel_rfl) (fun _ _ _ h => h) (.inr ⟨by rfl, rfl⟩) (by assumption) ?_
              (try simp only [Act.put, pu1, pu2, pu3, pu4, pu5, pu6])
              refine wpAnyH_take (i := 15) (v := undef) rfl (by kernel_rfl) (by kernel_rfl) (by kernel_rfl) (fun _ _ _ h => h) (.inr ⟨by rfl, rfl⟩) (by assumption) ?_
              (try simp only [Act.put, pu1, pu2, pu3, pu4, pu5, pu6])
              refine wpAnyH_take (i := 16) (v := undef) rfl (by kernel_rfl) (by kernel_rfl) (by kernel_rfl) (fun _ _ _ h => h) (.inr ⟨by rfl, rfl⟩) (by assumption) ?_
              (try simp only [Act.put, pu1, pu2, pu3, pu4, pu5, pu6])
              refine wpAnyH_take (i := 17) (v := undef) rfl (by kernel_rfl) (by kernel_rfl) (by kernel_rfl) (fun _ _ _ h => h) (.inr ⟨by rfl, rfl⟩) (by assumption) ?_
              (try simp only [Act.put, pu1, pu2, pu3, pu4, pu5, pu6])
              refine wpAnyH_take (i := 18) (v := undef) rfl (by kernel_rfl) (by kernel_rfl) (by kernel_rfl) (fun _ _ _ h => h) (.inr ⟨by rfl, rfl⟩) (by assumption) ?_
              (try simp only [Act.put, pu1, pu2, pu3, pu4, pu5, pu6])
              refine wpAnyH_take (i := 19) (v := undef) rfl (by kernel_rfl) (by kernel_rfl) (by kernel_rfl) (fun _ _ _ h => h) (.inr ⟨by rfl, rfl⟩) (by assumption) ?_
              (try simp only [Act.put, pu1, pu2, pu3, pu4, pu5, pu6])
              refine wpAnyH_take (i := 20) (v := undef) rfl (by kernel_rfl) (by kernel_rfl) (by kernel_rfl) (fun _ _ _ h => h) (.inr ⟨by rfl, rfl⟩) (by assumption) ?_
              (try simp only [Act.put, pu1, pu2, pu3, pu4, pu5, pu6])
              refine wpAnyH_take (i := 21) (v := undef) rfl (by kernel_rfl) (by kernel_rfl) (by kernel_rfl) (fun _ _ _ h => h) (.inr ⟨by rfl, rfl⟩) (by assumption) ?_
              (try simp only [Act.put, pu1, pu2, pu3, pu4, pu5, pu6])
              refine wpAnyH_take (i := 22) (v := undef) rfl (by kernel_rfl) (by kernel_rfl) (by kernel_rfl) (fun _ _ _ h => h) (.inr ⟨by rfl, rfl⟩) (by assumption) ?_
              (try simp only [Act.put, pu1, pu2, pu3, pu4, pu5, pu6])
              refine wpAnyH_take (i := 23) (v := undef) rfl (by kernel_rfl) (by kernel_rfl) (by kernel_rfl) (fun _ _ _ h => h) (.inr ⟨by rfl, rfl⟩) (by assumption) ?_
              (try simp only [Act.put, pu1, pu2, pu3, pu4, pu5, pu6])
              refine wpAnyH_take (i := 24) (v := ?vg24) rfl (by kernel_rfl) (by kernel_rfl) (by kernel_rfl) (fun _ _ _ h => h) (.inl ⟨by rfl, ?hyg24⟩) (by assumption) ?restg24
              case hyg24 => (intro w hSw; (try dsimp only at hSw); go_simp; first | done | with_reducible rfl)
              (try simp only [Act.put, pu1, pu2, pu3, pu4, pu5, pu6])
              refine wpAnyH_done (by kernel_rfl) ?_ _
              go_wp2_with fail
              go_ret
              exact ⟨rfl, hb.drew⟩
      · obtain rfl : k = lb.length := by omega
        have hfin : r = true := by rw [← heqH.out, List.drop_of_length_le (by omega), List.drop_of_length_le (by omega), sameEs]
        have hfinH := Lib.hid hfin
        clear hfin
        go_wp2_with fail
        go_ret
        rw [hfinH.out]
        exact ⟨rfl, hb⟩
  · have hln : ((la.length : Int) != (lb.length : Int)) = true := by simp; omega
    have hfin : r = false := by
      cases h : sameEs la lb with
      | true => exact absurd (sameEs_len _ _ h) hl
      | false => rw [hrr.out]; exact h
    subst hfin
    go_enter Try.func148, Try.ntmps148
    go_wp2_with fail
    go_ret
    exact ⟨rfl, Below.refl _ _⟩

end Go.Proofs.Ytgmdbpplfjkjmaa
