/- tenonmake.Alien: a value of no kind. -/
import Derived.Test.YtgmdbpplfjkjmaaValEnd
import Derived.MapFrom
import Derived.Carry
import Derived.Test.YtgmdbpplfjkjmaaTerm
import Derived.Deep.MidRow
namespace Go.Proofs.Ytgmdbpplfjkjmaa
open Go.RowKit Go.MapKept
set_option linter.unusedVariables false
set_option linter.unusedSimpArgs false

theorem getMap {W : World} {r : Nat} {es : Array MapEntry} {c : Nat} (hb : W.heap[r]? = some (.map es c)) : (getObj r).run Try.prog W = .ok (.map es c) W := by simp [getObj, Sem.run, hb]
theorem alien_map (w : World) : ∃ W', (Instr.mapUpdate 221 (.map (some w.heap.size)) (.string { data := #[97] }) (.int .i64 1)).run Try.prog (w.alloc (.map #[] 0)) = .ok () W' ∧ Below w.heap.size w W' := by
  have hb : (w.alloc (.map #[] 0)).heap[w.heap.size]? = some (.map #[] 0) := (heap_alloc _ _).1
  have hk : IsKey .string (.string { data := #[97] }) := trivial
  have hd := Try.underlying9
  have hm := Try.underlying221
  rcases findNow_spec hk (#[] : Array MapEntry).toList 0 (fun x hx => by cases hx) with ⟨h1, _⟩ | ⟨j, e, h1, h2, h3⟩
  · refine ⟨{ (w.alloc (.map #[] 0)) with heap := (w.alloc (.map #[] 0)).heap.setIfInBounds w.heap.size (.map #[{ key := .string { data := #[97] }, val := .int .i64 1, born := 0 }] 1) }, ?_, ?_⟩
    · have hg : (getObj w.heap.size).run Try.prog (w.alloc (.map #[] 0)) = .ok (.map #[] 0) (w.alloc (.map #[] 0)) := getMap hb
      have h1' : Instr.findNow .string (.string { data := #[97] }) [] 0 = some none := h1
      simp [Instr.mapUpdate, run_underlying hm, hg, run_checkKey hd hk, run_findKey hd h1', run_setObj_map _ hb, Result.andThen]
    · refine ⟨rfl, rfl, rfl, by simp, fun k hk => ?_⟩
      exact ((heap_set hb).2 k (by omega)).trans ((heap_alloc _ _).2 k hk)
  · simp at h2

/-- Which type Alien's value is of, by the rest by fourteen. -/
def alienM (m : Int) : TypeId :=
  bif m == 0 then 3 else bif m == 1 then 5 else bif m == 2 then 221 else bif m == 3 then 1 else bif m == 4 then 223 else bif m == 5 then 23 else bif m == 6 then 224 else bif m == 7 then 225 else bif m == 8 then 134 else bif m == 9 then 129 else bif m == 10 then 226 else bif m == 11 then 33 else bif m == 12 then 227 else 228
def alienT (n : Int) : TypeId := alienM (n.tmod 14)
theorem alien_kind (n : Int) : kinded (alienT n) = false := by
  simp only [alienT, alienM, Bool.apply_cond kinded, show kinded 3 = false from rfl, show kinded 5 = false from rfl, show kinded 221 = false from rfl, show kinded 1 = false from rfl, show kinded 223 = false from rfl, show kinded 23 = false from rfl, show kinded 224 = false from rfl, show kinded 225 = false from rfl, show kinded 134 = false from rfl, show kinded 129 = false from rfl, show kinded 226 = false from rfl, show kinded 33 = false from rfl, show kinded 227 = false from rfl, show kinded 228 = false from rfl, Bool.cond_self]
set_option maxRecDepth 100000 in
set_option maxHeartbeats 1600000 in
theorem alien_said (n : Int) (w : World) : Calls Try.prog 69 #[.int .i64 n] w fun e w' => (∃ y, e = .returned (.iface (alienT n) y)) ∧ Below w.heap.size w w' := by
  have hmm := @run_makeMap Try.prog
  obtain ⟨W', hins, hbel⟩ := alien_map w
  obtain ⟨m, hm⟩ : ∃ m, m = n.tmod 14 := ⟨_, rfl⟩
  have hT : alienT n = alienM m := by rw [hm]; rfl
  rw [hT]
  clear hT
  go_enter Try.func69, Try.ntmps69
  go_wp2
  all_goals go_ret
  all_goals (rw [← hm] at *)
  all_goals simp only [alienM, cond_true, cond_false, *]
  all_goals first | exact ⟨⟨_, rfl⟩, hbel⟩ | exact ⟨⟨_, rfl⟩, trivial⟩ | exact ⟨_, rfl⟩ | exact ⟨⟨_, rfl⟩, Below.refl _ _⟩ | exact ⟨⟨_, rfl⟩, (Below.refl _ _).alloc (Nat.le_refl _) _⟩
end Go.Proofs.Ytgmdbpplfjkjmaa

/-! tenonmake.Dict: a dict of its own out of entries. -/
namespace Go.Proofs.Ytgmdbpplfjkjmaa
open Go.RowKit
set_option linter.unusedVariables false
set_option linter.unusedSimpArgs false

mutual
/-- What Built makes of a term. -/
def builtV : Term → Val
  | .mk k b n fl tx bs rf ls es cl ver => bif k == 1 then .nil else bif k == 2 then .bool b else bif k == 3 then .int n else bif k == 4 then .float fl else bif k == 5 then .text tx else bif k == 6 then .bytes bs else bif k == 7 then .ref rf else
      bif k == 8 then .list (builtVs ls) else bif k == 9 then .dict (builtEs es) else bif k == 10 then .record cl ver (builtEs es) else bif k == 11 then .nothing else .alien (alienT n)
def builtVs : List Term → List Val
  | [] => []
  | t :: l => builtV t :: builtVs l
def builtEs : List (ByteArray × Term) → List (ByteArray × Val)
  | [] => []
  | p :: l => (p.1, builtE p) :: builtEs l
def builtE : ByteArray × Term → Val
  | (_, t) => builtV t
end
theorem builtVs_eq : ∀ l : List Term, builtVs l = l.map builtV
  | [] => by rw [builtVs]; rfl
  | t :: l => by rw [builtVs, builtVs_eq l]; rfl
theorem builtEs_eq : ∀ l : List (ByteArray × Term), builtEs l = l.map fun p => (p.1, builtV p.2)
  | [] => by rw [builtEs]; rfl
  | (s, t) :: l => by rw [builtEs, builtEs_eq l, builtE]; rfl
def BuiltSaid (t : Term) : Prop := ∀ (cs : List Value) (w : World), TRep w t cs → Calls Try.prog 11 #[.agg cs.toArray] w (Fresh (builtV t) w)

set_option maxRecDepth 100000 in
set_option maxHeartbeats 1600000 in
theorem dict_built (es : List (ByteArray × Term)) (ih : ∀ u ∈ es.map (·.2), BuiltSaid u) (sv : Value) (xs : List Value) (w : World) (ho : AtRow w sv es.length 12 xs) (hd : EsRep w es xs) :
    Calls Try.prog 68 #[sv] w (FreshD (builtEs es) w) := by
  obtain ⟨oa, cap, rfl, hcap, hmax, hsm, -, -, hform⟩ := ho
  unfold maxLen at hmax
  have hdat := Lib.hid (EsRep.at es xs hd)
  have hformH := Lib.hid hform
  have ihH := Lib.hid ih
  obtain ⟨i0, hi0, hz0, hz1, hz2⟩ := info_parts Try.infoField
  have hbe : builtEs es = es.map fun p => (p.1, builtV p.2) := builtEs_eq es
  rw [hbe]
  clear hd hform ih hbe
  go_enter Try.func68, Try.ntmps68
  go_wp2_with fail
  have hown0 := ownsRow_new w 220 2 w.heap.size (Nat.le_refl _)
  have hL0H := Lib.hid (Listed.made hown0)
  have hb0 : Below w.heap.size w (w.alloc (.cells #[] 220)) := (Below.refl _ _).alloc (Nat.le_refl _) _
  clear hown0
  go_loopw [3, 4] (fun sv i wr => ∃ (k : Nat) (ys : List Value) (gs : List Nat), k ≤ es.length ∧ i = .int .i64 k ∧ Listed w.heap.size wr 220 2 sv k ys gs ∧ DsRep wr ((es.map fun p => (p.1, builtV p.2)).take k) ys gs ∧ Below w.heap.size w wr) (fun _ i _ => es.length - (intOf i).toNat)
  case atStart => exact ⟨0, [], [], Nat.zero_le _, rfl, hL0H.out, ⟨rfl, rfl⟩, hb0⟩
  case round =>
    obtain ⟨k, ys, gs, hk, rfl, hL, hds, hb⟩ := hrel
    have hdsH := Lib.hid hds
    clear hds
    by_cases hlt : k < es.length
    · obtain ⟨b, o, rfl, hcells⟩ := hformH.out (by omega)
      obtain ⟨⟨s, t⟩, hp⟩ : ∃ p, es[k]? = some p := ⟨_, List.getElem?_eq_getElem hlt⟩
      obtain ⟨cs, ht, hsz, e0, e1⟩ := hdat.out k _ hp
      have hcell : ∀ j, j < 11 → w.cell? ⟨b, o + k * 12 + (1 + j), none⟩ = cs[j]? := fun j hj => by
        have h1 := hcells (k * 12 + (1 + j)) (by omega)
        rw [e1 j hj, ← Nat.add_assoc] at h1
        exact h1
      have hname : w.cell? ⟨b, o + k * 12, none⟩ = some (.string s) := (hcells (k * 12) (by omega)).trans e0
      have hlen := ht.len
      have htH := Lib.hid ht
      have hih := Lib.hid (fun W h => ihH.out t (List.mem_map.2 ⟨_, List.mem_of_getElem? hp, rfl⟩) cs W h)
      have hpH : Hid ((es.map fun p => (p.1, builtV p.2))[k]? = some (s, builtV t)) := Lib.hid (by rw [List.getElem?_map, hp]; rfl)
      have hszH := Lib.hid hsz
      match cs, hlen with
      | [c0, c1, c2, c3, c4, c5, c6, c7, c8, c9, c10], _ =>
        have q0 := hcell 0 (by omega)
        have q1 := hcell 1 (by omega)
        have q2 := hcell 2 (by omega)
        have q3 := hcell 3 (by omega)
        have q4 := hcell 4 (by omega)
        have q5 := hcell 5 (by omega)
        have q6 := hcell 6 (by omega)
        have q7 := hcell 7 (by omega)
        have q8 := hcell 8 (by omega)
        have q9 := hcell 9 (by omega)
        have q10 := hcell 10 (by omega)
        simp only [List.getElem?_cons_zero, List.getElem?_cons_succ, Nat.reduceAdd] at q0 q1 q2 q3 q4 q5 q6 q7 q8 q9 q10
        have hSk : ∀ w', Below w.heap.size w w' → w'.cell? ⟨b, o + k * 12, none⟩ = some (.string s) ∧ w'.cell? ⟨b, o + k * 12 + 1, none⟩ = some c0 ∧ w'.cell? ⟨b, o + k * 12 + 2, none⟩ = some c1 ∧ w'.cell? ⟨b, o + k * 12 + 3, none⟩ = some c2 ∧ w'.cell? ⟨b, o + k * 12 + 4, none⟩ = some c3 ∧ w'.cell? ⟨b, o + k * 12 + 5, none⟩ = some c4 ∧ w'.cell? ⟨b, o + k * 12 + 6, none⟩ = some c5 ∧ w'.cell? ⟨b, o + k * 12 + 7, none⟩ = some c6 ∧ w'.cell? ⟨b, o + k * 12 + 8, none⟩ = some c7 ∧ w'.cell? ⟨b, o + k * 12 + 9, none⟩ = some c8 ∧ w'.cell? ⟨b, o + k * 12 + 10, none⟩ = some c9 ∧ w'.cell? ⟨b, o + k * 12 + 11, none⟩ = some c10 := fun w' hb' =>
          ⟨keeps_of_below hb' _ _ hname, keeps_of_below hb' _ _ q0, keeps_of_below hb' _ _ q1, keeps_of_below hb' _ _ q2, keeps_of_below hb' _ _ q3, keeps_of_below hb' _ _ q4, keeps_of_below hb' _ _ q5, keeps_of_below hb' _ _ q6, keeps_of_below hb' _ _ q7, keeps_of_below hb' _ _ q8, keeps_of_below hb' _ _ q9, keeps_of_below hb' _ _ q10⟩
        clear hcell hcells e0 e1 ht hp hsz hname q0 q1 q2 q3 q4 q5 q6 q7 q8 q9 q10
        go_wp2_with fail
        refine wp_region_held_drew (S := (fun w' => w'.cell? ⟨b, o + k * 12, none⟩ = some (.string s) ∧ w'.cell? ⟨b, o + k * 12 + 1, none⟩ = some c0 ∧ w'.cell? ⟨b, o + k * 12 + 2, none⟩ = some c1 ∧ w'.cell? ⟨b, o + k * 12 + 3, none⟩ = some c2 ∧ w'.cell? ⟨b, o + k * 12 + 4, none⟩ = some c3 ∧ w'.cell? ⟨b, o + k * 12 + 5, none⟩ = some c4 ∧ w'.cell? ⟨b, o + k * 12 + 6, none⟩ = some c5 ∧ w'.cell? ⟨b, o + k * 12 + 7, none⟩ = some c6 ∧ w'.cell? ⟨b, o + k * 12 + 8, none⟩ = some c7 ∧ w'.cell? ⟨b, o + k * 12 + 9, none⟩ = some c8 ∧ w'.cell? ⟨b, o + k * 12 + 10, none⟩ = some c9 ∧ w'.cell? ⟨b, o + k * 12 + 11, none⟩ = some c10)) (by kernel_rfl) ?_ (fun hHeld => ?_)
        · exact hSk _ hb.drew
        refine wpAnyH_take (i := 0) (v := ?vd0) rfl (by kernel_rfl) (by kernel_rfl) (by kernel_rfl) (fun _ _ _ h => h) (.inl ⟨by rfl, ?hyd0⟩) (by assumption) ?restd0
        case hyd0 => (intro w hSw; (try dsimp only at hSw); go_simp; first | done | with_reducible rfl)
        (try simp only [Act.put, pu1, pu2, pu3, pu4, pu5, pu6])
        refine wpAnyH_take (i := 1) (v := ?vd1) rfl (by kernel_rfl) (by kernel_rfl) (by kernel_rfl) (fun _ _ _ h => h) (.inl ⟨by rfl, ?hyd1⟩) (by assumption) ?restd1
        case hyd1 => (intro w hSw; (try dsimp only at hSw); go_simp; first | done | with_reducible rfl)
        (try simp only [Act.put, pu1, pu2, pu3, pu4, pu5, pu6])
        refine wpAnyH_take (i := 2) (v := ?vd2) rfl (by kernel_rfl) (by kernel_rfl) (by kernel_rfl) (fun _ _ _ h => h) (.inl ⟨by rfl, ?hyd2⟩) (by assumption) ?restd2
        case hyd2 => (intro w hSw; (try dsimp only at hSw); go_simp; first | done | with_reducible rfl)
        (try simp only [Act.put, pu1, pu2, pu3, pu4, pu5, pu6])
        refine wpAnyH_take (i := 3) (v := ?vd3) rfl (by kernel_rfl) (by kernel_rfl) (by kernel_rfl) (fun _ _ _ h => h) (.inl ⟨by rfl, ?hyd3⟩) (by assumption) ?restd3
        case hyd3 => (intro w hSw; (try dsimp only at hSw); go_simp; first | done | with_reducible rfl)
        (try simp only [Act.put, pu1, pu2, pu3, pu4, pu5, pu6])
        refine wpAnyH_take (i := 4) (v := ?vd4) rfl (by kernel_rfl) (by kernel_rfl) (by kernel_rfl) (fun _ _ _ h => h) (.inl ⟨by rfl, ?hyd4⟩) (by assumption) ?restd4
        case hyd4 => (intro w hSw; (try dsimp only at hSw); go_simp; first | done | with_reducible rfl)
        (try simp only [Act.put, pu1, pu2, pu3, pu4, pu5, pu6])
        refine wpAnyH_take (i := 5) (v := ?vd5) rfl (by kernel_rfl) (by kernel_rfl) (by kernel_rfl) (fun _ _ _ h => h) (.inl ⟨by rfl, ?hyd5⟩) (by assumption) ?restd5
        case hyd5 => (intro w hSw; (try dsimp only at hSw); go_simp; first | done | with_reducible rfl)
        (try simp only [Act.put, pu1, pu2, pu3, pu4, pu5, pu6])
        refine wpAnyH_take (i := 6) (v := ?vd6) rfl (by kernel_rfl) (by kernel_rfl) (by kernel_rfl) (fun _ _ _ h => h) (.inl ⟨by rfl, ?hyd6⟩) (by assumption) ?restd6
        case hyd6 => (intro w hSw; (try dsimp only at hSw); go_simp; first | done | with_reducible rfl)
        (try simp only [Act.put, pu1, pu2, pu3, pu4, pu5, pu6])
        refine wpAnyH_take (i := 7) (v := ?vd7) rfl (by kernel_rfl) (by kernel_rfl) (by kernel_rfl) (fun _ _ _ h => h) (.inl ⟨by rfl, ?hyd7⟩) (by assumption) ?restd7
        case hyd7 => (intro w hSw; (try dsimp only at hSw); go_simp; first | done | with_reducible rfl)
        (try simp only [Act.put, pu1, pu2, pu3, pu4, pu5, pu6])
        refine wpAnyH_take (i := 8) (v := ?vd8) rfl (by kernel_rfl) (by kernel_rfl) (by kernel_rfl) (fun _ _ _ h => h) (.inl ⟨by rfl, ?hyd8⟩) (by assumption) ?restd8
        case hyd8 => (intro w hSw; (try dsimp only at hSw); go_simp; first | done | with_reducible rfl)
        (try simp only [Act.put, pu1, pu2, pu3, pu4, pu5, pu6])
        refine wpAnyH_take (i := 9) (v := ?vd9) rfl (by kernel_rfl) (by kernel_rfl) (by kernel_rfl) (fun _ _ _ h => h) (.inl ⟨by rfl, ?hyd9⟩) (by assumption) ?restd9
        case hyd9 => (intro w hSw; (try dsimp only at hSw); go_simp; first | done | with_reducible rfl)
        (try simp only [Act.put, pu1, pu2, pu3, pu4, pu5, pu6])
        refine wpAnyH_take (i := 10) (v := ?vd10) rfl (by kernel_rfl) (by kernel_rfl) (by kernel_rfl) (fun _ _ _ h => h) (.inl ⟨by rfl, ?hyd10⟩) (by assumption) ?restd10
        case hyd10 => (intro w hSw; (try dsimp only at hSw); go_simp; first | done | with_reducible rfl)
        (try simp only [Act.put, pu1, pu2, pu3, pu4, pu5, pu6])
        refine wpAnyH_ready (rs := [11]) (by kernel_rfl) (by simp) ?_
        refine AllReadyH.cons rfl (fun K hK => ?_) AllReadyH.nil
        rw [if_pos (by rfl)]
        go_simp
        refine (hih.out wr.drew (TRep.keep (keeps_of_below hb.drew) _ _ htH.out)).mono ?_
        rintro e w1 ⟨y, gy, rfl, hy, hyn, hyb, hb1⟩
        have hy1 := hy.one
        have hbw1 : Below wr.heap.size wr w1 := ((Below.refl wr.heap.size wr).drew).trans hb1
        refine hK.out _ _ ?_ (fun hHeld2 => ?_)
        · exact hSk _ (hb.trans (below_le hbw1 hb.size))
        clear hK K
        (try simp only [Act.put, pu1, pu2, pu3, pu4, pu5, pu6])
        refine wpAnyH_take (i := 12) (v := (.agg #[.string s, y])) rfl (by kernel_rfl) (by kernel_rfl) (by kernel_rfl) (fun _ _ _ h => h) (.inl ⟨by rfl, ?hyd12⟩) (by assumption) ?restd12
        case hyd12 => (intro w hSw; exact exec_build (vs := #[(0, .string s), (1, y)]) rfl (by simp [Act.eval]) (run_buildField s y hy1 w))
        (try simp only [Act.put, pu1, pu2, pu3, pu4, pu5, pu6])
        refine wpAnyH_ready (rs := [13]) (by kernel_rfl) (by simp) ?_
        refine AllReadyH.cons rfl (fun K hK => ?_) AllReadyH.nil
        rw [if_pos (by rfl)]
        refine wp_of_exec (exec_buildSlice (vs := #[(0, .agg #[.string s, y])]) rfl (by simp [Act.eval]) (run_buildField1 s y _)) ?_
        refine hK.out _ _ ?_ (fun hHeld2 => ?_)
        · exact hSk _ ((hb.trans (below_le hbw1 hb.size)).alloc (Nat.le_trans hb.size hbw1.size) _)
        clear hK K
        (try simp only [Act.put, pu1, pu2, pu3, pu4, pu5, pu6])
        refine wpAnyH_ready (rs := [14]) (by kernel_rfl) (by simp) ?_
        refine AllReadyH.cons rfl (fun K hK => ?_) AllReadyH.nil
        refine step_append_lies _ (by rfl) _ _ _ (by rfl) w.heap.size 220 i0 _ 2 32 Try.underlying130 hi0 hz0 hz1 hz2 rfl (by omega) _ k ys (by rfl) ((hL.below hbw1).own.alloc _) ⟨w1.heap.size, 0, none⟩ 1 1 [.string s, y] (by rfl) (by rfl) (World.news_of_block (cs := #[.string s, y]) (t := 220) (fr := (0, 0)) (heap_alloc_new w1 _)) (one_pair hy1) (by omega) (by unfold maxLen; omega) (by omega) (by have := hbw1.size; have := hb.size; simp; omega) _ rfl ?_
        intro g2 cap2 w2 hown2 hgr2 hat2 hlt2
        have hfin := dict_round hpH.out hszH.out hL hdsH.out hb hbw1 hy hyn (fun b hbm => hyb b hbm) hown2 hgr2 hat2 hlt2
        refine hK.out _ _ ?_ (fun hHeld2 => ?_)
        · exact hSk _ hfin.2.2
        clear hK K
        (try simp only [Act.put, pu1, pu2, pu3, pu4, pu5, pu6])
        refine wpAnyH_take (i := 15) (v := ?vd15) rfl (by kernel_rfl) (by kernel_rfl) (by kernel_rfl) (fun _ _ _ h => h) (.inl ⟨by rfl, ?hyd15⟩) (by assumption) ?restd15
        case hyd15 => (intro w hSw; (try dsimp only at hSw); go_simp; first | done | with_reducible rfl)
        (try simp only [Act.put, pu1, pu2, pu3, pu4, pu5, pu6])
        refine wpAnyH_done (by kernel_rfl) ?_ _
        go_wp2_with fail
        go_roundw
        case rel => exact ⟨k + 1, _, _, by omega, by go_num, hfin⟩
        case measure => simp [intOf]; omega
    · obtain rfl : k = es.length := by omega
      have hds := hdsH.out
      rw [List.take_of_length_le (by simp)] at hds
      have hdsH2 := Lib.hid hds
      clear hds
      go_wp2_with fail
      go_ret
      exact ⟨_, _, _, rfl, by rw [List.length_map]; exact hL.own, hdsH2.out, hL.nodup, fun b hbm => (hL.new b hbm).1, hb⟩
end Go.Proofs.Ytgmdbpplfjkjmaa
