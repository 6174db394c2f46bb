/- tenonref01.cleaned, and tenonref01.Clean of terms without parts: a term without what plays no part. -/
import Derived.Test.YtpcbdjfonmohaaaRefParts
import Derived.Laws.AppendOwnNone
namespace Go.Proofs.Ytpcbdjfonmohaaa
open Go.RowKit
set_option linter.unusedVariables false
set_option linter.unusedSimpArgs false

@[go_sem] theorem run_store_float (P : Program) (w : World) (a : Addr) (k : FloatKind) (f : Nat) (m : Mode) : (store a (.float k f) m).run P w = stored P w a (.float k f) m := run_store P w a _ m rfl
mutual
/-- Clean. -/
def cleanT : Term → Term
  | .mk k b n fl tx bs rf ls es cl ver => bif k == 2 then .mk 2 b 0 0 ⟨#[]⟩ [] 0 [] [] ⟨#[]⟩ 0 else bif k == 3 then .mk 3 false n 0 ⟨#[]⟩ [] 0 [] [] ⟨#[]⟩ 0 else bif k == 4 then .mk 4 false 0 fl ⟨#[]⟩ [] 0 [] [] ⟨#[]⟩ 0 else
      bif k == 5 then .mk 5 false 0 0 tx [] 0 [] [] ⟨#[]⟩ 0 else bif k == 6 then .mk 6 false 0 0 ⟨#[]⟩ bs 0 [] [] ⟨#[]⟩ 0 else bif k == 7 then .mk 7 false 0 0 ⟨#[]⟩ [] rf [] [] ⟨#[]⟩ 0 else
      bif k == 8 then .mk 8 false 0 0 ⟨#[]⟩ [] 0 (cleanTs ls) [] ⟨#[]⟩ 0 else bif k == 10 then .mk 10 false 0 0 ⟨#[]⟩ [] 0 [] (cleanEs es) cl ver else bif k == 9 then .mk 9 false 0 0 ⟨#[]⟩ [] 0 [] (cleanEs es) ⟨#[]⟩ 0 else tK k
def cleanTs : List Term → List Term
  | [] => []
  | t :: l => cleanT t :: cleanTs l
def cleanEs : List (ByteArray × Term) → List (ByteArray × Term)
  | [] => []
  | p :: l => (p.1, cleanE p) :: cleanEs l
def cleanE : ByteArray × Term → Term
  | (_, t) => cleanT t
end
theorem cleanTs_eq : ∀ l : List Term, cleanTs l = l.map cleanT
  | [] => by rw [cleanTs]; rfl
  | t :: l => by rw [cleanTs, cleanTs_eq l]; rfl
theorem cleanEs_eq : ∀ l : List (ByteArray × Term), cleanEs l = l.map fun p => (p.1, cleanT p.2)
  | [] => by rw [cleanEs]; rfl
  | (s, t) :: l => by rw [cleanEs, cleanEs_eq l, cleanE]; rfl
def CleanEnd (t : Term) (w : World) (e : Ending) (w' : World) : Prop := ∃ ds, e = .returned (.agg ds.toArray) ∧ TRep (only w' (fun b => w.heap.size ≤ b)) t ds ∧ Below w.heap.size w w'
def CleanSaid (t : Term) : Prop := ∀ (cs : List Value) (w : World), TRep w t cs → Calls Try.prog 56 #[.agg cs.toArray] w (CleanEnd (cleanT t) w)
set_option maxRecDepth 100000 in
set_option maxHeartbeats 1600000 in
theorem cleaned_said (es : List (ByteArray × Term)) (ih : ∀ u ∈ es.map (·.2), CleanSaid u) (sv : Value) (xs : List Value) (w : World) (ho : AtRow w sv es.length 12 xs) (hd : EsRep w es xs) :
    Calls Try.prog 96 #[sv] w fun e w' => ∃ se xe, e = .returned se ∧ w'.ownsRow w.heap.size 106 12 se es.length xe ∧ EsRep (only w' (NotOwn w.heap.size se)) (cleanEs es) xe ∧ Below w.heap.size w w' := by
  obtain ⟨oa, cap, rfl, hcap, hmax, hsm, -, -, hform⟩ := ho
  unfold maxLen at hmax
  have hdat := Lib.hid (EsRep.at es xs hd)
  have hformH := Lib.hid hform
  have ihH := Lib.hid ih
  obtain ⟨i0, hi0, hz0, hz1, hz2⟩ := info_parts Try.infoEntry
  rw [cleanEs_eq]
  clear hd hform ih
  go_enter Try.func96, Try.ntmps96
  go_wp2_with fail
  have hown0 := Lib.hid (ownsRow_new w 106 12 w.heap.size (Nat.le_refl _))
  have hb0 : Below w.heap.size w (w.alloc (.cells #[] 106)) := (Below.refl _ _).alloc (Nat.le_refl _) _
  go_loopw [3, 4] (fun sv i wr => ∃ (k : Nat) (ys : List Value), k ≤ es.length ∧ i = .int .i64 k ∧ wr.ownsRow w.heap.size 106 12 sv k ys ∧ EsRep (only wr (NotOwn w.heap.size sv)) ((es.map fun p => (p.1, cleanT p.2)).take k) ys ∧ Below w.heap.size w wr) (fun _ i _ => es.length - (intOf i).toNat)
  case atStart => exact ⟨0, [], Nat.zero_le _, rfl, hown0.out, rfl, hb0⟩
  case round =>
    obtain ⟨k, ys, hk, rfl, hown, hds, hb⟩ := hrel
    have hdsH := Lib.hid hds
    clear hds
    by_cases hlt : k < es.length
    · obtain ⟨b, o, rfl, hcells⟩ := hformH.out (by omega)
      obtain ⟨⟨s, t⟩, hp⟩ : ∃ p, es[k]? = some p := ⟨_, List.getElem?_eq_getElem hlt⟩
      obtain ⟨ds, ht, hsz, e0, e1⟩ := hdat.out k _ hp
      have hcell : ∀ j, j < 11 → w.cell? ⟨b, o + k * 12 + (1 + j), none⟩ = ds[j]? := fun j hj => by
        have h1 := hcells (k * 12 + (1 + j)) (by omega)
        rw [e1 j hj, ← Nat.add_assoc] at h1
        exact h1
      have hname : w.cell? ⟨b, o + k * 12, none⟩ = some (.string s) := (hcells (k * 12) (by omega)).trans e0
      have hrep := Lib.hid (show TRep wr.drew t ds from TRep.keep (w := wr) (w' := wr.drew) (fun a u h => h) _ _ (TRep.keep (keeps_of_below hb) _ _ ht))
      have hih := Lib.hid (fun W h => ihH.out t (List.mem_map.2 ⟨_, List.mem_of_getElem? hp, rfl⟩) ds W h)
      have hpH : Hid ((es.map fun p => (p.1, cleanT p.2))[k]? = some (s, cleanT t)) := Lib.hid (by rw [List.getElem?_map, hp]; rfl)
      have hszH := Lib.hid hsz
      obtain ⟨d0, d1, d2, d3, d4, d5, d6, d7, d8, d9, d10, rfl⟩ := eleven (TRep.len ht)
      have q0 := hcell 0 (by omega)
      have q1 := hcell 1 (by omega)
      have q2 := hcell 2 (by omega)
      have q3 := hcell 3 (by omega)
      have q4 := hcell 4 (by omega)
      have q5 := hcell 5 (by omega)
      have q6 := hcell 6 (by omega)
      have q7 := hcell 7 (by omega)
      have q8 := hcell 8 (by omega)
      have q9 := hcell 9 (by omega)
      have q10 := hcell 10 (by omega)
      simp only [List.getElem?_cons_zero, List.getElem?_cons_succ, Nat.reduceAdd] at q0 q1 q2 q3 q4 q5 q6 q7 q8 q9 q10
      have hSk : ∀ w', Below w.heap.size w w' → w'.cell? ⟨b, o + k * 12, none⟩ = some (.string s) ∧ w'.cell? ⟨b, o + k * 12 + 1, none⟩ = some d0 ∧ w'.cell? ⟨b, o + k * 12 + 2, none⟩ = some d1 ∧ w'.cell? ⟨b, o + k * 12 + 3, none⟩ = some d2 ∧ w'.cell? ⟨b, o + k * 12 + 4, none⟩ = some d3 ∧ w'.cell? ⟨b, o + k * 12 + 5, none⟩ = some d4 ∧ w'.cell? ⟨b, o + k * 12 + 6, none⟩ = some d5 ∧ w'.cell? ⟨b, o + k * 12 + 7, none⟩ = some d6 ∧ w'.cell? ⟨b, o + k * 12 + 8, none⟩ = some d7 ∧ w'.cell? ⟨b, o + k * 12 + 9, none⟩ = some d8 ∧ w'.cell? ⟨b, o + k * 12 + 10, none⟩ = some d9 ∧ w'.cell? ⟨b, o + k * 12 + 11, none⟩ = some d10 := fun w' hb' =>
        ⟨keeps_of_below hb' _ _ hname, keeps_of_below hb' _ _ q0, keeps_of_below hb' _ _ q1, keeps_of_below hb' _ _ q2, keeps_of_below hb' _ _ q3, keeps_of_below hb' _ _ q4, keeps_of_below hb' _ _ q5, keeps_of_below hb' _ _ q6, keeps_of_below hb' _ _ q7, keeps_of_below hb' _ _ q8, keeps_of_below hb' _ _ q9, keeps_of_below hb' _ _ q10⟩
      clear hcell hcells e0 e1 ht hp hsz hname q0 q1 q2 q3 q4 q5 q6 q7 q8 q9 q10
      · go_wp2_with fail
        refine wp_region_held_drew (S := (fun w' => w'.cell? ⟨b, o + k * 12, none⟩ = some (.string s) ∧ w'.cell? ⟨b, o + k * 12 + 1, none⟩ = some d0 ∧ w'.cell? ⟨b, o + k * 12 + 2, none⟩ = some d1 ∧ w'.cell? ⟨b, o + k * 12 + 3, none⟩ = some d2 ∧ w'.cell? ⟨b, o + k * 12 + 4, none⟩ = some d3 ∧ w'.cell? ⟨b, o + k * 12 + 5, none⟩ = some d4 ∧ w'.cell? ⟨b, o + k * 12 + 6, none⟩ = some d5 ∧ w'.cell? ⟨b, o + k * 12 + 7, none⟩ = some d6 ∧ w'.cell? ⟨b, o + k * 12 + 8, none⟩ = some d7 ∧ w'.cell? ⟨b, o + k * 12 + 9, none⟩ = some d8 ∧ w'.cell? ⟨b, o + k * 12 + 10, none⟩ = some d9 ∧ w'.cell? ⟨b, o + k * 12 + 11, none⟩ = some d10)) (by kernel_rfl) ?_ (fun hHeld => ?_)
        · exact hSk _ hb.drew
        refine wpAnyH_take (i := 0) (v := ?vy0) rfl (by kernel_rfl) (by kernel_rfl) (by kernel_rfl) (fun _ _ _ h => h) (.inl ⟨by rfl, ?hyy0⟩) (by assumption) ?resty0
        case hyy0 => (intro w hSw; (try dsimp only at hSw); go_simp; first | done | with_reducible rfl)
        (try simp only [Act.put, List.setIfInBounds_toArray, List.set_cons_zero, List.set_cons_succ, List.getElem_toArray, List.getElem_cons_zero, List.getElem_cons_succ])
        refine wpAnyH_take (i := 1) (v := ?vy1) rfl (by kernel_rfl) (by kernel_rfl) (by kernel_rfl) (fun _ _ _ h => h) (.inl ⟨by rfl, ?hyy1⟩) (by assumption) ?resty1
        case hyy1 => (intro w hSw; (try dsimp only at hSw); go_simp; first | done | with_reducible rfl)
        (try simp only [Act.put, List.setIfInBounds_toArray, List.set_cons_zero, List.set_cons_succ, List.getElem_toArray, List.getElem_cons_zero, List.getElem_cons_succ])
        refine wpAnyH_take (i := 2) (v := ?vy2) rfl (by kernel_rfl) (by kernel_rfl) (by kernel_rfl) (fun _ _ _ h => h) (.inl ⟨by rfl, ?hyy2⟩) (by assumption) ?resty2
        case hyy2 => (intro w hSw; (try dsimp only at hSw); go_simp; first | done | with_reducible rfl)
        (try simp only [Act.put, List.setIfInBounds_toArray, List.set_cons_zero, List.set_cons_succ, List.getElem_toArray, List.getElem_cons_zero, List.getElem_cons_succ])
        refine wpAnyH_take (i := 3) (v := ?vy3) rfl (by kernel_rfl) (by kernel_rfl) (by kernel_rfl) (fun _ _ _ h => h) (.inl ⟨by rfl, ?hyy3⟩) (by assumption) ?resty3
        case hyy3 => (intro w hSw; (try dsimp only at hSw); go_simp; first | done | with_reducible rfl)
        (try simp only [Act.put, List.setIfInBounds_toArray, List.set_cons_zero, List.set_cons_succ, List.getElem_toArray, List.getElem_cons_zero, List.getElem_cons_succ])
        refine wpAnyH_take (i := 4) (v := ?vy4) rfl (by kernel_rfl) (by kernel_rfl) (by kernel_rfl) (fun _ _ _ h => h) (.inl ⟨by rfl, ?hyy4⟩) (by assumption) ?resty4
        case hyy4 => (intro w hSw; (try dsimp only at hSw); go_simp; first | done | with_reducible rfl)
        (try simp only [Act.put, List.setIfInBounds_toArray, List.set_cons_zero, List.set_cons_succ, List.getElem_toArray, List.getElem_cons_zero, List.getElem_cons_succ])
        refine wpAnyH_take (i := 5) (v := ?vy5) rfl (by kernel_rfl) (by kernel_rfl) (by kernel_rfl) (fun _ _ _ h => h) (.inl ⟨by rfl, ?hyy5⟩) (by assumption) ?resty5
        case hyy5 => (intro w hSw; (try dsimp only at hSw); go_simp; first | done | with_reducible rfl)
        (try simp only [Act.put, List.setIfInBounds_toArray, List.set_cons_zero, List.set_cons_succ, List.getElem_toArray, List.getElem_cons_zero, List.getElem_cons_succ])
        refine wpAnyH_take (i := 6) (v := ?vy6) rfl (by kernel_rfl) (by kernel_rfl) (by kernel_rfl) (fun _ _ _ h => h) (.inl ⟨by rfl, ?hyy6⟩) (by assumption) ?resty6
        case hyy6 => (intro w hSw; (try dsimp only at hSw); go_simp; first | done | with_reducible rfl)
        (try simp only [Act.put, List.setIfInBounds_toArray, List.set_cons_zero, List.set_cons_succ, List.getElem_toArray, List.getElem_cons_zero, List.getElem_cons_succ])
        refine wpAnyH_take (i := 7) (v := ?vy7) rfl (by kernel_rfl) (by kernel_rfl) (by kernel_rfl) (fun _ _ _ h => h) (.inl ⟨by rfl, ?hyy7⟩) (by assumption) ?resty7
        case hyy7 => (intro w hSw; (try dsimp only at hSw); go_simp; first | done | with_reducible rfl)
        (try simp only [Act.put, List.setIfInBounds_toArray, List.set_cons_zero, List.set_cons_succ, List.getElem_toArray, List.getElem_cons_zero, List.getElem_cons_succ])
        refine wpAnyH_take (i := 8) (v := ?vy8) rfl (by kernel_rfl) (by kernel_rfl) (by kernel_rfl) (fun _ _ _ h => h) (.inl ⟨by rfl, ?hyy8⟩) (by assumption) ?resty8
        case hyy8 => (intro w hSw; (try dsimp only at hSw); go_simp; first | done | with_reducible rfl)
        (try simp only [Act.put, List.setIfInBounds_toArray, List.set_cons_zero, List.set_cons_succ, List.getElem_toArray, List.getElem_cons_zero, List.getElem_cons_succ])
        refine wpAnyH_take (i := 9) (v := ?vy9) rfl (by kernel_rfl) (by kernel_rfl) (by kernel_rfl) (fun _ _ _ h => h) (.inl ⟨by rfl, ?hyy9⟩) (by assumption) ?resty9
        case hyy9 => (intro w hSw; (try dsimp only at hSw); go_simp; first | done | with_reducible rfl)
        (try simp only [Act.put, List.setIfInBounds_toArray, List.set_cons_zero, List.set_cons_succ, List.getElem_toArray, List.getElem_cons_zero, List.getElem_cons_succ])
        refine wpAnyH_take (i := 10) (v := ?vy10) rfl (by kernel_rfl) (by kernel_rfl) (by kernel_rfl) (fun _ _ _ h => h) (.inl ⟨by rfl, ?hyy10⟩) (by assumption) ?resty10
        case hyy10 => (intro w hSw; (try dsimp only at hSw); go_simp; first | done | with_reducible rfl)
        (try simp only [Act.put, List.setIfInBounds_toArray, List.set_cons_zero, List.set_cons_succ, List.getElem_toArray, List.getElem_cons_zero, List.getElem_cons_succ])
        refine wpAnyH_ready (rs := [11]) (by kernel_rfl) (by simp) ?_
        refine AllReadyH.cons rfl (fun K hK => ?_) AllReadyH.nil
        rw [if_pos (by rfl)]
        go_simp
        refine (hih.out wr.drew hrep.out).mono ?_
        rintro e w1 ⟨cs, rfl, ht, hb1⟩
        obtain ⟨c0, c1, c2, c3, c4, c5, c6, c7, c8, c9, c10, rfl⟩ := eleven (TRep.len ht)
        have hone := TRep.ones ht
        have hbw1 : Below wr.heap.size wr w1 := ((Below.refl wr.heap.size wr).drew).trans hb1
        have hown1 := ownsRow_keep hown (fun b hbm => hbw1.block b (ownsRow_lt hown b hbm).2)
        have htH := Lib.hid ht
        clear ht
        refine hK.out _ _ ?_ (fun hHeld2 => ?_)
        · exact hSk _ (hb.trans (below_le hbw1 hb.size))
        clear hK K
        (try simp only [Act.put, List.setIfInBounds_toArray, List.set_cons_zero, List.set_cons_succ, List.getElem_toArray, List.getElem_cons_zero, List.getElem_cons_succ])
        refine wpAnyH_take (i := 12) (v := (.agg #[.string s, c0, c1, c2, c3, c4, c5, c6, c7, c8, c9, c10])) rfl (by kernel_rfl) (by kernel_rfl) (by kernel_rfl) (fun _ _ _ h => h) (.inl ⟨by rfl, ?hyy12⟩) (by assumption) ?resty12
        case hyy12 => (intro w hSw; exact exec_build (vs := #[(0, .string s), (1, .agg #[c0, c1, c2, c3, c4, c5, c6, c7, c8, c9, c10])]) rfl (by simp [Act.eval]) (run_buildEntry s c0 c1 c2 c3 c4 c5 c6 c7 c8 c9 c10 w))
        (try simp only [Act.put, List.setIfInBounds_toArray, List.set_cons_zero, List.set_cons_succ, List.getElem_toArray, List.getElem_cons_zero, List.getElem_cons_succ])
        refine wpAnyH_ready (rs := [13]) (by kernel_rfl) (by simp) ?_
        refine AllReadyH.cons rfl (fun K hK => ?_) AllReadyH.nil
        rw [if_pos (by rfl)]
        refine wp_of_exec (exec_buildSlice (vs := #[(0, .agg #[.string s, c0, c1, c2, c3, c4, c5, c6, c7, c8, c9, c10])]) rfl (by simp [Act.eval]) (run_buildEntry1 (.string s) c0 c1 c2 c3 c4 c5 c6 c7 c8 c9 c10 _)) ?_
        refine hK.out _ _ ?_ (fun hHeld2 => ?_)
        · exact hSk _ ((hb.trans (below_le hbw1 hb.size)).alloc (Nat.le_trans hb.size hbw1.size) _)
        clear hK K
        (try simp only [Act.put, List.setIfInBounds_toArray, List.set_cons_zero, List.set_cons_succ, List.getElem_toArray, List.getElem_cons_zero, List.getElem_cons_succ])
        refine wpAnyH_ready (rs := [14]) (by kernel_rfl) (by simp) ?_
        refine AllReadyH.cons rfl (fun K hK => ?_) AllReadyH.nil
        refine step_append_lies _ (by rfl) _ _ _ (by rfl) w.heap.size 106 i0 _ 12 168 Try.underlying32 hi0 hz0 hz1 hz2 rfl (by omega) _ k ys (by rfl) (hown1.alloc _) ⟨w1.heap.size, 0, none⟩ 1 1 [.string s, c0, c1, c2, c3, c4, c5, c6, c7, c8, c9, c10] (by rfl) (by rfl) (World.news_of_block (cs := #[.string s, c0, c1, c2, c3, c4, c5, c6, c7, c8, c9, c10]) (t := 106) (fr := (0, 0)) (heap_alloc_new w1 _)) (fun u hu => (List.mem_cons.1 hu).elim (fun e => by rw [e]; rfl) (hone u)) (by omega) (by unfold maxLen; omega) (by omega) (by have := hbw1.size; have := hb.size; simp; omega) _ rfl ?_
        intro g2 cap2 w2 hown2 hgr2 hat2 hlt2
        have hfin := entries_round (cap := cap2) hb hbw1 hown hgr2 hat2 hszH.out htH.out hdsH.out
        refine hK.out _ _ ?_ (fun hHeld2 => ?_)
        · exact hSk _ hfin.2
        clear hK K
        (try simp only [Act.put, List.setIfInBounds_toArray, List.set_cons_zero, List.set_cons_succ, List.getElem_toArray, List.getElem_cons_zero, List.getElem_cons_succ])
        refine wpAnyH_take (i := 15) (v := ?vy15) rfl (by kernel_rfl) (by kernel_rfl) (by kernel_rfl) (fun _ _ _ h => h) (.inl ⟨by rfl, ?hyy15⟩) (by assumption) ?resty15
        case hyy15 => (intro w hSw; (try dsimp only at hSw); go_simp; first | done | with_reducible rfl)
        (try simp only [Act.put, List.setIfInBounds_toArray, List.set_cons_zero, List.set_cons_succ, List.getElem_toArray, List.getElem_cons_zero, List.getElem_cons_succ])
        refine wpAnyH_done (by kernel_rfl) ?_ _
        go_wp2_with fail
        go_roundw
        case rel => exact ⟨k + 1, _, by omega, by go_num, hown2, by rw [List.take_add_one, hpH.out]; exact hfin.1, hfin.2⟩
        case measure => simp [intOf]; omega
    · obtain rfl : k = es.length := by omega
      have hds := hdsH.out
      rw [List.take_of_length_le (by simp)] at hds
      have hdsH2 := Lib.hid hds
      clear hds
      go_wp2_with fail
      go_ret
      exact ⟨_, _, rfl, hown, hdsH2.out, hb⟩
/-- What Clean begins with. -/
def kCells (k : Int) : Array Value := #[.int .i64 k, .bool false, .int .i64 0, .float .f64 0, .string ⟨#[]⟩, .slice none 0 0, .int .u64 0, .slice none 0 0, .slice none 0 0, .string ⟨#[]⟩, .int .i64 0]
/-- Where Clean keeps what it has. -/
structure CleanAt (w W : World) (cs : List Value) (row : Array Value) : Prop where
  below : Below w.heap.size w W
  A : W.heap[w.heap.size]? = some (.cells cs.toArray 34 (0, 0))
  B : W.heap[w.heap.size + 1]? = some (.cells zeroCells 34 (0, 0))
  C : W.heap[w.heap.size + 2]? = some (.cells row 34 (0, 0))
section
variable {w W W' : World} {cs : List Value} {row : Array Value}
theorem CleanAt.start (w : World) (cs : List Value) (row : Array Value) : CleanAt w (((w.alloc (.cells cs.toArray 34)).alloc (.cells zeroCells 34)).alloc (.cells row 34)) cs row :=
  ⟨(((Below.refl _ _).alloc (Nat.le_refl _) _).alloc (by simp) _).alloc (by simp; omega) _, (Below.heap_alloc _ _ _ (by simp; omega)).trans ((Below.heap_alloc _ _ _ (by simp)).trans (heap_alloc_new w _)), (Below.heap_alloc _ _ _ (by simp)).trans (heap_alloc_at _ (by simp)), heap_alloc_at _ (by simp)⟩
theorem CleanAt.lt (h : CleanAt w W cs row) : w.heap.size + 2 < W.heap.size := (Array.getElem?_eq_some_iff.1 h.C).1
theorem CleanAt.keep (h : CleanAt w W cs row) (hb : Below W.heap.size W W') : CleanAt w W' cs row := by
  have hl := h.lt
  exact ⟨h.below.trans (below_le hb h.below.size), (hb.block _ (by omega)).trans h.A, (hb.block _ (by omega)).trans h.B, (hb.block _ (by omega)).trans h.C⟩
theorem CleanAt.set (h : CleanAt w W cs row) (i : Nat) (u : Value) : CleanAt w (W.setCell ⟨w.heap.size + 1 + 1, i, none⟩ u) cs (row.setIfInBounds i u) :=
  ⟨h.below.setCell (p := ⟨w.heap.size + 1 + 1, i, none⟩) (by show w.heap.size ≤ w.heap.size + 1 + 1; omega) _, (Below.heap_setCell _ ⟨w.heap.size + 1 + 1, i, none⟩ _ _ (by show w.heap.size ≠ w.heap.size + 1 + 1; omega)).trans h.A, (Below.heap_setCell _ ⟨w.heap.size + 1 + 1, i, none⟩ _ _ (by show w.heap.size + 1 ≠ w.heap.size + 1 + 1; omega)).trans h.B, setCell_block h.C i _⟩
theorem CleanAt.out (h : CleanAt w W cs row) (xs : Array Value) : (W.setRow (w.heap.size + 1) xs).heap[w.heap.size + 1]? = some (.cells xs 34 (0, 0)) ∧ Below w.heap.size w (W.setRow (w.heap.size + 1) xs) :=
  ⟨setRow_heap _ _ _ _ _ _ h.B, row_below h.below (by omega) _⟩
theorem CleanAt.again {row2 : Array Value} (h : CleanAt w W cs row) : CleanAt w (W.setRow (w.heap.size + 1 + 1) row2) cs row2 :=
  ⟨row_below h.below (by omega) _, (setRow_other _ _ _ _ (by omega)).trans h.A, (setRow_other _ _ _ _ (by omega)).trans h.B, setRow_heap _ _ _ _ _ _ h.C⟩
theorem CleanAt.cellsA {r0 r1 r2 r3 r4 r5 r6 r7 r8 r9 r10 : Value} (h : CleanAt w W [r0, r1, r2, r3, r4, r5, r6, r7, r8, r9, r10] row) : W.cell? ⟨w.heap.size, 0, none⟩ = some r0 ∧ W.cell? ⟨w.heap.size, 1, none⟩ = some r1 ∧ W.cell? ⟨w.heap.size, 2, none⟩ = some r2 ∧ W.cell? ⟨w.heap.size, 3, none⟩ = some r3 ∧ W.cell? ⟨w.heap.size, 4, none⟩ = some r4 ∧ W.cell? ⟨w.heap.size, 5, none⟩ = some r5 ∧ W.cell? ⟨w.heap.size, 6, none⟩ = some r6 ∧ W.cell? ⟨w.heap.size, 7, none⟩ = some r7 ∧ W.cell? ⟨w.heap.size, 8, none⟩ = some r8 ∧ W.cell? ⟨w.heap.size, 9, none⟩ = some r9 ∧ W.cell? ⟨w.heap.size, 10, none⟩ = some r10 :=
  ⟨block_cells h.A 0, block_cells h.A 1, block_cells h.A 2, block_cells h.A 3, block_cells h.A 4, block_cells h.A 5, block_cells h.A 6, block_cells h.A 7, block_cells h.A 8, block_cells h.A 9, block_cells h.A 10⟩
theorem CleanAt.cellsC {r0 r1 r2 r3 r4 r5 r6 r7 r8 r9 r10 : Value} (h : CleanAt w W cs #[r0, r1, r2, r3, r4, r5, r6, r7, r8, r9, r10]) : W.cell? ⟨w.heap.size + 1 + 1, 0, none⟩ = some r0 ∧ W.cell? ⟨w.heap.size + 1 + 1, 1, none⟩ = some r1 ∧ W.cell? ⟨w.heap.size + 1 + 1, 2, none⟩ = some r2 ∧ W.cell? ⟨w.heap.size + 1 + 1, 3, none⟩ = some r3 ∧ W.cell? ⟨w.heap.size + 1 + 1, 4, none⟩ = some r4 ∧ W.cell? ⟨w.heap.size + 1 + 1, 5, none⟩ = some r5 ∧ W.cell? ⟨w.heap.size + 1 + 1, 6, none⟩ = some r6 ∧ W.cell? ⟨w.heap.size + 1 + 1, 7, none⟩ = some r7 ∧ W.cell? ⟨w.heap.size + 1 + 1, 8, none⟩ = some r8 ∧ W.cell? ⟨w.heap.size + 1 + 1, 9, none⟩ = some r9 ∧ W.cell? ⟨w.heap.size + 1 + 1, 10, none⟩ = some r10 ∧ (∀ i, W.frozen? ⟨w.heap.size + 1 + 1, i, none⟩ = false) :=
  ⟨block_cells h.C 0, block_cells h.C 1, block_cells h.C 2, block_cells h.C 3, block_cells h.C 4, block_cells h.C 5, block_cells h.C 6, block_cells h.C 7, block_cells h.C 8, block_cells h.C 9, block_cells h.C 10, fun i => frozen_of h.C i⟩
theorem wpList_store_clean {ops : Array Oper} {rest : List Oper} {o : Oper} {a : Act} {Q : Exit → Act → World → Prop} (hgd : o.guard = none) (x y : Operand) (ho : o.op = .store 34 x y) (h0 : CleanAt w W cs zeroCells) (row2 : Array Value)
    (hx : a.eval x = .pointer (some ⟨w.heap.size + 1 + 1, 0, none⟩)) (hy : a.eval y = .agg row2) (hsz : row2.size = 11) (h1 : row2.all (·.oneCell') = true)
    (h : ∀ W', CleanAt w W' cs row2 → wpList Try.prog ops Q rest (a.put o.dst undef) W') : wpList Try.prog ops Q (o :: rest) a W :=
  wpList_store_row hgd 34 x y ho (w.heap.size + 1 + 1) row2 hx hy 34 zeroCells h0.C (by rw [hsz]; exact termSize) (by rw [hsz]; rfl) h1 (h _ h0.again)
end
theorem kOne (k : Int) : ∀ u ∈ (kCells k).toList, u.oneCell' = true := by
  intro u hu
  simp only [kCells, List.mem_cons, List.not_mem_nil, or_false] at hu
  rcases hu with rfl | rfl | rfl | rfl | rfl | rfl | rfl | rfl | rfl | rfl | rfl <;> rfl

section
variable (b : Bool) (n : Int) (fl : Nat) (tx : ByteArray) (bs : List UInt8) (rf : Int) (ls : List Term) (es : List (ByteArray × Term)) (cl : ByteArray) (ver : Int)

set_option maxRecDepth 100000 in
set_option maxHeartbeats 1600000 in
theorem clean_bool : CleanSaid (.mk 2 b n fl tx bs rf ls es cl ver) := by
  intro cs w h'
  simp only [TRep] at h'
  obtain ⟨sb, sl, se, xl, xe, rfl, ⟨hk, hn, hf, ht, hr, hc, hv⟩, ⟨ob, ocb, rfl, -⟩, ⟨ol, ocl, rfl, -⟩, -, ⟨oe, oce, rfl, -⟩, -⟩ := h'
  have hcl : cleanT (.mk 2 b n fl tx bs rf ls es cl ver) = .mk 2 b 0 0 ⟨#[]⟩ [] 0 [] [] ⟨#[]⟩ 0 := by rw [cleanT]; rfl
  rw [hcl]
  have hT := Lib.hid (fun W => leaf_rep W 2 b 0 0 ⟨#[]⟩ 0 (by rfl) (by rfl) (by rfl) (by simp [maxLen, ByteArray.size]) (by rfl))
  have hone := Lib.hid (TRep.ones (hT.out w))
  clear hcl hk hn hf ht hr hc hv
  go_enter Try.func56, Try.ntmps56
  go_wp2_with (first | (refine wpList_store_clean rfl (.tmp 3) _ rfl (CleanAt.start w [.int .i64 2, .bool b, .int .i64 n, .float .f64 fl, .string tx, .slice ob bs.length ocb, .int .u64 rf, .slice ol ls.length ocl, .slice oe es.length oce, .string cl, .int .i64 ver] zeroCells) (kCells 2) rfl rfl rfl (all_one (kOne 2)) ?_; intro W1 hs1; have hsH := Lib.hid hs1; obtain ⟨a0, a1, a2, a3, a4, a5, a6, a7, a8, a9, a10⟩ := hs1.cellsA; obtain ⟨p0, p1, p2, p3, p4, p5, p6, p7, p8, p9, p10, pz⟩ := hs1.cellsC; clear hs1) | (refine wpList_store_row rfl 34 (.tmp 2) _ rfl (w.heap.size + 1) #[.int .i64 2, .bool b, .int .i64 0, .float .f64 0, .string ⟨#[]⟩, .slice none 0 0, .int .u64 0, .slice none 0 0, .slice none 0 0, .string ⟨#[]⟩, .int .i64 0] rfl rfl 34 zeroCells (hsH.out.set 1 (.bool b)).B termSize rfl (all_one hone.out) ?_))
  have hout := (hsH.out.set 1 (.bool b)).out #[.int .i64 2, .bool b, .int .i64 0, .float .f64 0, .string ⟨#[]⟩, .slice none 0 0, .int .u64 0, .slice none 0 0, .slice none 0 0, .string ⟨#[]⟩, .int .i64 0]
  exact ⟨rfl, _, results_cell_row rfl _ _ (w.heap.size + 1) 34 _ (0, 0) _ rfl hout.1 Try.underlying34 rfl termSize, _, rfl, hT.out _, hout.2⟩

set_option maxRecDepth 100000 in
set_option maxHeartbeats 1600000 in
theorem clean_int : CleanSaid (.mk 3 b n fl tx bs rf ls es cl ver) := by
  intro cs w h'
  simp only [TRep] at h'
  obtain ⟨sb, sl, se, xl, xe, rfl, ⟨hk, hn, hf, ht, hr, hc, hv⟩, ⟨ob, ocb, rfl, -⟩, ⟨ol, ocl, rfl, -⟩, -, ⟨oe, oce, rfl, -⟩, -⟩ := h'
  have hcl : cleanT (.mk 3 b n fl tx bs rf ls es cl ver) = .mk 3 false n 0 ⟨#[]⟩ [] 0 [] [] ⟨#[]⟩ 0 := by rw [cleanT]; rfl
  rw [hcl]
  have hT := Lib.hid (fun W => leaf_rep W 3 false n 0 ⟨#[]⟩ 0 (by rfl) hn (by rfl) (by simp [maxLen, ByteArray.size]) (by rfl))
  have hone := Lib.hid (TRep.ones (hT.out w))
  clear hcl hk hn hf ht hr hc hv
  go_enter Try.func56, Try.ntmps56
  go_wp2_with (first | (refine wpList_store_clean rfl (.tmp 3) _ rfl (CleanAt.start w [.int .i64 3, .bool b, .int .i64 n, .float .f64 fl, .string tx, .slice ob bs.length ocb, .int .u64 rf, .slice ol ls.length ocl, .slice oe es.length oce, .string cl, .int .i64 ver] zeroCells) (kCells 3) rfl rfl rfl (all_one (kOne 3)) ?_; intro W1 hs1; have hsH := Lib.hid hs1; obtain ⟨a0, a1, a2, a3, a4, a5, a6, a7, a8, a9, a10⟩ := hs1.cellsA; obtain ⟨p0, p1, p2, p3, p4, p5, p6, p7, p8, p9, p10, pz⟩ := hs1.cellsC; clear hs1) | (refine wpList_store_row rfl 34 (.tmp 2) _ rfl (w.heap.size + 1) #[.int .i64 3, .bool false, .int .i64 n, .float .f64 0, .string ⟨#[]⟩, .slice none 0 0, .int .u64 0, .slice none 0 0, .slice none 0 0, .string ⟨#[]⟩, .int .i64 0] rfl rfl 34 zeroCells (hsH.out.set 2 (.int .i64 n)).B termSize rfl (all_one hone.out) ?_))
  have hout := (hsH.out.set 2 (.int .i64 n)).out #[.int .i64 3, .bool false, .int .i64 n, .float .f64 0, .string ⟨#[]⟩, .slice none 0 0, .int .u64 0, .slice none 0 0, .slice none 0 0, .string ⟨#[]⟩, .int .i64 0]
  exact ⟨rfl, _, results_cell_row rfl _ _ (w.heap.size + 1) 34 _ (0, 0) _ rfl hout.1 Try.underlying34 rfl termSize, _, rfl, hT.out _, hout.2⟩

set_option maxRecDepth 100000 in
set_option maxHeartbeats 1600000 in
theorem clean_float : CleanSaid (.mk 4 b n fl tx bs rf ls es cl ver) := by
  intro cs w h'
  simp only [TRep] at h'
  obtain ⟨sb, sl, se, xl, xe, rfl, ⟨hk, hn, hf, ht, hr, hc, hv⟩, ⟨ob, ocb, rfl, -⟩, ⟨ol, ocl, rfl, -⟩, -, ⟨oe, oce, rfl, -⟩, -⟩ := h'
  have hcl : cleanT (.mk 4 b n fl tx bs rf ls es cl ver) = .mk 4 false 0 fl ⟨#[]⟩ [] 0 [] [] ⟨#[]⟩ 0 := by rw [cleanT]; rfl
  rw [hcl]
  have hT := Lib.hid (fun W => leaf_rep W 4 false 0 fl ⟨#[]⟩ 0 (by rfl) (by rfl) hf (by simp [maxLen, ByteArray.size]) (by rfl))
  have hone := Lib.hid (TRep.ones (hT.out w))
  clear hcl hk hn hf ht hr hc hv
  go_enter Try.func56, Try.ntmps56
  go_wp2_with (first | (refine wpList_store_clean rfl (.tmp 3) _ rfl (CleanAt.start w [.int .i64 4, .bool b, .int .i64 n, .float .f64 fl, .string tx, .slice ob bs.length ocb, .int .u64 rf, .slice ol ls.length ocl, .slice oe es.length oce, .string cl, .int .i64 ver] zeroCells) (kCells 4) rfl rfl rfl (all_one (kOne 4)) ?_; intro W1 hs1; have hsH := Lib.hid hs1; obtain ⟨a0, a1, a2, a3, a4, a5, a6, a7, a8, a9, a10⟩ := hs1.cellsA; obtain ⟨p0, p1, p2, p3, p4, p5, p6, p7, p8, p9, p10, pz⟩ := hs1.cellsC; clear hs1) | (refine wpList_store_row rfl 34 (.tmp 2) _ rfl (w.heap.size + 1) #[.int .i64 4, .bool false, .int .i64 0, .float .f64 fl, .string ⟨#[]⟩, .slice none 0 0, .int .u64 0, .slice none 0 0, .slice none 0 0, .string ⟨#[]⟩, .int .i64 0] rfl rfl 34 zeroCells (hsH.out.set 3 (.float .f64 fl)).B termSize rfl (all_one hone.out) ?_))
  have hout := (hsH.out.set 3 (.float .f64 fl)).out #[.int .i64 4, .bool false, .int .i64 0, .float .f64 fl, .string ⟨#[]⟩, .slice none 0 0, .int .u64 0, .slice none 0 0, .slice none 0 0, .string ⟨#[]⟩, .int .i64 0]
  exact ⟨rfl, _, results_cell_row rfl _ _ (w.heap.size + 1) 34 _ (0, 0) _ rfl hout.1 Try.underlying34 rfl termSize, _, rfl, hT.out _, hout.2⟩

set_option maxRecDepth 100000 in
set_option maxHeartbeats 1600000 in
theorem clean_text : CleanSaid (.mk 5 b n fl tx bs rf ls es cl ver) := by
  intro cs w h'
  simp only [TRep] at h'
  obtain ⟨sb, sl, se, xl, xe, rfl, ⟨hk, hn, hf, ht, hr, hc, hv⟩, ⟨ob, ocb, rfl, -⟩, ⟨ol, ocl, rfl, -⟩, -, ⟨oe, oce, rfl, -⟩, -⟩ := h'
  have hcl : cleanT (.mk 5 b n fl tx bs rf ls es cl ver) = .mk 5 false 0 0 tx [] 0 [] [] ⟨#[]⟩ 0 := by rw [cleanT]; rfl
  rw [hcl]
  have hT := Lib.hid (fun W => leaf_rep W 5 false 0 0 tx 0 (by rfl) (by rfl) (by rfl) ht (by rfl))
  have hone := Lib.hid (TRep.ones (hT.out w))
  clear hcl hk hn hf ht hr hc hv
  go_enter Try.func56, Try.ntmps56
  go_wp2_with (first | (refine wpList_store_clean rfl (.tmp 3) _ rfl (CleanAt.start w [.int .i64 5, .bool b, .int .i64 n, .float .f64 fl, .string tx, .slice ob bs.length ocb, .int .u64 rf, .slice ol ls.length ocl, .slice oe es.length oce, .string cl, .int .i64 ver] zeroCells) (kCells 5) rfl rfl rfl (all_one (kOne 5)) ?_; intro W1 hs1; have hsH := Lib.hid hs1; obtain ⟨a0, a1, a2, a3, a4, a5, a6, a7, a8, a9, a10⟩ := hs1.cellsA; obtain ⟨p0, p1, p2, p3, p4, p5, p6, p7, p8, p9, p10, pz⟩ := hs1.cellsC; clear hs1) | (refine wpList_store_row rfl 34 (.tmp 2) _ rfl (w.heap.size + 1) #[.int .i64 5, .bool false, .int .i64 0, .float .f64 0, .string tx, .slice none 0 0, .int .u64 0, .slice none 0 0, .slice none 0 0, .string ⟨#[]⟩, .int .i64 0] rfl rfl 34 zeroCells (hsH.out.set 4 (.string tx)).B termSize rfl (all_one hone.out) ?_))
  have hout := (hsH.out.set 4 (.string tx)).out #[.int .i64 5, .bool false, .int .i64 0, .float .f64 0, .string tx, .slice none 0 0, .int .u64 0, .slice none 0 0, .slice none 0 0, .string ⟨#[]⟩, .int .i64 0]
  exact ⟨rfl, _, results_cell_row rfl _ _ (w.heap.size + 1) 34 _ (0, 0) _ rfl hout.1 Try.underlying34 rfl termSize, _, rfl, hT.out _, hout.2⟩

set_option maxRecDepth 100000 in
set_option maxHeartbeats 1600000 in
theorem clean_ref : CleanSaid (.mk 7 b n fl tx bs rf ls es cl ver) := by
  intro cs w h'
  simp only [TRep] at h'
  obtain ⟨sb, sl, se, xl, xe, rfl, ⟨hk, hn, hf, ht, hr, hc, hv⟩, ⟨ob, ocb, rfl, -⟩, ⟨ol, ocl, rfl, -⟩, -, ⟨oe, oce, rfl, -⟩, -⟩ := h'
  have hcl : cleanT (.mk 7 b n fl tx bs rf ls es cl ver) = .mk 7 false 0 0 ⟨#[]⟩ [] rf [] [] ⟨#[]⟩ 0 := by rw [cleanT]; rfl
  rw [hcl]
  have hT := Lib.hid (fun W => leaf_rep W 7 false 0 0 ⟨#[]⟩ rf (by rfl) (by rfl) (by rfl) (by simp [maxLen, ByteArray.size]) hr)
  have hone := Lib.hid (TRep.ones (hT.out w))
  clear hcl hk hn hf ht hr hc hv
  go_enter Try.func56, Try.ntmps56
  go_wp2_with (first | (refine wpList_store_clean rfl (.tmp 3) _ rfl (CleanAt.start w [.int .i64 7, .bool b, .int .i64 n, .float .f64 fl, .string tx, .slice ob bs.length ocb, .int .u64 rf, .slice ol ls.length ocl, .slice oe es.length oce, .string cl, .int .i64 ver] zeroCells) (kCells 7) rfl rfl rfl (all_one (kOne 7)) ?_; intro W1 hs1; have hsH := Lib.hid hs1; obtain ⟨a0, a1, a2, a3, a4, a5, a6, a7, a8, a9, a10⟩ := hs1.cellsA; obtain ⟨p0, p1, p2, p3, p4, p5, p6, p7, p8, p9, p10, pz⟩ := hs1.cellsC; clear hs1) | (refine wpList_store_row rfl 34 (.tmp 2) _ rfl (w.heap.size + 1) #[.int .i64 7, .bool false, .int .i64 0, .float .f64 0, .string ⟨#[]⟩, .slice none 0 0, .int .u64 rf, .slice none 0 0, .slice none 0 0, .string ⟨#[]⟩, .int .i64 0] rfl rfl 34 zeroCells (hsH.out.set 6 (.int .u64 rf)).B termSize rfl (all_one hone.out) ?_))
  have hout := (hsH.out.set 6 (.int .u64 rf)).out #[.int .i64 7, .bool false, .int .i64 0, .float .f64 0, .string ⟨#[]⟩, .slice none 0 0, .int .u64 rf, .slice none 0 0, .slice none 0 0, .string ⟨#[]⟩, .int .i64 0]
  exact ⟨rfl, _, results_cell_row rfl _ _ (w.heap.size + 1) 34 _ (0, 0) _ rfl hout.1 Try.underlying34 rfl termSize, _, rfl, hT.out _, hout.2⟩

set_option maxRecDepth 100000 in
set_option maxHeartbeats 1600000 in
theorem clean_none (k : Int) (h : k < 2 ∨ 10 < k) : CleanSaid (.mk k b n fl tx bs rf ls es cl ver) := by
  intro cs w h'
  simp only [TRep] at h'
  obtain ⟨sb, sl, se, xl, xe, rfl, ⟨hk, hn, hf, ht, hr, hc, hv⟩, ⟨ob, ocb, rfl, -⟩, ⟨ol, ocl, rfl, -⟩, -, ⟨oe, oce, rfl, -⟩, -⟩ := h'
  have hcl : cleanT (.mk k b n fl tx bs rf ls es cl ver) = tK k := by rw [cleanT, show (k == 2) = false by simp; omega, show (k == 3) = false by simp; omega, show (k == 4) = false by simp; omega, show (k == 5) = false by simp; omega, show (k == 6) = false by simp; omega, show (k == 7) = false by simp; omega, show (k == 8) = false by simp; omega, show (k == 9) = false by simp; omega, show (k == 10) = false by simp; omega]; rfl
  rw [hcl]
  have hT := Lib.hid (fun W => leaf_rep W k false 0 0 ⟨#[]⟩ 0 hk (by rfl) (by rfl) (by simp [maxLen, ByteArray.size]) (by rfl))
  have hone := Lib.hid (TRep.ones (hT.out w))
  have e2 : (k == 2) = false := by simp; omega
  have e3 : (k == 3) = false := by simp; omega
  have e4 : (k == 4) = false := by simp; omega
  have e5 : (k == 5) = false := by simp; omega
  have e6 : (k == 6) = false := by simp; omega
  have e7 : (k == 7) = false := by simp; omega
  have e8 : (k == 8) = false := by simp; omega
  have e9 : (k == 9) = false := by simp; omega
  have e10 : (k == 10) = false := by simp; omega
  clear hcl hk hn hf ht hr hc hv
  go_enter Try.func56, Try.ntmps56
  go_wp2_with (first | (refine wpList_store_clean rfl (.tmp 3) _ rfl (CleanAt.start w [.int .i64 k, .bool b, .int .i64 n, .float .f64 fl, .string tx, .slice ob bs.length ocb, .int .u64 rf, .slice ol ls.length ocl, .slice oe es.length oce, .string cl, .int .i64 ver] zeroCells) (kCells k) rfl rfl rfl (all_one (kOne k)) ?_; intro W1 hs1; have hsH := Lib.hid hs1; obtain ⟨a0, a1, a2, a3, a4, a5, a6, a7, a8, a9, a10⟩ := hs1.cellsA; obtain ⟨p0, p1, p2, p3, p4, p5, p6, p7, p8, p9, p10, pz⟩ := hs1.cellsC; clear hs1) | (refine wpList_store_row rfl 34 (.tmp 2) _ rfl (w.heap.size + 1) #[.int .i64 k, .bool false, .int .i64 0, .float .f64 0, .string ⟨#[]⟩, .slice none 0 0, .int .u64 0, .slice none 0 0, .slice none 0 0, .string ⟨#[]⟩, .int .i64 0] rfl rfl 34 zeroCells hsH.out.B termSize rfl (all_one hone.out) ?_))
  have hout := hsH.out.out #[.int .i64 k, .bool false, .int .i64 0, .float .f64 0, .string ⟨#[]⟩, .slice none 0 0, .int .u64 0, .slice none 0 0, .slice none 0 0, .string ⟨#[]⟩, .int .i64 0]
  exact ⟨rfl, _, results_cell_row rfl _ _ (w.heap.size + 1) 34 _ (0, 0) _ rfl hout.1 Try.underlying34 rfl termSize, _, rfl, hT.out _, hout.2⟩

end
end Go.Proofs.Ytpcbdjfonmohaaa

/-! tenonref01.Clean of dicts, records and bytes. -/
namespace Go.Proofs.Ytpcbdjfonmohaaa
open Go.RowKit
set_option linter.unusedVariables false
set_option linter.unusedSimpArgs false

theorem clean_far {w w2 : World} {i : Nat} (u : Value) (row : Array Value) : ∀ a v, (only w2 (fun b => w.heap.size + 2 < b)).cell? a = some v → (only ((w2.setCell ⟨w.heap.size + 1 + 1, i, none⟩ u).setRow (w.heap.size + 1) row) (fun b => w.heap.size ≤ b)).cell? a = some v :=
  only_keep fun b _ hs => ⟨by omega, (setRow_other _ _ _ _ (by omega)).trans (Below.heap_setCell _ ⟨w.heap.size + 1 + 1, i, none⟩ _ _ (by show b ≠ w.heap.size + 1 + 1; omega))⟩
theorem clean_rowF {w : World} {S : Nat → Prop} (k : Int) (cl : ByteArray) (ver : Int) (es : List (ByteArray × Term)) (se : Value) (xe : List Value) (hk : (Lit.int .i64 k).wf = true) (hcv : cl.size ≤ maxLen ∧ (Lit.int .i64 ver).wf = true) (hr : AtRow (only w S) se es.length 12 xe) (he : EsRep (only w S) es xe) :
    TRep (only w S) (.mk k false 0 0 ⟨#[]⟩ [] 0 [] es cl ver) [.int .i64 k, .bool false, .int .i64 0, .float .f64 0, .string ⟨#[]⟩, .slice none 0 0, .int .u64 0, .slice none 0 0, se, .string cl, .int .i64 ver] := by
  simp only [TRep]
  exact ⟨_, _, _, [], xe, rfl, ⟨hk, by rfl, by rfl, by simp [maxLen, ByteArray.size], by rfl, hcv.1, hcv.2⟩, nilRow, nilRow, rfl, hr, he⟩
theorem clean_rowB {w : World} {S : Nat → Prop} (bs : List UInt8) (sb : Value) (hr : AtRow (only w S) sb bs.length 1 (byteCells bs)) :
    TRep (only w S) (.mk 6 false 0 0 ⟨#[]⟩ bs 0 [] [] ⟨#[]⟩ 0) [.int .i64 6, .bool false, .int .i64 0, .float .f64 0, .string ⟨#[]⟩, sb, .int .u64 0, .slice none 0 0, .slice none 0 0, .string ⟨#[]⟩, .int .i64 0] := by
  simp only [TRep]
  exact ⟨_, _, _, [], [], rfl, ⟨by rfl, by rfl, by rfl, by simp [maxLen, ByteArray.size], by rfl, by simp [maxLen, ByteArray.size], by rfl⟩, hr, nilRow, rfl, nilRow, rfl⟩
section
variable (b : Bool) (n : Int) (fl : Nat) (tx : ByteArray) (bs : List UInt8) (rf : Int) (ls : List Term) (es : List (ByteArray × Term)) (cl : ByteArray) (ver : Int)

set_option maxRecDepth 100000 in
set_option maxHeartbeats 1600000 in
theorem clean_dict (ih : ∀ u ∈ es.map (·.2), CleanSaid u) : CleanSaid (.mk 9 b n fl tx bs rf ls es cl ver) := by
  intro cs w h
  simp only [TRep] at h
  obtain ⟨sb, sl, se, xl, xe, rfl, ⟨hk, hn, hf, ht, hr, hc, hv⟩, hrb, hrl, htl, hre, hte⟩ := h
  have hrbH := Lib.hid hrb
  have hreH := Lib.hid hre
  have hteH := Lib.hid hte
  have hcvH := Lib.hid (And.intro hc hv)
  obtain ⟨ob, ocb, rfl, hcapb, hmaxb, hsmb, hnilb, hxlb, hcellsb⟩ := hrb
  obtain ⟨ol, ocl, rfl, -⟩ := hrl
  obtain ⟨oe, oce, rfl, -, -, hsm, -⟩ := hre
  have hcl : cleanT (.mk 9 b n fl tx bs rf ls es cl ver) = .mk 9 false 0 0 ⟨#[]⟩ [] 0 [] (cleanEs es) ⟨#[]⟩ 0 := by rw [cleanT]; rfl
  rw [hcl]
  clear hcl hk hn hf ht hr hc hv hte htl
  go_enter Try.func56, Try.ntmps56
  go_wp2_with (refine wpList_store_clean rfl (.tmp 3) _ rfl (CleanAt.start w [.int .i64 9, .bool b, .int .i64 n, .float .f64 fl, .string tx, .slice ob bs.length ocb, .int .u64 rf, .slice ol ls.length ocl, .slice oe es.length oce, .string cl, .int .i64 ver] zeroCells) (kCells 9) rfl rfl rfl (all_one (kOne 9)) ?_; intro W1 hs1; have hsH := Lib.hid hs1; obtain ⟨a0, a1, a2, a3, a4, a5, a6, a7, a8, a9, a10⟩ := hs1.cellsA; obtain ⟨p0, p1, p2, p3, p4, p5, p6, p7, p8, p9, p10, pz⟩ := hs1.cellsC; have hl2 : w.heap.size + 1 + 1 < W1.heap.size := hs1.lt; have hl0 : w.heap.size < W1.heap.size := Nat.lt_of_le_of_lt (Nat.le_add_right _ 2) hs1.lt; clear hs1)
  refine (cleaned_said es ih _ xe _ (hreH.out.keep (keeps_of_below hsH.out.below)) (EsRep.keep (keeps_of_below hsH.out.below) _ _ hteH.out)).mono ?_
  rintro e w2 ⟨sv2, xe2, rfl, hown, hes, hb2⟩
  have hlt1 := hsH.out.lt
  have hs2 := hsH.out.keep hb2
  have hrow := AtRow.only (S := fun b => w.heap.size + 2 < b) (AtRow.of_own hown hsm) (fun _ b e => by have := (ownsRow_lt hown b (ownL_some.2 e)).1; omega) (by omega)
  have hes2 : EsRep (only w2 (fun b => w.heap.size + 2 < b)) (cleanEs es) xe2 := EsRep.keep (only_keep fun b _ hs => ⟨by have := hs.1; omega, rfl⟩) _ _ hes
  obtain ⟨oa2, cap2, rfl, -⟩ := ownsRow_form hown
  have hs3 := Lib.hid (hs2.set 8 (.slice oa2 es.length cap2))
  have hrowH := Lib.hid hrow
  have hesH := Lib.hid hes2
  have hlt2 := hs2.lt
  clear hsH a0 a1 a2 a3 a4 a5 a6 a7 a8 a9 a10 p0 p1 p2 p3 p4 p5 p6 p7 p8 p9 p10 pz
  obtain ⟨p0, p1, p2, p3, p4, p5, p6, p7, p8, p9, p10, pz⟩ := hs2.cellsC
  clear hs2 hown hrow hes hes2 hb2 hlt1
  have hT := Lib.hid (clean_rowF (w := w2) (S := fun b => w.heap.size + 2 < b) 9 ⟨#[]⟩ 0 (cleanEs es) (.slice oa2 es.length cap2) xe2 (by rfl) ⟨by simp [maxLen, ByteArray.size], by rfl⟩ (by rw [cleanEs_eq, List.length_map]; exact hrowH.out) hesH.out)
  have hone := Lib.hid (TRep.ones hT.out)
  go_wp2_with (refine wpList_store_row rfl 34 (.tmp 2) _ rfl (w.heap.size + 1) #[.int .i64 9, .bool false, .int .i64 0, .float .f64 0, .string ⟨#[]⟩, .slice none 0 0, .int .u64 0, .slice none 0 0, .slice oa2 es.length cap2, .string ⟨#[]⟩, .int .i64 0] rfl rfl 34 zeroCells hs3.out.B termSize rfl (all_one hone.out) ?_)
  have hout := hs3.out.out #[.int .i64 9, .bool false, .int .i64 0, .float .f64 0, .string ⟨#[]⟩, .slice none 0 0, .int .u64 0, .slice none 0 0, .slice oa2 es.length cap2, .string ⟨#[]⟩, .int .i64 0]
  exact ⟨rfl, _, results_cell_row rfl _ _ (w.heap.size + 1) 34 _ (0, 0) _ rfl hout.1 Try.underlying34 rfl termSize, _, rfl, TRep.keep (clean_far _ _) _ _ hT.out, hout.2⟩

set_option maxRecDepth 100000 in
set_option maxHeartbeats 1600000 in
theorem clean_record (ih : ∀ u ∈ es.map (·.2), CleanSaid u) : CleanSaid (.mk 10 b n fl tx bs rf ls es cl ver) := by
  intro cs w h
  simp only [TRep] at h
  obtain ⟨sb, sl, se, xl, xe, rfl, ⟨hk, hn, hf, ht, hr, hc, hv⟩, hrb, hrl, htl, hre, hte⟩ := h
  have hrbH := Lib.hid hrb
  have hreH := Lib.hid hre
  have hteH := Lib.hid hte
  have hcvH := Lib.hid (And.intro hc hv)
  obtain ⟨ob, ocb, rfl, hcapb, hmaxb, hsmb, hnilb, hxlb, hcellsb⟩ := hrb
  obtain ⟨ol, ocl, rfl, -⟩ := hrl
  obtain ⟨oe, oce, rfl, -, -, hsm, -⟩ := hre
  have hcl : cleanT (.mk 10 b n fl tx bs rf ls es cl ver) = .mk 10 false 0 0 ⟨#[]⟩ [] 0 [] (cleanEs es) cl ver := by rw [cleanT]; rfl
  rw [hcl]
  clear hcl hk hn hf ht hr hc hv hte htl
  go_enter Try.func56, Try.ntmps56
  go_wp2_with (refine wpList_store_clean rfl (.tmp 3) _ rfl (CleanAt.start w [.int .i64 10, .bool b, .int .i64 n, .float .f64 fl, .string tx, .slice ob bs.length ocb, .int .u64 rf, .slice ol ls.length ocl, .slice oe es.length oce, .string cl, .int .i64 ver] zeroCells) (kCells 10) rfl rfl rfl (all_one (kOne 10)) ?_; intro W1 hs1; have hsH := Lib.hid hs1; obtain ⟨a0, a1, a2, a3, a4, a5, a6, a7, a8, a9, a10⟩ := hs1.cellsA; obtain ⟨p0, p1, p2, p3, p4, p5, p6, p7, p8, p9, p10, pz⟩ := hs1.cellsC; have hl2 : w.heap.size + 1 + 1 < W1.heap.size := hs1.lt; have hl0 : w.heap.size < W1.heap.size := Nat.lt_of_le_of_lt (Nat.le_add_right _ 2) hs1.lt; clear hs1)
  have hSk : ∀ w' : World, w'.heap[w.heap.size]? = W1.heap[w.heap.size]? → w'.cell? ⟨w.heap.size, 9, none⟩ = some (.string cl) ∧ w'.cell? ⟨w.heap.size, 10, none⟩ = some (.int .i64 ver) := fun w' hb' => ⟨(World.cell?_of_block (w := W1) hb').trans a9, (World.cell?_of_block (w := W1) hb').trans a10⟩
  refine wp_region_held_drew (S := (fun w' => w'.cell? ⟨w.heap.size, 9, none⟩ = some (.string cl) ∧ w'.cell? ⟨w.heap.size, 10, none⟩ = some (.int .i64 ver))) (by kernel_rfl) ?_ (fun hHeld => ?_)
  · exact hSk _ rfl
  refine wpAnyH_take (i := 0) (v := ?vq0) rfl (by kernel_rfl) (by kernel_rfl) (by kernel_rfl) (fun _ _ _ h => h) (.inl ⟨by rfl, ?hyq0⟩) (by assumption) ?restq0
  case hyq0 => (intro w hSw; (try dsimp only at hSw); go_simp; first | done | with_reducible rfl)
  (try simp only [Act.put, List.setIfInBounds_toArray, List.set_cons_zero, List.set_cons_succ, List.getElem_toArray, List.getElem_cons_zero, List.getElem_cons_succ])
  refine wpAnyH_take (i := 1) (v := ?vq1) rfl (by kernel_rfl) (by kernel_rfl) (by kernel_rfl) (fun _ _ _ h => h) (.inl ⟨by rfl, ?hyq1⟩) (by assumption) ?restq1
  case hyq1 => (intro w hSw; (try dsimp only at hSw); go_simp; first | done | with_reducible rfl)
  (try simp only [Act.put, List.setIfInBounds_toArray, List.set_cons_zero, List.set_cons_succ, List.getElem_toArray, List.getElem_cons_zero, List.getElem_cons_succ])
  refine wpAnyH_take (i := 2) (v := ?vq2) rfl (by kernel_rfl) (by kernel_rfl) (by kernel_rfl) (fun _ _ _ h => h) (.inl ⟨by rfl, ?hyq2⟩) (by assumption) ?restq2
  case hyq2 => (intro w hSw; (try dsimp only at hSw); go_simp; first | done | with_reducible rfl)
  (try simp only [Act.put, List.setIfInBounds_toArray, List.set_cons_zero, List.set_cons_succ, List.getElem_toArray, List.getElem_cons_zero, List.getElem_cons_succ])
  refine wpAnyH_take (i := 3) (v := ?vq3) rfl (by kernel_rfl) (by kernel_rfl) (by kernel_rfl) (fun _ _ _ h => h) (.inl ⟨by rfl, ?hyq3⟩) (by assumption) ?restq3
  case hyq3 => (intro w hSw; (try dsimp only at hSw); go_simp; first | done | with_reducible rfl)
  (try simp only [Act.put, List.setIfInBounds_toArray, List.set_cons_zero, List.set_cons_succ, List.getElem_toArray, List.getElem_cons_zero, List.getElem_cons_succ])
  refine wpAnyH_take (i := 4) (v := ?vq4) rfl (by kernel_rfl) (by kernel_rfl) (by kernel_rfl) (fun _ _ _ h => h) (.inl ⟨by rfl, ?hyq4⟩) (by assumption) ?restq4
  case hyq4 => (intro w hSw; (try dsimp only at hSw); go_simp; first | done | with_reducible rfl)
  (try simp only [Act.put, List.setIfInBounds_toArray, List.set_cons_zero, List.set_cons_succ, List.getElem_toArray, List.getElem_cons_zero, List.getElem_cons_succ])
  refine wpAnyH_ready (rs := [5]) (by kernel_rfl) (by simp) ?_
  refine AllReadyH.cons rfl (fun K hK => ?_) AllReadyH.nil
  rw [if_pos (by rfl)]
  go_simp
  refine hK.out _ _ ?_ (fun hHeld2 => ?_)
  · exact hSk _ (Below.heap_setCell _ ⟨w.heap.size + 1 + 1, _, none⟩ _ _ (by show w.heap.size ≠ w.heap.size + 1 + 1; omega))
  clear hK K
  (try simp only [Act.put, List.setIfInBounds_toArray, List.set_cons_zero, List.set_cons_succ, List.getElem_toArray, List.getElem_cons_zero, List.getElem_cons_succ])
  refine wpAnyH_take (i := 6) (v := ?vq6) rfl (by kernel_rfl) (by kernel_rfl) (by kernel_rfl) (fun _ _ _ h => h) (.inl ⟨by rfl, ?hyq6⟩) (by assumption) ?restq6
  case hyq6 => (intro w hSw; (try dsimp only at hSw); go_simp; first | done | with_reducible rfl)
  (try simp only [Act.put, List.setIfInBounds_toArray, List.set_cons_zero, List.set_cons_succ, List.getElem_toArray, List.getElem_cons_zero, List.getElem_cons_succ])
  refine wpAnyH_ready (rs := [7]) (by kernel_rfl) (by simp) ?_
  refine AllReadyH.cons rfl (fun K hK => ?_) AllReadyH.nil
  rw [if_pos (by rfl)]
  go_simp
  refine hK.out _ _ ?_ (fun hHeld2 => ?_)
  · exact hSk _ ((Below.heap_setCell _ ⟨w.heap.size + 1 + 1, _, none⟩ _ _ (by show w.heap.size ≠ w.heap.size + 1 + 1; omega)).trans (Below.heap_setCell _ ⟨w.heap.size + 1 + 1, _, none⟩ _ _ (by show w.heap.size ≠ w.heap.size + 1 + 1; omega)))
  clear hK K
  (try simp only [Act.put, List.setIfInBounds_toArray, List.set_cons_zero, List.set_cons_succ, List.getElem_toArray, List.getElem_cons_zero, List.getElem_cons_succ])
  refine wpAnyH_done (by kernel_rfl) ?_ _
  have hs5H := Lib.hid (((hsH.out.set 9 (.string cl)).set 10 (.int .i64 ver)).keep (Below.refl _ _).drew)
  go_wp2_with fail
  refine (cleaned_said es ih _ xe _ (hreH.out.keep (keeps_of_below hs5H.out.below)) (EsRep.keep (keeps_of_below hs5H.out.below) _ _ hteH.out)).mono ?_
  rintro e w2 ⟨sv2, xe2, rfl, hown, hes, hb2⟩
  have hlt1 := hs5H.out.lt
  have hs2 := hs5H.out.keep hb2
  have hrow := AtRow.only (S := fun b => w.heap.size + 2 < b) (AtRow.of_own hown hsm) (fun _ b e => by have := (ownsRow_lt hown b (ownL_some.2 e)).1; omega) (by omega)
  have hes2 : EsRep (only w2 (fun b => w.heap.size + 2 < b)) (cleanEs es) xe2 := EsRep.keep (only_keep fun b _ hs => ⟨by have := hs.1; omega, rfl⟩) _ _ hes
  obtain ⟨oa2, cap2, rfl, -⟩ := ownsRow_form hown
  have hs3 := Lib.hid (hs2.set 8 (.slice oa2 es.length cap2))
  have hrowH := Lib.hid hrow
  have hesH := Lib.hid hes2
  have hlt2 := hs2.lt
  clear hs5H a0 a1 a2 a3 a4 a5 a6 a7 a8 a9 a10 p0 p1 p2 p3 p4 p5 p6 p7 p8 p9 p10 pz
  obtain ⟨p0, p1, p2, p3, p4, p5, p6, p7, p8, p9, p10, pz⟩ := hs2.cellsC
  clear hs2 hown hrow hes hes2 hb2 hlt1
  have hT := Lib.hid (clean_rowF (w := w2) (S := fun b => w.heap.size + 2 < b) 10 cl ver (cleanEs es) (.slice oa2 es.length cap2) xe2 (by rfl) hcvH.out (by rw [cleanEs_eq, List.length_map]; exact hrowH.out) hesH.out)
  have hone := Lib.hid (TRep.ones hT.out)
  go_wp2_with (refine wpList_store_row rfl 34 (.tmp 2) _ rfl (w.heap.size + 1) #[.int .i64 10, .bool false, .int .i64 0, .float .f64 0, .string ⟨#[]⟩, .slice none 0 0, .int .u64 0, .slice none 0 0, .slice oa2 es.length cap2, .string cl, .int .i64 ver] rfl rfl 34 zeroCells hs3.out.B termSize rfl (all_one hone.out) ?_)
  have hout := hs3.out.out #[.int .i64 10, .bool false, .int .i64 0, .float .f64 0, .string ⟨#[]⟩, .slice none 0 0, .int .u64 0, .slice none 0 0, .slice oa2 es.length cap2, .string cl, .int .i64 ver]
  exact ⟨rfl, _, results_cell_row rfl _ _ (w.heap.size + 1) 34 _ (0, 0) _ rfl hout.1 Try.underlying34 rfl termSize, _, rfl, TRep.keep (clean_far _ _) _ _ hT.out, hout.2⟩

set_option maxRecDepth 100000 in
set_option maxHeartbeats 1600000 in
theorem clean_bytes : CleanSaid (.mk 6 b n fl tx bs rf ls es cl ver) := by
  intro cs w h
  simp only [TRep] at h
  obtain ⟨sb, sl, se, xl, xe, rfl, ⟨hk, hn, hf, ht, hr, hc, hv⟩, hrb, hrl, htl, hre, hte⟩ := h
  have hrbH := Lib.hid hrb
  have hreH := Lib.hid hre
  have hteH := Lib.hid hte
  have hcvH := Lib.hid (And.intro hc hv)
  obtain ⟨ob, ocb, rfl, hcapb, hmaxb, hsmb, hnilb, hxlb, hcellsb⟩ := hrb
  obtain ⟨ol, ocl, rfl, -⟩ := hrl
  obtain ⟨oe, oce, rfl, -, -, hsm, -⟩ := hre
  have hcl : cleanT (.mk 6 b n fl tx bs rf ls es cl ver) = .mk 6 false 0 0 ⟨#[]⟩ bs 0 [] [] ⟨#[]⟩ 0 := by rw [cleanT]; rfl
  rw [hcl]
  obtain ⟨i0, hi0, hz0, hz1, hz2⟩ := info_parts Try.infoU8
  unfold maxLen at hmaxb
  clear hcl hk hn hf ht hr hc hv hte htl
  cases ob with
  | none =>
    have hc0 := hnilb rfl
    have hl0 : bs.length = 0 := by omega
    obtain rfl : bs = [] := List.eq_nil_of_length_eq_zero hl0
    subst hc0
    clear hl0 hnilb hxlb hcellsb hsmb hmaxb hcapb
    have hT : ∀ (W : World) (S : Nat → Prop) (g : Nat), TRep (only W S) (.mk 6 false 0 0 ⟨#[]⟩ [] 0 [] [] ⟨#[]⟩ 0) [.int .i64 6, .bool false, .int .i64 0, .float .f64 0, .string ⟨#[]⟩, .slice (some ⟨g, 0, none⟩) 0 0, .int .u64 0, .slice none 0 0, .slice none 0 0, .string ⟨#[]⟩, .int .i64 0] := fun W S g => clean_rowB [] _ ⟨_, 0, rfl, Nat.le_refl _, by unfold maxLen; omega, by simp, fun h => (by cases h), rfl, fun h => absurd h (by simp)⟩
    have hTH := Lib.hid hT
    have hone := Lib.hid (fun g => TRep.ones (hT w (fun _ => True) g))
    clear hT
    go_enter Try.func56, Try.ntmps56
    go_wp2_with (first | (refine wpList_store_clean rfl (.tmp 3) _ rfl (CleanAt.start w [.int .i64 6, .bool b, .int .i64 n, .float .f64 fl, .string tx, .slice none 0 0, .int .u64 rf, .slice ol ls.length ocl, .slice oe es.length oce, .string cl, .int .i64 ver] zeroCells) (kCells 6) rfl rfl rfl (all_one (kOne 6)) ?_; intro W1 hs1; have hsH := Lib.hid hs1; obtain ⟨a0, a1, a2, a3, a4, a5, a6, a7, a8, a9, a10⟩ := hs1.cellsA; obtain ⟨p0, p1, p2, p3, p4, p5, p6, p7, p8, p9, p10, pz⟩ := hs1.cellsC; have hs3 := Lib.hid ((hs1.set 5 (.slice (some ⟨W1.heap.size, 0, none⟩) 0 0)).keep ((Below.refl _ _).alloc (Nat.le_refl _) (.cells #[] 5))); have hl2 : w.heap.size + 1 + 1 < W1.heap.size := hs1.lt; have hl0 : w.heap.size < W1.heap.size := Nat.lt_of_le_of_lt (Nat.le_add_right _ 2) hs1.lt; clear hs1) | (at_builtin; go_loud (refine wpList_append_own_none rfl _ _ 28 rfl W1.heap.size 5 i0 1 Try.underlying28 hi0 _ 0 [] rfl (ownsRow_new W1 _ 1 _ (Nat.le_refl _)) rfl ?_)) | (refine wpList_store_row rfl 34 (.tmp 2) _ rfl (w.heap.size + 1) #[.int .i64 6, .bool false, .int .i64 0, .float .f64 0, .string ⟨#[]⟩, .slice (some ⟨W1.heap.size, 0, none⟩) 0 0, .int .u64 0, .slice none 0 0, .slice none 0 0, .string ⟨#[]⟩, .int .i64 0] rfl rfl 34 zeroCells hs3.out.B termSize rfl (all_one (hone.out _)) ?_))
    have hout := hs3.out.out #[.int .i64 6, .bool false, .int .i64 0, .float .f64 0, .string ⟨#[]⟩, .slice (some ⟨W1.heap.size, 0, none⟩) 0 0, .int .u64 0, .slice none 0 0, .slice none 0 0, .string ⟨#[]⟩, .int .i64 0]
    exact ⟨rfl, _, results_cell_row rfl _ _ (w.heap.size + 1) 34 _ (0, 0) _ rfl hout.1 Try.underlying34 rfl termSize, _, rfl, hTH.out _ _ _, hout.2⟩
  | some ad =>
    have hcl : ∀ W, Below w.heap.size w W → ∀ j u, (byteCells bs)[j]? = some u → (W.alloc (.cells #[] 5)).cell? (ad.add j) = some u := by
      intro W hb j u hu
      have hj : j < bs.length := by have := (List.getElem?_eq_some_iff.1 hu).1; simpa [byteCells] using this
      obtain ⟨b', o', e, hc⟩ := hcellsb (by omega)
      cases e
      rw [Addr.add_mid]
      exact keeps_of_below (hb.alloc hb.size _) _ _ ((hc j (by omega)).trans hu)
    have hclH := Lib.hid hcl
    clear hcellsb hcl hnilb hxlb
    go_enter Try.func56, Try.ntmps56
    go_wp2_with (first | (refine wpList_store_clean rfl (.tmp 3) _ rfl (CleanAt.start w [.int .i64 6, .bool b, .int .i64 n, .float .f64 fl, .string tx, .slice (some ad) bs.length ocb, .int .u64 rf, .slice ol ls.length ocl, .slice oe es.length oce, .string cl, .int .i64 ver] zeroCells) (kCells 6) rfl rfl rfl (all_one (kOne 6)) ?_; intro W1 hs1; have hsH := Lib.hid hs1; obtain ⟨a0, a1, a2, a3, a4, a5, a6, a7, a8, a9, a10⟩ := hs1.cellsA; obtain ⟨p0, p1, p2, p3, p4, p5, p6, p7, p8, p9, p10, pz⟩ := hs1.cellsC; have hl2 : w.heap.size + 1 + 1 < W1.heap.size := hs1.lt; have hl0 : w.heap.size < W1.heap.size := Nat.lt_of_le_of_lt (Nat.le_add_right _ 2) hs1.lt; clear hs1) | (at_builtin; go_loud (refine wpList_append_own _ rfl _ _ 28 rfl W1.heap.size 5 i0 _ 1 1 Try.underlying28 hi0 hz0 hz1 hz2 rfl (by omega) _ 0 [] rfl (ownsRow_new W1 _ 1 _ (Nat.le_refl _)) ad bs.length ocb (byteCells bs) rfl (by simp [byteCells]) ?c1 (byteCells_one bs) (by unfold maxLen; omega) (by omega) (by simp) ?_); go_loud ((case c1 => exact hclH.out _ hsH.out.below); intro v' w' hown' hgr' _; simp only [Nat.zero_add, List.nil_append] at hown'; obtain ⟨a', cap', rfl, -⟩ := ownsRow_form hown'; have hs2 := hsH.out.keep (((Below.refl W1.heap.size W1).alloc (Nat.le_refl _) _).grown hgr' (by simp) (fun k hk => Nat.le_of_eq (Option.some.inj hk))); have hs3 := Lib.hid (hs2.set 5 (.slice a' bs.length cap')); have hlt := hsH.out.lt; have hT := Lib.hid (clean_rowB (w := w') (S := fun b => w.heap.size + 2 < b) bs _ (AtRow.only (AtRow.of_own hown' hsmb) (fun _ b e => by have := (ownsRow_lt hown' b (ownL_some.2 e)).1; omega) (by omega))); have hone := Lib.hid (TRep.ones hT.out); clear a0 a1 a2 a3 a4 a5 a6 a7 a8 a9 a10 p0 p1 p2 p3 p4 p5 p6 p7 p8 p9 p10 pz; obtain ⟨p0, p1, p2, p3, p4, p5, p6, p7, p8, p9, p10, pz⟩ := hs2.cellsC; clear hs2)) | (refine wpList_store_row rfl 34 (.tmp 2) _ rfl (w.heap.size + 1) #[.int .i64 6, .bool false, .int .i64 0, .float .f64 0, .string ⟨#[]⟩, .slice a' bs.length cap', .int .u64 0, .slice none 0 0, .slice none 0 0, .string ⟨#[]⟩, .int .i64 0] rfl rfl 34 zeroCells hs3.out.B termSize rfl (all_one hone.out) ?_))
    have hout := hs3.out.out #[.int .i64 6, .bool false, .int .i64 0, .float .f64 0, .string ⟨#[]⟩, .slice a' bs.length cap', .int .u64 0, .slice none 0 0, .slice none 0 0, .string ⟨#[]⟩, .int .i64 0]
    exact ⟨rfl, _, results_cell_row rfl _ _ (w.heap.size + 1) 34 _ (0, 0) _ rfl hout.1 Try.underlying34 rfl termSize, _, rfl, TRep.keep (clean_far _ _) _ _ hT.out, hout.2⟩
end
end Go.Proofs.Ytpcbdjfonmohaaa

/-! tenonref01.Clean of lists, and of any term. -/
namespace Go.Proofs.Ytpcbdjfonmohaaa
open Go.RowKit
set_option linter.unusedVariables false
set_option linter.unusedSimpArgs false

/-- The list under way. -/
structure CLSt (w wr : World) (cs : List Value) (k : Nat) (sl : Value) (ts : List Term) (ys : List Value) : Prop where
  at' : CleanAt w wr cs (listCells sl)
  own : wr.ownsRow (w.heap.size + 3) 34 11 sl k ys
  rep : TsRep (only wr (NotOwn (w.heap.size + 3) sl)) ts ys
section
variable {w wr w1 w2 : World} {o : Obj} {sl : Value} {k g cap : Nat} {ys cs ds : List Value} {ts : List Term} {t : Term}
theorem cl_low1 (h : CLSt w wr cs k sl ts ys) (hb1 : Below wr.heap.size wr w1) : ∀ b, b ≤ w.heap.size + 2 → w1.heap[b]? = wr.heap[b]? := fun b hb => hb1.block b (by have := h.at'.lt; omega)
theorem cl_low2 (h : CLSt w wr cs k sl ts ys) (hb1 : Below wr.heap.size wr w1) (o : Obj) : ∀ b, b ≤ w.heap.size + 2 → (w1.alloc o).heap[b]? = wr.heap[b]? := fun b hb => (Below.heap_alloc _ _ _ (by have := h.at'.lt; have := hb1.size; omega)).trans (cl_low1 h hb1 b hb)
theorem cl_low3 (h : CLSt w wr cs k sl ts ys) (hb1 : Below wr.heap.size wr w1) (hgr : (w1.alloc o).grownBy w2 sl.ownBlock) : ∀ b, b ≤ w.heap.size + 2 → w2.heap[b]? = wr.heap[b]? := fun b hb =>
  (hgr.block b (by have := h.at'.lt; have := hb1.size; simp; omega) (fun e => by have := (ownsRow_lt h.own _ (ownL_some.2 e.symm)).1; omega)).trans (cl_low2 h hb1 o b hb)
theorem cl_low4 (h : CLSt w wr cs k sl ts ys) (hb1 : Below wr.heap.size wr w1) (hgr : (w1.alloc o).grownBy w2 sl.ownBlock) (v : Value) : ∀ b, b ≤ w.heap.size → (w2.setCell ⟨w.heap.size + 1 + 1, 7, none⟩ v).heap[b]? = wr.heap[b]? := fun b hb =>
  (Below.heap_setCell _ ⟨w.heap.size + 1 + 1, 7, none⟩ _ _ (by show b ≠ w.heap.size + 1 + 1; omega)).trans (cl_low3 h hb1 hgr b (by omega))
theorem cl_at (h : CLSt w wr cs k sl ts ys) (hb1 : Below wr.heap.size wr w1) (hgr : (w1.alloc o).grownBy w2 sl.ownBlock) : CleanAt w w2 cs (listCells sl) := by
  have hl := h.at'.lt
  have hz := hb1.size
  refine ⟨?_, (cl_low3 h hb1 hgr _ (by omega)).trans h.at'.A, (cl_low3 h hb1 hgr _ (by omega)).trans h.at'.B, (cl_low3 h hb1 hgr _ (by omega)).trans h.at'.C⟩
  exact ((h.at'.below.trans (below_le hb1 h.at'.below.size)).alloc (by omega) o).grown hgr (by simp; omega) (fun b e => by have := (ownsRow_lt h.own _ (ownL_some.2 e)).1; omega)
theorem cl_step (h : CLSt w wr cs k sl ts ys) (hb1 : Below wr.heap.size wr w1) (ht : TRep (only w1 (fun b => wr.heap.size ≤ b)) t ds) (hown : w2.ownsRow (w.heap.size + 3) 34 11 (.slice (some ⟨g, 0, none⟩) (k + 1) cap) (k + 1) (ys ++ ds))
    (hgr : (w1.alloc o).grownBy w2 sl.ownBlock) (hat : sl.ownBlock = some g ∨ g = (w1.alloc o).heap.size) :
    CLSt w (w2.setCell ⟨w.heap.size + 1 + 1, 7, none⟩ (.slice (some ⟨g, 0, none⟩) (k + 1) cap)) cs (k + 1) (.slice (some ⟨g, 0, none⟩) (k + 1) cap) (ts ++ [t]) (ys ++ ds) := by
  have hl := h.at'.lt
  have hz := hb1.size
  have hlt : ∀ b, sl.ownBlock = some b → w.heap.size + 3 ≤ b ∧ b < wr.heap.size := fun b e => ownsRow_lt h.own b (ownL_some.2 e)
  have hset : ∀ b, w.heap.size + 3 ≤ b → (w2.setCell ⟨w.heap.size + 1 + 1, 7, none⟩ (.slice (some ⟨g, 0, none⟩) (k + 1) cap)).heap[b]? = w2.heap[b]? := fun b hb => Below.heap_setCell w2 ⟨w.heap.size + 1 + 1, 7, none⟩ _ b (by show b ≠ w.heap.size + 1 + 1; omega)
  refine ⟨(cl_at h hb1 hgr).set 7 _, ownsRow_keep hown (fun b hb => hset b (ownsRow_lt hown b hb).1), ?_⟩
  have hr : TsRep (only w2 (NotOwn (w.heap.size + 3) (.slice (some ⟨g, 0, none⟩) (k + 1) cap))) (ts ++ [t]) (ys ++ ds) :=
    TsRep.snoc (TRep.keep (round_new (by omega) hb1 hgr hat (fun b e => (hlt b e).2)) _ _ ht) _ _ (TsRep.keep (round_old hb1 hgr hat) _ _ h.rep)
  exact TsRep.keep (only_keep fun b _ hs => ⟨hs, hset b hs.1⟩) _ _ hr
end
section
variable (b : Bool) (n : Int) (fl : Nat) (tx : ByteArray) (bs : List UInt8) (rf : Int) (ls : List Term) (es : List (ByteArray × Term)) (cl : ByteArray) (ver : Int)
set_option maxRecDepth 100000 in
set_option maxHeartbeats 3200000 in
theorem clean_list (ih : ∀ u ∈ ls, CleanSaid u) : CleanSaid (.mk 8 b n fl tx bs rf ls es cl ver) := by
  intro cs w h
  simp only [TRep] at h
  obtain ⟨sb, sl, se, xl, xe, rfl, -, ⟨ob, ocb, rfl, -⟩, ⟨ol, ocl, rfl, hcap, hmax, hsm, -, -, hform⟩, htl, ⟨oe, oce, rfl, -⟩, -⟩ := h
  have hcl : cleanT (.mk 8 b n fl tx bs rf ls es cl ver) = .mk 8 false 0 0 ⟨#[]⟩ [] 0 (ls.map cleanT) [] ⟨#[]⟩ 0 := by rw [cleanT, cleanTs_eq]; rfl
  rw [hcl]
  unfold maxLen at hmax
  have hdat := Lib.hid (TsRep.at ls xl htl)
  have hformH := Lib.hid hform
  have ihH := Lib.hid ih
  obtain ⟨i0, hi0, hz0, hz1, hz2⟩ := info_parts Try.infoTerm
  clear hcl htl hform ih
  go_enter Try.func56, Try.ntmps56
  go_wp2_with (refine wpList_store_clean rfl (.tmp 3) _ rfl (CleanAt.start w [.int .i64 8, .bool b, .int .i64 n, .float .f64 fl, .string tx, .slice ob bs.length ocb, .int .u64 rf, .slice ol ls.length ocl, .slice oe es.length oce, .string cl, .int .i64 ver] zeroCells) (kCells 8) rfl rfl rfl (all_one (kOne 8)) ?_; intro W1 hs1; have hsH := Lib.hid hs1; obtain ⟨a0, -, -, -, -, -, -, a7, -, -, -⟩ := hs1.cellsA; clear hs1)
  go_loopw [4] (fun i wr => ∃ (k : Nat) (sl : Value) (ys : List Value), k ≤ ls.length ∧ i = .int .i64 k ∧ CLSt w wr [.int .i64 8, .bool b, .int .i64 n, .float .f64 fl, .string tx, .slice ob bs.length ocb, .int .u64 rf, .slice ol ls.length ocl, .slice oe es.length oce, .string cl, .int .i64 ver] k sl ((ls.map cleanT).take k) ys) (fun i _ => ls.length - (intOf i).toNat)
  case atStart => exact ⟨0, .slice none 0 0, [], Nat.zero_le _, rfl, ⟨hsH.out, ⟨rfl, .inl ⟨rfl, rfl⟩⟩, rfl⟩⟩
  case round =>
    obtain ⟨k, sl, ys, hk, rfl, hst1⟩ := hrel
    have hst := Lib.hid hst1
    have hown := hst1.own
    have q7 : wr.cell? ⟨w.heap.size + 1 + 1, 7, none⟩ = some sl := block_cells hst1.at'.C 7
    have hCl : w.heap.size + 1 + 1 < wr.heap.size := hst1.at'.lt
    have hCz : w.heap.size + 3 ≤ wr.heap.size := hst1.at'.lt
    have r7 : wr.cell? ⟨w.heap.size, 7, none⟩ = some (.slice ol ls.length ocl) := block_cells hst1.at'.A 7
    have hbw := Lib.hid hst1.at'.below
    clear hst1 a0 a7
    by_cases hlt : k < ls.length
    · obtain ⟨g, o, rfl, hcells⟩ := hformH.out (by omega)
      obtain ⟨u, hp⟩ : ∃ u, ls[k]? = some u := ⟨_, List.getElem?_eq_getElem hlt⟩
      obtain ⟨ds, ht, e1⟩ := hdat.out k u hp
      have hcell : ∀ j, j < 11 → w.cell? ⟨g, o + k * 11 + j, none⟩ = ds[j]? := fun j hj => by
        have h1 := hcells (k * 11 + j) (by omega)
        rw [e1 j hj, ← Nat.add_assoc] at h1
        exact h1
      have hrepW := Lib.hid (show TRep wr.drew u ds from TRep.keep (w := wr) (w' := wr.drew) (fun a u h => h) _ _ (TRep.keep (keeps_of_below hbw.out) _ _ ht))
      have hih := Lib.hid (fun W (h : TRep W u ds) => ihH.out u (List.mem_of_getElem? hp) ds W h)
      have hpH : Hid ((ls.map cleanT)[k]? = some (cleanT u)) := Lib.hid (by rw [List.getElem?_map, hp]; rfl)
      obtain ⟨d0, d1, d2, d3, d4, d5, d6, d7, d8, d9, d10, rfl⟩ := eleven (TRep.len ht)
      have q0' := hcell 0 (by omega)
      have q1' := hcell 1 (by omega)
      have q2' := hcell 2 (by omega)
      have q3' := hcell 3 (by omega)
      have q4' := hcell 4 (by omega)
      have q5' := hcell 5 (by omega)
      have q6' := hcell 6 (by omega)
      have q7' := hcell 7 (by omega)
      have q8' := hcell 8 (by omega)
      have q9' := hcell 9 (by omega)
      have q10' := hcell 10 (by omega)
      simp only [List.getElem?_cons_zero, List.getElem?_cons_succ, Nat.add_zero] at q0' q1' q2' q3' q4' q5' q6' q7' q8' q9' q10'
      have hgl : g < w.heap.size := World.block_lt_of_cell? _ _ q0'
      have hSk : ∀ w' : World, (∀ b, b ≤ w.heap.size → w'.heap[b]? = wr.heap[b]?) → w'.cell? ⟨w.heap.size, 7, none⟩ = some (.slice (some ⟨g, o, none⟩) ls.length ocl) ∧ w'.cell? ⟨g, o + k * 11, none⟩ = some d0 ∧ w'.cell? ⟨g, o + k * 11 + 1, none⟩ = some d1 ∧ w'.cell? ⟨g, o + k * 11 + 2, none⟩ = some d2 ∧ w'.cell? ⟨g, o + k * 11 + 3, none⟩ = some d3 ∧ w'.cell? ⟨g, o + k * 11 + 4, none⟩ = some d4 ∧ w'.cell? ⟨g, o + k * 11 + 5, none⟩ = some d5 ∧ w'.cell? ⟨g, o + k * 11 + 6, none⟩ = some d6 ∧ w'.cell? ⟨g, o + k * 11 + 7, none⟩ = some d7 ∧ w'.cell? ⟨g, o + k * 11 + 8, none⟩ = some d8 ∧ w'.cell? ⟨g, o + k * 11 + 9, none⟩ = some d9 ∧ w'.cell? ⟨g, o + k * 11 + 10, none⟩ = some d10 := fun w' hb' =>
        ⟨(World.cell?_of_block (w := wr) (hb' _ (Nat.le_refl _))).trans r7, (World.cell?_of_block (w := wr) (hb' _ (by show g ≤ _; omega))).trans (keeps_of_below hbw.out _ _ q0'), (World.cell?_of_block (w := wr) (hb' _ (by show g ≤ _; omega))).trans (keeps_of_below hbw.out _ _ q1'), (World.cell?_of_block (w := wr) (hb' _ (by show g ≤ _; omega))).trans (keeps_of_below hbw.out _ _ q2'), (World.cell?_of_block (w := wr) (hb' _ (by show g ≤ _; omega))).trans (keeps_of_below hbw.out _ _ q3'), (World.cell?_of_block (w := wr) (hb' _ (by show g ≤ _; omega))).trans (keeps_of_below hbw.out _ _ q4'), (World.cell?_of_block (w := wr) (hb' _ (by show g ≤ _; omega))).trans (keeps_of_below hbw.out _ _ q5'), (World.cell?_of_block (w := wr) (hb' _ (by show g ≤ _; omega))).trans (keeps_of_below hbw.out _ _ q6'), (World.cell?_of_block (w := wr) (hb' _ (by show g ≤ _; omega))).trans (keeps_of_below hbw.out _ _ q7'), (World.cell?_of_block (w := wr) (hb' _ (by show g ≤ _; omega))).trans (keeps_of_below hbw.out _ _ q8'), (World.cell?_of_block (w := wr) (hb' _ (by show g ≤ _; omega))).trans (keeps_of_below hbw.out _ _ q9'), (World.cell?_of_block (w := wr) (hb' _ (by show g ≤ _; omega))).trans (keeps_of_below hbw.out _ _ q10')⟩
      clear hcell hcells e1 ht hp q0' q1' q2' q3' q4' q5' q6' q7' q8' q9' q10'
      go_wp2_with fail
      refine wp_region_held_drew (S := (fun w' => w'.cell? ⟨w.heap.size, 7, none⟩ = some (.slice (some ⟨g, o, none⟩) ls.length ocl) ∧ w'.cell? ⟨g, o + k * 11, none⟩ = some d0 ∧ w'.cell? ⟨g, o + k * 11 + 1, none⟩ = some d1 ∧ w'.cell? ⟨g, o + k * 11 + 2, none⟩ = some d2 ∧ w'.cell? ⟨g, o + k * 11 + 3, none⟩ = some d3 ∧ w'.cell? ⟨g, o + k * 11 + 4, none⟩ = some d4 ∧ w'.cell? ⟨g, o + k * 11 + 5, none⟩ = some d5 ∧ w'.cell? ⟨g, o + k * 11 + 6, none⟩ = some d6 ∧ w'.cell? ⟨g, o + k * 11 + 7, none⟩ = some d7 ∧ w'.cell? ⟨g, o + k * 11 + 8, none⟩ = some d8 ∧ w'.cell? ⟨g, o + k * 11 + 9, none⟩ = some d9 ∧ w'.cell? ⟨g, o + k * 11 + 10, none⟩ = some d10)) (by kernel_rfl) ?_ (fun hHeld => ?_)
      · exact hSk _ (fun _ _ => rfl)
      refine wpAnyH_take (i := 0) (v := ?vz1) rfl (by kernel_rfl) (by kernel_rfl) (by kernel_rfl) (fun _ _ _ h => h) (.inl ⟨by rfl, ?hyz1⟩) (by assumption) ?restz1
      case hyz1 => (intro w hSw; (try dsimp only at hSw); go_simp; first | done | with_reducible rfl)
      (try simp only [Act.put, List.setIfInBounds_toArray, List.set_cons_zero, List.set_cons_succ, List.getElem_toArray, List.getElem_cons_zero, List.getElem_cons_succ])
      refine wpAnyH_take (i := 2) (v := ?vz2) rfl (by kernel_rfl) (by kernel_rfl) (by kernel_rfl) (fun _ _ _ h => h) (.inl ⟨by rfl, ?hyz2⟩) (by assumption) ?restz2
      case hyz2 => (intro w hSw; (try dsimp only at hSw); go_simp; first | done | with_reducible rfl)
      (try simp only [Act.put, List.setIfInBounds_toArray, List.set_cons_zero, List.set_cons_succ, List.getElem_toArray, List.getElem_cons_zero, List.getElem_cons_succ])
      refine wpAnyH_take (i := 3) (v := ?vz3) rfl (by kernel_rfl) (by kernel_rfl) (by kernel_rfl) (fun _ _ _ h => h) (.inl ⟨by rfl, ?hyz3⟩) (by assumption) ?restz3
      case hyz3 => (intro w hSw; (try dsimp only at hSw); go_simp; first | done | with_reducible rfl)
      (try simp only [Act.put, List.setIfInBounds_toArray, List.set_cons_zero, List.set_cons_succ, List.getElem_toArray, List.getElem_cons_zero, List.getElem_cons_succ])
      refine wpAnyH_take (i := 4) (v := ?vz4) rfl (by kernel_rfl) (by kernel_rfl) (by kernel_rfl) (fun _ _ _ h => h) (.inl ⟨by rfl, ?hyz4⟩) (by assumption) ?restz4
      case hyz4 => (intro w hSw; (try dsimp only at hSw); go_simp; first | done | with_reducible rfl)
      (try simp only [Act.put, List.setIfInBounds_toArray, List.set_cons_zero, List.set_cons_succ, List.getElem_toArray, List.getElem_cons_zero, List.getElem_cons_succ])
      refine wpAnyH_take (i := 5) (v := ?vz5) rfl (by kernel_rfl) (by kernel_rfl) (by kernel_rfl) (fun _ _ _ h => h) (.inl ⟨by rfl, ?hyz5⟩) (by assumption) ?restz5
      case hyz5 => (intro w hSw; (try dsimp only at hSw); go_simp; first | done | with_reducible rfl)
      (try simp only [Act.put, List.setIfInBounds_toArray, List.set_cons_zero, List.set_cons_succ, List.getElem_toArray, List.getElem_cons_zero, List.getElem_cons_succ])
      refine wpAnyH_take (i := 6) (v := ?vz6) rfl (by kernel_rfl) (by kernel_rfl) (by kernel_rfl) (fun _ _ _ h => h) (.inl ⟨by rfl, ?hyz6⟩) (by assumption) ?restz6
      case hyz6 => (intro w hSw; (try dsimp only at hSw); go_simp; first | done | with_reducible rfl)
      (try simp only [Act.put, List.setIfInBounds_toArray, List.set_cons_zero, List.set_cons_succ, List.getElem_toArray, List.getElem_cons_zero, List.getElem_cons_succ])
      refine wpAnyH_ready (rs := [1, 7]) (by kernel_rfl) (by simp) ?_
      refine AllReadyH.cons rfl (fun K hK => ?_) (AllReadyH.cons rfl (fun K hK => ?_) AllReadyH.nil)
      · rw [if_pos (by rfl)]
        go_simp
        refine hK.out _ _ ?_ (fun hHeld2 => ?_)
        · exact hSk _ (fun _ _ => rfl)
        clear hK K
        (try simp only [Act.put, List.setIfInBounds_toArray, List.set_cons_zero, List.set_cons_succ, List.getElem_toArray, List.getElem_cons_zero, List.getElem_cons_succ])
        refine wpAnyH_ready (rs := [7]) (by kernel_rfl) (by simp) ?_
        refine AllReadyH.cons rfl (fun K hK => ?_) AllReadyH.nil
        rw [if_pos (by rfl)]
        go_simp
        refine (hih.out wr.drew hrepW.out).mono ?_
        rintro e w1 ⟨cs1, rfl, ht, hb1⟩
        obtain ⟨c0, c1, c2, c3, c4, c5, c6, c7, c8, c9, c10, rfl⟩ := eleven (TRep.len ht)
        have hone := TRep.ones ht
        have hbw1 : Below wr.heap.size wr w1 := ((Below.refl wr.heap.size wr).drew).trans hb1
        have hown1 := ownsRow_keep hown (fun b hbm => hbw1.block b (ownsRow_lt hown b hbm).2)
        have q71 := (hbw1.cell (p := ⟨w.heap.size + 1 + 1, 7, none⟩) hCl).trans q7
        have hCl1 : w.heap.size + 1 + 1 < w1.heap.size := Nat.lt_of_lt_of_le hCl hbw1.size
        have htH := Lib.hid ht
        clear ht
        refine hK.out _ _ ?_ (fun hHeld2 => ?_)
        · exact hSk _ (fun b hb => cl_low1 hst.out hbw1 b (by omega))
        clear hK K
        (try simp only [Act.put, List.setIfInBounds_toArray, List.set_cons_zero, List.set_cons_succ, List.getElem_toArray, List.getElem_cons_zero, List.getElem_cons_succ])
        refine wpAnyH_ready (rs := [8]) (by kernel_rfl) (by simp) ?_
        refine AllReadyH.cons rfl (fun K hK => ?_) AllReadyH.nil
        rw [if_pos (by rfl)]
        refine wp_of_exec (exec_buildSlice (vs := #[(0, .agg #[c0, c1, c2, c3, c4, c5, c6, c7, c8, c9, c10])]) rfl (by simp [Act.eval]) (run_buildTerm1 c0 c1 c2 c3 c4 c5 c6 c7 c8 c9 c10 _)) ?_
        refine hK.out _ _ ?_ (fun hHeld2 => ?_)
        · exact hSk _ (fun b hb => cl_low2 hst.out hbw1 _ b (by omega))
        clear hK K
        (try simp only [Act.put, List.setIfInBounds_toArray, List.set_cons_zero, List.set_cons_succ, List.getElem_toArray, List.getElem_cons_zero, List.getElem_cons_succ])
        refine wpAnyH_ready (rs := [9]) (by kernel_rfl) (by simp) ?_
        refine AllReadyH.cons rfl (fun K hK => ?_) AllReadyH.nil
        refine step_append_lies _ (by rfl) _ _ _ (by rfl) (w.heap.size + 3) 34 i0 _ 11 152 Try.underlying31 hi0 hz0 hz1 hz2 rfl (by omega) _ k ys (by rfl) (hown1.alloc _) ⟨w1.heap.size, 0, none⟩ 1 1 [c0, c1, c2, c3, c4, c5, c6, c7, c8, c9, c10] (by rfl) (by rfl) (World.news_of_block (cs := #[c0, c1, c2, c3, c4, c5, c6, c7, c8, c9, c10]) (t := 34) (fr := (0, 0)) (heap_alloc_new w1 _)) hone (by omega) (by unfold maxLen; omega) (by omega) (by have := hbw1.size; simp; omega) _ rfl ?_
        intro g2 cap2 w2 hown2 hgr2 hat2 hlt2
        have hfin := cl_step hst.out hbw1 htH.out hown2 hgr2 hat2
        refine hK.out _ _ ?_ (fun hHeld2 => ?_)
        · exact hSk _ (fun b hb => cl_low3 hst.out hbw1 hgr2 b (by omega))
        clear hK K
        (try simp only [Act.put, List.setIfInBounds_toArray, List.set_cons_zero, List.set_cons_succ, List.getElem_toArray, List.getElem_cons_zero, List.getElem_cons_succ])
        refine wpAnyH_take (i := 10) (v := ?vz7) rfl (by kernel_rfl) (by kernel_rfl) (by kernel_rfl) (fun _ _ _ h => h) (.inl ⟨by rfl, ?hyz7⟩) (by assumption) ?restz7
        case hyz7 => (intro w hSw; (try dsimp only at hSw); go_simp; first | done | with_reducible rfl)
        (try simp only [Act.put, List.setIfInBounds_toArray, List.set_cons_zero, List.set_cons_succ, List.getElem_toArray, List.getElem_cons_zero, List.getElem_cons_succ])
        refine wpAnyH_ready (rs := [11]) (by kernel_rfl) (by simp) ?_
        refine AllReadyH.cons rfl (fun K hK => ?_) AllReadyH.nil
        rw [if_pos (by rfl)]
        have q72 := (block_cells (cl_at hst.out hbw1 hgr2).C 7)
        have z72 := frozen_of (cl_at hst.out hbw1 hgr2).C 7
        go_simp
        refine hK.out _ _ ?_ (fun hHeld2 => ?_)
        · exact hSk _ (cl_low4 hst.out hbw1 hgr2 _)
        clear hK K
        (try simp only [Act.put, List.setIfInBounds_toArray, List.set_cons_zero, List.set_cons_succ, List.getElem_toArray, List.getElem_cons_zero, List.getElem_cons_succ])
        refine wpAnyH_done (by kernel_rfl) ?_ _
        go_wp2_with fail
        go_roundw
        case rel => exact ⟨k + 1, _, _, by omega, by go_num, by rw [List.take_add_one, hpH.out]; exact hfin⟩
        case measure => simp [intOf]; omega
      · rw [if_pos (by rfl)]
        go_simp
        refine (hih.out wr.drew hrepW.out).mono ?_
        rintro e w1 ⟨cs1, rfl, ht, hb1⟩
        obtain ⟨c0, c1, c2, c3, c4, c5, c6, c7, c8, c9, c10, rfl⟩ := eleven (TRep.len ht)
        have hone := TRep.ones ht
        have hbw1 : Below wr.heap.size wr w1 := ((Below.refl wr.heap.size wr).drew).trans hb1
        have hown1 := ownsRow_keep hown (fun b hbm => hbw1.block b (ownsRow_lt hown b hbm).2)
        have q71 := (hbw1.cell (p := ⟨w.heap.size + 1 + 1, 7, none⟩) hCl).trans q7
        have hCl1 : w.heap.size + 1 + 1 < w1.heap.size := Nat.lt_of_lt_of_le hCl hbw1.size
        have htH := Lib.hid ht
        clear ht
        refine hK.out _ _ ?_ (fun hHeld2 => ?_)
        · exact hSk _ (fun b hb => cl_low1 hst.out hbw1 b (by omega))
        clear hK K
        (try simp only [Act.put, List.setIfInBounds_toArray, List.set_cons_zero, List.set_cons_succ, List.getElem_toArray, List.getElem_cons_zero, List.getElem_cons_succ])
        refine wpAnyH_ready (rs := [1, 8]) (by kernel_rfl) (by simp) ?_
        refine AllReadyH.cons rfl (fun K hK => ?_) (AllReadyH.cons rfl (fun K hK => ?_) AllReadyH.nil)
        · rw [if_pos (by rfl)]
          go_simp
          refine hK.out _ _ ?_ (fun hHeld2 => ?_)
          · exact hSk _ (fun b hb => cl_low1 hst.out hbw1 b (by omega))
          clear hK K
          (try simp only [Act.put, List.setIfInBounds_toArray, List.set_cons_zero, List.set_cons_succ, List.getElem_toArray, List.getElem_cons_zero, List.getElem_cons_succ])
          refine wpAnyH_ready (rs := [8]) (by kernel_rfl) (by simp) ?_
          refine AllReadyH.cons rfl (fun K hK => ?_) AllReadyH.nil
          rw [if_pos (by rfl)]
          refine wp_of_exec (exec_buildSlice (vs := #[(0, .agg #[c0, c1, c2, c3, c4, c5, c6, c7, c8, c9, c10])]) rfl (by simp [Act.eval]) (run_buildTerm1 c0 c1 c2 c3 c4 c5 c6 c7 c8 c9 c10 _)) ?_
          refine hK.out _ _ ?_ (fun hHeld2 => ?_)
          · exact hSk _ (fun b hb => cl_low2 hst.out hbw1 _ b (by omega))
          clear hK K
          (try simp only [Act.put, List.setIfInBounds_toArray, List.set_cons_zero, List.set_cons_succ, List.getElem_toArray, List.getElem_cons_zero, List.getElem_cons_succ])
          refine wpAnyH_ready (rs := [9]) (by kernel_rfl) (by simp) ?_
          refine AllReadyH.cons rfl (fun K hK => ?_) AllReadyH.nil
          refine step_append_lies _ (by rfl) _ _ _ (by rfl) (w.heap.size + 3) 34 i0 _ 11 152 Try.underlying31 hi0 hz0 hz1 hz2 rfl (by omega) _ k ys (by rfl) (hown1.alloc _) ⟨w1.heap.size, 0, none⟩ 1 1 [c0, c1, c2, c3, c4, c5, c6, c7, c8, c9, c10] (by rfl) (by rfl) (World.news_of_block (cs := #[c0, c1, c2, c3, c4, c5, c6, c7, c8, c9, c10]) (t := 34) (fr := (0, 0)) (heap_alloc_new w1 _)) hone (by omega) (by unfold maxLen; omega) (by omega) (by have := hbw1.size; simp; omega) _ rfl ?_
          intro g2 cap2 w2 hown2 hgr2 hat2 hlt2
          have hfin := cl_step hst.out hbw1 htH.out hown2 hgr2 hat2
          refine hK.out _ _ ?_ (fun hHeld2 => ?_)
          · exact hSk _ (fun b hb => cl_low3 hst.out hbw1 hgr2 b (by omega))
          clear hK K
          (try simp only [Act.put, List.setIfInBounds_toArray, List.set_cons_zero, List.set_cons_succ, List.getElem_toArray, List.getElem_cons_zero, List.getElem_cons_succ])
          refine wpAnyH_take (i := 10) (v := ?vz8) rfl (by kernel_rfl) (by kernel_rfl) (by kernel_rfl) (fun _ _ _ h => h) (.inl ⟨by rfl, ?hyz8⟩) (by assumption) ?restz8
          case hyz8 => (intro w hSw; (try dsimp only at hSw); go_simp; first | done | with_reducible rfl)
          (try simp only [Act.put, List.setIfInBounds_toArray, List.set_cons_zero, List.set_cons_succ, List.getElem_toArray, List.getElem_cons_zero, List.getElem_cons_succ])
          refine wpAnyH_ready (rs := [11]) (by kernel_rfl) (by simp) ?_
          refine AllReadyH.cons rfl (fun K hK => ?_) AllReadyH.nil
          rw [if_pos (by rfl)]
          have q72 := (block_cells (cl_at hst.out hbw1 hgr2).C 7)
          have z72 := frozen_of (cl_at hst.out hbw1 hgr2).C 7
          go_simp
          refine hK.out _ _ ?_ (fun hHeld2 => ?_)
          · exact hSk _ (cl_low4 hst.out hbw1 hgr2 _)
          clear hK K
          (try simp only [Act.put, List.setIfInBounds_toArray, List.set_cons_zero, List.set_cons_succ, List.getElem_toArray, List.getElem_cons_zero, List.getElem_cons_succ])
          refine wpAnyH_done (by kernel_rfl) ?_ _
          go_wp2_with fail
          go_roundw
          case rel => exact ⟨k + 1, _, _, by omega, by go_num, by rw [List.take_add_one, hpH.out]; exact hfin⟩
          case measure => simp [intOf]; omega
        · rw [if_pos (by rfl)]
          refine wp_of_exec (exec_buildSlice (vs := #[(0, .agg #[c0, c1, c2, c3, c4, c5, c6, c7, c8, c9, c10])]) rfl (by simp [Act.eval]) (run_buildTerm1 c0 c1 c2 c3 c4 c5 c6 c7 c8 c9 c10 _)) ?_
          refine hK.out _ _ ?_ (fun hHeld2 => ?_)
          · exact hSk _ (fun b hb => cl_low2 hst.out hbw1 _ b (by omega))
          clear hK K
          (try simp only [Act.put, List.setIfInBounds_toArray, List.set_cons_zero, List.set_cons_succ, List.getElem_toArray, List.getElem_cons_zero, List.getElem_cons_succ])
          refine wpAnyH_ready (rs := [1]) (by kernel_rfl) (by simp) ?_
          refine AllReadyH.cons rfl (fun K hK => ?_) AllReadyH.nil
          rw [if_pos (by rfl)]
          go_simp
          refine hK.out _ _ ?_ (fun hHeld2 => ?_)
          · exact hSk _ (fun b hb => cl_low2 hst.out hbw1 _ b (by omega))
          clear hK K
          (try simp only [Act.put, List.setIfInBounds_toArray, List.set_cons_zero, List.set_cons_succ, List.getElem_toArray, List.getElem_cons_zero, List.getElem_cons_succ])
          refine wpAnyH_ready (rs := [9]) (by kernel_rfl) (by simp) ?_
          refine AllReadyH.cons rfl (fun K hK => ?_) AllReadyH.nil
          refine step_append_lies _ (by rfl) _ _ _ (by rfl) (w.heap.size + 3) 34 i0 _ 11 152 Try.underlying31 hi0 hz0 hz1 hz2 rfl (by omega) _ k ys (by rfl) (hown1.alloc _) ⟨w1.heap.size, 0, none⟩ 1 1 [c0, c1, c2, c3, c4, c5, c6, c7, c8, c9, c10] (by rfl) (by rfl) (World.news_of_block (cs := #[c0, c1, c2, c3, c4, c5, c6, c7, c8, c9, c10]) (t := 34) (fr := (0, 0)) (heap_alloc_new w1 _)) hone (by omega) (by unfold maxLen; omega) (by omega) (by have := hbw1.size; simp; omega) _ rfl ?_
          intro g2 cap2 w2 hown2 hgr2 hat2 hlt2
          have hfin := cl_step hst.out hbw1 htH.out hown2 hgr2 hat2
          refine hK.out _ _ ?_ (fun hHeld2 => ?_)
          · exact hSk _ (fun b hb => cl_low3 hst.out hbw1 hgr2 b (by omega))
          clear hK K
          (try simp only [Act.put, List.setIfInBounds_toArray, List.set_cons_zero, List.set_cons_succ, List.getElem_toArray, List.getElem_cons_zero, List.getElem_cons_succ])
          refine wpAnyH_take (i := 10) (v := ?vz9) rfl (by kernel_rfl) (by kernel_rfl) (by kernel_rfl) (fun _ _ _ h => h) (.inl ⟨by rfl, ?hyz9⟩) (by assumption) ?restz9
          case hyz9 => (intro w hSw; (try dsimp only at hSw); go_simp; first | done | with_reducible rfl)
          (try simp only [Act.put, List.setIfInBounds_toArray, List.set_cons_zero, List.set_cons_succ, List.getElem_toArray, List.getElem_cons_zero, List.getElem_cons_succ])
          refine wpAnyH_ready (rs := [11]) (by kernel_rfl) (by simp) ?_
          refine AllReadyH.cons rfl (fun K hK => ?_) AllReadyH.nil
          rw [if_pos (by rfl)]
          have q72 := (block_cells (cl_at hst.out hbw1 hgr2).C 7)
          have z72 := frozen_of (cl_at hst.out hbw1 hgr2).C 7
          go_simp
          refine hK.out _ _ ?_ (fun hHeld2 => ?_)
          · exact hSk _ (cl_low4 hst.out hbw1 hgr2 _)
          clear hK K
          (try simp only [Act.put, List.setIfInBounds_toArray, List.set_cons_zero, List.set_cons_succ, List.getElem_toArray, List.getElem_cons_zero, List.getElem_cons_succ])
          refine wpAnyH_done (by kernel_rfl) ?_ _
          go_wp2_with fail
          go_roundw
          case rel => exact ⟨k + 1, _, _, by omega, by go_num, by rw [List.take_add_one, hpH.out]; exact hfin⟩
          case measure => simp [intOf]; omega
    · obtain rfl : k = ls.length := by omega
      have hst1 := hst.out
      have hrep := hst1.rep
      rw [List.take_of_length_le (by simp)] at hrep
      obtain ⟨oa, cap2, rfl, -⟩ := ownsRow_form hown
      have hat := Lib.hid hst1.at'
      have hT : TRep (only wr (fun b => w.heap.size + 2 < b)) (.mk 8 false 0 0 ⟨#[]⟩ [] 0 (ls.map cleanT) [] ⟨#[]⟩ 0) [.int .i64 8, .bool false, .int .i64 0, .float .f64 0, .string ⟨#[]⟩, .slice none 0 0, .int .u64 0, .slice oa ls.length cap2, .slice none 0 0, .string ⟨#[]⟩, .int .i64 0] := by
        simp only [TRep]
        refine ⟨_, _, _, ys, [], rfl, ⟨by rfl, by rfl, by rfl, by simp [maxLen, ByteArray.size], by rfl, by simp [maxLen, ByteArray.size], by rfl⟩, nilRow, ?_, TsRep.keep (only_keep fun b _ hs => ⟨by have := hs.1; omega, rfl⟩) _ _ hrep, nilRow, rfl⟩
        rw [List.length_map]
        exact (AtRow.of_own hown hsm).only (fun _ b hb => by have := (ownsRow_lt hown b (ownL_some.2 hb)).1; omega) (by omega)
      have hTH := Lib.hid hT
      have hone := Lib.hid (TRep.ones hT)
      clear q7
      obtain ⟨p0, p1, p2, p3, p4, p5, p6, p7, p8, p9, p10, pz⟩ := hst1.at'.cellsC
      clear hT hrep hst1 hown
      go_wp2_with (refine wpList_store_row rfl 34 (.tmp 2) _ rfl (w.heap.size + 1) #[.int .i64 8, .bool false, .int .i64 0, .float .f64 0, .string ⟨#[]⟩, .slice none 0 0, .int .u64 0, .slice oa ls.length cap2, .slice none 0 0, .string ⟨#[]⟩, .int .i64 0] rfl rfl 34 zeroCells hat.out.B termSize rfl (all_one hone.out) ?_)
      have hout := hat.out.out #[.int .i64 8, .bool false, .int .i64 0, .float .f64 0, .string ⟨#[]⟩, .slice none 0 0, .int .u64 0, .slice oa ls.length cap2, .slice none 0 0, .string ⟨#[]⟩, .int .i64 0]
      exact ⟨rfl, _, results_cell_row rfl _ _ (w.heap.size + 1) 34 _ (0, 0) _ rfl hout.1 Try.underlying34 rfl termSize, _, rfl, TRep.keep (only_keep fun b _ hs => ⟨by omega, setRow_other _ _ _ _ (by omega)⟩) _ _ hTH.out, hout.2⟩
end
theorem clean_any : ∀ t : Term, CleanSaid t := term_all fun t ih => by
  obtain ⟨k, b, n, fl, tx, bs, rf, ls, es, cl, ver⟩ := t
  have ihl : ∀ u ∈ ls, CleanSaid u := fun u hu => ih u (List.mem_append_left _ hu)
  have ihe : ∀ u ∈ es.map (·.2), CleanSaid u := fun u hu => ih u (List.mem_append_right _ hu)
  by_cases h2 : k = 2
  · subst h2; exact clean_bool b n fl tx bs rf ls es cl ver
  by_cases h3 : k = 3
  · subst h3; exact clean_int b n fl tx bs rf ls es cl ver
  by_cases h4 : k = 4
  · subst h4; exact clean_float b n fl tx bs rf ls es cl ver
  by_cases h5 : k = 5
  · subst h5; exact clean_text b n fl tx bs rf ls es cl ver
  by_cases h6 : k = 6
  · subst h6; exact clean_bytes b n fl tx bs rf ls es cl ver
  by_cases h7 : k = 7
  · subst h7; exact clean_ref b n fl tx bs rf ls es cl ver
  by_cases h8 : k = 8
  · subst h8; exact clean_list b n fl tx bs rf ls es cl ver ihl
  by_cases h9 : k = 9
  · subst h9; exact clean_dict b n fl tx bs rf ls es cl ver ihe
  by_cases h10 : k = 10
  · subst h10; exact clean_record b n fl tx bs rf ls es cl ver ihe
  exact clean_none b n fl tx bs rf ls es cl ver k (by omega)
end Go.Proofs.Ytpcbdjfonmohaaa
