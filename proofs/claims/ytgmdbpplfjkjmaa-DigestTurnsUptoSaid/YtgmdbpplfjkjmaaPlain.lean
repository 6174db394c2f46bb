/- tenonmake.entries: the entries of a dict. -/
import Derived.Test.YtgmdbpplfjkjmaaOnly
namespace Go.Proofs.Ytgmdbpplfjkjmaa
open Go.RowKit
set_option linter.unusedVariables false
set_option linter.unusedSimpArgs false

/-- A term of a kind, and nothing else. -/
def tK (k : Int) : Term := .mk k false 0 0 ⟨#[]⟩ [] 0 [] [] ⟨#[]⟩ 0
mutual
/-- plain. -/
def plainT : Val → Int → Term
  | .nil, d => bif decide (400 < d) then tK 0 else tK 1
  | .bool b, d => bif decide (400 < d) then tK 0 else .mk 2 b 0 0 ⟨#[]⟩ [] 0 [] [] ⟨#[]⟩ 0
  | .int n, d => bif decide (400 < d) then tK 0 else .mk 3 false n 0 ⟨#[]⟩ [] 0 [] [] ⟨#[]⟩ 0
  | .float n, d => bif decide (400 < d) then tK 0 else .mk 4 false 0 n ⟨#[]⟩ [] 0 [] [] ⟨#[]⟩ 0
  | .text s, d => bif decide (400 < d) then tK 0 else .mk 5 false 0 0 s [] 0 [] [] ⟨#[]⟩ 0
  | .bytes l, d => bif decide (400 < d) then tK 0 else .mk 6 false 0 0 ⟨#[]⟩ l 0 [] [] ⟨#[]⟩ 0
  | .ref n, d => bif decide (400 < d) then tK 0 else .mk 7 false 0 0 ⟨#[]⟩ [] n [] [] ⟨#[]⟩ 0
  | .list l, d => bif decide (400 < d) then tK 0 else .mk 8 false 0 0 ⟨#[]⟩ [] 0 (plainTs l (d + 1)) [] ⟨#[]⟩ 0
  | .dict m, d => bif decide (400 < d) then tK 0 else .mk 9 false 0 0 ⟨#[]⟩ [] 0 [] (plainEs m (d + 1)) ⟨#[]⟩ 0
  | .record c n m, d => bif decide (400 < d) then tK 0 else .mk 10 false 0 0 ⟨#[]⟩ [] 0 [] (plainEs m (d + 1)) c n
  | .nothing, d => bif decide (400 < d) then tK 0 else tK 11
  | .alien _, _ => tK 0
def plainTs : List Val → Int → List Term
  | [], _ => []
  | v :: l, d => plainT v d :: plainTs l d
def plainEs : List (ByteArray × Val) → Int → List (ByteArray × Term)
  | [], _ => []
  | p :: l, d => (p.1, plainP p d) :: plainEs l d
def plainP : ByteArray × Val → Int → Term
  | (_, v), d => plainT v d
end
theorem plainTs_eq : ∀ (l : List Val) (d : Int), plainTs l d = l.map fun v => plainT v d
  | [], d => by rw [plainTs]; rfl
  | v :: l, d => by rw [plainTs, plainTs_eq l d]; rfl
theorem plainEs_eq : ∀ (l : List (ByteArray × Val)) (d : Int), plainEs l d = l.map fun p => (p.1, plainT p.2 d)
  | [], d => by rw [plainEs]; rfl
  | (s, v) :: l, d => by rw [plainEs, plainEs_eq l d, plainP]; rfl
mutual
/-- No list is longer than a small argument's. -/
def smallV : Val → Prop
  | .bytes l => l.length ≤ 1048576
  | .list l => l.length ≤ 1048576 ∧ smallVs l
  | .dict m => m.length ≤ 1048576 ∧ smallDs m
  | .record _ _ m => m.length ≤ 1048576 ∧ smallDs m
  | .nil => True
  | .bool _ => True
  | .int _ => True
  | .float _ => True
  | .text _ => True
  | .ref _ => True
  | .nothing => True
  | .alien _ => True
def smallVs : List Val → Prop
  | [] => True
  | v :: l => smallV v ∧ smallVs l
def smallDs : List (ByteArray × Val) → Prop
  | [] => True
  | p :: l => smallP p ∧ smallDs l
def smallP : ByteArray × Val → Prop
  | (_, v) => smallV v
end
theorem smallVs_mem : ∀ (l : List Val), smallVs l → ∀ v ∈ l, smallV v
  | [], _, v, h => by cases h
  | u :: l, hs, v, h => by
    rw [smallVs] at hs
    rcases List.mem_cons.1 h with rfl | h
    · exact hs.1
    · exact smallVs_mem l hs.2 v h
theorem smallDs_mem : ∀ (l : List (ByteArray × Val)), smallDs l → ∀ p ∈ l, smallV p.2
  | [], _, v, h => by cases h
  | (s, u) :: l, hs, v, h => by
    rw [smallDs, smallP] at hs
    rcases List.mem_cons.1 h with rfl | h
    · exact hs.1
    · exact smallDs_mem l hs.2 v h
def PlainEnd (v : Val) (deep : Int) (w : World) (e : Ending) (w' : World) : Prop := ∃ cs, e = .returned (.agg cs.toArray) ∧ TRep (only w' (fun b => w.heap.size ≤ b)) (plainT v deep) cs ∧ Below w.heap.size w w'
def PlainSaid (v : Val) : Prop := ∀ (deep : Int) (x : Value) (fs : List Nat) (w : World), VRep w v x fs → smallV v → 0 ≤ deep → deep ≤ 401 → Calls Try.prog 87 #[x, .int .i64 deep] w (PlainEnd v deep w)

theorem run_buildEntry (s : ByteArray) (c0 c1 c2 c3 c4 c5 c6 c7 c8 c9 c10 : Value) (W : World) : (Instr.build 218 #[(0, .string s), (1, .agg #[c0, c1, c2, c3, c4, c5, c6, c7, c8, c9, c10])]).run Try.prog W = .ok (.agg #[.string s, c0, c1, c2, c3, c4, c5, c6, c7, c8, c9, c10]) W := by kernel_rfl
theorem run_buildEntry1 (a0 a1 a2 a3 a4 a5 a6 a7 a8 a9 a10 a11 : Value) (W : World) : (Instr.buildSlice 29 1 #[(0, .agg #[a0, a1, a2, a3, a4, a5, a6, a7, a8, a9, a10, a11])]).run Try.prog W = .ok (.slice (some ⟨W.heap.size, 0, none⟩) 1 1) (W.alloc (.cells #[a0, a1, a2, a3, a4, a5, a6, a7, a8, a9, a10, a11] 218)) := by kernel_rfl
theorem Try.infoEntry : (Try.prog.info? 218).map (fun i => (i.zero, i.size, i.bytes)) = some (some (.agg #[.string ⟨#[]⟩, .int .i64 0, .bool false, .int .i64 0, .float .f64 0, .string ⟨#[]⟩, .slice none 0 0, .int .u64 0, .slice none 0 0, .slice none 0 0, .string ⟨#[]⟩, .int .i64 0]), 12, 168) := by kernel_rfl
theorem entries_round {w wr w1 w2 : World} {o : Obj} {sv : Value} {k g cap : Nat} {ys : List Value} {s : ByteArray} {t : Term} {cs : List Value} {es : List (ByteArray × Term)} {e : TypeId} {size : Nat} (hb : Below w.heap.size w wr) (hb1 : Below wr.heap.size wr w1) (hown : wr.ownsRow w.heap.size e size sv k ys)
    (hgr : (w1.alloc o).grownBy w2 sv.ownBlock) (hat : sv.ownBlock = some g ∨ g = (w1.alloc o).heap.size) (hs : s.size ≤ maxLen) (ht : TRep (only w1 (fun b => wr.heap.size ≤ b)) t cs) (hds : EsRep (only wr (NotOwn w.heap.size sv)) es ys) :
    EsRep (only w2 (NotOwn w.heap.size (.slice (some ⟨g, 0, none⟩) (k + 1) cap))) (es ++ [(s, t)]) (ys ++ .string s :: cs) ∧ Below w.heap.size w w2 := by
  have hlt : ∀ b, sv.ownBlock = some b → w.heap.size ≤ b ∧ b < wr.heap.size := fun b h => ownsRow_lt hown b (ownL_some.2 h)
  have hsz := hb.size
  have hsz1 := hb1.size
  refine ⟨EsRep.snoc hs (TRep.keep (round_new hb.size hb1 hgr hat (fun b h => (hlt b h).2)) _ _ ht) _ _ (EsRep.keep (round_old hb1 hgr hat) _ _ hds), ?_⟩
  exact ((hb.trans (below_le hb1 hb.size)).alloc (by omega) o).grown hgr (by simp; omega) (fun b h => (hlt b h).1)
set_option maxRecDepth 100000 in
set_option maxHeartbeats 1600000 in
theorem entries_plain (d : List (ByteArray × Val)) (ih : ∀ u ∈ d.map (·.2), PlainSaid u) (sv : Value) (xs : List Value) (gs : List Nat) (w : World) (deep : Int) (ho : w.ownsRow 0 220 2 sv d.length xs) (hd : DsRep w d xs gs) (hsm : d.length ≤ 1048576) (hsd : smallDs d) (h0 : 0 ≤ deep) (h1 : deep ≤ 400) :
    Calls Try.prog 153 #[sv, .int .i64 deep] w fun e w' => ∃ se xe, e = .returned se ∧ w'.ownsRow w.heap.size 218 12 se d.length xe ∧ EsRep (only w' (NotOwn w.heap.size se)) (plainEs d (deep + 1)) xe ∧ Below w.heap.size w w' := by
  obtain ⟨a, cap, rfl, hcap, hmax, -, hform⟩ := ownsRow_form ho
  unfold maxLen at hmax
  have hdat := Lib.hid (DsRep.at d xs gs hd)
  have hformH := Lib.hid hform
  have ihH := Lib.hid (fun u hu (h : smallV u) x f W hv => ih u hu (deep + 1) x f W hv h (by omega) (by omega))
  have hsH := Lib.hid (smallDs_mem d hsd)
  obtain ⟨i0, hi0, hz0, hz1, hz2⟩ := info_parts Try.infoEntry
  have hwr : wrap64 (deep + 1) = deep + 1 := by unfold wrap64; omega
  have hwi : IntKind.i64.wrap (deep + 1) = deep + 1 := by simp [IntKind.wrap, IntKind.bits, IntKind.signed]; omega
  rw [plainEs_eq]
  clear ho hd hform ih hsd
  go_enter Try.func153, Try.ntmps153
  go_wp2_with fail
  have hown0 := Lib.hid (ownsRow_new w 218 12 w.heap.size (Nat.le_refl _))
  have hb0 : Below w.heap.size w (w.alloc (.cells #[] 218)) := (Below.refl _ _).alloc (Nat.le_refl _) _
  go_loopw [5, 6] (fun sv i wr => ∃ (k : Nat) (ys : List Value), k ≤ d.length ∧ i = .int .i64 k ∧ wr.ownsRow w.heap.size 218 12 sv k ys ∧ EsRep (only wr (NotOwn w.heap.size sv)) ((d.map fun p => (p.1, plainT p.2 (deep + 1))).take k) ys ∧ Below w.heap.size w wr) (fun _ i _ => d.length - (intOf i).toNat)
  case atStart => exact ⟨0, [], Nat.zero_le _, rfl, hown0.out, rfl, hb0⟩
  case round =>
    obtain ⟨k, ys, hk, rfl, hown, hds, hb⟩ := hrel
    have hdsH := Lib.hid hds
    clear hds
    by_cases hlt : k < d.length
    · rcases hformH.out with ⟨-, h0', -⟩ | ⟨g, rfl, -, hg, -, hcells⟩
      · omega
      obtain ⟨⟨s, v⟩, hp⟩ : ∃ p, d[k]? = some p := ⟨_, List.getElem?_eq_getElem hlt⟩
      obtain ⟨x, f, e1, e2, e3, -, hsz⟩ := hdat.out k _ hp
      have hx1 := e3.one
      have hSk : ∀ w', Below w.heap.size w w' → w'.cell? ⟨g, k * 2, none⟩ = some (.string s) ∧ w'.cell? ⟨g, k * 2 + 1, none⟩ = some x := fun w' hb' => ⟨(hb'.cell (p := ⟨g, k * 2, none⟩) hg).trans ((hcells (k * 2) (by omega)).trans e1), (hb'.cell (p := ⟨g, k * 2 + 1, none⟩) hg).trans ((hcells (k * 2 + 1) (by omega)).trans e2)⟩
      have hrep := Lib.hid e3
      have hih := Lib.hid (fun W (h : VRep W v x f) => ihH.out v (List.mem_map.2 ⟨_, List.mem_of_getElem? hp, rfl⟩) (hsH.out _ (List.mem_of_getElem? hp)) x f W h)
      have hpH : Hid ((d.map fun p => (p.1, plainT p.2 (deep + 1)))[k]? = some (s, plainT v (deep + 1))) := Lib.hid (by rw [List.getElem?_map, hp]; rfl)
      have hszH := Lib.hid hsz
      clear e1 e2 e3 hcells hp hsz
      · go_wp2_with fail
        refine wp_region_held_drew (S := (fun w' => w'.cell? ⟨g, k * 2, none⟩ = some (.string s) ∧ w'.cell? ⟨g, k * 2 + 1, none⟩ = some x)) (by kernel_rfl) ?_ (fun hHeld => ?_)
        · exact hSk _ hb.drew
        refine wpAnyH_take (i := 0) (v := ?vy0) rfl (by kernel_rfl) (by kernel_rfl) (by kernel_rfl) (fun _ _ _ h => h) (.inl ⟨by rfl, ?hyy0⟩) (by assumption) ?resty0
        case hyy0 => (intro w hSw; (try dsimp only at hSw); go_simp; first | done | with_reducible rfl)
        (try simp only [Act.put, pu1, pu2, pu3, pu4, pu5, pu6])
        refine wpAnyH_take (i := 1) (v := ?vy1) rfl (by kernel_rfl) (by kernel_rfl) (by kernel_rfl) (fun _ _ _ h => h) (.inl ⟨by rfl, ?hyy1⟩) (by assumption) ?resty1
        case hyy1 => (intro w hSw; (try dsimp only at hSw); go_simp; first | done | with_reducible rfl)
        (try simp only [Act.put, pu1, pu2, pu3, pu4, pu5, pu6])
        refine wpAnyH_take (i := 2) (v := ?vy2) rfl (by kernel_rfl) (by kernel_rfl) (by kernel_rfl) (fun _ _ _ h => h) (.inl ⟨by rfl, ?hyy2⟩) (by assumption) ?resty2
        case hyy2 => (intro w hSw; (try dsimp only at hSw); go_simp; first | done | with_reducible rfl)
        (try simp only [Act.put, pu1, pu2, pu3, pu4, pu5, pu6])
        refine wpAnyH_take (i := 3) (v := ?vy3) rfl (by kernel_rfl) (by kernel_rfl) (by kernel_rfl) (fun _ _ _ h => h) (.inl ⟨by rfl, ?hyy3⟩) (by assumption) ?resty3
        case hyy3 => (intro w hSw; (try dsimp only at hSw); go_simp; first | done | with_reducible rfl)
        (try simp only [Act.put, pu1, pu2, pu3, pu4, pu5, pu6])
        refine wpAnyH_take (i := 4) (v := ?vy4) rfl (by kernel_rfl) (by kernel_rfl) (by kernel_rfl) (fun _ _ _ h => h) (.inl ⟨by rfl, ?hyy4⟩) (by assumption) ?resty4
        case hyy4 => (intro w hSw; (try dsimp only at hSw); go_simp; first | done | with_reducible rfl)
        (try simp only [Act.put, pu1, pu2, pu3, pu4, pu5, pu6])
        refine wpAnyH_take (i := 5) (v := ?vy5) rfl (by kernel_rfl) (by kernel_rfl) (by kernel_rfl) (fun _ _ _ h => h) (.inl ⟨by rfl, ?hyy5⟩) (by assumption) ?resty5
        case hyy5 => (intro w hSw; (try dsimp only at hSw); go_simp; first | done | with_reducible rfl)
        (try simp only [Act.put, pu1, pu2, pu3, pu4, pu5, pu6])
        refine wpAnyH_take (i := 6) (v := ?vy6) rfl (by kernel_rfl) (by kernel_rfl) (by kernel_rfl) (fun _ _ _ h => h) (.inl ⟨by rfl, ?hyy6⟩) (by assumption) ?resty6
        case hyy6 => (intro w hSw; (try dsimp only at hSw); go_simp; first | done | with_reducible rfl)
        (try simp only [Act.put, pu1, pu2, pu3, pu4, pu5, pu6])
        refine wpAnyH_take (i := 7) (v := ?vy7) rfl (by kernel_rfl) (by kernel_rfl) (by kernel_rfl) (fun _ _ _ h => h) (.inl ⟨by rfl, ?hyy7⟩) (by assumption) ?resty7
        case hyy7 => (intro w hSw; (try dsimp only at hSw); go_simp; first | done | with_reducible rfl)
        (try simp only [Act.put, pu1, pu2, pu3, pu4, pu5, pu6])
        refine wpAnyH_take (i := 8) (v := ?vy8) rfl (by kernel_rfl) (by kernel_rfl) (by kernel_rfl) (fun _ _ _ h => h) (.inl ⟨by rfl, ?hyy8⟩) (by assumption) ?resty8
        case hyy8 => (intro w hSw; (try dsimp only at hSw); go_simp; first | done | with_reducible rfl)
        (try simp only [Act.put, pu1, pu2, pu3, pu4, pu5, pu6])
        refine wpAnyH_take (i := 9) (v := ?vy9) rfl (by kernel_rfl) (by kernel_rfl) (by kernel_rfl) (fun _ _ _ h => h) (.inl ⟨by rfl, ?hyy9⟩) (by assumption) ?resty9
        case hyy9 => (intro w hSw; (try dsimp only at hSw); go_simp; first | done | with_reducible rfl)
        (try simp only [Act.put, pu1, pu2, pu3, pu4, pu5, pu6])
        refine wpAnyH_take (i := 10) (v := ?vy10) rfl (by kernel_rfl) (by kernel_rfl) (by kernel_rfl) (fun _ _ _ h => h) (.inl ⟨by rfl, ?hyy10⟩) (by assumption) ?resty10
        case hyy10 => (intro w hSw; (try dsimp only at hSw); go_simp; first | done | with_reducible rfl)
        (try simp only [Act.put, pu1, pu2, pu3, pu4, pu5, pu6])
        refine wpAnyH_take (i := 11) (v := ?vy11) rfl (by kernel_rfl) (by kernel_rfl) (by kernel_rfl) (fun _ _ _ h => h) (.inl ⟨by rfl, ?hyy11⟩) (by assumption) ?resty11
        case hyy11 => (intro w hSw; (try dsimp only at hSw); go_simp; first | done | with_reducible rfl)
        (try simp only [Act.put, pu1, pu2, pu3, pu4, pu5, pu6])
        refine wpAnyH_take (i := 12) (v := (.int .i64 (deep + 1))) rfl (by kernel_rfl) (by kernel_rfl) (by kernel_rfl) (fun _ _ _ h => h) (.inl ⟨by rfl, ?hyy12⟩) (by assumption) ?resty12
        case hyy12 => (intro w hSw; (try dsimp only at hSw); go_simp; first | done | exact hwi)
        (try simp only [Act.put, pu1, pu2, pu3, pu4, pu5, pu6])
        refine wpAnyH_ready (rs := [13]) (by kernel_rfl) (by simp) ?_
        refine AllReadyH.cons rfl (fun K hK => ?_) AllReadyH.nil
        rw [if_pos (by rfl)]
        go_simp
        refine (hih.out wr.drew (VRep.but hrep.out (below_but0 hb.drew) (fun _ _ f => f))).mono ?_
        rintro e w1 ⟨cs, rfl, ht, hb1⟩
        obtain ⟨c0, c1, c2, c3, c4, c5, c6, c7, c8, c9, c10, rfl⟩ := eleven (TRep.len ht)
        have hone := TRep.ones ht
        have hbw1 : Below wr.heap.size wr w1 := ((Below.refl wr.heap.size wr).drew).trans hb1
        have hown1 := ownsRow_keep hown (fun b hbm => hbw1.block b (ownsRow_lt hown b hbm).2)
        have htH := Lib.hid ht
        clear ht
        refine hK.out _ _ ?_ (fun hHeld2 => ?_)
        · exact hSk _ (hb.trans (below_le hbw1 hb.size))
        clear hK K
        (try simp only [Act.put, pu1, pu2, pu3, pu4, pu5, pu6])
        refine wpAnyH_take (i := 14) (v := (.agg #[.string s, c0, c1, c2, c3, c4, c5, c6, c7, c8, c9, c10])) rfl (by kernel_rfl) (by kernel_rfl) (by kernel_rfl) (fun _ _ _ h => h) (.inl ⟨by rfl, ?hyy14⟩) (by assumption) ?resty14
        case hyy14 => (intro w hSw; exact exec_build (vs := #[(0, .string s), (1, .agg #[c0, c1, c2, c3, c4, c5, c6, c7, c8, c9, c10])]) rfl (by simp [Act.eval]) (run_buildEntry s c0 c1 c2 c3 c4 c5 c6 c7 c8 c9 c10 w))
        (try simp only [Act.put, pu1, pu2, pu3, pu4, pu5, pu6])
        refine wpAnyH_ready (rs := [15]) (by kernel_rfl) (by simp) ?_
        refine AllReadyH.cons rfl (fun K hK => ?_) AllReadyH.nil
        rw [if_pos (by rfl)]
        refine wp_of_exec (exec_buildSlice (vs := #[(0, .agg #[.string s, c0, c1, c2, c3, c4, c5, c6, c7, c8, c9, c10])]) rfl (by simp [Act.eval]) (run_buildEntry1 (.string s) c0 c1 c2 c3 c4 c5 c6 c7 c8 c9 c10 _)) ?_
        refine hK.out _ _ ?_ (fun hHeld2 => ?_)
        · exact hSk _ ((hb.trans (below_le hbw1 hb.size)).alloc (Nat.le_trans hb.size hbw1.size) _)
        clear hK K
        (try simp only [Act.put, pu1, pu2, pu3, pu4, pu5, pu6])
        refine wpAnyH_ready (rs := [16]) (by kernel_rfl) (by simp) ?_
        refine AllReadyH.cons rfl (fun K hK => ?_) AllReadyH.nil
        refine step_append_lies _ (by rfl) _ _ _ (by rfl) w.heap.size 218 i0 _ 12 168 Try.underlying29 hi0 hz0 hz1 hz2 rfl (by omega) _ k ys (by rfl) (hown1.alloc _) ⟨w1.heap.size, 0, none⟩ 1 1 [.string s, c0, c1, c2, c3, c4, c5, c6, c7, c8, c9, c10] (by rfl) (by rfl) (World.news_of_block (cs := #[.string s, c0, c1, c2, c3, c4, c5, c6, c7, c8, c9, c10]) (t := 218) (fr := (0, 0)) (heap_alloc_new w1 _)) (fun u hu => (List.mem_cons.1 hu).elim (fun e => by rw [e]; rfl) (hone u)) (by omega) (by unfold maxLen; omega) (by omega) (by have := hbw1.size; have := hb.size; simp; omega) _ rfl ?_
        intro g2 cap2 w2 hown2 hgr2 hat2 hlt2
        have hfin := entries_round (cap := cap2) hb hbw1 hown hgr2 hat2 hszH.out htH.out hdsH.out
        refine hK.out _ _ ?_ (fun hHeld2 => ?_)
        · exact hSk _ hfin.2
        clear hK K
        (try simp only [Act.put, pu1, pu2, pu3, pu4, pu5, pu6])
        refine wpAnyH_take (i := 17) (v := ?vy17) rfl (by kernel_rfl) (by kernel_rfl) (by kernel_rfl) (fun _ _ _ h => h) (.inl ⟨by rfl, ?hyy17⟩) (by assumption) ?resty17
        case hyy17 => (intro w hSw; (try dsimp only at hSw); go_simp; first | done | with_reducible rfl)
        (try simp only [Act.put, pu1, pu2, pu3, pu4, pu5, pu6])
        refine wpAnyH_done (by kernel_rfl) ?_ _
        go_wp2_with fail
        go_roundw
        case rel => exact ⟨k + 1, _, by omega, by go_num, hown2, by rw [List.take_add_one, hpH.out]; exact hfin.1, hfin.2⟩
        case measure => simp [intOf]; omega
    · obtain rfl : k = d.length := by omega
      have hds := hdsH.out
      rw [List.take_of_length_le (by simp)] at hds
      have hdsH2 := Lib.hid hds
      clear hds
      go_wp2_with fail
      go_ret
      exact ⟨_, _, rfl, hown, hdsH2.out, hb⟩
end Go.Proofs.Ytgmdbpplfjkjmaa
