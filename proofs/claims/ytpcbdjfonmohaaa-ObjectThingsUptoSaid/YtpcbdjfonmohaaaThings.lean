/- The walk of ObjectThings. -/
import Derived.Test.YtpcbdjfonmohaaaThingsLaw
import Derived.Test.YtpcbdjfonmohaaaThing
import Derived.Test.YtpcbdjfonmohaaaSpoil
import Derived.Test.YtpcbdjfonmohaaaPlainEnd
import Derived.Test.YtpcbdjfonmohaaaIs
namespace Go.Proofs.Ytpcbdjfonmohaaa
open Go.RowKit
set_option linter.unusedVariables false
set_option linter.unusedSimpArgs false

theorem gotO_mem {es : List (ByteArray × Term)} {nm : ByteArray} {u : Term} (h : gotO es nm = some u) : ∃ s, (s, u) ∈ es := by
  unfold gotO at h
  obtain ⟨p, hp, e⟩ := Option.map_eq_some_iff.1 h
  obtain ⟨s, t⟩ := p
  obtain rfl : t = u := e
  exact ⟨s, List.mem_of_find?_eq_some hp⟩
theorem plain_whole (d : List (ByteArray × Val)) : plainT (.dict d) 0 = wholeT (plainEs d 1) := by rw [plainT]; rfl
theorem small_dict {w : World} {es : List (ByteArray × Term)} {sv : Value} {xs : List Value} (ho : AtRow w sv es.length 12 xs) (hd : EsRep w es xs) : smallV (.dict (builtEs es)) := by
  have h := small_built (w := w) (wholeT es) _ (whole_rep ho hd)
  rw [whole_built] at h
  exact h
/-- A thing with its entries. -/
structure ThingAt (w : World) (tb : Nat) (id : Int) (d : List (ByteArray × Val)) (sv : Value) (xs : List Value) (gs : List Nat) : Prop where
  idc : w.cell? ⟨tb, 0, none⟩ = some (.int .u64 id)
  svc : w.cell? ⟨tb, 1, none⟩ = some sv
  own : w.ownsRow 0 133 2 sv d.length xs
  rep : DsRep w d xs gs
theorem ThingAt.keep {w w' : World} {tb : Nat} {id : Int} {d : List (ByteArray × Val)} {sv : Value} {xs : List Value} {gs : List Nat} (h : ThingAt w tb id d sv xs gs) (hk : ∀ b, (b = tb ∨ b ∈ ownL sv ++ gs) → w'.heap[b]? = w.heap[b]?) : ThingAt w' tb id d sv xs gs :=
  ⟨(World.cell?_of_block (w := w) (hk tb (.inl rfl))).trans h.idc, (World.cell?_of_block (w := w) (hk tb (.inl rfl))).trans h.svc, ownsRow_keep h.own (fun b hb => hk b (.inr (List.mem_append_left _ hb))), DsRep.keep _ _ _ h.rep (fun b hb => hk b (.inr (List.mem_append_right _ hb)))⟩
theorem ThingAt.below {w w' : World} {tb : Nat} {id : Int} {d : List (ByteArray × Val)} {sv : Value} {xs : List Value} {gs : List Nat} (h : ThingAt w tb id d sv xs gs) (hb : Below w.heap.size w w') : ThingAt w' tb id d sv xs gs :=
  h.keep fun b hm => hb.block b (by
    rcases hm with rfl | hm
    · exact World.block_lt_of_cell? _ _ h.idc
    · rcases List.mem_append.1 hm with hm | hm
      · exact (ownsRow_lt h.own b hm).2
      · exact DsRep.lt _ _ _ h.rep b hm)
section
variable (id : Int) (es : List (ByteArray × Term)) (ns : List ByteArray) (sv : Value) (xs : List Value) (nv : Value) (w : World) (ho : AtRow w sv es.length 12 xs) (hd : EsRep w es xs)

include ho hd in
set_option maxRecDepth 100000 in
set_option maxHeartbeats 3200000 in
theorem things_zero : Calls Try.prog 10 #[.int .u64 0, sv, nv] w fun e w' => e = .returned (.bool true) ∧ Below w.heap.size w w' := by
  have hsmH := Lib.hid (small_dict ho hd)
  have hrepW := Lib.hid (whole_rep ho hd)
  have hone := Lib.hid (TRep.ones hrepW.out)
  have hoH := Lib.hid ho
  have hdH := Lib.hid hd
  obtain ⟨oa, cap, rfl, -⟩ := ho
  clear hd
  go_enter Try.func10, Try.ntmps10
  go_wp2_with fail
  refine (dict_built es (fun u _ => built_any u) _ xs _ hoH.out hdH.out).mono ?_
  rintro e w1 ⟨dv, dxs, gs, rfl, hown, hds, hnd, hnew, hb1⟩
  have hfs : ∀ b ∈ ownL dv ++ gs, w.heap.size ≤ b ∧ b < w1.heap.size := fun b hb => (List.mem_append.1 hb).elim (fun h => ownsRow_lt hown b h) (fun h => ⟨hnew b h, DsRep.lt _ _ _ hds b h⟩)
  have hv : VRep w1 (.dict (builtEs es)) (.iface 63 dv) (ownL dv ++ gs) := by simp only [VRep]; exact ⟨dv, dxs, gs, rfl, ownsRow_mono hown, hds, rfl⟩
  have hown0 := Lib.hid (ownsRow_mono hown)
  obtain ⟨da, dcap, rfl, -⟩ := ownsRow_form hown
  have hvH := Lib.hid hv
  have hfsH := Lib.hid hfs
  have hndH := Lib.hid hnd
  have hdsH := Lib.hid hds
  have hb1H := Lib.hid hb1
  clear hown hv hfs hnd hds hnew hb1
  go_wp2_with fail
  refine (thing_new_zero _ _).mono ?_
  rintro e w2 ⟨rfl, hb2⟩
  have hb2w := Lib.hid (hb1H.out.trans (below_le hb2 hb1H.out.size))
  go_wp2_with (refine wpList_store_row rfl 34 (.tmp 10) _ rfl w2.heap.size #[.int .i64 9, .bool false, .int .i64 0, .float .f64 0, .string ⟨#[]⟩, .slice none 0 0, .int .u64 0, .slice none 0 0, .slice oa es.length cap, .string ⟨#[]⟩, .int .i64 0] rfl rfl 34 zeroCells (heap_alloc_new w2 _) termSize rfl (all_one hone.out) ?_; rw [World.setRow_alloc_new])
  have hb3 : Below w.heap.size w (w2.alloc (.cells #[.int .i64 9, .bool false, .int .i64 0, .float .f64 0, .string ⟨#[]⟩, .slice none 0 0, .int .u64 0, .slice none 0 0, .slice oa es.length cap, .string ⟨#[]⟩, .int .i64 0] 34)) := hb2w.out.alloc hb2w.out.size _
  refine (refCheck_any (wholeT es) _ _ (TRep.keep (keeps_of_below hb3) _ _ hrepW.out)).mono ?_
  rw [whole_built]
  generalize checkF (.dict (builtEs es)) = cf
  obtain ⟨a, y⟩ := cf
  rintro e w4 ⟨rfl, hb4⟩
  have hb4w := Lib.hid (hb3.trans (below_le hb4 hb3.size))
  go_wp2_with fail
  refine (Plain_said (plain_any _) (VRep.but hvH.out (below_but0 (hb2.trans (below_le (((Below.refl w2.heap.size w2).alloc (Nat.le_refl _) _).trans (below_le hb4 (by simp))) hb2.size))) (fun _ _ f => f)) hsmH.out).mono ?_
  rintro e w5 ⟨pcs, rfl, hpt, hb5⟩
  rw [plain_whole] at hpt
  unfold wholeT at hpt
  simp only [TRep] at hpt
  obtain ⟨sb5, sl5, se5, xl5, xe5, rfl, -, ⟨_, _, rfl, -⟩, ⟨_, _, rfl, -⟩, -, hrow5, hes5⟩ := hpt
  have hrow5H := Lib.hid (hrow5.keep only_all)
  have hes5H := Lib.hid (EsRep.keep only_all _ _ hes5)
  obtain ⟨oa5, cap5, rfl, -⟩ := hrow5
  clear hes5
  have hfl := fun a b c d W => run_field8 (.int .i64 9) (.bool false) (.int .i64 0) (.float .f64 0) (.string ⟨#[]⟩) a (.int .u64 0) b c (.string ⟨#[]⟩) d W
  have hb5w : Below w.heap.size w w5 := hb4w.out.trans (below_le hb5 hb4w.out.size)
  have hb5H := Lib.hid hb5w
  go_wp2_with fail
  refine (plain10_said es _ xs _ (hoH.out.keep (keeps_of_below hb5H.out)) (EsRep.keep (keeps_of_below hb5H.out) _ _ hdH.out)).mono ?_
  rintro e w6 ⟨se6, xe6, rfl, hrow6, hes6, hb6⟩
  have hrow6H := Lib.hid hrow6
  have hes6H := Lib.hid hes6
  obtain ⟨oa6, cap6, rfl, -⟩ := hrow6
  clear hes6 hfl
  have hlen6 : (cleanEs es).length = es.length := by rw [cleanEs_eq, List.length_map]
  go_wp2_with fail
  refine (entries_same (plainEs (builtEs es) 1) (cleanEs es) (fun u _ => same_any u) _ _ xe5 xe6 _ (hrow5H.out.keep (keeps_of_below hb6)) (EsRep.keep (keeps_of_below hb6) _ _ hes5H.out) (by rw [hlen6]; exact hrow6H.out) hes6H.out).mono ?_
  rintro e w7 ⟨he, hb7⟩
  have hb7w := Lib.hid ((hb5H.out.trans (below_le hb6 hb5H.out.size)).trans (below_le hb7 (hb5H.out.trans (below_le hb6 hb5H.out.size)).size))
  have hv27 := Lib.hid (Below.trans (Below.trans (Below.trans (((Below.refl w2.heap.size w2).alloc (Nat.le_refl _) _).trans (below_le hb4 (by simp))) (below_le hb5 (by have h2 := hb4.size; simp at h2; omega))) (below_le hb6 (by have h2 := hb4.size; have h3 := hb5.size; simp at h2; omega))) (below_le hb7 (by have h2 := hb4.size; have h3 := hb5.size; have h4 := hb6.size; simp at h2; omega)))
  have hv7 := Lib.hid (Below.trans hb2 (below_le hv27.out hb2.size))
  clear hlen6 hb5w
  generalize sameEs (plainEs (builtEs es) 1) (cleanEs es) = R at he
  subst he
  cases R
  all_goals
    go_wp2_with fail
    refine (spoil_any (.dict (builtEs es)) _ (ownL (.slice da (builtEs es).length dcap) ++ gs) _ (VRep.but hvH.out (below_but0 hv7.out) (fun _ _ f => f)) hsmH.out hndH.out).mono ?_
    rintro e w8 ⟨rfl, hb8⟩
    have hb8w := Lib.hid (hb7w.out.trans (hb8.below' hb7w.out.size (fun i hi hm => by have := (hfsH.out i hm).1; omega)))
    go_wp2_with fail
    refine (thing_get_nil _ _).mono ?_
    rintro e w9 ⟨rfl, hb9⟩
    go_wp2_with fail
    refine (thing_id_nil _).mono ?_
    rintro e w10 ⟨rfl, rfl⟩
    go_wp2
    go_ret
    exact ⟨rfl, hb8w.out.trans (below_le hb9 hb8w.out.size)⟩

include ho hd in
set_option maxRecDepth 100000 in
set_option maxHeartbeats 3200000 in
theorem things_bad (hid : (id == 0) = false) (hok : okB (.dict (builtEs es)) = false) : Calls Try.prog 10 #[.int .u64 id, sv, nv] w fun e w' => e = .returned (.bool true) ∧ Below w.heap.size w w' := by
  have hsmH := Lib.hid (small_dict ho hd)
  have hrepW := Lib.hid (whole_rep ho hd)
  have hone := Lib.hid (TRep.ones hrepW.out)
  have hoH := Lib.hid ho
  have hdH := Lib.hid hd
  obtain ⟨oa, cap, rfl, -⟩ := ho
  clear hd
  go_enter Try.func10, Try.ntmps10
  go_wp2_with fail
  refine (dict_built es (fun u _ => built_any u) _ xs _ hoH.out hdH.out).mono ?_
  rintro e w1 ⟨dv, dxs, gs, rfl, hown, hds, hnd, hnew, hb1⟩
  have hfs : ∀ b ∈ ownL dv ++ gs, w.heap.size ≤ b ∧ b < w1.heap.size := fun b hb => (List.mem_append.1 hb).elim (fun h => ownsRow_lt hown b h) (fun h => ⟨hnew b h, DsRep.lt _ _ _ hds b h⟩)
  have hv : VRep w1 (.dict (builtEs es)) (.iface 63 dv) (ownL dv ++ gs) := by simp only [VRep]; exact ⟨dv, dxs, gs, rfl, ownsRow_mono hown, hds, rfl⟩
  have hown0 := Lib.hid (ownsRow_mono hown)
  obtain ⟨da, dcap, rfl, -⟩ := ownsRow_form hown
  have hvH := Lib.hid hv
  have hfsH := Lib.hid hfs
  have hndH := Lib.hid hnd
  have hdsH := Lib.hid hds
  have hb1H := Lib.hid hb1
  clear hown hv hfs hnd hds hnew hb1
  go_wp2_with fail
  refine (thing_new_bad (builtEs es) _ dxs gs _ id hid hown0.out hdsH.out hok).mono ?_
  rintro e w2 ⟨rfl, hb2⟩
  have hb2w := Lib.hid (hb1H.out.trans (below_le hb2 hb1H.out.size))
  go_wp2_with (refine wpList_store_row rfl 34 (.tmp 10) _ rfl w2.heap.size #[.int .i64 9, .bool false, .int .i64 0, .float .f64 0, .string ⟨#[]⟩, .slice none 0 0, .int .u64 0, .slice none 0 0, .slice oa es.length cap, .string ⟨#[]⟩, .int .i64 0] rfl rfl 34 zeroCells (heap_alloc_new w2 _) termSize rfl (all_one hone.out) ?_; rw [World.setRow_alloc_new])
  have hb3 : Below w.heap.size w (w2.alloc (.cells #[.int .i64 9, .bool false, .int .i64 0, .float .f64 0, .string ⟨#[]⟩, .slice none 0 0, .int .u64 0, .slice none 0 0, .slice oa es.length cap, .string ⟨#[]⟩, .int .i64 0] 34)) := hb2w.out.alloc hb2w.out.size _
  refine (refCheck_any (wholeT es) _ _ (TRep.keep (keeps_of_below hb3) _ _ hrepW.out)).mono ?_
  rw [whole_built]
  have hne : ¬ (checkF (.dict (builtEs es))).2 = 0 := why_bad hok
  unfold whyF
  generalize checkF (.dict (builtEs es)) = cf at hne ⊢
  obtain ⟨a, y⟩ := cf
  rintro e w4 ⟨rfl, hb4⟩
  have hb4w := Lib.hid (hb3.trans (below_le hb4 hb3.size))
  have hy : (y == 0) = false := by simpa using hne
  clear hne
  go_wp2_with fail
  refine (Plain_said (plain_any _) (VRep.but hvH.out (below_but0 (hb2.trans (below_le (((Below.refl w2.heap.size w2).alloc (Nat.le_refl _) _).trans (below_le hb4 (by simp))) hb2.size))) (fun _ _ f => f)) hsmH.out).mono ?_
  rintro e w5 ⟨pcs, rfl, hpt, hb5⟩
  rw [plain_whole] at hpt
  unfold wholeT at hpt
  simp only [TRep] at hpt
  obtain ⟨sb5, sl5, se5, xl5, xe5, rfl, -, ⟨_, _, rfl, -⟩, ⟨_, _, rfl, -⟩, -, hrow5, hes5⟩ := hpt
  have hrow5H := Lib.hid (hrow5.keep only_all)
  have hes5H := Lib.hid (EsRep.keep only_all _ _ hes5)
  obtain ⟨oa5, cap5, rfl, -⟩ := hrow5
  clear hes5
  have hfl := fun a b c d W => run_field8 (.int .i64 9) (.bool false) (.int .i64 0) (.float .f64 0) (.string ⟨#[]⟩) a (.int .u64 0) b c (.string ⟨#[]⟩) d W
  have hb5w : Below w.heap.size w w5 := hb4w.out.trans (below_le hb5 hb4w.out.size)
  have hb5H := Lib.hid hb5w
  go_wp2_with fail
  refine (plain10_said es _ xs _ (hoH.out.keep (keeps_of_below hb5H.out)) (EsRep.keep (keeps_of_below hb5H.out) _ _ hdH.out)).mono ?_
  rintro e w6 ⟨se6, xe6, rfl, hrow6, hes6, hb6⟩
  have hrow6H := Lib.hid hrow6
  have hes6H := Lib.hid hes6
  obtain ⟨oa6, cap6, rfl, -⟩ := hrow6
  clear hes6 hfl
  have hlen6 : (cleanEs es).length = es.length := by rw [cleanEs_eq, List.length_map]
  go_wp2_with fail
  refine (entries_same (plainEs (builtEs es) 1) (cleanEs es) (fun u _ => same_any u) _ _ xe5 xe6 _ (hrow5H.out.keep (keeps_of_below hb6)) (EsRep.keep (keeps_of_below hb6) _ _ hes5H.out) (by rw [hlen6]; exact hrow6H.out) hes6H.out).mono ?_
  rintro e w7 ⟨he, hb7⟩
  have hb7w := Lib.hid ((hb5H.out.trans (below_le hb6 hb5H.out.size)).trans (below_le hb7 (hb5H.out.trans (below_le hb6 hb5H.out.size)).size))
  have hv27 := Lib.hid (Below.trans (Below.trans (Below.trans (((Below.refl w2.heap.size w2).alloc (Nat.le_refl _) _).trans (below_le hb4 (by simp))) (below_le hb5 (by have h2 := hb4.size; simp at h2; omega))) (below_le hb6 (by have h2 := hb4.size; have h3 := hb5.size; simp at h2; omega))) (below_le hb7 (by have h2 := hb4.size; have h3 := hb5.size; have h4 := hb6.size; simp at h2; omega)))
  have hv7 := Lib.hid (Below.trans hb2 (below_le hv27.out hb2.size))
  clear hlen6 hb5w
  generalize sameEs (plainEs (builtEs es) 1) (cleanEs es) = R at he
  subst he
  cases R
  all_goals
    go_wp2_with fail
    refine (spoil_any (.dict (builtEs es)) _ (ownL (.slice da (builtEs es).length dcap) ++ gs) _ (VRep.but hvH.out (below_but0 hv7.out) (fun _ _ f => f)) hsmH.out hndH.out).mono ?_
    rintro e w8 ⟨rfl, hb8⟩
    have hb8w := Lib.hid (hb7w.out.trans (hb8.below' hb7w.out.size (fun i hi hm => by have := (hfsH.out i hm).1; omega)))
    go_wp2_with fail
    refine (thing_get_nil _ _).mono ?_
    rintro e w9 ⟨rfl, hb9⟩
    go_wp2_with fail
    refine (thing_id_nil _).mono ?_
    rintro e w10 ⟨rfl, rfl⟩
    go_wp2
    go_ret
    exact ⟨rfl, hb8w.out.trans (below_le hb9 hb8w.out.size)⟩

include ho hd in
set_option maxRecDepth 100000 in
set_option maxHeartbeats 3200000 in
theorem things_ok (hn : AtRow w nv ns.length 1 (ns.map Value.string)) (hid : (id == 0) = false) (hok : okB (.dict (builtEs es)) = true) : Calls Try.prog 10 #[.int .u64 id, sv, nv] w fun e w' => e = .returned (.bool true) ∧ Below w.heap.size w w' := by
  obtain ⟨na, ncap, rfl, hncap, hnmax, hnsm, -, -, hnf⟩ := hn
  unfold maxLen at hnmax
  have hnfH := Lib.hid hnf
  clear hnf
  have hsmH := Lib.hid (small_dict ho hd)
  have hrepW := Lib.hid (whole_rep ho hd)
  have hone := Lib.hid (TRep.ones hrepW.out)
  have hoH := Lib.hid ho
  have hdH := Lib.hid hd
  obtain ⟨oa, cap, rfl, -⟩ := ho
  clear hd
  go_enter Try.func10, Try.ntmps10
  go_wp2_with fail
  refine (dict_built es (fun u _ => built_any u) _ xs _ hoH.out hdH.out).mono ?_
  rintro e w1 ⟨dv, dxs, gs, rfl, hown, hds, hnd, hnew, hb1⟩
  have hfs : ∀ b ∈ ownL dv ++ gs, w.heap.size ≤ b ∧ b < w1.heap.size := fun b hb => (List.mem_append.1 hb).elim (fun h => ownsRow_lt hown b h) (fun h => ⟨hnew b h, DsRep.lt _ _ _ hds b h⟩)
  have hv : VRep w1 (.dict (builtEs es)) (.iface 63 dv) (ownL dv ++ gs) := by simp only [VRep]; exact ⟨dv, dxs, gs, rfl, ownsRow_mono hown, hds, rfl⟩
  have hown0 := Lib.hid (ownsRow_mono hown)
  obtain ⟨da, dcap, rfl, -⟩ := ownsRow_form hown
  have hvH := Lib.hid hv
  have hfsH := Lib.hid hfs
  have hndH := Lib.hid hnd
  have hdsH := Lib.hid hds
  have hb1H := Lib.hid hb1
  clear hown hv hfs hnd hds hnew hb1
  go_wp2_with fail
  refine (thing_new_ok (builtEs es) _ dxs gs _ id hid hown0.out hdsH.out hok).mono ?_
  rintro e w2 ⟨tb, tsv, txs, tgs, rfl, htb, hid0, hsv0, htown, htds, htge, hb2⟩
  have hT2 := Lib.hid (ThingAt.mk hid0 hsv0 htown htds)
  have hth : ∀ b, (b = tb ∨ b ∈ ownL tsv ++ tgs) → w1.heap.size ≤ b := fun b hb => hb.elim (fun e => e ▸ htb) (fun h => htge b h)
  have hthH := Lib.hid hth
  clear hid0 hsv0 htown htds htge hth htb
  have hb2w := Lib.hid (hb1H.out.trans (below_le hb2 hb1H.out.size))
  go_wp2_with (refine wpList_store_row rfl 34 (.tmp 10) _ rfl w2.heap.size #[.int .i64 9, .bool false, .int .i64 0, .float .f64 0, .string ⟨#[]⟩, .slice none 0 0, .int .u64 0, .slice none 0 0, .slice oa es.length cap, .string ⟨#[]⟩, .int .i64 0] rfl rfl 34 zeroCells (heap_alloc_new w2 _) termSize rfl (all_one hone.out) ?_; rw [World.setRow_alloc_new])
  have hb3 : Below w.heap.size w (w2.alloc (.cells #[.int .i64 9, .bool false, .int .i64 0, .float .f64 0, .string ⟨#[]⟩, .slice none 0 0, .int .u64 0, .slice none 0 0, .slice oa es.length cap, .string ⟨#[]⟩, .int .i64 0] 34)) := hb2w.out.alloc hb2w.out.size _
  refine (refCheck_any (wholeT es) _ _ (TRep.keep (keeps_of_below hb3) _ _ hrepW.out)).mono ?_
  rw [whole_built]
  rw [check_ok hok]
  rintro e w4 ⟨rfl, hb4⟩
  have hb4w := Lib.hid (hb3.trans (below_le hb4 hb3.size))
  go_wp2_with fail
  refine (Plain_said (plain_any _) (VRep.but hvH.out (below_but0 (hb2.trans (below_le (((Below.refl w2.heap.size w2).alloc (Nat.le_refl _) _).trans (below_le hb4 (by simp))) hb2.size))) (fun _ _ f => f)) hsmH.out).mono ?_
  rintro e w5 ⟨pcs, rfl, hpt, hb5⟩
  rw [plain_whole] at hpt
  unfold wholeT at hpt
  simp only [TRep] at hpt
  obtain ⟨sb5, sl5, se5, xl5, xe5, rfl, -, ⟨_, _, rfl, -⟩, ⟨_, _, rfl, -⟩, -, hrow5, hes5⟩ := hpt
  have hrow5H := Lib.hid (hrow5.keep only_all)
  have hes5H := Lib.hid (EsRep.keep only_all _ _ hes5)
  obtain ⟨oa5, cap5, rfl, -⟩ := hrow5
  clear hes5
  have hfl := fun a b c d W => run_field8 (.int .i64 9) (.bool false) (.int .i64 0) (.float .f64 0) (.string ⟨#[]⟩) a (.int .u64 0) b c (.string ⟨#[]⟩) d W
  have hb5w : Below w.heap.size w w5 := hb4w.out.trans (below_le hb5 hb4w.out.size)
  have hb5H := Lib.hid hb5w
  go_wp2_with fail
  refine (plain10_said es _ xs _ (hoH.out.keep (keeps_of_below hb5H.out)) (EsRep.keep (keeps_of_below hb5H.out) _ _ hdH.out)).mono ?_
  rintro e w6 ⟨se6, xe6, rfl, hrow6, hes6, hb6⟩
  have hrow6H := Lib.hid hrow6
  have hes6H := Lib.hid hes6
  obtain ⟨oa6, cap6, rfl, -⟩ := hrow6
  clear hes6 hfl
  have hlen6 : (cleanEs es).length = es.length := by rw [cleanEs_eq, List.length_map]
  go_wp2_with fail
  refine (entries_same (plainEs (builtEs es) 1) (cleanEs es) (fun u _ => same_any u) _ _ xe5 xe6 _ (hrow5H.out.keep (keeps_of_below hb6)) (EsRep.keep (keeps_of_below hb6) _ _ hes5H.out) (by rw [hlen6]; exact hrow6H.out) hes6H.out).mono ?_
  rintro e w7 ⟨he, hb7⟩
  have hb7w := Lib.hid ((hb5H.out.trans (below_le hb6 hb5H.out.size)).trans (below_le hb7 (hb5H.out.trans (below_le hb6 hb5H.out.size)).size))
  have hv27 := Lib.hid (Below.trans (Below.trans (Below.trans (((Below.refl w2.heap.size w2).alloc (Nat.le_refl _) _).trans (below_le hb4 (by simp))) (below_le hb5 (by have h2 := hb4.size; simp at h2; omega))) (below_le hb6 (by have h2 := hb4.size; have h3 := hb5.size; simp at h2; omega))) (below_le hb7 (by have h2 := hb4.size; have h3 := hb5.size; have h4 := hb6.size; simp at h2; omega)))
  have hv7 := Lib.hid (Below.trans hb2 (below_le hv27.out hb2.size))
  clear hlen6 hb5w
  rw [entries_law hok] at he
  subst he
  go_wp2_with fail
  refine (spoil_any (.dict (builtEs es)) _ (ownL (.slice da (builtEs es).length dcap) ++ gs) _ (VRep.but hvH.out (below_but0 hv7.out) (fun _ _ f => f)) hsmH.out hndH.out).mono ?_
  rintro e w8 ⟨rfl, hb8⟩
  have hb8w := Lib.hid (hb7w.out.trans (hb8.below' hb7w.out.size (fun i hi hm => by have := (hfsH.out i hm).1; omega)))
  have hT8 := Lib.hid ((hT2.out.below hv27.out).keep (w' := w8) (fun b hb => hb8.block b (by
    rcases hb with rfl | hb
    · exact World.block_lt_of_cell? _ _ (hT2.out.below hv27.out).idc
    · rcases List.mem_append.1 hb with hb | hb
      · exact (ownsRow_lt (hT2.out.below hv27.out).own b hb).2
      · exact DsRep.lt _ _ _ (hT2.out.below hv27.out).rep b hb) (fun hm => by have h1 := (hfsH.out b hm).2; have h2 := hthH.out b hb; omega)))
  clear hb2 hb3 hb4 hb5 hb6 hb7 hb8
  go_wp2_with fail
  go_loopw [16] (fun i wr => ∃ r : Nat, r ≤ 2 ∧ i = .int .i64 r ∧ ThingAt wr tb id (builtEs es) tsv txs tgs ∧ Below w.heap.size w wr) (fun i _ => 2 - (intOf i).toNat)
  case atStart => exact ⟨0, by omega, rfl, hT8.out, hb8w.out⟩
  case round =>
    obtain ⟨r, hr, rfl, hT0, hbr⟩ := hrel
    have hTr := Lib.hid hT0
    have hbrH := Lib.hid hbr
    clear hT0 hbr
    by_cases hr2 : r < 2
    · have hr3 : (r : Int) < 2 := by omega
      go_wp2_with fail
      go_loopw [17] (fun i wr2 => ∃ k : Nat, k ≤ ns.length ∧ i = .int .i64 k ∧ ThingAt wr2 tb id (builtEs es) tsv txs tgs ∧ Below w.heap.size w wr2) (fun i _ => ns.length - (intOf i).toNat)
      case atStart => exact ⟨0, Nat.zero_le _, rfl, hTr.out, hbrH.out⟩
      case round =>
        rename_i wr2
        obtain ⟨k, hk, rfl, hT0, hb⟩ := hrel
        have hT := Lib.hid hT0
        clear hT0
        by_cases hlt : k < ns.length
        · obtain ⟨nb, no, rfl, hnc⟩ := hnfH.out (by omega)
          obtain ⟨nm, hnm⟩ : ∃ nm, ns[k]? = some nm := ⟨_, List.getElem?_eq_getElem hlt⟩
          have hnk := keeps_of_below hb _ _ ((hnc k (by omega)).trans (show (ns.map Value.string)[k]? = some (.string nm) by rw [List.getElem?_map, hnm]; rfl))
          clear hnc hnm
          go_wp2_with fail
          refine (thing_get tb (builtEs es) tsv txs tgs _ nm hT.out.svc hT.out.own hT.out.rep).mono ?_
          rw [got_field]
          cases hg : gotO es nm with
          | none =>
          rintro e wa ⟨rfl, w', hq, hbq⟩
          have hba := Lib.hid (hq.trans (below_le hbq hq.size))
          have hbaw := Lib.hid (hb.trans (below_le hba.out hb.size))
          have hnk2 := keeps_of_below hba.out _ _ hnk
          go_wp2_with fail
          refine (got_said es nm _ xs _ (hoH.out.keep (keeps_of_below hbaw.out)) (EsRep.keep (keeps_of_below hbaw.out) _ _ hdH.out)).mono ?_
          rw [hg]
          rintro e wb ⟨cs, rfl, hct, hbb⟩
          have hctH := Lib.hid (show TRep wb (tK 1) cs from hct)
          have honec := Lib.hid (TRep.ones hct)
          obtain ⟨c0, c1, c2, c3, c4, c5, c6, c7, c8, c9, c10, rfl⟩ := eleven (TRep.len hct)
          clear hct
          go_wp2_with (refine wpList_store_row rfl 34 (.tmp 20) _ rfl wb.heap.size #[c0, c1, c2, c3, c4, c5, c6, c7, c8, c9, c10] rfl rfl 34 zeroCells (heap_alloc_new wb _) termSize rfl (all_one honec.out) ?_; rw [World.setRow_alloc_new])
          have hbal : Below wb.heap.size wb (wb.alloc (.cells #[c0, c1, c2, c3, c4, c5, c6, c7, c8, c9, c10] 34)) := (Below.refl _ _).alloc (Nat.le_refl _) _
          refine (clean_any (tK 1) _ _ (TRep.keep (keeps_of_below hbal) _ _ hctH.out)).mono ?_
          rintro e wc ⟨es', rfl, hdt, hbc⟩
          have hdtH := Lib.hid (TRep.keep only_all _ _ hdt)
          have hbac := Lib.hid ((hbb.trans (below_le hbal hbb.size)).trans (below_le hbc (by have := hbb.size; simp; omega)))
          obtain ⟨e0, e1, e2, e3, e4, e5, e6, e7, e8, e9, e10, rfl⟩ := eleven (TRep.len hdt)
          clear hdt hbal
          go_wp2_with fail
          refine (Is_said (plain_any .nil) (v := .nil) (x := .nilIface) (fs := []) ⟨rfl, rfl⟩ trivial hdtH.out).mono ?_
          rintro e wd ⟨he, hbd⟩
          rw [is_nil] at he
          subst he
          have hbad := Lib.hid (hbac.out.trans (below_le hbd hbac.out.size))
          go_wp2_with fail
          refine (spoil_any .nil .nilIface [] _ ⟨rfl, rfl⟩ trivial List.nodup_nil).mono ?_
          rintro e we ⟨rfl, hbe⟩
          have hbx := Lib.hid ((hba.out.trans (below_le hbad.out hba.out.size)).trans (hbe.below' (by have h1 := hba.out.size; have h2 := hbad.out.size; omega) (fun i hi hm => by cases hm)))
          go_wp2_with fail
          go_roundw
          case rel => exact ⟨k + 1, by omega, by go_num, hT.out.below hbx.out, hb.trans (below_le hbx.out hb.size)⟩
          case measure => simp [intOf]; omega
          | some u =>
          rintro e wa ⟨y, w', rfl, hq, hbq, -, hy⟩
          obtain ⟨s, hsu⟩ := gotO_mem hg
          have hmd : builtV u ∈ (builtEs es).map (·.2) := by rw [builtEs_eq, List.map_map]; exact List.mem_map.2 ⟨(s, u), hsu, rfl⟩
          have hoku : okB (builtV u) = true := sub_ok hok (builtV u) hmd
          obtain ⟨q, hqm, hqe⟩ := List.mem_map.1 hmd
          have hsmu : smallV (builtV u) := by have h1 := smallDs_mem _ hsmH.out.2 q hqm; rw [hqe] at h1; exact h1
          obtain ⟨ygs, hyv, hynd, hyge⟩ := hy hoku
          have hy1 := hyv.one
          have hyvH := Lib.hid hyv
          have hygeH := Lib.hid hyge
          have hqz := hq.size
          have hsmuH := Lib.hid hsmu
          have hokuH := Lib.hid hoku
          clear hy hyv hmd hqm hqe hsmu hoku
          have hba := Lib.hid (hq.trans (below_le hbq hq.size))
          have hbaw := Lib.hid (hb.trans (below_le hba.out hb.size))
          have hnk2 := keeps_of_below hba.out _ _ hnk
          go_wp2_with fail
          refine (got_said es nm _ xs _ (hoH.out.keep (keeps_of_below hbaw.out)) (EsRep.keep (keeps_of_below hbaw.out) _ _ hdH.out)).mono ?_
          rw [hg]
          rintro e wb ⟨cs, rfl, hct, hbb⟩
          have hctH := Lib.hid (show TRep wb u cs from hct)
          have honec := Lib.hid (TRep.ones hct)
          obtain ⟨c0, c1, c2, c3, c4, c5, c6, c7, c8, c9, c10, rfl⟩ := eleven (TRep.len hct)
          clear hct
          go_wp2_with (refine wpList_store_row rfl 34 (.tmp 20) _ rfl wb.heap.size #[c0, c1, c2, c3, c4, c5, c6, c7, c8, c9, c10] rfl rfl 34 zeroCells (heap_alloc_new wb _) termSize rfl (all_one honec.out) ?_; rw [World.setRow_alloc_new])
          have hbal : Below wb.heap.size wb (wb.alloc (.cells #[c0, c1, c2, c3, c4, c5, c6, c7, c8, c9, c10] 34)) := (Below.refl _ _).alloc (Nat.le_refl _) _
          refine (clean_any u _ _ (TRep.keep (keeps_of_below hbal) _ _ hctH.out)).mono ?_
          rintro e wc ⟨es', rfl, hdt, hbc⟩
          have hdtH := Lib.hid (TRep.keep only_all _ _ hdt)
          have hbac := Lib.hid ((hbb.trans (below_le hbal hbb.size)).trans (below_le hbc (by have := hbb.size; simp; omega)))
          obtain ⟨e0, e1, e2, e3, e4, e5, e6, e7, e8, e9, e10, rfl⟩ := eleven (TRep.len hdt)
          clear hdt hbal
          go_wp2_with fail
          refine (Is_said (plain_any (builtV u)) (VRep.but hyvH.out (below_but0 hbac.out) (fun _ _ f => f)) hsmuH.out hdtH.out).mono ?_
          rintro e wd ⟨he, hbd⟩
          rw [is_same hokuH.out] at he
          subst he
          have hbad := Lib.hid (hbac.out.trans (below_le hbd hbac.out.size))
          go_wp2_with fail
          refine (spoil_any (builtV u) _ ygs _ (VRep.but hyvH.out (below_but0 hbad.out) (fun _ _ f => f)) hsmuH.out hynd).mono ?_
          rintro e we ⟨rfl, hbe⟩
          have hbx := Lib.hid ((hba.out.trans (below_le hbad.out hba.out.size)).trans (hbe.below' (by have h1 := hba.out.size; have h2 := hbad.out.size; omega) (fun i hi hm => by have := hygeH.out i hm; omega)))
          go_wp2_with fail
          go_roundw
          case rel => exact ⟨k + 1, by omega, by go_num, hT.out.below hbx.out, hb.trans (below_le hbx.out hb.size)⟩
          case measure => simp [intOf]; omega
        · obtain rfl : k = ns.length := by omega
          go_wp2_with fail
          go_roundw
          case rel => exact ⟨r + 1, by omega, by go_num, hT.out, hb⟩
          case measure => simp [intOf]; omega
    · obtain rfl : r = 2 := by omega
      go_wp2_with fail
      refine (thing_id tb id tsv _ hTr.out.idc).mono ?_
      rintro e w10 ⟨rfl, rfl⟩
      go_wp2
      go_ret
      exact ⟨rfl, hbrH.out⟩

end
theorem things_walk (id : Int) (es : List (ByteArray × Term)) (ns : List ByteArray) (sv : Value) (xs : List Value) (nv : Value) (w : World) (ho : AtRow w sv es.length 12 xs) (hd : EsRep w es xs) (hn : AtRow w nv ns.length 1 (ns.map Value.string)) :
    Calls Try.prog 10 #[.int .u64 id, sv, nv] w fun e w' => e = .returned (.bool true) ∧ Below w.heap.size w w' := by
  by_cases hid : id = 0
  · subst hid; exact things_zero es sv xs nv w ho hd
  have hid' : (id == 0) = false := by simpa using hid
  cases hok : okB (.dict (builtEs es)) with
  | false => exact things_bad id es sv xs nv w ho hd hid' hok
  | true => exact things_ok id es ns sv xs nv w ho hd hn hid' hok

end Go.Proofs.Ytpcbdjfonmohaaa
