/- The walks of (*count).all and (*count).part: a value's parts are counted and looked at. -/
import Derived.Test.YtgmdbpplfjkjmaaValOwn
import Derived.BigQuiet
import Derived.Deep.QuietTactic
namespace Go.Proofs.Ytgmdbpplfjkjmaa
open Go.RowKit
set_option linter.unusedVariables false
set_option linter.unusedSimpArgs false

/-- The contract of (*count).part at a value. -/
def PartSaid (v : Val) : Prop := ∀ (x : Value) (fs : List Nat) (w : World) (cb : Nat) (c : Cnt) (deep : Int), VRep w v x fs → cb ∉ fs → w.heap[cb]? = some (cntObj c) → 0 ≤ c.n → c.n ≤ 16384 → 1 ≤ deep → deep ≤ 65 →
  Calls Try.prog 184 #[.pointer (some ⟨cb, 0, none⟩), x, .int .i64 deep] w fun e w' => e = .returned (.bool (partF v deep c).1) ∧ w'.heap[cb]? = some (cntObj (partF v deep c).2) ∧ But (· = cb) w w'

theorem cntCells {w : World} {b : Nat} {c : Cnt} (h : w.heap[b]? = some (cntObj c)) :
    w.cell? ⟨b, 0, none⟩ = some (.int .i64 c.n) ∧ w.cell? ⟨b, 1, none⟩ = some (.int .i64 c.dp) ∧ w.cell? ⟨b, 2, none⟩ = some (.int .i64 c.why) ∧ b < w.heap.size ∧ (∀ o, w.frozen? ⟨b, o, none⟩ = false) := recCells h

theorem dparts_drop {d : List (ByteArray × Val)} {k : Nat} {p : ByteArray × Val} (h : d[k]? = some p) (deep : Int) (c : Cnt) :
    dpartsF (d.drop k) deep c = (match partF p.2 deep c with | (true, c') => dpartsF (d.drop (k + 1)) deep c' | (false, c') => (false, c')) := by
  have hk : k < d.length := (List.getElem?_eq_some_iff.1 h).1
  have e : d[k] = p := (List.getElem?_eq_some_iff.1 h).2
  rw [List.drop_eq_getElem_cons hk, dpartsF, dpartF_snd, e]
  cases partF p.2 deep c with
  | mk a b => cases a <;> rfl
theorem parts_drop {d : List Val} {k : Nat} {p : Val} (h : d[k]? = some p) (deep : Int) (c : Cnt) :
    partsF (d.drop k) deep c = (match partF p deep c with | (true, c') => partsF (d.drop (k + 1)) deep c' | (false, c') => (false, c')) := by
  have hk : k < d.length := (List.getElem?_eq_some_iff.1 h).1
  have e : d[k] = p := (List.getElem?_eq_some_iff.1 h).2
  rw [List.drop_eq_getElem_cons hk, partsF, e]
  cases partF p deep c with
  | mk a b => cases a <;> rfl

set_option maxRecDepth 100000 in
set_option maxHeartbeats 800000 in
theorem all_of (d : List (ByteArray × Val)) (ih : ∀ u ∈ d.map (·.2), PartSaid u) (sv : Value) (xs : List Value) (gs : List Nat) (w : World) (cb : Nat) (c : Cnt) (deep : Int)
    (ho : w.ownsRow 0 220 2 sv d.length xs) (hd : DsRep w d xs gs) (hcb : cb ∉ ownL sv ++ gs) (hc : w.heap[cb]? = some (cntObj c)) (h0 : 0 ≤ c.n) (h1 : c.n ≤ 16384) (h2 : 0 ≤ deep) (h3 : deep ≤ 64) :
    Calls Try.prog 225 #[.pointer (some ⟨cb, 0, none⟩), sv, .int .i64 deep] w fun e w' => e = .returned (.bool (dpartsF d (deep + 1) c).1) ∧ w'.heap[cb]? = some (cntObj (dpartsF d (deep + 1) c).2) ∧ But (· = cb) w w' := by
  obtain ⟨a, cap, rfl, hcap, hmax, hlen, hform⟩ := ownsRow_form ho
  unfold maxLen at hmax
  have hdat := Lib.hid (DsRep.at d xs gs hd)
  have hgs := Lib.hid (DsRep.lt d xs gs hd)
  have hformH := Lib.hid hform
  have ihH := Lib.hid ih
  have hcbH := Lib.hid hcb
  have hcH := Lib.hid hc
  obtain ⟨ob, hob⟩ : ∃ ob, ob = dpartsF d (deep + 1) c := ⟨_, rfl⟩
  have hobH := Lib.hid hob
  clear ho hd hform ih hcb hlen hc hob
  go_enter Try.func225, Try.ntmps225
  go_wp2
  go_loopw [11] (fun i wr => ∃ (k : Nat) (ck : Cnt), k ≤ d.length ∧ i = .int .i64 k ∧ dpartsF (d.drop k) (deep + 1) ck = dpartsF d (deep + 1) c ∧ 0 ≤ ck.n ∧ ck.n ≤ 16384 ∧ wr.heap[cb]? = some (cntObj ck) ∧ But (· = cb) w wr) (fun i _ => d.length - (intOf i).toNat)
  case atStart => exact ⟨0, c, Nat.zero_le _, rfl, by simp, h0, h1, hcH.out, But.refl _ _⟩
  case round =>
    obtain ⟨k, ck, hk, rfl, heq, hn0, hn1, hck, hb⟩ := hrel
    have heqH := Lib.hid heq
    have hckH := Lib.hid hck
    clear heq hck
    by_cases hlt : k < d.length
    · rcases hformH.out with ⟨-, h0', -⟩ | ⟨g, rfl, -, hg, hown, hcells⟩
      · omega
      · obtain ⟨⟨s, v⟩, hp⟩ : ∃ p, d[k]? = some p := ⟨_, List.getElem?_eq_getElem hlt⟩
        obtain ⟨x, f, e1, e2, e3, e4, -⟩ := hdat.out k _ hp
        have hx1 := e3.one
        have hgc : ¬ g = cb := fun e => hcbH.out (by rw [hown, e]; exact List.mem_append_left _ (List.mem_singleton.2 rfl))
        have hfc : ∀ b ∈ f, ¬ b = cb := fun b hbf e => hcbH.out (List.mem_append_right _ (e ▸ e4 b hbf))
        have hc0 := (hb.cell (p := ⟨g, k * 2, none⟩) hg hgc).trans ((hcells (k * 2) (by omega)).trans e1)
        have hc1 := (hb.cell (p := ⟨g, k * 2 + 1, none⟩) hg hgc).trans ((hcells (k * 2 + 1) (by omega)).trans e2)
        have hdrop := Lib.hid (dparts_drop hp (deep + 1) ck)
        have hrep := Lib.hid (VRep.but e3 hb hfc)
        have hih := Lib.hid (ihH.out v (List.mem_map.2 ⟨_, hp |> List.mem_of_getElem?, rfl⟩) x f)
        have hcbs := Lib.hid (fun (e : cb ∈ f) => hfc cb e rfl)
        have hcblt := (Array.getElem?_eq_some_iff.1 hckH.out).1
        have hnb := Lib.hid (partF_n v (deep + 1) ck hn0 hn1)
        clear e1 e2 e3 e4 hcells hp hgc hfc
        cases hr : partF v (deep + 1) ck with
        | mk ok c' =>
        have hrH := Lib.hid hr
        clear hr
        cases ok with
        | true =>
          go_wp2_with (go_at_call 184; refine (hih.out _ cb ck _ (VRep.but hrep.out (But.alloc (But.refl (fun _ => False) _) _) (fun _ _ f => f)) hcbs.out ((Below.heap_alloc _ _ _ hcblt).trans hckH.out) hn0 hn1 (by omega) (by omega)).mono ?_; rw [hrH.out]; rintro e w' ⟨rfl, hc', hb'⟩)
          have hnb' := hnb.out
          rw [hrH.out] at hnb'
          go_roundw
          case rel => exact ⟨k + 1, c', by omega, by go_num, by rw [← heqH.out, hdrop.out, hrH.out], hnb'.1, hnb'.2, hc', (hb.alloc _).trans hb'⟩
          case measure => simp [intOf]; omega
        | false =>
          go_wp2_with (go_at_call 184; refine (hih.out _ cb ck _ (VRep.but hrep.out (But.alloc (But.refl (fun _ => False) _) _) (fun _ _ f => f)) hcbs.out ((Below.heap_alloc _ _ _ hcblt).trans hckH.out) hn0 hn1 (by omega) (by omega)).mono ?_; rw [hrH.out]; rintro e w' ⟨rfl, hc', hb'⟩)
          have hfin : dpartsF d (deep + 1) c = (false, c') := by rw [← heqH.out, hdrop.out, hrH.out]
          go_ret
          rw [hfin]
          exact ⟨rfl, hc', (hb.alloc _).trans hb'⟩
    · obtain rfl : k = d.length := by omega
      have hfin : dpartsF d (deep + 1) c = (true, ck) := by rw [← heqH.out, List.drop_length]; rfl
      have hfinH := Lib.hid hfin
      clear hfin
      go_wp2
      go_ret
      rw [hfinH.out]
      exact ⟨rfl, hckH.out, hb⟩

set_option maxRecDepth 100000 in
theorem part_bad (v : Val) (x : Value) (fs : List Nat) (w : World) (cb : Nat) (c : Cnt) (deep : Int) (h : VRep w v x fs) (hc : w.heap[cb]? = some (cntObj c)) (how : ¬ ownF v c.n deep = 0) :
    Calls Try.prog 184 #[.pointer (some ⟨cb, 0, none⟩), x, .int .i64 deep] w fun e w' => e = .returned (.bool (partF v deep c).1) ∧ w'.heap[cb]? = some (cntObj (partF v deep c).2) ∧ But (· = cb) w w' := by
  rw [partF_bad how]
  obtain ⟨c0, c1, c2, hlt, hfz⟩ := cntCells hc
  have hown := Lib.hid (own_any h c.n deep)
  have hcH := Lib.hid hc
  have hfzH := Lib.hid hfz
  generalize ownF v c.n deep = why at *
  have hne : (why != 0) = true := by simpa using how
  clear h hc hfz how
  go_enter Try.func184, Try.ntmps184
  go_wp2_with (go_at_call 224; refine hown.out.mono ?_; rintro e w1 ⟨rfl, hb⟩; have q2 := (hb.cell (p := ⟨cb, 2, none⟩) hlt).trans c2; have z2 := (hb.frozen (p := ⟨cb, 2, none⟩) hlt).trans (hfzH.out 2); clear c0 c1 c2)
  go_ret
  exact ⟨rfl, setCell_block ((hb.block cb hlt).trans hcH.out) 2 _, ((But.refl (· = cb) w).of_below hb (fun i hi h => absurd hi (by omega))).setCell (p := ⟨cb, 2, none⟩) (fun _ => rfl) _⟩

/-- What the first steps leave of the count. -/
theorem part_world {w w1 : World} {cb : Nat} {c : Cnt} (hb : Below w.heap.size w w1) (hc : w.heap[cb]? = some (cntObj c)) (hlt : cb < w.heap.size) (a b : Int) :
    (((w1.setCell ⟨cb, 2, none⟩ (.int .i64 0)).setCell ⟨cb, 0, none⟩ (.int .i64 a)).setCell ⟨cb, 1, none⟩ (.int .i64 b)).heap[cb]? = some (cntObj ⟨a, b, 0⟩) ∧
    But (· = cb) w (((w1.setCell ⟨cb, 2, none⟩ (.int .i64 0)).setCell ⟨cb, 0, none⟩ (.int .i64 a)).setCell ⟨cb, 1, none⟩ (.int .i64 b)) :=
  ⟨setCell_block (setCell_block (setCell_block ((hb.block cb hlt).trans hc) 2 _) 0 _) 1 _,
   ((((But.refl (· = cb) w).of_below hb (fun i hi h => absurd hi (by omega))).setCell (p := ⟨cb, 2, none⟩) (fun _ => rfl) _).setCell (p := ⟨cb, 0, none⟩) (fun _ => rfl) _).setCell (p := ⟨cb, 1, none⟩) (fun _ => rfl) _⟩

set_option maxRecDepth 100000 in
theorem part_nil  : PartSaid (.nil) := by
  intro x fs w cb c deep h hcb hc h0 h1 h2 h3
  by_cases how : ownF (.nil) c.n deep = 0
  · obtain ⟨c0, c1, c2, hlt, hfz⟩ := cntCells hc
    have hown0 := own_any h c.n deep
    have hn1 := ownF_n how
    have hd1 := ownF_deep how
    have hfin : partF (.nil) deep c = (true, ⟨c.n + 1, max c.dp deep, 0⟩) := by rw [partF]; exact if_pos how
    rw [hfin]
    clear hfin
    rw [how] at hown0
    have hown := Lib.hid hown0
    have hcH := Lib.hid hc
    have hfzH := Lib.hid hfz
    simp only [VRep] at h
    obtain ⟨rfl, _⟩ := h
    clear hc hfz how hown0
    go_enter Try.func184, Try.ntmps184
    go_wp2_with (go_at_call 224; refine hown.out.mono ?_; rintro e w1 ⟨rfl, hb⟩; have q0 := (hb.cell (p := ⟨cb, 0, none⟩) hlt).trans c0; have q1 := (hb.cell (p := ⟨cb, 1, none⟩) hlt).trans c1; have q2 := (hb.cell (p := ⟨cb, 2, none⟩) hlt).trans c2; have z0 := (hb.frozen (p := ⟨cb, 0, none⟩) hlt).trans (hfzH.out 0); have z1 := (hb.frozen (p := ⟨cb, 1, none⟩) hlt).trans (hfzH.out 1); have z2 := (hb.frozen (p := ⟨cb, 2, none⟩) hlt).trans (hfzH.out 2); clear c0 c1 c2)
    go_ret
    exact ⟨rfl, part_world hb hcH.out hlt _ _⟩
  · exact part_bad _ _ _ _ _ _ _ h hc how

set_option maxRecDepth 100000 in
theorem part_bool (b : Bool) : PartSaid (.bool b) := by
  intro x fs w cb c deep h hcb hc h0 h1 h2 h3
  by_cases how : ownF (.bool b) c.n deep = 0
  · obtain ⟨c0, c1, c2, hlt, hfz⟩ := cntCells hc
    have hown0 := own_any h c.n deep
    have hn1 := ownF_n how
    have hd1 := ownF_deep how
    have hfin : partF (.bool b) deep c = (true, ⟨c.n + 1, max c.dp deep, 0⟩) := by rw [partF]; exact if_pos how
    rw [hfin]
    clear hfin
    rw [how] at hown0
    have hown := Lib.hid hown0
    have hcH := Lib.hid hc
    have hfzH := Lib.hid hfz
    simp only [VRep] at h
    obtain ⟨rfl, _⟩ := h
    clear hc hfz how hown0
    go_enter Try.func184, Try.ntmps184
    go_wp2_with (go_at_call 224; refine hown.out.mono ?_; rintro e w1 ⟨rfl, hb⟩; have q0 := (hb.cell (p := ⟨cb, 0, none⟩) hlt).trans c0; have q1 := (hb.cell (p := ⟨cb, 1, none⟩) hlt).trans c1; have q2 := (hb.cell (p := ⟨cb, 2, none⟩) hlt).trans c2; have z0 := (hb.frozen (p := ⟨cb, 0, none⟩) hlt).trans (hfzH.out 0); have z1 := (hb.frozen (p := ⟨cb, 1, none⟩) hlt).trans (hfzH.out 1); have z2 := (hb.frozen (p := ⟨cb, 2, none⟩) hlt).trans (hfzH.out 2); clear c0 c1 c2)
    go_ret
    exact ⟨rfl, part_world hb hcH.out hlt _ _⟩
  · exact part_bad _ _ _ _ _ _ _ h hc how

set_option maxRecDepth 100000 in
theorem part_int (n : Int) : PartSaid (.int n) := by
  intro x fs w cb c deep h hcb hc h0 h1 h2 h3
  by_cases how : ownF (.int n) c.n deep = 0
  · obtain ⟨c0, c1, c2, hlt, hfz⟩ := cntCells hc
    have hown0 := own_any h c.n deep
    have hn1 := ownF_n how
    have hd1 := ownF_deep how
    have hfin : partF (.int n) deep c = (true, ⟨c.n + 1, max c.dp deep, 0⟩) := by rw [partF]; exact if_pos how
    rw [hfin]
    clear hfin
    rw [how] at hown0
    have hown := Lib.hid hown0
    have hcH := Lib.hid hc
    have hfzH := Lib.hid hfz
    simp only [VRep] at h
    obtain ⟨rfl, _⟩ := h
    clear hc hfz how hown0
    go_enter Try.func184, Try.ntmps184
    go_wp2_with (go_at_call 224; refine hown.out.mono ?_; rintro e w1 ⟨rfl, hb⟩; have q0 := (hb.cell (p := ⟨cb, 0, none⟩) hlt).trans c0; have q1 := (hb.cell (p := ⟨cb, 1, none⟩) hlt).trans c1; have q2 := (hb.cell (p := ⟨cb, 2, none⟩) hlt).trans c2; have z0 := (hb.frozen (p := ⟨cb, 0, none⟩) hlt).trans (hfzH.out 0); have z1 := (hb.frozen (p := ⟨cb, 1, none⟩) hlt).trans (hfzH.out 1); have z2 := (hb.frozen (p := ⟨cb, 2, none⟩) hlt).trans (hfzH.out 2); clear c0 c1 c2)
    go_ret
    exact ⟨rfl, part_world hb hcH.out hlt _ _⟩
  · exact part_bad _ _ _ _ _ _ _ h hc how

set_option maxRecDepth 100000 in
theorem part_float (b : Nat) : PartSaid (.float b) := by
  intro x fs w cb c deep h hcb hc h0 h1 h2 h3
  by_cases how : ownF (.float b) c.n deep = 0
  · obtain ⟨c0, c1, c2, hlt, hfz⟩ := cntCells hc
    have hown0 := own_any h c.n deep
    have hn1 := ownF_n how
    have hd1 := ownF_deep how
    have hfin : partF (.float b) deep c = (true, ⟨c.n + 1, max c.dp deep, 0⟩) := by rw [partF]; exact if_pos how
    rw [hfin]
    clear hfin
    rw [how] at hown0
    have hown := Lib.hid hown0
    have hcH := Lib.hid hc
    have hfzH := Lib.hid hfz
    simp only [VRep] at h
    obtain ⟨rfl, _⟩ := h
    clear hc hfz how hown0
    go_enter Try.func184, Try.ntmps184
    go_wp2_with (go_at_call 224; refine hown.out.mono ?_; rintro e w1 ⟨rfl, hb⟩; have q0 := (hb.cell (p := ⟨cb, 0, none⟩) hlt).trans c0; have q1 := (hb.cell (p := ⟨cb, 1, none⟩) hlt).trans c1; have q2 := (hb.cell (p := ⟨cb, 2, none⟩) hlt).trans c2; have z0 := (hb.frozen (p := ⟨cb, 0, none⟩) hlt).trans (hfzH.out 0); have z1 := (hb.frozen (p := ⟨cb, 1, none⟩) hlt).trans (hfzH.out 1); have z2 := (hb.frozen (p := ⟨cb, 2, none⟩) hlt).trans (hfzH.out 2); clear c0 c1 c2)
    go_ret
    exact ⟨rfl, part_world hb hcH.out hlt _ _⟩
  · exact part_bad _ _ _ _ _ _ _ h hc how

set_option maxRecDepth 100000 in
theorem part_text (s : ByteArray) : PartSaid (.text s) := by
  intro x fs w cb c deep h hcb hc h0 h1 h2 h3
  by_cases how : ownF (.text s) c.n deep = 0
  · obtain ⟨c0, c1, c2, hlt, hfz⟩ := cntCells hc
    have hown0 := own_any h c.n deep
    have hn1 := ownF_n how
    have hd1 := ownF_deep how
    have hfin : partF (.text s) deep c = (true, ⟨c.n + 1, max c.dp deep, 0⟩) := by rw [partF]; exact if_pos how
    rw [hfin]
    clear hfin
    rw [how] at hown0
    have hown := Lib.hid hown0
    have hcH := Lib.hid hc
    have hfzH := Lib.hid hfz
    simp only [VRep] at h
    obtain ⟨rfl, _⟩ := h
    clear hc hfz how hown0
    go_enter Try.func184, Try.ntmps184
    go_wp2_with (go_at_call 224; refine hown.out.mono ?_; rintro e w1 ⟨rfl, hb⟩; have q0 := (hb.cell (p := ⟨cb, 0, none⟩) hlt).trans c0; have q1 := (hb.cell (p := ⟨cb, 1, none⟩) hlt).trans c1; have q2 := (hb.cell (p := ⟨cb, 2, none⟩) hlt).trans c2; have z0 := (hb.frozen (p := ⟨cb, 0, none⟩) hlt).trans (hfzH.out 0); have z1 := (hb.frozen (p := ⟨cb, 1, none⟩) hlt).trans (hfzH.out 1); have z2 := (hb.frozen (p := ⟨cb, 2, none⟩) hlt).trans (hfzH.out 2); clear c0 c1 c2)
    go_ret
    exact ⟨rfl, part_world hb hcH.out hlt _ _⟩
  · exact part_bad _ _ _ _ _ _ _ h hc how

set_option maxRecDepth 100000 in
theorem part_ref (n : Int) : PartSaid (.ref n) := by
  intro x fs w cb c deep h hcb hc h0 h1 h2 h3
  by_cases how : ownF (.ref n) c.n deep = 0
  · obtain ⟨c0, c1, c2, hlt, hfz⟩ := cntCells hc
    have hown0 := own_any h c.n deep
    have hn1 := ownF_n how
    have hd1 := ownF_deep how
    have hfin : partF (.ref n) deep c = (true, ⟨c.n + 1, max c.dp deep, 0⟩) := by rw [partF]; exact if_pos how
    rw [hfin]
    clear hfin
    rw [how] at hown0
    have hown := Lib.hid hown0
    have hcH := Lib.hid hc
    have hfzH := Lib.hid hfz
    simp only [VRep] at h
    obtain ⟨rfl, _⟩ := h
    clear hc hfz how hown0
    go_enter Try.func184, Try.ntmps184
    go_wp2_with (go_at_call 224; refine hown.out.mono ?_; rintro e w1 ⟨rfl, hb⟩; have q0 := (hb.cell (p := ⟨cb, 0, none⟩) hlt).trans c0; have q1 := (hb.cell (p := ⟨cb, 1, none⟩) hlt).trans c1; have q2 := (hb.cell (p := ⟨cb, 2, none⟩) hlt).trans c2; have z0 := (hb.frozen (p := ⟨cb, 0, none⟩) hlt).trans (hfzH.out 0); have z1 := (hb.frozen (p := ⟨cb, 1, none⟩) hlt).trans (hfzH.out 1); have z2 := (hb.frozen (p := ⟨cb, 2, none⟩) hlt).trans (hfzH.out 2); clear c0 c1 c2)
    go_ret
    exact ⟨rfl, part_world hb hcH.out hlt _ _⟩
  · exact part_bad _ _ _ _ _ _ _ h hc how

set_option maxRecDepth 100000 in
theorem part_bytes (l : List UInt8) : PartSaid (.bytes l) := by
  intro x fs w cb c deep h hcb hc h0 h1 h2 h3
  by_cases how : ownF (.bytes l) c.n deep = 0
  · obtain ⟨c0, c1, c2, hlt, hfz⟩ := cntCells hc
    have hown0 := own_any h c.n deep
    have hn1 := ownF_n how
    have hd1 := ownF_deep how
    have hfin : partF (.bytes l) deep c = (true, ⟨c.n + 1, max c.dp deep, 0⟩) := by rw [partF]; exact if_pos how
    rw [hfin]
    clear hfin
    rw [how] at hown0
    have hown := Lib.hid hown0
    have hcH := Lib.hid hc
    have hfzH := Lib.hid hfz
    simp only [VRep] at h
    obtain ⟨sv, rfl, _⟩ := h
    clear hc hfz how hown0
    go_enter Try.func184, Try.ntmps184
    go_wp2_with (go_at_call 224; refine hown.out.mono ?_; rintro e w1 ⟨rfl, hb⟩; have q0 := (hb.cell (p := ⟨cb, 0, none⟩) hlt).trans c0; have q1 := (hb.cell (p := ⟨cb, 1, none⟩) hlt).trans c1; have q2 := (hb.cell (p := ⟨cb, 2, none⟩) hlt).trans c2; have z0 := (hb.frozen (p := ⟨cb, 0, none⟩) hlt).trans (hfzH.out 0); have z1 := (hb.frozen (p := ⟨cb, 1, none⟩) hlt).trans (hfzH.out 1); have z2 := (hb.frozen (p := ⟨cb, 2, none⟩) hlt).trans (hfzH.out 2); clear c0 c1 c2)
    go_ret
    exact ⟨rfl, part_world hb hcH.out hlt _ _⟩
  · exact part_bad _ _ _ _ _ _ _ h hc how

theorem part_nothing : PartSaid .nothing := by
  intro x fs w cb c deep h hcb hc h0 h1 h2 h3
  exact part_bad _ _ _ _ _ _ _ h hc (by unfold ownF kindV ownIn; split <;> simp)

theorem part_alien (u : TypeId) : PartSaid (.alien u) := by
  intro x fs w cb c deep h hcb hc h0 h1 h2 h3
  exact part_bad _ _ _ _ _ _ _ h hc (by unfold ownF kindV ownIn; split <;> simp)

set_option maxRecDepth 100000 in
theorem part_dict (d : List (ByteArray × Val)) (ih : ∀ u ∈ d.map (·.2), PartSaid u) : PartSaid (.dict d) := by
  intro x fs w cb c deep h hcb hc h0 h1 h2 h3
  by_cases how : ownF (.dict d) c.n deep = 0
  · obtain ⟨c0, c1, c2, hlt, hfz⟩ := cntCells hc
    have hown0 := own_any h c.n deep
    have hn1 := ownF_n how
    have hd1 := ownF_deep how
    rw [how] at hown0
    have hown := Lib.hid hown0
    have hcH := Lib.hid hc
    have hfzH := Lib.hid hfz
    simp only [VRep] at h
    obtain ⟨sv, xs, gs, rfl, ho, hd, rfl⟩ := h
    have hfin : partF (.dict d) deep c = dpartsF d (deep + 1) ⟨c.n + 1, max c.dp deep, 0⟩ := by rw [partF]; exact if_pos how
    rw [hfin]
    have hall := Lib.hid (fun (W : World) (hW : W.heap[cb]? = some (cntObj ⟨c.n + 1, max c.dp deep, 0⟩) ∧ But (· = cb) w W) =>
      all_of d ih sv xs gs W cb ⟨c.n + 1, max c.dp deep, 0⟩ deep (ownsRow_but ho hW.2 (fun b hb e => hcb (by rw [← e]; exact List.mem_append_left _ hb))) (DsRep.but hd hW.2 (fun b hb e => hcb (by rw [← e]; exact List.mem_append_right _ hb))) hcb hW.1 (by dsimp only; omega) (by dsimp only; omega) (by omega) hd1)
    clear hc hfz how hown0 ho hd ih hfin
    go_enter Try.func184, Try.ntmps184
    go_wp2_with (go_at_call 224; refine hown.out.mono ?_; rintro e w1 ⟨rfl, hb⟩; have q0 := (hb.cell (p := ⟨cb, 0, none⟩) hlt).trans c0; have q1 := (hb.cell (p := ⟨cb, 1, none⟩) hlt).trans c1; have q2 := (hb.cell (p := ⟨cb, 2, none⟩) hlt).trans c2; have z0 := (hb.frozen (p := ⟨cb, 0, none⟩) hlt).trans (hfzH.out 0); have z1 := (hb.frozen (p := ⟨cb, 1, none⟩) hlt).trans (hfzH.out 1); have z2 := (hb.frozen (p := ⟨cb, 2, none⟩) hlt).trans (hfzH.out 2); clear c0 c1 c2)
    refine (hall.out _ (part_world hb hcH.out hlt _ _)).mono ?_
    rintro e w2 ⟨rfl, hc2, hb2⟩
    have hb3 := (part_world hb hcH.out hlt (c.n + 1) (max c.dp deep)).2.trans hb2
    go_wp2
    go_ret
    exact ⟨rfl, hc2, hb3⟩
  · exact part_bad _ _ _ _ _ _ _ h hc how

set_option maxRecDepth 100000 in
set_option maxHeartbeats 800000 in
theorem part_record (s : ByteArray) (m : Int) (d : List (ByteArray × Val)) (ih : ∀ u ∈ d.map (·.2), PartSaid u) : PartSaid (.record s m d) := by
  intro x fs w cb c deep h hcb hc h0 h1 h2 h3
  by_cases how : ownF (.record s m d) c.n deep = 0
  · obtain ⟨c0, c1, c2, hlt, hfz⟩ := cntCells hc
    have hown0 := own_any h c.n deep
    have hn1 := ownF_n how
    have hd1 := ownF_deep how
    rw [how] at hown0
    have hown := Lib.hid hown0
    have hcH := Lib.hid hc
    have hfzH := Lib.hid hfz
    simp only [VRep] at h
    obtain ⟨b, sv, xs, gs, rfl, hr, -, -, ho, hd, rfl⟩ := h
    have hfin : partF (.record s m d) deep c = dpartsF d (deep + 1) ⟨c.n + 1, max c.dp deep, 0⟩ := by rw [partF]; exact if_pos how
    rw [hfin]
    obtain ⟨-, -, r2, hbl, -⟩ := recCells hr
    have hcb2 : cb ∉ ownL sv ++ gs := fun e => hcb (List.mem_cons_of_mem _ e)
    have hbc : ¬ b = cb := fun e => hcb (by rw [e]; exact List.mem_cons_self)
    have hbc' : ¬ cb = b := fun e => hbc e.symm
    have hall := Lib.hid (fun (W : World) (hW : W.heap[cb]? = some (cntObj ⟨c.n + 1, max c.dp deep, 0⟩) ∧ But (· = cb) w W) =>
      all_of d ih sv xs gs W cb ⟨c.n + 1, max c.dp deep, 0⟩ deep (ownsRow_but ho hW.2 (fun b hb e => hcb2 (by rw [← e]; exact List.mem_append_left _ hb))) (DsRep.but hd hW.2 (fun b hb e => hcb2 (by rw [← e]; exact List.mem_append_right _ hb))) hcb2 hW.1 (by dsimp only; omega) (by dsimp only; omega) (by omega) hd1)
    clear hc hfz how hown0 ho hd ih hfin hcb hcb2 hr
    go_enter Try.func184, Try.ntmps184
    go_wp2_with (go_at_call 224; refine hown.out.mono ?_; rintro e w1 ⟨rfl, hb⟩; have q0 := (hb.cell (p := ⟨cb, 0, none⟩) hlt).trans c0; have q1 := (hb.cell (p := ⟨cb, 1, none⟩) hlt).trans c1; have q2 := (hb.cell (p := ⟨cb, 2, none⟩) hlt).trans c2; have z0 := (hb.frozen (p := ⟨cb, 0, none⟩) hlt).trans (hfzH.out 0); have z1 := (hb.frozen (p := ⟨cb, 1, none⟩) hlt).trans (hfzH.out 1); have z2 := (hb.frozen (p := ⟨cb, 2, none⟩) hlt).trans (hfzH.out 2); clear c0 c1 c2; have q3 := (hb.cell (p := ⟨b, 2, none⟩) hbl).trans r2; clear r2)
    refine (hall.out _ (part_world hb hcH.out hlt _ _)).mono ?_
    rintro e w2 ⟨rfl, hc2, hb2⟩
    have hb3 := (part_world hb hcH.out hlt (c.n + 1) (max c.dp deep)).2.trans hb2
    go_wp2
    go_ret
    exact ⟨rfl, hc2, hb3⟩
  · exact part_bad _ _ _ _ _ _ _ h hc how

set_option maxRecDepth 100000 in
set_option maxHeartbeats 800000 in
theorem part_list (l : List Val) (ih : ∀ u ∈ l, PartSaid u) : PartSaid (.list l) := by
  intro x fs w cb c deep h hcb hc h0 h1 h2 h3
  by_cases how : ownF (.list l) c.n deep = 0
  · obtain ⟨c0, c1, c2, hlt, hfz⟩ := cntCells hc
    have hown0 := own_any h c.n deep
    have hn1 := ownF_n how
    have hd1 := ownF_deep how
    rw [how] at hown0
    have hown := Lib.hid hown0
    have hcH := Lib.hid hc
    have hfzH := Lib.hid hfz
    simp only [VRep] at h
    obtain ⟨sv, xs, gs, rfl, ho, hd, rfl⟩ := h
    have hfin : partF (.list l) deep c = partsF l (deep + 1) ⟨c.n + 1, max c.dp deep, 0⟩ := by rw [partF]; exact if_pos how
    rw [hfin]
    obtain ⟨a, cap, rfl, hcap, hmax, hlen, hform⟩ := ownsRow_form ho
    unfold maxLen at hmax
    have hdat := Lib.hid (VsRep.at l xs gs hd)
    have hformH := Lib.hid hform
    have ihH := Lib.hid ih
    have hcbH := Lib.hid hcb
    clear hc hfz how hown0 ho hd ih hfin hcb hform hlen
    go_enter Try.func184, Try.ntmps184
    go_wp2_with (go_at_call 224; refine hown.out.mono ?_; rintro e w1 ⟨rfl, hb⟩; have q0 := (hb.cell (p := ⟨cb, 0, none⟩) hlt).trans c0; have q1 := (hb.cell (p := ⟨cb, 1, none⟩) hlt).trans c1; have q2 := (hb.cell (p := ⟨cb, 2, none⟩) hlt).trans c2; have z0 := (hb.frozen (p := ⟨cb, 0, none⟩) hlt).trans (hfzH.out 0); have z1 := (hb.frozen (p := ⟨cb, 1, none⟩) hlt).trans (hfzH.out 1); have z2 := (hb.frozen (p := ⟨cb, 2, none⟩) hlt).trans (hfzH.out 2); clear c0 c1 c2)
    have hw3 := part_world hb hcH.out hlt (c.n + 1) (max c.dp deep)
    generalize ((w1.setCell ⟨cb, 2, none⟩ (Value.int .i64 0)).setCell ⟨cb, 0, none⟩ (Value.int .i64 (c.n + 1))).setCell ⟨cb, 1, none⟩ (Value.int .i64 (max c.dp deep)) = w3 at hw3 ⊢
    obtain ⟨hc3, hb3⟩ := hw3
    have hc3H := Lib.hid hc3
    clear hc3 q0 q1 q2 z0 z1 z2 hb
    generalize hmx : max c.dp deep = mx at *
    have hmxH := Lib.hid hmx
    clear hmx
    go_loopw [49] (fun i wr => ∃ (k : Nat) (ck : Cnt), k ≤ l.length ∧ i = .int .i64 k ∧ partsF (l.drop k) (deep + 1) ck = partsF l (deep + 1) ⟨c.n + 1, mx, 0⟩ ∧ 0 ≤ ck.n ∧ ck.n ≤ 16384 ∧ wr.heap[cb]? = some (cntObj ck) ∧ But (· = cb) w wr) (fun i _ => l.length - (intOf i).toNat)
    case atStart => exact ⟨0, _, Nat.zero_le _, rfl, by simp, by dsimp only; omega, by dsimp only; omega, hc3H.out, hb3⟩
    case round =>
      obtain ⟨k, ck, hk, rfl, heq, hn0, hn2, hck, hb⟩ := hrel
      have heqH := Lib.hid heq
      have hckH := Lib.hid hck
      clear heq hck
      by_cases hlt2 : k < l.length
      · rcases hformH.out with ⟨-, h0', -⟩ | ⟨g, rfl, -, hg, hown', hcells⟩
        · omega
        · obtain ⟨v, hp⟩ : ∃ p, l[k]? = some p := ⟨_, List.getElem?_eq_getElem hlt2⟩
          obtain ⟨x, f, e1, e3, e4⟩ := hdat.out k _ hp
          have hgc : ¬ g = cb := fun e => hcbH.out (by rw [hown', e]; exact List.mem_append_left _ (List.mem_singleton.2 rfl))
          have hfc : ∀ b ∈ f, ¬ b = cb := fun b hbf e => hcbH.out (List.mem_append_right _ (e ▸ e4 b hbf))
          have hc0 := (hb.cell (p := ⟨g, k, none⟩) hg hgc).trans ((hcells k (by omega)).trans e1)
          have hdrop := Lib.hid (parts_drop hp (deep + 1) ck)
          have hrep := Lib.hid (VRep.but e3 hb hfc)
          have hih := Lib.hid (ihH.out v (List.mem_of_getElem? hp) x f)
          have hcbs := Lib.hid (fun (e : cb ∈ f) => hfc cb e rfl)
          have hnb := Lib.hid (partF_n v (deep + 1) ck hn0 hn2)
          clear e1 e3 e4 hcells hp hgc hfc
          cases hr : partF v (deep + 1) ck with
          | mk ok c' =>
          have hrH := Lib.hid hr
          clear hr
          cases ok with
          | true =>
            go_wp2_with (go_at_call 184; refine (hih.out _ cb ck _ hrep.out hcbs.out hckH.out hn0 hn2 (by omega) (by omega)).mono ?_; rw [hrH.out]; rintro e w' ⟨rfl, hc', hb'⟩)
            have hnb' := hnb.out
            rw [hrH.out] at hnb'
            go_roundw
            case rel => exact ⟨k + 1, c', by omega, by go_num, by rw [← heqH.out, hdrop.out, hrH.out], hnb'.1, hnb'.2, hc', hb.trans hb'⟩
            case measure => simp [intOf]; omega
          | false =>
            go_wp2_with (go_at_call 184; refine (hih.out _ cb ck _ hrep.out hcbs.out hckH.out hn0 hn2 (by omega) (by omega)).mono ?_; rw [hrH.out]; rintro e w' ⟨rfl, hc', hb'⟩)
            have hfin : partsF l (deep + 1) ⟨c.n + 1, mx, 0⟩ = (false, c') := by rw [← heqH.out, hdrop.out, hrH.out]
            go_ret
            rw [hmxH.out, hfin]
            exact ⟨rfl, hc', hb.trans hb'⟩
      · obtain rfl : k = l.length := by omega
        have hfin : partsF l (deep + 1) ⟨c.n + 1, mx, 0⟩ = (true, ck) := by rw [← heqH.out, List.drop_length]; rfl
        have hfinH := Lib.hid hfin
        clear hfin
        go_wp2
        go_ret
        rw [hmxH.out, hfinH.out]
        exact ⟨rfl, hckH.out, hb⟩
  · exact part_bad _ _ _ _ _ _ _ h hc how

theorem part_any : ∀ v, PartSaid v := val_ind fun v ih => by
  cases v with
  | nil => exact part_nil
  | bool b => exact part_bool b
  | int n => exact part_int n
  | float b => exact part_float b
  | text s => exact part_text s
  | bytes l => exact part_bytes l
  | ref n => exact part_ref n
  | list l => exact part_list l ih
  | dict d => exact part_dict d ih
  | record s n d => exact part_record s n d ih
  | nothing => exact part_nothing
  | alien u => exact part_alien u
end Go.Proofs.Ytgmdbpplfjkjmaa

/-! The walks of value.check and value.Check. -/
namespace Go.Proofs.Ytgmdbpplfjkjmaa
open Go.RowKit
set_option linter.unusedVariables false
set_option linter.unusedSimpArgs false

set_option maxRecDepth 100000 in
theorem check_any {w : World} {v : Val} {x : Value} {fs : List Nat} (h : VRep w v x fs) :
    Calls Try.prog 135 #[x] w fun e w' => e = .returned (.tuple #[.int .i64 (checkF v).1, .int .i64 (checkF v).2]) ∧ Below w.heap.size w w' := by
  have hl := VRep.lt v x fs h
  have hp := Lib.hid (fun (W : World) (hW : W.heap[w.heap.size]? = some (cntObj ⟨0, 0, 0⟩)) (hb : But (fun _ => False) w W) =>
    part_any v x fs W w.heap.size ⟨0, 0, 0⟩ 1 (VRep.but h hb (fun _ _ f => f)) (fun e => by have := hl _ e; omega) hW (by decide) (by decide) (by decide) (by decide))
  have hcheck : checkF v = (match partF v 1 ⟨0, 0, 0⟩ with | (true, _) => (0, 0) | (false, c) => (c.n, c.why)) := rfl
  clear h hl
  cases hr : partF v 1 ⟨0, 0, 0⟩ with
  | mk ok c =>
  rw [hr] at hcheck
  have hrH := Lib.hid hr
  clear hr
  cases ok with
  | true =>
    rw [hcheck]
    clear hcheck
    go_enter Try.func135, Try.ntmps135
    go_wp2_with (go_at_call 184; refine (hp.out _ (heap_alloc_new w _) (But.alloc (But.refl _ _) _)).mono ?_; rw [hrH.out]; rintro e w2 ⟨rfl, hc2, hb2⟩)
    go_ret2
    exact ⟨rfl, hb2.new_below⟩
  | false =>
    rw [hcheck]
    clear hcheck
    go_enter Try.func135, Try.ntmps135
    go_wp2_with (go_at_call 184; refine (hp.out _ (heap_alloc_new w _) (But.alloc (But.refl _ _) _)).mono ?_; rw [hrH.out]; rintro e w2 ⟨rfl, hc2, hb2⟩)
    obtain ⟨q0, -, q2, -, -⟩ := cntCells hc2
    go_quiet (fail)
    go_wp2
    go_ret2
    exact ⟨rfl, Below.drewN' hb2.new_below nq⟩
theorem Check_any {w : World} {v : Val} {x : Value} {fs : List Nat} (h : VRep w v x fs) :
    Calls Try.prog 70 #[x] w fun e w' => e = .returned (.tuple #[.int .i64 (checkF v).1, .int .i64 (checkF v).2]) ∧ Below w.heap.size w w' := by
  have hc := Lib.hid (check_any h)
  clear h
  go_enter Try.func70, Try.ntmps70
  go_wp2_with (go_at_call 135; refine hc.out.mono ?_; rintro e w2 ⟨rfl, hb2⟩)
  go_ret2
  exact ⟨rfl, hb2⟩
end Go.Proofs.Ytgmdbpplfjkjmaa
