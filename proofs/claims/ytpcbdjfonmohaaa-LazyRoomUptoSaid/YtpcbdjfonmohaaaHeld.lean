/- A slice of pointers to ghosts: what it holds; slices.DeleteFunc at it; (*Pool).gone's function. -/
import Derived.Test.YtpcbdjfonmohaaaAsks
import Derived.Shelf.SlicesE.DeleteFunc
import Derived.ArgAppend
import Derived.LaidEqlPtr
namespace Go.Proofs.Ytpcbdjfonmohaaa
open Go.Shelf Go.RowKit Go.Lib Go.Sort
set_option linter.unusedVariables false
set_option linter.unusedSimpArgs false

/-- The library's numbers at this program. -/
def delRen : Ren := ⟨fun n => if n == 6 then 148 else 131,
  fun n => if n == 0 then 0 else if n == 3 then 3 else if n == 4 then 4 else if n == 22 then 143 else if n == 23 then 40 else 234, fun x => x⟩
theorem delLays : SlLaysH.n10 Try.prog delRen where
  mixed := by kernel_rfl
  f6 := ⟨"slices.IndexFunc[[]*tenon/lazy.Ghost,*tenon/lazy.Ghost]", by decide, by kernel_rfl⟩
  f10 := ⟨"slices.DeleteFunc[[]*tenon/lazy.Ghost,*tenon/lazy.Ghost]", by decide, by kernel_rfl⟩
  t0 := by kernel_rfl
  a0 := fun _ => by kernel_rfl
  z0 := fun _ => by kernel_rfl
  v0 := fun _ => by kernel_rfl
  t3 := by kernel_rfl
  a3 := fun _ => by kernel_rfl
  z3 := fun _ => by kernel_rfl
  v3 := fun _ => by kernel_rfl
  t4 := by kernel_rfl
  a4 := fun _ => by kernel_rfl
  z4 := fun _ => by kernel_rfl
  v4 := fun _ => by kernel_rfl
  t22 := by kernel_rfl
  a22 := fun _ => by kernel_rfl
  z22 := fun _ => by kernel_rfl
  v22 := fun _ => by kernel_rfl
  a23 := fun _ => by kernel_rfl
  z23 := fun _ => by kernel_rfl
  t25 := by kernel_rfl
  a25 := fun _ => by kernel_rfl
  z25 := fun _ => by kernel_rfl
  v25 := fun _ => by kernel_rfl

/-- A pointer to a block. -/
def ptrTo (g : Nat) : Value := .pointer (some ⟨g, 0, none⟩)
/-- The slice sv holds pointers to the blocks l; its array lies in a block of O. -/
def HeldAt (w : World) (O : Nat → Prop) (sv : Value) (l : List Nat) : Prop :=
  (sv = .slice none 0 0 ∧ l = []) ∨
  ∃ hb off cap, sv = .slice (some ⟨hb, off, none⟩) l.length cap ∧ l.length ≤ cap ∧ O hb ∧ hb < w.heap.size ∧ (∀ j g, l[j]? = some g → w.cell? ⟨hb, off + j, none⟩ = some (ptrTo g)) ∧ ∀ j, j < cap → (w.cell? ⟨hb, off + j, none⟩).isSome = true ∧ w.frozen? ⟨hb, off + j, none⟩ = false
theorem HeldAt.one {w : World} {O : Nat → Prop} {sv : Value} {l : List Nat} (h : HeldAt w O sv l) : sv.oneCell' = true := by
  rcases h with ⟨rfl, -⟩ | ⟨_, _, _, rfl, -⟩ <;> rfl
theorem HeldAt.mono {w : World} {O O' : Nat → Prop} {sv : Value} {l : List Nat} (h : HeldAt w O sv l) (ho : ∀ b, O b → O' b) : HeldAt w O' sv l := by
  rcases h with h | ⟨hb, off, cap, h1, h2, h3, h4⟩
  · exact .inl h
  · exact .inr ⟨hb, off, cap, h1, h2, ho _ h3, h4⟩
theorem HeldAt.but {w w' : World} {O S : Nat → Prop} {sv : Value} {l : List Nat} (h : HeldAt w O sv l) (hb : But S w w') (hs : ∀ b, O b → ¬ S b) : HeldAt w' O sv l := by
  rcases h with h | ⟨hb', off, cap, rfl, h2, h3, h4, h5, h6⟩
  · exact .inl h
  · have hn := hs _ h3
    exact .inr ⟨hb', off, cap, rfl, h2, h3, Nat.lt_of_lt_of_le h4 hb.size, fun j g hj => (hb.cell (p := ⟨hb', off + j, none⟩) h4 hn).trans (h5 j g hj),
      fun j hj => ⟨by rw [hb.cell (p := ⟨hb', off + j, none⟩) h4 hn]; exact (h6 j hj).1, (hb.frozen (p := ⟨hb', off + j, none⟩) h4 hn).trans (h6 j hj).2⟩⟩

/-- Comparing pointers. -/
theorem ptr_none (a : Addr) (w : World) : (binOp .eql 40 (.pointer none) (.pointer (some a))).run Try.prog w = .ok (.bool false) w := by kernel_rfl
theorem ghostInfo : ∃ j, Try.prog.info? 136 = some j ∧ j.size ≠ 0 := by
  have h : (Try.prog.info? 136).map (·.size) = some 6 := by kernel_rfl
  cases hi : Try.prog.info? 136 with
  | none => rw [hi] at h; cases h
  | some j => rw [hi] at h; simp at h; exact ⟨j, rfl, by omega⟩
theorem ptr_same (a : Addr) (w : World) : (binOp .eql 40 (.pointer (some a)) (.pointer (some a))).run Try.prog w = .ok (.bool true) w := by
  obtain ⟨j, hj, -⟩ := ghostInfo
  exact run_eql_ptr_same w a Try.underlying40 hj
theorem ptr_other {a b : Nat} {ca cb : Array Value} {ta tb : TypeId} {w : World} (hne : a ≠ b) (ha : w.heap[a]? = some (.cells ca ta (0, 0))) (hb : w.heap[b]? = some (.cells cb tb (0, 0))) :
    (binOp .eql 40 (.pointer (some ⟨a, 0, none⟩)) (.pointer (some ⟨b, 0, none⟩))).run Try.prog w = .ok (.bool false) w := by
  obtain ⟨j, hj, hs⟩ := ghostInfo
  exact run_eql_ptr_other w Try.underlying40 hj hs (fun e => hne (congrArg Addr.block e)) ha hb
/-- Blocks that pointers can be compared to. -/
def IsBlk (w : World) (g : Nat) : Prop := ∃ cs t, w.heap[g]? = some (.cells cs t (0, 0))
/-- A pointer, or nil. -/
def encP (G : Nat → Prop) : Option {g : Nat // G g} → Value
  | none => .pointer none
  | some g => ptrTo g.1
def isP (G : Nat → Prop) (g0 : Nat) : Option {g : Nat // G g} → Bool
  | none => false
  | some g => g.1 == g0
/-- The function that (*Pool).gone hands to DeleteFunc. -/
theorem gone1_said (G : Nat → Prop) (x : Option {g : Nat // G g}) (g B : Nat) (W : World) (hc : W.cell? ⟨B, 0, none⟩ = some (ptrTo g)) (hG : ∀ b, G b → IsBlk W b) (hg : IsBlk W g) :
    FnGives Try.prog 132 #[.pointer (some ⟨B, 0, none⟩)] #[encP G x] (.bool (isP G g x)) W := by
  show Calls Try.prog 132 #[encP G x, .pointer (some ⟨B, 0, none⟩)] W _
  unfold ptrTo at hc
  cases x with
  | none =>
    have hrun := fun w => ptr_none ⟨g, 0, none⟩ w
    show Calls Try.prog 132 #[.pointer none, .pointer (some ⟨B, 0, none⟩)] W fun e w' => e = .returned (.bool false) ∧ ∃ q, w' = W.drewN q
    clear hG hg
    go_enter Try.func132, Try.ntmps132
    go_wp2
    go_ret
    exact ⟨rfl, 0, rfl⟩
  | some x =>
    obtain ⟨b, hb⟩ := x
    by_cases e : b = g
    · subst e
      have hrun := fun w => ptr_same ⟨b, 0, none⟩ w
      have e1 : isP G b (some ⟨b, hb⟩) = true := by simp [isP]
      rw [e1]
      show Calls Try.prog 132 #[.pointer (some ⟨b, 0, none⟩), .pointer (some ⟨B, 0, none⟩)] W fun e w' => e = .returned (.bool true) ∧ ∃ q, w' = W.drewN q
      clear hG hg e1
      go_enter Try.func132, Try.ntmps132
      go_wp2
      go_ret
      exact ⟨rfl, 0, rfl⟩
    · obtain ⟨c1, t1, h1⟩ := hG b hb
      obtain ⟨c2, t2, h2⟩ := hg
      have hrun := ptr_other e h1 h2
      have e1 : isP G g (some ⟨b, hb⟩) = false := by simp [isP, e]
      rw [e1]
      show Calls Try.prog 132 #[.pointer (some ⟨b, 0, none⟩), .pointer (some ⟨B, 0, none⟩)] W fun e w' => e = .returned (.bool false) ∧ ∃ q, w' = W.drewN q
      clear hG e1 h1 h2
      go_enter Try.func132, Try.ntmps132
      go_wp2
      go_ret
      exact ⟨rfl, 0, rfl⟩

theorem encs_filter (l : List Nat) (g : Nat) : (((l.attach.map some).filter (fun x => !isP (· ∈ l) g x)).map (encP (· ∈ l))) = (l.filter (· != g)).map ptrTo := by
  rw [List.filter_map, List.map_map]
  have e1 : (encP (· ∈ l) ∘ some) = fun (x : {x // x ∈ l}) => ptrTo x.1 := rfl
  have e2 : ((fun x => !isP (· ∈ l) g x) ∘ some) = fun (x : {x // x ∈ l}) => x.1 != g := rfl
  rw [e1, e2]
  have h := List.filter_map (f := fun (x : {x // x ∈ l}) => x.1) (p := fun b => b != g) (l := l.attach)
  rw [List.attach_map_subtype_val] at h
  rw [h, List.map_map]
  rfl
theorem but_putRow {α : Type} [Inhabited α] (enc : α → Value) (w : World) (q b off : Nat) (d : Array α) : But (· = b) w (putRow enc (Sort.ahead w q) b off d) :=
  ⟨rfl, rfl, rfl, by simp [putRow, mapBlock, Sort.ahead], fun k _ hk => by
    have hk' : ¬ b = k := fun e => hk e.symm
    simp [putRow, mapBlock, Sort.ahead, Array.getElem?_modify, hk']⟩
theorem gone1_enters : ∀ (args : Array Value) (W : World), (callFunc 132 args).run Try.prog W = .ok (.enter 132 args) W := fun _ _ => by kernel_rfl
theorem IsBlk.but {S : Nat → Prop} {w w' : World} {g : Nat} (h : IsBlk w g) (hb : But S w w') (hs : ¬ S g) : IsBlk w' g := by
  obtain ⟨cs, t, h⟩ := h
  exact ⟨cs, t, (hb.block g (Array.getElem?_eq_some_iff.1 h).1 hs).trans h⟩
theorem del_nil (fv : Value) (hfv : fv.oneCell' = true) (w : World) : Calls Try.prog 131 #[.slice none 0 0, fv] w fun e w' => e = .returned (.slice none 0 0) ∧ w' = w := by
  have hIF : ∀ W, Calls Try.prog 148 #[.slice none 0 0, fv] W fun e w' => e = .returned (.int .i64 (-1)) ∧ w' = W := fun W => AnyE.slices_IndexFunc_empty (ρ := delRen) { delLays with } none 0 fv W
  have hIFH := Lib.hid hIF
  clear hIF
  go_enter Try.func131, Try.ntmps131
  go_wp2_with fail
  refine (hIFH.out _).mono ?_
  rintro e w' ⟨rfl, rfl⟩
  go_wp2
  go_ret
  exact ⟨rfl, rfl⟩
/-- slices.DeleteFunc takes one ghost away. -/
theorem del_said {w : World} {O : Nat → Prop} {sv : Value} {l : List Nat} (h : HeldAt w O sv l) {g B : Nat} (hc : w.cell? ⟨B, 0, none⟩ = some (ptrTo g)) (hBb : ¬ O B) (hl : ∀ b ∈ l, IsBlk w b ∧ ¬ O b) (hg : IsBlk w g) (hgb : ¬ O g) (hsz : l.length ≤ 9223372036854775807) :
    Calls Try.prog 131 #[sv, .func (.func 132) #[] #[.pointer (some ⟨B, 0, none⟩)]] w fun e w' => ∃ sv', e = .returned sv' ∧ HeldAt w' O sv' (l.filter (· != g)) ∧ But O w w' ∧ w'.heap.size = w.heap.size := by
  rcases h with ⟨rfl, rfl⟩ | ⟨hb', off, cap, rfl, h2, hO, h4, h5, h6⟩
  · exact (del_nil _ rfl w).mono fun e w' ⟨he, hw⟩ => ⟨_, he, .inl ⟨rfl, rfl⟩, hw ▸ But.refl _ _, by rw [hw]⟩
  · have hBlt := cell_lt hc
    have hG : ∀ W, But (· = hb') w W → ∀ b, b ∈ l → IsBlk W b := fun W hW b hbl => (hl b hbl).1.but hW (fun e => (hl b hbl).2 (e ▸ hO))
    have hgive : ∀ W, But (· = hb') w W → ∀ x, FnGives Try.prog 132 #[.pointer (some ⟨B, 0, none⟩)] #[encP (· ∈ l) x] (.bool (isP (· ∈ l) g x)) W := fun W hW x =>
      gone1_said (· ∈ l) x g B W ((hW.cell (p := ⟨B, 0, none⟩) hBlt (fun e => hBb (by have e' : B = hb' := e; rw [e']; exact hO))).trans hc) (hG W hW) (hg.but hW (fun e => hgb (e ▸ hO)))
    have hd : (l.attach.map some).toArray.size = l.length := by simp
    have hH : Holds (encP (· ∈ l)) w hb' off (l.attach.map some).toArray := fun j hj => by
      have hj' : j < l.length := by simpa using hj
      refine ⟨(h5 j l[j] (List.getElem?_eq_getElem hj')).trans ?_, (h6 j (by omega)).2⟩
      rw [getElem!_pos _ j hj]
      simp [encP]
    have hcon := AnyE.slices_DeleteFunc delLays (encP (· ∈ l)) (fun x => by cases x <;> rfl) (isP (· ∈ l) g) 132 #[.pointer (some ⟨B, 0, none⟩)] gone1_enters none (fun _ => by kernel_rfl) hb' off cap (l.attach.map some).toArray w
      (fun W x hbw => hgive W ((below_but0 hbw).mono (fun _ _ f => f.elim)) x) (fun n os dk x _ => hgive _ (by
        have h1 := but_putRow (encP (· ∈ l)) w n hb' off dk
        unfold sortWorld grow
        exact ⟨h1.os, h1.tape, h1.output, by have h2 := h1.size; simp only [Array.size_append]; omega, fun k hk hk' => by rw [← h1.block k hk hk']; exact Array.getElem?_append_left (Nat.lt_of_lt_of_le hk h1.size)⟩) x) hH (by rw [hd]; exact hsz) (by rw [hd]; exact h2)
    rw [hd] at hcon
    have hK := encs_filter l g
    have hKle : ((l.attach.map some).filter (fun x => !isP (· ∈ l) g x)).length ≤ l.length := by
      have := List.length_filter_le (fun x => !isP (· ∈ l) g x) (l.attach.map some); simpa using this
    generalize hKe : (l.attach.map some).filter (fun x => !isP (· ∈ l) g x) = K at hcon hK hKle
    have hKl : K.length = (l.filter (· != g)).length := by have := congrArg List.length hK; simpa using this
    refine hcon.mono ?_
    rintro e w' ⟨rfl, q, rfl⟩
    refine ⟨_, rfl, .inr ⟨hb', off, cap, by rw [hKl], by omega, hO, by simpa using h4, fun j b hj => ?_, fun j hj => ?_⟩, (but_putRow _ _ _ _ _ _).mono (fun i _ e => by have e' : i = hb' := e; rw [e']; exact hO), by simp [Sort.ahead]⟩
    · have hjl : j < (l.filter (· != g)).length := (List.getElem?_eq_some_iff.1 hj).1
      have hjK : j < K.length := by omega
      rw [Sort.cell?_putRow (encP (· ∈ l)) (Sort.ahead w q) hb' off (l.attach.map some).toArray _ hH (by simp; omega) j (by simp; omega)]
      rw [getElem!_pos _ j (by simp; omega)]
      have e1 : (K ++ List.replicate (l.length - K.length) none).toArray[j]'(by simp; omega) = K[j] := by simp [List.getElem_append_left, hjK]
      rw [e1]
      have e2 := congrArg (fun L => L[j]?) hK
      simp only [List.getElem?_map, hj, List.getElem?_eq_getElem hjK, Option.map_some] at e2
      exact e2
    · refine ⟨?_, by rw [Sort.frozen?_putRow]; exact (h6 j hj).2⟩
      by_cases hjl : j < l.length
      · rw [Sort.cell?_putRow (encP (· ∈ l)) (Sort.ahead w q) hb' off (l.attach.map some).toArray _ hH (by simp; omega) j (by simp; omega)]
        rfl
      · rw [Sort.cell?_putRow_other _ _ _ _ _ _ (.inr (.inr (by simp; omega)))]
        exact (h6 j hj).1
theorem held_cells {w : World} {b : Nat} {cs : Array Value} {t : TypeId} (h : w.heap[b]? = some (.cells cs t (0, 0))) (j : Nat) : w.cell? ⟨b, j, none⟩ = cs[j]? := by simp [World.cell?, h]
theorem held_of_row {w : World} {base : Nat} {sv : Value} {l : List Nat} (h : w.ownsRow base 40 1 sv l.length (l.map ptrTo)) (O : Nat → Prop) : HeldAt w (fun b => O b ∨ (base ≤ b ∧ b < w.heap.size)) sv l := by
  obtain ⟨-, ⟨rfl, h0⟩ | ⟨g, cap, cur, rfl, h2, h3, h4, h5, h6, h7⟩⟩ := h
  · exact .inl ⟨rfl, List.eq_nil_of_length_eq_zero h0⟩
  · have hlt := (Array.getElem?_eq_some_iff.1 h3).1
    refine .inr ⟨g, 0, cap, rfl, h4, .inr ⟨h2, hlt⟩, hlt, fun j b hj => ?_, fun j hj => ?_⟩
    · have hjl : j < l.length := (List.getElem?_eq_some_iff.1 hj).1
      have e := congrArg (fun L => L[j]?) h7
      simp only [List.getElem?_map, hj, Option.map_some] at e
      rw [List.getElem?_take_of_lt (by omega)] at e
      rw [Nat.zero_add, held_cells h3 j]
      simpa using e
    · rw [Nat.zero_add, held_cells h3 j]
      exact ⟨by rw [Array.getElem?_eq_getElem (by omega)]; rfl, by simp [World.frozen?, h3]⟩
/-- A ghost more. -/
theorem held_append {w : World} {O : Nat → Prop} {sv : Value} {l : List Nat} (h : HeldAt w O sv l) {g nb : Nat} (hn : w.cell? ⟨nb, 0, none⟩ = some (ptrTo g)) (hsz : l.length ≤ 1000000) (ty : TypeId) :
    ∃ a n c w', (Builtin.append_ #[143, 143] ty #[sv, .slice (some ⟨nb, 0, none⟩) 1 1]).run Try.prog w = .ok (.slice a n c) w' ∧ HeldAt w' (fun b => O b ∨ (w.heap.size ≤ b ∧ b < w'.heap.size)) (.slice a n c) (l ++ [g]) ∧ But O w w' := by
  obtain ⟨i0, hi, hz0, hz1, hz2⟩ := info_parts (show (Try.prog.info? 40).map (fun i => (i.zero, i.size, i.bytes)) = some (some (.pointer none), 1, 8) from by kernel_rfl)
  have hu := Try.underlying143
  have hnews : ∀ j u, [ptrTo g][j]? = some u → w.cell? (Addr.add ⟨nb, 0, none⟩ j) = some u := fun j u hj => by
    cases j with
    | zero => simp at hj; subst hj; rw [Addr.add_lit]; exact hn
    | succ j => simp at hj
  rcases h with ⟨rfl, rfl⟩ | ⟨hb', off, cap, rfl, h2, hO, h4, h5, h6⟩
  · obtain ⟨v', w', hr, hown, hgr, -⟩ := run_append_own (P := Try.prog) w w.heap.size 143 ty 40 i0 _ 1 8 hu hi hz0 hz1 hz2 rfl (by omega) (.slice none 0 0) 0 [] ⟨rfl, .inl ⟨rfl, rfl⟩⟩ ⟨nb, 0, none⟩ 1 1 [ptrTo g] rfl hnews (fun u hu => by simp at hu; subst hu; rfl) (by unfold maxLen; omega) (by omega) (Nat.le_refl _)
    have h1 := held_of_row (l := [g]) hown O
    obtain ⟨a, c, rfl⟩ : ∃ a c, v' = .slice a 1 c := by
      obtain ⟨-, ⟨rfl, h0⟩ | ⟨g', cap', cur, rfl, _⟩⟩ := hown
      · exact absurd h0 (by omega)
      · exact ⟨_, _, rfl⟩
    exact ⟨_, _, _, w', hr, h1, (But.refl _ _).of_grown hgr (fun i _ e => by cases e)⟩
  · by_cases hroom : l.length + 1 ≤ cap
    · have hr := run_append_room_cells (P := Try.prog) w 143 ty 40 i0 hu hi hb' off l.length cap ⟨nb, 0, none⟩ 1 1 [ptrTo g] (by rw [hz1]; rfl) hnews (fun u hu => by simp at hu; subst hu; rfl) hroom
        (fun j hj => by rw [hz1, Nat.mul_one, Nat.add_assoc]; exact (h6 (l.length + j) (by simp at hj; omega)).1) (fun j hj => by rw [hz1, Nat.mul_one, Nat.add_assoc]; exact (h6 (l.length + j) (by simp at hj; omega)).2)
      rw [hz1, Nat.mul_one] at hr
      simp only [World.setCells] at hr
      have hthere := (h6 l.length (by omega)).1
      have hcell : ∀ j, j < cap → (w.setCell ⟨hb', off + l.length, none⟩ (ptrTo g)).cell? ⟨hb', off + j, none⟩ = if j = l.length then some (ptrTo g) else w.cell? ⟨hb', off + j, none⟩ := fun j hj => by
        by_cases e : j = l.length
        · subst e
          rw [if_pos rfl]
          exact World.cell?_setCell_same' _ _ _ hthere
        · rw [if_neg e]
          exact World.cell?_setCell_other _ _ _ _ (fun h => e (by have := congrArg Addr.off h; simp at this; omega))
      refine ⟨_, _, _, _, hr, .inr ⟨hb', off, cap, by simp, by simp; omega, .inl hO, ?_, fun j b hj => ?_, fun j hj => ⟨?_, ?_⟩⟩, (But.refl O w).setCell (p := ⟨hb', off + l.length, none⟩) (fun _ => hO) _⟩
      · simpa [World.setCell] using h4
      · have hjl : j < (l ++ [g]).length := (List.getElem?_eq_some_iff.1 hj).1
        rw [hcell j (by simp at hjl; omega)]
        by_cases e : j = l.length
        · subst e
          rw [if_pos rfl]
          simp at hj
          rw [hj]
        · rw [if_neg e]
          exact h5 j b (by rwa [List.getElem?_append_left (by simp at hjl; omega)] at hj)
      · rw [hcell j hj]
        split
        · rfl
        · exact (h6 j hj).1
      · rw [World.frozen?_setCell]
        exact (h6 j hj).2
    · obtain ⟨v', w', hr, hown, hgr⟩ := run_append_arg_grows (P := Try.prog) w 143 ty 40 i0 _ 1 8 hu hi hz0 hz1 hz2 rfl (by omega) ⟨hb', off, none⟩ l.length cap (l.map ptrTo) (by simp) (fun j u hj => by
          rw [Addr.add_lit]
          simp only [List.getElem?_map, Option.map_eq_some_iff] at hj
          obtain ⟨b, hb, rfl⟩ := hj
          exact h5 j b hb) ⟨nb, 0, none⟩ 1 1 [ptrTo g] rfl hnews (by omega) (by unfold maxLen; omega) (by omega)
      have h1 := held_of_row (l := l ++ [g]) (by simpa using hown) O
      obtain ⟨a, n, c, rfl⟩ : ∃ a n c, v' = .slice a n c := by
        obtain ⟨-, ⟨rfl, h0⟩ | ⟨g', cap', cur, rfl, _⟩⟩ := hown
        · exact absurd h0 (by omega)
        · exact ⟨_, _, _, rfl⟩
      exact ⟨_, _, _, w', hr, h1, (But.refl _ _).of_grown hgr (fun i _ e => by cases e)⟩
end Go.Proofs.Ytpcbdjfonmohaaa
