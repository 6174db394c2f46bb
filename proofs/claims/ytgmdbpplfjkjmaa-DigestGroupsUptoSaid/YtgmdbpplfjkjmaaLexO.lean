/- The order of values, in plain: a value's road in numbers, and the lexicographic order of roads. -/
import Derived.Test.YtgmdbpplfjkjmaaDigEnc
namespace Go.Proofs.Ytgmdbpplfjkjmaa
open Go.RowKit
set_option linter.unusedVariables false
set_option linter.unusedSimpArgs false

/-- place. -/
def placeN (x : Nat) : Nat := if 9223372036854775808 ≤ x then 18446744073709551615 - x else x + 9223372036854775808
theorem placeN_inj {x y : Nat} (hx : x < 18446744073709551616) (hy : y < 18446744073709551616) : (placeN x : Int) = (placeN y : Int) ↔ x = y := by
  unfold placeN
  constructor
  · intro h; split at h <;> split at h <;> omega
  · rintro rfl; rfl
theorem toList_inj {s q : ByteArray} (h : s.toList = q.toList) : s = q := by
  rw [toList_data, toList_data] at h
  exact ByteArray.ext (Array.ext' h)
theorem less_irrefl : ∀ l : List UInt8, Op.bytesLess l l = false
  | [] => rfl
  | a :: l => by rw [Op.bytesLess, less_irrefl l]; simp
/-- The order of numbers. -/
def cmpI (x y : Int) : Int := if x < y then -1 else if y < x then 1 else 0
theorem cmpI_congr {x y a b : Int} (h : x < y ↔ a < b) (k : y < x ↔ b < a) : cmpI x y = cmpI a b := by
  unfold cmpI
  by_cases h1 : x < y
  · rw [if_pos h1, if_pos (h.1 h1)]
  · rw [if_neg h1, if_neg (fun c => h1 (h.2 c))]
    by_cases h2 : y < x
    · rw [if_pos h2, if_pos (k.1 h2)]
    · rw [if_neg h2, if_neg (fun c => h2 (k.2 c))]
/-- The lexicographic order. -/
def lexN : List Nat → List Nat → Int
  | [], [] => 0
  | [], _ :: _ => -1
  | _ :: _, [] => 1
  | a :: l, b :: m => if a < b then -1 else if b < a then 1 else lexN l m
theorem lexN_cons (a b : Nat) (l m : List Nat) : lexN (a :: l) (b :: m) = if a < b then -1 else if b < a then 1 else lexN l m := rfl
theorem lex_nat (a b : Nat) : lexN [a] [b] = cmpI a b := by
  rw [lexN_cons]
  unfold cmpI
  by_cases h1 : a < b
  · have h2 : (a : Int) < b := by omega
    rw [if_pos h1, if_pos h2]
  · have h2 : ¬ (a : Int) < b := by omega
    rw [if_neg h1, if_neg h2]
    by_cases h3 : b < a
    · have h4 : (b : Int) < a := by omega
      rw [if_pos h3, if_pos h4]
    · have h4 : ¬ (b : Int) < a := by omega
      rw [if_neg h3, if_neg h4]; rfl
theorem lex_same (k : Nat) (l m : List Nat) : lexN (k :: l) (k :: m) = lexN l m := by
  rw [lexN_cons, if_neg (by omega), if_neg (by omega)]
theorem lex_head {a b : Nat} (l m : List Nat) (h : a ≠ b) : lexN (a :: l) (b :: m) = cmpI a b := by
  rw [lexN_cons]
  unfold cmpI
  by_cases h1 : a < b
  · have h2 : (a : Int) < b := by omega
    rw [if_pos h1, if_pos h2]
  · have h2 : ¬ (a : Int) < b := by omega
    have h3 : b < a := by omega
    have h4 : (b : Int) < a := by omega
    rw [if_neg h1, if_neg h2, if_pos h3, if_pos h4]
theorem lexN_self : ∀ l : List Nat, lexN l l = 0
  | [] => rfl
  | a :: l => by rw [lexN_cons, if_neg (by omega), if_neg (by omega), lexN_self l]
theorem lexN_eq : ∀ {l m : List Nat}, lexN l m = 0 → l = m
  | [], [], _ => rfl
  | [], _ :: _, h => by simp [lexN] at h
  | _ :: _, [], h => by simp [lexN] at h
  | a :: l, b :: m, h => by
    rw [lexN_cons] at h
    by_cases h1 : a < b
    · rw [if_pos h1] at h; omega
    · rw [if_neg h1] at h
      by_cases h2 : b < a
      · rw [if_pos h2] at h; omega
      · rw [if_neg h2] at h
        obtain rfl : a = b := by omega
        rw [lexN_eq h]
theorem lexN_zero {l m : List Nat} : lexN l m = 0 ↔ l = m := ⟨lexN_eq, fun h => h ▸ lexN_self l⟩
theorem lexN_one : ∀ l m : List Nat, lexN l m = -1 ∨ lexN l m = 0 ∨ lexN l m = 1
  | [], [] => .inr (.inl rfl)
  | [], _ :: _ => .inl rfl
  | _ :: _, [] => .inr (.inr rfl)
  | a :: l, b :: m => by
    rw [lexN_cons]
    split
    · exact .inl rfl
    · split
      · exact .inr (.inr rfl)
      · exact lexN_one l m
theorem lexN_swap : ∀ l m : List Nat, lexN m l = - lexN l m
  | [], [] => rfl
  | [], _ :: _ => rfl
  | _ :: _, [] => rfl
  | a :: l, b :: m => by
    rw [lexN_cons, lexN_cons, lexN_swap l m]
    by_cases h1 : a < b
    · rw [if_neg (by omega), if_pos h1, if_pos h1]; rfl
    · by_cases h2 : b < a
      · rw [if_pos h2, if_neg h1, if_pos h2]
      · rw [if_neg h2, if_neg h1, if_neg h1, if_neg h2]
theorem lexN_trans : ∀ {l m n : List Nat}, lexN l m ≤ 0 → lexN m n ≤ 0 → lexN l n ≤ 0
  | [], _, [], _, _ => by simp [lexN]
  | [], _, _ :: _, _, _ => by simp [lexN]
  | _ :: _, [], _, h, _ => by simp [lexN] at h
  | _ :: _, _ :: _, [], _, h => by simp [lexN] at h
  | a :: l, b :: m, c :: n, h, k => by
    rw [lexN_cons] at h k ⊢
    by_cases h1 : a < b
    · by_cases h2 : c < b
      · rw [if_neg (by omega), if_pos h2] at k; omega
      · rw [if_pos (by omega)]; omega
    · rw [if_neg h1] at h
      by_cases h3 : b < a
      · rw [if_pos h3] at h; omega
      · rw [if_neg h3] at h
        obtain rfl : a = b := by omega
        by_cases h4 : a < c
        · rw [if_pos h4]; omega
        · rw [if_neg h4] at k ⊢
          by_cases h5 : c < a
          · rw [if_pos h5] at k; omega
          · rw [if_neg h5] at k ⊢
            exact lexN_trans h k
theorem lexN_lt_trans {l m n : List Nat} (h : lexN l m = -1) (k : lexN m n ≤ 0) : lexN l n = -1 := by
  have h1 := lexN_trans (show lexN l m ≤ 0 by omega) k
  rcases lexN_one l n with h2 | h2 | h2
  · exact h2
  · obtain rfl := lexN_eq h2
    have h3 := lexN_swap l m
    omega
  · omega
/-- Roads that part before either ends, or are one. -/
def Parts2 (a b : List Nat) : Prop := ∀ q r, lexN (a ++ q) (b ++ r) = if lexN a b = 0 then lexN q r else lexN a b
theorem Parts2.nil : Parts2 [] [] := fun q r => by simp [lexN]
theorem Parts2.cons (x y : Nat) {a b : List Nat} (h : x = y → Parts2 a b) : Parts2 (x :: a) (y :: b) := fun q r => by
  rw [List.cons_append, List.cons_append, lexN_cons, lexN_cons]
  by_cases h1 : x < y
  · simp [h1]
  · by_cases h2 : y < x
    · simp [h1, h2]
    · rw [if_neg h1, if_neg h2, if_neg h1, if_neg h2]
      exact h (by omega) q r
theorem Parts2.app {a b c d : List Nat} (h : Parts2 a b) (k : lexN a b = 0 → Parts2 c d) : Parts2 (a ++ c) (b ++ d) := fun q r => by
  rw [List.append_assoc, List.append_assoc, h (c ++ q) (d ++ r), h c d]
  by_cases h0 : lexN a b = 0
  · rw [if_pos h0, if_pos h0, k h0 q r]
  · rw [if_neg h0, if_neg h0, if_neg h0]
/-- A text's road. -/
def ordT (l : List UInt8) : List Nat := l.map (fun b => b.toNat + 1) ++ [0]
theorem parts_text : ∀ l m : List UInt8, Parts2 (ordT l) (ordT m)
  | [], [] => Parts2.cons 0 0 fun _ => Parts2.nil
  | [], b :: m => Parts2.cons 0 (b.toNat + 1) fun h => by omega
  | a :: l, [] => Parts2.cons (a.toNat + 1) 0 fun h => by omega
  | a :: l, b :: m => Parts2.cons (a.toNat + 1) (b.toNat + 1) fun _ => parts_text l m
mutual
/-- A value's road. -/
def ordV : Val → List Nat
  | .nil => [1]
  | .bool b => [2, bif b then 1 else 0]
  | .int n => [3, (n + 9223372036854775808).toNat]
  | .float b => [4, placeN b]
  | .text s => 5 :: ordT s.data.toList
  | .bytes l => 6 :: ordT l
  | .ref n => [7, n.toNat]
  | .list l => 8 :: ordVs l
  | .dict d => 9 :: ordDs d
  | .record c n d => 10 :: (ordT c.data.toList ++ (n.toNat :: ordDs d))
  | .nothing => [11]
  | .alien _ => [12]
def ordVs : List Val → List Nat
  | [] => [0]
  | v :: l => 1 :: (ordV v ++ ordVs l)
def ordDs : List (ByteArray × Val) → List Nat
  | [] => [0]
  | p :: d => 1 :: (ordD p ++ ordDs d)
def ordD : ByteArray × Val → List Nat
  | (s, v) => ordT s.data.toList ++ ordV v
end
/-- The order of values. -/
def cmpV (v u : Val) : Int := lexN (ordV v) (ordV u)
theorem parts_vs : ∀ (l : List Val), (∀ u ∈ l, ∀ x, Parts2 (ordV u) (ordV x)) → ∀ m, Parts2 (ordVs l) (ordVs m)
  | [], _, [] => by rw [ordVs]; exact Parts2.cons 0 0 fun _ => Parts2.nil
  | [], _, y :: m => by rw [ordVs, ordVs]; exact Parts2.cons 0 1 fun h => absurd h (by decide)
  | x :: l, _, [] => by rw [ordVs, ordVs]; exact Parts2.cons 1 0 fun h => absurd h (by decide)
  | x :: l, ih, y :: m => by
    rw [ordVs, ordVs]
    exact Parts2.cons 1 1 fun _ => Parts2.app (ih x (by simp) y) fun _ => parts_vs l (fun u hu => ih u (by simp [hu])) m
theorem parts_ds : ∀ (d : List (ByteArray × Val)), (∀ u ∈ d.map (·.2), ∀ x, Parts2 (ordV u) (ordV x)) → ∀ m, Parts2 (ordDs d) (ordDs m)
  | [], _, [] => by rw [ordDs]; exact Parts2.cons 0 0 fun _ => Parts2.nil
  | [], _, y :: m => by rw [ordDs, ordDs]; exact Parts2.cons 0 1 fun h => absurd h (by decide)
  | x :: l, _, [] => by rw [ordDs, ordDs]; exact Parts2.cons 1 0 fun h => absurd h (by decide)
  | (s, v) :: l, ih, (t, y) :: m => by
    rw [ordDs, ordDs, ordD, ordD]
    exact Parts2.cons 1 1 fun _ => Parts2.app (Parts2.app (parts_text _ _) fun _ => ih v (by simp) y) fun _ => parts_ds l (fun u hu => ih u (by simp only [List.map_cons, List.mem_cons]; exact .inr hu)) m
theorem parts_val : ∀ v u : Val, Parts2 (ordV v) (ordV u) := val_ind fun v ih u => by
  cases v <;> cases u <;> simp only [ordV] <;> first
    | exact Parts2.cons _ _ fun h => absurd h (by decide)
    | exact Parts2.cons _ _ fun _ => Parts2.nil
    | exact Parts2.cons _ _ fun _ => Parts2.cons _ _ fun _ => Parts2.nil
    | exact Parts2.cons _ _ fun _ => parts_text _ _
    | exact Parts2.cons _ _ fun _ => parts_vs _ (fun u hu => ih u hu) _
    | exact Parts2.cons _ _ fun _ => parts_ds _ (fun u hu => ih u hu) _
    | exact Parts2.cons _ _ fun _ => Parts2.app (parts_text _ _) fun _ => Parts2.cons _ _ fun _ => parts_ds _ (fun u hu => ih u hu) _
theorem cmpV_self (v : Val) : cmpV v v = 0 := lexN_self _
theorem cmpV_one (v u : Val) : cmpV v u = -1 ∨ cmpV v u = 0 ∨ cmpV v u = 1 := lexN_one _ _
theorem cmpV_swap (v u : Val) : cmpV u v = - cmpV v u := lexN_swap _ _
theorem cmpV_trans {v u z : Val} (h : cmpV v u ≤ 0) (k : cmpV u z ≤ 0) : cmpV v z ≤ 0 := lexN_trans h k
theorem cmpV_lt {v u z : Val} (h : cmpV v u = -1) (k : cmpV u z ≤ 0) : cmpV v z = -1 := lexN_lt_trans h k
/-- Two lists, element by element. -/
theorem lex_vs (x y : Val) (l m : List Val) : lexN (ordVs (x :: l)) (ordVs (y :: m)) = if cmpV x y = 0 then lexN (ordVs l) (ordVs m) else cmpV x y := by
  rw [ordVs, ordVs, lexN_cons, if_neg (by omega), if_neg (by omega)]
  exact parts_val x y (ordVs l) (ordVs m)
theorem lex_ds (s t : ByteArray) (v u : Val) (l m : List (ByteArray × Val)) : lexN (ordDs ((s, v) :: l)) (ordDs ((t, u) :: m)) = if lexN (ordT s.data.toList) (ordT t.data.toList) = 0 then (if cmpV v u = 0 then lexN (ordDs l) (ordDs m) else cmpV v u) else lexN (ordT s.data.toList) (ordT t.data.toList) := by
  rw [ordDs, ordDs, lexN_cons, if_neg (by omega), if_neg (by omega), ordD, ordD, List.append_assoc, List.append_assoc, parts_text, parts_val]
  rfl
theorem ord_head {v : Val} (h : okV v) : ∃ l, ordV v = (kindV v).toNat :: l := by
  cases v <;> first | exact h.elim | (simp only [ordV]; exact ⟨_, rfl⟩)
theorem cmpV_kinds {v u : Val} (h : okV v) (k : okV u) (hne : kindV v ≠ kindV u) (h0 : 0 ≤ kindV v) (k0 : 0 ≤ kindV u) : cmpV v u = cmpI (kindV v) (kindV u) := by
  obtain ⟨l, hl⟩ := ord_head h
  obtain ⟨m, hm⟩ := ord_head k
  unfold cmpV
  rw [hl, hm, lex_head _ _ (by omega)]
  exact cmpI_congr (by omega) (by omega)
theorem cmpV_bool (b c : Bool) : cmpV (.bool b) (.bool c) = cmpI (bif b then 1 else 0) (bif c then 1 else 0) := by
  cases b <;> cases c <;> simp [cmpV, ordV, lexN, cmpI]
theorem cmpV_int {n m : Int} (h : -9223372036854775808 ≤ n) (k : -9223372036854775808 ≤ m) : cmpV (.int n) (.int m) = cmpI n m := by
  simp only [cmpV, ordV]
  rw [lex_same, lex_nat]
  exact cmpI_congr (by omega) (by omega)
theorem cmpV_float (x y : Nat) : cmpV (.float x) (.float y) = cmpI (placeN x) (placeN y) := by
  simp only [cmpV, ordV]
  rw [lex_same, lex_nat]
theorem cmpV_ref {n m : Int} (h : 0 ≤ n) (k : 0 ≤ m) : cmpV (.ref n) (.ref m) = cmpI n m := by
  simp only [cmpV, ordV]
  rw [lex_same, lex_nat]
  exact cmpI_congr (by omega) (by omega)
theorem cmpV_text (s t : ByteArray) : cmpV (.text s) (.text t) = lexN (ordT s.data.toList) (ordT t.data.toList) := by
  simp only [cmpV, ordV]
  rw [lex_same]
theorem cmpV_bytes (s t : List UInt8) : cmpV (.bytes s) (.bytes t) = lexN (ordT s) (ordT t) := by
  simp only [cmpV, ordV]
  rw [lex_same]
theorem cmpV_list (l m : List Val) : cmpV (.list l) (.list m) = lexN (ordVs l) (ordVs m) := by
  simp only [cmpV, ordV]
  rw [lex_same]
theorem cmpV_dict (l m : List (ByteArray × Val)) : cmpV (.dict l) (.dict m) = lexN (ordDs l) (ordDs m) := by
  simp only [cmpV, ordV]
  rw [lex_same]
theorem cmpV_record (c c' : ByteArray) {n n' : Int} (h : 0 ≤ n) (h' : 0 ≤ n') (l m : List (ByteArray × Val)) : cmpV (.record c n l) (.record c' n' m) =
    if lexN (ordT c.data.toList) (ordT c'.data.toList) = 0 then (if n = n' then lexN (ordDs l) (ordDs m) else cmpI n n') else lexN (ordT c.data.toList) (ordT c'.data.toList) := by
  simp only [cmpV, ordV]
  rw [lex_same, parts_text]
  by_cases hn : n = n'
  · subst hn
    rw [if_pos rfl, lex_same]
  · rw [if_neg hn, lex_head _ _ (by omega), cmpI_congr (a := n) (b := n') (by omega) (by omega)]
theorem vs_end {l m : List Val} {k : Nat} (h : k = l.length ∨ k = m.length) (hl : k ≤ l.length) (hm : k ≤ m.length) : lexN (ordVs (l.drop k)) (ordVs (m.drop k)) = cmpI l.length m.length := by
  rcases Nat.lt_trichotomy l.length m.length with c | c | c
  · obtain rfl : k = l.length := by omega
    rw [List.drop_length, List.drop_eq_getElem_cons c, ordVs, ordVs]
    unfold cmpI
    rw [if_pos (by omega)]
    rfl
  · rw [List.drop_eq_nil_of_le (by omega), List.drop_eq_nil_of_le (by omega), lexN_self]
    unfold cmpI
    rw [if_neg (by omega), if_neg (by omega)]
  · obtain rfl : k = m.length := by omega
    rw [List.drop_length, List.drop_eq_getElem_cons c, ordVs, ordVs]
    unfold cmpI
    rw [if_neg (by omega), if_pos (by omega)]
    rfl
theorem ds_end {l m : List (ByteArray × Val)} {k : Nat} (h : k = l.length ∨ k = m.length) (hl : k ≤ l.length) (hm : k ≤ m.length) : lexN (ordDs (l.drop k)) (ordDs (m.drop k)) = cmpI l.length m.length := by
  rcases Nat.lt_trichotomy l.length m.length with c | c | c
  · obtain rfl : k = l.length := by omega
    rw [List.drop_length, List.drop_eq_getElem_cons c, ordDs, ordDs]
    unfold cmpI
    rw [if_pos (by omega)]
    rfl
  · rw [List.drop_eq_nil_of_le (by omega), List.drop_eq_nil_of_le (by omega), lexN_self]
    unfold cmpI
    rw [if_neg (by omega), if_neg (by omega)]
  · obtain rfl : k = m.length := by omega
    rw [List.drop_length, List.drop_eq_getElem_cons c, ordDs, ordDs]
    unfold cmpI
    rw [if_neg (by omega), if_pos (by omega)]
    rfl
theorem vs_step {l m : List Val} {k : Nat} {x y : Val} (h : l[k]? = some x) (h' : m[k]? = some y) : lexN (ordVs (l.drop k)) (ordVs (m.drop k)) = if cmpV x y = 0 then lexN (ordVs (l.drop (k + 1))) (ordVs (m.drop (k + 1))) else cmpV x y := by
  obtain ⟨hk, rfl⟩ := List.getElem?_eq_some_iff.1 h
  obtain ⟨hk', rfl⟩ := List.getElem?_eq_some_iff.1 h'
  rw [List.drop_eq_getElem_cons hk, List.drop_eq_getElem_cons hk', lex_vs]
theorem ds_step {l m : List (ByteArray × Val)} {k : Nat} {s t : ByteArray} {x y : Val} (h : l[k]? = some (s, x)) (h' : m[k]? = some (t, y)) : lexN (ordDs (l.drop k)) (ordDs (m.drop k)) =
    if lexN (ordT s.data.toList) (ordT t.data.toList) = 0 then (if cmpV x y = 0 then lexN (ordDs (l.drop (k + 1))) (ordDs (m.drop (k + 1))) else cmpV x y) else lexN (ordT s.data.toList) (ordT t.data.toList) := by
  obtain ⟨hk, e⟩ := List.getElem?_eq_some_iff.1 h
  obtain ⟨hk', e'⟩ := List.getElem?_eq_some_iff.1 h'
  rw [List.drop_eq_getElem_cons hk, List.drop_eq_getElem_cons hk', e, e', lex_ds]
end Go.Proofs.Ytgmdbpplfjkjmaa

/-! tenonref01's numbers and texts: what they answer, whole. -/
namespace Go.Proofs.Ytgmdbpplfjkjmaa
open Go.RowKit
set_option linter.unusedVariables false
set_option linter.unusedSimpArgs false

theorem numbers_said (x y : Int) (w : World) : Calls Try.prog 141 #[.int .u64 x, .int .u64 y] w fun e w' => e = .returned (.int .i64 (cmpI x y)) ∧ w = w' := by
  unfold cmpI
  by_cases h1 : x < y
  · rw [if_pos h1]
    go_enter Try.func141, Try.ntmps141
    go_wp2
    go_ret
    exact ⟨rfl, rfl⟩
  · rw [if_neg h1]
    by_cases h2 : y < x
    · rw [if_pos h2]
      go_enter Try.func141, Try.ntmps141
      go_wp2
      go_ret
      exact ⟨rfl, rfl⟩
    · rw [if_neg h2]
      go_enter Try.func141, Try.ntmps141
      go_wp2
      go_ret
      exact ⟨rfl, rfl⟩
theorem lex_text : ∀ l m : List UInt8, lexN (ordT l) (ordT m) = if Op.bytesLess l m = true then -1 else if Op.bytesLess m l = true then 1 else 0
  | [], [] => by simp [ordT, lexN, Op.bytesLess]
  | [], b :: m => by simp [ordT, lexN, Op.bytesLess]
  | a :: l, [] => by simp [ordT, lexN, Op.bytesLess]
  | a :: l, b :: m => by
    have h1 : lexN (ordT (a :: l)) (ordT (b :: m)) = if a.toNat + 1 < b.toNat + 1 then -1 else if b.toNat + 1 < a.toNat + 1 then 1 else lexN (ordT l) (ordT m) := rfl
    rw [h1, lex_text l m, Op.bytesLess, Op.bytesLess]
    by_cases h2 : a < b
    · have h3 : a.toNat < b.toNat := UInt8.lt_iff_toNat_lt.1 h2
      rw [if_pos (by omega)]
      simp [h2]
    · have h3 : ¬ a.toNat < b.toNat := fun h => h2 (UInt8.lt_iff_toNat_lt.2 h)
      rw [if_neg (by omega)]
      by_cases h4 : b < a
      · have h5 : b.toNat < a.toNat := UInt8.lt_iff_toNat_lt.1 h4
        have h6 : ¬ a = b := fun e => by subst e; omega
        rw [if_pos (by omega)]
        simp [h2, h4, h6]
      · have h5 : ¬ b.toNat < a.toNat := fun h => h4 (UInt8.lt_iff_toNat_lt.2 h)
        obtain rfl : a = b := UInt8.toNat_inj.1 (by omega)
        rw [if_neg (by omega)]
        simp [h2]
theorem less_total : ∀ l m : List UInt8, Op.bytesLess l m = false → Op.bytesLess m l = false → l = m
  | [], [], _, _ => rfl
  | [], _ :: _, h, _ => by simp [Op.bytesLess] at h
  | _ :: _, [], _, h => by simp [Op.bytesLess] at h
  | a :: l, b :: m, h, k => by
    simp only [Op.bytesLess, Bool.or_eq_false_iff, decide_eq_false_iff_not] at h k
    have h1 : ¬ a.toNat < b.toNat := fun e => h.1 (UInt8.lt_iff_toNat_lt.2 e)
    have h2 : ¬ b.toNat < a.toNat := fun e => k.1 (UInt8.lt_iff_toNat_lt.2 e)
    obtain rfl : a = b := UInt8.toNat_inj.1 (by omega)
    rw [less_total l m (by simpa using h.2) (by simpa using k.2)]
set_option maxRecDepth 100000 in
theorem texts_is (s q : ByteArray) (w : World) : Calls Try.prog 144 #[.string s, .string q] w fun e w' => e = .returned (.int .i64 (lexN (ordT s.data.toList) (ordT q.data.toList))) ∧ w = w' := by
  rw [lex_text, ← toList_data, ← toList_data]
  obtain ⟨c, hc⟩ : ∃ c : Int, c = (if Op.bytesLess s.toList q.toList = true then -1 else if Op.bytesLess q.toList s.toList = true then 1 else 0) := ⟨_, rfl⟩
  rw [← hc]
  have hcH := Lib.hid hc
  clear hc
  go_enter Try.func144, Try.ntmps144
  go_wp2
  all_goals go_ret
  all_goals refine ⟨?_, rfl⟩
  all_goals rw [hcH.out]
  all_goals first
    | (simp_all; done)
    | (have hx : Op.bytesLess q.toList s.toList = true := Decidable.byContradiction fun hx => by
         have e := less_total s.toList q.toList (by simp_all) (by simpa using hx)
         simp_all
       simp_all; done)
end Go.Proofs.Ytgmdbpplfjkjmaa
