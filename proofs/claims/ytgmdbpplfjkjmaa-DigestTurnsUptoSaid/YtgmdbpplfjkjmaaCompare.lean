/- The order of values, in plain: a value's road in numbers, and the lexicographic order of roads. -/
import Derived.Test.YtgmdbpplfjkjmaaDigEnc
namespace Go.Proofs.Ytgmdbpplfjkjmaa
open Go.RowKit
set_option linter.unusedVariables false
set_option linter.unusedSimpArgs false

/-- place. -/
def placeN (x : Nat) : Nat := if 9223372036854775808 ≤ x then 18446744073709551615 - x else x + 9223372036854775808
theorem placeN_inj {x y : Nat} (hx : x < 18446744073709551616) (hy : y < 18446744073709551616) : (placeN x : Int) = (placeN y : Int) ↔ x = y := by
  unfold placeN
  constructor
  · intro h; split at h <;> split at h <;> omega
  · rintro rfl; rfl
theorem toList_inj {s q : ByteArray} (h : s.toList = q.toList) : s = q := by
  rw [toList_data, toList_data] at h
  exact ByteArray.ext (Array.ext' h)
theorem less_irrefl : ∀ l : List UInt8, Op.bytesLess l l = false
  | [] => rfl
  | a :: l => by rw [Op.bytesLess, less_irrefl l]; simp
/-- The order of numbers. -/
def cmpI (x y : Int) : Int := if x < y then -1 else if y < x then 1 else 0
theorem cmpI_congr {x y a b : Int} (h : x < y ↔ a < b) (k : y < x ↔ b < a) : cmpI x y = cmpI a b := by
  unfold cmpI
  by_cases h1 : x < y
  · rw [if_pos h1, if_pos (h.1 h1)]
  · rw [if_neg h1, if_neg (fun c => h1 (h.2 c))]
    by_cases h2 : y < x
    · rw [if_pos h2, if_pos (k.1 h2)]
    · rw [if_neg h2, if_neg (fun c => h2 (k.2 c))]
/-- The lexicographic order. -/
def lexN : List Nat → List Nat → Int
  | [], [] => 0
  | [], _ :: _ => -1
  | _ :: _, [] => 1
  | a :: l, b :: m => if a < b then -1 else if b < a then 1 else lexN l m
theorem lexN_cons (a b : Nat) (l m : List Nat) : lexN (a :: l) (b :: m) = if a < b then -1 else if b < a then 1 else lexN l m := rfl
theorem lex_nat (a b : Nat) : lexN [a] [b] = cmpI a b := by
  rw [lexN_cons]
  unfold cmpI
  by_cases h1 : a < b
  · have h2 : (a : Int) < b := by omega
    rw [if_pos h1, if_pos h2]
  · have h2 : ¬ (a : Int) < b := by omega
    rw [if_neg h1, if_neg h2]
    by_cases h3 : b < a
    · have h4 : (b : Int) < a := by omega
      rw [if_pos h3, if_pos h4]
    · have h4 : ¬ (b : Int) < a := by omega
      rw [if_neg h3, if_neg h4]; rfl
theorem lex_same (k : Nat) (l m : List Nat) : lexN (k :: l) (k :: m) = lexN l m := by
  rw [lexN_cons, if_neg (by omega), if_neg (by omega)]
theorem lex_head {a b : Nat} (l m : List Nat) (h : a ≠ b) : lexN (a :: l) (b :: m) = cmpI a b := by
  rw [lexN_cons]
  unfold cmpI
  by_cases h1 : a < b
  · have h2 : (a : Int) < b := by omega
    rw [if_pos h1, if_pos h2]
  · have h2 : ¬ (a : Int) < b := by omega
    have h3 : b < a := by omega
    have h4 : (b : Int) < a := by omega
    rw [if_neg h1, if_neg h2, if_pos h3, if_pos h4]
theorem lexN_self : ∀ l : List Nat, lexN l l = 0
  | [] => rfl
  | a :: l => by rw [lexN_cons, if_neg (by omega), if_neg (by omega), lexN_self l]
theorem lexN_eq : ∀ {l m : List Nat}, lexN l m = 0 → l = m
  | [], [], _ => rfl
  | [], _ :: _, h => by simp [lexN] at h
  | _ :: _, [], h => by simp [lexN] at h
  | a :: l, b :: m, h => by
    rw [lexN_cons] at h
    by_cases h1 : a < b
    · rw [if_pos h1] at h; omega
    · rw [if_neg h1] at h
      by_cases h2 : b < a
      · rw [if_pos h2] at h; omega
      · rw [if_neg h2] at h
        obtain rfl : a = b := by omega
        rw [lexN_eq h]
theorem lexN_zero {l m : List Nat} : lexN l m = 0 ↔ l = m := ⟨lexN_eq, fun h => h ▸ lexN_self l⟩
theorem lexN_one : ∀ l m : List Nat, lexN l m = -1 ∨ lexN l m = 0 ∨ lexN l m = 1
  | [], [] => .inr (.inl rfl)
  | [], _ :: _ => .inl rfl
  | _ :: _, [] => .inr (.inr rfl)
  | a :: l, b :: m => by
    rw [lexN_cons]
    split
    · exact .inl rfl
    · split
      · exact .inr (.inr rfl)
      · exact lexN_one l m
theorem lexN_swap : ∀ l m : List Nat, lexN m l = - lexN l m
  | [], [] => rfl
  | [], _ :: _ => rfl
  | _ :: _, [] => rfl
  | a :: l, b :: m => by
    rw [lexN_cons, lexN_cons, lexN_swap l m]
    by_cases h1 : a < b
    · rw [if_neg (by omega), if_pos h1, if_pos h1]; rfl
    · by_cases h2 : b < a
      · rw [if_pos h2, if_neg h1, if_pos h2]
      · rw [if_neg h2, if_neg h1, if_neg h1, if_neg h2]
theorem lexN_trans : ∀ {l m n : List Nat}, lexN l m ≤ 0 → lexN m n ≤ 0 → lexN l n ≤ 0
  | [], _, [], _, _ => by simp [lexN]
  | [], _, _ :: _, _, _ => by simp [lexN]
  | _ :: _, [], _, h, _ => by simp [lexN] at h
  | _ :: _, _ :: _, [], _, h => by simp [lexN] at h
  | a :: l, b :: m, c :: n, h, k => by
    rw [lexN_cons] at h k ⊢
    by_cases h1 : a < b
    · by_cases h2 : c < b
      · rw [if_neg (by omega), if_pos h2] at k; omega
      · rw [if_pos (by omega)]; omega
    · rw [if_neg h1] at h
      by_cases h3 : b < a
      · rw [if_pos h3] at h; omega
      · rw [if_neg h3] at h
        obtain rfl : a = b := by omega
        by_cases h4 : a < c
        · rw [if_pos h4]; omega
        · rw [if_neg h4] at k ⊢
          by_cases h5 : c < a
          · rw [if_pos h5] at k; omega
          · rw [if_neg h5] at k ⊢
            exact lexN_trans h k
theorem lexN_lt_trans {l m n : List Nat} (h : lexN l m = -1) (k : lexN m n ≤ 0) : lexN l n = -1 := by
  have h1 := lexN_trans (show lexN l m ≤ 0 by omega) k
  rcases lexN_one l n with h2 | h2 | h2
  · exact h2
  · obtain rfl := lexN_eq h2
    have h3 := lexN_swap l m
    omega
  · omega
/-- Roads that part before either ends, or are one. -/
def Parts2 (a b : List Nat) : Prop := ∀ q r, lexN (a ++ q) (b ++ r) = if lexN a b = 0 then lexN q r else lexN a b
theorem Parts2.nil : Parts2 [] [] := fun q r => by simp [lexN]
theorem Parts2.cons (x y : Nat) {a b : List Nat} (h : x = y → Parts2 a b) : Parts2 (x :: a) (y :: b) := fun q r => by
  rw [List.cons_append, List.cons_append, lexN_cons, lexN_cons]
  by_cases h1 : x < y
  · simp [h1]
  · by_cases h2 : y < x
    · simp [h1, h2]
    · rw [if_neg h1, if_neg h2, if_neg h1, if_neg h2]
      exact h (by omega) q r
theorem Parts2.app {a b c d : List Nat} (h : Parts2 a b) (k : lexN a b = 0 → Parts2 c d) : Parts2 (a ++ c) (b ++ d) := fun q r => by
  rw [List.append_assoc, List.append_assoc, h (c ++ q) (d ++ r), h c d]
  by_cases h0 : lexN a b = 0
  · rw [if_pos h0, if_pos h0, k h0 q r]
  · rw [if_neg h0, if_neg h0, if_neg h0]
/-- A text's road. -/
def ordT (l : List UInt8) : List Nat := l.map (fun b => b.toNat + 1) ++ [0]
theorem parts_text : ∀ l m : List UInt8, Parts2 (ordT l) (ordT m)
  | [], [] => Parts2.cons 0 0 fun _ => Parts2.nil
  | [], b :: m => Parts2.cons 0 (b.toNat + 1) fun h => by omega
  | a :: l, [] => Parts2.cons (a.toNat + 1) 0 fun h => by omega
  | a :: l, b :: m => Parts2.cons (a.toNat + 1) (b.toNat + 1) fun _ => parts_text l m
mutual
/-- A value's road. -/
def ordV : Val → List Nat
  | .nil => [1]
  | .bool b => [2, bif b then 1 else 0]
  | .int n => [3, (n + 9223372036854775808).toNat]
  | .float b => [4, placeN b]
  | .text s => 5 :: ordT s.data.toList
  | .bytes l => 6 :: ordT l
  | .ref n => [7, n.toNat]
  | .list l => 8 :: ordVs l
  | .dict d => 9 :: ordDs d
  | .record c n d => 10 :: (ordT c.data.toList ++ (n.toNat :: ordDs d))
  | .nothing => [11]
  | .alien _ => [12]
def ordVs : List Val → List Nat
  | [] => [0]
  | v :: l => 1 :: (ordV v ++ ordVs l)
def ordDs : List (ByteArray × Val) → List Nat
  | [] => [0]
  | p :: d => 1 :: (ordD p ++ ordDs d)
def ordD : ByteArray × Val → List Nat
  | (s, v) => ordT s.data.toList ++ ordV v
end
/-- The order of values. -/
def cmpV (v u : Val) : Int := lexN (ordV v) (ordV u)
theorem parts_vs : ∀ (l : List Val), (∀ u ∈ l, ∀ x, Parts2 (ordV u) (ordV x)) → ∀ m, Parts2 (ordVs l) (ordVs m)
  | [], _, [] => by rw [ordVs]; exact Parts2.cons 0 0 fun _ => Parts2.nil
  | [], _, y :: m => by rw [ordVs, ordVs]; exact Parts2.cons 0 1 fun h => absurd h (by decide)
  | x :: l, _, [] => by rw [ordVs, ordVs]; exact Parts2.cons 1 0 fun h => absurd h (by decide)
  | x :: l, ih, y :: m => by
    rw [ordVs, ordVs]
    exact Parts2.cons 1 1 fun _ => Parts2.app (ih x (by simp) y) fun _ => parts_vs l (fun u hu => ih u (by simp [hu])) m
theorem parts_ds : ∀ (d : List (ByteArray × Val)), (∀ u ∈ d.map (·.2), ∀ x, Parts2 (ordV u) (ordV x)) → ∀ m, Parts2 (ordDs d) (ordDs m)
  | [], _, [] => by rw [ordDs]; exact Parts2.cons 0 0 fun _ => Parts2.nil
  | [], _, y :: m => by rw [ordDs, ordDs]; exact Parts2.cons 0 1 fun h => absurd h (by decide)
  | x :: l, _, [] => by rw [ordDs, ordDs]; exact Parts2.cons 1 0 fun h => absurd h (by decide)
  | (s, v) :: l, ih, (t, y) :: m => by
    rw [ordDs, ordDs, ordD, ordD]
    exact Parts2.cons 1 1 fun _ => Parts2.app (Parts2.app (parts_text _ _) fun _ => ih v (by simp) y) fun _ => parts_ds l (fun u hu => ih u (by simp only [List.map_cons, List.mem_cons]; exact .inr hu)) m
theorem parts_val : ∀ v u : Val, Parts2 (ordV v) (ordV u) := val_ind fun v ih u => by
  cases v <;> cases u <;> simp only [ordV] <;> first
    | exact Parts2.cons _ _ fun h => absurd h (by decide)
    | exact Parts2.cons _ _ fun _ => Parts2.nil
    | exact Parts2.cons _ _ fun _ => Parts2.cons _ _ fun _ => Parts2.nil
    | exact Parts2.cons _ _ fun _ => parts_text _ _
    | exact Parts2.cons _ _ fun _ => parts_vs _ (fun u hu => ih u hu) _
    | exact Parts2.cons _ _ fun _ => parts_ds _ (fun u hu => ih u hu) _
    | exact Parts2.cons _ _ fun _ => Parts2.app (parts_text _ _) fun _ => Parts2.cons _ _ fun _ => parts_ds _ (fun u hu => ih u hu) _
theorem cmpV_self (v : Val) : cmpV v v = 0 := lexN_self _
theorem cmpV_one (v u : Val) : cmpV v u = -1 ∨ cmpV v u = 0 ∨ cmpV v u = 1 := lexN_one _ _
theorem cmpV_swap (v u : Val) : cmpV u v = - cmpV v u := lexN_swap _ _
theorem cmpV_trans {v u z : Val} (h : cmpV v u ≤ 0) (k : cmpV u z ≤ 0) : cmpV v z ≤ 0 := lexN_trans h k
theorem cmpV_lt {v u z : Val} (h : cmpV v u = -1) (k : cmpV u z ≤ 0) : cmpV v z = -1 := lexN_lt_trans h k
/-- Two lists, element by element. -/
theorem lex_vs (x y : Val) (l m : List Val) : lexN (ordVs (x :: l)) (ordVs (y :: m)) = if cmpV x y = 0 then lexN (ordVs l) (ordVs m) else cmpV x y := by
  rw [ordVs, ordVs, lexN_cons, if_neg (by omega), if_neg (by omega)]
  exact parts_val x y (ordVs l) (ordVs m)
theorem lex_ds (s t : ByteArray) (v u : Val) (l m : List (ByteArray × Val)) : lexN (ordDs ((s, v) :: l)) (ordDs ((t, u) :: m)) = if lexN (ordT s.data.toList) (ordT t.data.toList) = 0 then (if cmpV v u = 0 then lexN (ordDs l) (ordDs m) else cmpV v u) else lexN (ordT s.data.toList) (ordT t.data.toList) := by
  rw [ordDs, ordDs, lexN_cons, if_neg (by omega), if_neg (by omega), ordD, ordD, List.append_assoc, List.append_assoc, parts_text, parts_val]
  rfl
theorem ord_head {v : Val} (h : okV v) : ∃ l, ordV v = (kindV v).toNat :: l := by
  cases v <;> first | exact h.elim | (simp only [ordV]; exact ⟨_, rfl⟩)
theorem cmpV_kinds {v u : Val} (h : okV v) (k : okV u) (hne : kindV v ≠ kindV u) (h0 : 0 ≤ kindV v) (k0 : 0 ≤ kindV u) : cmpV v u = cmpI (kindV v) (kindV u) := by
  obtain ⟨l, hl⟩ := ord_head h
  obtain ⟨m, hm⟩ := ord_head k
  unfold cmpV
  rw [hl, hm, lex_head _ _ (by omega)]
  exact cmpI_congr (by omega) (by omega)
theorem cmpV_bool (b c : Bool) : cmpV (.bool b) (.bool c) = cmpI (bif b then 1 else 0) (bif c then 1 else 0) := by
  cases b <;> cases c <;> simp [cmpV, ordV, lexN, cmpI]
theorem cmpV_int {n m : Int} (h : -9223372036854775808 ≤ n) (k : -9223372036854775808 ≤ m) : cmpV (.int n) (.int m) = cmpI n m := by
  simp only [cmpV, ordV]
  rw [lex_same, lex_nat]
  exact cmpI_congr (by omega) (by omega)
theorem cmpV_float (x y : Nat) : cmpV (.float x) (.float y) = cmpI (placeN x) (placeN y) := by
  simp only [cmpV, ordV]
  rw [lex_same, lex_nat]
theorem cmpV_ref {n m : Int} (h : 0 ≤ n) (k : 0 ≤ m) : cmpV (.ref n) (.ref m) = cmpI n m := by
  simp only [cmpV, ordV]
  rw [lex_same, lex_nat]
  exact cmpI_congr (by omega) (by omega)
theorem cmpV_text (s t : ByteArray) : cmpV (.text s) (.text t) = lexN (ordT s.data.toList) (ordT t.data.toList) := by
  simp only [cmpV, ordV]
  rw [lex_same]
theorem cmpV_bytes (s t : List UInt8) : cmpV (.bytes s) (.bytes t) = lexN (ordT s) (ordT t) := by
  simp only [cmpV, ordV]
  rw [lex_same]
theorem cmpV_list (l m : List Val) : cmpV (.list l) (.list m) = lexN (ordVs l) (ordVs m) := by
  simp only [cmpV, ordV]
  rw [lex_same]
theorem cmpV_dict (l m : List (ByteArray × Val)) : cmpV (.dict l) (.dict m) = lexN (ordDs l) (ordDs m) := by
  simp only [cmpV, ordV]
  rw [lex_same]
theorem cmpV_record (c c' : ByteArray) {n n' : Int} (h : 0 ≤ n) (h' : 0 ≤ n') (l m : List (ByteArray × Val)) : cmpV (.record c n l) (.record c' n' m) =
    if lexN (ordT c.data.toList) (ordT c'.data.toList) = 0 then (if n = n' then lexN (ordDs l) (ordDs m) else cmpI n n') else lexN (ordT c.data.toList) (ordT c'.data.toList) := by
  simp only [cmpV, ordV]
  rw [lex_same, parts_text]
  by_cases hn : n = n'
  · subst hn
    rw [if_pos rfl, lex_same]
  · rw [if_neg hn, lex_head _ _ (by omega), cmpI_congr (a := n) (b := n') (by omega) (by omega)]
theorem vs_end {l m : List Val} {k : Nat} (h : k = l.length ∨ k = m.length) (hl : k ≤ l.length) (hm : k ≤ m.length) : lexN (ordVs (l.drop k)) (ordVs (m.drop k)) = cmpI l.length m.length := by
  rcases Nat.lt_trichotomy l.length m.length with c | c | c
  · obtain rfl : k = l.length := by omega
    rw [List.drop_length, List.drop_eq_getElem_cons c, ordVs, ordVs]
    unfold cmpI
    rw [if_pos (by omega)]
    rfl
  · rw [List.drop_eq_nil_of_le (by omega), List.drop_eq_nil_of_le (by omega), lexN_self]
    unfold cmpI
    rw [if_neg (by omega), if_neg (by omega)]
  · obtain rfl : k = m.length := by omega
    rw [List.drop_length, List.drop_eq_getElem_cons c, ordVs, ordVs]
    unfold cmpI
    rw [if_neg (by omega), if_pos (by omega)]
    rfl
theorem ds_end {l m : List (ByteArray × Val)} {k : Nat} (h : k = l.length ∨ k = m.length) (hl : k ≤ l.length) (hm : k ≤ m.length) : lexN (ordDs (l.drop k)) (ordDs (m.drop k)) = cmpI l.length m.length := by
  rcases Nat.lt_trichotomy l.length m.length with c | c | c
  · obtain rfl : k = l.length := by omega
    rw [List.drop_length, List.drop_eq_getElem_cons c, ordDs, ordDs]
    unfold cmpI
    rw [if_pos (by omega)]
    rfl
  · rw [List.drop_eq_nil_of_le (by omega), List.drop_eq_nil_of_le (by omega), lexN_self]
    unfold cmpI
    rw [if_neg (by omega), if_neg (by omega)]
  · obtain rfl : k = m.length := by omega
    rw [List.drop_length, List.drop_eq_getElem_cons c, ordDs, ordDs]
    unfold cmpI
    rw [if_neg (by omega), if_pos (by omega)]
    rfl
theorem vs_step {l m : List Val} {k : Nat} {x y : Val} (h : l[k]? = some x) (h' : m[k]? = some y) : lexN (ordVs (l.drop k)) (ordVs (m.drop k)) = if cmpV x y = 0 then lexN (ordVs (l.drop (k + 1))) (ordVs (m.drop (k + 1))) else cmpV x y := by
  obtain ⟨hk, rfl⟩ := List.getElem?_eq_some_iff.1 h
  obtain ⟨hk', rfl⟩ := List.getElem?_eq_some_iff.1 h'
  rw [List.drop_eq_getElem_cons hk, List.drop_eq_getElem_cons hk', lex_vs]
theorem ds_step {l m : List (ByteArray × Val)} {k : Nat} {s t : ByteArray} {x y : Val} (h : l[k]? = some (s, x)) (h' : m[k]? = some (t, y)) : lexN (ordDs (l.drop k)) (ordDs (m.drop k)) =
    if lexN (ordT s.data.toList) (ordT t.data.toList) = 0 then (if cmpV x y = 0 then lexN (ordDs (l.drop (k + 1))) (ordDs (m.drop (k + 1))) else cmpV x y) else lexN (ordT s.data.toList) (ordT t.data.toList) := by
  obtain ⟨hk, e⟩ := List.getElem?_eq_some_iff.1 h
  obtain ⟨hk', e'⟩ := List.getElem?_eq_some_iff.1 h'
  rw [List.drop_eq_getElem_cons hk, List.drop_eq_getElem_cons hk', e, e', lex_ds]
end Go.Proofs.Ytgmdbpplfjkjmaa

/-! tenonref01's numbers and texts: what they answer, whole. -/
namespace Go.Proofs.Ytgmdbpplfjkjmaa
open Go.RowKit
set_option linter.unusedVariables false
set_option linter.unusedSimpArgs false

theorem numbers_said (x y : Int) (w : World) : Calls Try.prog 141 #[.int .u64 x, .int .u64 y] w fun e w' => e = .returned (.int .i64 (cmpI x y)) ∧ w = w' := by
  unfold cmpI
  by_cases h1 : x < y
  · rw [if_pos h1]
    go_enter Try.func141, Try.ntmps141
    go_wp2
    go_ret
    exact ⟨rfl, rfl⟩
  · rw [if_neg h1]
    by_cases h2 : y < x
    · rw [if_pos h2]
      go_enter Try.func141, Try.ntmps141
      go_wp2
      go_ret
      exact ⟨rfl, rfl⟩
    · rw [if_neg h2]
      go_enter Try.func141, Try.ntmps141
      go_wp2
      go_ret
      exact ⟨rfl, rfl⟩
theorem lex_text : ∀ l m : List UInt8, lexN (ordT l) (ordT m) = if Op.bytesLess l m = true then -1 else if Op.bytesLess m l = true then 1 else 0
  | [], [] => by simp [ordT, lexN, Op.bytesLess]
  | [], b :: m => by simp [ordT, lexN, Op.bytesLess]
  | a :: l, [] => by simp [ordT, lexN, Op.bytesLess]
  | a :: l, b :: m => by
    have h1 : lexN (ordT (a :: l)) (ordT (b :: m)) = if a.toNat + 1 < b.toNat + 1 then -1 else if b.toNat + 1 < a.toNat + 1 then 1 else lexN (ordT l) (ordT m) := rfl
    rw [h1, lex_text l m, Op.bytesLess, Op.bytesLess]
    by_cases h2 : a < b
    · have h3 : a.toNat < b.toNat := UInt8.lt_iff_toNat_lt.1 h2
      rw [if_pos (by omega)]
      simp [h2]
    · have h3 : ¬ a.toNat < b.toNat := fun h => h2 (UInt8.lt_iff_toNat_lt.2 h)
      rw [if_neg (by omega)]
      by_cases h4 : b < a
      · have h5 : b.toNat < a.toNat := UInt8.lt_iff_toNat_lt.1 h4
        have h6 : ¬ a = b := fun e => by subst e; omega
        rw [if_pos (by omega)]
        simp [h2, h4, h6]
      · have h5 : ¬ b.toNat < a.toNat := fun h => h4 (UInt8.lt_iff_toNat_lt.2 h)
        obtain rfl : a = b := UInt8.toNat_inj.1 (by omega)
        rw [if_neg (by omega)]
        simp [h2]
theorem less_total : ∀ l m : List UInt8, Op.bytesLess l m = false → Op.bytesLess m l = false → l = m
  | [], [], _, _ => rfl
  | [], _ :: _, h, _ => by simp [Op.bytesLess] at h
  | _ :: _, [], _, h => by simp [Op.bytesLess] at h
  | a :: l, b :: m, h, k => by
    simp only [Op.bytesLess, Bool.or_eq_false_iff, decide_eq_false_iff_not] at h k
    have h1 : ¬ a.toNat < b.toNat := fun e => h.1 (UInt8.lt_iff_toNat_lt.2 e)
    have h2 : ¬ b.toNat < a.toNat := fun e => k.1 (UInt8.lt_iff_toNat_lt.2 e)
    obtain rfl : a = b := UInt8.toNat_inj.1 (by omega)
    rw [less_total l m (by simpa using h.2) (by simpa using k.2)]
set_option maxRecDepth 100000 in
theorem texts_is (s q : ByteArray) (w : World) : Calls Try.prog 144 #[.string s, .string q] w fun e w' => e = .returned (.int .i64 (lexN (ordT s.data.toList) (ordT q.data.toList))) ∧ w = w' := by
  rw [lex_text, ← toList_data, ← toList_data]
  obtain ⟨c, hc⟩ : ∃ c : Int, c = (if Op.bytesLess s.toList q.toList = true then -1 else if Op.bytesLess q.toList s.toList = true then 1 else 0) := ⟨_, rfl⟩
  rw [← hc]
  have hcH := Lib.hid hc
  clear hc
  go_enter Try.func144, Try.ntmps144
  go_wp2
  all_goals go_ret
  all_goals refine ⟨?_, rfl⟩
  all_goals rw [hcH.out]
  all_goals first
    | (simp_all; done)
    | (have hx : Op.bytesLess q.toList s.toList = true := Decidable.byContradiction fun hx => by
         have e := less_total s.toList q.toList (by simp_all) (by simpa using hx)
         simp_all
       simp_all; done)
end Go.Proofs.Ytgmdbpplfjkjmaa

/-! tenonref01.Compare: the order of values. -/
namespace Go.Proofs.Ytgmdbpplfjkjmaa
open Go.RowKit
set_option linter.unusedVariables false
set_option linter.unusedSimpArgs false

/-- A comparison's answer. -/
def CmpEnd (c : Int) (w : World) (e : Ending) (w' : World) : Prop := e = .returned (.int .i64 c) ∧ Below w.heap.size w w'
set_option maxRecDepth 100000 in
theorem flag_said (b : Bool) (w : World) : Calls Try.prog 142 #[.bool b] w fun e w' => e = .returned (.int .u64 (bif b then 1 else 0)) ∧ w = w' := by
  cases b
  all_goals
    go_enter Try.func142, Try.ntmps142
    go_wp2
    go_ret
    exact ⟨rfl, rfl⟩
set_option maxRecDepth 100000 in
theorem place_said (x : Nat) (hx : x < 18446744073709551616) (w : World) : Calls Try.prog 143 #[.float .f64 x] w fun e w' => e = .returned (.int .u64 (placeN x)) ∧ w = w' := by
  have hfb := fun W => bits_of_float x W
  by_cases h : 9223372036854775808 ≤ x
  · have hi : (9223372036854775808 : Int) ≤ (x : Int) := by omega
    have hp : ((placeN x : Nat) : Int) = 18446744073709551615 - (x : Int) := by unfold placeN; rw [if_pos h]; omega
    rw [hp]
    go_enter Try.func143, Try.ntmps143
    go_wp2
    go_ret
    refine ⟨?_, rfl⟩
    have hm : IntKind.u64.max = ((18446744073709551615 : Nat) : Int) := rfl
    show Ending.returned (.int .u64 (bits .xor .u64 IntKind.u64.max (x : Int))) = _
    rw [hm, bits_xor_u64_nat _ _ (by decide) hx, Nat.xor_comm, xor_ones _ hx]
    exact ret_int (by omega)
  · have hi : ¬ (9223372036854775808 : Int) ≤ (x : Int) := by omega
    have hp : ((placeN x : Nat) : Int) = (x : Int) + 9223372036854775808 := by unfold placeN; rw [if_neg h]; omega
    rw [hp]
    go_enter Try.func143, Try.ntmps143
    go_wp2
    go_ret
    exact ⟨rfl, rfl⟩
theorem ok_kind {k : Int} {b : Bool} {n : Int} {fl : Nat} {tx : ByteArray} {bs : List UInt8} {rf : Int} {ls : List Term} {es : List (ByteArray × Term)} {cl : ByteArray} {ver : Int} (h : okV (builtV (.mk k b n fl tx bs rf ls es cl ver))) : 1 ≤ k ∧ k ≤ 10 ∧ kindV (builtV (.mk k b n fl tx bs rf ls es cl ver)) = k := by
  by_cases hk : 1 ≤ k ∧ k ≤ 10
  · refine ⟨hk.1, hk.2, ?_⟩
    have : k = 1 ∨ k = 2 ∨ k = 3 ∨ k = 4 ∨ k = 5 ∨ k = 6 ∨ k = 7 ∨ k = 8 ∨ k = 9 ∨ k = 10 := by omega
    rcases this with rfl | rfl | rfl | rfl | rfl | rfl | rfl | rfl | rfl | rfl <;> (rw [builtV]; rfl)
  · exfalso
    rw [builtV, show (k == 1) = false by simp; omega, show (k == 2) = false by simp; omega, show (k == 3) = false by simp; omega, show (k == 4) = false by simp; omega, show (k == 5) = false by simp; omega, show (k == 6) = false by simp; omega, show (k == 7) = false by simp; omega, show (k == 8) = false by simp; omega, show (k == 9) = false by simp; omega, show (k == 10) = false by simp; omega] at h
    simp only [cond_false] at h
    cases hk2 : k == 11 <;> rw [hk2] at h <;> exact h
section
variable (b b' : Bool) (n n' : Int) (fl fl' : Nat) (tx tx' : ByteArray) (bs bs' : List UInt8) (rf rf' : Int) (ls ls' : List Term) (es es' : List (ByteArray × Term)) (cl cl' : ByteArray) (ver ver' : Int)

set_option maxRecDepth 100000 in
set_option maxHeartbeats 1600000 in
theorem cmp_kinds (k k' : Int) (hkk : (k != k') = true) (cs ds : List Value) (w : World) (h : TRep w (.mk k b n fl tx bs rf ls es cl ver) cs) (h' : TRep w (.mk k' b' n' fl' tx' bs' rf' ls' es' cl' ver') ds) (hok : okV (builtV (.mk k b n fl tx bs rf ls es cl ver))) (hok' : okV (builtV (.mk k' b' n' fl' tx' bs' rf' ls' es' cl' ver'))) :
    Calls Try.prog 77 #[.agg cs.toArray, .agg ds.toArray] w (CmpEnd (cmpV (builtV (.mk k b n fl tx bs rf ls es cl ver)) (builtV (.mk k' b' n' fl' tx' bs' rf' ls' es' cl' ver'))) w) := by
  simp only [TRep] at h h'
  obtain ⟨sb, sl, se, xl, xe, rfl, ⟨hk, hn, hf, ht, hr, hc, hv⟩, hrb, hrl, htl, hre, hte⟩ := h
  obtain ⟨sb', sl', se', xl', xe', rfl, ⟨hk', hn', hf', ht', hr', hc', hv'⟩, hrb', hrl', htl', hre', hte'⟩ := h'
  have hrbH := Lib.hid hrb
  have hrlH := Lib.hid hrl
  have hreH := Lib.hid hre
  have hrbH' := Lib.hid hrb'
  have hrlH' := Lib.hid hrl'
  have hreH' := Lib.hid hre'
  have htlH := Lib.hid htl
  have htlH' := Lib.hid htl'
  have hteH := Lib.hid hte
  have hteH' := Lib.hid hte'
  obtain ⟨ob, ocb, rfl, -⟩ := hrb
  obtain ⟨ol, ocl, rfl, -⟩ := hrl
  obtain ⟨oe, oce, rfl, -⟩ := hre
  obtain ⟨ob', ocb', rfl, -⟩ := hrb'
  obtain ⟨ol', ocl', rfl, -⟩ := hrl'
  obtain ⟨oe', oce', rfl, -⟩ := hre'
  have hb2 : Below w.heap.size w ((w.alloc (.cells #[.int .i64 k, .bool b, .int .i64 n, .float .f64 fl, .string tx, .slice ob bs.length ocb, .int .u64 rf, .slice ol ls.length ocl, .slice oe es.length oce, .string cl, .int .i64 ver] 31)).alloc (.cells #[.int .i64 k', .bool b', .int .i64 n', .float .f64 fl', .string tx', .slice ob' bs'.length ocb', .int .u64 rf', .slice ol' ls'.length ocl', .slice oe' es'.length oce', .string cl', .int .i64 ver'] 31)) := ((Below.refl _ _).alloc (Nat.le_refl _) _).alloc (by simp) _
  have k1 := ok_kind hok
  have k2 := ok_kind hok'
  have hne : ¬ k = k' := by simpa using hkk
  have w1 : IntKind.u64.wrap k = k := by rw [IntKind.wrap_u64]; omega
  have w2 : IntKind.u64.wrap k' = k' := by rw [IntKind.wrap_u64]; omega
  have hP0 := (cmpV_kinds hok hok' (by rw [k1.2.2, k2.2.2]; exact hne) (by omega) (by omega))
  rw [k1.2.2, k2.2.2] at hP0
  have hP := Lib.hid hP0
  clear k1 k2 hne hok hok' hP0
  clear htl hte htl' hte'
  go_enter Try.func77, Try.ntmps77
  go_wp2_with fail
  refine (numbers_said _ _ _).mono ?_
  rintro e w3 ⟨rfl, rfl⟩
  go_wp2
  go_ret
  exact ⟨ret_int hP.out.symm, hb2⟩

set_option maxRecDepth 100000 in
set_option maxHeartbeats 1600000 in
theorem cmp_nil (cs ds : List Value) (w : World) (h : TRep w (.mk 1 b n fl tx bs rf ls es cl ver) cs) (h' : TRep w (.mk 1 b' n' fl' tx' bs' rf' ls' es' cl' ver') ds) (hok : okV (builtV (.mk 1 b n fl tx bs rf ls es cl ver))) (hok' : okV (builtV (.mk 1 b' n' fl' tx' bs' rf' ls' es' cl' ver'))) :
    Calls Try.prog 77 #[.agg cs.toArray, .agg ds.toArray] w (CmpEnd (cmpV (builtV (.mk 1 b n fl tx bs rf ls es cl ver)) (builtV (.mk 1 b' n' fl' tx' bs' rf' ls' es' cl' ver'))) w) := by
  simp only [TRep] at h h'
  obtain ⟨sb, sl, se, xl, xe, rfl, ⟨hk, hn, hf, ht, hr, hc, hv⟩, hrb, hrl, htl, hre, hte⟩ := h
  obtain ⟨sb', sl', se', xl', xe', rfl, ⟨hk', hn', hf', ht', hr', hc', hv'⟩, hrb', hrl', htl', hre', hte'⟩ := h'
  have hrbH := Lib.hid hrb
  have hrlH := Lib.hid hrl
  have hreH := Lib.hid hre
  have hrbH' := Lib.hid hrb'
  have hrlH' := Lib.hid hrl'
  have hreH' := Lib.hid hre'
  have htlH := Lib.hid htl
  have htlH' := Lib.hid htl'
  have hteH := Lib.hid hte
  have hteH' := Lib.hid hte'
  obtain ⟨ob, ocb, rfl, -⟩ := hrb
  obtain ⟨ol, ocl, rfl, -⟩ := hrl
  obtain ⟨oe, oce, rfl, -⟩ := hre
  obtain ⟨ob', ocb', rfl, -⟩ := hrb'
  obtain ⟨ol', ocl', rfl, -⟩ := hrl'
  obtain ⟨oe', oce', rfl, -⟩ := hre'
  have hb2 : Below w.heap.size w ((w.alloc (.cells #[.int .i64 1, .bool b, .int .i64 n, .float .f64 fl, .string tx, .slice ob bs.length ocb, .int .u64 rf, .slice ol ls.length ocl, .slice oe es.length oce, .string cl, .int .i64 ver] 31)).alloc (.cells #[.int .i64 1, .bool b', .int .i64 n', .float .f64 fl', .string tx', .slice ob' bs'.length ocb', .int .u64 rf', .slice ol' ls'.length ocl', .slice oe' es'.length oce', .string cl', .int .i64 ver'] 31)) := ((Below.refl _ _).alloc (Nat.le_refl _) _).alloc (by simp) _
  have e1 : builtV (.mk 1 b n fl tx bs rf ls es cl ver) = .nil := by rw [builtV]; rfl
  have e2 : builtV (.mk 1 b' n' fl' tx' bs' rf' ls' es' cl' ver') = .nil := by rw [builtV]; rfl
  rw [e1, e2]
  clear htl hte htl' hte'
  go_enter Try.func77, Try.ntmps77
  go_wp2
  go_ret
  exact ⟨ret_int (cmpV_self _).symm, hb2⟩

set_option maxRecDepth 100000 in
set_option maxHeartbeats 1600000 in
theorem cmp_int (cs ds : List Value) (w : World) (h : TRep w (.mk 3 b n fl tx bs rf ls es cl ver) cs) (h' : TRep w (.mk 3 b' n' fl' tx' bs' rf' ls' es' cl' ver') ds) (hok : okV (builtV (.mk 3 b n fl tx bs rf ls es cl ver))) (hok' : okV (builtV (.mk 3 b' n' fl' tx' bs' rf' ls' es' cl' ver'))) :
    Calls Try.prog 77 #[.agg cs.toArray, .agg ds.toArray] w (CmpEnd (cmpV (builtV (.mk 3 b n fl tx bs rf ls es cl ver)) (builtV (.mk 3 b' n' fl' tx' bs' rf' ls' es' cl' ver'))) w) := by
  simp only [TRep] at h h'
  obtain ⟨sb, sl, se, xl, xe, rfl, ⟨hk, hn, hf, ht, hr, hc, hv⟩, hrb, hrl, htl, hre, hte⟩ := h
  obtain ⟨sb', sl', se', xl', xe', rfl, ⟨hk', hn', hf', ht', hr', hc', hv'⟩, hrb', hrl', htl', hre', hte'⟩ := h'
  have hrbH := Lib.hid hrb
  have hrlH := Lib.hid hrl
  have hreH := Lib.hid hre
  have hrbH' := Lib.hid hrb'
  have hrlH' := Lib.hid hrl'
  have hreH' := Lib.hid hre'
  have htlH := Lib.hid htl
  have htlH' := Lib.hid htl'
  have hteH := Lib.hid hte
  have hteH' := Lib.hid hte'
  obtain ⟨ob, ocb, rfl, -⟩ := hrb
  obtain ⟨ol, ocl, rfl, -⟩ := hrl
  obtain ⟨oe, oce, rfl, -⟩ := hre
  obtain ⟨ob', ocb', rfl, -⟩ := hrb'
  obtain ⟨ol', ocl', rfl, -⟩ := hrl'
  obtain ⟨oe', oce', rfl, -⟩ := hre'
  have hb2 : Below w.heap.size w ((w.alloc (.cells #[.int .i64 3, .bool b, .int .i64 n, .float .f64 fl, .string tx, .slice ob bs.length ocb, .int .u64 rf, .slice ol ls.length ocl, .slice oe es.length oce, .string cl, .int .i64 ver] 31)).alloc (.cells #[.int .i64 3, .bool b', .int .i64 n', .float .f64 fl', .string tx', .slice ob' bs'.length ocb', .int .u64 rf', .slice ol' ls'.length ocl', .slice oe' es'.length oce', .string cl', .int .i64 ver'] 31)) := ((Below.refl _ _).alloc (Nat.le_refl _) _).alloc (by simp) _
  have e1 : builtV (.mk 3 b n fl tx bs rf ls es cl ver) = .int n := by rw [builtV]; rfl
  have e2 : builtV (.mk 3 b' n' fl' tx' bs' rf' ls' es' cl' ver') = .int n' := by rw [builtV]; rfl
  rw [e1, e2]
  have r1 : -9223372036854775808 ≤ n ∧ n ≤ 9223372036854775807 := by simpa [Lit.wf, IntKind.min, IntKind.max, IntKind.signed, IntKind.bits] using hn
  have r2 : -9223372036854775808 ≤ n' ∧ n' ≤ 9223372036854775807 := by simpa [Lit.wf, IntKind.min, IntKind.max, IntKind.signed, IntKind.bits] using hn'
  rw [cmpV_int r1.1 r2.1]
  clear e1 e2
  clear htl hte htl' hte'
  go_enter Try.func77, Try.ntmps77
  go_wp2_with fail
  refine (numbers_said _ _ _).mono ?_
  rintro e w3 ⟨rfl, rfl⟩
  go_wp2
  go_ret
  refine ⟨ret_int (cmpI_congr ?_ ?_), hb2⟩
  all_goals
    rw [IntKind.wrap_u64, IntKind.wrap_u64, IntKind.wrap_u64, IntKind.wrap_u64]
    omega

set_option maxRecDepth 100000 in
set_option maxHeartbeats 1600000 in
theorem cmp_ref (cs ds : List Value) (w : World) (h : TRep w (.mk 7 b n fl tx bs rf ls es cl ver) cs) (h' : TRep w (.mk 7 b' n' fl' tx' bs' rf' ls' es' cl' ver') ds) (hok : okV (builtV (.mk 7 b n fl tx bs rf ls es cl ver))) (hok' : okV (builtV (.mk 7 b' n' fl' tx' bs' rf' ls' es' cl' ver'))) :
    Calls Try.prog 77 #[.agg cs.toArray, .agg ds.toArray] w (CmpEnd (cmpV (builtV (.mk 7 b n fl tx bs rf ls es cl ver)) (builtV (.mk 7 b' n' fl' tx' bs' rf' ls' es' cl' ver'))) w) := by
  simp only [TRep] at h h'
  obtain ⟨sb, sl, se, xl, xe, rfl, ⟨hk, hn, hf, ht, hr, hc, hv⟩, hrb, hrl, htl, hre, hte⟩ := h
  obtain ⟨sb', sl', se', xl', xe', rfl, ⟨hk', hn', hf', ht', hr', hc', hv'⟩, hrb', hrl', htl', hre', hte'⟩ := h'
  have hrbH := Lib.hid hrb
  have hrlH := Lib.hid hrl
  have hreH := Lib.hid hre
  have hrbH' := Lib.hid hrb'
  have hrlH' := Lib.hid hrl'
  have hreH' := Lib.hid hre'
  have htlH := Lib.hid htl
  have htlH' := Lib.hid htl'
  have hteH := Lib.hid hte
  have hteH' := Lib.hid hte'
  obtain ⟨ob, ocb, rfl, -⟩ := hrb
  obtain ⟨ol, ocl, rfl, -⟩ := hrl
  obtain ⟨oe, oce, rfl, -⟩ := hre
  obtain ⟨ob', ocb', rfl, -⟩ := hrb'
  obtain ⟨ol', ocl', rfl, -⟩ := hrl'
  obtain ⟨oe', oce', rfl, -⟩ := hre'
  have hb2 : Below w.heap.size w ((w.alloc (.cells #[.int .i64 7, .bool b, .int .i64 n, .float .f64 fl, .string tx, .slice ob bs.length ocb, .int .u64 rf, .slice ol ls.length ocl, .slice oe es.length oce, .string cl, .int .i64 ver] 31)).alloc (.cells #[.int .i64 7, .bool b', .int .i64 n', .float .f64 fl', .string tx', .slice ob' bs'.length ocb', .int .u64 rf', .slice ol' ls'.length ocl', .slice oe' es'.length oce', .string cl', .int .i64 ver'] 31)) := ((Below.refl _ _).alloc (Nat.le_refl _) _).alloc (by simp) _
  have e1 : builtV (.mk 7 b n fl tx bs rf ls es cl ver) = .ref rf := by rw [builtV]; rfl
  have e2 : builtV (.mk 7 b' n' fl' tx' bs' rf' ls' es' cl' ver') = .ref rf' := by rw [builtV]; rfl
  have r1 : 0 ≤ rf := by have : 0 ≤ rf ∧ rf ≤ 18446744073709551615 := by simpa [Lit.wf, IntKind.min, IntKind.max, IntKind.signed, IntKind.bits] using hr
                         omega
  have r2 : 0 ≤ rf' := by have : 0 ≤ rf' ∧ rf' ≤ 18446744073709551615 := by simpa [Lit.wf, IntKind.min, IntKind.max, IntKind.signed, IntKind.bits] using hr'
                          omega
  rw [e1, e2, cmpV_ref r1 r2]
  clear e1 e2
  clear htl hte htl' hte'
  go_enter Try.func77, Try.ntmps77
  go_wp2_with fail
  refine (numbers_said _ _ _).mono ?_
  rintro e w3 ⟨rfl, rfl⟩
  go_wp2
  go_ret
  exact ⟨rfl, hb2⟩

set_option maxRecDepth 100000 in
set_option maxHeartbeats 1600000 in
theorem cmp_text (cs ds : List Value) (w : World) (h : TRep w (.mk 5 b n fl tx bs rf ls es cl ver) cs) (h' : TRep w (.mk 5 b' n' fl' tx' bs' rf' ls' es' cl' ver') ds) (hok : okV (builtV (.mk 5 b n fl tx bs rf ls es cl ver))) (hok' : okV (builtV (.mk 5 b' n' fl' tx' bs' rf' ls' es' cl' ver'))) :
    Calls Try.prog 77 #[.agg cs.toArray, .agg ds.toArray] w (CmpEnd (cmpV (builtV (.mk 5 b n fl tx bs rf ls es cl ver)) (builtV (.mk 5 b' n' fl' tx' bs' rf' ls' es' cl' ver'))) w) := by
  simp only [TRep] at h h'
  obtain ⟨sb, sl, se, xl, xe, rfl, ⟨hk, hn, hf, ht, hr, hc, hv⟩, hrb, hrl, htl, hre, hte⟩ := h
  obtain ⟨sb', sl', se', xl', xe', rfl, ⟨hk', hn', hf', ht', hr', hc', hv'⟩, hrb', hrl', htl', hre', hte'⟩ := h'
  have hrbH := Lib.hid hrb
  have hrlH := Lib.hid hrl
  have hreH := Lib.hid hre
  have hrbH' := Lib.hid hrb'
  have hrlH' := Lib.hid hrl'
  have hreH' := Lib.hid hre'
  have htlH := Lib.hid htl
  have htlH' := Lib.hid htl'
  have hteH := Lib.hid hte
  have hteH' := Lib.hid hte'
  obtain ⟨ob, ocb, rfl, -⟩ := hrb
  obtain ⟨ol, ocl, rfl, -⟩ := hrl
  obtain ⟨oe, oce, rfl, -⟩ := hre
  obtain ⟨ob', ocb', rfl, -⟩ := hrb'
  obtain ⟨ol', ocl', rfl, -⟩ := hrl'
  obtain ⟨oe', oce', rfl, -⟩ := hre'
  have hb2 : Below w.heap.size w ((w.alloc (.cells #[.int .i64 5, .bool b, .int .i64 n, .float .f64 fl, .string tx, .slice ob bs.length ocb, .int .u64 rf, .slice ol ls.length ocl, .slice oe es.length oce, .string cl, .int .i64 ver] 31)).alloc (.cells #[.int .i64 5, .bool b', .int .i64 n', .float .f64 fl', .string tx', .slice ob' bs'.length ocb', .int .u64 rf', .slice ol' ls'.length ocl', .slice oe' es'.length oce', .string cl', .int .i64 ver'] 31)) := ((Below.refl _ _).alloc (Nat.le_refl _) _).alloc (by simp) _
  have e1 : builtV (.mk 5 b n fl tx bs rf ls es cl ver) = .text tx := by rw [builtV]; rfl
  have e2 : builtV (.mk 5 b' n' fl' tx' bs' rf' ls' es' cl' ver') = .text tx' := by rw [builtV]; rfl
  rw [e1, e2, cmpV_text]
  clear e1 e2
  clear htl hte htl' hte'
  go_enter Try.func77, Try.ntmps77
  go_wp2_with fail
  refine (texts_is _ _ _).mono ?_
  rintro e w3 ⟨rfl, rfl⟩
  go_wp2
  go_ret
  exact ⟨rfl, hb2⟩

set_option maxRecDepth 100000 in
set_option maxHeartbeats 1600000 in
theorem cmp_bytes (cs ds : List Value) (w : World) (h : TRep w (.mk 6 b n fl tx bs rf ls es cl ver) cs) (h' : TRep w (.mk 6 b' n' fl' tx' bs' rf' ls' es' cl' ver') ds) (hok : okV (builtV (.mk 6 b n fl tx bs rf ls es cl ver))) (hok' : okV (builtV (.mk 6 b' n' fl' tx' bs' rf' ls' es' cl' ver'))) :
    Calls Try.prog 77 #[.agg cs.toArray, .agg ds.toArray] w (CmpEnd (cmpV (builtV (.mk 6 b n fl tx bs rf ls es cl ver)) (builtV (.mk 6 b' n' fl' tx' bs' rf' ls' es' cl' ver'))) w) := by
  simp only [TRep] at h h'
  obtain ⟨sb, sl, se, xl, xe, rfl, ⟨hk, hn, hf, ht, hr, hc, hv⟩, hrb, hrl, htl, hre, hte⟩ := h
  obtain ⟨sb', sl', se', xl', xe', rfl, ⟨hk', hn', hf', ht', hr', hc', hv'⟩, hrb', hrl', htl', hre', hte'⟩ := h'
  have hrbH := Lib.hid hrb
  have hrlH := Lib.hid hrl
  have hreH := Lib.hid hre
  have hrbH' := Lib.hid hrb'
  have hrlH' := Lib.hid hrl'
  have hreH' := Lib.hid hre'
  have htlH := Lib.hid htl
  have htlH' := Lib.hid htl'
  have hteH := Lib.hid hte
  have hteH' := Lib.hid hte'
  obtain ⟨ob, ocb, rfl, -⟩ := hrb
  obtain ⟨ol, ocl, rfl, -⟩ := hrl
  obtain ⟨oe, oce, rfl, -⟩ := hre
  obtain ⟨ob', ocb', rfl, -⟩ := hrb'
  obtain ⟨ol', ocl', rfl, -⟩ := hrl'
  obtain ⟨oe', oce', rfl, -⟩ := hre'
  have hb2 : Below w.heap.size w ((w.alloc (.cells #[.int .i64 6, .bool b, .int .i64 n, .float .f64 fl, .string tx, .slice ob bs.length ocb, .int .u64 rf, .slice ol ls.length ocl, .slice oe es.length oce, .string cl, .int .i64 ver] 31)).alloc (.cells #[.int .i64 6, .bool b', .int .i64 n', .float .f64 fl', .string tx', .slice ob' bs'.length ocb', .int .u64 rf', .slice ol' ls'.length ocl', .slice oe' es'.length oce', .string cl', .int .i64 ver'] 31)) := ((Below.refl _ _).alloc (Nat.le_refl _) _).alloc (by simp) _
  have e1 : builtV (.mk 6 b n fl tx bs rf ls es cl ver) = .bytes bs := by rw [builtV]; rfl
  have e2 : builtV (.mk 6 b' n' fl' tx' bs' rf' ls' es' cl' ver') = .bytes bs' := by rw [builtV]; rfl
  rw [e1, e2, cmpV_bytes]
  have cv1 := conv_bytes (hrbH.out.keep (keeps_of_below hb2))
  have cv2 := conv_bytes (hrbH'.out.keep (keeps_of_below hb2))
  clear e1 e2
  clear htl hte htl' hte'
  go_enter Try.func77, Try.ntmps77
  go_wp2_with fail
  refine (texts_is _ _ _).mono ?_
  rintro e w3 ⟨rfl, rfl⟩
  go_wp2
  go_ret
  exact ⟨rfl, hb2⟩

set_option maxRecDepth 100000 in
set_option maxHeartbeats 1600000 in
theorem cmp_bool (cs ds : List Value) (w : World) (h : TRep w (.mk 2 b n fl tx bs rf ls es cl ver) cs) (h' : TRep w (.mk 2 b' n' fl' tx' bs' rf' ls' es' cl' ver') ds) (hok : okV (builtV (.mk 2 b n fl tx bs rf ls es cl ver))) (hok' : okV (builtV (.mk 2 b' n' fl' tx' bs' rf' ls' es' cl' ver'))) :
    Calls Try.prog 77 #[.agg cs.toArray, .agg ds.toArray] w (CmpEnd (cmpV (builtV (.mk 2 b n fl tx bs rf ls es cl ver)) (builtV (.mk 2 b' n' fl' tx' bs' rf' ls' es' cl' ver'))) w) := by
  simp only [TRep] at h h'
  obtain ⟨sb, sl, se, xl, xe, rfl, ⟨hk, hn, hf, ht, hr, hc, hv⟩, hrb, hrl, htl, hre, hte⟩ := h
  obtain ⟨sb', sl', se', xl', xe', rfl, ⟨hk', hn', hf', ht', hr', hc', hv'⟩, hrb', hrl', htl', hre', hte'⟩ := h'
  have hrbH := Lib.hid hrb
  have hrlH := Lib.hid hrl
  have hreH := Lib.hid hre
  have hrbH' := Lib.hid hrb'
  have hrlH' := Lib.hid hrl'
  have hreH' := Lib.hid hre'
  have htlH := Lib.hid htl
  have htlH' := Lib.hid htl'
  have hteH := Lib.hid hte
  have hteH' := Lib.hid hte'
  obtain ⟨ob, ocb, rfl, -⟩ := hrb
  obtain ⟨ol, ocl, rfl, -⟩ := hrl
  obtain ⟨oe, oce, rfl, -⟩ := hre
  obtain ⟨ob', ocb', rfl, -⟩ := hrb'
  obtain ⟨ol', ocl', rfl, -⟩ := hrl'
  obtain ⟨oe', oce', rfl, -⟩ := hre'
  have hb2 : Below w.heap.size w ((w.alloc (.cells #[.int .i64 2, .bool b, .int .i64 n, .float .f64 fl, .string tx, .slice ob bs.length ocb, .int .u64 rf, .slice ol ls.length ocl, .slice oe es.length oce, .string cl, .int .i64 ver] 31)).alloc (.cells #[.int .i64 2, .bool b', .int .i64 n', .float .f64 fl', .string tx', .slice ob' bs'.length ocb', .int .u64 rf', .slice ol' ls'.length ocl', .slice oe' es'.length oce', .string cl', .int .i64 ver'] 31)) := ((Below.refl _ _).alloc (Nat.le_refl _) _).alloc (by simp) _
  have e1 : builtV (.mk 2 b n fl tx bs rf ls es cl ver) = .bool b := by rw [builtV]; rfl
  have e2 : builtV (.mk 2 b' n' fl' tx' bs' rf' ls' es' cl' ver') = .bool b' := by rw [builtV]; rfl
  rw [e1, e2, cmpV_bool]
  clear e1 e2
  clear htl hte htl' hte'
  go_enter Try.func77, Try.ntmps77
  go_wp2_with fail
  have hSk : ((w.alloc (.cells #[.int .i64 2, .bool b, .int .i64 n, .float .f64 fl, .string tx, .slice ob bs.length ocb, .int .u64 rf, .slice ol ls.length ocl, .slice oe es.length oce, .string cl, .int .i64 ver] 31)).alloc (.cells #[.int .i64 2, .bool b', .int .i64 n', .float .f64 fl', .string tx', .slice ob' bs'.length ocb', .int .u64 rf', .slice ol' ls'.length ocl', .slice oe' es'.length oce', .string cl', .int .i64 ver'] 31)).drew.cell? ⟨w.heap.size, 1, none⟩ = some (.bool b) ∧ ((w.alloc (.cells #[.int .i64 2, .bool b, .int .i64 n, .float .f64 fl, .string tx, .slice ob bs.length ocb, .int .u64 rf, .slice ol ls.length ocl, .slice oe es.length oce, .string cl, .int .i64 ver] 31)).alloc (.cells #[.int .i64 2, .bool b', .int .i64 n', .float .f64 fl', .string tx', .slice ob' bs'.length ocb', .int .u64 rf', .slice ol' ls'.length ocl', .slice oe' es'.length oce', .string cl', .int .i64 ver'] 31)).drew.cell? ⟨w.heap.size + 1, 1, none⟩ = some (.bool b') := ⟨by simp [go_sem], by simp [go_sem]⟩
  refine wp_region_held_drew (S := (fun w' => w'.cell? ⟨w.heap.size, 1, none⟩ = some (.bool b) ∧ w'.cell? ⟨w.heap.size + 1, 1, none⟩ = some (.bool b'))) (by kernel_rfl) ?_ (fun hHeld => ?_)
  · exact hSk
  refine wpAnyH_take (i := 0) (v := ?vdb1) rfl (by kernel_rfl) (by kernel_rfl) (by kernel_rfl) (fun _ _ _ h => h) (.inl ⟨by rfl, ?hydb1⟩) (by assumption) ?restdb1
  case hydb1 => (intro w hSw; (try dsimp only at hSw); go_simp; first | done | with_reducible rfl)
  (try simp only [Act.put, pu1, pu2, pu3, pu4, pu5, pu6])
  refine wpAnyH_take (i := 1) (v := ?vdb2) rfl (by kernel_rfl) (by kernel_rfl) (by kernel_rfl) (fun _ _ _ h => h) (.inl ⟨by rfl, ?hydb2⟩) (by assumption) ?restdb2
  case hydb2 => (intro w hSw; (try dsimp only at hSw); go_simp; first | done | with_reducible rfl)
  (try simp only [Act.put, pu1, pu2, pu3, pu4, pu5, pu6])
  refine wpAnyH_take (i := 3) (v := ?vdb3) rfl (by kernel_rfl) (by kernel_rfl) (by kernel_rfl) (fun _ _ _ h => h) (.inl ⟨by rfl, ?hydb3⟩) (by assumption) ?restdb3
  case hydb3 => (intro w hSw; (try dsimp only at hSw); go_simp; first | done | with_reducible rfl)
  (try simp only [Act.put, pu1, pu2, pu3, pu4, pu5, pu6])
  refine wpAnyH_take (i := 4) (v := ?vdb4) rfl (by kernel_rfl) (by kernel_rfl) (by kernel_rfl) (fun _ _ _ h => h) (.inl ⟨by rfl, ?hydb4⟩) (by assumption) ?restdb4
  case hydb4 => (intro w hSw; (try dsimp only at hSw); go_simp; first | done | with_reducible rfl)
  (try simp only [Act.put, pu1, pu2, pu3, pu4, pu5, pu6])
  refine wpAnyH_ready (rs := [2]) (by kernel_rfl) (by simp) ?_
  refine AllReadyH.cons rfl (fun K hK => ?_) AllReadyH.nil
  rw [if_pos (by rfl)]
  go_simp
  refine (flag_said b _).mono ?_
  rintro e wz ⟨rfl, rfl⟩
  refine hK.out _ _ ?_ (fun hHeldN => ?_)
  · exact hSk
  clear hK K hHeld
  have hHeld := hHeldN
  clear hHeldN
  (try simp only [Act.put, pu1, pu2, pu3, pu4, pu5, pu6])
  refine wpAnyH_ready (rs := [5]) (by kernel_rfl) (by simp) ?_
  refine AllReadyH.cons rfl (fun K hK => ?_) AllReadyH.nil
  rw [if_pos (by rfl)]
  go_simp
  refine (flag_said b' _).mono ?_
  rintro e wz ⟨rfl, rfl⟩
  refine hK.out _ _ ?_ (fun hHeldN => ?_)
  · exact hSk
  clear hK K hHeld
  have hHeld := hHeldN
  clear hHeldN
  (try simp only [Act.put, pu1, pu2, pu3, pu4, pu5, pu6])
  refine wpAnyH_ready (rs := [6]) (by kernel_rfl) (by simp) ?_
  refine AllReadyH.cons rfl (fun K hK => ?_) AllReadyH.nil
  rw [if_pos (by rfl)]
  go_simp
  refine (numbers_said _ _ _).mono ?_
  rintro e wz ⟨rfl, rfl⟩
  refine hK.out _ _ ?_ (fun hHeldN => ?_)
  · exact hSk
  clear hK K hHeld
  have hHeld := hHeldN
  clear hHeldN
  (try simp only [Act.put, pu1, pu2, pu3, pu4, pu5, pu6])
  refine wpAnyH_take (i := 7) (v := ?vdb5) rfl (by kernel_rfl) (by kernel_rfl) (by kernel_rfl) (fun _ _ _ h => h) (.inl ⟨by rfl, ?hydb5⟩) (by assumption) ?restdb5
  case hydb5 => (intro w hSw; (try dsimp only at hSw); go_simp; first | done | with_reducible rfl)
  (try simp only [Act.put, pu1, pu2, pu3, pu4, pu5, pu6])
  refine wpAnyH_done (by kernel_rfl) ?_ _
  go_wp2_with fail
  go_ret
  exact ⟨rfl, hb2.drew⟩

set_option maxRecDepth 100000 in
set_option maxHeartbeats 1600000 in
theorem cmp_float (cs ds : List Value) (w : World) (h : TRep w (.mk 4 b n fl tx bs rf ls es cl ver) cs) (h' : TRep w (.mk 4 b' n' fl' tx' bs' rf' ls' es' cl' ver') ds) (hok : okV (builtV (.mk 4 b n fl tx bs rf ls es cl ver))) (hok' : okV (builtV (.mk 4 b' n' fl' tx' bs' rf' ls' es' cl' ver'))) :
    Calls Try.prog 77 #[.agg cs.toArray, .agg ds.toArray] w (CmpEnd (cmpV (builtV (.mk 4 b n fl tx bs rf ls es cl ver)) (builtV (.mk 4 b' n' fl' tx' bs' rf' ls' es' cl' ver'))) w) := by
  simp only [TRep] at h h'
  obtain ⟨sb, sl, se, xl, xe, rfl, ⟨hk, hn, hf, ht, hr, hc, hv⟩, hrb, hrl, htl, hre, hte⟩ := h
  obtain ⟨sb', sl', se', xl', xe', rfl, ⟨hk', hn', hf', ht', hr', hc', hv'⟩, hrb', hrl', htl', hre', hte'⟩ := h'
  have hrbH := Lib.hid hrb
  have hrlH := Lib.hid hrl
  have hreH := Lib.hid hre
  have hrbH' := Lib.hid hrb'
  have hrlH' := Lib.hid hrl'
  have hreH' := Lib.hid hre'
  have htlH := Lib.hid htl
  have htlH' := Lib.hid htl'
  have hteH := Lib.hid hte
  have hteH' := Lib.hid hte'
  obtain ⟨ob, ocb, rfl, -⟩ := hrb
  obtain ⟨ol, ocl, rfl, -⟩ := hrl
  obtain ⟨oe, oce, rfl, -⟩ := hre
  obtain ⟨ob', ocb', rfl, -⟩ := hrb'
  obtain ⟨ol', ocl', rfl, -⟩ := hrl'
  obtain ⟨oe', oce', rfl, -⟩ := hre'
  have hb2 : Below w.heap.size w ((w.alloc (.cells #[.int .i64 4, .bool b, .int .i64 n, .float .f64 fl, .string tx, .slice ob bs.length ocb, .int .u64 rf, .slice ol ls.length ocl, .slice oe es.length oce, .string cl, .int .i64 ver] 31)).alloc (.cells #[.int .i64 4, .bool b', .int .i64 n', .float .f64 fl', .string tx', .slice ob' bs'.length ocb', .int .u64 rf', .slice ol' ls'.length ocl', .slice oe' es'.length oce', .string cl', .int .i64 ver'] 31)) := ((Below.refl _ _).alloc (Nat.le_refl _) _).alloc (by simp) _
  have e1 : builtV (.mk 4 b n fl tx bs rf ls es cl ver) = .float fl := by rw [builtV]; rfl
  have e2 : builtV (.mk 4 b' n' fl' tx' bs' rf' ls' es' cl' ver') = .float fl' := by rw [builtV]; rfl
  rw [e1, e2, cmpV_float]
  have r1 : fl < 18446744073709551616 := by simpa [Lit.wf] using hf
  have r2 : fl' < 18446744073709551616 := by simpa [Lit.wf] using hf'
  clear e1 e2
  clear htl hte htl' hte'
  go_enter Try.func77, Try.ntmps77
  go_wp2_with fail
  have hSk : ((w.alloc (.cells #[.int .i64 4, .bool b, .int .i64 n, .float .f64 fl, .string tx, .slice ob bs.length ocb, .int .u64 rf, .slice ol ls.length ocl, .slice oe es.length oce, .string cl, .int .i64 ver] 31)).alloc (.cells #[.int .i64 4, .bool b', .int .i64 n', .float .f64 fl', .string tx', .slice ob' bs'.length ocb', .int .u64 rf', .slice ol' ls'.length ocl', .slice oe' es'.length oce', .string cl', .int .i64 ver'] 31)).drew.cell? ⟨w.heap.size, 3, none⟩ = some (.float .f64 fl) ∧ ((w.alloc (.cells #[.int .i64 4, .bool b, .int .i64 n, .float .f64 fl, .string tx, .slice ob bs.length ocb, .int .u64 rf, .slice ol ls.length ocl, .slice oe es.length oce, .string cl, .int .i64 ver] 31)).alloc (.cells #[.int .i64 4, .bool b', .int .i64 n', .float .f64 fl', .string tx', .slice ob' bs'.length ocb', .int .u64 rf', .slice ol' ls'.length ocl', .slice oe' es'.length oce', .string cl', .int .i64 ver'] 31)).drew.cell? ⟨w.heap.size + 1, 3, none⟩ = some (.float .f64 fl') := ⟨by simp [go_sem], by simp [go_sem]⟩
  refine wp_region_held_drew (S := (fun w' => w'.cell? ⟨w.heap.size, 3, none⟩ = some (.float .f64 fl) ∧ w'.cell? ⟨w.heap.size + 1, 3, none⟩ = some (.float .f64 fl'))) (by kernel_rfl) ?_ (fun hHeld => ?_)
  · exact hSk
  refine wpAnyH_take (i := 0) (v := ?vdf1) rfl (by kernel_rfl) (by kernel_rfl) (by kernel_rfl) (fun _ _ _ h => h) (.inl ⟨by rfl, ?hydf1⟩) (by assumption) ?restdf1
  case hydf1 => (intro w hSw; (try dsimp only at hSw); go_simp; first | done | with_reducible rfl)
  (try simp only [Act.put, pu1, pu2, pu3, pu4, pu5, pu6])
  refine wpAnyH_take (i := 1) (v := ?vdf2) rfl (by kernel_rfl) (by kernel_rfl) (by kernel_rfl) (fun _ _ _ h => h) (.inl ⟨by rfl, ?hydf2⟩) (by assumption) ?restdf2
  case hydf2 => (intro w hSw; (try dsimp only at hSw); go_simp; first | done | with_reducible rfl)
  (try simp only [Act.put, pu1, pu2, pu3, pu4, pu5, pu6])
  refine wpAnyH_take (i := 3) (v := ?vdf3) rfl (by kernel_rfl) (by kernel_rfl) (by kernel_rfl) (fun _ _ _ h => h) (.inl ⟨by rfl, ?hydf3⟩) (by assumption) ?restdf3
  case hydf3 => (intro w hSw; (try dsimp only at hSw); go_simp; first | done | with_reducible rfl)
  (try simp only [Act.put, pu1, pu2, pu3, pu4, pu5, pu6])
  refine wpAnyH_take (i := 4) (v := ?vdf4) rfl (by kernel_rfl) (by kernel_rfl) (by kernel_rfl) (fun _ _ _ h => h) (.inl ⟨by rfl, ?hydf4⟩) (by assumption) ?restdf4
  case hydf4 => (intro w hSw; (try dsimp only at hSw); go_simp; first | done | with_reducible rfl)
  (try simp only [Act.put, pu1, pu2, pu3, pu4, pu5, pu6])
  refine wpAnyH_ready (rs := [2]) (by kernel_rfl) (by simp) ?_
  refine AllReadyH.cons rfl (fun K hK => ?_) AllReadyH.nil
  rw [if_pos (by rfl)]
  go_simp
  refine (place_said fl r1 _).mono ?_
  rintro e wz ⟨rfl, rfl⟩
  refine hK.out _ _ ?_ (fun hHeldN => ?_)
  · exact hSk
  clear hK K hHeld
  have hHeld := hHeldN
  clear hHeldN
  (try simp only [Act.put, pu1, pu2, pu3, pu4, pu5, pu6])
  refine wpAnyH_ready (rs := [5]) (by kernel_rfl) (by simp) ?_
  refine AllReadyH.cons rfl (fun K hK => ?_) AllReadyH.nil
  rw [if_pos (by rfl)]
  go_simp
  refine (place_said fl' r2 _).mono ?_
  rintro e wz ⟨rfl, rfl⟩
  refine hK.out _ _ ?_ (fun hHeldN => ?_)
  · exact hSk
  clear hK K hHeld
  have hHeld := hHeldN
  clear hHeldN
  (try simp only [Act.put, pu1, pu2, pu3, pu4, pu5, pu6])
  refine wpAnyH_ready (rs := [6]) (by kernel_rfl) (by simp) ?_
  refine AllReadyH.cons rfl (fun K hK => ?_) AllReadyH.nil
  rw [if_pos (by rfl)]
  go_simp
  refine (numbers_said _ _ _).mono ?_
  rintro e wz ⟨rfl, rfl⟩
  refine hK.out _ _ ?_ (fun hHeldN => ?_)
  · exact hSk
  clear hK K hHeld
  have hHeld := hHeldN
  clear hHeldN
  (try simp only [Act.put, pu1, pu2, pu3, pu4, pu5, pu6])
  refine wpAnyH_take (i := 7) (v := ?vdf5) rfl (by kernel_rfl) (by kernel_rfl) (by kernel_rfl) (fun _ _ _ h => h) (.inl ⟨by rfl, ?hydf5⟩) (by assumption) ?restdf5
  case hydf5 => (intro w hSw; (try dsimp only at hSw); go_simp; first | done | with_reducible rfl)
  (try simp only [Act.put, pu1, pu2, pu3, pu4, pu5, pu6])
  refine wpAnyH_done (by kernel_rfl) ?_ _
  go_wp2_with fail
  go_ret
  exact ⟨rfl, hb2.drew⟩
end
end Go.Proofs.Ytgmdbpplfjkjmaa
