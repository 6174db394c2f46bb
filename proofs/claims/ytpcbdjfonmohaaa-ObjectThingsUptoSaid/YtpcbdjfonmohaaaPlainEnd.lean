/- tenonmake.plain of any value. -/
import Derived.Test.YtpcbdjfonmohaaaPlainL
import Derived.Test.YtpcbdjfonmohaaaPlainR
import Derived.Test.YtpcbdjfonmohaaaPlainB
namespace Go.Proofs.Ytpcbdjfonmohaaa
open Go.RowKit
set_option linter.unusedVariables false
set_option linter.unusedSimpArgs false

theorem plain_any : ∀ v, PlainSaid v := val_ind fun v ih => by
  cases v with
  | nil => exact plain_nil
  | bool b => exact plain_bool b
  | int n => exact plain_int n
  | float b => exact plain_float b
  | text s => exact plain_text s
  | bytes l => exact plain_bytes l
  | ref n => exact plain_ref n
  | list l => exact plain_list l ih
  | dict d => exact plain_dict d ih
  | record s n d => exact plain_record s n d ih
  | nothing => exact plain_nothing
  | alien u => exact plain_alien u
/-- What Built makes of a small term is small. -/
theorem small_built {w : World} : ∀ (t : Term), (∀ cs, TRep w t cs → smallV (builtV t)) := term_all fun t ih => by
  obtain ⟨k, b, n, fl, tx, bs, rf, ls, es, cl, ver⟩ := t
  intro cs h
  simp only [TRep] at h
  obtain ⟨sb, sl, se, xl, xe, rfl, -, ⟨_, _, _, _, _, hb, _⟩, ⟨_, _, _, _, _, hl, _⟩, hls, ⟨_, _, _, _, _, he, _⟩, hes⟩ := h
  have hVs : ∀ (l : List Term) (xs : List Value), TsRep w l xs → (∀ u ∈ l, ∀ cs, TRep w u cs → smallV (builtV u)) → smallVs (builtVs l) := by
    intro l
    induction l with
    | nil => intro xs _ _; rw [builtVs, smallVs]; trivial
    | cons u l il =>
      rintro xs ⟨cs, ys, -, h1, h2⟩ hu
      rw [builtVs, smallVs]
      exact ⟨hu u List.mem_cons_self cs h1, il ys h2 (fun v hv => hu v (List.mem_cons_of_mem _ hv))⟩
  have hDs : ∀ (l : List (ByteArray × Term)) (xs : List Value), EsRep w l xs → (∀ u ∈ l.map (·.2), ∀ cs, TRep w u cs → smallV (builtV u)) → smallDs (builtEs l) := by
    intro l
    induction l with
    | nil => intro xs _ _; rw [builtEs, smallDs]; trivial
    | cons p l il =>
      obtain ⟨s, u⟩ := p
      rintro xs ⟨cs, ys, -, -, h1, h2⟩ hu
      rw [builtEs, builtE, smallDs, smallP]
      exact ⟨hu u (by simp) cs h1, il ys h2 (fun v hv => hu v (List.mem_cons_of_mem _ hv))⟩
  have h1 := hVs ls xl hls (fun u hu => ih u (List.mem_append_left _ hu))
  have h2 := hDs es xe hes (fun u hu => ih u (List.mem_append_right _ hu))
  have hl' : (builtVs ls).length ≤ 1048576 := by rw [builtVs_eq, List.length_map]; exact hl
  have he' : (builtEs es).length ≤ 1048576 := by rw [builtEs_eq, List.length_map]; exact he
  rw [builtV]
  cases (k == 1) <;> cases (k == 2) <;> cases (k == 3) <;> cases (k == 4) <;> cases (k == 5) <;> cases (k == 6) <;> cases (k == 7) <;> cases (k == 8) <;> cases (k == 9) <;> cases (k == 10) <;> cases (k == 11) <;> simp only [cond_true, cond_false, smallV] <;> first | trivial | exact hb | exact ⟨hl', h1⟩ | exact ⟨he', h2⟩
end Go.Proofs.Ytpcbdjfonmohaaa
