/- A ghost by itself whose fetch counts and always answers one record: what it is asked. -/
import Derived.Test.YtpcbdjfonmohaaaLives
namespace Go.Proofs.Ytpcbdjfonmohaaa
open Go.RowKit
set_option linter.unusedVariables false
set_option linter.unusedSimpArgs false

/-- The ghost g, with or without its record; nb: a block that is not its own. -/
def Lone (w : World) (g : Nat) (id : Int) (fv : Value) (v : Val) (nb : Nat) : Bool → Prop
  | false => ∃ last, w.heap[g]? = some (ghostObj id fv none false last none)
  | true => ∃ b fs, w.heap[g]? = some (ghostObj id fv (some ⟨b, 0, none⟩) false 0 none) ∧ VRep w v (.iface 37 (.pointer (some ⟨b, 0, none⟩))) fs ∧ ∀ k ∈ fs, k ≠ g ∧ k ≠ nb
theorem Lone.but {S : Nat → Prop} {w w' : World} {g : Nat} {id : Int} {fv : Value} {v : Val} {nb : Nat} {has : Bool} (h : Lone w g id fv v nb has) (hb : But S w w') (hg : ¬ S g) (hs : ∀ k, S k → k < w.heap.size → k = g ∨ k = nb) : Lone w' g id fv v nb has := by
  cases has with
  | false =>
    obtain ⟨last, h⟩ := h
    exact ⟨last, (hb.block g (Array.getElem?_eq_some_iff.1 h).1 hg).trans h⟩
  | true =>
    obtain ⟨b, fs, h, hv, hfs⟩ := h
    exact ⟨b, fs, (hb.block g (Array.getElem?_eq_some_iff.1 h).1 hg).trans h, hv.but hb (fun k hk hsk => by
      have := hs k hsk (VRep.lt _ _ _ hv k hk)
      have := hfs k hk
      omega), hfs⟩

/-- A ghost whose fetches are counted in nb. -/
structure Cted (id : Int) (fv : Value) (v : Val) (nb g : Nat) (Pre : World → Prop) (w : World) (k : Int) (has : Bool) : Prop where
  cnt : w.heap[nb]? = some (intObj k)
  lone : Lone w g id fv v nb has
  ne : ¬ nb = g
  pre : Pre w

section
variable {F : FuncId} {caps : Array Value} {id : Int} {v : Val} {nb g : Nat} {Pre : World → Prop}
/-- What is known of the fetch. -/
structure Counts (F : FuncId) (caps : Array Value) (id : Int) (v : Val) (nb g : Nat) (Pre : World → Prop) : Prop where
  enters : ∀ (args : Array Value) (W : World), (callFunc F args).run Try.prog W = .ok (.enter F args) W
  ok : okB v = true
  isrec : ∃ c n d, v = .record c n d
  fetch : ∀ (w : World) (gb : Obj) (k : Int), Pre w → w.heap[nb]? = some (intObj k) → ¬ nb = g → Fetching F caps id w g gb (· = nb) (.gives v) (fun _ W' => W'.heap[nb]? = some (intObj (wrap64 (k + 1))))
  keep : ∀ (w w' : World), Pre w → But (fun b => b = nb ∨ b = g) w w' → Pre w'
variable (hC : Counts F caps id v nb g Pre)
include hC
theorem Counts.why : (Got.gives v).why = 0 := why_ok hC.ok
/-- The count behind an ask. -/
def cntBy (k : Int) : Bool → Int
  | true => k
  | false => wrap64 (k + 1)
theorem Cted.but {w w' : World} {k : Int} {has : Bool} (h : Cted id (.func (.func F) #[] caps) v nb g Pre w k has) (hb : But (fun _ => False) w w') : Cted id (.func (.func F) #[] caps) v nb g Pre w' k has :=
  ⟨(hb.block nb (Array.getElem?_eq_some_iff.1 h.cnt).1 (fun f => f)).trans h.cnt, h.lone.but hb (fun f => f) (fun _ f => f.elim), h.ne, hC.keep w w' h.pre (hb.mono (fun _ _ f => f.elim))⟩
theorem Cted.loaded {w w'' : World} {k last : Int} (h : Cted id (.func (.func F) #[] caps) v nb g Pre w k false) (hL : Loads (.gives v) w g id (.func (.func F) #[] caps) (· = nb) (fun _ W' => W'.heap[nb]? = some (intObj (wrap64 (k + 1)))) w'') :
    Cted id (.func (.func F) #[] caps) v nb g Pre w'' (wrap64 (k + 1)) true ∧ But (fun b => b = nb ∨ b = g) w w'' := by
  obtain ⟨hb, ⟨W, -, hn⟩, hz, -⟩ := hL
  obtain ⟨b, v', fs, e, -, hg, hv, -, hfs⟩ := hz (Counts.why hC)
  cases e
  have hlt := (Array.getElem?_eq_some_iff.1 h.cnt).1
  obtain ⟨last, hg0⟩ := h.lone
  have hglt := (Array.getElem?_eq_some_iff.1 hg0).1
  have hb' : But (fun b => b = nb ∨ b = g) w w'' := hb.mono (fun i _ h => by omega)
  exact ⟨⟨hn, ⟨b, fs, hg, hv, fun j hj => by have := hfs j hj; omega⟩, h.ne, hC.keep _ _ h.pre hb'⟩, hb'⟩
theorem load_cted {w : World} {k : Int} {has : Bool} (h : Cted id (.func (.func F) #[] caps) v nb g Pre w k has) :
    Calls Try.prog 78 #[.pointer (some ⟨g, 0, none⟩)] w fun e w' => e = .returned (.int .i64 0) ∧ Cted id (.func (.func F) #[] caps) v nb g Pre w' (cntBy k has) true ∧ But (fun b => b = nb ∨ b = g) w w' := by
  cases has with
  | true =>
    obtain ⟨b, fs, hg, hv, hfs⟩ := h.lone
    refine (load_held _ w g id 0 _ hg).mono ?_
    rintro e w' ⟨rfl, rfl⟩
    exact ⟨rfl, h, But.refl _ _⟩
  | false =>
    obtain ⟨last, hg⟩ := h.lone
    refine (load_fetch F caps w g id last hg hC.enters (· = nb) (fun e => h.ne e.symm) (.gives v) hC.isrec _ (hC.fetch w _ k h.pre h.cnt h.ne) ?_).mono ?_
    · intro W W' W'' hr hb
      have hl := (Array.getElem?_eq_some_iff.1 h.cnt).1
      have hl' := (Array.getElem?_eq_some_iff.1 hr).1
      exact (hb.block nb hl' (by have := h.ne; omega)).trans hr
    · rintro e w' ⟨rfl, hL⟩
      have := Cted.loaded (last := 0) hC h hL
      exact ⟨by rw [Counts.why hC], this.1, this.2⟩
theorem asked_cted {w : World} {k : Int} {has : Bool} (h : Cted id (.func (.func F) #[] caps) v nb g Pre w k has) :
    Calls Try.prog 74 #[.pointer (some ⟨g, 0, none⟩)] w fun e w' => ∃ b fs, e = .returned (.pointer (some ⟨b, 0, none⟩)) ∧ (Cted id (.func (.func F) #[] caps) v nb g Pre w' (cntBy k has) true ∧ But (fun b => b = nb ∨ b = g) w w') ∧ VRep w' v (.iface 37 (.pointer (some ⟨b, 0, none⟩))) fs := by
  cases has with
  | true =>
    obtain ⟨b, fs, hg, hv, hfs⟩ := h.lone
    refine (asked_held _ w g id 0 _ hg).mono ?_
    rintro e w' ⟨rfl, rfl⟩
    exact ⟨b, fs, rfl, ⟨h, But.refl _ _⟩, hv⟩
  | false =>
    obtain ⟨last, hg⟩ := h.lone
    refine (asked_fetch F caps w g id last hg hC.enters (· = nb) (fun e => h.ne e.symm) (.gives v) hC.isrec _ (hC.fetch w _ k h.pre h.cnt h.ne) ?_).mono ?_
    · intro W W' W'' hr hb
      have hl := (Array.getElem?_eq_some_iff.1 h.cnt).1
      have hl' := (Array.getElem?_eq_some_iff.1 hr).1
      exact (hb.block nb hl' (by have := h.ne; omega)).trans hr
    · rintro e w' ⟨⟨he, -⟩, hL⟩
      obtain ⟨b, rfl, hgb⟩ := he (Counts.why hC)
      have := Cted.loaded (last := 0) hC h hL
      obtain ⟨b', v', fs, ev, -, hg', hv, -⟩ := hL.2.2.1 (Counts.why hC)
      cases ev
      have eb := hgb.symm.trans hg'
      simp [ghostObj] at eb
      subst eb
      exact ⟨b, fs, rfl, this, hv⟩
theorem Load_cted {w : World} {k : Int} {has : Bool} (h : Cted id (.func (.func F) #[] caps) v nb g Pre w k has) :
    Calls Try.prog 26 #[.pointer (some ⟨g, 0, none⟩)] w fun e w' => e = .returned (.int .i64 0) ∧ Cted id (.func (.func F) #[] caps) v nb g Pre w' (cntBy k has) true ∧ But (fun b => b = nb ∨ b = g) w w' := by
  refine (Load_of w g (fun n w' => n = 0 ∧ Cted id (.func (.func F) #[] caps) v nb g Pre w' (cntBy k has) true ∧ But (fun b => b = nb ∨ b = g) w w') ((load_cted hC h).mono ?_)).mono ?_
  · rintro e w' ⟨rfl, h⟩; exact ⟨0, rfl, rfl, h⟩
  · rintro e w' ⟨n, rfl, rfl, h⟩; exact ⟨rfl, h⟩
theorem Forget_cted {w : World} {k : Int} {has : Bool} (h : Cted id (.func (.func F) #[] caps) v nb g Pre w k has) :
    Calls Try.prog 27 #[.pointer (some ⟨g, 0, none⟩)] w fun e w' => e = .returned (.int .i64 0) ∧ Cted id (.func (.func F) #[] caps) v nb g Pre w' k false ∧ But (fun b => b = nb ∨ b = g) w w' := by
  obtain ⟨r, last, hg⟩ : ∃ r last, w.heap[g]? = some (ghostObj id (.func (.func F) #[] caps) r false last none) := by
    cases has with
    | true => obtain ⟨b, fs, hg, -⟩ := h.lone; exact ⟨_, _, hg⟩
    | false => obtain ⟨last, hg⟩ := h.lone; exact ⟨_, _, hg⟩
  refine (Forget_of w g (fun n w' => n = 0 ∧ Cted id (.func (.func F) #[] caps) v nb g Pre w' k false ∧ But (fun b => b = nb ∨ b = g) w w') ((forget_said _ w g id last r hg).mono ?_)).mono ?_
  · rintro e w' ⟨rfl, hg', hb⟩
    have hb' : But (fun b => b = nb ∨ b = g) w w' := hb.mono (fun _ _ h => .inr h)
    exact ⟨0, rfl, rfl, ⟨(hb.block nb (Array.getElem?_eq_some_iff.1 h.cnt).1 h.ne).trans h.cnt, ⟨last, hg'⟩, h.ne, hC.keep _ _ h.pre hb'⟩, hb'⟩
  · rintro e w' ⟨n, rfl, rfl, h⟩; exact ⟨rfl, h⟩
end
section
variable {F : FuncId} {caps : Array Value} {id : Int} {v : Val} {nb g : Nat} {Pre : World → Prop}
theorem Loaded_cted {w : World} {k : Int} {has : Bool} (h : Cted id (.func (.func F) #[] caps) v nb g Pre w k has) :
    Calls Try.prog 28 #[.pointer (some ⟨g, 0, none⟩)] w fun e w' => e = .returned (.bool has) ∧ w' = w := by
  cases has with
  | true => obtain ⟨b, fs, hg, -⟩ := h.lone; exact Loaded_said _ w g id _ _ _ _ hg
  | false => obtain ⟨last, hg⟩ := h.lone; exact Loaded_said _ w g id _ _ _ _ hg
theorem Last_cted {w : World} {k : Int} (h : Cted id (.func (.func F) #[] caps) v nb g Pre w k true) :
    Calls Try.prog 29 #[.pointer (some ⟨g, 0, none⟩)] w fun e w' => e = .returned (.int .i64 0) ∧ w' = w := by
  obtain ⟨b, fs, hg, -⟩ := h.lone; exact Last_said _ w g id _ _ _ _ hg
end
section
variable {F : FuncId} {caps : Array Value} {id : Int} {c : ByteArray} {n : Int} {d : List (ByteArray × Val)} {nb g : Nat} {Pre : World → Prop}
variable (hC : Counts F caps id (.record c n d) nb g Pre)
include hC
theorem Class_cted {w : World} {k : Int} {has : Bool} (h : Cted id (.func (.func F) #[] caps) (.record c n d) nb g Pre w k has) :
    Calls Try.prog 24 #[.pointer (some ⟨g, 0, none⟩)] w fun e w' => e = .returned (.string c) ∧ Cted id (.func (.func F) #[] caps) (.record c n d) nb g Pre w' (cntBy k has) true ∧ But (fun b => b = nb ∨ b = g) w w' :=
  Class_has w g c n d _ (asked_cted hC h)
theorem Version_cted {w : World} {k : Int} {has : Bool} (h : Cted id (.func (.func F) #[] caps) (.record c n d) nb g Pre w k has) :
    Calls Try.prog 25 #[.pointer (some ⟨g, 0, none⟩)] w fun e w' => e = .returned (.int .i64 n) ∧ Cted id (.func (.func F) #[] caps) (.record c n d) nb g Pre w' (cntBy k has) true ∧ But (fun b => b = nb ∨ b = g) w w' :=
  Version_has w g c n d _ (asked_cted hC h)
theorem Get_cted {w : World} {k : Int} {has : Bool} (name : ByteArray) (h : Cted id (.func (.func F) #[] caps) (.record c n d) nb g Pre w k has) :
    Calls Try.prog 23 #[.pointer (some ⟨g, 0, none⟩), .string name] w (GetEnd (fieldOf d name) fun w' => Cted id (.func (.func F) #[] caps) (.record c n d) nb g Pre w' (cntBy k has) true ∧ But (fun b => b = nb ∨ b = g) w w') := by
  have hlt := (Array.getElem?_eq_some_iff.1 h.cnt).1
  have hgl : g < w.heap.size := by
    cases has with
    | true => obtain ⟨b, fs, hg, -⟩ := h.lone; exact (Array.getElem?_eq_some_iff.1 hg).1
    | false => obtain ⟨last, hg⟩ := h.lone; exact (Array.getElem?_eq_some_iff.1 hg).1
  refine Get_has w g c n d name _ ((asked_cted hC (Cted.but hC h ((But.refl _ w).alloc (.cells #[.string name] 9)))).mono ?_)
  rintro e w' ⟨b, fs, rfl, ⟨h1, hb⟩, hv⟩
  refine ⟨b, fs, rfl, ⟨⟨h1, (((But.refl _ w).alloc (.cells #[.string name] 9))).trans hb⟩, ?_⟩, hv⟩
  have e1 := hb.block w.heap.size (by simp) (by omega)
  have e2 : (w.alloc (.cells #[.string name] 9)).heap[w.heap.size]? = some (.cells #[.string name] 9 (0, 0)) := heap_alloc_at _ rfl
  exact oneCellAt (e1.trans e2)
end
end Go.Proofs.Ytpcbdjfonmohaaa
