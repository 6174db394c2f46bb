/- Both maps answer alike, in the words of a walk; Each of no function; a Get of what can be no key. -/
import Derived.Test.YtgmdbpplfjkjmaaTold
import Derived.Test.YtgmdbpplfjkjmaaLawEach
namespace Go.Proofs.Ytgmdbpplfjkjmaa
open Go.RowKit
set_option linter.unusedVariables false
set_option linter.unusedSimpArgs false

section
variable {w0 w w1 w2 : World} {m : Nat} {o : Option Nat} {l : List PE} {d : Nat} {sv : Value} {qs : List QE}
def Eleven (ds : List Value) : Prop := ds.length = 11 ∧ ∀ u ∈ ds, u.oneCell' = true
theorem zero_eleven : Eleven zeroCells.toList := ⟨rfl, fun u hu => by
  simp only [zeroCells, List.mem_cons, List.not_mem_nil, or_false] at hu
  rcases hu with rfl | rfl | rfl | rfl | rfl | rfl | rfl | rfl | rfl | rfl | rfl <;> rfl⟩
theorem PutW.tup {B : Nat} {k v : Val} {e : Ending} (h : PutW B m o l k v w e w1) : ∃ x ok r, e = .returned (.tuple #[x, .bool ok, .int .i64 r]) := by
  rcases h with ⟨-, rfl, -⟩ | ⟨-, -, rfl, -⟩ | ⟨-, -, -, -, rfl, -⟩ | ⟨-, -, _, _, _, _, _, -, -, -, -, ⟨p, -, -, rfl, -⟩ | ⟨-, -, rfl⟩⟩ <;> exact ⟨_, _, _, rfl⟩
theorem GetW.tup {v : Val} {e : Ending} (h : GetW l v w e w1) : ∃ x ok, e = .returned (.tuple #[x, .bool ok]) := by
  rcases h with ⟨_, -, -, _, _, rfl, -⟩ | ⟨-, rfl, -⟩ <;> exact ⟨_, _, rfl⟩
theorem DelW.tup {B : Nat} {v : Val} {e : Ending} (h : DelW B m o l v w e w1) : ∃ x ok, e = .returned (.tuple #[x, .bool ok]) := by
  rcases h with ⟨_, -, -, rfl, -⟩ | ⟨-, rfl, -⟩ <;> exact ⟨_, _, rfl⟩
theorem QsOk.eleven {q : QE} (h : QsOk w qs) (hq : q ∈ qs) : Eleven q.vc := ⟨TRep.len (h q hq).2.1, TRep.ones (h q hq).2.1⟩
theorem DPutEnd.tup {t u : Term} {cs es : List Value} {e : Ending} (hd : DocM w0 w d sv qs) (h : DPutEnd w0 d sv qs t u cs es w e w1) : ∃ ds ok r, Eleven ds ∧ e = .returned (.tuple #[.agg ds.toArray, .bool ok, .int .i64 r]) := by
  rcases h with ⟨-, rfl, -⟩ | ⟨-, -, rfl, -⟩ | ⟨-, -, _, -, -, -, ⟨q, hq, -, rfl, -⟩ | ⟨-, -, rfl, -⟩ | ⟨-, -, rfl, -⟩⟩
  · exact ⟨zeroCells.toList, _, _, zero_eleven, rfl⟩
  · exact ⟨zeroCells.toList, _, _, zero_eleven, rfl⟩
  · exact ⟨q.vc, _, _, hd.ok.eleven (List.mem_of_getElem? hq), rfl⟩
  · exact ⟨zeroCells.toList, _, _, zero_eleven, rfl⟩
  · exact ⟨zeroCells.toList, _, _, zero_eleven, rfl⟩
theorem DGetEnd.tup {v : Val} {e : Ending} (hd : DocM w0 w d sv qs) (h : DGetEnd qs v w e w1) : ∃ ds ok, Eleven ds ∧ e = .returned (.tuple #[.agg ds.toArray, .bool ok]) := by
  rcases h.1 with ⟨q, hq, -, -, rfl⟩ | ⟨-, rfl⟩
  · exact ⟨q.vc, _, hd.ok.eleven hq, rfl⟩
  · exact ⟨zeroCells.toList, _, zero_eleven, rfl⟩
theorem DDelEnd.tup {v : Val} {e : Ending} (hd : DocM w0 w d sv qs) (h : DDelEnd w0 d sv qs v w e w1) : ∃ ds ok, Eleven ds ∧ e = .returned (.tuple #[.agg ds.toArray, .bool ok]) := by
  rcases h with ⟨-, i, q, hq, -, rfl, -⟩ | ⟨-, rfl, -⟩
  · exact ⟨q.vc, _, hd.ok.eleven (List.mem_of_getElem? hq), rfl⟩
  · exact ⟨zeroCells.toList, _, zero_eleven, rfl⟩
theorem tup3 {x y : Value} {a b : Bool} {r s : Int} (h : Ending.returned (.tuple #[x, .bool a, .int .i64 r]) = .returned (.tuple #[y, .bool b, .int .i64 s])) : x = y ∧ a = b ∧ r = s := by
  injection h with h; injection h with h
  have h1 := congrArg (fun z => z[0]?) h
  have h2 := congrArg (fun z => z[1]?) h
  have h3 := congrArg (fun z => z[2]?) h
  simp at h1 h2 h3
  exact ⟨h1, h2, h3⟩
theorem tup2 {x y : Value} {a b : Bool} (h : Ending.returned (.tuple #[x, .bool a]) = .returned (.tuple #[y, .bool b])) : x = y ∧ a = b := by
  injection h with h; injection h with h
  have h1 := congrArg (fun z => z[0]?) h
  have h2 := congrArg (fun z => z[1]?) h
  simp at h1 h2
  exact ⟨h1, h2⟩
theorem agg_list {a b : List Value} (h : Value.agg a.toArray = .agg b.toArray) : a = b := by
  injection h with h
  simpa using h
/-- How both maps stand behind an operation on both. -/
structure Moved (w0 w w2 : World) (m : Nat) (o : Option Nat) (l : List PE) (d : Nat) (sv : Value) (x : Value) (ok : Bool) (ds : List Value) : Prop where
  ex : ∃ o' l' sv' qs', Both w0 w2 m o' l' d sv' qs' ∧ (∀ b, OfM m o' l' b → OfM m o l b ∨ w.heap.size ≤ b) ∧ (∀ b, OfD d sv' b → OfD d sv b ∨ w.heap.size ≤ b) ∧ ToldW w0 w2 m o' l' d sv' (fun b => OfM m o l b ∨ w.heap.size ≤ b) x ok ds
  bel : Below w0.heap.size w w2
  but : But (fun b => OfM m o l b ∨ OfD d sv b) w w2
theorem ToldW.mono {Z Z' : Nat → Prop} {x : Value} {ok : Bool} {cs : List Value} (h : ToldW w0 w m o l d sv Z x ok cs) (hz : ∀ b, Z b → Z' b) : ToldW w0 w m o l d sv Z' x ok cs := by
  rcases h with h | ⟨h1, t, fs, h2, h3, h4, h5, h6⟩
  · exact .inl h
  · exact .inr ⟨h1, t, fs, h2, h3, h4, h5, fun b hb => by obtain ⟨a1, a2, a3, a4⟩ := h6 b hb; exact ⟨a1, a2, a3, hz b a4⟩⟩
theorem Both.put2 (h : Both w0 w m o l d sv qs) {t u : Term} {cs es : List Value} {x : Value} {ok ok2 : Bool} {r r2 : Int} {ds : List Value} (ht : TRep w0 t cs) (hu : TRep w0 u es) (hP : PutW w0.heap.size m o l (builtV t) (builtV u) w (.returned (.tuple #[x, .bool ok, .int .i64 r])) w1)
    (hD : DPutEnd w0 d sv qs t u cs es w1 (.returned (.tuple #[.agg ds.toArray, .bool ok2, .int .i64 r2])) w2) : ok2 = ok ∧ r2 = r ∧ Moved w0 w w2 m o l d sv x ok ds := by
  obtain ⟨o', l', sv', qs', x', ok', r', ds', hB, hbel, hbut, h1, h2, e1, e2, hT⟩ := h.put ht hu hP hD
  obtain ⟨rfl, rfl, rfl⟩ := tup3 e1
  obtain ⟨e3, rfl, rfl⟩ := tup3 e2
  obtain rfl := agg_list e3
  exact ⟨rfl, rfl, ⟨o', l', sv', qs', hB, h1, h2, hT.mono (fun b hb => .inl hb)⟩, hbel, hbut⟩
theorem Both.get2 (h : Both w0 w m o l d sv qs) {t : Term} {cs : List Value} {x : Value} {ok ok2 : Bool} {ds : List Value} (ht : TRep w0 t cs) (hP : GetW l (builtV t) w (.returned (.tuple #[x, .bool ok])) w1)
    (hD : DGetEnd qs (builtV t) w1 (.returned (.tuple #[.agg ds.toArray, .bool ok2])) w2) : ok2 = ok ∧ Moved w0 w w2 m o l d sv x ok ds := by
  obtain ⟨x', ok', ds', hb, e1, e2, hT⟩ := h.get ht hP hD
  obtain ⟨rfl, rfl⟩ := tup2 e1
  obtain ⟨e3, rfl⟩ := tup2 e2
  obtain rfl := agg_list e3
  exact ⟨rfl, ⟨o, l, sv, qs, h.below hb, fun b hb => .inl hb, fun b hb => .inl hb, hT.mono (fun b hb => .inr hb)⟩, hb.mono h.dm.bel.size, (But.refl _ w).of_below hb (fun i hi hle => by omega)⟩
theorem Both.del2 (h : Both w0 w m o l d sv qs) {t : Term} {cs : List Value} {x : Value} {ok ok2 : Bool} {ds : List Value} (ht : TRep w0 t cs) (hP : DelW w0.heap.size m o l (builtV t) w (.returned (.tuple #[x, .bool ok])) w1)
    (hD : DDelEnd w0 d sv qs (builtV t) w1 (.returned (.tuple #[.agg ds.toArray, .bool ok2])) w2) : ok2 = ok ∧ Moved w0 w w2 m o l d sv x ok ds := by
  obtain ⟨l', sv', qs', x', ok', ds', hB, hbut, h1, h2, e1, e2, hT⟩ := h.del ht hP hD
  obtain ⟨rfl, rfl⟩ := tup2 e1
  obtain ⟨e3, rfl⟩ := tup2 e2
  obtain rfl := agg_list e3
  exact ⟨rfl, ⟨o, l', sv', qs', hB, fun b hb => .inl (h1 b hb), h2, hT.mono (fun b hb => .inl hb)⟩, But.below' hbut h.dm.bel.size (fun i hi ho => by
    rcases ho with ho | ho
    · have := (h.mw.lt i ho).1; omega
    · have := (h.dm.lts i ho).1; omega), hbut⟩
theorem Both.mid_del (h : Both w0 w m o l d sv qs) {v : Val} {e : Ending} (hP : DelW w0.heap.size m o l v w e w1) : DocM w0 w1 d sv qs := h.doc_mid hP.but
theorem func_bad : okB (.alien 1) = false := by decide
/-- A Get of a function. -/
theorem get_func (h : MapW w0.heap.size w m o l) (y : Value) : Calls Try.prog 22 #[.pointer (some ⟨m, 0, none⟩), .iface 1 y] w fun e w' => e = .returned (.tuple #[.nilIface, .bool false]) ∧ Below w.heap.size w w' := by
  refine (mapW_get h (v := .alien 1) (fs := []) (show VRep w (.alien 1) (.iface 1 y) [] from ⟨y, rfl, by decide, rfl⟩) (by simp [numsV])).mono ?_
  rintro e w' (⟨p, hp, hk, -⟩ | ⟨-, he, hb⟩)
  · have := (h.reps p hp).2.2.1
    rw [hk, func_bad] at this
    cases this
  · exact ⟨he, hb⟩
end
/-- Behind an operation on both maps, the law's 'told' and a Spoil of what was told. -/
theorem Moved.after {w0 w2 w4 w5 : World} {m : Nat} {o : Option Nat} {l : List PE} {d : Nat} {sv : Value} {x : Value} {ok : Bool} {ds : List Value} (h : Moved w0 w2 w4 m o l d sv x ok ds) (h0 : w0.heap.size ≤ w2.heap.size) (h5 : Below w4.heap.size w4 w5) :
    ∃ v fs, VRep w5 v x fs ∧ smallV v ∧ fs.Nodup ∧ ∀ w6, But (fun b => b ∈ fs) w5 w6 → ∃ o' l' sv' qs', Both w0 w6 m o' l' d sv' qs' ∧ (∀ b, OfM m o' l' b ∨ OfD d sv' b → (OfM m o l b ∨ OfD d sv b) ∨ w2.heap.size ≤ b) ∧ But (fun b => OfM m o l b ∨ OfD d sv b) w2 w6 := by
  obtain ⟨o', l', sv', qs', hB, h1, h2, hT⟩ := h.ex
  obtain ⟨v, fs, a1, a2, a3, a4⟩ := hT.spoil
  refine ⟨v, fs, a1.but (below_but0 h5) (fun _ _ f => f), a2, a3, fun w6 h6 => ⟨o', l', sv', qs', ?_, fun b hb => ?_, ?_⟩⟩
  · refine (hB.below h5).keep (h6.mono (fun i _ hi => ?_))
    obtain ⟨b1, b2, b3, -⟩ := a4 i hi
    exact ⟨b2, b3, b1⟩
  · rcases hb with hb | hb
    · exact (h1 b hb).elim (fun h => .inl (.inl h)) .inr
    · exact (h2 b hb).elim (fun h => .inl (.inr h)) .inr
  · have hs := h.but.size
    refine (h.but.of_below h5 (fun i hi hle => by omega)).then h6 (fun i hi hf => ?_)
    obtain ⟨-, -, -, hz⟩ := a4 i hf
    rcases hz with hz | hz
    · exact .inl hz
    · omega
theorem ToldW.below {w0 w w1 : World} {m : Nat} {o : Option Nat} {l : List PE} {d : Nat} {sv : Value} {Z : Nat → Prop} {x : Value} {ok : Bool} {cs : List Value} (h : ToldW w0 w m o l d sv Z x ok cs) (hb : Below w.heap.size w w1) : ToldW w0 w1 m o l d sv Z x ok cs := by
  rcases h with h | ⟨h1, t, fs, h2, h3, h4⟩
  · exact .inl h
  · exact .inr ⟨h1, t, fs, h2, h3.but (below_but0 hb) (fun _ _ f => f), h4⟩
/-- 'told' of what both maps told. -/
theorem Moved.told {w0 w2 w4 w5 : World} {m : Nat} {o : Option Nat} {l : List PE} {d : Nat} {sv : Value} {x : Value} {ok : Bool} {ds : List Value} (h : Moved w0 w2 w4 m o l d sv x ok ds) (h0 : Below w0.heap.size w0 w2) (h5 : Below w4.heap.size w4 w5) :
    Calls Try.prog 21 #[x, .bool ok, .agg ds.toArray, .bool ok] w5 fun e w' => e = .returned (.bool true) ∧ Below w5.heap.size w5 w' := by
  obtain ⟨o', l', sv', qs', hB, h1, h2, hT⟩ := h.ex
  exact told_said (hT.below h5) (hB.dm.bel.trans (h5.mono hB.dm.bel.size))
theorem Both.tail {w0 w2 wb : World} {m : Nat} {o o' : Option Nat} {l l' : List PE} {d : Nat} {sv sv' : Value} {qs' : List QE} {v u : Val} {z y : Value} {gz gy : List Nat} {lo : Nat} (hB : Both w0 wb m o' l' d sv' qs') (hbut : But (fun b => OfM m o l b ∨ OfD d sv b) w2 wb)
    (hof : ∀ b, OfM m o' l' b ∨ OfD d sv' b → (OfM m o l b ∨ OfD d sv b) ∨ w2.heap.size ≤ b) (hlo : ∀ b, OfM m o l b ∨ OfD d sv b → b < lo) (hz : VRep w2 v z gz) (hy : VRep w2 u y gy) (hr : ∀ b, b ∈ gz ∨ b ∈ gy → lo ≤ b ∧ b < w2.heap.size)
    (hdis : ∀ b ∈ gz, b ∉ gy) (h0 : w0.heap.size ≤ lo) :
    VRep wb v z gz ∧ ∀ X, But (fun b => b ∈ gz) wb X → VRep X u y gy ∧ ∀ Y, But (fun b => b ∈ gy) X Y → Both w0 Y m o' l' d sv' qs' := by
  have hno : ∀ b, b ∈ gz ∨ b ∈ gy → ¬ OfM m o' l' b ∧ ¬ OfD d sv' b ∧ w0.heap.size ≤ b := fun b hb => by
    have h1 := hr b hb
    refine ⟨fun h => ?_, fun h => ?_, by omega⟩
    · rcases hof b (.inl h) with h | h
      · have := hlo b h; omega
      · omega
    · rcases hof b (.inr h) with h | h
      · have := hlo b h; omega
      · omega
  refine ⟨hz.but hbut (fun b hb h => by have := hr b (.inl hb); have := hlo b h; omega), fun X hX => ⟨(hy.but hbut (fun b hb h => by have := hr b (.inr hb); have := hlo b h; omega)).but hX (fun b hb h => hdis b h hb), fun Y hY => ?_⟩⟩
  exact (hB.keep (hX.mono (fun i _ hi => hno i (.inl hi)))).keep (hY.mono (fun i _ hi => hno i (.inr hi)))
@[go_sem] theorem eql_nilfn (W : World) : (binOp .eql 59 .nilFunc .nilFunc).run Try.prog W = .ok (.bool true) W := by kernel_rfl
set_option maxRecDepth 100000 in
theorem each_nofn (m : Nat) (w : World) : Calls Try.prog 18 #[.pointer (some ⟨m, 0, none⟩), .nilFunc] w fun e w' => e = .returned (.int .i64 1) ∧ Below w.heap.size w w' := by
  have hb := Lib.hid (show ∀ cs, Below w.heap.size w (w.alloc (.cells cs 33)) from fun cs => (Below.refl _ _).alloc (Nat.le_refl _) _)
  go_enter_defers Try.func18, Try.ntmps18
  go_wp2
  exact ⟨.int .i64 1, by simp [results, Try.results18, go_sem], rfl, hb.out _⟩
end Go.Proofs.Ytgmdbpplfjkjmaa
