/- tenonlaw12.lives: the document's first example. -/
import Derived.Test.YtpcbdjfonmohaaaGet
namespace Go.Proofs.Ytpcbdjfonmohaaa
open Go.RowKit
set_option linter.unusedVariables false
set_option linter.unusedSimpArgs false

/-- A counter in memory. -/
def intObj (n : Int) : Obj := .cells #[.int .i64 n] 3 (0, 0)
theorem intCell {w : World} {b : Nat} {n : Int} (h : w.heap[b]? = some (intObj n)) : w.cell? ⟨b, 0, none⟩ = some (.int .i64 n) ∧ b < w.heap.size ∧ w.frozen? ⟨b, 0, none⟩ = false := by
  unfold intObj at h
  exact ⟨by simp [World.cell?, h], (Array.getElem?_eq_some_iff.1 h).1, by simp [World.frozen?, h]⟩
def sAnn : ByteArray := { data := #[97, 110, 110] }
def sName : ByteArray := { data := #[110, 97, 109, 101] }
def sAge : ByteArray := { data := #[97, 103, 101] }
def sPerson : ByteArray := { data := #[112, 101, 114, 115, 111, 110] }
/-- The first example's record. -/
def annD : List (ByteArray × Val) := [(sName, .text sAnn)]
def annV : Val := .record sPerson 1 annD
theorem annV_ok : okB annV = true := by kernel_rfl
/-- A record that was just made of one field's row. -/
theorem ann_rep (w : World) : VRep ((w.alloc (.cells #[.string sName, .iface 9 (.string sAnn)] 133)).alloc (.cells #[.string sPerson, .int .i64 1, .slice (some ⟨w.heap.size, 0, none⟩) 1 1] 65)) annV (.iface 37 (.pointer (some ⟨w.heap.size + 1, 0, none⟩))) [w.heap.size + 1, w.heap.size] := by
  refine ⟨w.heap.size + 1, _, [.string sName, .iface 9 (.string sAnn)], [], rfl, heap_alloc_at _ (by simp), by simp [sPerson, maxLen, ByteArray.size], by kernel_rfl, ?_, ?_, rfl⟩
  · refine ⟨rfl, .inr ⟨w.heap.size, 1, #[.string sName, .iface 9 (.string sAnn)], rfl, Nat.zero_le _, ?_, Nat.le_refl _, by simp [maxLen], rfl, rfl⟩⟩
    exact (Below.heap_alloc _ _ _ (by simp)).trans (heap_alloc_at _ rfl)
  · exact ⟨_, [], [], [], rfl, by simp [sName, maxLen, ByteArray.size], ⟨rfl, by simp [sAnn, maxLen, ByteArray.size], rfl⟩, ⟨rfl, rfl⟩, rfl⟩
set_option maxRecDepth 100000 in
theorem lives1_said (nb : Nat) (k : Int) (w : World) (id : Int) (h : w.heap[nb]? = some (intObj k)) :
    Calls Try.prog 72 #[.int .u64 id, .pointer (some ⟨nb, 0, none⟩)] w fun e w' => But (· = nb) w w' ∧ w'.heap[nb]? = some (intObj (wrap64 (k + 1))) ∧ e = .returned (.tuple #[.pointer (some ⟨w.heap.size + 1, 0, none⟩), .int .i64 0]) ∧ VRep w' annV (.iface 37 (.pointer (some ⟨w.heap.size + 1, 0, none⟩))) [w.heap.size + 1, w.heap.size] := by
  obtain ⟨n0, nlt, nfz⟩ := intCell h
  have hH := Lib.hid h
  clear h
  go_enter Try.func72, Try.ntmps72
  go_wp2
  go_ret2
  refine ⟨(((But.refl (· = nb) w).setCell (p := ⟨nb, 0, none⟩) (fun _ => rfl) _).alloc _).alloc _, ?_, rfl, ?_⟩
  · rw [Below.heap_alloc _ _ _ (by simp only [size_alloc, size_setCell]; omega), Below.heap_alloc _ _ _ (by simp only [size_setCell]; omega)]
    exact setCell_block hH.out 0 _
  · have := ann_rep (w.setCell ⟨nb, 0, none⟩ (.int .i64 (wrap64 (k + 1))))
    rw [size_setCell] at this
    exact this
theorem lives_fetch (nb : Nat) (k : Int) (w : World) (g : Nat) (gb : Obj) (id : Int) (h : w.heap[nb]? = some (intObj k)) (hg : ¬ nb = g) :
    Fetching 72 #[.pointer (some ⟨nb, 0, none⟩)] id w g gb (· = nb) (.gives annV) (fun _ W' => W'.heap[nb]? = some (intObj (wrap64 (k + 1)))) := by
  intro W hW hgW
  have hlt := (Array.getElem?_eq_some_iff.1 h).1
  refine (lives1_said nb k W id ((hW.block nb hlt hg).trans h)).mono ?_
  rintro e W' ⟨hb, hn, rfl, hv⟩
  exact ⟨hb.mono (fun i _ h => ⟨h, by omega⟩), ⟨_, _, rfl, hv, fun b hb => .inr (by simp at hb; omega)⟩, hn⟩
end Go.Proofs.Ytpcbdjfonmohaaa
