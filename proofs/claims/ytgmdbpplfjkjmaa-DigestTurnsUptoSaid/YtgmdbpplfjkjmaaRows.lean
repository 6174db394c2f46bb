/-
  NARROWER THAN 'FOR EVERY INPUT', by the rows' own cells (each row's printed sentence says how): DigestGroups: loops · DigestPanics: loops · DigestMaps: loops · DigestTurns: loops · HeapConverse: loops.
  DERIVED. THE GIVEN ROWS OF THIS SEAT. 8 by the template 'for every input the law returns true; each argument reads behind the call as it read before'; 0 by the template 'total and deterministic' (their statements: YtgmdbpplfjkjmaaTotals.lean).
  GIVEN WITH THE SEED: the statements are not yours to turn. If you find one false, say at which input.
  Laid BY PROGRAM, IN A SANDBOX (cutbox-rows.mjs): the forced cells as the released guide's own fill.sh prints them over the translation 629bfca6e304ad33… (all of the seat's roots in one cut). By AI agents, Wed Nov 11 2026. No macro, syntax, notation, axiom, sorry.
-/
import Derived.Test.YtgmdbpplfjkjmaaChecked
import GoSem.Claim
import GoSem.ClaimJoined
import GoSem.ClaimMapViews
import Derived.JoinedTies
import Derived.KernelRfl
namespace Go.Proofs.Ytgmdbpplfjkjmaa
/- THE CELL 'sum', in the pinned program and in every row, IS THE sha256 OF THE DUMP (.gsa) THAT YtgmdbpplfjkjmaaProg.lean LOADS. Nothing in Lean hashes anything: it is a label: what it is worth is what the hold of that sum in a sandbox is worth. -/
noncomputable def Try.pinned : Pinned := { name := "ytgmdbpplfjkjmaa", sum := "629bfca6e304ad33f132c229adc412ce1b95cd1c34b024aeecefba4d70f907a8", checked := Try.checked }
namespace Rows
def none {H : Type} : Left H := { results := [], args := [] }

/-- 'tenonlaw05.DigestGroups': WHATEVER THE INPUT: true; the input reads as it did. -/
def digestGroupsSpec : ChangeSpec := { name := "digestGroups", fn := fun _ => fun
  | [d] => { results := [.lit (.bool true)], args := [d] }
  | _ => none }
def digestGroupsRow : OpenClaim := { program := "ytgmdbpplfjkjmaa", sum := "629bfca6e304ad33f132c229adc412ce1b95cd1c34b024aeecefba4d70f907a8", func := "tenon/tenonlaw05.DigestGroups", spec := "digestGroups", inPlace := ["math.Float64bits", "slices.overlaps[tenon/api.Count]"], unfollowed := true, recurses := true, loops := true, apart := false }
def DigestGroupsSaid : Prop := digestGroupsRow.holds Try.pinned (OpenSpec.ofChange digestGroupsSpec)

/-- ITS FALSE NEIGHBOUR: 'it returns false'. Refute it at one input. -/
def digestGroupsWrong : ChangeSpec := { name := "digestGroups", fn := fun _ => fun
  | [d] => { results := [.lit (.bool false)], args := [d] }
  | _ => none }
def DigestGroupsWrongFalsely : Prop := digestGroupsRow.holds Try.pinned (OpenSpec.ofChange digestGroupsWrong)

/-- 'tenonlaw05.DigestPanics': WHATEVER THE INPUT: true; the input reads as it did. -/
def digestPanicsSpec : ChangeSpec := { name := "digestPanics", fn := fun _ => fun
  | [d1, d2] => { results := [.lit (.bool true)], args := [d1, d2] }
  | _ => none }
def digestPanicsRow : OpenClaim := { program := "ytgmdbpplfjkjmaa", sum := "629bfca6e304ad33f132c229adc412ce1b95cd1c34b024aeecefba4d70f907a8", func := "tenon/tenonlaw05.DigestPanics", spec := "digestPanics", inPlace := ["math.Float64bits"], unfollowed := true, recurses := true, loops := true, apart := false }
def DigestPanicsSaid : Prop := digestPanicsRow.holds Try.pinned (OpenSpec.ofChange digestPanicsSpec)

/-- ITS FALSE NEIGHBOUR: 'it returns false'. Refute it at one input. -/
def digestPanicsWrong : ChangeSpec := { name := "digestPanics", fn := fun _ => fun
  | [d1, d2] => { results := [.lit (.bool false)], args := [d1, d2] }
  | _ => none }
def DigestPanicsWrongFalsely : Prop := digestPanicsRow.holds Try.pinned (OpenSpec.ofChange digestPanicsWrong)

/-- 'tenonlaw05.DigestMaps': WHATEVER THE INPUT: true; the input reads as it did. -/
def digestMapsSpec : ChangeSpec := { name := "digestMaps", fn := fun _ => fun
  | [d] => { results := [.lit (.bool true)], args := [d] }
  | _ => none }
def digestMapsRow : OpenClaim := { program := "ytgmdbpplfjkjmaa", sum := "629bfca6e304ad33f132c229adc412ce1b95cd1c34b024aeecefba4d70f907a8", func := "tenon/tenonlaw05.DigestMaps", spec := "digestMaps", inPlace := ["math.Float64bits"], unfollowed := true, recurses := true, loops := true, apart := false }
def DigestMapsSaid : Prop := digestMapsRow.holds Try.pinned (OpenSpec.ofChange digestMapsSpec)

/-- ITS FALSE NEIGHBOUR: 'it returns false'. Refute it at one input. -/
def digestMapsWrong : ChangeSpec := { name := "digestMaps", fn := fun _ => fun
  | [d] => { results := [.lit (.bool false)], args := [d] }
  | _ => none }
def DigestMapsWrongFalsely : Prop := digestMapsRow.holds Try.pinned (OpenSpec.ofChange digestMapsWrong)

/-- 'tenonlaw05.DigestTurns': WHATEVER THE INPUT: true; the input reads as it did. -/
def digestTurnsSpec : ChangeSpec := { name := "digestTurns", fn := fun _ => fun
  | [d] => { results := [.lit (.bool true)], args := [d] }
  | _ => none }
def digestTurnsRow : OpenClaim := { program := "ytgmdbpplfjkjmaa", sum := "629bfca6e304ad33f132c229adc412ce1b95cd1c34b024aeecefba4d70f907a8", func := "tenon/tenonlaw05.DigestTurns", spec := "digestTurns", inPlace := ["math.Float64bits"], unfollowed := true, recurses := true, loops := true, apart := false }
def DigestTurnsSaid : Prop := digestTurnsRow.holds Try.pinned (OpenSpec.ofChange digestTurnsSpec)

/-- ITS FALSE NEIGHBOUR: 'it returns false'. Refute it at one input. -/
def digestTurnsWrong : ChangeSpec := { name := "digestTurns", fn := fun _ => fun
  | [d] => { results := [.lit (.bool false)], args := [d] }
  | _ => none }
def DigestTurnsWrongFalsely : Prop := digestTurnsRow.holds Try.pinned (OpenSpec.ofChange digestTurnsWrong)

/-- 'tenonlaw14.GraphWalks': WHATEVER THE INPUT: true; the input reads as it did. -/
def graphWalksSpec : ChangeSpec := { name := "graphWalks", fn := fun _ => fun
  | [d1, d2, d3, d4, d5, d6] => { results := [.lit (.bool true)], args := [d1, d2, d3, d4, d5, d6] }
  | _ => none }
def graphWalksRow : OpenClaim := { program := "ytgmdbpplfjkjmaa", sum := "629bfca6e304ad33f132c229adc412ce1b95cd1c34b024aeecefba4d70f907a8", func := "tenon/tenonlaw14.GraphWalks", spec := "graphWalks", unfollowed := true, recurses := true, apart := false }
def GraphWalksSaid : Prop := graphWalksRow.holds Try.pinned (OpenSpec.ofChange graphWalksSpec)

/-- ITS FALSE NEIGHBOUR: 'it returns false'. Refute it at one input. -/
def graphWalksWrong : ChangeSpec := { name := "graphWalks", fn := fun _ => fun
  | [d1, d2, d3, d4, d5, d6] => { results := [.lit (.bool false)], args := [d1, d2, d3, d4, d5, d6] }
  | _ => none }
def GraphWalksWrongFalsely : Prop := graphWalksRow.holds Try.pinned (OpenSpec.ofChange graphWalksWrong)

/-- 'tenonlaw14.GraphAsks': WHATEVER THE INPUT: true; the input reads as it did. -/
def graphAsksSpec : ChangeSpec := { name := "graphAsks", fn := fun _ => fun
  | [d1, d2, d3, d4, d5] => { results := [.lit (.bool true)], args := [d1, d2, d3, d4, d5] }
  | _ => none }
def graphAsksRow : OpenClaim := { program := "ytgmdbpplfjkjmaa", sum := "629bfca6e304ad33f132c229adc412ce1b95cd1c34b024aeecefba4d70f907a8", func := "tenon/tenonlaw14.GraphAsks", spec := "graphAsks", unfollowed := true, recurses := true, apart := false }
def GraphAsksSaid : Prop := graphAsksRow.holds Try.pinned (OpenSpec.ofChange graphAsksSpec)

/-- ITS FALSE NEIGHBOUR: 'it returns false'. Refute it at one input. -/
def graphAsksWrong : ChangeSpec := { name := "graphAsks", fn := fun _ => fun
  | [d1, d2, d3, d4, d5] => { results := [.lit (.bool false)], args := [d1, d2, d3, d4, d5] }
  | _ => none }
def GraphAsksWrongFalsely : Prop := graphAsksRow.holds Try.pinned (OpenSpec.ofChange graphAsksWrong)

/-- 'tenonlaw14.GraphMakes': WHATEVER THE INPUT: true; the input reads as it did. -/
def graphMakesSpec : ChangeSpec := { name := "graphMakes", fn := fun _ => fun
  | [d1, d2] => { results := [.lit (.bool true)], args := [d1, d2] }
  | _ => none }
def graphMakesRow : OpenClaim := { program := "ytgmdbpplfjkjmaa", sum := "629bfca6e304ad33f132c229adc412ce1b95cd1c34b024aeecefba4d70f907a8", func := "tenon/tenonlaw14.GraphMakes", spec := "graphMakes", inPlace := ["slices.overlaps[tenon/api.Ref]"], unfollowed := true, recurses := true, apart := false }
def GraphMakesSaid : Prop := graphMakesRow.holds Try.pinned (OpenSpec.ofChange graphMakesSpec)

/-- ITS FALSE NEIGHBOUR: 'it returns false'. Refute it at one input. -/
def graphMakesWrong : ChangeSpec := { name := "graphMakes", fn := fun _ => fun
  | [d1, d2] => { results := [.lit (.bool false)], args := [d1, d2] }
  | _ => none }
def GraphMakesWrongFalsely : Prop := graphMakesRow.holds Try.pinned (OpenSpec.ofChange graphMakesWrong)

/-- 'tenonlaw13.HeapConverse': WHATEVER THE INPUT: true; the input reads as it did. -/
def heapConverseSpec : ChangeSpec := { name := "heapConverse", fn := fun _ => fun
  | [d1, d2] => { results := [.lit (.bool true)], args := [d1, d2] }
  | _ => none }
def heapConverseRow : OpenClaim := { program := "ytgmdbpplfjkjmaa", sum := "629bfca6e304ad33f132c229adc412ce1b95cd1c34b024aeecefba4d70f907a8", func := "tenon/tenonlaw13.HeapConverse", spec := "heapConverse", inPlace := ["maps.clone"], unfollowed := true, recurses := true, loops := true, apart := false }
def HeapConverseSaid : Prop := heapConverseRow.holds Try.pinned (OpenSpec.ofChange heapConverseSpec)

/-- ITS FALSE NEIGHBOUR: 'it returns false'. Refute it at one input. -/
def heapConverseWrong : ChangeSpec := { name := "heapConverse", fn := fun _ => fun
  | [d1, d2] => { results := [.lit (.bool false)], args := [d1, d2] }
  | _ => none }
def HeapConverseWrongFalsely : Prop := heapConverseRow.holds Try.pinned (OpenSpec.ofChange heapConverseWrong)

/- THE SECOND FORM. 'bulk': how many values and letters a reading holds, each counted each time it is reached (what is shared counts as often as it is met; a slice's spare places count too). A statement '..UptoSaid' is the law's where the arguments, and the package variables that the reading takes, are together of bulk at most 1048576: NARROWER than '..Said'. Prove '..Said' where nothing that the law and all that it calls make is longer than what came in: it says more and counts as full. Else prove '..UptoSaid'. A law counts once. -/
mutual
def uptoBulk {H : Type} : DataW H → Nat
  | .lit (.string bytes) => bytes.length + 1
  | .lit _ => 1
  | .nil => 1
  | .ptr d => uptoBulk d + 1
  | .slice elems spare => uptoBulkAll elems + uptoBulkAll spare + 1
  | .agg parts => uptoBulkAll parts + 1
  | .iface _ d => uptoBulk d + 1
  | .map entries => uptoBulkEntries entries + 1
  | .held _ => 1
def uptoBulkAll {H : Type} : List (DataW H) → Nat
  | [] => 0
  | d :: r => uptoBulk d + uptoBulkAll r
def uptoBulkEntries {H : Type} : List (Lit × DataW H) → Nat
  | [] => 0
  | x :: r => uptoBulkEntry x + uptoBulkEntries r
def uptoBulkEntry {H : Type} : Lit × DataW H → Nat
  | (.string bytes, d) => bytes.length + uptoBulk d + 1
  | (_, d) => uptoBulk d + 1
 end
def uptoSmall : (H : Type) → List (DataW H) → Bool := fun _ ds => decide (uptoBulkAll ds ≤ 1048576)
def OpenSpec.upto (s : _root_.Go.ChangeSpec) : _root_.Go.OpenSpec := { _root_.Go.OpenSpec.ofChange s with cond := some uptoSmall }

/-- 'tenonlaw05.DigestGroups', WHERE WHAT IT READS IS OF BULK AT MOST 1048576: true; the input reads as it did. -/
def digestGroupsUptoRow : OpenClaim := { program := "ytgmdbpplfjkjmaa", sum := "629bfca6e304ad33f132c229adc412ce1b95cd1c34b024aeecefba4d70f907a8", func := "tenon/tenonlaw05.DigestGroups", spec := "digestGroups", inPlace := ["math.Float64bits", "slices.overlaps[tenon/api.Count]"], unfollowed := true, recurses := true, loops := true, apart := false, narrowed := true }
def DigestGroupsUptoSaid : Prop := digestGroupsUptoRow.holds Try.pinned (OpenSpec.upto digestGroupsSpec)

/-- 'tenonlaw05.DigestPanics', WHERE WHAT IT READS IS OF BULK AT MOST 1048576: true; the input reads as it did. -/
def digestPanicsUptoRow : OpenClaim := { program := "ytgmdbpplfjkjmaa", sum := "629bfca6e304ad33f132c229adc412ce1b95cd1c34b024aeecefba4d70f907a8", func := "tenon/tenonlaw05.DigestPanics", spec := "digestPanics", inPlace := ["math.Float64bits"], unfollowed := true, recurses := true, loops := true, apart := false, narrowed := true }
def DigestPanicsUptoSaid : Prop := digestPanicsUptoRow.holds Try.pinned (OpenSpec.upto digestPanicsSpec)

/-- 'tenonlaw05.DigestMaps', WHERE WHAT IT READS IS OF BULK AT MOST 1048576: true; the input reads as it did. -/
def digestMapsUptoRow : OpenClaim := { program := "ytgmdbpplfjkjmaa", sum := "629bfca6e304ad33f132c229adc412ce1b95cd1c34b024aeecefba4d70f907a8", func := "tenon/tenonlaw05.DigestMaps", spec := "digestMaps", inPlace := ["math.Float64bits"], unfollowed := true, recurses := true, loops := true, apart := false, narrowed := true }
def DigestMapsUptoSaid : Prop := digestMapsUptoRow.holds Try.pinned (OpenSpec.upto digestMapsSpec)

/-- 'tenonlaw05.DigestTurns', WHERE WHAT IT READS IS OF BULK AT MOST 1048576: true; the input reads as it did. -/
def digestTurnsUptoRow : OpenClaim := { program := "ytgmdbpplfjkjmaa", sum := "629bfca6e304ad33f132c229adc412ce1b95cd1c34b024aeecefba4d70f907a8", func := "tenon/tenonlaw05.DigestTurns", spec := "digestTurns", inPlace := ["math.Float64bits"], unfollowed := true, recurses := true, loops := true, apart := false, narrowed := true }
def DigestTurnsUptoSaid : Prop := digestTurnsUptoRow.holds Try.pinned (OpenSpec.upto digestTurnsSpec)

/-- 'tenonlaw14.GraphWalks', WHERE WHAT IT READS IS OF BULK AT MOST 1048576: true; the input reads as it did. -/
def graphWalksUptoRow : OpenClaim := { program := "ytgmdbpplfjkjmaa", sum := "629bfca6e304ad33f132c229adc412ce1b95cd1c34b024aeecefba4d70f907a8", func := "tenon/tenonlaw14.GraphWalks", spec := "graphWalks", unfollowed := true, recurses := true, apart := false, narrowed := true }
def GraphWalksUptoSaid : Prop := graphWalksUptoRow.holds Try.pinned (OpenSpec.upto graphWalksSpec)

/-- 'tenonlaw14.GraphAsks', WHERE WHAT IT READS IS OF BULK AT MOST 1048576: true; the input reads as it did. -/
def graphAsksUptoRow : OpenClaim := { program := "ytgmdbpplfjkjmaa", sum := "629bfca6e304ad33f132c229adc412ce1b95cd1c34b024aeecefba4d70f907a8", func := "tenon/tenonlaw14.GraphAsks", spec := "graphAsks", unfollowed := true, recurses := true, apart := false, narrowed := true }
def GraphAsksUptoSaid : Prop := graphAsksUptoRow.holds Try.pinned (OpenSpec.upto graphAsksSpec)

/-- 'tenonlaw14.GraphMakes', WHERE WHAT IT READS IS OF BULK AT MOST 1048576: true; the input reads as it did. -/
def graphMakesUptoRow : OpenClaim := { program := "ytgmdbpplfjkjmaa", sum := "629bfca6e304ad33f132c229adc412ce1b95cd1c34b024aeecefba4d70f907a8", func := "tenon/tenonlaw14.GraphMakes", spec := "graphMakes", inPlace := ["slices.overlaps[tenon/api.Ref]"], unfollowed := true, recurses := true, apart := false, narrowed := true }
def GraphMakesUptoSaid : Prop := graphMakesUptoRow.holds Try.pinned (OpenSpec.upto graphMakesSpec)

/-- 'tenonlaw13.HeapConverse', WHERE WHAT IT READS IS OF BULK AT MOST 1048576: true; the input reads as it did. -/
def heapConverseUptoRow : OpenClaim := { program := "ytgmdbpplfjkjmaa", sum := "629bfca6e304ad33f132c229adc412ce1b95cd1c34b024aeecefba4d70f907a8", func := "tenon/tenonlaw13.HeapConverse", spec := "heapConverse", inPlace := ["maps.clone"], unfollowed := true, recurses := true, loops := true, apart := false, narrowed := true }
def HeapConverseUptoSaid : Prop := heapConverseUptoRow.holds Try.pinned (OpenSpec.upto heapConverseSpec)

end Rows
end Go.Proofs.Ytgmdbpplfjkjmaa
