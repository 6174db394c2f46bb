/-
  NARROWER THAN 'FOR EVERY INPUT', by the rows' own cells (each row's printed sentence says how): LazyOnce: loops · LazyAgain: loops · ObjectOnce: loops · ObjectGiven: loops · ObjectThings: loops · ObjectApart: loops · DigestKeys: loops · DigestLast: loops.
  DERIVED. THE GIVEN ROWS OF THIS SEAT. 11 by the template 'for every input the law returns true; each argument reads behind the call as it read before'; 0 by the template 'total and deterministic' (their statements: YtpcbdjfonmohaaaTotals.lean).
  GIVEN WITH THE SEED: the statements are not yours to turn. If you find one false, say at which input.
  Laid BY PROGRAM, IN A SANDBOX (cutbox-rows.mjs): the forced cells as the released guide's own fill.sh prints them over the translation 8a2cfbb25a60a2a3… (all of the seat's roots in one cut). By AI agents, Wed Nov 11 2026. No macro, syntax, notation, axiom, sorry.
-/
import Derived.Test.YtpcbdjfonmohaaaChecked
import GoSem.Claim
import GoSem.ClaimJoined
import GoSem.ClaimMapViews
import Derived.JoinedTies
import Derived.KernelRfl
namespace Go.Proofs.Ytpcbdjfonmohaaa
/- THE CELL 'sum', in the pinned program and in every row, IS THE sha256 OF THE DUMP (.gsa) THAT YtpcbdjfonmohaaaProg.lean LOADS. Nothing in Lean hashes anything: it is a label: what it is worth is what the hold of that sum in a sandbox is worth. -/
noncomputable def Try.pinned : Pinned := { name := "ytpcbdjfonmohaaa", sum := "8a2cfbb25a60a2a3f75e417e531f7d5b25329717a4964adeffd35288234f7861", checked := Try.checked }
namespace Rows
def none {H : Type} : Left H := { results := [], args := [] }

/-- 'tenonlaw10.ObjectTries': WHATEVER THE INPUT: true; the input reads as it did. -/
def objectTriesSpec : ChangeSpec := { name := "objectTries", fn := fun _ => fun
  | [d1, d2] => { results := [.lit (.bool true)], args := [d1, d2] }
  | _ => none }
def objectTriesRow : OpenClaim := { program := "ytpcbdjfonmohaaa", sum := "8a2cfbb25a60a2a3f75e417e531f7d5b25329717a4964adeffd35288234f7861", func := "tenon/tenonlaw10.ObjectTries", spec := "objectTries", unfollowed := true, recurses := true, apart := false }
def ObjectTriesSaid : Prop := objectTriesRow.holds Try.pinned (OpenSpec.ofChange objectTriesSpec)

/-- ITS FALSE NEIGHBOUR: 'it returns false'. Refute it at one input. -/
def objectTriesWrong : ChangeSpec := { name := "objectTries", fn := fun _ => fun
  | [d1, d2] => { results := [.lit (.bool false)], args := [d1, d2] }
  | _ => none }
def ObjectTriesWrongFalsely : Prop := objectTriesRow.holds Try.pinned (OpenSpec.ofChange objectTriesWrong)

/-- 'tenonlaw12.LazyOnce': WHATEVER THE INPUT: true; the input reads as it did. -/
def lazyOnceSpec : ChangeSpec := { name := "lazyOnce", fn := fun _ => fun
  | [d1, d2] => { results := [.lit (.bool true)], args := [d1, d2] }
  | _ => none }
def lazyOnceRow : OpenClaim := { program := "ytpcbdjfonmohaaa", sum := "8a2cfbb25a60a2a3f75e417e531f7d5b25329717a4964adeffd35288234f7861", func := "tenon/tenonlaw12.LazyOnce", spec := "lazyOnce", unfollowed := true, recurses := true, loops := true, apart := false }
def LazyOnceSaid : Prop := lazyOnceRow.holds Try.pinned (OpenSpec.ofChange lazyOnceSpec)

/-- ITS FALSE NEIGHBOUR: 'it returns false'. Refute it at one input. -/
def lazyOnceWrong : ChangeSpec := { name := "lazyOnce", fn := fun _ => fun
  | [d1, d2] => { results := [.lit (.bool false)], args := [d1, d2] }
  | _ => none }
def LazyOnceWrongFalsely : Prop := lazyOnceRow.holds Try.pinned (OpenSpec.ofChange lazyOnceWrong)

/-- 'tenonlaw12.LazyAgain': WHATEVER THE INPUT: true; the input reads as it did. -/
def lazyAgainSpec : ChangeSpec := { name := "lazyAgain", fn := fun _ => fun
  | [d1, d2] => { results := [.lit (.bool true)], args := [d1, d2] }
  | _ => none }
def lazyAgainRow : OpenClaim := { program := "ytpcbdjfonmohaaa", sum := "8a2cfbb25a60a2a3f75e417e531f7d5b25329717a4964adeffd35288234f7861", func := "tenon/tenonlaw12.LazyAgain", spec := "lazyAgain", unfollowed := true, recurses := true, loops := true, apart := false }
def LazyAgainSaid : Prop := lazyAgainRow.holds Try.pinned (OpenSpec.ofChange lazyAgainSpec)

/-- ITS FALSE NEIGHBOUR: 'it returns false'. Refute it at one input. -/
def lazyAgainWrong : ChangeSpec := { name := "lazyAgain", fn := fun _ => fun
  | [d1, d2] => { results := [.lit (.bool false)], args := [d1, d2] }
  | _ => none }
def LazyAgainWrongFalsely : Prop := lazyAgainRow.holds Try.pinned (OpenSpec.ofChange lazyAgainWrong)

/-- 'tenonlaw12.LazyRoom': WHATEVER THE INPUT: true; the input reads as it did. -/
def lazyRoomSpec : ChangeSpec := { name := "lazyRoom", fn := fun _ => fun
  | [d1, d2] => { results := [.lit (.bool true)], args := [d1, d2] }
  | _ => none }
def lazyRoomRow : OpenClaim := { program := "ytpcbdjfonmohaaa", sum := "8a2cfbb25a60a2a3f75e417e531f7d5b25329717a4964adeffd35288234f7861", func := "tenon/tenonlaw12.LazyRoom", spec := "lazyRoom", unfollowed := true, recurses := true, apart := false }
def LazyRoomSaid : Prop := lazyRoomRow.holds Try.pinned (OpenSpec.ofChange lazyRoomSpec)

/-- ITS FALSE NEIGHBOUR: 'it returns false'. Refute it at one input. -/
def lazyRoomWrong : ChangeSpec := { name := "lazyRoom", fn := fun _ => fun
  | [d1, d2] => { results := [.lit (.bool false)], args := [d1, d2] }
  | _ => none }
def LazyRoomWrongFalsely : Prop := lazyRoomRow.holds Try.pinned (OpenSpec.ofChange lazyRoomWrong)

/-- 'tenonlaw12.LazyStack': WHATEVER THE INPUT: true; the input reads as it did. -/
def lazyStackSpec : ChangeSpec := { name := "lazyStack", fn := fun _ => fun
  | [d1, d2, d3] => { results := [.lit (.bool true)], args := [d1, d2, d3] }
  | _ => none }
def lazyStackRow : OpenClaim := { program := "ytpcbdjfonmohaaa", sum := "8a2cfbb25a60a2a3f75e417e531f7d5b25329717a4964adeffd35288234f7861", func := "tenon/tenonlaw12.LazyStack", spec := "lazyStack", unfollowed := true, recurses := true, apart := false }
def LazyStackSaid : Prop := lazyStackRow.holds Try.pinned (OpenSpec.ofChange lazyStackSpec)

/-- ITS FALSE NEIGHBOUR: 'it returns false'. Refute it at one input. -/
def lazyStackWrong : ChangeSpec := { name := "lazyStack", fn := fun _ => fun
  | [d1, d2, d3] => { results := [.lit (.bool false)], args := [d1, d2, d3] }
  | _ => none }
def LazyStackWrongFalsely : Prop := lazyStackRow.holds Try.pinned (OpenSpec.ofChange lazyStackWrong)

/-- 'tenonlaw10.ObjectOnce': WHATEVER THE INPUT: true; the input reads as it did. -/
def objectOnceSpec : ChangeSpec := { name := "objectOnce", fn := fun _ => fun
  | [d1, d2] => { results := [.lit (.bool true)], args := [d1, d2] }
  | _ => none }
def objectOnceRow : OpenClaim := { program := "ytpcbdjfonmohaaa", sum := "8a2cfbb25a60a2a3f75e417e531f7d5b25329717a4964adeffd35288234f7861", func := "tenon/tenonlaw10.ObjectOnce", spec := "objectOnce", unfollowed := true, recurses := true, loops := true, apart := false }
def ObjectOnceSaid : Prop := objectOnceRow.holds Try.pinned (OpenSpec.ofChange objectOnceSpec)

/-- ITS FALSE NEIGHBOUR: 'it returns false'. Refute it at one input. -/
def objectOnceWrong : ChangeSpec := { name := "objectOnce", fn := fun _ => fun
  | [d1, d2] => { results := [.lit (.bool false)], args := [d1, d2] }
  | _ => none }
def ObjectOnceWrongFalsely : Prop := objectOnceRow.holds Try.pinned (OpenSpec.ofChange objectOnceWrong)

/-- 'tenonlaw10.ObjectGiven': WHATEVER THE INPUT: true; the input reads as it did. -/
def objectGivenSpec : ChangeSpec := { name := "objectGiven", fn := fun _ => fun
  | [d1, d2] => { results := [.lit (.bool true)], args := [d1, d2] }
  | _ => none }
def objectGivenRow : OpenClaim := { program := "ytpcbdjfonmohaaa", sum := "8a2cfbb25a60a2a3f75e417e531f7d5b25329717a4964adeffd35288234f7861", func := "tenon/tenonlaw10.ObjectGiven", spec := "objectGiven", unfollowed := true, recurses := true, loops := true, apart := false }
def ObjectGivenSaid : Prop := objectGivenRow.holds Try.pinned (OpenSpec.ofChange objectGivenSpec)

/-- ITS FALSE NEIGHBOUR: 'it returns false'. Refute it at one input. -/
def objectGivenWrong : ChangeSpec := { name := "objectGiven", fn := fun _ => fun
  | [d1, d2] => { results := [.lit (.bool false)], args := [d1, d2] }
  | _ => none }
def ObjectGivenWrongFalsely : Prop := objectGivenRow.holds Try.pinned (OpenSpec.ofChange objectGivenWrong)

/-- 'tenonlaw10.ObjectThings': WHATEVER THE INPUT: true; the input reads as it did. -/
def objectThingsSpec : ChangeSpec := { name := "objectThings", fn := fun _ => fun
  | [d1, d2, d3] => { results := [.lit (.bool true)], args := [d1, d2, d3] }
  | _ => none }
def objectThingsRow : OpenClaim := { program := "ytpcbdjfonmohaaa", sum := "8a2cfbb25a60a2a3f75e417e531f7d5b25329717a4964adeffd35288234f7861", func := "tenon/tenonlaw10.ObjectThings", spec := "objectThings", inPlace := ["math.Float64bits"], unfollowed := true, recurses := true, loops := true, apart := false }
def ObjectThingsSaid : Prop := objectThingsRow.holds Try.pinned (OpenSpec.ofChange objectThingsSpec)

/-- ITS FALSE NEIGHBOUR: 'it returns false'. Refute it at one input. -/
def objectThingsWrong : ChangeSpec := { name := "objectThings", fn := fun _ => fun
  | [d1, d2, d3] => { results := [.lit (.bool false)], args := [d1, d2, d3] }
  | _ => none }
def ObjectThingsWrongFalsely : Prop := objectThingsRow.holds Try.pinned (OpenSpec.ofChange objectThingsWrong)

/-- 'tenonlaw10.ObjectApart': WHATEVER THE INPUT: true; the input reads as it did. -/
def objectApartSpec : ChangeSpec := { name := "objectApart", fn := fun _ => fun
  | [d1, d2] => { results := [.lit (.bool true)], args := [d1, d2] }
  | _ => none }
def objectApartRow : OpenClaim := { program := "ytpcbdjfonmohaaa", sum := "8a2cfbb25a60a2a3f75e417e531f7d5b25329717a4964adeffd35288234f7861", func := "tenon/tenonlaw10.ObjectApart", spec := "objectApart", inPlace := ["math.Float64bits"], unfollowed := true, recurses := true, loops := true, apart := false }
def ObjectApartSaid : Prop := objectApartRow.holds Try.pinned (OpenSpec.ofChange objectApartSpec)

/-- ITS FALSE NEIGHBOUR: 'it returns false'. Refute it at one input. -/
def objectApartWrong : ChangeSpec := { name := "objectApart", fn := fun _ => fun
  | [d1, d2] => { results := [.lit (.bool false)], args := [d1, d2] }
  | _ => none }
def ObjectApartWrongFalsely : Prop := objectApartRow.holds Try.pinned (OpenSpec.ofChange objectApartWrong)

/-- 'tenonlaw05.DigestKeys': WHATEVER THE INPUT: true; the input reads as it did. -/
def digestKeysSpec : ChangeSpec := { name := "digestKeys", fn := fun _ => fun
  | [d1, d2] => { results := [.lit (.bool true)], args := [d1, d2] }
  | _ => none }
def digestKeysRow : OpenClaim := { program := "ytpcbdjfonmohaaa", sum := "8a2cfbb25a60a2a3f75e417e531f7d5b25329717a4964adeffd35288234f7861", func := "tenon/tenonlaw05.DigestKeys", spec := "digestKeys", inPlace := ["math.Float64bits"], recurses := true, loops := true, apart := false }
def DigestKeysSaid : Prop := digestKeysRow.holds Try.pinned (OpenSpec.ofChange digestKeysSpec)

/-- ITS FALSE NEIGHBOUR: 'it returns false'. Refute it at one input. -/
def digestKeysWrong : ChangeSpec := { name := "digestKeys", fn := fun _ => fun
  | [d1, d2] => { results := [.lit (.bool false)], args := [d1, d2] }
  | _ => none }
def DigestKeysWrongFalsely : Prop := digestKeysRow.holds Try.pinned (OpenSpec.ofChange digestKeysWrong)

/-- 'tenonlaw05.DigestLast': WHATEVER THE INPUT: true; the input reads as it did. -/
def digestLastSpec : ChangeSpec := { name := "digestLast", fn := fun _ => fun
  | [d1, d2, d3] => { results := [.lit (.bool true)], args := [d1, d2, d3] }
  | _ => none }
def digestLastRow : OpenClaim := { program := "ytpcbdjfonmohaaa", sum := "8a2cfbb25a60a2a3f75e417e531f7d5b25329717a4964adeffd35288234f7861", func := "tenon/tenonlaw05.DigestLast", spec := "digestLast", inPlace := ["math.Float64bits"], recurses := true, loops := true, apart := false }
def DigestLastSaid : Prop := digestLastRow.holds Try.pinned (OpenSpec.ofChange digestLastSpec)

/-- ITS FALSE NEIGHBOUR: 'it returns false'. Refute it at one input. -/
def digestLastWrong : ChangeSpec := { name := "digestLast", fn := fun _ => fun
  | [d1, d2, d3] => { results := [.lit (.bool false)], args := [d1, d2, d3] }
  | _ => none }
def DigestLastWrongFalsely : Prop := digestLastRow.holds Try.pinned (OpenSpec.ofChange digestLastWrong)

/- THE SECOND FORM. 'bulk': how many values and letters a reading holds, each counted each time it is reached (what is shared counts as often as it is met; a slice's spare places count too). A statement '..UptoSaid' is the law's where the arguments, and the package variables that the reading takes, are together of bulk at most 1048576: NARROWER than '..Said'. Prove '..Said' where nothing that the law and all that it calls make is longer than what came in: it says more and counts as full. Else prove '..UptoSaid'. A law counts once. -/
mutual
def uptoBulk {H : Type} : DataW H → Nat
  | .lit (.string bytes) => bytes.length + 1
  | .lit _ => 1
  | .nil => 1
  | .ptr d => uptoBulk d + 1
  | .slice elems spare => uptoBulkAll elems + uptoBulkAll spare + 1
  | .agg parts => uptoBulkAll parts + 1
  | .iface _ d => uptoBulk d + 1
  | .map entries => uptoBulkEntries entries + 1
  | .held _ => 1
def uptoBulkAll {H : Type} : List (DataW H) → Nat
  | [] => 0
  | d :: r => uptoBulk d + uptoBulkAll r
def uptoBulkEntries {H : Type} : List (Lit × DataW H) → Nat
  | [] => 0
  | x :: r => uptoBulkEntry x + uptoBulkEntries r
def uptoBulkEntry {H : Type} : Lit × DataW H → Nat
  | (.string bytes, d) => bytes.length + uptoBulk d + 1
  | (_, d) => uptoBulk d + 1
 end
def uptoSmall : (H : Type) → List (DataW H) → Bool := fun _ ds => decide (uptoBulkAll ds ≤ 1048576)
def OpenSpec.upto (s : _root_.Go.ChangeSpec) : _root_.Go.OpenSpec := { _root_.Go.OpenSpec.ofChange s with cond := some uptoSmall }

/-- 'tenonlaw10.ObjectTries', WHERE WHAT IT READS IS OF BULK AT MOST 1048576: true; the input reads as it did. -/
def objectTriesUptoRow : OpenClaim := { program := "ytpcbdjfonmohaaa", sum := "8a2cfbb25a60a2a3f75e417e531f7d5b25329717a4964adeffd35288234f7861", func := "tenon/tenonlaw10.ObjectTries", spec := "objectTries", unfollowed := true, recurses := true, apart := false, narrowed := true }
def ObjectTriesUptoSaid : Prop := objectTriesUptoRow.holds Try.pinned (OpenSpec.upto objectTriesSpec)

/-- 'tenonlaw12.LazyOnce', WHERE WHAT IT READS IS OF BULK AT MOST 1048576: true; the input reads as it did. -/
def lazyOnceUptoRow : OpenClaim := { program := "ytpcbdjfonmohaaa", sum := "8a2cfbb25a60a2a3f75e417e531f7d5b25329717a4964adeffd35288234f7861", func := "tenon/tenonlaw12.LazyOnce", spec := "lazyOnce", unfollowed := true, recurses := true, loops := true, apart := false, narrowed := true }
def LazyOnceUptoSaid : Prop := lazyOnceUptoRow.holds Try.pinned (OpenSpec.upto lazyOnceSpec)

/-- 'tenonlaw12.LazyAgain', WHERE WHAT IT READS IS OF BULK AT MOST 1048576: true; the input reads as it did. -/
def lazyAgainUptoRow : OpenClaim := { program := "ytpcbdjfonmohaaa", sum := "8a2cfbb25a60a2a3f75e417e531f7d5b25329717a4964adeffd35288234f7861", func := "tenon/tenonlaw12.LazyAgain", spec := "lazyAgain", unfollowed := true, recurses := true, loops := true, apart := false, narrowed := true }
def LazyAgainUptoSaid : Prop := lazyAgainUptoRow.holds Try.pinned (OpenSpec.upto lazyAgainSpec)

/-- 'tenonlaw12.LazyRoom', WHERE WHAT IT READS IS OF BULK AT MOST 1048576: true; the input reads as it did. -/
def lazyRoomUptoRow : OpenClaim := { program := "ytpcbdjfonmohaaa", sum := "8a2cfbb25a60a2a3f75e417e531f7d5b25329717a4964adeffd35288234f7861", func := "tenon/tenonlaw12.LazyRoom", spec := "lazyRoom", unfollowed := true, recurses := true, apart := false, narrowed := true }
def LazyRoomUptoSaid : Prop := lazyRoomUptoRow.holds Try.pinned (OpenSpec.upto lazyRoomSpec)

/-- 'tenonlaw12.LazyStack', WHERE WHAT IT READS IS OF BULK AT MOST 1048576: true; the input reads as it did. -/
def lazyStackUptoRow : OpenClaim := { program := "ytpcbdjfonmohaaa", sum := "8a2cfbb25a60a2a3f75e417e531f7d5b25329717a4964adeffd35288234f7861", func := "tenon/tenonlaw12.LazyStack", spec := "lazyStack", unfollowed := true, recurses := true, apart := false, narrowed := true }
def LazyStackUptoSaid : Prop := lazyStackUptoRow.holds Try.pinned (OpenSpec.upto lazyStackSpec)

/-- 'tenonlaw10.ObjectOnce', WHERE WHAT IT READS IS OF BULK AT MOST 1048576: true; the input reads as it did. -/
def objectOnceUptoRow : OpenClaim := { program := "ytpcbdjfonmohaaa", sum := "8a2cfbb25a60a2a3f75e417e531f7d5b25329717a4964adeffd35288234f7861", func := "tenon/tenonlaw10.ObjectOnce", spec := "objectOnce", unfollowed := true, recurses := true, loops := true, apart := false, narrowed := true }
def ObjectOnceUptoSaid : Prop := objectOnceUptoRow.holds Try.pinned (OpenSpec.upto objectOnceSpec)

/-- 'tenonlaw10.ObjectGiven', WHERE WHAT IT READS IS OF BULK AT MOST 1048576: true; the input reads as it did. -/
def objectGivenUptoRow : OpenClaim := { program := "ytpcbdjfonmohaaa", sum := "8a2cfbb25a60a2a3f75e417e531f7d5b25329717a4964adeffd35288234f7861", func := "tenon/tenonlaw10.ObjectGiven", spec := "objectGiven", unfollowed := true, recurses := true, loops := true, apart := false, narrowed := true }
def ObjectGivenUptoSaid : Prop := objectGivenUptoRow.holds Try.pinned (OpenSpec.upto objectGivenSpec)

/-- 'tenonlaw10.ObjectThings', WHERE WHAT IT READS IS OF BULK AT MOST 1048576: true; the input reads as it did. -/
def objectThingsUptoRow : OpenClaim := { program := "ytpcbdjfonmohaaa", sum := "8a2cfbb25a60a2a3f75e417e531f7d5b25329717a4964adeffd35288234f7861", func := "tenon/tenonlaw10.ObjectThings", spec := "objectThings", inPlace := ["math.Float64bits"], unfollowed := true, recurses := true, loops := true, apart := false, narrowed := true }
def ObjectThingsUptoSaid : Prop := objectThingsUptoRow.holds Try.pinned (OpenSpec.upto objectThingsSpec)

/-- 'tenonlaw10.ObjectApart', WHERE WHAT IT READS IS OF BULK AT MOST 1048576: true; the input reads as it did. -/
def objectApartUptoRow : OpenClaim := { program := "ytpcbdjfonmohaaa", sum := "8a2cfbb25a60a2a3f75e417e531f7d5b25329717a4964adeffd35288234f7861", func := "tenon/tenonlaw10.ObjectApart", spec := "objectApart", inPlace := ["math.Float64bits"], unfollowed := true, recurses := true, loops := true, apart := false, narrowed := true }
def ObjectApartUptoSaid : Prop := objectApartUptoRow.holds Try.pinned (OpenSpec.upto objectApartSpec)

/-- 'tenonlaw05.DigestKeys', WHERE WHAT IT READS IS OF BULK AT MOST 1048576: true; the input reads as it did. -/
def digestKeysUptoRow : OpenClaim := { program := "ytpcbdjfonmohaaa", sum := "8a2cfbb25a60a2a3f75e417e531f7d5b25329717a4964adeffd35288234f7861", func := "tenon/tenonlaw05.DigestKeys", spec := "digestKeys", inPlace := ["math.Float64bits"], recurses := true, loops := true, apart := false, narrowed := true }
def DigestKeysUptoSaid : Prop := digestKeysUptoRow.holds Try.pinned (OpenSpec.upto digestKeysSpec)

/-- 'tenonlaw05.DigestLast', WHERE WHAT IT READS IS OF BULK AT MOST 1048576: true; the input reads as it did. -/
def digestLastUptoRow : OpenClaim := { program := "ytpcbdjfonmohaaa", sum := "8a2cfbb25a60a2a3f75e417e531f7d5b25329717a4964adeffd35288234f7861", func := "tenon/tenonlaw05.DigestLast", spec := "digestLast", inPlace := ["math.Float64bits"], recurses := true, loops := true, apart := false, narrowed := true }
def DigestLastUptoSaid : Prop := digestLastUptoRow.holds Try.pinned (OpenSpec.upto digestLastSpec)

end Rows
end Go.Proofs.Ytpcbdjfonmohaaa
