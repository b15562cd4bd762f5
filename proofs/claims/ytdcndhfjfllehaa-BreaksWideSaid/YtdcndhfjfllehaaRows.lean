/-
  No cell of these rows narrows 'for every input' (looked for: loops, veiled, ifaces, maps, wideKeys, modest, calm, conditions, laid).
  DERIVED. THE GIVEN ROWS OF THIS SEAT. 6 by the template 'for every input the law returns true; each argument reads behind the call as it read before'; 0 by the template 'total and deterministic' (their statements: YtdcndhfjfllehaaTotals.lean).
  GIVEN WITH THE SEED: the statements are not yours to turn. If you find one false, say at which input.
  Laid BY PROGRAM, IN A SANDBOX (cutbox-rows.mjs): the forced cells as the released guide's own fill.sh prints them over the translation ca7c1b6aea31ea0c… (all of the seat's roots in one cut). By AI agents, Wed Nov 11 2026. No macro, syntax, notation, axiom, sorry.
-/
import Derived.Test.YtdcndhfjfllehaaChecked
import GoSem.Claim
import GoSem.ClaimJoined
import GoSem.ClaimMapViews
import Derived.JoinedTies
import Derived.KernelRfl
namespace Go.Proofs.Ytdcndhfjfllehaa
/- THE CELL 'sum', in the pinned program and in every row, IS THE sha256 OF THE DUMP (.gsa) THAT YtdcndhfjfllehaaProg.lean LOADS. Nothing in Lean hashes anything: it is a label: what it is worth is what the hold of that sum in a sandbox is worth. -/
noncomputable def Try.pinned : Pinned := { name := "ytdcndhfjfllehaa", sum := "ca7c1b6aea31ea0cb9e43ece26cece86fca72ea3a520ad0900dafb99c1b1fadb", checked := Try.checked }
namespace Rows
def none {H : Type} : Left H := { results := [], args := [] }

/-- 'hansardlaw47.BreaksSpec': WHATEVER THE INPUT: true; the input reads as it did. -/
def breaksSpecSpec : ChangeSpec := { name := "breaksSpec", fn := fun _ => fun
  | [d1, d2, d3] => { results := [.lit (.bool true)], args := [d1, d2, d3] }
  | _ => none }
def breaksSpecRow : OpenClaim := { program := "ytdcndhfjfllehaa", sum := "ca7c1b6aea31ea0cb9e43ece26cece86fca72ea3a520ad0900dafb99c1b1fadb", func := "hansard/hansardlaw47.BreaksSpec", spec := "breaksSpec", unfollowed := true, recurses := true, apart := false }
def BreaksSpecSaid : Prop := breaksSpecRow.holds Try.pinned (OpenSpec.ofChange breaksSpecSpec)

/-- ITS FALSE NEIGHBOUR: 'it returns false'. Refute it at one input. -/
def breaksSpecWrong : ChangeSpec := { name := "breaksSpec", fn := fun _ => fun
  | [d1, d2, d3] => { results := [.lit (.bool false)], args := [d1, d2, d3] }
  | _ => none }
def BreaksSpecWrongFalsely : Prop := breaksSpecRow.holds Try.pinned (OpenSpec.ofChange breaksSpecWrong)

/-- 'hansardlaw47.BreaksProveSpec': WHATEVER THE INPUT: true; the input reads as it did. -/
def breaksProveSpecSpec : ChangeSpec := { name := "breaksProveSpec", fn := fun _ => fun
  | [d1, d2, d3, d4, d5] => { results := [.lit (.bool true)], args := [d1, d2, d3, d4, d5] }
  | _ => none }
def breaksProveSpecRow : OpenClaim := { program := "ytdcndhfjfllehaa", sum := "ca7c1b6aea31ea0cb9e43ece26cece86fca72ea3a520ad0900dafb99c1b1fadb", func := "hansard/hansardlaw47.BreaksProveSpec", spec := "breaksProveSpec", unfollowed := true, recurses := true, apart := false }
def BreaksProveSpecSaid : Prop := breaksProveSpecRow.holds Try.pinned (OpenSpec.ofChange breaksProveSpecSpec)

/-- ITS FALSE NEIGHBOUR: 'it returns false'. Refute it at one input. -/
def breaksProveSpecWrong : ChangeSpec := { name := "breaksProveSpec", fn := fun _ => fun
  | [d1, d2, d3, d4, d5] => { results := [.lit (.bool false)], args := [d1, d2, d3, d4, d5] }
  | _ => none }
def BreaksProveSpecWrongFalsely : Prop := breaksProveSpecRow.holds Try.pinned (OpenSpec.ofChange breaksProveSpecWrong)

/-- 'hansardlaw47.BreaksLeast': WHATEVER THE INPUT: true; the input reads as it did. -/
def breaksLeastSpec : ChangeSpec := { name := "breaksLeast", fn := fun _ => fun
  | [d1, d2, d3, d4] => { results := [.lit (.bool true)], args := [d1, d2, d3, d4] }
  | _ => none }
def breaksLeastRow : OpenClaim := { program := "ytdcndhfjfllehaa", sum := "ca7c1b6aea31ea0cb9e43ece26cece86fca72ea3a520ad0900dafb99c1b1fadb", func := "hansard/hansardlaw47.BreaksLeast", spec := "breaksLeast", unfollowed := true, recurses := true, apart := false }
def BreaksLeastSaid : Prop := breaksLeastRow.holds Try.pinned (OpenSpec.ofChange breaksLeastSpec)

/-- ITS FALSE NEIGHBOUR: 'it returns false'. Refute it at one input. -/
def breaksLeastWrong : ChangeSpec := { name := "breaksLeast", fn := fun _ => fun
  | [d1, d2, d3, d4] => { results := [.lit (.bool false)], args := [d1, d2, d3, d4] }
  | _ => none }
def BreaksLeastWrongFalsely : Prop := breaksLeastRow.holds Try.pinned (OpenSpec.ofChange breaksLeastWrong)

/-- 'hansardlaw47.BreaksSound': WHATEVER THE INPUT: true; the input reads as it did. -/
def breaksSoundSpec : ChangeSpec := { name := "breaksSound", fn := fun _ => fun
  | [d1, d2, d3, d4, d5, d6] => { results := [.lit (.bool true)], args := [d1, d2, d3, d4, d5, d6] }
  | _ => none }
def breaksSoundRow : OpenClaim := { program := "ytdcndhfjfllehaa", sum := "ca7c1b6aea31ea0cb9e43ece26cece86fca72ea3a520ad0900dafb99c1b1fadb", func := "hansard/hansardlaw47.BreaksSound", spec := "breaksSound", unfollowed := true, recurses := true, apart := false }
def BreaksSoundSaid : Prop := breaksSoundRow.holds Try.pinned (OpenSpec.ofChange breaksSoundSpec)

/-- ITS FALSE NEIGHBOUR: 'it returns false'. Refute it at one input. -/
def breaksSoundWrong : ChangeSpec := { name := "breaksSound", fn := fun _ => fun
  | [d1, d2, d3, d4, d5, d6] => { results := [.lit (.bool false)], args := [d1, d2, d3, d4, d5, d6] }
  | _ => none }
def BreaksSoundWrongFalsely : Prop := breaksSoundRow.holds Try.pinned (OpenSpec.ofChange breaksSoundWrong)

/-- 'hansardlaw47.BreaksRest': WHATEVER THE INPUT: true; the input reads as it did. -/
def breaksRestSpec : ChangeSpec := { name := "breaksRest", fn := fun _ => fun
  | [d1, d2, d3] => { results := [.lit (.bool true)], args := [d1, d2, d3] }
  | _ => none }
def breaksRestRow : OpenClaim := { program := "ytdcndhfjfllehaa", sum := "ca7c1b6aea31ea0cb9e43ece26cece86fca72ea3a520ad0900dafb99c1b1fadb", func := "hansard/hansardlaw47.BreaksRest", spec := "breaksRest", unfollowed := true, recurses := true, apart := false }
def BreaksRestSaid : Prop := breaksRestRow.holds Try.pinned (OpenSpec.ofChange breaksRestSpec)

/-- ITS FALSE NEIGHBOUR: 'it returns false'. Refute it at one input. -/
def breaksRestWrong : ChangeSpec := { name := "breaksRest", fn := fun _ => fun
  | [d1, d2, d3] => { results := [.lit (.bool false)], args := [d1, d2, d3] }
  | _ => none }
def BreaksRestWrongFalsely : Prop := breaksRestRow.holds Try.pinned (OpenSpec.ofChange breaksRestWrong)

/-- 'hansardlaw47.BreaksWide': WHATEVER THE INPUT: true; the input reads as it did. -/
def breaksWideSpec : ChangeSpec := { name := "breaksWide", fn := fun _ => fun
  | [d1, d2, d3] => { results := [.lit (.bool true)], args := [d1, d2, d3] }
  | _ => none }
def breaksWideRow : OpenClaim := { program := "ytdcndhfjfllehaa", sum := "ca7c1b6aea31ea0cb9e43ece26cece86fca72ea3a520ad0900dafb99c1b1fadb", func := "hansard/hansardlaw47.BreaksWide", spec := "breaksWide", unfollowed := true, recurses := true, apart := false }
def BreaksWideSaid : Prop := breaksWideRow.holds Try.pinned (OpenSpec.ofChange breaksWideSpec)

/-- ITS FALSE NEIGHBOUR: 'it returns false'. Refute it at one input. -/
def breaksWideWrong : ChangeSpec := { name := "breaksWide", fn := fun _ => fun
  | [d1, d2, d3] => { results := [.lit (.bool false)], args := [d1, d2, d3] }
  | _ => none }
def BreaksWideWrongFalsely : Prop := breaksWideRow.holds Try.pinned (OpenSpec.ofChange breaksWideWrong)

/- THE SECOND FORM. 'bulk': how many values and letters a reading holds, each counted each time it is reached (what is shared counts as often as it is met; a slice's spare places count too). A statement '..UptoSaid' is the law's where the arguments, and the package variables that the reading takes, are together of bulk at most 1048576: NARROWER than '..Said'. Prove '..Said' where nothing that the law and all that it calls make is longer than what came in: it says more and counts as full. Else prove '..UptoSaid'. A law counts once. -/
mutual
def uptoBulk {H : Type} : DataW H → Nat
  | .lit (.string bytes) => bytes.length + 1
  | .lit _ => 1
  | .nil => 1
  | .ptr d => uptoBulk d + 1
  | .slice elems spare => uptoBulkAll elems + uptoBulkAll spare + 1
  | .agg parts => uptoBulkAll parts + 1
  | .iface _ d => uptoBulk d + 1
  | .map entries => uptoBulkEntries entries + 1
  | .held _ => 1
def uptoBulkAll {H : Type} : List (DataW H) → Nat
  | [] => 0
  | d :: r => uptoBulk d + uptoBulkAll r
def uptoBulkEntries {H : Type} : List (Lit × DataW H) → Nat
  | [] => 0
  | x :: r => uptoBulkEntry x + uptoBulkEntries r
def uptoBulkEntry {H : Type} : Lit × DataW H → Nat
  | (.string bytes, d) => bytes.length + uptoBulk d + 1
  | (_, d) => uptoBulk d + 1
 end
def uptoSmall : (H : Type) → List (DataW H) → Bool := fun _ ds => decide (uptoBulkAll ds ≤ 1048576)
def OpenSpec.upto (s : _root_.Go.ChangeSpec) : _root_.Go.OpenSpec := { _root_.Go.OpenSpec.ofChange s with cond := some uptoSmall }

/-- 'hansardlaw47.BreaksSpec', WHERE WHAT IT READS IS OF BULK AT MOST 1048576: true; the input reads as it did. -/
def breaksSpecUptoRow : OpenClaim := { program := "ytdcndhfjfllehaa", sum := "ca7c1b6aea31ea0cb9e43ece26cece86fca72ea3a520ad0900dafb99c1b1fadb", func := "hansard/hansardlaw47.BreaksSpec", spec := "breaksSpec", unfollowed := true, recurses := true, apart := false, narrowed := true }
def BreaksSpecUptoSaid : Prop := breaksSpecUptoRow.holds Try.pinned (OpenSpec.upto breaksSpecSpec)

/-- 'hansardlaw47.BreaksProveSpec', WHERE WHAT IT READS IS OF BULK AT MOST 1048576: true; the input reads as it did. -/
def breaksProveSpecUptoRow : OpenClaim := { program := "ytdcndhfjfllehaa", sum := "ca7c1b6aea31ea0cb9e43ece26cece86fca72ea3a520ad0900dafb99c1b1fadb", func := "hansard/hansardlaw47.BreaksProveSpec", spec := "breaksProveSpec", unfollowed := true, recurses := true, apart := false, narrowed := true }
def BreaksProveSpecUptoSaid : Prop := breaksProveSpecUptoRow.holds Try.pinned (OpenSpec.upto breaksProveSpecSpec)

/-- 'hansardlaw47.BreaksLeast', WHERE WHAT IT READS IS OF BULK AT MOST 1048576: true; the input reads as it did. -/
def breaksLeastUptoRow : OpenClaim := { program := "ytdcndhfjfllehaa", sum := "ca7c1b6aea31ea0cb9e43ece26cece86fca72ea3a520ad0900dafb99c1b1fadb", func := "hansard/hansardlaw47.BreaksLeast", spec := "breaksLeast", unfollowed := true, recurses := true, apart := false, narrowed := true }
def BreaksLeastUptoSaid : Prop := breaksLeastUptoRow.holds Try.pinned (OpenSpec.upto breaksLeastSpec)

/-- 'hansardlaw47.BreaksSound', WHERE WHAT IT READS IS OF BULK AT MOST 1048576: true; the input reads as it did. -/
def breaksSoundUptoRow : OpenClaim := { program := "ytdcndhfjfllehaa", sum := "ca7c1b6aea31ea0cb9e43ece26cece86fca72ea3a520ad0900dafb99c1b1fadb", func := "hansard/hansardlaw47.BreaksSound", spec := "breaksSound", unfollowed := true, recurses := true, apart := false, narrowed := true }
def BreaksSoundUptoSaid : Prop := breaksSoundUptoRow.holds Try.pinned (OpenSpec.upto breaksSoundSpec)

/-- 'hansardlaw47.BreaksRest', WHERE WHAT IT READS IS OF BULK AT MOST 1048576: true; the input reads as it did. -/
def breaksRestUptoRow : OpenClaim := { program := "ytdcndhfjfllehaa", sum := "ca7c1b6aea31ea0cb9e43ece26cece86fca72ea3a520ad0900dafb99c1b1fadb", func := "hansard/hansardlaw47.BreaksRest", spec := "breaksRest", unfollowed := true, recurses := true, apart := false, narrowed := true }
def BreaksRestUptoSaid : Prop := breaksRestUptoRow.holds Try.pinned (OpenSpec.upto breaksRestSpec)

/-- 'hansardlaw47.BreaksWide', WHERE WHAT IT READS IS OF BULK AT MOST 1048576: true; the input reads as it did. -/
def breaksWideUptoRow : OpenClaim := { program := "ytdcndhfjfllehaa", sum := "ca7c1b6aea31ea0cb9e43ece26cece86fca72ea3a520ad0900dafb99c1b1fadb", func := "hansard/hansardlaw47.BreaksWide", spec := "breaksWide", unfollowed := true, recurses := true, apart := false, narrowed := true }
def BreaksWideUptoSaid : Prop := breaksWideUptoRow.holds Try.pinned (OpenSpec.upto breaksWideSpec)

end Rows
end Go.Proofs.Ytdcndhfjfllehaa
