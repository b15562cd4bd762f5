/-
  No cell of these rows narrows 'for every input' (looked for: loops, veiled, ifaces, maps, wideKeys, modest, calm, conditions, laid).
  DERIVED. THE GIVEN ROWS OF THIS SEAT. 11 by the template 'for every input the law returns true; each argument reads behind the call as it read before'; 0 by the template 'total and deterministic' (their statements: YtninnpcggeofmaaTotals.lean).
  GIVEN WITH THE SEED: the statements are not yours to turn. If you find one false, say at which input.
  Laid BY PROGRAM, IN A SANDBOX (cutbox-rows.mjs): the forced cells as the released guide's own fill.sh prints them over the translation ab9c4f0942db67ab… (all of the seat's roots in one cut). By AI agents, Wed Nov 11 2026. No macro, syntax, notation, axiom, sorry.
-/
import Derived.Test.YtninnpcggeofmaaChecked
import GoSem.Claim
import GoSem.ClaimJoined
import GoSem.ClaimMapViews
import Derived.JoinedTies
import Derived.KernelRfl
namespace Go.Proofs.Ytninnpcggeofmaa
/- THE CELL 'sum', in the pinned program and in every row, IS THE sha256 OF THE DUMP (.gsa) THAT YtninnpcggeofmaaProg.lean LOADS. Nothing in Lean hashes anything: it is a label: what it is worth is what the hold of that sum in a sandbox is worth. -/
noncomputable def Try.pinned : Pinned := { name := "ytninnpcggeofmaa", sum := "ab9c4f0942db67ab7cbd53e124eba9fe58281792e056c8266a9da46a301f4c98", checked := Try.checked }
namespace Rows
def none {H : Type} : Left H := { results := [], args := [] }

/-- 'hansardlaw35.HouseSpec': WHATEVER THE INPUT: true; the input reads as it did. -/
def houseSpecSpec : ChangeSpec := { name := "houseSpec", fn := fun _ => fun
  | [d1, d2, d3] => { results := [.lit (.bool true)], args := [d1, d2, d3] }
  | _ => none }
def houseSpecRow : OpenClaim := { program := "ytninnpcggeofmaa", sum := "ab9c4f0942db67ab7cbd53e124eba9fe58281792e056c8266a9da46a301f4c98", func := "hansard/hansardlaw35.HouseSpec", spec := "houseSpec", inPlace := ["slices.overlaps[hansard/api.House]"], unfollowed := true, recurses := true, apart := false }
def HouseSpecSaid : Prop := houseSpecRow.holds Try.pinned (OpenSpec.ofChange houseSpecSpec)

/-- ITS FALSE NEIGHBOUR: 'it returns false'. Refute it at one input. -/
def houseSpecWrong : ChangeSpec := { name := "houseSpec", fn := fun _ => fun
  | [d1, d2, d3] => { results := [.lit (.bool false)], args := [d1, d2, d3] }
  | _ => none }
def HouseSpecWrongFalsely : Prop := houseSpecRow.holds Try.pinned (OpenSpec.ofChange houseSpecWrong)

/-- 'hansardlaw35.HouseCoversSpec': WHATEVER THE INPUT: true; the input reads as it did. -/
def houseCoversSpecSpec : ChangeSpec := { name := "houseCoversSpec", fn := fun _ => fun
  | [d1, d2, d3, d4, d5] => { results := [.lit (.bool true)], args := [d1, d2, d3, d4, d5] }
  | _ => none }
def houseCoversSpecRow : OpenClaim := { program := "ytninnpcggeofmaa", sum := "ab9c4f0942db67ab7cbd53e124eba9fe58281792e056c8266a9da46a301f4c98", func := "hansard/hansardlaw35.HouseCoversSpec", spec := "houseCoversSpec", inPlace := ["slices.overlaps[hansard/api.House]"], unfollowed := true, recurses := true, apart := false }
def HouseCoversSpecSaid : Prop := houseCoversSpecRow.holds Try.pinned (OpenSpec.ofChange houseCoversSpecSpec)

/-- ITS FALSE NEIGHBOUR: 'it returns false'. Refute it at one input. -/
def houseCoversSpecWrong : ChangeSpec := { name := "houseCoversSpec", fn := fun _ => fun
  | [d1, d2, d3, d4, d5] => { results := [.lit (.bool false)], args := [d1, d2, d3, d4, d5] }
  | _ => none }
def HouseCoversSpecWrongFalsely : Prop := houseCoversSpecRow.holds Try.pinned (OpenSpec.ofChange houseCoversSpecWrong)

/-- 'hansardlaw35.HouseBox': WHATEVER THE INPUT: true; the input reads as it did. -/
def houseBoxSpec : ChangeSpec := { name := "houseBox", fn := fun _ => fun
  | [d1, d2, d3] => { results := [.lit (.bool true)], args := [d1, d2, d3] }
  | _ => none }
def houseBoxRow : OpenClaim := { program := "ytninnpcggeofmaa", sum := "ab9c4f0942db67ab7cbd53e124eba9fe58281792e056c8266a9da46a301f4c98", func := "hansard/hansardlaw35.HouseBox", spec := "houseBox", inPlace := ["slices.overlaps[hansard/api.House]"], unfollowed := true, recurses := true, apart := false }
def HouseBoxSaid : Prop := houseBoxRow.holds Try.pinned (OpenSpec.ofChange houseBoxSpec)

/-- ITS FALSE NEIGHBOUR: 'it returns false'. Refute it at one input. -/
def houseBoxWrong : ChangeSpec := { name := "houseBox", fn := fun _ => fun
  | [d1, d2, d3] => { results := [.lit (.bool false)], args := [d1, d2, d3] }
  | _ => none }
def HouseBoxWrongFalsely : Prop := houseBoxRow.holds Try.pinned (OpenSpec.ofChange houseBoxWrong)

/-- 'hansardlaw35.HouseEnds': WHATEVER THE INPUT: true; the input reads as it did. -/
def houseEndsSpec : ChangeSpec := { name := "houseEnds", fn := fun _ => fun
  | [d1, d2, d3] => { results := [.lit (.bool true)], args := [d1, d2, d3] }
  | _ => none }
def houseEndsRow : OpenClaim := { program := "ytninnpcggeofmaa", sum := "ab9c4f0942db67ab7cbd53e124eba9fe58281792e056c8266a9da46a301f4c98", func := "hansard/hansardlaw35.HouseEnds", spec := "houseEnds", inPlace := ["slices.overlaps[hansard/api.House]"], unfollowed := true, recurses := true, apart := false }
def HouseEndsSaid : Prop := houseEndsRow.holds Try.pinned (OpenSpec.ofChange houseEndsSpec)

/-- ITS FALSE NEIGHBOUR: 'it returns false'. Refute it at one input. -/
def houseEndsWrong : ChangeSpec := { name := "houseEnds", fn := fun _ => fun
  | [d1, d2, d3] => { results := [.lit (.bool false)], args := [d1, d2, d3] }
  | _ => none }
def HouseEndsWrongFalsely : Prop := houseEndsRow.holds Try.pinned (OpenSpec.ofChange houseEndsWrong)

/-- 'hansardlaw35.HouseAdded': WHATEVER THE INPUT: true; the input reads as it did. -/
def houseAddedSpec : ChangeSpec := { name := "houseAdded", fn := fun _ => fun
  | [d1, d2, d3, d4] => { results := [.lit (.bool true)], args := [d1, d2, d3, d4] }
  | _ => none }
def houseAddedRow : OpenClaim := { program := "ytninnpcggeofmaa", sum := "ab9c4f0942db67ab7cbd53e124eba9fe58281792e056c8266a9da46a301f4c98", func := "hansard/hansardlaw35.HouseAdded", spec := "houseAdded", inPlace := ["slices.overlaps[hansard/api.House]"], unfollowed := true, recurses := true, apart := false }
def HouseAddedSaid : Prop := houseAddedRow.holds Try.pinned (OpenSpec.ofChange houseAddedSpec)

/-- ITS FALSE NEIGHBOUR: 'it returns false'. Refute it at one input. -/
def houseAddedWrong : ChangeSpec := { name := "houseAdded", fn := fun _ => fun
  | [d1, d2, d3, d4] => { results := [.lit (.bool false)], args := [d1, d2, d3, d4] }
  | _ => none }
def HouseAddedWrongFalsely : Prop := houseAddedRow.holds Try.pinned (OpenSpec.ofChange houseAddedWrong)

/-- 'hansardlaw36.VerdictsSpec': WHATEVER THE INPUT: true; the input reads as it did. -/
def verdictsSpecSpec : ChangeSpec := { name := "verdictsSpec", fn := fun _ => fun
  | [d1, d2, d3, d4, d5, d6] => { results := [.lit (.bool true)], args := [d1, d2, d3, d4, d5, d6] }
  | _ => none }
def verdictsSpecRow : OpenClaim := { program := "ytninnpcggeofmaa", sum := "ab9c4f0942db67ab7cbd53e124eba9fe58281792e056c8266a9da46a301f4c98", func := "hansard/hansardlaw36.VerdictsSpec", spec := "verdictsSpec", unfollowed := true, recurses := true, apart := false }
def VerdictsSpecSaid : Prop := verdictsSpecRow.holds Try.pinned (OpenSpec.ofChange verdictsSpecSpec)

/-- ITS FALSE NEIGHBOUR: 'it returns false'. Refute it at one input. -/
def verdictsSpecWrong : ChangeSpec := { name := "verdictsSpec", fn := fun _ => fun
  | [d1, d2, d3, d4, d5, d6] => { results := [.lit (.bool false)], args := [d1, d2, d3, d4, d5, d6] }
  | _ => none }
def VerdictsSpecWrongFalsely : Prop := verdictsSpecRow.holds Try.pinned (OpenSpec.ofChange verdictsSpecWrong)

/-- 'hansardlaw36.VerdictsReason': WHATEVER THE INPUT: true; the input reads as it did. -/
def verdictsReasonSpec : ChangeSpec := { name := "verdictsReason", fn := fun _ => fun
  | [d1, d2] => { results := [.lit (.bool true)], args := [d1, d2] }
  | _ => none }
def verdictsReasonRow : OpenClaim := { program := "ytninnpcggeofmaa", sum := "ab9c4f0942db67ab7cbd53e124eba9fe58281792e056c8266a9da46a301f4c98", func := "hansard/hansardlaw36.VerdictsReason", spec := "verdictsReason", unfollowed := true, recurses := true, apart := false }
def VerdictsReasonSaid : Prop := verdictsReasonRow.holds Try.pinned (OpenSpec.ofChange verdictsReasonSpec)

/-- ITS FALSE NEIGHBOUR: 'it returns false'. Refute it at one input. -/
def verdictsReasonWrong : ChangeSpec := { name := "verdictsReason", fn := fun _ => fun
  | [d1, d2] => { results := [.lit (.bool false)], args := [d1, d2] }
  | _ => none }
def VerdictsReasonWrongFalsely : Prop := verdictsReasonRow.holds Try.pinned (OpenSpec.ofChange verdictsReasonWrong)

/-- 'hansardlaw36.VerdictsStrict': WHATEVER THE INPUT: true; the input reads as it did. -/
def verdictsStrictSpec : ChangeSpec := { name := "verdictsStrict", fn := fun _ => fun
  | [d1, d2] => { results := [.lit (.bool true)], args := [d1, d2] }
  | _ => none }
def verdictsStrictRow : OpenClaim := { program := "ytninnpcggeofmaa", sum := "ab9c4f0942db67ab7cbd53e124eba9fe58281792e056c8266a9da46a301f4c98", func := "hansard/hansardlaw36.VerdictsStrict", spec := "verdictsStrict", unfollowed := true, recurses := true, apart := false }
def VerdictsStrictSaid : Prop := verdictsStrictRow.holds Try.pinned (OpenSpec.ofChange verdictsStrictSpec)

/-- ITS FALSE NEIGHBOUR: 'it returns false'. Refute it at one input. -/
def verdictsStrictWrong : ChangeSpec := { name := "verdictsStrict", fn := fun _ => fun
  | [d1, d2] => { results := [.lit (.bool false)], args := [d1, d2] }
  | _ => none }
def VerdictsStrictWrongFalsely : Prop := verdictsStrictRow.holds Try.pinned (OpenSpec.ofChange verdictsStrictWrong)

/-- 'hansardlaw36.VerdictsHeld': WHATEVER THE INPUT: true; the input reads as it did. -/
def verdictsHeldSpec : ChangeSpec := { name := "verdictsHeld", fn := fun _ => fun
  | [d1, d2] => { results := [.lit (.bool true)], args := [d1, d2] }
  | _ => none }
def verdictsHeldRow : OpenClaim := { program := "ytninnpcggeofmaa", sum := "ab9c4f0942db67ab7cbd53e124eba9fe58281792e056c8266a9da46a301f4c98", func := "hansard/hansardlaw36.VerdictsHeld", spec := "verdictsHeld", unfollowed := true, recurses := true, apart := false }
def VerdictsHeldSaid : Prop := verdictsHeldRow.holds Try.pinned (OpenSpec.ofChange verdictsHeldSpec)

/-- ITS FALSE NEIGHBOUR: 'it returns false'. Refute it at one input. -/
def verdictsHeldWrong : ChangeSpec := { name := "verdictsHeld", fn := fun _ => fun
  | [d1, d2] => { results := [.lit (.bool false)], args := [d1, d2] }
  | _ => none }
def VerdictsHeldWrongFalsely : Prop := verdictsHeldRow.holds Try.pinned (OpenSpec.ofChange verdictsHeldWrong)

/-- 'hansardlaw36.VerdictsKnown': WHATEVER THE INPUT: true; the input reads as it did. -/
def verdictsKnownSpec : ChangeSpec := { name := "verdictsKnown", fn := fun _ => fun
  | [d1, d2, d3] => { results := [.lit (.bool true)], args := [d1, d2, d3] }
  | _ => none }
def verdictsKnownRow : OpenClaim := { program := "ytninnpcggeofmaa", sum := "ab9c4f0942db67ab7cbd53e124eba9fe58281792e056c8266a9da46a301f4c98", func := "hansard/hansardlaw36.VerdictsKnown", spec := "verdictsKnown", inPlace := ["slices.overlaps[hansard/api.House]"], unfollowed := true, recurses := true, apart := false }
def VerdictsKnownSaid : Prop := verdictsKnownRow.holds Try.pinned (OpenSpec.ofChange verdictsKnownSpec)

/-- ITS FALSE NEIGHBOUR: 'it returns false'. Refute it at one input. -/
def verdictsKnownWrong : ChangeSpec := { name := "verdictsKnown", fn := fun _ => fun
  | [d1, d2, d3] => { results := [.lit (.bool false)], args := [d1, d2, d3] }
  | _ => none }
def VerdictsKnownWrongFalsely : Prop := verdictsKnownRow.holds Try.pinned (OpenSpec.ofChange verdictsKnownWrong)

/-- 'hansardlaw36.VerdictsMore': WHATEVER THE INPUT: true; the input reads as it did. -/
def verdictsMoreSpec : ChangeSpec := { name := "verdictsMore", fn := fun _ => fun
  | [d1, d2, d3] => { results := [.lit (.bool true)], args := [d1, d2, d3] }
  | _ => none }
def verdictsMoreRow : OpenClaim := { program := "ytninnpcggeofmaa", sum := "ab9c4f0942db67ab7cbd53e124eba9fe58281792e056c8266a9da46a301f4c98", func := "hansard/hansardlaw36.VerdictsMore", spec := "verdictsMore", inPlace := ["slices.overlaps[hansard/api.House]"], unfollowed := true, recurses := true, apart := false }
def VerdictsMoreSaid : Prop := verdictsMoreRow.holds Try.pinned (OpenSpec.ofChange verdictsMoreSpec)

/-- ITS FALSE NEIGHBOUR: 'it returns false'. Refute it at one input. -/
def verdictsMoreWrong : ChangeSpec := { name := "verdictsMore", fn := fun _ => fun
  | [d1, d2, d3] => { results := [.lit (.bool false)], args := [d1, d2, d3] }
  | _ => none }
def VerdictsMoreWrongFalsely : Prop := verdictsMoreRow.holds Try.pinned (OpenSpec.ofChange verdictsMoreWrong)

/- THE SECOND FORM. 'bulk': how many values and letters a reading holds, each counted each time it is reached (what is shared counts as often as it is met; a slice's spare places count too). A statement '..UptoSaid' is the law's where the arguments, and the package variables that the reading takes, are together of bulk at most 1048576: NARROWER than '..Said'. Prove '..Said' where nothing that the law and all that it calls make is longer than what came in: it says more and counts as full. Else prove '..UptoSaid'. A law counts once. -/
mutual
def uptoBulk {H : Type} : DataW H → Nat
  | .lit (.string bytes) => bytes.length + 1
  | .lit _ => 1
  | .nil => 1
  | .ptr d => uptoBulk d + 1
  | .slice elems spare => uptoBulkAll elems + uptoBulkAll spare + 1
  | .agg parts => uptoBulkAll parts + 1
  | .iface _ d => uptoBulk d + 1
  | .map entries => uptoBulkEntries entries + 1
  | .held _ => 1
def uptoBulkAll {H : Type} : List (DataW H) → Nat
  | [] => 0
  | d :: r => uptoBulk d + uptoBulkAll r
def uptoBulkEntries {H : Type} : List (Lit × DataW H) → Nat
  | [] => 0
  | x :: r => uptoBulkEntry x + uptoBulkEntries r
def uptoBulkEntry {H : Type} : Lit × DataW H → Nat
  | (.string bytes, d) => bytes.length + uptoBulk d + 1
  | (_, d) => uptoBulk d + 1
 end
def uptoSmall : (H : Type) → List (DataW H) → Bool := fun _ ds => decide (uptoBulkAll ds ≤ 1048576)
def OpenSpec.upto (s : _root_.Go.ChangeSpec) : _root_.Go.OpenSpec := { _root_.Go.OpenSpec.ofChange s with cond := some uptoSmall }

/-- 'hansardlaw35.HouseSpec', WHERE WHAT IT READS IS OF BULK AT MOST 1048576: true; the input reads as it did. -/
def houseSpecUptoRow : OpenClaim := { program := "ytninnpcggeofmaa", sum := "ab9c4f0942db67ab7cbd53e124eba9fe58281792e056c8266a9da46a301f4c98", func := "hansard/hansardlaw35.HouseSpec", spec := "houseSpec", inPlace := ["slices.overlaps[hansard/api.House]"], unfollowed := true, recurses := true, apart := false, narrowed := true }
def HouseSpecUptoSaid : Prop := houseSpecUptoRow.holds Try.pinned (OpenSpec.upto houseSpecSpec)

/-- 'hansardlaw35.HouseCoversSpec', WHERE WHAT IT READS IS OF BULK AT MOST 1048576: true; the input reads as it did. -/
def houseCoversSpecUptoRow : OpenClaim := { program := "ytninnpcggeofmaa", sum := "ab9c4f0942db67ab7cbd53e124eba9fe58281792e056c8266a9da46a301f4c98", func := "hansard/hansardlaw35.HouseCoversSpec", spec := "houseCoversSpec", inPlace := ["slices.overlaps[hansard/api.House]"], unfollowed := true, recurses := true, apart := false, narrowed := true }
def HouseCoversSpecUptoSaid : Prop := houseCoversSpecUptoRow.holds Try.pinned (OpenSpec.upto houseCoversSpecSpec)

/-- 'hansardlaw35.HouseBox', WHERE WHAT IT READS IS OF BULK AT MOST 1048576: true; the input reads as it did. -/
def houseBoxUptoRow : OpenClaim := { program := "ytninnpcggeofmaa", sum := "ab9c4f0942db67ab7cbd53e124eba9fe58281792e056c8266a9da46a301f4c98", func := "hansard/hansardlaw35.HouseBox", spec := "houseBox", inPlace := ["slices.overlaps[hansard/api.House]"], unfollowed := true, recurses := true, apart := false, narrowed := true }
def HouseBoxUptoSaid : Prop := houseBoxUptoRow.holds Try.pinned (OpenSpec.upto houseBoxSpec)

/-- 'hansardlaw35.HouseEnds', WHERE WHAT IT READS IS OF BULK AT MOST 1048576: true; the input reads as it did. -/
def houseEndsUptoRow : OpenClaim := { program := "ytninnpcggeofmaa", sum := "ab9c4f0942db67ab7cbd53e124eba9fe58281792e056c8266a9da46a301f4c98", func := "hansard/hansardlaw35.HouseEnds", spec := "houseEnds", inPlace := ["slices.overlaps[hansard/api.House]"], unfollowed := true, recurses := true, apart := false, narrowed := true }
def HouseEndsUptoSaid : Prop := houseEndsUptoRow.holds Try.pinned (OpenSpec.upto houseEndsSpec)

/-- 'hansardlaw35.HouseAdded', WHERE WHAT IT READS IS OF BULK AT MOST 1048576: true; the input reads as it did. -/
def houseAddedUptoRow : OpenClaim := { program := "ytninnpcggeofmaa", sum := "ab9c4f0942db67ab7cbd53e124eba9fe58281792e056c8266a9da46a301f4c98", func := "hansard/hansardlaw35.HouseAdded", spec := "houseAdded", inPlace := ["slices.overlaps[hansard/api.House]"], unfollowed := true, recurses := true, apart := false, narrowed := true }
def HouseAddedUptoSaid : Prop := houseAddedUptoRow.holds Try.pinned (OpenSpec.upto houseAddedSpec)

/-- 'hansardlaw36.VerdictsSpec', WHERE WHAT IT READS IS OF BULK AT MOST 1048576: true; the input reads as it did. -/
def verdictsSpecUptoRow : OpenClaim := { program := "ytninnpcggeofmaa", sum := "ab9c4f0942db67ab7cbd53e124eba9fe58281792e056c8266a9da46a301f4c98", func := "hansard/hansardlaw36.VerdictsSpec", spec := "verdictsSpec", unfollowed := true, recurses := true, apart := false, narrowed := true }
def VerdictsSpecUptoSaid : Prop := verdictsSpecUptoRow.holds Try.pinned (OpenSpec.upto verdictsSpecSpec)

/-- 'hansardlaw36.VerdictsReason', WHERE WHAT IT READS IS OF BULK AT MOST 1048576: true; the input reads as it did. -/
def verdictsReasonUptoRow : OpenClaim := { program := "ytninnpcggeofmaa", sum := "ab9c4f0942db67ab7cbd53e124eba9fe58281792e056c8266a9da46a301f4c98", func := "hansard/hansardlaw36.VerdictsReason", spec := "verdictsReason", unfollowed := true, recurses := true, apart := false, narrowed := true }
def VerdictsReasonUptoSaid : Prop := verdictsReasonUptoRow.holds Try.pinned (OpenSpec.upto verdictsReasonSpec)

/-- 'hansardlaw36.VerdictsStrict', WHERE WHAT IT READS IS OF BULK AT MOST 1048576: true; the input reads as it did. -/
def verdictsStrictUptoRow : OpenClaim := { program := "ytninnpcggeofmaa", sum := "ab9c4f0942db67ab7cbd53e124eba9fe58281792e056c8266a9da46a301f4c98", func := "hansard/hansardlaw36.VerdictsStrict", spec := "verdictsStrict", unfollowed := true, recurses := true, apart := false, narrowed := true }
def VerdictsStrictUptoSaid : Prop := verdictsStrictUptoRow.holds Try.pinned (OpenSpec.upto verdictsStrictSpec)

/-- 'hansardlaw36.VerdictsHeld', WHERE WHAT IT READS IS OF BULK AT MOST 1048576: true; the input reads as it did. -/
def verdictsHeldUptoRow : OpenClaim := { program := "ytninnpcggeofmaa", sum := "ab9c4f0942db67ab7cbd53e124eba9fe58281792e056c8266a9da46a301f4c98", func := "hansard/hansardlaw36.VerdictsHeld", spec := "verdictsHeld", unfollowed := true, recurses := true, apart := false, narrowed := true }
def VerdictsHeldUptoSaid : Prop := verdictsHeldUptoRow.holds Try.pinned (OpenSpec.upto verdictsHeldSpec)

/-- 'hansardlaw36.VerdictsKnown', WHERE WHAT IT READS IS OF BULK AT MOST 1048576: true; the input reads as it did. -/
def verdictsKnownUptoRow : OpenClaim := { program := "ytninnpcggeofmaa", sum := "ab9c4f0942db67ab7cbd53e124eba9fe58281792e056c8266a9da46a301f4c98", func := "hansard/hansardlaw36.VerdictsKnown", spec := "verdictsKnown", inPlace := ["slices.overlaps[hansard/api.House]"], unfollowed := true, recurses := true, apart := false, narrowed := true }
def VerdictsKnownUptoSaid : Prop := verdictsKnownUptoRow.holds Try.pinned (OpenSpec.upto verdictsKnownSpec)

/-- 'hansardlaw36.VerdictsMore', WHERE WHAT IT READS IS OF BULK AT MOST 1048576: true; the input reads as it did. -/
def verdictsMoreUptoRow : OpenClaim := { program := "ytninnpcggeofmaa", sum := "ab9c4f0942db67ab7cbd53e124eba9fe58281792e056c8266a9da46a301f4c98", func := "hansard/hansardlaw36.VerdictsMore", spec := "verdictsMore", inPlace := ["slices.overlaps[hansard/api.House]"], unfollowed := true, recurses := true, apart := false, narrowed := true }
def VerdictsMoreUptoSaid : Prop := verdictsMoreUptoRow.holds Try.pinned (OpenSpec.upto verdictsMoreSpec)

end Rows
end Go.Proofs.Ytninnpcggeofmaa
