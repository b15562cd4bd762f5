/-
  No cell of these rows narrows 'for every input' (looked for: loops, veiled, ifaces, maps, wideKeys, modest, calm, conditions, laid).
  DERIVED. THE GIVEN ROWS OF THIS SEAT. 6 by the template 'for every input the law returns true; each argument reads behind the call as it read before'; 0 by the template 'total and deterministic' (their statements: YtcifhigeieoogaaTotals.lean).
  GIVEN WITH THE SEED: the statements are not yours to turn. If you find one false, say at which input.
  Laid BY PROGRAM, IN A SANDBOX (cutbox-rows.mjs): the forced cells as the released guide's own fill.sh prints them over the translation 9438be9f710b2cc2… (all of the seat's roots in one cut). By AI agents, Wed Nov 11 2026. No macro, syntax, notation, axiom, sorry.
-/
import Derived.Test.YtcifhigeieoogaaChecked
import GoSem.Claim
import GoSem.ClaimJoined
import GoSem.ClaimMapViews
import Derived.JoinedTies
import Derived.KernelRfl
namespace Go.Proofs.Ytcifhigeieoogaa
/- THE CELL 'sum', in the pinned program and in every row, IS THE sha256 OF THE DUMP (.gsa) THAT YtcifhigeieoogaaProg.lean LOADS. Nothing in Lean hashes anything: it is a label: what it is worth is what the hold of that sum in a sandbox is worth. -/
noncomputable def Try.pinned : Pinned := { name := "ytcifhigeieoogaa", sum := "9438be9f710b2cc23a4fb7e8f640492be073c2446e12354a353145cbebf8cd4d", checked := Try.checked }
namespace Rows
def none {H : Type} : Left H := { results := [], args := [] }

/-- 'hansardlaw16.VersionsOrder': WHATEVER THE INPUT: true; the input reads as it did. -/
def versionsOrderSpec : ChangeSpec := { name := "versionsOrder", fn := fun _ => fun
  | [d1, d2, d3, d4, d5] => { results := [.lit (.bool true)], args := [d1, d2, d3, d4, d5] }
  | _ => none }
def versionsOrderRow : OpenClaim := { program := "ytcifhigeieoogaa", sum := "9438be9f710b2cc23a4fb7e8f640492be073c2446e12354a353145cbebf8cd4d", func := "hansard/hansardlaw16.VersionsOrder", spec := "versionsOrder", inPlace := ["slices.overlaps[hansard/api.Amend]"], unfollowed := true, recurses := true, apart := false }
def VersionsOrderSaid : Prop := versionsOrderRow.holds Try.pinned (OpenSpec.ofChange versionsOrderSpec)

/-- ITS FALSE NEIGHBOUR: 'it returns false'. Refute it at one input. -/
def versionsOrderWrong : ChangeSpec := { name := "versionsOrder", fn := fun _ => fun
  | [d1, d2, d3, d4, d5] => { results := [.lit (.bool false)], args := [d1, d2, d3, d4, d5] }
  | _ => none }
def VersionsOrderWrongFalsely : Prop := versionsOrderRow.holds Try.pinned (OpenSpec.ofChange versionsOrderWrong)

/-- 'hansardlaw16.VersionsBefore': WHATEVER THE INPUT: true; the input reads as it did. -/
def versionsBeforeSpec : ChangeSpec := { name := "versionsBefore", fn := fun _ => fun
  | [d1, d2, d3, d4, d5] => { results := [.lit (.bool true)], args := [d1, d2, d3, d4, d5] }
  | _ => none }
def versionsBeforeRow : OpenClaim := { program := "ytcifhigeieoogaa", sum := "9438be9f710b2cc23a4fb7e8f640492be073c2446e12354a353145cbebf8cd4d", func := "hansard/hansardlaw16.VersionsBefore", spec := "versionsBefore", inPlace := ["slices.overlaps[hansard/api.Amend]"], unfollowed := true, recurses := true, apart := false }
def VersionsBeforeSaid : Prop := versionsBeforeRow.holds Try.pinned (OpenSpec.ofChange versionsBeforeSpec)

/-- ITS FALSE NEIGHBOUR: 'it returns false'. Refute it at one input. -/
def versionsBeforeWrong : ChangeSpec := { name := "versionsBefore", fn := fun _ => fun
  | [d1, d2, d3, d4, d5] => { results := [.lit (.bool false)], args := [d1, d2, d3, d4, d5] }
  | _ => none }
def VersionsBeforeWrongFalsely : Prop := versionsBeforeRow.holds Try.pinned (OpenSpec.ofChange versionsBeforeWrong)

/-- 'hansardlaw16.VersionsSpec': WHATEVER THE INPUT: true; the input reads as it did. -/
def versionsSpecSpec : ChangeSpec := { name := "versionsSpec", fn := fun _ => fun
  | [d1, d2] => { results := [.lit (.bool true)], args := [d1, d2] }
  | _ => none }
def versionsSpecRow : OpenClaim := { program := "ytcifhigeieoogaa", sum := "9438be9f710b2cc23a4fb7e8f640492be073c2446e12354a353145cbebf8cd4d", func := "hansard/hansardlaw16.VersionsSpec", spec := "versionsSpec", inPlace := ["slices.overlaps[hansard/api.Amend]"], unfollowed := true, recurses := true, apart := false }
def VersionsSpecSaid : Prop := versionsSpecRow.holds Try.pinned (OpenSpec.ofChange versionsSpecSpec)

/-- ITS FALSE NEIGHBOUR: 'it returns false'. Refute it at one input. -/
def versionsSpecWrong : ChangeSpec := { name := "versionsSpec", fn := fun _ => fun
  | [d1, d2] => { results := [.lit (.bool false)], args := [d1, d2] }
  | _ => none }
def VersionsSpecWrongFalsely : Prop := versionsSpecRow.holds Try.pinned (OpenSpec.ofChange versionsSpecWrong)

/-- 'hansardlaw16.VersionsValueSpec': WHATEVER THE INPUT: true; the input reads as it did. -/
def versionsValueSpecSpec : ChangeSpec := { name := "versionsValueSpec", fn := fun _ => fun
  | [d1, d2, d3, d4] => { results := [.lit (.bool true)], args := [d1, d2, d3, d4] }
  | _ => none }
def versionsValueSpecRow : OpenClaim := { program := "ytcifhigeieoogaa", sum := "9438be9f710b2cc23a4fb7e8f640492be073c2446e12354a353145cbebf8cd4d", func := "hansard/hansardlaw16.VersionsValueSpec", spec := "versionsValueSpec", inPlace := ["slices.overlaps[hansard/api.Amend]"], unfollowed := true, recurses := true, apart := false }
def VersionsValueSpecSaid : Prop := versionsValueSpecRow.holds Try.pinned (OpenSpec.ofChange versionsValueSpecSpec)

/-- ITS FALSE NEIGHBOUR: 'it returns false'. Refute it at one input. -/
def versionsValueSpecWrong : ChangeSpec := { name := "versionsValueSpec", fn := fun _ => fun
  | [d1, d2, d3, d4] => { results := [.lit (.bool false)], args := [d1, d2, d3, d4] }
  | _ => none }
def VersionsValueSpecWrongFalsely : Prop := versionsValueSpecRow.holds Try.pinned (OpenSpec.ofChange versionsValueSpecWrong)

/-- 'hansardlaw16.VersionsThen': WHATEVER THE INPUT: true; the input reads as it did. -/
def versionsThenSpec : ChangeSpec := { name := "versionsThen", fn := fun _ => fun
  | [d1, d2, d3, d4, d5] => { results := [.lit (.bool true)], args := [d1, d2, d3, d4, d5] }
  | _ => none }
def versionsThenRow : OpenClaim := { program := "ytcifhigeieoogaa", sum := "9438be9f710b2cc23a4fb7e8f640492be073c2446e12354a353145cbebf8cd4d", func := "hansard/hansardlaw16.VersionsThen", spec := "versionsThen", inPlace := ["slices.overlaps[hansard/api.Amend]"], unfollowed := true, recurses := true, apart := false }
def VersionsThenSaid : Prop := versionsThenRow.holds Try.pinned (OpenSpec.ofChange versionsThenSpec)

/-- ITS FALSE NEIGHBOUR: 'it returns false'. Refute it at one input. -/
def versionsThenWrong : ChangeSpec := { name := "versionsThen", fn := fun _ => fun
  | [d1, d2, d3, d4, d5] => { results := [.lit (.bool false)], args := [d1, d2, d3, d4, d5] }
  | _ => none }
def VersionsThenWrongFalsely : Prop := versionsThenRow.holds Try.pinned (OpenSpec.ofChange versionsThenWrong)

/-- 'hansardlaw16.VersionsSteps': WHATEVER THE INPUT: true; the input reads as it did. -/
def versionsStepsSpec : ChangeSpec := { name := "versionsSteps", fn := fun _ => fun
  | [d1, d2, d3, d4] => { results := [.lit (.bool true)], args := [d1, d2, d3, d4] }
  | _ => none }
def versionsStepsRow : OpenClaim := { program := "ytcifhigeieoogaa", sum := "9438be9f710b2cc23a4fb7e8f640492be073c2446e12354a353145cbebf8cd4d", func := "hansard/hansardlaw16.VersionsSteps", spec := "versionsSteps", inPlace := ["slices.overlaps[hansard/api.Amend]"], unfollowed := true, recurses := true, apart := false }
def VersionsStepsSaid : Prop := versionsStepsRow.holds Try.pinned (OpenSpec.ofChange versionsStepsSpec)

/-- ITS FALSE NEIGHBOUR: 'it returns false'. Refute it at one input. -/
def versionsStepsWrong : ChangeSpec := { name := "versionsSteps", fn := fun _ => fun
  | [d1, d2, d3, d4] => { results := [.lit (.bool false)], args := [d1, d2, d3, d4] }
  | _ => none }
def VersionsStepsWrongFalsely : Prop := versionsStepsRow.holds Try.pinned (OpenSpec.ofChange versionsStepsWrong)

/- THE SECOND FORM. 'bulk': how many values and letters a reading holds, each counted each time it is reached (what is shared counts as often as it is met; a slice's spare places count too). A statement '..UptoSaid' is the law's where the arguments, and the package variables that the reading takes, are together of bulk at most 1048576: NARROWER than '..Said'. Prove '..Said' where nothing that the law and all that it calls make is longer than what came in: it says more and counts as full. Else prove '..UptoSaid'. A law counts once. -/
mutual
def uptoBulk {H : Type} : DataW H → Nat
  | .lit (.string bytes) => bytes.length + 1
  | .lit _ => 1
  | .nil => 1
  | .ptr d => uptoBulk d + 1
  | .slice elems spare => uptoBulkAll elems + uptoBulkAll spare + 1
  | .agg parts => uptoBulkAll parts + 1
  | .iface _ d => uptoBulk d + 1
  | .map entries => uptoBulkEntries entries + 1
  | .held _ => 1
def uptoBulkAll {H : Type} : List (DataW H) → Nat
  | [] => 0
  | d :: r => uptoBulk d + uptoBulkAll r
def uptoBulkEntries {H : Type} : List (Lit × DataW H) → Nat
  | [] => 0
  | x :: r => uptoBulkEntry x + uptoBulkEntries r
def uptoBulkEntry {H : Type} : Lit × DataW H → Nat
  | (.string bytes, d) => bytes.length + uptoBulk d + 1
  | (_, d) => uptoBulk d + 1
 end
def uptoSmall : (H : Type) → List (DataW H) → Bool := fun _ ds => decide (uptoBulkAll ds ≤ 1048576)
def OpenSpec.upto (s : _root_.Go.ChangeSpec) : _root_.Go.OpenSpec := { _root_.Go.OpenSpec.ofChange s with cond := some uptoSmall }

/-- 'hansardlaw16.VersionsOrder', WHERE WHAT IT READS IS OF BULK AT MOST 1048576: true; the input reads as it did. -/
def versionsOrderUptoRow : OpenClaim := { program := "ytcifhigeieoogaa", sum := "9438be9f710b2cc23a4fb7e8f640492be073c2446e12354a353145cbebf8cd4d", func := "hansard/hansardlaw16.VersionsOrder", spec := "versionsOrder", inPlace := ["slices.overlaps[hansard/api.Amend]"], unfollowed := true, recurses := true, apart := false, narrowed := true }
def VersionsOrderUptoSaid : Prop := versionsOrderUptoRow.holds Try.pinned (OpenSpec.upto versionsOrderSpec)

/-- 'hansardlaw16.VersionsBefore', WHERE WHAT IT READS IS OF BULK AT MOST 1048576: true; the input reads as it did. -/
def versionsBeforeUptoRow : OpenClaim := { program := "ytcifhigeieoogaa", sum := "9438be9f710b2cc23a4fb7e8f640492be073c2446e12354a353145cbebf8cd4d", func := "hansard/hansardlaw16.VersionsBefore", spec := "versionsBefore", inPlace := ["slices.overlaps[hansard/api.Amend]"], unfollowed := true, recurses := true, apart := false, narrowed := true }
def VersionsBeforeUptoSaid : Prop := versionsBeforeUptoRow.holds Try.pinned (OpenSpec.upto versionsBeforeSpec)

/-- 'hansardlaw16.VersionsSpec', WHERE WHAT IT READS IS OF BULK AT MOST 1048576: true; the input reads as it did. -/
def versionsSpecUptoRow : OpenClaim := { program := "ytcifhigeieoogaa", sum := "9438be9f710b2cc23a4fb7e8f640492be073c2446e12354a353145cbebf8cd4d", func := "hansard/hansardlaw16.VersionsSpec", spec := "versionsSpec", inPlace := ["slices.overlaps[hansard/api.Amend]"], unfollowed := true, recurses := true, apart := false, narrowed := true }
def VersionsSpecUptoSaid : Prop := versionsSpecUptoRow.holds Try.pinned (OpenSpec.upto versionsSpecSpec)

/-- 'hansardlaw16.VersionsValueSpec', WHERE WHAT IT READS IS OF BULK AT MOST 1048576: true; the input reads as it did. -/
def versionsValueSpecUptoRow : OpenClaim := { program := "ytcifhigeieoogaa", sum := "9438be9f710b2cc23a4fb7e8f640492be073c2446e12354a353145cbebf8cd4d", func := "hansard/hansardlaw16.VersionsValueSpec", spec := "versionsValueSpec", inPlace := ["slices.overlaps[hansard/api.Amend]"], unfollowed := true, recurses := true, apart := false, narrowed := true }
def VersionsValueSpecUptoSaid : Prop := versionsValueSpecUptoRow.holds Try.pinned (OpenSpec.upto versionsValueSpecSpec)

/-- 'hansardlaw16.VersionsThen', WHERE WHAT IT READS IS OF BULK AT MOST 1048576: true; the input reads as it did. -/
def versionsThenUptoRow : OpenClaim := { program := "ytcifhigeieoogaa", sum := "9438be9f710b2cc23a4fb7e8f640492be073c2446e12354a353145cbebf8cd4d", func := "hansard/hansardlaw16.VersionsThen", spec := "versionsThen", inPlace := ["slices.overlaps[hansard/api.Amend]"], unfollowed := true, recurses := true, apart := false, narrowed := true }
def VersionsThenUptoSaid : Prop := versionsThenUptoRow.holds Try.pinned (OpenSpec.upto versionsThenSpec)

/-- 'hansardlaw16.VersionsSteps', WHERE WHAT IT READS IS OF BULK AT MOST 1048576: true; the input reads as it did. -/
def versionsStepsUptoRow : OpenClaim := { program := "ytcifhigeieoogaa", sum := "9438be9f710b2cc23a4fb7e8f640492be073c2446e12354a353145cbebf8cd4d", func := "hansard/hansardlaw16.VersionsSteps", spec := "versionsSteps", inPlace := ["slices.overlaps[hansard/api.Amend]"], unfollowed := true, recurses := true, apart := false, narrowed := true }
def VersionsStepsUptoSaid : Prop := versionsStepsUptoRow.holds Try.pinned (OpenSpec.upto versionsStepsSpec)

end Rows
end Go.Proofs.Ytcifhigeieoogaa
