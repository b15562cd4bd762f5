/-
  No cell of these rows narrows 'for every input' (looked for: loops, veiled, ifaces, maps, wideKeys, modest, calm, conditions, laid).
  DERIVED. THE GIVEN ROWS OF THIS SEAT. 6 by the template 'for every input the law returns true; each argument reads behind the call as it read before'; 0 by the template 'total and deterministic' (their statements: YtchjjcmlekknfaaTotals.lean).
  GIVEN WITH THE SEED: the statements are not yours to turn. If you find one false, say at which input.
  Laid BY PROGRAM, IN A SANDBOX (cutbox-rows.mjs): the forced cells as the released guide's own fill.sh prints them over the translation 0b9b7dba1bf59377… (all of the seat's roots in one cut). By AI agents, Wed Nov 11 2026. No macro, syntax, notation, axiom, sorry.
-/
import Derived.Test.YtchjjcmlekknfaaChecked
import GoSem.Claim
import GoSem.ClaimJoined
import GoSem.ClaimMapViews
import Derived.JoinedTies
import Derived.KernelRfl
namespace Go.Proofs.Ytchjjcmlekknfaa
/- THE CELL 'sum', in the pinned program and in every row, IS THE sha256 OF THE DUMP (.gsa) THAT YtchjjcmlekknfaaProg.lean LOADS. Nothing in Lean hashes anything: it is a label: what it is worth is what the hold of that sum in a sandbox is worth. -/
noncomputable def Try.pinned : Pinned := { name := "ytchjjcmlekknfaa", sum := "0b9b7dba1bf593775ef18a269930f06f2199082eabf93ad2a01d0f12fc9eb9e8", checked := Try.checked }
namespace Rows
def none {H : Type} : Left H := { results := [], args := [] }

/-- 'hansardlaw48.ScreensSpec': WHATEVER THE INPUT: true; the input reads as it did. -/
def screensSpecSpec : ChangeSpec := { name := "screensSpec", fn := fun _ => fun
  | [d1, d2, d3, d4] => { results := [.lit (.bool true)], args := [d1, d2, d3, d4] }
  | _ => none }
def screensSpecRow : OpenClaim := { program := "ytchjjcmlekknfaa", sum := "0b9b7dba1bf593775ef18a269930f06f2199082eabf93ad2a01d0f12fc9eb9e8", func := "hansard/hansardlaw48.ScreensSpec", spec := "screensSpec", unfollowed := true, recurses := true, apart := false }
def ScreensSpecSaid : Prop := screensSpecRow.holds Try.pinned (OpenSpec.ofChange screensSpecSpec)

/-- ITS FALSE NEIGHBOUR: 'it returns false'. Refute it at one input. -/
def screensSpecWrong : ChangeSpec := { name := "screensSpec", fn := fun _ => fun
  | [d1, d2, d3, d4] => { results := [.lit (.bool false)], args := [d1, d2, d3, d4] }
  | _ => none }
def ScreensSpecWrongFalsely : Prop := screensSpecRow.holds Try.pinned (OpenSpec.ofChange screensSpecWrong)

/-- 'hansardlaw48.ScreensProveSpec': WHATEVER THE INPUT: true; the input reads as it did. -/
def screensProveSpecSpec : ChangeSpec := { name := "screensProveSpec", fn := fun _ => fun
  | [d1, d2, d3, d4, d5, d6] => { results := [.lit (.bool true)], args := [d1, d2, d3, d4, d5, d6] }
  | _ => none }
def screensProveSpecRow : OpenClaim := { program := "ytchjjcmlekknfaa", sum := "0b9b7dba1bf593775ef18a269930f06f2199082eabf93ad2a01d0f12fc9eb9e8", func := "hansard/hansardlaw48.ScreensProveSpec", spec := "screensProveSpec", unfollowed := true, recurses := true, apart := false }
def ScreensProveSpecSaid : Prop := screensProveSpecRow.holds Try.pinned (OpenSpec.ofChange screensProveSpecSpec)

/-- ITS FALSE NEIGHBOUR: 'it returns false'. Refute it at one input. -/
def screensProveSpecWrong : ChangeSpec := { name := "screensProveSpec", fn := fun _ => fun
  | [d1, d2, d3, d4, d5, d6] => { results := [.lit (.bool false)], args := [d1, d2, d3, d4, d5, d6] }
  | _ => none }
def ScreensProveSpecWrongFalsely : Prop := screensProveSpecRow.holds Try.pinned (OpenSpec.ofChange screensProveSpecWrong)

/-- 'hansardlaw48.ScreensEarly': WHATEVER THE INPUT: true; the input reads as it did. -/
def screensEarlySpec : ChangeSpec := { name := "screensEarly", fn := fun _ => fun
  | [d1, d2, d3, d4, d5] => { results := [.lit (.bool true)], args := [d1, d2, d3, d4, d5] }
  | _ => none }
def screensEarlyRow : OpenClaim := { program := "ytchjjcmlekknfaa", sum := "0b9b7dba1bf593775ef18a269930f06f2199082eabf93ad2a01d0f12fc9eb9e8", func := "hansard/hansardlaw48.ScreensEarly", spec := "screensEarly", unfollowed := true, recurses := true, apart := false }
def ScreensEarlySaid : Prop := screensEarlyRow.holds Try.pinned (OpenSpec.ofChange screensEarlySpec)

/-- ITS FALSE NEIGHBOUR: 'it returns false'. Refute it at one input. -/
def screensEarlyWrong : ChangeSpec := { name := "screensEarly", fn := fun _ => fun
  | [d1, d2, d3, d4, d5] => { results := [.lit (.bool false)], args := [d1, d2, d3, d4, d5] }
  | _ => none }
def ScreensEarlyWrongFalsely : Prop := screensEarlyRow.holds Try.pinned (OpenSpec.ofChange screensEarlyWrong)

/-- 'hansardlaw48.ScreensSound': WHATEVER THE INPUT: true; the input reads as it did. -/
def screensSoundSpec : ChangeSpec := { name := "screensSound", fn := fun _ => fun
  | [d1, d2, d3, d4, d5, d6] => { results := [.lit (.bool true)], args := [d1, d2, d3, d4, d5, d6] }
  | _ => none }
def screensSoundRow : OpenClaim := { program := "ytchjjcmlekknfaa", sum := "0b9b7dba1bf593775ef18a269930f06f2199082eabf93ad2a01d0f12fc9eb9e8", func := "hansard/hansardlaw48.ScreensSound", spec := "screensSound", unfollowed := true, recurses := true, apart := false }
def ScreensSoundSaid : Prop := screensSoundRow.holds Try.pinned (OpenSpec.ofChange screensSoundSpec)

/-- ITS FALSE NEIGHBOUR: 'it returns false'. Refute it at one input. -/
def screensSoundWrong : ChangeSpec := { name := "screensSound", fn := fun _ => fun
  | [d1, d2, d3, d4, d5, d6] => { results := [.lit (.bool false)], args := [d1, d2, d3, d4, d5, d6] }
  | _ => none }
def ScreensSoundWrongFalsely : Prop := screensSoundRow.holds Try.pinned (OpenSpec.ofChange screensSoundWrong)

/-- 'hansardlaw48.ScreensLater': WHATEVER THE INPUT: true; the input reads as it did. -/
def screensLaterSpec : ChangeSpec := { name := "screensLater", fn := fun _ => fun
  | [d1, d2, d3, d4, d5, d6] => { results := [.lit (.bool true)], args := [d1, d2, d3, d4, d5, d6] }
  | _ => none }
def screensLaterRow : OpenClaim := { program := "ytchjjcmlekknfaa", sum := "0b9b7dba1bf593775ef18a269930f06f2199082eabf93ad2a01d0f12fc9eb9e8", func := "hansard/hansardlaw48.ScreensLater", spec := "screensLater", unfollowed := true, recurses := true, apart := false }
def ScreensLaterSaid : Prop := screensLaterRow.holds Try.pinned (OpenSpec.ofChange screensLaterSpec)

/-- ITS FALSE NEIGHBOUR: 'it returns false'. Refute it at one input. -/
def screensLaterWrong : ChangeSpec := { name := "screensLater", fn := fun _ => fun
  | [d1, d2, d3, d4, d5, d6] => { results := [.lit (.bool false)], args := [d1, d2, d3, d4, d5, d6] }
  | _ => none }
def ScreensLaterWrongFalsely : Prop := screensLaterRow.holds Try.pinned (OpenSpec.ofChange screensLaterWrong)

/-- 'hansardlaw48.ScreensFirst': WHATEVER THE INPUT: true; the input reads as it did. -/
def screensFirstSpec : ChangeSpec := { name := "screensFirst", fn := fun _ => fun
  | [d1, d2, d3, d4] => { results := [.lit (.bool true)], args := [d1, d2, d3, d4] }
  | _ => none }
def screensFirstRow : OpenClaim := { program := "ytchjjcmlekknfaa", sum := "0b9b7dba1bf593775ef18a269930f06f2199082eabf93ad2a01d0f12fc9eb9e8", func := "hansard/hansardlaw48.ScreensFirst", spec := "screensFirst", unfollowed := true, recurses := true, apart := false }
def ScreensFirstSaid : Prop := screensFirstRow.holds Try.pinned (OpenSpec.ofChange screensFirstSpec)

/-- ITS FALSE NEIGHBOUR: 'it returns false'. Refute it at one input. -/
def screensFirstWrong : ChangeSpec := { name := "screensFirst", fn := fun _ => fun
  | [d1, d2, d3, d4] => { results := [.lit (.bool false)], args := [d1, d2, d3, d4] }
  | _ => none }
def ScreensFirstWrongFalsely : Prop := screensFirstRow.holds Try.pinned (OpenSpec.ofChange screensFirstWrong)

/- THE SECOND FORM. 'bulk': how many values and letters a reading holds, each counted each time it is reached (what is shared counts as often as it is met; a slice's spare places count too). A statement '..UptoSaid' is the law's where the arguments, and the package variables that the reading takes, are together of bulk at most 1048576: NARROWER than '..Said'. Prove '..Said' where nothing that the law and all that it calls make is longer than what came in: it says more and counts as full. Else prove '..UptoSaid'. A law counts once. -/
mutual
def uptoBulk {H : Type} : DataW H → Nat
  | .lit (.string bytes) => bytes.length + 1
  | .lit _ => 1
  | .nil => 1
  | .ptr d => uptoBulk d + 1
  | .slice elems spare => uptoBulkAll elems + uptoBulkAll spare + 1
  | .agg parts => uptoBulkAll parts + 1
  | .iface _ d => uptoBulk d + 1
  | .map entries => uptoBulkEntries entries + 1
  | .held _ => 1
def uptoBulkAll {H : Type} : List (DataW H) → Nat
  | [] => 0
  | d :: r => uptoBulk d + uptoBulkAll r
def uptoBulkEntries {H : Type} : List (Lit × DataW H) → Nat
  | [] => 0
  | x :: r => uptoBulkEntry x + uptoBulkEntries r
def uptoBulkEntry {H : Type} : Lit × DataW H → Nat
  | (.string bytes, d) => bytes.length + uptoBulk d + 1
  | (_, d) => uptoBulk d + 1
 end
def uptoSmall : (H : Type) → List (DataW H) → Bool := fun _ ds => decide (uptoBulkAll ds ≤ 1048576)
def OpenSpec.upto (s : _root_.Go.ChangeSpec) : _root_.Go.OpenSpec := { _root_.Go.OpenSpec.ofChange s with cond := some uptoSmall }

/-- 'hansardlaw48.ScreensSpec', WHERE WHAT IT READS IS OF BULK AT MOST 1048576: true; the input reads as it did. -/
def screensSpecUptoRow : OpenClaim := { program := "ytchjjcmlekknfaa", sum := "0b9b7dba1bf593775ef18a269930f06f2199082eabf93ad2a01d0f12fc9eb9e8", func := "hansard/hansardlaw48.ScreensSpec", spec := "screensSpec", unfollowed := true, recurses := true, apart := false, narrowed := true }
def ScreensSpecUptoSaid : Prop := screensSpecUptoRow.holds Try.pinned (OpenSpec.upto screensSpecSpec)

/-- 'hansardlaw48.ScreensProveSpec', WHERE WHAT IT READS IS OF BULK AT MOST 1048576: true; the input reads as it did. -/
def screensProveSpecUptoRow : OpenClaim := { program := "ytchjjcmlekknfaa", sum := "0b9b7dba1bf593775ef18a269930f06f2199082eabf93ad2a01d0f12fc9eb9e8", func := "hansard/hansardlaw48.ScreensProveSpec", spec := "screensProveSpec", unfollowed := true, recurses := true, apart := false, narrowed := true }
def ScreensProveSpecUptoSaid : Prop := screensProveSpecUptoRow.holds Try.pinned (OpenSpec.upto screensProveSpecSpec)

/-- 'hansardlaw48.ScreensEarly', WHERE WHAT IT READS IS OF BULK AT MOST 1048576: true; the input reads as it did. -/
def screensEarlyUptoRow : OpenClaim := { program := "ytchjjcmlekknfaa", sum := "0b9b7dba1bf593775ef18a269930f06f2199082eabf93ad2a01d0f12fc9eb9e8", func := "hansard/hansardlaw48.ScreensEarly", spec := "screensEarly", unfollowed := true, recurses := true, apart := false, narrowed := true }
def ScreensEarlyUptoSaid : Prop := screensEarlyUptoRow.holds Try.pinned (OpenSpec.upto screensEarlySpec)

/-- 'hansardlaw48.ScreensSound', WHERE WHAT IT READS IS OF BULK AT MOST 1048576: true; the input reads as it did. -/
def screensSoundUptoRow : OpenClaim := { program := "ytchjjcmlekknfaa", sum := "0b9b7dba1bf593775ef18a269930f06f2199082eabf93ad2a01d0f12fc9eb9e8", func := "hansard/hansardlaw48.ScreensSound", spec := "screensSound", unfollowed := true, recurses := true, apart := false, narrowed := true }
def ScreensSoundUptoSaid : Prop := screensSoundUptoRow.holds Try.pinned (OpenSpec.upto screensSoundSpec)

/-- 'hansardlaw48.ScreensLater', WHERE WHAT IT READS IS OF BULK AT MOST 1048576: true; the input reads as it did. -/
def screensLaterUptoRow : OpenClaim := { program := "ytchjjcmlekknfaa", sum := "0b9b7dba1bf593775ef18a269930f06f2199082eabf93ad2a01d0f12fc9eb9e8", func := "hansard/hansardlaw48.ScreensLater", spec := "screensLater", unfollowed := true, recurses := true, apart := false, narrowed := true }
def ScreensLaterUptoSaid : Prop := screensLaterUptoRow.holds Try.pinned (OpenSpec.upto screensLaterSpec)

/-- 'hansardlaw48.ScreensFirst', WHERE WHAT IT READS IS OF BULK AT MOST 1048576: true; the input reads as it did. -/
def screensFirstUptoRow : OpenClaim := { program := "ytchjjcmlekknfaa", sum := "0b9b7dba1bf593775ef18a269930f06f2199082eabf93ad2a01d0f12fc9eb9e8", func := "hansard/hansardlaw48.ScreensFirst", spec := "screensFirst", unfollowed := true, recurses := true, apart := false, narrowed := true }
def ScreensFirstUptoSaid : Prop := screensFirstUptoRow.holds Try.pinned (OpenSpec.upto screensFirstSpec)

end Rows
end Go.Proofs.Ytchjjcmlekknfaa
