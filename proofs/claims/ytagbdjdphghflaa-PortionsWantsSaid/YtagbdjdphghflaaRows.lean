/-
  No cell of these rows narrows 'for every input' (looked for: loops, veiled, ifaces, maps, wideKeys, modest, calm, conditions, laid).
  DERIVED. THE GIVEN ROWS OF THIS SEAT. 6 by the template 'for every input the law returns true; each argument reads behind the call as it read before'; 0 by the template 'total and deterministic' (their statements: YtagbdjdphghflaaTotals.lean).
  GIVEN WITH THE SEED: the statements are not yours to turn. If you find one false, say at which input.
  Laid BY PROGRAM, IN A SANDBOX (cutbox-rows.mjs): the forced cells as the released guide's own fill.sh prints them over the translation 27f22b4a8a391907… (all of the seat's roots in one cut). By AI agents, Wed Nov 11 2026. No macro, syntax, notation, axiom, sorry.
-/
import Derived.Test.YtagbdjdphghflaaChecked
import GoSem.Claim
import GoSem.ClaimJoined
import GoSem.ClaimMapViews
import Derived.JoinedTies
import Derived.KernelRfl
namespace Go.Proofs.Ytagbdjdphghflaa
/- THE CELL 'sum', in the pinned program and in every row, IS THE sha256 OF THE DUMP (.gsa) THAT YtagbdjdphghflaaProg.lean LOADS. Nothing in Lean hashes anything: it is a label: what it is worth is what the hold of that sum in a sandbox is worth. -/
noncomputable def Try.pinned : Pinned := { name := "ytagbdjdphghflaa", sum := "27f22b4a8a391907fb5f60210a561974b72689c87e187f6ac47a62e5a6ff4864", checked := Try.checked }
namespace Rows
def none {H : Type} : Left H := { results := [], args := [] }

/-- 'hansardlaw44.PortionsSpec': WHATEVER THE INPUT: true; the input reads as it did. -/
def portionsSpecSpec : ChangeSpec := { name := "portionsSpec", fn := fun _ => fun
  | [d1, d2] => { results := [.lit (.bool true)], args := [d1, d2] }
  | _ => none }
def portionsSpecRow : OpenClaim := { program := "ytagbdjdphghflaa", sum := "27f22b4a8a391907fb5f60210a561974b72689c87e187f6ac47a62e5a6ff4864", func := "hansard/hansardlaw44.PortionsSpec", spec := "portionsSpec", unfollowed := true, recurses := true, apart := false }
def PortionsSpecSaid : Prop := portionsSpecRow.holds Try.pinned (OpenSpec.ofChange portionsSpecSpec)

/-- ITS FALSE NEIGHBOUR: 'it returns false'. Refute it at one input. -/
def portionsSpecWrong : ChangeSpec := { name := "portionsSpec", fn := fun _ => fun
  | [d1, d2] => { results := [.lit (.bool false)], args := [d1, d2] }
  | _ => none }
def PortionsSpecWrongFalsely : Prop := portionsSpecRow.holds Try.pinned (OpenSpec.ofChange portionsSpecWrong)

/-- 'hansardlaw44.PortionsAcceptsSpec': WHATEVER THE INPUT: true; the input reads as it did. -/
def portionsAcceptsSpecSpec : ChangeSpec := { name := "portionsAcceptsSpec", fn := fun _ => fun
  | [d1, d2, d3] => { results := [.lit (.bool true)], args := [d1, d2, d3] }
  | _ => none }
def portionsAcceptsSpecRow : OpenClaim := { program := "ytagbdjdphghflaa", sum := "27f22b4a8a391907fb5f60210a561974b72689c87e187f6ac47a62e5a6ff4864", func := "hansard/hansardlaw44.PortionsAcceptsSpec", spec := "portionsAcceptsSpec", unfollowed := true, recurses := true, apart := false }
def PortionsAcceptsSpecSaid : Prop := portionsAcceptsSpecRow.holds Try.pinned (OpenSpec.ofChange portionsAcceptsSpecSpec)

/-- ITS FALSE NEIGHBOUR: 'it returns false'. Refute it at one input. -/
def portionsAcceptsSpecWrong : ChangeSpec := { name := "portionsAcceptsSpec", fn := fun _ => fun
  | [d1, d2, d3] => { results := [.lit (.bool false)], args := [d1, d2, d3] }
  | _ => none }
def PortionsAcceptsSpecWrongFalsely : Prop := portionsAcceptsSpecRow.holds Try.pinned (OpenSpec.ofChange portionsAcceptsSpecWrong)

/-- 'hansardlaw44.PortionsFair': WHATEVER THE INPUT: true; the input reads as it did. -/
def portionsFairSpec : ChangeSpec := { name := "portionsFair", fn := fun _ => fun
  | [d1, d2] => { results := [.lit (.bool true)], args := [d1, d2] }
  | _ => none }
def portionsFairRow : OpenClaim := { program := "ytagbdjdphghflaa", sum := "27f22b4a8a391907fb5f60210a561974b72689c87e187f6ac47a62e5a6ff4864", func := "hansard/hansardlaw44.PortionsFair", spec := "portionsFair", unfollowed := true, recurses := true, apart := false }
def PortionsFairSaid : Prop := portionsFairRow.holds Try.pinned (OpenSpec.ofChange portionsFairSpec)

/-- ITS FALSE NEIGHBOUR: 'it returns false'. Refute it at one input. -/
def portionsFairWrong : ChangeSpec := { name := "portionsFair", fn := fun _ => fun
  | [d1, d2] => { results := [.lit (.bool false)], args := [d1, d2] }
  | _ => none }
def PortionsFairWrongFalsely : Prop := portionsFairRow.holds Try.pinned (OpenSpec.ofChange portionsFairWrong)

/-- 'hansardlaw44.PortionsMore': WHATEVER THE INPUT: true; the input reads as it did. -/
def portionsMoreSpec : ChangeSpec := { name := "portionsMore", fn := fun _ => fun
  | [d1, d2] => { results := [.lit (.bool true)], args := [d1, d2] }
  | _ => none }
def portionsMoreRow : OpenClaim := { program := "ytagbdjdphghflaa", sum := "27f22b4a8a391907fb5f60210a561974b72689c87e187f6ac47a62e5a6ff4864", func := "hansard/hansardlaw44.PortionsMore", spec := "portionsMore", unfollowed := true, recurses := true, apart := false }
def PortionsMoreSaid : Prop := portionsMoreRow.holds Try.pinned (OpenSpec.ofChange portionsMoreSpec)

/-- ITS FALSE NEIGHBOUR: 'it returns false'. Refute it at one input. -/
def portionsMoreWrong : ChangeSpec := { name := "portionsMore", fn := fun _ => fun
  | [d1, d2] => { results := [.lit (.bool false)], args := [d1, d2] }
  | _ => none }
def PortionsMoreWrongFalsely : Prop := portionsMoreRow.holds Try.pinned (OpenSpec.ofChange portionsMoreWrong)

/-- 'hansardlaw44.PortionsWants': WHATEVER THE INPUT: true; the input reads as it did. -/
def portionsWantsSpec : ChangeSpec := { name := "portionsWants", fn := fun _ => fun
  | [d1, d2, d3, d4] => { results := [.lit (.bool true)], args := [d1, d2, d3, d4] }
  | _ => none }
def portionsWantsRow : OpenClaim := { program := "ytagbdjdphghflaa", sum := "27f22b4a8a391907fb5f60210a561974b72689c87e187f6ac47a62e5a6ff4864", func := "hansard/hansardlaw44.PortionsWants", spec := "portionsWants", unfollowed := true, recurses := true, apart := false }
def PortionsWantsSaid : Prop := portionsWantsRow.holds Try.pinned (OpenSpec.ofChange portionsWantsSpec)

/-- ITS FALSE NEIGHBOUR: 'it returns false'. Refute it at one input. -/
def portionsWantsWrong : ChangeSpec := { name := "portionsWants", fn := fun _ => fun
  | [d1, d2, d3, d4] => { results := [.lit (.bool false)], args := [d1, d2, d3, d4] }
  | _ => none }
def PortionsWantsWrongFalsely : Prop := portionsWantsRow.holds Try.pinned (OpenSpec.ofChange portionsWantsWrong)

/-- 'hansardlaw44.PortionsOnly': WHATEVER THE INPUT: true; the input reads as it did. -/
def portionsOnlySpec : ChangeSpec := { name := "portionsOnly", fn := fun _ => fun
  | [d1, d2, d3] => { results := [.lit (.bool true)], args := [d1, d2, d3] }
  | _ => none }
def portionsOnlyRow : OpenClaim := { program := "ytagbdjdphghflaa", sum := "27f22b4a8a391907fb5f60210a561974b72689c87e187f6ac47a62e5a6ff4864", func := "hansard/hansardlaw44.PortionsOnly", spec := "portionsOnly", unfollowed := true, recurses := true, apart := false }
def PortionsOnlySaid : Prop := portionsOnlyRow.holds Try.pinned (OpenSpec.ofChange portionsOnlySpec)

/-- ITS FALSE NEIGHBOUR: 'it returns false'. Refute it at one input. -/
def portionsOnlyWrong : ChangeSpec := { name := "portionsOnly", fn := fun _ => fun
  | [d1, d2, d3] => { results := [.lit (.bool false)], args := [d1, d2, d3] }
  | _ => none }
def PortionsOnlyWrongFalsely : Prop := portionsOnlyRow.holds Try.pinned (OpenSpec.ofChange portionsOnlyWrong)

/- THE SECOND FORM. 'bulk': how many values and letters a reading holds, each counted each time it is reached (what is shared counts as often as it is met; a slice's spare places count too). A statement '..UptoSaid' is the law's where the arguments, and the package variables that the reading takes, are together of bulk at most 1048576: NARROWER than '..Said'. Prove '..Said' where nothing that the law and all that it calls make is longer than what came in: it says more and counts as full. Else prove '..UptoSaid'. A law counts once. -/
mutual
def uptoBulk {H : Type} : DataW H → Nat
  | .lit (.string bytes) => bytes.length + 1
  | .lit _ => 1
  | .nil => 1
  | .ptr d => uptoBulk d + 1
  | .slice elems spare => uptoBulkAll elems + uptoBulkAll spare + 1
  | .agg parts => uptoBulkAll parts + 1
  | .iface _ d => uptoBulk d + 1
  | .map entries => uptoBulkEntries entries + 1
  | .held _ => 1
def uptoBulkAll {H : Type} : List (DataW H) → Nat
  | [] => 0
  | d :: r => uptoBulk d + uptoBulkAll r
def uptoBulkEntries {H : Type} : List (Lit × DataW H) → Nat
  | [] => 0
  | x :: r => uptoBulkEntry x + uptoBulkEntries r
def uptoBulkEntry {H : Type} : Lit × DataW H → Nat
  | (.string bytes, d) => bytes.length + uptoBulk d + 1
  | (_, d) => uptoBulk d + 1
 end
def uptoSmall : (H : Type) → List (DataW H) → Bool := fun _ ds => decide (uptoBulkAll ds ≤ 1048576)
def OpenSpec.upto (s : _root_.Go.ChangeSpec) : _root_.Go.OpenSpec := { _root_.Go.OpenSpec.ofChange s with cond := some uptoSmall }

/-- 'hansardlaw44.PortionsSpec', WHERE WHAT IT READS IS OF BULK AT MOST 1048576: true; the input reads as it did. -/
def portionsSpecUptoRow : OpenClaim := { program := "ytagbdjdphghflaa", sum := "27f22b4a8a391907fb5f60210a561974b72689c87e187f6ac47a62e5a6ff4864", func := "hansard/hansardlaw44.PortionsSpec", spec := "portionsSpec", unfollowed := true, recurses := true, apart := false, narrowed := true }
def PortionsSpecUptoSaid : Prop := portionsSpecUptoRow.holds Try.pinned (OpenSpec.upto portionsSpecSpec)

/-- 'hansardlaw44.PortionsAcceptsSpec', WHERE WHAT IT READS IS OF BULK AT MOST 1048576: true; the input reads as it did. -/
def portionsAcceptsSpecUptoRow : OpenClaim := { program := "ytagbdjdphghflaa", sum := "27f22b4a8a391907fb5f60210a561974b72689c87e187f6ac47a62e5a6ff4864", func := "hansard/hansardlaw44.PortionsAcceptsSpec", spec := "portionsAcceptsSpec", unfollowed := true, recurses := true, apart := false, narrowed := true }
def PortionsAcceptsSpecUptoSaid : Prop := portionsAcceptsSpecUptoRow.holds Try.pinned (OpenSpec.upto portionsAcceptsSpecSpec)

/-- 'hansardlaw44.PortionsFair', WHERE WHAT IT READS IS OF BULK AT MOST 1048576: true; the input reads as it did. -/
def portionsFairUptoRow : OpenClaim := { program := "ytagbdjdphghflaa", sum := "27f22b4a8a391907fb5f60210a561974b72689c87e187f6ac47a62e5a6ff4864", func := "hansard/hansardlaw44.PortionsFair", spec := "portionsFair", unfollowed := true, recurses := true, apart := false, narrowed := true }
def PortionsFairUptoSaid : Prop := portionsFairUptoRow.holds Try.pinned (OpenSpec.upto portionsFairSpec)

/-- 'hansardlaw44.PortionsMore', WHERE WHAT IT READS IS OF BULK AT MOST 1048576: true; the input reads as it did. -/
def portionsMoreUptoRow : OpenClaim := { program := "ytagbdjdphghflaa", sum := "27f22b4a8a391907fb5f60210a561974b72689c87e187f6ac47a62e5a6ff4864", func := "hansard/hansardlaw44.PortionsMore", spec := "portionsMore", unfollowed := true, recurses := true, apart := false, narrowed := true }
def PortionsMoreUptoSaid : Prop := portionsMoreUptoRow.holds Try.pinned (OpenSpec.upto portionsMoreSpec)

/-- 'hansardlaw44.PortionsWants', WHERE WHAT IT READS IS OF BULK AT MOST 1048576: true; the input reads as it did. -/
def portionsWantsUptoRow : OpenClaim := { program := "ytagbdjdphghflaa", sum := "27f22b4a8a391907fb5f60210a561974b72689c87e187f6ac47a62e5a6ff4864", func := "hansard/hansardlaw44.PortionsWants", spec := "portionsWants", unfollowed := true, recurses := true, apart := false, narrowed := true }
def PortionsWantsUptoSaid : Prop := portionsWantsUptoRow.holds Try.pinned (OpenSpec.upto portionsWantsSpec)

/-- 'hansardlaw44.PortionsOnly', WHERE WHAT IT READS IS OF BULK AT MOST 1048576: true; the input reads as it did. -/
def portionsOnlyUptoRow : OpenClaim := { program := "ytagbdjdphghflaa", sum := "27f22b4a8a391907fb5f60210a561974b72689c87e187f6ac47a62e5a6ff4864", func := "hansard/hansardlaw44.PortionsOnly", spec := "portionsOnly", unfollowed := true, recurses := true, apart := false, narrowed := true }
def PortionsOnlyUptoSaid : Prop := portionsOnlyUptoRow.holds Try.pinned (OpenSpec.upto portionsOnlySpec)

end Rows
end Go.Proofs.Ytagbdjdphghflaa
