/-
  No cell of these rows narrows 'for every input' (looked for: loops, veiled, ifaces, maps, wideKeys, modest, calm, conditions, laid).
  DERIVED. THE GIVEN ROWS OF THIS SEAT. 6 by the template 'for every input the law returns true; each argument reads behind the call as it read before'; 0 by the template 'total and deterministic' (their statements: YtofllhbcediafaaTotals.lean).
  GIVEN WITH THE SEED: the statements are not yours to turn. If you find one false, say at which input.
  Laid BY PROGRAM, IN A SANDBOX (cutbox-rows.mjs): the forced cells as the released guide's own fill.sh prints them over the translation c9c1d56bbd841b13… (all of the seat's roots in one cut). By AI agents, Wed Nov 11 2026. No macro, syntax, notation, axiom, sorry.
-/
import Derived.Test.YtofllhbcediafaaChecked
import GoSem.Claim
import GoSem.ClaimJoined
import GoSem.ClaimMapViews
import Derived.JoinedTies
import Derived.KernelRfl
namespace Go.Proofs.Ytofllhbcediafaa
/- THE CELL 'sum', in the pinned program and in every row, IS THE sha256 OF THE DUMP (.gsa) THAT YtofllhbcediafaaProg.lean LOADS. Nothing in Lean hashes anything: it is a label: what it is worth is what the hold of that sum in a sandbox is worth. -/
noncomputable def Try.pinned : Pinned := { name := "ytofllhbcediafaa", sum := "c9c1d56bbd841b13658c607137fe1cb896921692431b9c9127bcf2ef4f09d375", checked := Try.checked }
namespace Rows
def none {H : Type} : Left H := { results := [], args := [] }

/-- 'hansardlaw50.PlanSpec': WHATEVER THE INPUT: true; the input reads as it did. -/
def planSpecSpec : ChangeSpec := { name := "planSpec", fn := fun _ => fun
  | [d1, d2] => { results := [.lit (.bool true)], args := [d1, d2] }
  | _ => none }
def planSpecRow : OpenClaim := { program := "ytofllhbcediafaa", sum := "c9c1d56bbd841b13658c607137fe1cb896921692431b9c9127bcf2ef4f09d375", func := "hansard/hansardlaw50.PlanSpec", spec := "planSpec", unfollowed := true, recurses := true, apart := false }
def PlanSpecSaid : Prop := planSpecRow.holds Try.pinned (OpenSpec.ofChange planSpecSpec)

/-- ITS FALSE NEIGHBOUR: 'it returns false'. Refute it at one input. -/
def planSpecWrong : ChangeSpec := { name := "planSpec", fn := fun _ => fun
  | [d1, d2] => { results := [.lit (.bool false)], args := [d1, d2] }
  | _ => none }
def PlanSpecWrongFalsely : Prop := planSpecRow.holds Try.pinned (OpenSpec.ofChange planSpecWrong)

/-- 'hansardlaw50.PlanCountSpec': WHATEVER THE INPUT: true; the input reads as it did. -/
def planCountSpecSpec : ChangeSpec := { name := "planCountSpec", fn := fun _ => fun
  | [d1, d2, d3] => { results := [.lit (.bool true)], args := [d1, d2, d3] }
  | _ => none }
def planCountSpecRow : OpenClaim := { program := "ytofllhbcediafaa", sum := "c9c1d56bbd841b13658c607137fe1cb896921692431b9c9127bcf2ef4f09d375", func := "hansard/hansardlaw50.PlanCountSpec", spec := "planCountSpec", unfollowed := true, recurses := true, apart := false }
def PlanCountSpecSaid : Prop := planCountSpecRow.holds Try.pinned (OpenSpec.ofChange planCountSpecSpec)

/-- ITS FALSE NEIGHBOUR: 'it returns false'. Refute it at one input. -/
def planCountSpecWrong : ChangeSpec := { name := "planCountSpec", fn := fun _ => fun
  | [d1, d2, d3] => { results := [.lit (.bool false)], args := [d1, d2, d3] }
  | _ => none }
def PlanCountSpecWrongFalsely : Prop := planCountSpecRow.holds Try.pinned (OpenSpec.ofChange planCountSpecWrong)

/-- 'hansardlaw50.PlanFewest': WHATEVER THE INPUT: true; the input reads as it did. -/
def planFewestSpec : ChangeSpec := { name := "planFewest", fn := fun _ => fun
  | [d1, d2, d3] => { results := [.lit (.bool true)], args := [d1, d2, d3] }
  | _ => none }
def planFewestRow : OpenClaim := { program := "ytofllhbcediafaa", sum := "c9c1d56bbd841b13658c607137fe1cb896921692431b9c9127bcf2ef4f09d375", func := "hansard/hansardlaw50.PlanFewest", spec := "planFewest", unfollowed := true, recurses := true, apart := false }
def PlanFewestSaid : Prop := planFewestRow.holds Try.pinned (OpenSpec.ofChange planFewestSpec)

/-- ITS FALSE NEIGHBOUR: 'it returns false'. Refute it at one input. -/
def planFewestWrong : ChangeSpec := { name := "planFewest", fn := fun _ => fun
  | [d1, d2, d3] => { results := [.lit (.bool false)], args := [d1, d2, d3] }
  | _ => none }
def PlanFewestWrongFalsely : Prop := planFewestRow.holds Try.pinned (OpenSpec.ofChange planFewestWrong)

/-- 'hansardlaw50.PlanWhy': WHATEVER THE INPUT: true; the input reads as it did. -/
def planWhySpec : ChangeSpec := { name := "planWhy", fn := fun _ => fun
  | [d1, d2] => { results := [.lit (.bool true)], args := [d1, d2] }
  | _ => none }
def planWhyRow : OpenClaim := { program := "ytofllhbcediafaa", sum := "c9c1d56bbd841b13658c607137fe1cb896921692431b9c9127bcf2ef4f09d375", func := "hansard/hansardlaw50.PlanWhy", spec := "planWhy", unfollowed := true, recurses := true, apart := false }
def PlanWhySaid : Prop := planWhyRow.holds Try.pinned (OpenSpec.ofChange planWhySpec)

/-- ITS FALSE NEIGHBOUR: 'it returns false'. Refute it at one input. -/
def planWhyWrong : ChangeSpec := { name := "planWhy", fn := fun _ => fun
  | [d1, d2] => { results := [.lit (.bool false)], args := [d1, d2] }
  | _ => none }
def PlanWhyWrongFalsely : Prop := planWhyRow.holds Try.pinned (OpenSpec.ofChange planWhyWrong)

/-- 'hansardlaw50.PlanLater': WHATEVER THE INPUT: true; the input reads as it did. -/
def planLaterSpec : ChangeSpec := { name := "planLater", fn := fun _ => fun
  | [d1, d2, d3, d4] => { results := [.lit (.bool true)], args := [d1, d2, d3, d4] }
  | _ => none }
def planLaterRow : OpenClaim := { program := "ytofllhbcediafaa", sum := "c9c1d56bbd841b13658c607137fe1cb896921692431b9c9127bcf2ef4f09d375", func := "hansard/hansardlaw50.PlanLater", spec := "planLater", unfollowed := true, recurses := true, apart := false }
def PlanLaterSaid : Prop := planLaterRow.holds Try.pinned (OpenSpec.ofChange planLaterSpec)

/-- ITS FALSE NEIGHBOUR: 'it returns false'. Refute it at one input. -/
def planLaterWrong : ChangeSpec := { name := "planLater", fn := fun _ => fun
  | [d1, d2, d3, d4] => { results := [.lit (.bool false)], args := [d1, d2, d3, d4] }
  | _ => none }
def PlanLaterWrongFalsely : Prop := planLaterRow.holds Try.pinned (OpenSpec.ofChange planLaterWrong)

/-- 'hansardlaw50.PlanShift': WHATEVER THE INPUT: true; the input reads as it did. -/
def planShiftSpec : ChangeSpec := { name := "planShift", fn := fun _ => fun
  | [d1, d2, d3] => { results := [.lit (.bool true)], args := [d1, d2, d3] }
  | _ => none }
def planShiftRow : OpenClaim := { program := "ytofllhbcediafaa", sum := "c9c1d56bbd841b13658c607137fe1cb896921692431b9c9127bcf2ef4f09d375", func := "hansard/hansardlaw50.PlanShift", spec := "planShift", unfollowed := true, recurses := true, apart := false }
def PlanShiftSaid : Prop := planShiftRow.holds Try.pinned (OpenSpec.ofChange planShiftSpec)

/-- ITS FALSE NEIGHBOUR: 'it returns false'. Refute it at one input. -/
def planShiftWrong : ChangeSpec := { name := "planShift", fn := fun _ => fun
  | [d1, d2, d3] => { results := [.lit (.bool false)], args := [d1, d2, d3] }
  | _ => none }
def PlanShiftWrongFalsely : Prop := planShiftRow.holds Try.pinned (OpenSpec.ofChange planShiftWrong)

/- THE SECOND FORM. 'bulk': how many values and letters a reading holds, each counted each time it is reached (what is shared counts as often as it is met; a slice's spare places count too). A statement '..UptoSaid' is the law's where the arguments, and the package variables that the reading takes, are together of bulk at most 1048576: NARROWER than '..Said'. Prove '..Said' where nothing that the law and all that it calls make is longer than what came in: it says more and counts as full. Else prove '..UptoSaid'. A law counts once. -/
mutual
def uptoBulk {H : Type} : DataW H → Nat
  | .lit (.string bytes) => bytes.length + 1
  | .lit _ => 1
  | .nil => 1
  | .ptr d => uptoBulk d + 1
  | .slice elems spare => uptoBulkAll elems + uptoBulkAll spare + 1
  | .agg parts => uptoBulkAll parts + 1
  | .iface _ d => uptoBulk d + 1
  | .map entries => uptoBulkEntries entries + 1
  | .held _ => 1
def uptoBulkAll {H : Type} : List (DataW H) → Nat
  | [] => 0
  | d :: r => uptoBulk d + uptoBulkAll r
def uptoBulkEntries {H : Type} : List (Lit × DataW H) → Nat
  | [] => 0
  | x :: r => uptoBulkEntry x + uptoBulkEntries r
def uptoBulkEntry {H : Type} : Lit × DataW H → Nat
  | (.string bytes, d) => bytes.length + uptoBulk d + 1
  | (_, d) => uptoBulk d + 1
 end
def uptoSmall : (H : Type) → List (DataW H) → Bool := fun _ ds => decide (uptoBulkAll ds ≤ 1048576)
def OpenSpec.upto (s : _root_.Go.ChangeSpec) : _root_.Go.OpenSpec := { _root_.Go.OpenSpec.ofChange s with cond := some uptoSmall }

/-- 'hansardlaw50.PlanSpec', WHERE WHAT IT READS IS OF BULK AT MOST 1048576: true; the input reads as it did. -/
def planSpecUptoRow : OpenClaim := { program := "ytofllhbcediafaa", sum := "c9c1d56bbd841b13658c607137fe1cb896921692431b9c9127bcf2ef4f09d375", func := "hansard/hansardlaw50.PlanSpec", spec := "planSpec", unfollowed := true, recurses := true, apart := false, narrowed := true }
def PlanSpecUptoSaid : Prop := planSpecUptoRow.holds Try.pinned (OpenSpec.upto planSpecSpec)

/-- 'hansardlaw50.PlanCountSpec', WHERE WHAT IT READS IS OF BULK AT MOST 1048576: true; the input reads as it did. -/
def planCountSpecUptoRow : OpenClaim := { program := "ytofllhbcediafaa", sum := "c9c1d56bbd841b13658c607137fe1cb896921692431b9c9127bcf2ef4f09d375", func := "hansard/hansardlaw50.PlanCountSpec", spec := "planCountSpec", unfollowed := true, recurses := true, apart := false, narrowed := true }
def PlanCountSpecUptoSaid : Prop := planCountSpecUptoRow.holds Try.pinned (OpenSpec.upto planCountSpecSpec)

/-- 'hansardlaw50.PlanFewest', WHERE WHAT IT READS IS OF BULK AT MOST 1048576: true; the input reads as it did. -/
def planFewestUptoRow : OpenClaim := { program := "ytofllhbcediafaa", sum := "c9c1d56bbd841b13658c607137fe1cb896921692431b9c9127bcf2ef4f09d375", func := "hansard/hansardlaw50.PlanFewest", spec := "planFewest", unfollowed := true, recurses := true, apart := false, narrowed := true }
def PlanFewestUptoSaid : Prop := planFewestUptoRow.holds Try.pinned (OpenSpec.upto planFewestSpec)

/-- 'hansardlaw50.PlanWhy', WHERE WHAT IT READS IS OF BULK AT MOST 1048576: true; the input reads as it did. -/
def planWhyUptoRow : OpenClaim := { program := "ytofllhbcediafaa", sum := "c9c1d56bbd841b13658c607137fe1cb896921692431b9c9127bcf2ef4f09d375", func := "hansard/hansardlaw50.PlanWhy", spec := "planWhy", unfollowed := true, recurses := true, apart := false, narrowed := true }
def PlanWhyUptoSaid : Prop := planWhyUptoRow.holds Try.pinned (OpenSpec.upto planWhySpec)

/-- 'hansardlaw50.PlanLater', WHERE WHAT IT READS IS OF BULK AT MOST 1048576: true; the input reads as it did. -/
def planLaterUptoRow : OpenClaim := { program := "ytofllhbcediafaa", sum := "c9c1d56bbd841b13658c607137fe1cb896921692431b9c9127bcf2ef4f09d375", func := "hansard/hansardlaw50.PlanLater", spec := "planLater", unfollowed := true, recurses := true, apart := false, narrowed := true }
def PlanLaterUptoSaid : Prop := planLaterUptoRow.holds Try.pinned (OpenSpec.upto planLaterSpec)

/-- 'hansardlaw50.PlanShift', WHERE WHAT IT READS IS OF BULK AT MOST 1048576: true; the input reads as it did. -/
def planShiftUptoRow : OpenClaim := { program := "ytofllhbcediafaa", sum := "c9c1d56bbd841b13658c607137fe1cb896921692431b9c9127bcf2ef4f09d375", func := "hansard/hansardlaw50.PlanShift", spec := "planShift", unfollowed := true, recurses := true, apart := false, narrowed := true }
def PlanShiftUptoSaid : Prop := planShiftUptoRow.holds Try.pinned (OpenSpec.upto planShiftSpec)

end Rows
end Go.Proofs.Ytofllhbcediafaa
