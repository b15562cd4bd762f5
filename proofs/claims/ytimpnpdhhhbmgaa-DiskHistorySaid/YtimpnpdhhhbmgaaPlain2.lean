/- Plain facts of the examples. -/
import Derived.Test.YtimpnpdhhhbmgaaPlain
namespace Go.Proofs.Ytimpnpdhhhbmgaa
set_option linter.unusedVariables false
namespace Dv
def sA : Dk := nw 2
def sW : Dk := wr sA 1 [7]
def sS : Dk := stp sW 1
def sS2 : Dk := wr sS 0 (dbl 8)
def sX : Dk := sy sS2
set_option maxRecDepth 100000 in
theorem s_facts : nwE 0 = 1 ∧ nwE 2 = 0 ∧ wrE sA 1 [7] = 0 ∧ rdE sW 1 = 0 ∧ rdE sA 2 = 40 ∧ wrE sA 0 (List.replicate 129 0) = 1 ∧ stE sW 1 = 0 ∧ wrE sS 0 (dbl 8) = 0 ∧ syE sS2 = 40 ∧ sX.st = true := by
  decide +kernel
set_option maxRecDepth 100000 in
theorem s_facts2 : rdE (rs sX) 1 = 0 ∧ rdE (rs sX) 0 = 0 ∧ rdE (rs sW) 1 = 0 ∧ (rd sW 1).length = 128 ∧ (rd sW 1)[0]? = some 7 ∧ (rd (rs sX) 1).length = 128 ∧ (rd (rs sX) 1)[0]? = some 7 ∧ (rd (rs sX) 0).length = 128 ∧ (rd (rs sX) 0)[0]? = some 8 ∧ (rd (rs sX) 0)[64]? = some 0 ∧ (rd (rs sW) 1).length = 128 ∧ (rd (rs sW) 1)[0]? = some 0 ∧ chk d0 = 40 ∧ (rs d0).left = -1 := by
  decide +kernel
end Dv
end Go.Proofs.Ytimpnpdhhhbmgaa
