/- Part 8 of the proof: SnP0 SnP1 SnP2 SnP3. By AI agents; no person has read it. -/
import Derived.Test.YtcdofbhflocimaaGreatT7
set_option linter.unusedVariables false
set_option linter.unusedSimpArgs false
set_option linter.unusedSectionVars false
section
set_option maxRecDepth 100000
namespace Go.Lg
open Go.Proofs.Tryz
theorem sP0 : (ev look8 prC 2999).c false (nthSeq 0 (bodyOf f4)) sT0 sS0 = some (.normal, sT1, sS1) := by kernel_rfl
end Go.Lg
end
section
set_option maxRecDepth 100000
namespace Go.Lg
open Go.Proofs.Tryz
theorem sP1 : (ev look8 prC 2998).c false (nthSeq 1 (bodyOf f4)) sT1 sS1 = some (.normal, sT2, sS2) := by kernel_rfl
end Go.Lg
end
section
set_option maxRecDepth 100000
namespace Go.Lg
open Go.Proofs.Tryz
theorem sP2 : (ev look8 prC 2997).c false (nthSeq 2 (bodyOf f4)) sT2 sS2 = some (.normal, sT3, sS3) := by kernel_rfl
end Go.Lg
end
section
set_option maxRecDepth 100000
namespace Go.Lg
open Go.Proofs.Tryz
theorem sP3 : (ev look8 prC 2996).c false (nthSeq 3 (bodyOf f4)) sT3 sS3 = some (.normal, sT4, sS4) := by kernel_rfl
end Go.Lg
end
