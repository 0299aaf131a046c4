/- Part 11 of the proof: SnP12 SnP13 SnP14 SnP15. By AI agents; no person has read it. -/
import Derived.Test.YtcdofbhflocimaaGreatT7
set_option linter.unusedVariables false
set_option linter.unusedSimpArgs false
set_option linter.unusedSectionVars false
section
set_option maxRecDepth 100000
namespace Go.Lg
open Go.Proofs.Tryz
theorem sP12 : (ev look8 prC 2987).c false (nthSeq 12 (bodyOf f4)) sT12 sS12 = some (.normal, sT13, sS13) := by kernel_rfl
end Go.Lg
end
section
set_option maxRecDepth 100000
namespace Go.Lg
open Go.Proofs.Tryz
theorem sP13 : (ev look8 prC 2986).c false (nthSeq 13 (bodyOf f4)) sT13 sS13 = some (.normal, sT14, sS14) := by kernel_rfl
end Go.Lg
end
section
set_option maxRecDepth 100000
namespace Go.Lg
open Go.Proofs.Tryz
theorem sP14 : (ev look8 prC 2985).c false (nthSeq 14 (bodyOf f4)) sT14 sS14 = some (.normal, sT15, sS15) := by kernel_rfl
end Go.Lg
end
section
set_option maxRecDepth 100000
namespace Go.Lg
open Go.Proofs.Tryz
theorem sP15 : (ev look8 prC 2984).c false (nthSeq 15 (bodyOf f4)) sT15 sS15 = some (.normal, sT16, sS16) := by kernel_rfl
end Go.Lg
end
