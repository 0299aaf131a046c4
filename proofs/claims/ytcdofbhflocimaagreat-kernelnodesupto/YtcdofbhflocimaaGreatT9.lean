/- Part 9 of the proof: SnP4 SnP5 SnP6 SnP7. By AI agents; no person has read it. -/
import Derived.Test.YtcdofbhflocimaaGreatT7
set_option linter.unusedVariables false
set_option linter.unusedSimpArgs false
set_option linter.unusedSectionVars false
section
set_option maxRecDepth 100000
namespace Go.Lg
open Go.Proofs.Tryz
theorem sP4 : (ev look8 prC 2995).c false (nthSeq 4 (bodyOf f4)) sT4 sS4 = some (.normal, sT5, sS5) := by kernel_rfl
end Go.Lg
end
section
set_option maxRecDepth 100000
namespace Go.Lg
open Go.Proofs.Tryz
theorem sP5 : (ev look8 prC 2994).c false (nthSeq 5 (bodyOf f4)) sT5 sS5 = some (.normal, sT6, sS6) := by kernel_rfl
end Go.Lg
end
section
set_option maxRecDepth 100000
namespace Go.Lg
open Go.Proofs.Tryz
theorem sP6 : (ev look8 prC 2993).c false (nthSeq 6 (bodyOf f4)) sT6 sS6 = some (.normal, sT7, sS7) := by kernel_rfl
end Go.Lg
end
section
set_option maxRecDepth 100000
namespace Go.Lg
open Go.Proofs.Tryz
theorem sP7 : (ev look8 prC 2992).c false (nthSeq 7 (bodyOf f4)) sT7 sS7 = some (.normal, sT8, sS8) := by kernel_rfl
end Go.Lg
end
