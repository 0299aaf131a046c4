/- Part 13 of the proof: SnP20 SnP21. By AI agents; no person has read it. -/
import Derived.Test.YtcdofbhflocimaaGreatT7
set_option linter.unusedVariables false
set_option linter.unusedSimpArgs false
set_option linter.unusedSectionVars false
section
set_option maxRecDepth 100000
namespace Go.Lg
open Go.Proofs.Tryz
theorem sP20 : (ev look8 prC 2979).c false (nthSeq 20 (bodyOf f4)) sT20 sS20 = some (.normal, sT21, sS21) := by kernel_rfl
end Go.Lg
end
section
set_option maxRecDepth 100000
namespace Go.Lg
open Go.Proofs.Tryz
theorem sP21 : (ev look8 prC 2979).c false (dropSeq 21 (bodyOf f4)) sT21 sS21 = some (.ret, sT22, sS22) := by kernel_rfl
end Go.Lg
end
