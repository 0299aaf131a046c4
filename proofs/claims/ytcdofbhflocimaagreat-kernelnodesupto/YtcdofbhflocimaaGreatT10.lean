/- Part 10 of the proof: SnP8 SnP9 SnP10 SnP11. By AI agents; no person has read it. -/
import Derived.Test.YtcdofbhflocimaaGreatT7
set_option linter.unusedVariables false
set_option linter.unusedSimpArgs false
set_option linter.unusedSectionVars false
section
set_option maxRecDepth 100000
namespace Go.Lg
open Go.Proofs.Tryz
theorem sP8 : (ev look8 prC 2991).c false (nthSeq 8 (bodyOf f4)) sT8 sS8 = some (.normal, sT9, sS9) := by kernel_rfl
end Go.Lg
end
section
set_option maxRecDepth 100000
namespace Go.Lg
open Go.Proofs.Tryz
theorem sP9 : (ev look8 prC 2990).c false (nthSeq 9 (bodyOf f4)) sT9 sS9 = some (.normal, sT10, sS10) := by kernel_rfl
end Go.Lg
end
section
set_option maxRecDepth 100000
namespace Go.Lg
open Go.Proofs.Tryz
theorem sP10 : (ev look8 prC 2989).c false (nthSeq 10 (bodyOf f4)) sT10 sS10 = some (.normal, sT11, sS11) := by kernel_rfl
end Go.Lg
end
section
set_option maxRecDepth 100000
namespace Go.Lg
open Go.Proofs.Tryz
theorem sP11 : (ev look8 prC 2988).c false (nthSeq 11 (bodyOf f4)) sT11 sS11 = some (.normal, sT12, sS12) := by kernel_rfl
end Go.Lg
end
