/- Part 12 of the proof: SnP16 SnP17 SnP18 SnP19. By AI agents; no person has read it. -/
import Derived.Test.YtcdofbhflocimaaGreatT7
set_option linter.unusedVariables false
set_option linter.unusedSimpArgs false
set_option linter.unusedSectionVars false
section
set_option maxRecDepth 100000
namespace Go.Lg
open Go.Proofs.Tryz
theorem sP16 : (ev look8 prC 2983).c false (nthSeq 16 (bodyOf f4)) sT16 sS16 = some (.normal, sT17, sS17) := by kernel_rfl
end Go.Lg
end
section
set_option maxRecDepth 100000
namespace Go.Lg
open Go.Proofs.Tryz
theorem sP17 : (ev look8 prC 2982).c false (nthSeq 17 (bodyOf f4)) sT17 sS17 = some (.normal, sT18, sS18) := by kernel_rfl
end Go.Lg
end
section
set_option maxRecDepth 100000
namespace Go.Lg
open Go.Proofs.Tryz
theorem sP18 : (ev look8 prC 2981).c false (nthSeq 18 (bodyOf f4)) sT18 sS18 = some (.normal, sT19, sS19) := by kernel_rfl
end Go.Lg
end
section
set_option maxRecDepth 100000
namespace Go.Lg
open Go.Proofs.Tryz
theorem sP19 : (ev look8 prC 2980).c false (nthSeq 19 (bodyOf f4)) sT19 sS19 = some (.normal, sT20, sS20) := by kernel_rfl
end Go.Lg
end
