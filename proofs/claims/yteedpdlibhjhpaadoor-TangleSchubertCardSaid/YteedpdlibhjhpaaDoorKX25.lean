/- The pairs of fractions of 23: by reckoning. -/
import Derived.Test.YteedpdlibhjhpaaDoorKX13
/- The pairs of fractions of 23: by reckoning. -/
namespace Go.Proofs.YteedpdlibhjhpaaDoor
set_option maxRecDepth 100000
theorem ok_23 : okX 23 = true := by decide +kernel
theorem pr_23 : prX 23 = true := by decide +kernel
end Go.Proofs.YteedpdlibhjhpaaDoor

/- The pairs of fractions of 25: by reckoning. -/
namespace Go.Proofs.YteedpdlibhjhpaaDoor
set_option maxRecDepth 100000
theorem ok_25 : okX 25 = true := by decide +kernel
theorem pr_25 : prX 25 = true := by decide +kernel
end Go.Proofs.YteedpdlibhjhpaaDoor
