/- The pairs of fractions of 15: by reckoning. -/
import Derived.Test.YteedpdlibhjhpaaDoorKX13
/- The pairs of fractions of 15: by reckoning. -/
namespace Go.Proofs.YteedpdlibhjhpaaDoor
set_option maxRecDepth 100000
theorem ok_15 : okX 15 = true := by decide +kernel
theorem pr_15 : prX 15 = true := by decide +kernel
end Go.Proofs.YteedpdlibhjhpaaDoor

/- The pairs of fractions of 17: by reckoning. -/
namespace Go.Proofs.YteedpdlibhjhpaaDoor
set_option maxRecDepth 100000
theorem ok_17 : okX 17 = true := by decide +kernel
theorem pr_17 : prX 17 = true := by decide +kernel
end Go.Proofs.YteedpdlibhjhpaaDoor
