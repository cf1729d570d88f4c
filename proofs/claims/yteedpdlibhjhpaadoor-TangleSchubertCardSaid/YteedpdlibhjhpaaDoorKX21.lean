/- The pairs of fractions of 19: by reckoning. -/
import Derived.Test.YteedpdlibhjhpaaDoorKX13
/- The pairs of fractions of 19: by reckoning. -/
namespace Go.Proofs.YteedpdlibhjhpaaDoor
set_option maxRecDepth 100000
theorem ok_19 : okX 19 = true := by decide +kernel
theorem pr_19 : prX 19 = true := by decide +kernel
end Go.Proofs.YteedpdlibhjhpaaDoor

/- The pairs of fractions of 21: by reckoning. -/
namespace Go.Proofs.YteedpdlibhjhpaaDoor
set_option maxRecDepth 100000
theorem ok_21 : okX 21 = true := by decide +kernel
theorem pr_21 : prX 21 = true := by decide +kernel
end Go.Proofs.YteedpdlibhjhpaaDoor
