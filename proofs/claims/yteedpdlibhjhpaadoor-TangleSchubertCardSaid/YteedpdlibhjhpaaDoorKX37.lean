/- The pairs of fractions of 35: by reckoning. -/
import Derived.Test.YteedpdlibhjhpaaDoorKX13
/- The pairs of fractions of 35: by reckoning. -/
namespace Go.Proofs.YteedpdlibhjhpaaDoor
set_option maxRecDepth 100000
theorem ok_35 : okX 35 = true := by decide +kernel
theorem pr_35 : prX 35 = true := by decide +kernel
end Go.Proofs.YteedpdlibhjhpaaDoor

/- The pairs of fractions of 37: by reckoning. -/
namespace Go.Proofs.YteedpdlibhjhpaaDoor
set_option maxRecDepth 100000
theorem ok_37 : okX 37 = true := by decide +kernel
theorem pr_37 : prX 37 = true := by decide +kernel
end Go.Proofs.YteedpdlibhjhpaaDoor
