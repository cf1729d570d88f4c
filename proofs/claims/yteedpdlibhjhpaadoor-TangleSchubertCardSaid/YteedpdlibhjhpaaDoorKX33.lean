/- The pairs of fractions of 31: by reckoning. -/
import Derived.Test.YteedpdlibhjhpaaDoorKX13
/- The pairs of fractions of 31: by reckoning. -/
namespace Go.Proofs.YteedpdlibhjhpaaDoor
set_option maxRecDepth 100000
theorem ok_31 : okX 31 = true := by decide +kernel
theorem pr_31 : prX 31 = true := by decide +kernel
end Go.Proofs.YteedpdlibhjhpaaDoor

/- The pairs of fractions of 33: by reckoning. -/
namespace Go.Proofs.YteedpdlibhjhpaaDoor
set_option maxRecDepth 100000
theorem ok_33 : okX 33 = true := by decide +kernel
theorem pr_33 : prX 33 = true := by decide +kernel
end Go.Proofs.YteedpdlibhjhpaaDoor
