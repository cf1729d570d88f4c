/- The pairs of fractions of 27: by reckoning. -/
import Derived.Test.YteedpdlibhjhpaaDoorKX13
/- The pairs of fractions of 27: by reckoning. -/
namespace Go.Proofs.YteedpdlibhjhpaaDoor
set_option maxRecDepth 100000
theorem ok_27 : okX 27 = true := by decide +kernel
theorem pr_27 : prX 27 = true := by decide +kernel
end Go.Proofs.YteedpdlibhjhpaaDoor

/- The pairs of fractions of 29: by reckoning. -/
namespace Go.Proofs.YteedpdlibhjhpaaDoor
set_option maxRecDepth 100000
theorem ok_29 : okX 29 = true := by decide +kernel
theorem pr_29 : prX 29 = true := by decide +kernel
end Go.Proofs.YteedpdlibhjhpaaDoor
