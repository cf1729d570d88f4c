/- What the lists of fractions give: by reckoning. -/
import Derived.Test.YteedpdlibhjhpaaDoorT11
import Derived.Test.YteedpdlibhjhpaaDoorJ7
/- What the lists of fractions give: by reckoning. -/
namespace Go.Proofs.YteedpdlibhjhpaaDoor

def okL (l : List Nat) : Bool :=
  match Kn.linkN l with
  | some (X, L) => decide (X.length ≤ 12) && decide (L = 0) && decide (opC X 0 = 0) && decide (l.length % 2 = 1)
  | none => false
def okX (x : Nat) : Bool := (List.range x).all fun y => !rightB x (y + 1) || !decide ((Kn.expandL x (y + 1)).sum ≤ 10) || okL (Kn.expandL x (y + 1))

end Go.Proofs.YteedpdlibhjhpaaDoor

/- The pairs of fractions: what is reckoned. -/
namespace Go.Proofs.YteedpdlibhjhpaaDoor

noncomputable def prB (l l' : List Nat) : Bool :=
  match Kn.linkN l, Kn.linkN l' with
  | some (X, _), some (Y, _) => decide (X.length = Y.length) && decide (wrt X = wrt Y) && Nat.beq (Kn.hR X) (Kn.hR Y)
  | _, _ => false
noncomputable def prX (x : Nat) : Bool := (List.range x).all fun y => !rightB x (y + 1) || !decide ((Kn.expandL x (y + 1)).sum ≤ 10) || (List.range x).all fun z => !decide (y < z) || !sameB x (y + 1) (z + 1) || !rightB x (z + 1) || !decide ((Kn.expandL x (z + 1)).sum ≤ 10) || prB (Kn.expandL x (y + 1)) (Kn.expandL x (z + 1))
end Go.Proofs.YteedpdlibhjhpaaDoor

/- The pairs of fractions of 1 to 13: by reckoning. -/
namespace Go.Proofs.YteedpdlibhjhpaaDoor
set_option maxRecDepth 100000
theorem ok_1 : okX 1 = true := by decide +kernel
theorem pr_1 : prX 1 = true := by decide +kernel
theorem ok_3 : okX 3 = true := by decide +kernel
theorem pr_3 : prX 3 = true := by decide +kernel
theorem ok_5 : okX 5 = true := by decide +kernel
theorem pr_5 : prX 5 = true := by decide +kernel
theorem ok_7 : okX 7 = true := by decide +kernel
theorem pr_7 : prX 7 = true := by decide +kernel
theorem ok_9 : okX 9 = true := by decide +kernel
theorem pr_9 : prX 9 = true := by decide +kernel
theorem ok_11 : okX 11 = true := by decide +kernel
theorem pr_11 : prX 11 = true := by decide +kernel
theorem ok_13 : okX 13 = true := by decide +kernel
theorem pr_13 : prX 13 = true := by decide +kernel
end Go.Proofs.YteedpdlibhjhpaaDoor
