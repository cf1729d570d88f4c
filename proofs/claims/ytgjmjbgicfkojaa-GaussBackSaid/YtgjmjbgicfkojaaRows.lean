/-
  No cell of these rows narrows 'for every input' (looked for: loops, veiled, ifaces, maps, wideKeys, modest, calm, conditions, laid).
  DERIVED. THE GIVEN ROWS OF THIS SEAT. 4 by the template 'for every input the law returns true; each argument reads behind the call as it read before'; 0 by the template 'total and deterministic' (their statements: YtgjmjbgicfkojaaTotals.lean).
  GIVEN WITH THE SEED: the statements are not yours to turn. If you find one false, say at which input.
  Laid BY PROGRAM, IN A SANDBOX (cutbox-rows.mjs): the forced cells as the released guide's own fill.sh prints them over the translation 89b76da9c44302a4… (all of the seat's roots in one cut). By AI agents, Wed Nov 11 2026. No macro, syntax, notation, axiom, sorry.
-/
import Derived.Test.YtgjmjbgicfkojaaChecked
import GoSem.Claim
import GoSem.ClaimJoined
import GoSem.ClaimMapViews
import Derived.JoinedTies
import Derived.KernelRfl
namespace Go.Proofs.Ytgjmjbgicfkojaa
/- THE CELL 'sum', in the pinned program and in every row, IS THE sha256 OF THE DUMP (.gsa) THAT YtgjmjbgicfkojaaProg.lean LOADS. Nothing in Lean hashes anything: it is a label: what it is worth is what the hold of that sum in a sandbox is worth. -/
noncomputable def Try.pinned : Pinned := { name := "ytgjmjbgicfkojaa", sum := "89b76da9c44302a4ba4760e313f47c59bc7b18b64d4e41151063489f139c62bb", checked := Try.checked }
namespace Rows
def none {H : Type} : Left H := { results := [], args := [] }

/-- 'knotworkkeep.CodeDarts': WHATEVER THE INPUT: true; the input reads as it did. -/
def codeDartsSpec : ChangeSpec := { name := "codeDarts", fn := fun _ => fun
  | [d] => { results := [.lit (.bool true)], args := [d] }
  | _ => none }
def codeDartsRow : OpenClaim := { program := "ytgjmjbgicfkojaa", sum := "89b76da9c44302a4ba4760e313f47c59bc7b18b64d4e41151063489f139c62bb", func := "knotwork/knotworkkeep.CodeDarts", spec := "codeDarts", unfollowed := true, recurses := true, plainKeys := false, apart := false }
def CodeDartsSaid : Prop := codeDartsRow.holds Try.pinned (OpenSpec.ofChange codeDartsSpec)

/-- ITS FALSE NEIGHBOUR: 'it returns false'. Refute it at one input. -/
def codeDartsWrong : ChangeSpec := { name := "codeDarts", fn := fun _ => fun
  | [d] => { results := [.lit (.bool false)], args := [d] }
  | _ => none }
def CodeDartsWrongFalsely : Prop := codeDartsRow.holds Try.pinned (OpenSpec.ofChange codeDartsWrong)

/-- 'knotworkkeep.CanonAny': WHATEVER THE INPUT: true; the input reads as it did. -/
def canonAnySpec : ChangeSpec := { name := "canonAny", fn := fun _ => fun
  | [d1, d2, d3] => { results := [.lit (.bool true)], args := [d1, d2, d3] }
  | _ => none }
def canonAnyRow : OpenClaim := { program := "ytgjmjbgicfkojaa", sum := "89b76da9c44302a4ba4760e313f47c59bc7b18b64d4e41151063489f139c62bb", func := "knotwork/knotworkkeep.CanonAny", spec := "canonAny", unfollowed := true, recurses := true, plainKeys := false, apart := false }
def CanonAnySaid : Prop := canonAnyRow.holds Try.pinned (OpenSpec.ofChange canonAnySpec)

/-- ITS FALSE NEIGHBOUR: 'it returns false'. Refute it at one input. -/
def canonAnyWrong : ChangeSpec := { name := "canonAny", fn := fun _ => fun
  | [d1, d2, d3] => { results := [.lit (.bool false)], args := [d1, d2, d3] }
  | _ => none }
def CanonAnyWrongFalsely : Prop := canonAnyRow.holds Try.pinned (OpenSpec.ofChange canonAnyWrong)

/-- 'knotworkkeep.GaussBack': WHATEVER THE INPUT: true; the input reads as it did. -/
def gaussBackSpec : ChangeSpec := { name := "gaussBack", fn := fun _ => fun
  | [d] => { results := [.lit (.bool true)], args := [d] }
  | _ => none }
def gaussBackRow : OpenClaim := { program := "ytgjmjbgicfkojaa", sum := "89b76da9c44302a4ba4760e313f47c59bc7b18b64d4e41151063489f139c62bb", func := "knotwork/knotworkkeep.GaussBack", spec := "gaussBack", unfollowed := true, recurses := true, plainKeys := false, apart := false }
def GaussBackSaid : Prop := gaussBackRow.holds Try.pinned (OpenSpec.ofChange gaussBackSpec)

/-- ITS FALSE NEIGHBOUR: 'it returns false'. Refute it at one input. -/
def gaussBackWrong : ChangeSpec := { name := "gaussBack", fn := fun _ => fun
  | [d] => { results := [.lit (.bool false)], args := [d] }
  | _ => none }
def GaussBackWrongFalsely : Prop := gaussBackRow.holds Try.pinned (OpenSpec.ofChange gaussBackWrong)

/-- 'knotworkkeep.CanonTwice': WHATEVER THE INPUT: true; the input reads as it did. -/
def canonTwiceSpec : ChangeSpec := { name := "canonTwice", fn := fun _ => fun
  | [d1, d2, d3, d4] => { results := [.lit (.bool true)], args := [d1, d2, d3, d4] }
  | _ => none }
def canonTwiceRow : OpenClaim := { program := "ytgjmjbgicfkojaa", sum := "89b76da9c44302a4ba4760e313f47c59bc7b18b64d4e41151063489f139c62bb", func := "knotwork/knotworkkeep.CanonTwice", spec := "canonTwice", unfollowed := true, recurses := true, plainKeys := false, apart := false }
def CanonTwiceSaid : Prop := canonTwiceRow.holds Try.pinned (OpenSpec.ofChange canonTwiceSpec)

/-- ITS FALSE NEIGHBOUR: 'it returns false'. Refute it at one input. -/
def canonTwiceWrong : ChangeSpec := { name := "canonTwice", fn := fun _ => fun
  | [d1, d2, d3, d4] => { results := [.lit (.bool false)], args := [d1, d2, d3, d4] }
  | _ => none }
def CanonTwiceWrongFalsely : Prop := canonTwiceRow.holds Try.pinned (OpenSpec.ofChange canonTwiceWrong)

/- THE SECOND FORM. 'bulk': how many values and letters a reading holds, each counted each time it is reached (what is shared counts as often as it is met; a slice's spare places count too). A statement '..UptoSaid' is the law's where the arguments, and the package variables that the reading takes, are together of bulk at most 1048576: NARROWER than '..Said'. Prove '..Said' where nothing that the law and all that it calls make is longer than what came in: it says more and counts as full. Else prove '..UptoSaid'. A law counts once. -/
mutual
def uptoBulk {H : Type} : DataW H → Nat
  | .lit (.string bytes) => bytes.length + 1
  | .lit _ => 1
  | .nil => 1
  | .ptr d => uptoBulk d + 1
  | .slice elems spare => uptoBulkAll elems + uptoBulkAll spare + 1
  | .agg parts => uptoBulkAll parts + 1
  | .iface _ d => uptoBulk d + 1
  | .map entries => uptoBulkEntries entries + 1
  | .held _ => 1
def uptoBulkAll {H : Type} : List (DataW H) → Nat
  | [] => 0
  | d :: r => uptoBulk d + uptoBulkAll r
def uptoBulkEntries {H : Type} : List (Lit × DataW H) → Nat
  | [] => 0
  | x :: r => uptoBulkEntry x + uptoBulkEntries r
def uptoBulkEntry {H : Type} : Lit × DataW H → Nat
  | (.string bytes, d) => bytes.length + uptoBulk d + 1
  | (_, d) => uptoBulk d + 1
 end
def uptoSmall : (H : Type) → List (DataW H) → Bool := fun _ ds => decide (uptoBulkAll ds ≤ 1048576)
def OpenSpec.upto (s : _root_.Go.ChangeSpec) : _root_.Go.OpenSpec := { _root_.Go.OpenSpec.ofChange s with cond := some uptoSmall }

/-- 'knotworkkeep.CodeDarts', WHERE WHAT IT READS IS OF BULK AT MOST 1048576: true; the input reads as it did. -/
def codeDartsUptoRow : OpenClaim := { program := "ytgjmjbgicfkojaa", sum := "89b76da9c44302a4ba4760e313f47c59bc7b18b64d4e41151063489f139c62bb", func := "knotwork/knotworkkeep.CodeDarts", spec := "codeDarts", unfollowed := true, recurses := true, plainKeys := false, apart := false, narrowed := true }
def CodeDartsUptoSaid : Prop := codeDartsUptoRow.holds Try.pinned (OpenSpec.upto codeDartsSpec)

/-- 'knotworkkeep.CanonAny', WHERE WHAT IT READS IS OF BULK AT MOST 1048576: true; the input reads as it did. -/
def canonAnyUptoRow : OpenClaim := { program := "ytgjmjbgicfkojaa", sum := "89b76da9c44302a4ba4760e313f47c59bc7b18b64d4e41151063489f139c62bb", func := "knotwork/knotworkkeep.CanonAny", spec := "canonAny", unfollowed := true, recurses := true, plainKeys := false, apart := false, narrowed := true }
def CanonAnyUptoSaid : Prop := canonAnyUptoRow.holds Try.pinned (OpenSpec.upto canonAnySpec)

/-- 'knotworkkeep.GaussBack', WHERE WHAT IT READS IS OF BULK AT MOST 1048576: true; the input reads as it did. -/
def gaussBackUptoRow : OpenClaim := { program := "ytgjmjbgicfkojaa", sum := "89b76da9c44302a4ba4760e313f47c59bc7b18b64d4e41151063489f139c62bb", func := "knotwork/knotworkkeep.GaussBack", spec := "gaussBack", unfollowed := true, recurses := true, plainKeys := false, apart := false, narrowed := true }
def GaussBackUptoSaid : Prop := gaussBackUptoRow.holds Try.pinned (OpenSpec.upto gaussBackSpec)

/-- 'knotworkkeep.CanonTwice', WHERE WHAT IT READS IS OF BULK AT MOST 1048576: true; the input reads as it did. -/
def canonTwiceUptoRow : OpenClaim := { program := "ytgjmjbgicfkojaa", sum := "89b76da9c44302a4ba4760e313f47c59bc7b18b64d4e41151063489f139c62bb", func := "knotwork/knotworkkeep.CanonTwice", spec := "canonTwice", unfollowed := true, recurses := true, plainKeys := false, apart := false, narrowed := true }
def CanonTwiceUptoSaid : Prop := canonTwiceUptoRow.holds Try.pinned (OpenSpec.upto canonTwiceSpec)

end Rows
end Go.Proofs.Ytgjmjbgicfkojaa
