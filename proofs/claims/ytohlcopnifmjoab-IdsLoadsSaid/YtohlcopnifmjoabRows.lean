/-
  No cell of these rows narrows 'for every input' (looked for: loops, veiled, ifaces, maps, wideKeys, modest, calm, conditions, laid).
  DERIVED. THE GIVEN ROWS OF THIS SEAT. 3 by the template 'for every input the law returns true; each argument reads behind the call as it read before'; 0 by the template 'total and deterministic' (their statements: YtohlcopnifmjoabTotals.lean).
  GIVEN WITH THE SEED: the statements are not yours to turn. If you find one false, say at which input.
  Laid BY PROGRAM, IN A SANDBOX (cutbox-rows.mjs): the forced cells as the released guide's own fill.sh prints them over the translation 0774c95d136aecca… (all of the seat's roots in one cut). By AI agents, Wed Nov 11 2026. No macro, syntax, notation, axiom, sorry.
-/
import Derived.Test.YtohlcopnifmjoabChecked
import GoSem.Claim
import GoSem.ClaimJoined
import GoSem.ClaimMapViews
import Derived.JoinedTies
import Derived.KernelRfl
namespace Go.Proofs.Ytohlcopnifmjoab
/- THE CELL 'sum', in the pinned program and in every row, IS THE sha256 OF THE DUMP (.gsa) THAT YtohlcopnifmjoabProg.lean LOADS. Nothing in Lean hashes anything: it is a label: what it is worth is what the hold of that sum in a sandbox is worth. -/
noncomputable def Try.pinned : Pinned := { name := "ytohlcopnifmjoab", sum := "0774c95d136aeccac8f61bb7984b1778d1036f5981581fa7cae2e514a1b6ec05", checked := Try.checked }
namespace Rows
def none {H : Type} : Left H := { results := [], args := [] }

/-- 'vivariumlaw06.IdsOnce': WHATEVER THE INPUT: true; the input reads as it did. -/
def idsOnceSpec : ChangeSpec := { name := "idsOnce", fn := fun _ => fun
  | [d1, d2, d3] => { results := [.lit (.bool true)], args := [d1, d2, d3] }
  | _ => none }
def idsOnceRow : OpenClaim := { program := "ytohlcopnifmjoab", sum := "0774c95d136aeccac8f61bb7984b1778d1036f5981581fa7cae2e514a1b6ec05", func := "vivarium/vivariumlaw06.IdsOnce", spec := "idsOnce", unfollowed := true, recurses := true, apart := false }
def IdsOnceSaid : Prop := idsOnceRow.holds Try.pinned (OpenSpec.ofChange idsOnceSpec)

/-- ITS FALSE NEIGHBOUR: 'it returns false'. Refute it at one input. -/
def idsOnceWrong : ChangeSpec := { name := "idsOnce", fn := fun _ => fun
  | [d1, d2, d3] => { results := [.lit (.bool false)], args := [d1, d2, d3] }
  | _ => none }
def IdsOnceWrongFalsely : Prop := idsOnceRow.holds Try.pinned (OpenSpec.ofChange idsOnceWrong)

/-- 'vivariumlaw06.IdsSteps': WHATEVER THE INPUT: true; the input reads as it did. -/
def idsStepsSpec : ChangeSpec := { name := "idsSteps", fn := fun _ => fun
  | [d1, d2, d3, d4] => { results := [.lit (.bool true)], args := [d1, d2, d3, d4] }
  | _ => none }
def idsStepsRow : OpenClaim := { program := "ytohlcopnifmjoab", sum := "0774c95d136aeccac8f61bb7984b1778d1036f5981581fa7cae2e514a1b6ec05", func := "vivarium/vivariumlaw06.IdsSteps", spec := "idsSteps", unfollowed := true, recurses := true, apart := false }
def IdsStepsSaid : Prop := idsStepsRow.holds Try.pinned (OpenSpec.ofChange idsStepsSpec)

/-- ITS FALSE NEIGHBOUR: 'it returns false'. Refute it at one input. -/
def idsStepsWrong : ChangeSpec := { name := "idsSteps", fn := fun _ => fun
  | [d1, d2, d3, d4] => { results := [.lit (.bool false)], args := [d1, d2, d3, d4] }
  | _ => none }
def IdsStepsWrongFalsely : Prop := idsStepsRow.holds Try.pinned (OpenSpec.ofChange idsStepsWrong)

/-- 'vivariumlaw06.IdsLoads': WHATEVER THE INPUT: true; the input reads as it did. -/
def idsLoadsSpec : ChangeSpec := { name := "idsLoads", fn := fun _ => fun
  | [d1, d2, d3, d4, d5, d6] => { results := [.lit (.bool true)], args := [d1, d2, d3, d4, d5, d6] }
  | _ => none }
def idsLoadsRow : OpenClaim := { program := "ytohlcopnifmjoab", sum := "0774c95d136aeccac8f61bb7984b1778d1036f5981581fa7cae2e514a1b6ec05", func := "vivarium/vivariumlaw06.IdsLoads", spec := "idsLoads", unfollowed := true, recurses := true, apart := false }
def IdsLoadsSaid : Prop := idsLoadsRow.holds Try.pinned (OpenSpec.ofChange idsLoadsSpec)

/-- ITS FALSE NEIGHBOUR: 'it returns false'. Refute it at one input. -/
def idsLoadsWrong : ChangeSpec := { name := "idsLoads", fn := fun _ => fun
  | [d1, d2, d3, d4, d5, d6] => { results := [.lit (.bool false)], args := [d1, d2, d3, d4, d5, d6] }
  | _ => none }
def IdsLoadsWrongFalsely : Prop := idsLoadsRow.holds Try.pinned (OpenSpec.ofChange idsLoadsWrong)

/- THE SECOND FORM. 'bulk': how many values and letters a reading holds, each counted each time it is reached (what is shared counts as often as it is met; a slice's spare places count too). A statement '..UptoSaid' is the law's where the arguments, and the package variables that the reading takes, are together of bulk at most 1048576: NARROWER than '..Said'. Prove '..Said' where nothing that the law and all that it calls make is longer than what came in: it says more and counts as full. Else prove '..UptoSaid'. A law counts once. -/
mutual
def uptoBulk {H : Type} : DataW H → Nat
  | .lit (.string bytes) => bytes.length + 1
  | .lit _ => 1
  | .nil => 1
  | .ptr d => uptoBulk d + 1
  | .slice elems spare => uptoBulkAll elems + uptoBulkAll spare + 1
  | .agg parts => uptoBulkAll parts + 1
  | .iface _ d => uptoBulk d + 1
  | .map entries => uptoBulkEntries entries + 1
  | .held _ => 1
def uptoBulkAll {H : Type} : List (DataW H) → Nat
  | [] => 0
  | d :: r => uptoBulk d + uptoBulkAll r
def uptoBulkEntries {H : Type} : List (Lit × DataW H) → Nat
  | [] => 0
  | x :: r => uptoBulkEntry x + uptoBulkEntries r
def uptoBulkEntry {H : Type} : Lit × DataW H → Nat
  | (.string bytes, d) => bytes.length + uptoBulk d + 1
  | (_, d) => uptoBulk d + 1
 end
def uptoSmall : (H : Type) → List (DataW H) → Bool := fun _ ds => decide (uptoBulkAll ds ≤ 1048576)
def OpenSpec.upto (s : _root_.Go.ChangeSpec) : _root_.Go.OpenSpec := { _root_.Go.OpenSpec.ofChange s with cond := some uptoSmall }

/-- 'vivariumlaw06.IdsOnce', WHERE WHAT IT READS IS OF BULK AT MOST 1048576: true; the input reads as it did. -/
def idsOnceUptoRow : OpenClaim := { program := "ytohlcopnifmjoab", sum := "0774c95d136aeccac8f61bb7984b1778d1036f5981581fa7cae2e514a1b6ec05", func := "vivarium/vivariumlaw06.IdsOnce", spec := "idsOnce", unfollowed := true, recurses := true, apart := false, narrowed := true }
def IdsOnceUptoSaid : Prop := idsOnceUptoRow.holds Try.pinned (OpenSpec.upto idsOnceSpec)

/-- 'vivariumlaw06.IdsSteps', WHERE WHAT IT READS IS OF BULK AT MOST 1048576: true; the input reads as it did. -/
def idsStepsUptoRow : OpenClaim := { program := "ytohlcopnifmjoab", sum := "0774c95d136aeccac8f61bb7984b1778d1036f5981581fa7cae2e514a1b6ec05", func := "vivarium/vivariumlaw06.IdsSteps", spec := "idsSteps", unfollowed := true, recurses := true, apart := false, narrowed := true }
def IdsStepsUptoSaid : Prop := idsStepsUptoRow.holds Try.pinned (OpenSpec.upto idsStepsSpec)

/-- 'vivariumlaw06.IdsLoads', WHERE WHAT IT READS IS OF BULK AT MOST 1048576: true; the input reads as it did. -/
def idsLoadsUptoRow : OpenClaim := { program := "ytohlcopnifmjoab", sum := "0774c95d136aeccac8f61bb7984b1778d1036f5981581fa7cae2e514a1b6ec05", func := "vivarium/vivariumlaw06.IdsLoads", spec := "idsLoads", unfollowed := true, recurses := true, apart := false, narrowed := true }
def IdsLoadsUptoSaid : Prop := idsLoadsUptoRow.holds Try.pinned (OpenSpec.upto idsLoadsSpec)

end Rows
end Go.Proofs.Ytohlcopnifmjoab
