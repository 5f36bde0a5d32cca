/-
  No cell of these rows narrows 'for every input' (looked for: loops, veiled, ifaces, maps, wideKeys, modest, calm, conditions, laid).
  DERIVED. THE GIVEN ROWS OF THIS SEAT. 3 by the template 'for every input the law returns true; each argument reads behind the call as it read before'; 0 by the template 'total and deterministic' (their statements: YtohlcopnifmjoaeTotals.lean).
  GIVEN WITH THE SEED: the statements are not yours to turn. If you find one false, say at which input.
  Laid BY PROGRAM, IN A SANDBOX (cutbox-rows.mjs): the forced cells as the released guide's own fill.sh prints them over the translation cc585f3916f35245… (all of the seat's roots in one cut). By AI agents, Wed Nov 11 2026. No macro, syntax, notation, axiom, sorry.
-/
import Derived.Test.YtohlcopnifmjoaeChecked
import GoSem.Claim
import GoSem.ClaimJoined
import GoSem.ClaimMapViews
import Derived.JoinedTies
import Derived.KernelRfl
namespace Go.Proofs.Ytohlcopnifmjoae
/- THE CELL 'sum', in the pinned program and in every row, IS THE sha256 OF THE DUMP (.gsa) THAT YtohlcopnifmjoaeProg.lean LOADS. Nothing in Lean hashes anything: it is a label: what it is worth is what the hold of that sum in a sandbox is worth. -/
noncomputable def Try.pinned : Pinned := { name := "ytohlcopnifmjoae", sum := "cc585f3916f35245cfdeb8df49c4b8c2ed1a8ceb155d0266553e2dbd0ab6ecbc", checked := Try.checked }
namespace Rows
def none {H : Type} : Left H := { results := [], args := [] }

/-- 'vivariumlaw21.AllocSteps': WHATEVER THE INPUT: true; the input reads as it did. -/
def allocStepsSpec : ChangeSpec := { name := "allocSteps", fn := fun _ => fun
  | [d1, d2, d3] => { results := [.lit (.bool true)], args := [d1, d2, d3] }
  | _ => none }
def allocStepsRow : OpenClaim := { program := "ytohlcopnifmjoae", sum := "cc585f3916f35245cfdeb8df49c4b8c2ed1a8ceb155d0266553e2dbd0ab6ecbc", func := "vivarium/vivariumlaw21.AllocSteps", spec := "allocSteps", apart := false }
def AllocStepsSaid : Prop := allocStepsRow.holds Try.pinned (OpenSpec.ofChange allocStepsSpec)

/-- ITS FALSE NEIGHBOUR: 'it returns false'. Refute it at one input. -/
def allocStepsWrong : ChangeSpec := { name := "allocSteps", fn := fun _ => fun
  | [d1, d2, d3] => { results := [.lit (.bool false)], args := [d1, d2, d3] }
  | _ => none }
def AllocStepsWrongFalsely : Prop := allocStepsRow.holds Try.pinned (OpenSpec.ofChange allocStepsWrong)

/-- 'vivariumlaw21.AllocTakes': WHATEVER THE INPUT: true; the input reads as it did. -/
def allocTakesSpec : ChangeSpec := { name := "allocTakes", fn := fun _ => fun
  | [d1, d2, d3] => { results := [.lit (.bool true)], args := [d1, d2, d3] }
  | _ => none }
def allocTakesRow : OpenClaim := { program := "ytohlcopnifmjoae", sum := "cc585f3916f35245cfdeb8df49c4b8c2ed1a8ceb155d0266553e2dbd0ab6ecbc", func := "vivarium/vivariumlaw21.AllocTakes", spec := "allocTakes", apart := false }
def AllocTakesSaid : Prop := allocTakesRow.holds Try.pinned (OpenSpec.ofChange allocTakesSpec)

/-- ITS FALSE NEIGHBOUR: 'it returns false'. Refute it at one input. -/
def allocTakesWrong : ChangeSpec := { name := "allocTakes", fn := fun _ => fun
  | [d1, d2, d3] => { results := [.lit (.bool false)], args := [d1, d2, d3] }
  | _ => none }
def AllocTakesWrongFalsely : Prop := allocTakesRow.holds Try.pinned (OpenSpec.ofChange allocTakesWrong)

/-- 'vivariumlaw21.AllocOrders': WHATEVER THE INPUT: true; the input reads as it did. -/
def allocOrdersSpec : ChangeSpec := { name := "allocOrders", fn := fun _ => fun
  | [d1, d2, d3] => { results := [.lit (.bool true)], args := [d1, d2, d3] }
  | _ => none }
def allocOrdersRow : OpenClaim := { program := "ytohlcopnifmjoae", sum := "cc585f3916f35245cfdeb8df49c4b8c2ed1a8ceb155d0266553e2dbd0ab6ecbc", func := "vivarium/vivariumlaw21.AllocOrders", spec := "allocOrders", apart := false }
def AllocOrdersSaid : Prop := allocOrdersRow.holds Try.pinned (OpenSpec.ofChange allocOrdersSpec)

/-- ITS FALSE NEIGHBOUR: 'it returns false'. Refute it at one input. -/
def allocOrdersWrong : ChangeSpec := { name := "allocOrders", fn := fun _ => fun
  | [d1, d2, d3] => { results := [.lit (.bool false)], args := [d1, d2, d3] }
  | _ => none }
def AllocOrdersWrongFalsely : Prop := allocOrdersRow.holds Try.pinned (OpenSpec.ofChange allocOrdersWrong)

/- THE SECOND FORM. 'bulk': how many values and letters a reading holds, each counted each time it is reached (what is shared counts as often as it is met; a slice's spare places count too). A statement '..UptoSaid' is the law's where the arguments, and the package variables that the reading takes, are together of bulk at most 1048576: NARROWER than '..Said'. Prove '..Said' where nothing that the law and all that it calls make is longer than what came in: it says more and counts as full. Else prove '..UptoSaid'. A law counts once. -/
mutual
def uptoBulk {H : Type} : DataW H → Nat
  | .lit (.string bytes) => bytes.length + 1
  | .lit _ => 1
  | .nil => 1
  | .ptr d => uptoBulk d + 1
  | .slice elems spare => uptoBulkAll elems + uptoBulkAll spare + 1
  | .agg parts => uptoBulkAll parts + 1
  | .iface _ d => uptoBulk d + 1
  | .map entries => uptoBulkEntries entries + 1
  | .held _ => 1
def uptoBulkAll {H : Type} : List (DataW H) → Nat
  | [] => 0
  | d :: r => uptoBulk d + uptoBulkAll r
def uptoBulkEntries {H : Type} : List (Lit × DataW H) → Nat
  | [] => 0
  | x :: r => uptoBulkEntry x + uptoBulkEntries r
def uptoBulkEntry {H : Type} : Lit × DataW H → Nat
  | (.string bytes, d) => bytes.length + uptoBulk d + 1
  | (_, d) => uptoBulk d + 1
 end
def uptoSmall : (H : Type) → List (DataW H) → Bool := fun _ ds => decide (uptoBulkAll ds ≤ 1048576)
def OpenSpec.upto (s : _root_.Go.ChangeSpec) : _root_.Go.OpenSpec := { _root_.Go.OpenSpec.ofChange s with cond := some uptoSmall }

/-- 'vivariumlaw21.AllocSteps', WHERE WHAT IT READS IS OF BULK AT MOST 1048576: true; the input reads as it did. -/
def allocStepsUptoRow : OpenClaim := { program := "ytohlcopnifmjoae", sum := "cc585f3916f35245cfdeb8df49c4b8c2ed1a8ceb155d0266553e2dbd0ab6ecbc", func := "vivarium/vivariumlaw21.AllocSteps", spec := "allocSteps", apart := false, narrowed := true }
def AllocStepsUptoSaid : Prop := allocStepsUptoRow.holds Try.pinned (OpenSpec.upto allocStepsSpec)

/-- 'vivariumlaw21.AllocTakes', WHERE WHAT IT READS IS OF BULK AT MOST 1048576: true; the input reads as it did. -/
def allocTakesUptoRow : OpenClaim := { program := "ytohlcopnifmjoae", sum := "cc585f3916f35245cfdeb8df49c4b8c2ed1a8ceb155d0266553e2dbd0ab6ecbc", func := "vivarium/vivariumlaw21.AllocTakes", spec := "allocTakes", apart := false, narrowed := true }
def AllocTakesUptoSaid : Prop := allocTakesUptoRow.holds Try.pinned (OpenSpec.upto allocTakesSpec)

/-- 'vivariumlaw21.AllocOrders', WHERE WHAT IT READS IS OF BULK AT MOST 1048576: true; the input reads as it did. -/
def allocOrdersUptoRow : OpenClaim := { program := "ytohlcopnifmjoae", sum := "cc585f3916f35245cfdeb8df49c4b8c2ed1a8ceb155d0266553e2dbd0ab6ecbc", func := "vivarium/vivariumlaw21.AllocOrders", spec := "allocOrders", apart := false, narrowed := true }
def AllocOrdersUptoSaid : Prop := allocOrdersUptoRow.holds Try.pinned (OpenSpec.upto allocOrdersSpec)

end Rows
end Go.Proofs.Ytohlcopnifmjoae
