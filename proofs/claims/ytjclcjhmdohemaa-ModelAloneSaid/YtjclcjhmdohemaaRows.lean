/-
  No cell of these rows narrows 'for every input' (looked for: loops, veiled, ifaces, maps, wideKeys, modest, calm, conditions, laid).
  DERIVED. THE GIVEN ROWS OF THIS SEAT. 3 by the template 'for every input the law returns true; each argument reads behind the call as it read before'; 0 by the template 'total and deterministic' (their statements: YtjclcjhmdohemaaTotals.lean).
  GIVEN WITH THE SEED: the statements are not yours to turn. If you find one false, say at which input.
  Laid BY PROGRAM, IN A SANDBOX (cutbox-rows.mjs): the forced cells as the released guide's own fill.sh prints them over the translation 655c63d0875017f2… (all of the seat's roots in one cut). By AI agents, Wed Nov 11 2026. No macro, syntax, notation, axiom, sorry.
-/
import Derived.Test.YtjclcjhmdohemaaChecked
import GoSem.Claim
import GoSem.ClaimJoined
import GoSem.ClaimMapViews
import Derived.JoinedTies
import Derived.KernelRfl
namespace Go.Proofs.Ytjclcjhmdohemaa
/- THE CELL 'sum', in the pinned program and in every row, IS THE sha256 OF THE DUMP (.gsa) THAT YtjclcjhmdohemaaProg.lean LOADS. Nothing in Lean hashes anything: it is a label: what it is worth is what the hold of that sum in a sandbox is worth. -/
noncomputable def Try.pinned : Pinned := { name := "ytjclcjhmdohemaa", sum := "655c63d0875017f284f7ecb92eb6082aaa44c6e608aa41f9d6ab548f908fad26", checked := Try.checked }
namespace Rows
def none {H : Type} : Left H := { results := [], args := [] }

/-- 'scantlinglaw49.ModelRight': WHATEVER THE INPUT: true; the input reads as it did. -/
def modelRightSpec : ChangeSpec := { name := "modelRight", fn := fun _ => fun
  | [d1, d2, d3] => { results := [.lit (.bool true)], args := [d1, d2, d3] }
  | _ => none }
def modelRightRow : OpenClaim := { program := "ytjclcjhmdohemaa", sum := "655c63d0875017f284f7ecb92eb6082aaa44c6e608aa41f9d6ab548f908fad26", func := "scantling/scantlinglaw49.ModelRight", spec := "modelRight", inPlace := ["slices.overlaps[scantling/api.Device]", "slices.overlaps[scantling/api.Map]"], unfollowed := true, recurses := true, apart := false }
def ModelRightSaid : Prop := modelRightRow.holds Try.pinned (OpenSpec.ofChange modelRightSpec)

/-- ITS FALSE NEIGHBOUR: 'it returns false'. Refute it at one input. -/
def modelRightWrong : ChangeSpec := { name := "modelRight", fn := fun _ => fun
  | [d1, d2, d3] => { results := [.lit (.bool false)], args := [d1, d2, d3] }
  | _ => none }
def ModelRightWrongFalsely : Prop := modelRightRow.holds Try.pinned (OpenSpec.ofChange modelRightWrong)

/-- 'scantlinglaw49.ModelAlone': WHATEVER THE INPUT: true; the input reads as it did. -/
def modelAloneSpec : ChangeSpec := { name := "modelAlone", fn := fun _ => fun
  | [d1, d2] => { results := [.lit (.bool true)], args := [d1, d2] }
  | _ => none }
def modelAloneRow : OpenClaim := { program := "ytjclcjhmdohemaa", sum := "655c63d0875017f284f7ecb92eb6082aaa44c6e608aa41f9d6ab548f908fad26", func := "scantling/scantlinglaw49.ModelAlone", spec := "modelAlone", inPlace := ["slices.overlaps[scantling/api.Device]", "slices.overlaps[scantling/api.Map]"], unfollowed := true, recurses := true, apart := false }
def ModelAloneSaid : Prop := modelAloneRow.holds Try.pinned (OpenSpec.ofChange modelAloneSpec)

/-- ITS FALSE NEIGHBOUR: 'it returns false'. Refute it at one input. -/
def modelAloneWrong : ChangeSpec := { name := "modelAlone", fn := fun _ => fun
  | [d1, d2] => { results := [.lit (.bool false)], args := [d1, d2] }
  | _ => none }
def ModelAloneWrongFalsely : Prop := modelAloneRow.holds Try.pinned (OpenSpec.ofChange modelAloneWrong)

/-- 'scantlinglaw49.ModelSnaps': WHATEVER THE INPUT: true; the input reads as it did. -/
def modelSnapsSpec : ChangeSpec := { name := "modelSnaps", fn := fun _ => fun
  | [d1, d2, d3] => { results := [.lit (.bool true)], args := [d1, d2, d3] }
  | _ => none }
def modelSnapsRow : OpenClaim := { program := "ytjclcjhmdohemaa", sum := "655c63d0875017f284f7ecb92eb6082aaa44c6e608aa41f9d6ab548f908fad26", func := "scantling/scantlinglaw49.ModelSnaps", spec := "modelSnaps", inPlace := ["slices.overlaps[scantling/api.Device]", "slices.overlaps[scantling/api.Map]"], unfollowed := true, recurses := true, apart := false }
def ModelSnapsSaid : Prop := modelSnapsRow.holds Try.pinned (OpenSpec.ofChange modelSnapsSpec)

/-- ITS FALSE NEIGHBOUR: 'it returns false'. Refute it at one input. -/
def modelSnapsWrong : ChangeSpec := { name := "modelSnaps", fn := fun _ => fun
  | [d1, d2, d3] => { results := [.lit (.bool false)], args := [d1, d2, d3] }
  | _ => none }
def ModelSnapsWrongFalsely : Prop := modelSnapsRow.holds Try.pinned (OpenSpec.ofChange modelSnapsWrong)

/- THE SECOND FORM. 'bulk': how many values and letters a reading holds, each counted each time it is reached (what is shared counts as often as it is met; a slice's spare places count too). A statement '..UptoSaid' is the law's where the arguments, and the package variables that the reading takes, are together of bulk at most 1048576: NARROWER than '..Said'. Prove '..Said' where nothing that the law and all that it calls make is longer than what came in: it says more and counts as full. Else prove '..UptoSaid'. A law counts once. -/
mutual
def uptoBulk {H : Type} : DataW H → Nat
  | .lit (.string bytes) => bytes.length + 1
  | .lit _ => 1
  | .nil => 1
  | .ptr d => uptoBulk d + 1
  | .slice elems spare => uptoBulkAll elems + uptoBulkAll spare + 1
  | .agg parts => uptoBulkAll parts + 1
  | .iface _ d => uptoBulk d + 1
  | .map entries => uptoBulkEntries entries + 1
  | .held _ => 1
def uptoBulkAll {H : Type} : List (DataW H) → Nat
  | [] => 0
  | d :: r => uptoBulk d + uptoBulkAll r
def uptoBulkEntries {H : Type} : List (Lit × DataW H) → Nat
  | [] => 0
  | x :: r => uptoBulkEntry x + uptoBulkEntries r
def uptoBulkEntry {H : Type} : Lit × DataW H → Nat
  | (.string bytes, d) => bytes.length + uptoBulk d + 1
  | (_, d) => uptoBulk d + 1
 end
def uptoSmall : (H : Type) → List (DataW H) → Bool := fun _ ds => decide (uptoBulkAll ds ≤ 1048576)
def OpenSpec.upto (s : _root_.Go.ChangeSpec) : _root_.Go.OpenSpec := { _root_.Go.OpenSpec.ofChange s with cond := some uptoSmall }

/-- 'scantlinglaw49.ModelRight', WHERE WHAT IT READS IS OF BULK AT MOST 1048576: true; the input reads as it did. -/
def modelRightUptoRow : OpenClaim := { program := "ytjclcjhmdohemaa", sum := "655c63d0875017f284f7ecb92eb6082aaa44c6e608aa41f9d6ab548f908fad26", func := "scantling/scantlinglaw49.ModelRight", spec := "modelRight", inPlace := ["slices.overlaps[scantling/api.Device]", "slices.overlaps[scantling/api.Map]"], unfollowed := true, recurses := true, apart := false, narrowed := true }
def ModelRightUptoSaid : Prop := modelRightUptoRow.holds Try.pinned (OpenSpec.upto modelRightSpec)

/-- 'scantlinglaw49.ModelAlone', WHERE WHAT IT READS IS OF BULK AT MOST 1048576: true; the input reads as it did. -/
def modelAloneUptoRow : OpenClaim := { program := "ytjclcjhmdohemaa", sum := "655c63d0875017f284f7ecb92eb6082aaa44c6e608aa41f9d6ab548f908fad26", func := "scantling/scantlinglaw49.ModelAlone", spec := "modelAlone", inPlace := ["slices.overlaps[scantling/api.Device]", "slices.overlaps[scantling/api.Map]"], unfollowed := true, recurses := true, apart := false, narrowed := true }
def ModelAloneUptoSaid : Prop := modelAloneUptoRow.holds Try.pinned (OpenSpec.upto modelAloneSpec)

/-- 'scantlinglaw49.ModelSnaps', WHERE WHAT IT READS IS OF BULK AT MOST 1048576: true; the input reads as it did. -/
def modelSnapsUptoRow : OpenClaim := { program := "ytjclcjhmdohemaa", sum := "655c63d0875017f284f7ecb92eb6082aaa44c6e608aa41f9d6ab548f908fad26", func := "scantling/scantlinglaw49.ModelSnaps", spec := "modelSnaps", inPlace := ["slices.overlaps[scantling/api.Device]", "slices.overlaps[scantling/api.Map]"], unfollowed := true, recurses := true, apart := false, narrowed := true }
def ModelSnapsUptoSaid : Prop := modelSnapsUptoRow.holds Try.pinned (OpenSpec.upto modelSnapsSpec)

end Rows
end Go.Proofs.Ytjclcjhmdohemaa
