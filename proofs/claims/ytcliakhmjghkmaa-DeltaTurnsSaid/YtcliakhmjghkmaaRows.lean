/-
  No cell of these rows narrows 'for every input' (looked for: loops, veiled, ifaces, maps, wideKeys, modest, calm, conditions, laid).
  DERIVED. THE GIVEN ROWS OF THIS SEAT. 2 by the template 'for every input the law returns true; each argument reads behind the call as it read before'; 0 by the template 'total and deterministic' (their statements: YtcliakhmjghkmaaTotals.lean).
  GIVEN WITH THE SEED: the statements are not yours to turn. If you find one false, say at which input.
  Laid BY PROGRAM, IN A SANDBOX (cutbox-rows.mjs): the forced cells as the released guide's own fill.sh prints them over the translation 37adc9d60f41404e… (all of the seat's roots in one cut). By AI agents, Wed Nov 11 2026. No macro, syntax, notation, axiom, sorry.
-/
import Derived.Test.YtcliakhmjghkmaaChecked
import GoSem.Claim
import GoSem.ClaimJoined
import GoSem.ClaimMapViews
import Derived.JoinedTies
import Derived.KernelRfl
namespace Go.Proofs.Ytcliakhmjghkmaa
/- THE CELL 'sum', in the pinned program and in every row, IS THE sha256 OF THE DUMP (.gsa) THAT YtcliakhmjghkmaaProg.lean LOADS. Nothing in Lean hashes anything: it is a label: what it is worth is what the hold of that sum in a sandbox is worth. -/
noncomputable def Try.pinned : Pinned := { name := "ytcliakhmjghkmaa", sum := "37adc9d60f41404e97aef5d2f43ceb7884d755f11acfea7bd5440ce2bb7f31d6", checked := Try.checked }
namespace Rows
def none {H : Type} : Left H := { results := [], args := [] }

/-- 'scantlinglaw39.DeltaMaps': WHATEVER THE INPUT: true; the input reads as it did. -/
def deltaMapsSpec : ChangeSpec := { name := "deltaMaps", fn := fun _ => fun
  | [d1, d2] => { results := [.lit (.bool true)], args := [d1, d2] }
  | _ => none }
def deltaMapsRow : OpenClaim := { program := "ytcliakhmjghkmaa", sum := "37adc9d60f41404e97aef5d2f43ceb7884d755f11acfea7bd5440ce2bb7f31d6", func := "scantling/scantlinglaw39.DeltaMaps", spec := "deltaMaps", unfollowed := true, recurses := true, apart := false }
def DeltaMapsSaid : Prop := deltaMapsRow.holds Try.pinned (OpenSpec.ofChange deltaMapsSpec)

/-- ITS FALSE NEIGHBOUR: 'it returns false'. Refute it at one input. -/
def deltaMapsWrong : ChangeSpec := { name := "deltaMaps", fn := fun _ => fun
  | [d1, d2] => { results := [.lit (.bool false)], args := [d1, d2] }
  | _ => none }
def DeltaMapsWrongFalsely : Prop := deltaMapsRow.holds Try.pinned (OpenSpec.ofChange deltaMapsWrong)

/-- 'scantlinglaw39.DeltaTurns': WHATEVER THE INPUT: true; the input reads as it did. -/
def deltaTurnsSpec : ChangeSpec := { name := "deltaTurns", fn := fun _ => fun
  | [d1, d2] => { results := [.lit (.bool true)], args := [d1, d2] }
  | _ => none }
def deltaTurnsRow : OpenClaim := { program := "ytcliakhmjghkmaa", sum := "37adc9d60f41404e97aef5d2f43ceb7884d755f11acfea7bd5440ce2bb7f31d6", func := "scantling/scantlinglaw39.DeltaTurns", spec := "deltaTurns", unfollowed := true, recurses := true, apart := false }
def DeltaTurnsSaid : Prop := deltaTurnsRow.holds Try.pinned (OpenSpec.ofChange deltaTurnsSpec)

/-- ITS FALSE NEIGHBOUR: 'it returns false'. Refute it at one input. -/
def deltaTurnsWrong : ChangeSpec := { name := "deltaTurns", fn := fun _ => fun
  | [d1, d2] => { results := [.lit (.bool false)], args := [d1, d2] }
  | _ => none }
def DeltaTurnsWrongFalsely : Prop := deltaTurnsRow.holds Try.pinned (OpenSpec.ofChange deltaTurnsWrong)

/- THE SECOND FORM. 'bulk': how many values and letters a reading holds, each counted each time it is reached (what is shared counts as often as it is met; a slice's spare places count too). A statement '..UptoSaid' is the law's where the arguments, and the package variables that the reading takes, are together of bulk at most 1048576: NARROWER than '..Said'. Prove '..Said' where nothing that the law and all that it calls make is longer than what came in: it says more and counts as full. Else prove '..UptoSaid'. A law counts once. -/
mutual
def uptoBulk {H : Type} : DataW H → Nat
  | .lit (.string bytes) => bytes.length + 1
  | .lit _ => 1
  | .nil => 1
  | .ptr d => uptoBulk d + 1
  | .slice elems spare => uptoBulkAll elems + uptoBulkAll spare + 1
  | .agg parts => uptoBulkAll parts + 1
  | .iface _ d => uptoBulk d + 1
  | .map entries => uptoBulkEntries entries + 1
  | .held _ => 1
def uptoBulkAll {H : Type} : List (DataW H) → Nat
  | [] => 0
  | d :: r => uptoBulk d + uptoBulkAll r
def uptoBulkEntries {H : Type} : List (Lit × DataW H) → Nat
  | [] => 0
  | x :: r => uptoBulkEntry x + uptoBulkEntries r
def uptoBulkEntry {H : Type} : Lit × DataW H → Nat
  | (.string bytes, d) => bytes.length + uptoBulk d + 1
  | (_, d) => uptoBulk d + 1
 end
def uptoSmall : (H : Type) → List (DataW H) → Bool := fun _ ds => decide (uptoBulkAll ds ≤ 1048576)
def OpenSpec.upto (s : _root_.Go.ChangeSpec) : _root_.Go.OpenSpec := { _root_.Go.OpenSpec.ofChange s with cond := some uptoSmall }

/-- 'scantlinglaw39.DeltaMaps', WHERE WHAT IT READS IS OF BULK AT MOST 1048576: true; the input reads as it did. -/
def deltaMapsUptoRow : OpenClaim := { program := "ytcliakhmjghkmaa", sum := "37adc9d60f41404e97aef5d2f43ceb7884d755f11acfea7bd5440ce2bb7f31d6", func := "scantling/scantlinglaw39.DeltaMaps", spec := "deltaMaps", unfollowed := true, recurses := true, apart := false, narrowed := true }
def DeltaMapsUptoSaid : Prop := deltaMapsUptoRow.holds Try.pinned (OpenSpec.upto deltaMapsSpec)

/-- 'scantlinglaw39.DeltaTurns', WHERE WHAT IT READS IS OF BULK AT MOST 1048576: true; the input reads as it did. -/
def deltaTurnsUptoRow : OpenClaim := { program := "ytcliakhmjghkmaa", sum := "37adc9d60f41404e97aef5d2f43ceb7884d755f11acfea7bd5440ce2bb7f31d6", func := "scantling/scantlinglaw39.DeltaTurns", spec := "deltaTurns", unfollowed := true, recurses := true, apart := false, narrowed := true }
def DeltaTurnsUptoSaid : Prop := deltaTurnsUptoRow.holds Try.pinned (OpenSpec.upto deltaTurnsSpec)

end Rows
end Go.Proofs.Ytcliakhmjghkmaa
