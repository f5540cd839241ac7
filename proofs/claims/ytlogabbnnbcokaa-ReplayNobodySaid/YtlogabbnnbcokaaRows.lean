/-
  No cell of these rows narrows 'for every input' (looked for: loops, veiled, ifaces, maps, wideKeys, modest, calm, conditions, laid).
  DERIVED. THE GIVEN ROWS OF THIS SEAT. 2 by the template 'for every input the law returns true; each argument reads behind the call as it read before'; 0 by the template 'total and deterministic' (their statements: YtlogabbnnbcokaaTotals.lean).
  GIVEN WITH THE SEED: the statements are not yours to turn. If you find one false, say at which input.
  Laid BY PROGRAM, IN A SANDBOX (cutbox-rows.mjs): the forced cells as the released guide's own fill.sh prints them over the translation 856ca12fede9c0a9… (all of the seat's roots in one cut). By AI agents, Wed Nov 11 2026. No macro, syntax, notation, axiom, sorry.
-/
import Derived.Test.YtlogabbnnbcokaaChecked
import GoSem.Claim
import GoSem.ClaimJoined
import GoSem.ClaimMapViews
import Derived.JoinedTies
import Derived.KernelRfl
namespace Go.Proofs.Ytlogabbnnbcokaa
/- THE CELL 'sum', in the pinned program and in every row, IS THE sha256 OF THE DUMP (.gsa) THAT YtlogabbnnbcokaaProg.lean LOADS. Nothing in Lean hashes anything: it is a label: what it is worth is what the hold of that sum in a sandbox is worth. -/
noncomputable def Try.pinned : Pinned := { name := "ytlogabbnnbcokaa", sum := "856ca12fede9c0a9692e7c2a99373270d960238cccd2cd7798d8aa5973b977f3", checked := Try.checked }
namespace Rows
def none {H : Type} : Left H := { results := [], args := [] }

/-- 'scantlinglaw51.ReplayDoes': WHATEVER THE INPUT: true; the input reads as it did. -/
def replayDoesSpec : ChangeSpec := { name := "replayDoes", fn := fun _ => fun
  | [d1, d2, d3, d4, d5] => { results := [.lit (.bool true)], args := [d1, d2, d3, d4, d5] }
  | _ => none }
def replayDoesRow : OpenClaim := { program := "ytlogabbnnbcokaa", sum := "856ca12fede9c0a9692e7c2a99373270d960238cccd2cd7798d8aa5973b977f3", func := "scantling/scantlinglaw51.ReplayDoes", spec := "replayDoes", unfollowed := true, recurses := true, apart := false }
def ReplayDoesSaid : Prop := replayDoesRow.holds Try.pinned (OpenSpec.ofChange replayDoesSpec)

/-- ITS FALSE NEIGHBOUR: 'it returns false'. Refute it at one input. -/
def replayDoesWrong : ChangeSpec := { name := "replayDoes", fn := fun _ => fun
  | [d1, d2, d3, d4, d5] => { results := [.lit (.bool false)], args := [d1, d2, d3, d4, d5] }
  | _ => none }
def ReplayDoesWrongFalsely : Prop := replayDoesRow.holds Try.pinned (OpenSpec.ofChange replayDoesWrong)

/-- 'scantlinglaw51.ReplayNobody': WHATEVER THE INPUT: true; the input reads as it did. -/
def replayNobodySpec : ChangeSpec := { name := "replayNobody", fn := fun _ => fun
  | [d1, d2, d3] => { results := [.lit (.bool true)], args := [d1, d2, d3] }
  | _ => none }
def replayNobodyRow : OpenClaim := { program := "ytlogabbnnbcokaa", sum := "856ca12fede9c0a9692e7c2a99373270d960238cccd2cd7798d8aa5973b977f3", func := "scantling/scantlinglaw51.ReplayNobody", spec := "replayNobody", unfollowed := true, recurses := true, apart := false }
def ReplayNobodySaid : Prop := replayNobodyRow.holds Try.pinned (OpenSpec.ofChange replayNobodySpec)

/-- ITS FALSE NEIGHBOUR: 'it returns false'. Refute it at one input. -/
def replayNobodyWrong : ChangeSpec := { name := "replayNobody", fn := fun _ => fun
  | [d1, d2, d3] => { results := [.lit (.bool false)], args := [d1, d2, d3] }
  | _ => none }
def ReplayNobodyWrongFalsely : Prop := replayNobodyRow.holds Try.pinned (OpenSpec.ofChange replayNobodyWrong)

/- THE SECOND FORM. 'bulk': how many values and letters a reading holds, each counted each time it is reached (what is shared counts as often as it is met; a slice's spare places count too). A statement '..UptoSaid' is the law's where the arguments, and the package variables that the reading takes, are together of bulk at most 1048576: NARROWER than '..Said'. Prove '..Said' where nothing that the law and all that it calls make is longer than what came in: it says more and counts as full. Else prove '..UptoSaid'. A law counts once. -/
mutual
def uptoBulk {H : Type} : DataW H → Nat
  | .lit (.string bytes) => bytes.length + 1
  | .lit _ => 1
  | .nil => 1
  | .ptr d => uptoBulk d + 1
  | .slice elems spare => uptoBulkAll elems + uptoBulkAll spare + 1
  | .agg parts => uptoBulkAll parts + 1
  | .iface _ d => uptoBulk d + 1
  | .map entries => uptoBulkEntries entries + 1
  | .held _ => 1
def uptoBulkAll {H : Type} : List (DataW H) → Nat
  | [] => 0
  | d :: r => uptoBulk d + uptoBulkAll r
def uptoBulkEntries {H : Type} : List (Lit × DataW H) → Nat
  | [] => 0
  | x :: r => uptoBulkEntry x + uptoBulkEntries r
def uptoBulkEntry {H : Type} : Lit × DataW H → Nat
  | (.string bytes, d) => bytes.length + uptoBulk d + 1
  | (_, d) => uptoBulk d + 1
 end
def uptoSmall : (H : Type) → List (DataW H) → Bool := fun _ ds => decide (uptoBulkAll ds ≤ 1048576)
def OpenSpec.upto (s : _root_.Go.ChangeSpec) : _root_.Go.OpenSpec := { _root_.Go.OpenSpec.ofChange s with cond := some uptoSmall }

/-- 'scantlinglaw51.ReplayDoes', WHERE WHAT IT READS IS OF BULK AT MOST 1048576: true; the input reads as it did. -/
def replayDoesUptoRow : OpenClaim := { program := "ytlogabbnnbcokaa", sum := "856ca12fede9c0a9692e7c2a99373270d960238cccd2cd7798d8aa5973b977f3", func := "scantling/scantlinglaw51.ReplayDoes", spec := "replayDoes", unfollowed := true, recurses := true, apart := false, narrowed := true }
def ReplayDoesUptoSaid : Prop := replayDoesUptoRow.holds Try.pinned (OpenSpec.upto replayDoesSpec)

/-- 'scantlinglaw51.ReplayNobody', WHERE WHAT IT READS IS OF BULK AT MOST 1048576: true; the input reads as it did. -/
def replayNobodyUptoRow : OpenClaim := { program := "ytlogabbnnbcokaa", sum := "856ca12fede9c0a9692e7c2a99373270d960238cccd2cd7798d8aa5973b977f3", func := "scantling/scantlinglaw51.ReplayNobody", spec := "replayNobody", unfollowed := true, recurses := true, apart := false, narrowed := true }
def ReplayNobodyUptoSaid : Prop := replayNobodyUptoRow.holds Try.pinned (OpenSpec.upto replayNobodySpec)

end Rows
end Go.Proofs.Ytlogabbnnbcokaa
