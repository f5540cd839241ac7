/-
  No cell of these rows narrows 'for every input' (looked for: loops, veiled, ifaces, maps, wideKeys, modest, calm, conditions, laid).
  DERIVED. THE GIVEN ROWS OF THIS SEAT. 2 by the template 'for every input the law returns true; each argument reads behind the call as it read before'; 0 by the template 'total and deterministic' (their statements: YtnemfponbadcjaaTotals.lean).
  GIVEN WITH THE SEED: the statements are not yours to turn. If you find one false, say at which input.
  Laid BY PROGRAM, IN A SANDBOX (cutbox-rows.mjs): the forced cells as the released guide's own fill.sh prints them over the translation f8879062e66f1975… (all of the seat's roots in one cut). By AI agents, Wed Nov 11 2026. No macro, syntax, notation, axiom, sorry.
-/
import Derived.Test.YtnemfponbadcjaaChecked
import GoSem.Claim
import GoSem.ClaimJoined
import GoSem.ClaimMapViews
import Derived.JoinedTies
import Derived.KernelRfl
namespace Go.Proofs.Ytnemfponbadcjaa
/- THE CELL 'sum', in the pinned program and in every row, IS THE sha256 OF THE DUMP (.gsa) THAT YtnemfponbadcjaaProg.lean LOADS. Nothing in Lean hashes anything: it is a label: what it is worth is what the hold of that sum in a sandbox is worth. -/
noncomputable def Try.pinned : Pinned := { name := "ytnemfponbadcjaa", sum := "f8879062e66f1975cf3128495e88827d54d1817d8e0275addaec8f2eb36b8fd7", checked := Try.checked }
namespace Rows
def none {H : Type} : Left H := { results := [], args := [] }

/-- 'scantlinglaw38.ViewReverses': WHATEVER THE INPUT: true; the input reads as it did. -/
def viewReversesSpec : ChangeSpec := { name := "viewReverses", fn := fun _ => fun
  | [d1, d2, d3] => { results := [.lit (.bool true)], args := [d1, d2, d3] }
  | _ => none }
def viewReversesRow : OpenClaim := { program := "ytnemfponbadcjaa", sum := "f8879062e66f1975cf3128495e88827d54d1817d8e0275addaec8f2eb36b8fd7", func := "scantling/scantlinglaw38.ViewReverses", spec := "viewReverses", unfollowed := true, recurses := true, apart := false }
def ViewReversesSaid : Prop := viewReversesRow.holds Try.pinned (OpenSpec.ofChange viewReversesSpec)

/-- ITS FALSE NEIGHBOUR: 'it returns false'. Refute it at one input. -/
def viewReversesWrong : ChangeSpec := { name := "viewReverses", fn := fun _ => fun
  | [d1, d2, d3] => { results := [.lit (.bool false)], args := [d1, d2, d3] }
  | _ => none }
def ViewReversesWrongFalsely : Prop := viewReversesRow.holds Try.pinned (OpenSpec.ofChange viewReversesWrong)

/-- 'scantlinglaw38.ViewAdds': WHATEVER THE INPUT: true; the input reads as it did. -/
def viewAddsSpec : ChangeSpec := { name := "viewAdds", fn := fun _ => fun
  | [d1, d2] => { results := [.lit (.bool true)], args := [d1, d2] }
  | _ => none }
def viewAddsRow : OpenClaim := { program := "ytnemfponbadcjaa", sum := "f8879062e66f1975cf3128495e88827d54d1817d8e0275addaec8f2eb36b8fd7", func := "scantling/scantlinglaw38.ViewAdds", spec := "viewAdds", unfollowed := true, recurses := true, apart := false }
def ViewAddsSaid : Prop := viewAddsRow.holds Try.pinned (OpenSpec.ofChange viewAddsSpec)

/-- ITS FALSE NEIGHBOUR: 'it returns false'. Refute it at one input. -/
def viewAddsWrong : ChangeSpec := { name := "viewAdds", fn := fun _ => fun
  | [d1, d2] => { results := [.lit (.bool false)], args := [d1, d2] }
  | _ => none }
def ViewAddsWrongFalsely : Prop := viewAddsRow.holds Try.pinned (OpenSpec.ofChange viewAddsWrong)

/- THE SECOND FORM. 'bulk': how many values and letters a reading holds, each counted each time it is reached (what is shared counts as often as it is met; a slice's spare places count too). A statement '..UptoSaid' is the law's where the arguments, and the package variables that the reading takes, are together of bulk at most 1048576: NARROWER than '..Said'. Prove '..Said' where nothing that the law and all that it calls make is longer than what came in: it says more and counts as full. Else prove '..UptoSaid'. A law counts once. -/
mutual
def uptoBulk {H : Type} : DataW H → Nat
  | .lit (.string bytes) => bytes.length + 1
  | .lit _ => 1
  | .nil => 1
  | .ptr d => uptoBulk d + 1
  | .slice elems spare => uptoBulkAll elems + uptoBulkAll spare + 1
  | .agg parts => uptoBulkAll parts + 1
  | .iface _ d => uptoBulk d + 1
  | .map entries => uptoBulkEntries entries + 1
  | .held _ => 1
def uptoBulkAll {H : Type} : List (DataW H) → Nat
  | [] => 0
  | d :: r => uptoBulk d + uptoBulkAll r
def uptoBulkEntries {H : Type} : List (Lit × DataW H) → Nat
  | [] => 0
  | x :: r => uptoBulkEntry x + uptoBulkEntries r
def uptoBulkEntry {H : Type} : Lit × DataW H → Nat
  | (.string bytes, d) => bytes.length + uptoBulk d + 1
  | (_, d) => uptoBulk d + 1
 end
def uptoSmall : (H : Type) → List (DataW H) → Bool := fun _ ds => decide (uptoBulkAll ds ≤ 1048576)
def OpenSpec.upto (s : _root_.Go.ChangeSpec) : _root_.Go.OpenSpec := { _root_.Go.OpenSpec.ofChange s with cond := some uptoSmall }

/-- 'scantlinglaw38.ViewReverses', WHERE WHAT IT READS IS OF BULK AT MOST 1048576: true; the input reads as it did. -/
def viewReversesUptoRow : OpenClaim := { program := "ytnemfponbadcjaa", sum := "f8879062e66f1975cf3128495e88827d54d1817d8e0275addaec8f2eb36b8fd7", func := "scantling/scantlinglaw38.ViewReverses", spec := "viewReverses", unfollowed := true, recurses := true, apart := false, narrowed := true }
def ViewReversesUptoSaid : Prop := viewReversesUptoRow.holds Try.pinned (OpenSpec.upto viewReversesSpec)

/-- 'scantlinglaw38.ViewAdds', WHERE WHAT IT READS IS OF BULK AT MOST 1048576: true; the input reads as it did. -/
def viewAddsUptoRow : OpenClaim := { program := "ytnemfponbadcjaa", sum := "f8879062e66f1975cf3128495e88827d54d1817d8e0275addaec8f2eb36b8fd7", func := "scantling/scantlinglaw38.ViewAdds", spec := "viewAdds", unfollowed := true, recurses := true, apart := false, narrowed := true }
def ViewAddsUptoSaid : Prop := viewAddsUptoRow.holds Try.pinned (OpenSpec.upto viewAddsSpec)

end Rows
end Go.Proofs.Ytnemfponbadcjaa
