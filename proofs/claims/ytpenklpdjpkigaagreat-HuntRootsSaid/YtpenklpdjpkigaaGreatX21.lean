/- A part of the proof: WLoad5. -/
import Derived.Test.YtpenklpdjpkigaaGreatX12
import Derived.Test.YtpenklpdjpkigaaGreatX19
import Derived.Deep.Cut
import Derived.Deep.DeepCutAuto
import Derived.Test.YtpenklpdjpkigaaGreatY1
set_option maxHeartbeats 6400000
set_option linter.unusedVariables false
set_option linter.unusedSimpArgs false
namespace Go.Proofs.YtpenklpdjpkigaaGreat
section
open Go.RowKit Go.Shelf
def yM (g f b:Nat):Prop:=b=g∨b=f
end
end Go.Proofs.YtpenklpdjpkigaaGreat
