/- A part of the proof: WROpen, WRIn, WRNode11, WRLook. -/
import Derived.Test.YthblbddmcdnllaaGreatDoorX15
import Derived.Test.YthblbddmcdnllaaGreatDoorX9
import Derived.Test.YthblbddmcdnllaaGreatDoorX17
import Derived.Test.YthblbddmcdnllaaGreatDoorX8
import Derived.Test.YthblbddmcdnllaaGreatDoorX18
import Derived.Test.YthblbddmcdnllaaGreatDoorX19
import Derived.Lib.ConvBytes
import Derived.RegionTactic
import Derived.ChangeAlike
import Derived.Test.YthblbddmcdnllaaGreatDoorX6
import Derived.Test.YthblbddmcdnllaaGreatDoorX11
import Derived.Test.YthblbddmcdnllaaGreatDoorX29
import Derived.Test.YthblbddmcdnllaaGreatDoorY1
set_option maxHeartbeats 6400000
set_option linter.unusedVariables false
set_option linter.unusedSimpArgs false
namespace Go.Proofs.YthblbddmcdnllaaGreatDoor
section
open Go.RowKit
attribute [local go_sem] Oper.semAt_some
theorem Wm (kind:Int):Gl kind<4294967296:=by
 unfold Gl
 split
 · decide
 · split
   · decide
   · split
     · decide
     · split <;> decide
theorem TR (l:List UInt8) (kind:Int):Fz l kind<4294967296:=Nat.xor_lt_two_pow (n:=32) (Jy _) (Wm kind)
end
section
open Go.RowKit
attribute [local go_sem] Oper.semAt_some
end
section
open Go.RowKit
attribute [local go_sem] Oper.semAt_some
end
section
open Go.RowKit
attribute [local go_sem] Oper.semAt_some
end
end Go.Proofs.YthblbddmcdnllaaGreatDoor
