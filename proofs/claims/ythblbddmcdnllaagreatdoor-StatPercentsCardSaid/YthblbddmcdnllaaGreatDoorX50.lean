/- A part of the proof: WLives48, WPct2. -/
import Derived.Test.YthblbddmcdnllaaGreatDoorX47
import Derived.Test.YthblbddmcdnllaaGreatDoorX46
import Derived.Test.YthblbddmcdnllaaGreatDoorX49
import Derived.Test.YthblbddmcdnllaaGreatDoorX9
import Derived.Test.YthblbddmcdnllaaGreatDoorY1
set_option maxHeartbeats 6400000
set_option linter.unusedVariables false
set_option linter.unusedSimpArgs false
namespace Go.Proofs.YthblbddmcdnllaaGreatDoor
section
open Go.RowKit
set_option maxRecDepth 100000 in
theorem Zr (w:World):Calls Tryz.prog 4 #[] w fun e w'=>e=.returned (.bool true)∧Below w.heap.size w w':=by
 have Vh:=qh (gF w)
 rw [fV] at Vh
 unfold D7 at Vh
 have HST:Hid (∀ w' a,Am w' (fun b=>b<w'.heap.size) a Jm→Calls Tryz.prog 8 #[.pointer (some ⟨a,0,none⟩),.int .i64 9] w' fun e w''=>e=.returned (.tuple #[.agg (Gb 8 5 69),.nilIface])∧Below w'.heap.size w' w''):=fun w' a hi=>nN (fun b hb=>hb) hi Zp Xu
 unfold Gb at HST
 go_enter Tryz.func4,Tryz.ntmps4
 go_upto_region 4 with (go_at_call 7;(with_reducible refine Vh.out.mono ?_);rintro e w1 ⟨⟨img,rfl,ho⟩,hB⟩;have HO:=qh ho;have HB1:=qh hB;clear ho hB)
 rename World=>w1
 have jK:=qh (HST.out w1 img (HO.out.is (fun b _ hb=>hb)))
 clear Vh HST HO
 go_upto_region 5 with (go_at_call 8;(with_reducible refine jK.out.mono ?_);rintro e w2 ⟨rfl,hB⟩;have HB2:=qh hB;clear hB)
 have hb3:=AL.new w2 #[.int .i64 8,.int .i64 8,.int .i64 0,.int .i64 5,.int .i64 0,.int .i64 0,.int .i64 69,.int .i64 0,.int .i64 0,.int .i64 0,.int .i64 0,.int .i64 0,.int .i64 0] 34
 have hB3:Below w.heap.size w (w2.alloc (.cells #[.int .i64 8,.int .i64 8,.int .i64 0,.int .i64 5,.int .i64 0,.int .i64 0,.int .i64 69,.int .i64 0,.int .i64 0,.int .i64 0,.int .i64 0,.int .i64 0,.int .i64 0] 34)):=HB1.out.trans ((HB2.out.alloc HB2.out.size _).mono HB1.out.size)
 generalize w2.alloc (.cells #[.int .i64 8,.int .i64 8,.int .i64 0,.int .i64 5,.int .i64 0,.int .i64 0,.int .i64 69,.int .i64 0,.int .i64 0,.int .i64 0,.int .i64 0,.int .i64 0,.int .i64 0] 34)=w3 at *
 have s1:w3.cell? ⟨w2.heap.size,1,none⟩=some (.int .i64 8):=hb3.at 1 _ rfl
 have s3:w3.cell? ⟨w2.heap.size,3,none⟩=some (.int .i64 5):=hb3.at 3 _ rfl
 have s5:w3.cell? ⟨w2.heap.size,5,none⟩=some (.int .i64 0):=hb3.at 5 _ rfl
 have s6:w3.cell? ⟨w2.heap.size,6,none⟩=some (.int .i64 69):=hb3.at 6 _ rfl
 have HB3:=qh hB3
 clear hb3 hB3 jK HB2 HB1
 go_wp2_with fail
 refine bodyPost_ret (v:=.bool true) (by simp [results,Tryz.results4,go_sem]) rfl ⟨rfl,HB3.out⟩
end
section
open Go.RowKit
theorem KG (w:World) (n f:Int) (hn0 : -9223372036854775808≤n) (hf0 : -9223372036854775808≤f) :
 Calls Tryz.prog 3 #[.int .i64 n,.int .i64 f] w fun e w'=>e=.returned (.bool true)∧Below w.heap.size w w':=by
 have HL:=qh (fun w'=>Zr w')
 rcases Int.lt_or_le 1125899906842624 n with hn|hn
 · go_enter Tryz.func3,Tryz.ntmps3
   go_wp2_with (go_at_call 4;(with_reducible refine (HL.out _).mono ?_);rintro e w2 ⟨rfl,hB⟩)
   all_goals (go_ret;exact ⟨rfl,hB⟩)
 · rcases Int.lt_or_le 1125899906842624 f with hf|hf
   · go_enter Tryz.func3,Tryz.ntmps3
     go_wp2_with (go_at_call 4;(with_reducible refine (HL.out _).mono ?_);rintro e w2 ⟨rfl,hB⟩)
     all_goals (go_ret;exact ⟨rfl,hB⟩)
   · have HP:=qh (fun w'=>YR w' n f hn hf hn0 hf0)
     have HR:=qh (fun w'=>V5 w' n f hn hf hn0 hf0)
     have c1:¬ 1125899906842624<n:=by omega
     have c2:¬ 1125899906842624<f:=by omega
     go_enter Tryz.func3,Tryz.ntmps3
     generalize PW n f=p at *
     go_wp2_with (first
      | (go_at_call 5;(with_reducible refine (HP.out _).mono ?_);rintro e w2 ⟨rfl,hB⟩;have HB2:=qh hB;clear hB)
      | (go_at_call 6;(with_reducible refine (HR.out _).mono ?_);rintro e w3 ⟨rfl,hw⟩;rw [hw];clear hw w3)
      | (go_at_call 4;(with_reducible refine (HL.out _).mono ?_);rintro e w4 ⟨rfl,hB⟩;have EQ:=qh hB;clear hB))
     all_goals (go_ret;exact ⟨rfl,HB2.out.trans (EQ.out.mono HB2.out.size)⟩)
end
end Go.Proofs.YthblbddmcdnllaaGreatDoor
