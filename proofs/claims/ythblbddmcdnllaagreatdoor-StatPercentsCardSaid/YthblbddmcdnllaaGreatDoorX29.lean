/- A part of the proof: VisitP, RScanP, RWalkM. -/
import Derived.Test.YthblbddmcdnllaaGreatDoorX19
import Derived.Test.YthblbddmcdnllaaGreatDoorX7
import Derived.Test.YthblbddmcdnllaaGreatDoorX15
import Derived.Test.YthblbddmcdnllaaGreatDoorX2
import Derived.Test.YthblbddmcdnllaaGreatDoorY1
set_option maxHeartbeats 6400000
set_option linter.unusedVariables false
set_option linter.unusedSimpArgs false
namespace Go.Proofs.YthblbddmcdnllaaGreatDoor
section
open Go.RowKit
def Ov (st:WS):Nat:=st.BA.length+st.Ag.length+st.Aa.length
def Bd (fuel k:Int) (st st':WS):Prop:=st.looked≤st'.looked∧(st.looked≤fuel→st'.looked≤fuel)∧(Ov st':Int)≤Ov st+64*(st'.looked-st.looked)+k
theorem Bd.trans {fuel k j:Int} {a b c:WS} (h:Bd fuel k a b) (h2:Bd fuel j b c):Bd fuel (k+j) a c :=
 ⟨Int.le_trans h.1 h2.1,fun e=>h2.2.1 (h.2.1 e),by have:=h.2.2;have:=h2.2.2;omega⟩
theorem Bd.mono {fuel k j:Int} {a b:WS} (h:Bd fuel k a b) (hj:k≤j):Bd fuel j a b:=⟨h.1,h.2.1,by have:=h.2.2;omega⟩
theorem Vx (fuel:Int) (st:WS) (f:Tt):Bd fuel 1 st (Ay st f):=⟨Int.le_refl _,fun h=>h,by simp [Ov,Ay];omega⟩
theorem TG (fuel:Int) (f:Int→Int × Int→WS→WS) (hf:∀ i s st,Bd fuel 1 st (f i s st)) (way:List Int) (no:Int):∀ (l:List ((Int × Int) × List UInt8)) (st:WS),Bd fuel l.length st (EK f way no l st)
 | [],st=>⟨Int.le_refl _,fun h=>h,by simp [EK]⟩
 | (x,v) :: r,st=>by
  have h1:Bd fuel 1 st (if (Au v).2≠0 then Ay st ⟨way++[no],(Au v).2⟩ else f (Au v).1 x st):=by
   split
   · exact Vx _ _ _
   · exact hf _ _ _
  unfold EK
  by_cases h:(if (Au v).2≠0 then Ay st ⟨way++[no],(Au v).2⟩ else f (Au v).1 x st).UB=true
  · rw [if_pos h]
    exact h1.mono (by simp;omega)
  · rw [if_neg h]
    exact (h1.trans (TG fuel f hf way no r _)).mono (by simp;omega)
theorem LJ {bs:List UInt8} {tree deep:Int} {way:List Int} {no lo hi:Int} (h:Di bs tree deep way no lo hi=0):Al bs no tree=0∧way.length<16∧(nodeAt bs no).keys.all (Bg lo hi)=true:=by
 unfold Di at h
 by_cases h1:no∈way
 · rw [if_pos h1] at h;cases h
 rw [if_neg h1] at h
 by_cases h2:16≤way.length
 · rw [if_pos h2] at h;cases h
 rw [if_neg h2] at h
 by_cases h3:Al bs no tree≠0
 · rw [if_pos h3] at h;exact absurd h h3
 rw [if_neg h3] at h
 by_cases h4:(nodeAt bs no).keys.all (Bg lo hi)=false
 · rw [if_pos h4] at h;cases h
 exact ⟨Decidable.not_not.1 h3,by omega,by simpa using h4⟩
theorem PM (bs:List UInt8) (tree fuel:Int):∀ (d:Nat) (way:List Int) (no:Int) (s:Int × Int) (st:WS),Bd fuel 1 st (BR bs tree fuel d way no s st)
 | 0,_,_,_,st=>⟨Int.le_refl _,fun h=>h,by simp [BR];omega⟩
 | d+1,way,no,s,st=>by
  unfold BR
  by_cases h1:fuel≤st.looked
  · rw [if_pos h1]
    exact ⟨Int.le_refl _,fun h=>h,by simp [Ov,Ay];omega⟩
  rw [if_neg h1]
  by_cases h2:Di bs tree st.deep way no s.1 s.2≠0
  · rw [if_pos h2]
    exact ⟨by simp [Ay];omega,fun _=>by simp [Ay];omega,by simp [Ov,Ay];omega⟩
  rw [if_neg h2]
  obtain ⟨hn,_,_⟩:=LJ (Decidable.not_not.1 h2)
  obtain ⟨hf,hl⟩:=LH (F3 hn)
  have hf:(nodeAt bs no).keys.length≤18:=hf
  have hl:(nodeAt bs no).keys.length=(nodeAt bs no).vals.length:=hl
  by_cases h3:(nodeAt bs no).leaf=true
  · rw [if_pos h3]
    refine ⟨by simp;omega,fun _=>by simp;omega,?_⟩
    have:(Bh (nodeAt bs no) no).length≤18:=by simp [Bh];omega
    simp [Ov]
    omega
  · rw [if_neg h3]
    have hk:=TG fuel (BR bs tree fuel d (way++[no])) (PM bs tree fuel d (way++[no])) way no ((spansOf s.2 (nodeAt bs no).keys).zip (nodeAt bs no).vals) { st with looked:=st.looked+1,Aa:=st.Aa++[no] }
    have hz:(((spansOf s.2 (nodeAt bs no).keys).zip (nodeAt bs no).vals).length:Int)≤18:=by rw [List.length_zip,Ei];omega
    obtain ⟨k1,k2,k3⟩:=hk
    refine ⟨by simp at k1;omega,fun _=>k2 (by simp;omega),?_⟩
    have hw:(Ov { st with looked:=st.looked+1,Aa:=st.Aa++[no] }:Int)=Ov st+1:=by simp [Ov];omega
    rw [hw] at k3
    dsimp only at k3
    omega
end
section
open Go.RowKit
structure yw where
 no:Int
 lo:Int
 hi:Int
 way:List Int
 fault:Int
end
section
open Go.RowKit
section
variable {w w':World} {base g:Nat} {st st':WS} {Ae Ab Af Ae' Ab' Af':Option Addr} {ce cb cf ce' cb' cf':Nat} {xs xs':List Value}
end
end
end Go.Proofs.YthblbddmcdnllaaGreatDoor
