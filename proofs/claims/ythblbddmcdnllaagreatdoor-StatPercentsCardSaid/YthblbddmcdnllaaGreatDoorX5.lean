/- A part of the proof: Errs, SpanP, SealP. -/
import Derived.Test.YthblbddmcdnllaaGreatDoorX3
import Derived.Test.YthblbddmcdnllaaGreatDoorX2
import Derived.Test.YthblbddmcdnllaaGreatDoorY1
set_option maxHeartbeats 6400000
set_option linter.unusedVariables false
set_option linter.unusedSimpArgs false
namespace Go.Proofs.YthblbddmcdnllaaGreatDoor
section
open Go.RowKit
structure Tt where
 blocks:List Int
 code:Int
def Cu (w:World) (S:Nat→Prop):Value→List Int→Int→Prop
 | v,[],c=>v=.iface 44 (.int .i64 c)
 | v,b :: bs,c=>∃ a u,v=.iface 184 (.pointer (some ⟨a,0,none⟩))∧S a∧w.cell? ⟨a,0,none⟩=some (.int .i64 b)∧w.cell? ⟨a,1,none⟩=some u∧Cu w S u bs c
def Bf (w:World) (S:Nat→Prop) (v:Value) (f:Tt):Prop:=if f.code=0 then v=.nilIface else Cu w S v f.blocks f.code
section
variable {w w':World} {S S':Nat→Prop} {v:Value} {c:Int} {f:Tt}
theorem Cu.keep:∀ {bs:List Int} {v:Value},Cu w S v bs c→(∀ b,S b→S' b)→CU S w w'→Cu w' S' v bs c
 | [],_,h,_,_=>h
 | _ :: _,_,⟨a,u,e,hs,h1,h2,h3⟩,hs',hk=>⟨a,u,e,hs' a hs,(hk a 0 hs).trans h1,(hk a 1 hs).trans h2,Cu.keep h3 hs' hk⟩
theorem Bf.keep (h:Bf w S v f) (hs:∀ b,S b→S' b) (hk:CU S w w'):Bf w' S' v f:=by
 unfold Bf at *
 split
 · rwa [if_pos (by assumption)] at h
 · rw [if_neg (by assumption)] at h
   exact h.keep hs hk
theorem Bf.DW {bs:List Int}:Bf w S .nilIface ⟨bs,0⟩:=by unfold Bf;rw [if_pos rfl]
theorem Cu.form {bs:List Int} (h:Cu w S v bs c):∃ t u,v=.iface t u∧(t=44∨t=184):=by
 cases bs with
 | nil=>exact ⟨_,_,h,.inl rfl⟩
 | cons b bs=>obtain ⟨a,u,e,_⟩:=h;exact ⟨_,_,e,.inr rfl⟩
end
def FB (w:World) (base b:Nat):Prop:=base≤b∧∃ cs,w.heap[b]? = some (.cells cs 186 (0,0))
theorem FB.lt {w:World} {base b:Nat} (h:FB w base b):b<w.heap.size:=by obtain ⟨_,cs,h⟩:=h;exact (Array.getElem?_eq_some_iff.1 h).1
theorem Ec {w w':World} {base:Nat} (h:∀ (b:Nat) (cs:Array Value),w.heap[b]? = some (Obj.cells cs 186 (0,0))→w'.heap[b]? = w.heap[b]?):(∀ b,FB w base b→FB w' base b)∧CU (FB w base) w w' :=
 ⟨fun b ⟨h1,cs,h2⟩=>⟨h1,cs,(h b cs h2).trans h2⟩,fun b o ⟨_,cs,h2⟩=>World.cell?_of_block (a:=⟨b,o,none⟩) (h b cs h2)⟩
end
section
open Go.RowKit
def DN (lo hi:Int):Bool:=decide (0≤lo) && decide (lo≤hi) && decide (hi≤281474976710656)
def Bg (lo hi k:Int):Bool:=decide (lo≤k) && decide (k<hi)
def JG (ks:List Int) (n:Nat):Prop:=∀ i,i+1<n→nth 0 ks i<nth 0 ks (i+1)
def rises (ks:List Int):Bool:=(List.range (ks.length-1)).all fun i=>decide (nth 0 ks i<nth 0 ks (i+1))
theorem Fv (ks:List Int):rises ks=true↔JG ks ks.length:=by
 unfold rises JG
 rw [List.all_eq_true]
 constructor
 · intro h i hi
   have:=h i (List.mem_range.2 (by omega))
   simpa using this
 · intro h i hi
   have hi:=List.mem_range.1 hi
   simpa using h i (by omega)
theorem Vp {ks:List Int} {i:Nat} (h:i+1<ks.length) (hn:nth 0 ks (i+1)≤nth 0 ks i):rises ks=false:=by
 cases e:rises ks with
 | false=>rfl
 | true=>have:=(Fv ks).1 e i h;omega
def Eh (lo hi:Int) (ks:List Int):Int :=
 if DN lo hi=false then 1 else if rises ks=false then 8 else if 0<ks.length∧(Bg lo hi (nth 0 ks 0)=false∨Bg lo hi (nth 0 ks (ks.length-1))=false) then 9 else 0
def spansOf (hi:Int):List Int→List (Int × Int)
 | []=>[]
 | [k]=>[(k,hi)]
 | k :: k2 :: ks=>(k,k2) :: spansOf hi (k2 :: ks)
theorem Ei (hi:Int):∀ ks,(spansOf hi ks).length=ks.length
 | []=>rfl
 | [_]=>rfl
 | _ :: k2 :: ks=>by simp [spansOf,Ei hi (k2 :: ks)]
def FJ (hi:Int) (ks:List Int) (i:Nat):Int:=if i+1<ks.length then nth 0 ks (i+1) else hi
theorem Gy (hi:Int):∀ (ks:List Int) (i:Nat),i<ks.length→nth (0,0) (spansOf hi ks) i=(nth 0 ks i,FJ hi ks i)
 | [k],0,_=>rfl
 | k :: k2 :: ks,0,_=>by simp [spansOf,FJ,nth]
 | k :: k2 :: ks,i+1,h=>by
  have:=Gy hi (k2 :: ks) i (by simp at h ⊢;omega)
  rw [show spansOf hi (k :: k2 :: ks)=(k,k2) :: spansOf hi (k2 :: ks) from rfl,Dl,this,Dl]
  unfold FJ
  simp only [List.length_cons,Dl]
  split
  · rw [if_pos (by omega)]
  · rw [if_neg (by omega)]
end
section
open Go.RowKit
def Gl (kind:Int):Nat:=if kind=1 then 160774 else if kind=2 then 121107 else if kind=3 then 240779 else if kind=4 then 160478 else 0
def EU (kind no:Int):Prop:=1≤kind∧kind≤4∧0≤no∧no<14400
instance (kind no:Int):Decidable (EU kind no):=by unfold EU;infer_instance
def Fz (b:List UInt8) (kind:Int):Nat:=GK (b.take 252) ^^^ Gl kind
def DD (b:List UInt8) (kind no:Int):Int :=
 if ¬ EU kind no then 1
 else if b.length≠256 then 7
 else if AC b 252 4≠Fz b kind then 4
 else if (AC b 0 4:Int)≠no then 5
 else if (AC b 4 2:Int)≠kind then 6
 else if AC b 6 2≠0 then 7
 else 0
def FT (b:List UInt8):List UInt8:=BF b 8 244
theorem Dz {b:List UInt8} (h:b.length=256):(FT b).length=244:=Ej (by omega)
def Dn (kind no:Nat) (inn:List UInt8):List UInt8:=leB 4 no++leB 2 kind++[0,0]++inn++List.replicate (244-inn.length) 0
def BG (kind no:Nat) (inn:List UInt8):List UInt8:=Dn kind no inn++leB 4 (GK (Dn kind no inn) ^^^ Gl kind)
def Ah (tree:Int) (leaf:Bool):Nat :=
 if tree<1∨5<tree then 0 else if leaf=false then 4 else if tree=2 then 8 else if tree=3 then 24 else if tree=4 then 16 else 4
def BH (tree:Int) (leaf:Bool):Nat:=if Ah tree leaf=0 then 0 else 232 / (8+Ah tree leaf) / 3*3
structure Nd where
 tree:Int
 leaf:Bool
 keys:List Int
 vals:List (List UInt8)
def Cv (b:List UInt8) (i:Nat):Nat:=AC b (12+i*8) 8
def M0 (b:List UInt8) (most w i:Nat):List UInt8:=BF b (12+most*8+i*w) w
def G7 (b:List UInt8) (prev:Int) (i:Nat):Nat→Int
 | 0=>0
 | n+1=>if 281474976710655<Cv b i then 2 else if (Cv b i:Int)≤prev then 8 else G7 b (Cv b i) (i+1) n
def EW (b:List UInt8):Bool :=
 decide (b.length=244) && decide (AC b 0 1≤1) && decide (Ah (AC b 1 1) (decide (AC b 0 1=1))≠0) && decide (AC b 2 2≤BH (AC b 1 1) (decide (AC b 0 1=1))) &&
 decide (AC b 4 2=Ah (AC b 1 1) (decide (AC b 0 1=1))) && decide (AC b 6 2=BH (AC b 1 1) (decide (AC b 0 1=1))) && decide (AC b 8 4=0) && (decide (AC b 0 1=1) || decide (0<AC b 2 2))
def Ib (b:List UInt8):Bool :=
 EW b && DZ (BF b (12+AC b 2 2*8) (BH (AC b 1 1) (decide (AC b 0 1=1))*8-AC b 2 2*8)) && DZ (b.drop (12+BH (AC b 1 1) (decide (AC b 0 1=1))*8+AC b 2 2*Ah (AC b 1 1) (decide (AC b 0 1=1))))
def CK (b:List UInt8):Int:=if Ib b=false then 7 else G7 b (-1) 0 (AC b 2 2)
def EH (b:List UInt8):Nd :=
 let leaf:=decide (AC b 0 1=1)
 let tree:Int:=AC b 1 1
 ⟨tree,leaf,(List.range (AC b 2 2)).map (fun i=>(Cv b i:Int)),(List.range (AC b 2 2)).map (M0 b (BH tree leaf) (Ah tree leaf))⟩
def Au (s:List UInt8):Int × Int:=if s.length≠4 then (0,7) else if Gr s<1∨14399<Gr s then (0,2) else (Gr s,0)
end
end Go.Proofs.YthblbddmcdnllaaGreatDoor
