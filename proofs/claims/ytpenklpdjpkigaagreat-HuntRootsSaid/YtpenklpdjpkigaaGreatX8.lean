/- A part of the proof: WIter, Tri. -/
import Derived.Test.YtpenklpdjpkigaaGreatProg
import Derived.Test.YtpenklpdjpkigaaGreatY1
import Derived.Deep.QuietTactic
import Derived.BigQuiet
import Derived.Outline
import Derived.RangeFuncNested
import Derived.RangeFuncBound
import Derived.RangeFuncCalls
import Derived.RangeFuncLeaves
import Derived.Shelf.Abstract
import Derived.Shelf.RegionOpen
import Derived.OwnWalkIn
import Derived.TacticsInMore
import Derived.LoopNIn
import Derived.LoopIn
import Derived.RangeFuncBox
set_option maxHeartbeats 6400000
set_option linter.unusedVariables false
set_option linter.unusedSimpArgs false
namespace Go.Proofs.YtpenklpdjpkigaaGreat
section
open Go.RowKit Go.Shelf
attribute [local go_sem] Oper.semAt_some
def DT:Nat→List Dev→List (Nat × Mp)
 | _,[]=>[]
 | i,d :: r=>d.maps.map (fun m=>(i,m))++DT (i+1) r
def pairs (l:List Dev):List (Nat × Mp):=DT 0 l
theorem JC:∀ (a b:List Dev) (i:Nat),DT i (a++b)=DT i a++DT (i+a.length) b:=by
 intro a
 induction a with
 | nil=>intro b i;simp [DT]
 | cons d a ih=>intro b i;simp only [List.cons_append,DT,ih,List.length_cons,List.append_assoc];rw [show i+1+a.length=i+(a.length+1) from by omega]
def upto (l:List Dev) (k j:Nat):List (Nat × Mp):=pairs (l.take k)++((nth CX l k).maps.take j).map fun m=>(k,m)
theorem ai (l:List Dev) (k:Nat):upto l k 0=pairs (l.take k):=by simp [upto]
theorem Rw {l:List Dev} {k j:Nat} (hj:j<(nth CX l k).maps.length):upto l k (j+1)=upto l k j++[(k,nth Q8 (nth CX l k).maps j)]:=by
 unfold upto
 rw [DV Q8 _ j hj,List.map_append,← List.append_assoc];rfl
theorem aj {l:List Dev} {k:Nat} (hk:k<l.length):upto l k (nth CX l k).maps.length=pairs (l.take (k+1)):=by
 unfold upto pairs
 rw [List.take_of_length_le (Nat.le_refl _),DV CX l k hk,JC]
 simp [DT,List.length_take,Nat.min_eq_left (Nat.le_of_lt hk)]
theorem VZ {l:List Dev} {k:Nat} (hk:k<l.length):pairs l=pairs (l.take k)++((nth CX l k).maps.map (fun m=>(k,m))++DT (k+1) (l.drop (k+1))):=by
 unfold pairs
 have:l=l.take k++(nth CX l k :: l.drop (k+1)):=by rw [← Eb CX l k hk,List.take_append_drop]
 conv=>lhs;rw [this]
 rw [JC]
 simp [DT,List.length_take,Nat.min_eq_left (Nat.le_of_lt hk)]
theorem Nf {l:List Dev} {k j:Nat} (hk:k<l.length):upto l k j <+: pairs l:=by
 rw [VZ hk]
 unfold upto
 refine (List.prefix_append_right_inj _).2 ?_
 refine List.IsPrefix.trans ?_ (List.prefix_append _ _)
 rw [List.map_take]
 exact List.take_prefix _ _
theorem nV {l:List Dev} {k j:Nat} (hk:k<l.length) (hj:j<(nth CX l k).maps.length):(upto l k j).length<(pairs l).length:=by
 have h:=(Nf (j:=j+1) hk).length_le
 rw [Rw hj] at h
 simp at h
 omega
def yI (S:Nat→Prop) (w w':World):Prop:=CS S w w'∧w.heap.size≤w'.heap.size
def nX (x:Nat × Mp):Array Value:=#[.int .i64 x.1,.agg #[.int .i64 x.2.v,.int .i64 x.2.b,.int .i64 x.2.t]]
set_option maxRecDepth 100000 in
theorem ak (F:Fence) (n:Nat) (hf:F.fn 186) (hro:F.round=none) (hn:1≤n) (l pb:Nat) (S:Nat→Prop) (A:Option Addr) (c:Nat) (ds:List Dev) (P:Nat × Mp→Prop) (hP:∀ x∈pairs ds,P x) (J Jx:List (Nat × Mp)→World→Prop)
 (hY:∀ pre x W,P x→J pre W→pre.length<(pairs ds).length→YieldAt F (n-1) Tryz.prog l (nX x) W fun e W' =>
  (e=.returned (.bool true)∧J (pre++[x]) W'∧yI S W W')∨(e=.returned (.bool false)∧Jx (pre++[x]) W'))
 (W:World) (hS:∀ b,S b→b<W.heap.size) (hnd:ds.length≤1099511627776) (hnm:∀ k,k<ds.length→(nth CX ds k).maps.length≤140737488355328)
 (hpb:W.cell? ⟨pb,4,none⟩=some (.slice A ds.length c)) (hr:SC W S A ds) (hJ:AbidesFrom W.heap.size J) (h0:J [] W) :
 CallsIn F n Tryz.prog 186 #[.func (.yield l) #[] #[],.pointer (some ⟨pb,0,none⟩)] W fun e W'=>(∃ v,e=.returned v) ∧
  ((∃ ys,ys=pairs ds∧J ys W')∨(∃ pre,pre <+: pairs ds∧Jx pre W')):=by
 have hJa:∀ s V o,J s V→J s (V.alloc o):=fun s V o h=>hJ s V _ none h (World.grownBy_alloc _ _ _) (fun r e=>by cases e)
 have HJA:=qh hJa
 have HY:=qh hY
 have HP:=qh hP
 clear hJa hY hP
 generalize hl0:ds.length=nd at *
 have hl:=qh hl0
 have HNM:=qh hnm
 clear hl0 hnm
 refine callsIn_of_wp Tryz.func186 rfl hf ?_ hro
 simp only [Tryz.ntmps186,List.size_toArray,List.length_cons,List.length_nil,Nat.reduceAdd,Nat.reduceSub,Array.replicate_succ,Array.replicate_zero,List.push_toArray,List.append_toArray,List.nil_append,List.cons_append]
 gi_wp2
 gi_loopw [10] (fun i wr=>∃ k:Nat,k≤nd∧i=.int .i64 k∧J (pairs (ds.take k)) wr∧CS S W wr∧W.heap.size≤wr.heap.size) (fun i _=>nd-(intOf i).toNat)
 case atStart=>exact ⟨0,by omega,rfl,h0,CS.refl,Nat.le_refl _⟩
 case round =>
  obtain ⟨k,hk,rfl,hJs,hK,hz⟩:=hrel
  by_cases hlt:k<nd
  · obtain ⟨b,off,rfl,hb,hc⟩:=K5 (hr.keep FM (fun _ h=>h) hK) (by rw [hl.out];omega)
    obtain ⟨c0,c1,c2,c3,A',c',c4,hc',hr'⟩:=hc k (by rw [hl.out];omega)
    have hbs:b<wr.heap.size:=by have:=hS b hb;omega
    have hkl:k<ds.length:=by rw [hl.out];omega
    have hml:=HNM.out k hlt
    clear hc
    have hJ1:J (upto ds k 0) (wr.alloc (.cells #[.int .i64 (nth CX ds k).id,.int .i64 (nth CX ds k).tx,.int .i64 (nth CX ds k).made,.int .i64 (nth CX ds k).Bb,.slice A' (nth CX ds k).maps.length c'] 115)):=by
     rw [ai];exact HJA.out _ _ _ hJs
    have hK1:CS S W (wr.alloc (.cells #[.int .i64 (nth CX ds k).id,.int .i64 (nth CX ds k).tx,.int .i64 (nth CX ds k).made,.int .i64 (nth CX ds k).Bb,.slice A' (nth CX ds k).maps.length c'] 115)) :=
     hK.trans (EH (fun b hb=>by have:=hS b hb;omega) _)
    have HJ1:=qh hJ1
    have HUF:=qh (aj hkl)
    have hrW:OX W S A' (nth CX ds k).maps:=hr'.keep F5 (fun _ h=>h) (fun b o hb=>(hK b o hb).symm)
    clear hJ1 hr' hJs
    gi_wp2
    gi_loopw [18] (fun i w2=>∃ j:Nat,j≤(nth CX ds k).maps.length∧i=.int .i64 j∧J (upto ds k j) w2∧CS S W w2∧W.heap.size≤w2.heap.size) (fun i _=>(nth CX ds k).maps.length-(intOf i).toNat)
    case atStart=>exact ⟨0,by omega,rfl,HJ1.out,hK1,by simp;omega⟩
    case round =>
     obtain ⟨j,hj,rfl,hJ2,hK2,hz2⟩:=hrel
     by_cases hjl:j<(nth CX ds k).maps.length
     · obtain ⟨mb,mo,rfl,hmb,hmc⟩:=OY (hrW.keep F5 (fun _ h=>h) hK2) (by omega)
       obtain ⟨m0,m1,m2⟩:=hmc j hjl
       have AEk:=hS mb hmb
       have p9:=qh (Rw hjl)
       have hul:=nV hkl hjl
       have fZ:=qh (Nf (j:=j+1) hkl)
       have zW:=qh (HP.out (k,nth Q8 (nth CX ds k).maps j) (fZ.out.subset (by rw [p9.out];simp)))
       clear hmc
       generalize nth Q8 (nth CX ds k).maps j=m at *
       have mW:CS S W (wr.alloc (.cells #[.int .i64 m.v,.int .i64 m.b,.int .i64 m.t] 137)):=hK2.trans (EH (fun b hb=>by have:=hS b hb;omega) _)
       obtain ⟨fn,tmps,assign,body,hy,hR⟩:=HY.out (upto ds k j) (k,m) (wr.alloc (.cells #[.int .i64 m.v,.int .i64 m.b,.int .i64 m.t] 137)) zW.out (HJA.out _ _ _ hJ2) hul
       dsimp only [nX] at hy
       clear hJ2 hul
       gi_wp2
       refine hR.mono ?_
       rintro e W3 (⟨rfl,hJ3,hk3⟩|⟨rfl,hJx3⟩)
       · have hk31:=hk3.1
         have uI:=hk3.2
         simp at uI
         gi_wp2
         go_roundw
         case rel=>exact ⟨j+1,by omega,by go_num,by rw [p9.out];exact hJ3,mW.trans hk31,by omega⟩
         case measure=>simp [intOf];omega
       · gi_wp2
         refine bodyPost_ret (results_none rfl _ _ _) rfl ?_
         exact ⟨⟨_,rfl⟩,.inr ⟨_,by rw [← p9.out];exact fZ.out,hJx3⟩⟩
     · have hje:j=(nth CX ds k).maps.length:=by omega
       have hJ3:Hid (J (pairs (ds.take (k+1))) wr):=by rw [hje,HUF.out] at hJ2;exact hJ2
       clear hJ2 hje
       gi_wp2
       go_roundw
       case rel=>exact ⟨k+1,by omega,by go_num,hJ3.out,hK2,hz2⟩
       case measure=>simp [intOf];omega
  · have hfin:ds.take k=ds:=List.take_of_length_le (by rw [hl.out];omega)
    rw [hfin] at hJs
    clear hfin
    gi_wp2
    go_end0
    exact ⟨⟨_,rfl⟩,.inl ⟨_,rfl,hJs⟩⟩
theorem XY (F:Fence) (n:Nat) (hf:F.fn 186) (hro:F.round=none) (hn:1≤n) (pb:Nat) (S:Nat→Prop) (A:Option Addr) (c:Nat) (ds:List Dev) (P:Nat × Mp→Prop) (hP:∀ x∈pairs ds,P x) (w:World)
 (hS:∀ b,S b→b<w.heap.size) (hnd:ds.length≤1099511627776) (hnm:∀ k,k<ds.length→(nth CX ds k).maps.length≤140737488355328) (hpl:pb<w.heap.size)
 (hpb:w.cell? ⟨pb,4,none⟩=some (.slice A ds.length c)) (hr:SC w S A ds) :
 SeqStopsK F n Tryz.prog 186 #[.pointer (some ⟨pb,0,none⟩)] (fun x:{ x:Nat × Mp // P x }=>nX x.1) (yI S) (fun xs=>xs.map (·.1)=pairs ds) (fun pre=>pre.map (·.1) <+: pairs ds) (pairs ds).length w:=fun l J Jx W hW hJ _ hY h0=>by
 have hWS:∀ b,S b→b<W.heap.size:=fun b hb=>Nat.lt_of_lt_of_le (hS b hb) hW.size
 refine (ak F n hf hro hn l pb S A c ds P hP (fun pre W=>∃ pre':List { x:Nat × Mp // P x },pre'.map (·.1)=pre∧J pre' W) (fun pre W=>∃ pre':List { x:Nat × Mp // P x },pre'.map (·.1)=pre∧Jx pre' W) ?_ W hWS hnd hnm
  ((hW.cell (p:=⟨pb,4,none⟩) hpl).trans hpb) (hr.keep FM (fun _ h=>h) (AL hW hS)) ?_ ⟨[],rfl,h0⟩).mono ?_
 · rintro pre x W1 hx ⟨pre',rfl,hj⟩ hlen
   obtain ⟨fn,tmps,assign,body,hy,hR⟩:=hY pre' ⟨x,hx⟩ W1 hj (by simpa using hlen)
   refine ⟨fn,tmps,assign,body,hy,hR.mono ?_⟩
   rintro e W' (⟨rfl,h1,h2⟩|⟨rfl,h1⟩)
   · exact .inl ⟨rfl,⟨_,by simp,h1⟩,h2⟩
   · exact .inr ⟨rfl,⟨_,by simp,h1⟩⟩
 · rintro s W1 W2 row ⟨s',rfl,hs⟩ hg hr'
   exact ⟨s',rfl,hJ s' W1 W2 row hs hg hr'⟩
 · rintro e W' ⟨he,⟨ys,hys,ys',rfl,hj⟩|⟨pre,hpre,pre',rfl,hj⟩⟩
   · exact ⟨he,.inl ⟨ys',hys,hj⟩⟩
   · exact ⟨he,.inr ⟨pre',hpre,hj⟩⟩
theorem AAk {S:Nat→Prop} {A B C:World} (h:yI S A B) (k:yI S B C):yI S A C:=⟨h.1.trans k.1,Nat.le_trans h.2 k.2⟩
theorem AAl {S:Nat→Prop} {w:World} (hS:∀ b,S b→b<w.heap.size) (W:World) (l:Nat) (o':Obj) (hl:w.heap.size≤l):yI S W (W.putObj l o') :=
 ⟨fun b i hb=>by
  have hg:=grownBy_putObj' W l o'
  by_cases hbW:b<W.heap.size
  · exact World.cell?_of_block (a:=⟨b,i,none⟩) (hg.block b hbW (fun e=>by have:=hS b hb;cases e;omega))
  · have:=hg.size
    have h1:=hS b hb
    have e1:W.heap[b]? = none:=Array.getElem?_eq_none (by omega)
    have e2:(W.putObj l o').heap[b]? = none:=by
     refine Array.getElem?_eq_none ?_
     have:(W.putObj l o').heap.size=W.heap.size:=by simp [World.putObj]
     omega
    simp [World.cell?,e1,e2],(grownBy_putObj' W l o').size⟩
theorem nY (w:World) (p:Pool) (A:Option Addr) (n c:Nat):Calls Tryz.prog 123 #[.agg #[.int .i64 p.tx,.int .i64 p.time,.int .i64 p.unit,.int .i64 p.data,.slice A n c]] w fun e w' =>
 e=.returned (.func (.func 186) #[] #[.pointer (some ⟨w.heap.size,0,none⟩)])∧w'=w.alloc (.cells #[.int .i64 p.tx,.int .i64 p.time,.int .i64 p.unit,.int .i64 p.data,.slice A n c] 45):=by
 go_enter Tryz.func123,Tryz.ntmps123
 go_wp2
 go_ret
 exact ⟨rfl,rfl⟩
end
section
open Go.RowKit Go.Shelf
theorem Va {S:Nat→Prop} {w:World} {l:Nat} (h:∀ b,S b→b≠l) (o':Obj):CS S w (w.putObj l o'):=fun b i hb=>by
 have hg:=grownBy_putObj' w l o'
 by_cases hbW:b<w.heap.size
 · exact World.cell?_of_block (a:=⟨b,i,none⟩) (hg.block b hbW (fun e=>h b hb (by cases e;rfl)))
 · have e1:w.heap[b]? = none:=Array.getElem?_eq_none (by omega)
   have e2:(w.putObj l o').heap[b]? = none:=by
    refine Array.getElem?_eq_none ?_
    have:(w.putObj l o').heap.size=w.heap.size:=by simp [World.putObj]
    omega
   simp [World.cell?,e1,e2]
def rD (w:World) (b:Nat) (m:Mp):Prop:=w.heap[b]? = some (.cells #[.int .i64 m.v,.int .i64 m.b,.int .i64 m.t] 137 (0,0))
theorem nZ {β:Type} (b:Nat) (m:Mp):Own (fun (_:β) W=>rD W b m):=fun s X Y row hs hg hrow =>
 (hg.block b (Array.getElem?_eq_some_iff.1 hs).1 (fun e=>by obtain ⟨o,ho,hc⟩:=hrow b e.symm;rw [show X.heap[b]? = _ from hs] at ho;cases ho;cases hc)).trans hs
theorem rD.cell {w:World} {b:Nat} {m:Mp} (h:rD w b m):w.cell? ⟨b,0,none⟩=some (.int .i64 m.v)∧w.cell? ⟨b,1,none⟩=some (.int .i64 m.b)∧w.cell? ⟨b,2,none⟩=some (.int .i64 m.t):=by
 unfold rD at h
 simp [World.cell?,h]
theorem rD.new (w:World) (m:Mp):rD (w.alloc (.cells #[.int .i64 m.v,.int .i64 m.b,.int .i64 m.t] 137)) w.heap.size m:=heap_alloc_new w _
end
end Go.Proofs.YtpenklpdjpkigaaGreat
