/- A part of the proof: WSpan3, WSpan4, WBack, WIter, Tri, WPoolRefs, ViewP, WRRefs, WUsage. -/
import Derived.Test.YthblbddmcdnllaaGreatDoorX13
import Derived.RangeFuncNested
import Derived.RangeFuncBound
import Derived.RangeFuncBox
import Derived.RangeFuncCalls
import Derived.RangeFuncLeaves
import Derived.Shelf.RegionOpen
import Derived.OwnWalkIn
import Derived.TacticsInMore
import Derived.RegionIn
import Derived.LoopNIn
import Derived.LoopIn
import Derived.Test.YthblbddmcdnllaaGreatDoorX1
import Derived.Test.YthblbddmcdnllaaGreatDoorProg
import Derived.Test.YthblbddmcdnllaaGreatDoorX3
import Derived.Deep.QuietTactic
import Derived.BigQuiet
import Derived.Outline
import Derived.Shelf.Abstract
import Derived.Test.YthblbddmcdnllaaGreatDoorX22
import Derived.Test.YthblbddmcdnllaaGreatDoorX19
import Derived.Test.YthblbddmcdnllaaGreatDoorY1
set_option maxHeartbeats 6400000
set_option linter.unusedVariables false
set_option linter.unusedSimpArgs false
namespace Go.Proofs.YthblbddmcdnllaaGreatDoor
section
open Go.RowKit Go.Shelf
attribute [local go_sem] Oper.semAt_some
def aG (S:Nat→Prop) (w w':World):Prop:=CU S w w'∧w.heap.size≤w'.heap.size
def Yt (hi:Int) (ks:List Int) (i:Nat):Array Value:=#[.int .i64 (i:Int),.agg #[.int .i64 (nth 0 ks i),.int .i64 (FJ hi ks i)]]
def Bj (n k:Nat):List Nat:=(List.range k).map fun j=>n-1-j
theorem FV (n k:Nat):Bj n (k+1)=Bj n k++[n-1-k]:=by simp [Bj,List.range_succ]
theorem Ll (n k:Nat):(Bj n k).length=k:=by simp [Bj]
theorem Il {n k:Nat} (h:k≤n):Bj n k <+: Bj n n:=by
 obtain ⟨d,rfl⟩:∃ d,n=k+d:=⟨n-k,by omega⟩
 unfold Bj
 rw [List.range_add,List.map_append]
 exact List.prefix_append _ _
set_option maxRecDepth 100000 in
theorem Um (F:Fence) (n:Nat) (hf:F.fn 246) (hro:F.round=none) (hn:1≤n) (lp gs gk:Nat) (S:Nat→Prop) (lo hi:Int) (A:Option Addr) (c:Nat) (ks:List Int) (J Jx:List Nat→World→Prop)
 (hY:∀ pre x W,x<ks.length→J pre W→pre.length<ks.length→YieldAt F (n-1) Tryz.prog lp (Yt hi ks x) W fun e W' =>
  (e=.returned (.bool true)∧J (pre++[x]) W'∧aG S W W')∨(e=.returned (.bool false)∧Jx (pre++[x]) W'))
 (W:World) (hS:∀ b,S b→b<W.heap.size) (hnl:ks.length≤1000000) (rV:S gs) (Wu:S gk)
 (h0:W.cell? ⟨gs,1,none⟩=some (.int .i64 hi)) (h1:W.cell? ⟨gk,0,none⟩=some (.slice A ks.length c)) (hr:Bw (Flat fun n:Int=>[.int .i64 n]) 1 0 W S A ks) (hJ0:J [] W) :
 CallsIn F n Tryz.prog 246 #[.func (.yield lp) #[] #[],.pointer (some ⟨gs,0,none⟩),.pointer (some ⟨gk,0,none⟩)] W fun e W'=>(∃ v,e=.returned v) ∧
  ((∃ ys,ys=Bj ks.length ks.length∧J ys W')∨(∃ pre,pre <+: Bj ks.length ks.length∧Jx pre W')):=by
 have HY:=qh hY
 have HC:Hid (∀ k,k<ks.length→∃ b off,A=some ⟨b,off,none⟩∧∀ W',CU S W W'→W'.cell? ⟨b,off+k,none⟩=some (.int .i64 (nth 0 ks k))):=fun k hk=>by
  obtain ⟨b,off,e,hb,h1⟩:=Be hr (by omega)
  exact ⟨b,off,e,fun W' hK=>(hK b _ hb).trans (h1 k hk)⟩
 have jh:=qh (fun k (h:k≤ks.length)=>Il h)
 have dL:Hid (∀ i,FJ hi ks i=if i+1<ks.length then nth 0 ks (i+1) else hi):=fun i=>rfl
 clear hY hr
 generalize hl0:ks.length=nd at *
 have hl:=qh hl0
 clear hl0
 refine callsIn_of_wp Tryz.func246 rfl hf ?_ hro
 simp only [Tryz.ntmps246,List.size_toArray,List.length_cons,List.length_nil,Nat.reduceAdd,Nat.reduceSub,Array.replicate_succ,Array.replicate_zero,List.push_toArray,List.append_toArray,List.nil_append,List.cons_append]
 gi_wp2
 gi_loopw [4,5] (fun vh vi wr=>∃ m:Nat,m≤nd∧vi=.int .i64 ((m:Int)-1)∧(∃ z,vh=.int .i64 z∧Hid (z=if m<nd then nth 0 ks m else hi))∧J (Bj nd (nd-m)) wr∧CU S W wr∧W.heap.size≤wr.heap.size) (fun _ vi _=>(intOf vi+1).toNat)
 case atStart=>exact ⟨nd,Nat.le_refl _,rfl,⟨hi,rfl,by show _=_;rw [if_neg (by omega)]⟩,by rw [Nat.sub_self];exact hJ0,CU.refl,Nat.le_refl _⟩
 case round =>
  obtain ⟨m,hm,rfl,⟨z,rfl,HZ⟩,hJs,hK,hz⟩:=hrel
  cases m with
  | zero =>
   rw [Nat.sub_zero] at hJs
   gi_wp2
   go_end0
   exact ⟨⟨_,rfl⟩,.inl ⟨_,rfl,hJs⟩⟩
  | succ x =>
   rw [show (((x+1:Nat):Int)-1)=(x:Int) by omega]
   obtain ⟨b,off,rfl,hq⟩:=HC.out x (by omega)
   have q0:=hq wr hK
   have k1:=(hK gk 0 Wu).trans h1
   have hxl:(x:Int)<(nd:Int):=by omega
   have xC:FJ hi ks x=z:=by rw [dL.out,HZ.out]
   obtain ⟨fn,tmps,assign,body,hy,hR⟩:=HY.out (Bj nd (nd-(x+1))) x wr (by omega) hJs (by rw [Ll];omega)
   have hsn:Bj nd (nd-(x+1))++[x]=Bj nd (nd-x):=by
    rw [show nd-x=(nd-(x+1))+1 by omega,FV,show nd-1-(nd-(x+1))=x by omega]
   rw [hsn] at hR
   have hpx:=jh.out (nd-x) (by omega)
   dsimp only [Yt] at hy
   rw [xC] at hy
   have dM:=qh hpx
   have rW:=qh h1
   have HQ:=qh hq
   obtain ⟨y,iK⟩:∃ y,nth 0 ks x=y:=⟨_,rfl⟩
   have pY:Hid (y=if x<nd then nth 0 ks x else hi):=by show _=_;rw [if_pos (by omega),iK]
   rw [iK] at q0 hy HQ
   clear xC hsn hJs hpx h0 h1 hq iK
   gi_wp2
   refine hR.mono ?_
   rintro e W3 (⟨rfl,hJ3,hk3⟩|⟨rfl,hJx3⟩)
   · have hk31:=hk3.1
     have dN:=hk3.2
     have Yu:=hK.trans hk31
     have q3:=HQ.out W3 Yu
     have k3:=(Yu gk 0 Wu).trans rW.out
     gi_wp2
     go_roundw
     case rel=>exact ⟨x,by omega,rfl,⟨y,rfl,pY⟩,hJ3,Yu,by omega⟩
     case measure=>simp [intOf]
   · gi_wp2
     refine bodyPost_ret (results_none rfl _ _ _) rfl ?_
     exact ⟨⟨_,rfl⟩,.inr ⟨_,dM.out,hJx3⟩⟩
end
section
open Go.RowKit Go.Shelf
attribute [local go_sem] Oper.semAt_some
theorem Ru (F:Fence) (n:Nat) (hf:F.fn 246) (hro:F.round=none) (hn:1≤n) (gs gk:Nat) (S:Nat→Prop) (lo hi:Int) (A:Option Addr) (c:Nat) (ks:List Int) (w:World)
 (hS:∀ b,S b→b<w.heap.size) (hnl:ks.length≤1000000) (rV:S gs) (Wu:S gk) (h0:w.cell? ⟨gs,1,none⟩=some (.int .i64 hi)) (h1:w.cell? ⟨gk,0,none⟩=some (.slice A ks.length c)) (hr:Bw (Flat fun n:Int=>[.int .i64 n]) 1 0 w S A ks) :
 SeqStopsK F n Tryz.prog 246 #[.pointer (some ⟨gs,0,none⟩),.pointer (some ⟨gk,0,none⟩)] (fun x:{ k:Nat // k<ks.length }=>Yt hi ks x.1) (aG S) (fun xs=>xs.map (·.1)=Bj ks.length ks.length) (fun pre=>pre.map (·.1) <+: Bj ks.length ks.length) ks.length w:=fun lp J Jx W hW hJ _ hY hj0=>by
 have hWS:∀ b,S b→b<W.heap.size:=fun b hb=>Nat.lt_of_lt_of_le (hS b hb) hW.size
 refine (Um F n hf hro hn lp gs gk S lo hi A c ks (fun pre W=>∃ pre':List { k:Nat // k<ks.length },pre'.map (·.1)=pre∧J pre' W) (fun pre W=>∃ pre':List { k:Nat // k<ks.length },pre'.map (·.1)=pre∧Jx pre' W) ?_ W hWS hnl rV Wu
  ((hW.cell (p:=⟨gs,1,none⟩) (hS _ rV)).trans h0) ((hW.cell (p:=⟨gk,0,none⟩) (hS _ Wu)).trans h1) (hr.keep (AB _) (fun _ h=>h) (AR hW hS)) ⟨[],rfl,hj0⟩).mono ?_
 · rintro pre x W1 hx ⟨pre',rfl,hj⟩ hlen
   obtain ⟨fn,tmps,assign,body,hy,hR⟩:=hY pre' ⟨x,hx⟩ W1 hj (by simpa using hlen)
   refine ⟨fn,tmps,assign,body,hy,hR.mono ?_⟩
   rintro e W' (⟨rfl,h1,h2⟩|⟨rfl,h1⟩)
   · exact .inl ⟨rfl,⟨_,by simp,h1⟩,h2⟩
   · exact .inr ⟨rfl,⟨_,by simp,h1⟩⟩
 · rintro e W' ⟨he,⟨ys,hys,ys',rfl,hj⟩|⟨pre,hpre,pre',rfl,hj⟩⟩
   · exact ⟨he,.inl ⟨ys',hys,hj⟩⟩
   · exact ⟨he,.inr ⟨pre',hpre,hj⟩⟩
theorem aH {S:Nat→Prop} {A B C:World} (h:aG S A B) (k:aG S B C):aG S A C:=⟨h.1.trans k.1,Nat.le_trans h.2 k.2⟩
theorem aI {S:Nat→Prop} {w:World} (hS:∀ b,S b→b<w.heap.size) (W:World) (l:Nat) (o':Obj) (hl:w.heap.size≤l):aG S W (W.putObj l o') :=
 ⟨fun b i hb=>by
  have hg:=grownBy_putObj' W l o'
  by_cases hbW:b<W.heap.size
  · exact World.cell?_of_block (a:=⟨b,i,none⟩) (hg.block b hbW (fun e=>by have:=hS b hb;cases e;omega))
  · have:=hg.size
    have h1:=hS b hb
    have e1:W.heap[b]? = none:=Array.getElem?_eq_none (by omega)
    have e2:(W.putObj l o').heap[b]? = none:=by
     refine Array.getElem?_eq_none ?_
     have:(W.putObj l o').heap.size=W.heap.size:=by simp [World.putObj]
     omega
    simp [World.cell?,e1,e2],(grownBy_putObj' W l o').size⟩
theorem Yv (w:World) (lo hi:Int) (A:Option Addr) (n c:Nat):Calls Tryz.prog 231 #[.agg #[.int .i64 lo,.int .i64 hi],.slice A n c] w fun e w' =>
 e=.returned (.func (.func 246) #[] #[.pointer (some ⟨w.heap.size,0,none⟩),.pointer (some ⟨w.heap.size+1,0,none⟩)])∧w'=(w.alloc (.cells #[.int .i64 lo,.int .i64 hi] 332)).alloc (.cells #[.slice A n c] 62):=by
 go_enter Tryz.func231,Tryz.ntmps231
 go_wp2
 go_ret
 exact ⟨rfl,rfl⟩
def Ep (x:Int × Int):List Value:=[.int .i64 x.1,.int .i64 x.2]
theorem F7 (x:Int × Int):(Ep x).length=2:=rfl
theorem Rv {l:List (Int × Int)} {i:Nat} (x:Int × Int) (hi:i<l.length):((AA Ep l).set (i*2) (.int .i64 x.1)).set (i*2+1) (.int .i64 x.2)=AA Ep (l.set i x):=by
 induction l generalizing i with
 | nil=>simp at hi
 | cons m l ih =>
  cases i with
  | zero=>rfl
  | succ i =>
   have e:∀ (a b:Value) (r:List Value) (u:Value) (j:Nat),(a :: b :: r).set (j+2) u=a :: b :: r.set j u:=fun _ _ _ _ _=>rfl
   have e0:AA Ep (m :: l)=.int .i64 m.1 :: .int .i64 m.2 :: AA Ep l:=rfl
   have e1:AA Ep ((m :: l).set (i+1) x)=.int .i64 m.1 :: .int .i64 m.2 :: AA Ep (l.set i x):=rfl
   rw [e0,e1,← ih (by simp at hi;omega),show (i+1)*2=i*2+2 by omega,e,show i*2+2+1=(i*2+1)+2 by omega,e]
theorem Wv {w:World} {base e g n cap k:Nat} {l:List (Int × Int)} (h:w.ownsRow base e 2 (.slice (some ⟨g,0,none⟩) n cap) n (AA Ep l)) (x:Int × Int) (hk:k<n) (hn:l.length=n) :
 ((w.setCell ⟨g,k*2,none⟩ (.int .i64 x.1)).setCell ⟨g,k*2+1,none⟩ (.int .i64 x.2)).ownsRow base e 2 (.slice (some ⟨g,0,none⟩) n cap) n (AA Ep (l.set k x))∧w.grownBy ((w.setCell ⟨g,k*2,none⟩ (.int .i64 x.1)).setCell ⟨g,k*2+1,none⟩ (.int .i64 x.2)) (some g):=by
 rw [← Rv x (by omega)]
 exact ⟨((h.stored _ _).1.stored _ _).1,O5 (h.stored _ _).2 ((h.stored _ _).1.stored _ _).2⟩
theorem rX {w:World} {base e g n cap k:Nat} {l:List (Int × Int)} (h:w.ownsRow base e 2 (.slice (some ⟨g,0,none⟩) n cap) n (AA Ep l)) (hk:k<n) (hn:l.length=n) :
 w.cell? ⟨g,k*2,none⟩=some (.int .i64 (nth (0,0) l k).1)∧w.cell? ⟨g,k*2+1,none⟩=some (.int .i64 (nth (0,0) l k).2):=by
 subst hn
 exact ⟨(h.cellAt _ (by omega)).trans (Dc (d:=(0,0)) F7 l k 0 _ hk rfl),(h.cellAt _ (by omega)).trans (Dc (d:=(0,0)) F7 l k 1 _ hk rfl)⟩
def Im (hi:Int) (ks:List Int) (pre:List Nat):List (Int × Int):=pre.foldl (fun l i=>l.set i (nth 0 ks i,FJ hi ks i)) (List.replicate ks.length (0,0))
theorem Lm (hi:Int) (ks:List Int) (pre:List Nat) (i:Nat):Im hi ks (pre++[i])=(Im hi ks pre).set i (nth 0 ks i,FJ hi ks i):=by simp [Im]
theorem F8 (hi:Int) (ks:List Int) (pre:List Nat):(Im hi ks pre).length=ks.length:=by
 unfold Im
 have:∀ (l:List (Int × Int)),(pre.foldl (fun l i=>l.set i (nth 0 ks i,FJ hi ks i)) l).length=l.length:=by
  induction pre with
  | nil=>intro l;rfl
  | cons i p ih=>intro l;rw [List.foldl_cons,ih,List.length_set]
 rw [this,List.length_replicate]
theorem NV (hi:Int) (ks:List Int):∀ (k j:Nat),k≤ks.length→j<ks.length→ks.length-k≤j→nth (0,0) (Im hi ks (Bj ks.length k)) j=(nth 0 ks j,FJ hi ks j)
 | 0,j,_,h1,h2=>by omega
 | k+1,j,h0,h1,h2=>by
  rw [FV,Lm,AZ _ _ j (by rw [List.length_set,F8];exact h1)]
  by_cases e:ks.length-1-k=j
  · subst e
    rw [List.getElem_set_self]
  · rw [List.getElem_set_ne e,← AZ (0,0) _ j (by rw [F8];exact h1),NV hi ks k j (by omega) h1 (by omega)]
theorem Un (hi:Int) (ks:List Int):Im hi ks (Bj ks.length ks.length)=spansOf hi ks:=by
 apply List.ext_getElem
 · rw [F8,Ei]
 · intro i h1 h2
   rw [F8] at h1
   rw [← AZ (0,0) _ i,← AZ (0,0) _ i,Gy hi ks i h1,NV hi ks _ i (Nat.le_refl _) h1 (by omega)]
theorem Yw {β:Type} (b:Nat) (cs:Array Value) (T:TypeId):Own (fun (_:β) W=>AL W b cs T):=fun s X Y row hs hg hrow =>
 (hg.block b (Array.getElem?_eq_some_iff.1 hs).1 (fun e=>by obtain ⟨o,ho,hc⟩:=hrow b e.symm;rw [show X.heap[b]? = _ from hs] at ho;cases ho;cases hc)).trans hs
theorem JZ {β:Type} (B n:Nat):OwnFrom B (fun (_:β) W=>n≤W.heap.size):=fun _ _ _ _ hs hg _=>Nat.le_trans hs hg.size
theorem TT {β:Type} {base e size n:Nat} (v:Value) (f:β→List Value):Own (fun s W=>W.ownsRow base e size v n (f s)):=fun s X Y row hs hg hrow=>by
 refine hs.kept hg ?_
 rcases hs.2 with ⟨hv,_⟩|⟨g',cap',cur,hv,_,hgb,_⟩
 · left;rw [hv];rfl
 · right
   rw [hv]
   intro e
   obtain ⟨o,ho,hc⟩:=hrow g' e.symm
   rw [hgb] at ho;cases ho;cases hc
end
section
open Go.RowKit Go.Shelf
attribute [local go_sem] Oper.semAt_some
def Yx (ks:List Int) (i:Nat):Array Value:=#[.int .i64 (i:Int),.int .i64 (nth 0 ks i)]
set_option maxRecDepth 100000 in
theorem Uo (F:Fence) (n:Nat) (hf:F.fn 242) (hro:F.round=none) (hn:1≤n) (lp gk:Nat) (S:Nat→Prop) (A:Option Addr) (c:Nat) (ks:List Int) (J Jx:List Nat→World→Prop)
 (hY:∀ pre x W,x<ks.length→J pre W→pre.length<ks.length→YieldAt F (n-1) Tryz.prog lp (Yx ks x) W fun e W' =>
  (e=.returned (.bool true)∧J (pre++[x]) W'∧aG S W W')∨(e=.returned (.bool false)∧Jx (pre++[x]) W'))
 (W:World) (hS:∀ b,S b→b<W.heap.size) (hnl:ks.length≤1000000) (Wu:S gk)
 (h1:W.cell? ⟨gk,0,none⟩=some (.slice A ks.length c)) (hr:Bw (Flat fun n:Int=>[.int .i64 n]) 1 0 W S A ks) (hJ0:J [] W) :
 CallsIn F n Tryz.prog 242 #[.func (.yield lp) #[] #[],.pointer (some ⟨gk,0,none⟩)] W fun e W'=>(∃ v,e=.returned v) ∧
  ((∃ ys,ys=Bj ks.length ks.length∧J ys W')∨(∃ pre,pre <+: Bj ks.length ks.length∧Jx pre W')):=by
 have HY:=qh hY
 have HC:Hid (∀ k,k<ks.length→∃ b off,A=some ⟨b,off,none⟩∧∀ W',CU S W W'→W'.cell? ⟨b,off+k,none⟩=some (.int .i64 (nth 0 ks k))):=fun k hk=>by
  obtain ⟨b,off,e,hb,h1⟩:=Be hr (by omega)
  exact ⟨b,off,e,fun W' hK=>(hK b _ hb).trans (h1 k hk)⟩
 have jh:=qh (fun k (h:k≤ks.length)=>Il h)
 clear hY hr
 generalize hl0:ks.length=nd at *
 have hl:=qh hl0
 clear hl0
 refine callsIn_of_wp Tryz.func242 rfl hf ?_ hro
 simp only [Tryz.ntmps242,List.size_toArray,List.length_cons,List.length_nil,Nat.reduceAdd,Nat.reduceSub,Array.replicate_succ,Array.replicate_zero,List.push_toArray,List.append_toArray,List.nil_append,List.cons_append]
 gi_wp2
 gi_loopw [3] (fun vi wr=>∃ m:Nat,m≤nd∧vi=.int .i64 ((m:Int)-1)∧J (Bj nd (nd-m)) wr∧CU S W wr∧W.heap.size≤wr.heap.size) (fun vi _=>(intOf vi+1).toNat)
 case atStart=>exact ⟨nd,Nat.le_refl _,rfl,by rw [Nat.sub_self];exact hJ0,CU.refl,Nat.le_refl _⟩
 case round =>
  obtain ⟨m,hm,rfl,hJs,hK,hz⟩:=hrel
  cases m with
  | zero =>
   rw [Nat.sub_zero] at hJs
   gi_wp2
   go_end0
   exact ⟨⟨_,rfl⟩,.inl ⟨_,rfl,hJs⟩⟩
  | succ x =>
   rw [show (((x+1:Nat):Int)-1)=(x:Int) by omega]
   obtain ⟨b,off,rfl,hq⟩:=HC.out x (by omega)
   have q0:=hq wr hK
   have k1:=(hK gk 0 Wu).trans h1
   have hxl:(x:Int)<(nd:Int):=by omega
   obtain ⟨fn,tmps,assign,body,hy,hR⟩:=HY.out (Bj nd (nd-(x+1))) x wr (by omega) hJs (by rw [Ll];omega)
   have hsn:Bj nd (nd-(x+1))++[x]=Bj nd (nd-x):=by
    rw [show nd-x=(nd-(x+1))+1 by omega,FV,show nd-1-(nd-(x+1))=x by omega]
   rw [hsn] at hR
   have hpx:=jh.out (nd-x) (by omega)
   dsimp only [Yx] at hy
   have dM:=qh hpx
   have rW:=qh h1
   have HQ:=qh hq
   obtain ⟨y,iK⟩:∃ y,nth 0 ks x=y:=⟨_,rfl⟩
   rw [iK] at q0 hy HQ
   clear hsn hJs hpx h1 hq iK
   gi_wp2
   refine hR.mono ?_
   rintro e W3 (⟨rfl,hJ3,hk3⟩|⟨rfl,hJx3⟩)
   · have hk31:=hk3.1
     have dN:=hk3.2
     have Yu:=hK.trans hk31
     have q3:=HQ.out W3 Yu
     have k3:=(Yu gk 0 Wu).trans rW.out
     gi_wp2
     go_roundw
     case rel=>exact ⟨x,by omega,rfl,hJ3,Yu,by omega⟩
     case measure=>simp [intOf]
   · gi_wp2
     refine bodyPost_ret (results_none rfl _ _ _) rfl ?_
     exact ⟨⟨_,rfl⟩,.inr ⟨_,dM.out,hJx3⟩⟩
theorem Rw (F:Fence) (n:Nat) (hf:F.fn 242) (hro:F.round=none) (hn:1≤n) (gk:Nat) (S:Nat→Prop) (A:Option Addr) (c:Nat) (ks:List Int) (w:World)
 (hS:∀ b,S b→b<w.heap.size) (hnl:ks.length≤1000000) (Wu:S gk) (h1:w.cell? ⟨gk,0,none⟩=some (.slice A ks.length c)) (hr:Bw (Flat fun n:Int=>[.int .i64 n]) 1 0 w S A ks) :
 SeqStopsK F n Tryz.prog 242 #[.pointer (some ⟨gk,0,none⟩)] (fun x:{ k:Nat // k<ks.length }=>Yx ks x.1) (aG S) (fun xs=>xs.map (·.1)=Bj ks.length ks.length) (fun pre=>pre.map (·.1) <+: Bj ks.length ks.length) ks.length w:=fun lp J Jx W hW hJ _ hY hj0=>by
 have hWS:∀ b,S b→b<W.heap.size:=fun b hb=>Nat.lt_of_lt_of_le (hS b hb) hW.size
 refine (Uo F n hf hro hn lp gk S A c ks (fun pre W=>∃ pre':List { k:Nat // k<ks.length },pre'.map (·.1)=pre∧J pre' W) (fun pre W=>∃ pre':List { k:Nat // k<ks.length },pre'.map (·.1)=pre∧Jx pre' W) ?_ W hWS hnl Wu
  ((hW.cell (p:=⟨gk,0,none⟩) (hS _ Wu)).trans h1) (hr.keep (AB _) (fun _ h=>h) (AR hW hS)) ⟨[],rfl,hj0⟩).mono ?_
 · rintro pre x W1 hx ⟨pre',rfl,hj⟩ hlen
   obtain ⟨fn,tmps,assign,body,hy,hR⟩:=hY pre' ⟨x,hx⟩ W1 hj (by simpa using hlen)
   refine ⟨fn,tmps,assign,body,hy,hR.mono ?_⟩
   rintro e W' (⟨rfl,h1,h2⟩|⟨rfl,h1⟩)
   · exact .inl ⟨rfl,⟨_,by simp,h1⟩,h2⟩
   · exact .inr ⟨rfl,⟨_,by simp,h1⟩⟩
 · rintro e W' ⟨he,⟨ys,hys,ys',rfl,hj⟩|⟨pre,hpre,pre',rfl,hj⟩⟩
   · exact ⟨he,.inl ⟨ys',hys,hj⟩⟩
   · exact ⟨he,.inr ⟨pre',hpre,hj⟩⟩
theorem Yy (w:World) (A:Option Addr) (n c:Nat):Calls Tryz.prog 228 #[.slice A n c] w fun e w' =>
 e=.returned (.func (.func 242) #[] #[.pointer (some ⟨w.heap.size,0,none⟩)])∧w'=w.alloc (.cells #[.slice A n c] 62):=by
 go_enter Tryz.func228,Tryz.ntmps228
 go_wp2
 go_ret
 exact ⟨rfl,rfl⟩
end
section
open Go.RowKit Go.Shelf
attribute [local go_sem] Oper.semAt_some
def CS:Nat→List Dev→List (Nat × Mp)
 | _,[]=>[]
 | i,d :: r=>d.maps.map (fun m=>(i,m))++CS (i+1) r
def pairs (l:List Dev):List (Nat × Mp):=CS 0 l
theorem F9:∀ (a b:List Dev) (i:Nat),CS i (a++b)=CS i a++CS (i+a.length) b:=by
 intro a
 induction a with
 | nil=>intro b i;simp [CS]
 | cons d a ih=>intro b i;simp only [List.cons_append,CS,ih,List.length_cons,List.append_assoc];rw [show i+1+a.length=i+(a.length+1) from by omega]
def upto (l:List Dev) (k j:Nat):List (Nat × Mp):=pairs (l.take k)++((nth Bb l k).maps.take j).map fun m=>(k,m)
theorem U1 (l:List Dev) (k:Nat):upto l k 0=pairs (l.take k):=by simp [upto]
theorem NZ {l:List Dev} {k j:Nat} (hj:j<(nth Bb l k).maps.length):upto l k (j+1)=upto l k j++[(k,nth Mv (nth Bb l k).maps j)]:=by
 unfold upto
 rw [Ck Mv _ j hj,List.map_append,← List.append_assoc];rfl
theorem U2 {l:List Dev} {k:Nat} (hk:k<l.length):upto l k (nth Bb l k).maps.length=pairs (l.take (k+1)):=by
 unfold upto pairs
 rw [List.take_of_length_le (Nat.le_refl _),Ck Bb l k hk,F9]
 simp [CS,List.length_take,Nat.min_eq_left (Nat.le_of_lt hk)]
theorem QN {l:List Dev} {k:Nat} (hk:k<l.length):pairs l=pairs (l.take k)++((nth Bb l k).maps.map (fun m=>(k,m))++CS (k+1) (l.drop (k+1))):=by
 unfold pairs
 have:l=l.take k++(nth Bb l k :: l.drop (k+1)):=by rw [← Ef Bb l k hk,List.take_append_drop]
 conv=>lhs;rw [this]
 rw [F9]
 simp [CS,List.length_take,Nat.min_eq_left (Nat.le_of_lt hk)]
theorem KW {l:List Dev} {k j:Nat} (hk:k<l.length):upto l k j <+: pairs l:=by
 rw [QN hk]
 unfold upto
 refine (List.prefix_append_right_inj _).2 ?_
 refine List.IsPrefix.trans ?_ (List.prefix_append _ _)
 rw [List.map_take]
 exact List.take_prefix _ _
theorem Y6 {l:List Dev} {k j:Nat} (hk:k<l.length) (hj:j<(nth Bb l k).maps.length):(upto l k j).length<(pairs l).length:=by
 have h:=(KW (j:=j+1) hk).length_le
 rw [NZ hj] at h
 simp at h
 omega
def iP (S:Nat→Prop) (w w':World):Prop:=CU S w w'∧w.heap.size≤w'.heap.size
def Y7 (x:Nat × Mp):Array Value:=#[.int .i64 x.1,.agg #[.int .i64 x.2.v,.int .i64 x.2.b,.int .i64 x.2.t]]
set_option maxRecDepth 100000 in
theorem U3 (F:Fence) (n:Nat) (hf:F.fn 118) (hro:F.round=none) (hn:1≤n) (l pb:Nat) (S:Nat→Prop) (A:Option Addr) (c:Nat) (ds:List Dev) (P:Nat × Mp→Prop) (hP:∀ x∈pairs ds,P x) (J Jx:List (Nat × Mp)→World→Prop)
 (hY:∀ pre x W,P x→J pre W→pre.length<(pairs ds).length→YieldAt F (n-1) Tryz.prog l (Y7 x) W fun e W' =>
  (e=.returned (.bool true)∧J (pre++[x]) W'∧iP S W W')∨(e=.returned (.bool false)∧Jx (pre++[x]) W'))
 (W:World) (hS:∀ b,S b→b<W.heap.size) (hnd:ds.length≤1099511627776) (hnm:∀ k,k<ds.length→(nth Bb ds k).maps.length≤140737488355328)
 (hpb:W.cell? ⟨pb,4,none⟩=some (.slice A ds.length c)) (hr:Ni W S A ds) (hJ:AbidesFrom W.heap.size J) (h0:J [] W) :
 CallsIn F n Tryz.prog 118 #[.func (.yield l) #[] #[],.pointer (some ⟨pb,0,none⟩)] W fun e W'=>(∃ v,e=.returned v) ∧
  ((∃ ys,ys=pairs ds∧J ys W')∨(∃ pre,pre <+: pairs ds∧Jx pre W')):=by
 have xg:∀ s V o,J s V→J s (V.alloc o):=fun s V o h=>hJ s V _ none h (World.grownBy_alloc _ _ _) (fun r e=>by cases e)
 have xh:=qh xg
 have HY:=qh hY
 have HP:=qh hP
 clear xg hY hP
 generalize hl0:ds.length=nd at *
 have hl:=qh hl0
 have HNM:=qh hnm
 clear hl0 hnm
 refine callsIn_of_wp Tryz.func118 rfl hf ?_ hro
 simp only [Tryz.ntmps118,List.size_toArray,List.length_cons,List.length_nil,Nat.reduceAdd,Nat.reduceSub,Array.replicate_succ,Array.replicate_zero,List.push_toArray,List.append_toArray,List.nil_append,List.cons_append]
 gi_wp2
 gi_loopw [10] (fun i wr=>∃ k:Nat,k≤nd∧i=.int .i64 k∧J (pairs (ds.take k)) wr∧CU S W wr∧W.heap.size≤wr.heap.size) (fun i _=>nd-(intOf i).toNat)
 case atStart=>exact ⟨0,by omega,rfl,h0,CU.refl,Nat.le_refl _⟩
 case round =>
  obtain ⟨k,hk,rfl,hJs,hK,hz⟩:=hrel
  by_cases hlt:k<nd
  · obtain ⟨b,off,rfl,hb,hc⟩:=Iq (hr.keep Dy (fun _ h=>h) hK) (by rw [hl.out];omega)
    obtain ⟨c0,c1,c2,c3,A',c',c4,hc',hr'⟩:=hc k (by rw [hl.out];omega)
    have hbs:b<wr.heap.size:=by have:=hS b hb;omega
    have hkl:k<ds.length:=by rw [hl.out];omega
    have zR:=HNM.out k hlt
    clear hc
    have xm:J (upto ds k 0) (wr.alloc (.cells #[.int .i64 (nth Bb ds k).id,.int .i64 (nth Bb ds k).tx,.int .i64 (nth Bb ds k).made,.int .i64 (nth Bb ds k).Bz,.slice A' (nth Bb ds k).maps.length c'] 71)):=by
     rw [U1];exact xh.out _ _ _ hJs
    have hK1:CU S W (wr.alloc (.cells #[.int .i64 (nth Bb ds k).id,.int .i64 (nth Bb ds k).tx,.int .i64 (nth Bb ds k).made,.int .i64 (nth Bb ds k).Bz,.slice A' (nth Bb ds k).maps.length c'] 71)) :=
     hK.trans (DV (fun b hb=>by have:=hS b hb;omega) _)
    have tu:=qh xm
    have HUF:=qh (U2 hkl)
    have hrW:Ky W S A' (nth Bb ds k).maps:=hr'.keep ES (fun _ h=>h) (fun b o hb=>(hK b o hb).symm)
    clear xm hr' hJs
    gi_wp2
    gi_loopw [18] (fun i w2=>∃ j:Nat,j≤(nth Bb ds k).maps.length∧i=.int .i64 j∧J (upto ds k j) w2∧CU S W w2∧W.heap.size≤w2.heap.size) (fun i _=>(nth Bb ds k).maps.length-(intOf i).toNat)
    case atStart=>exact ⟨0,by omega,rfl,tu.out,hK1,by simp;omega⟩
    case round =>
     obtain ⟨j,hj,rfl,hJ2,hK2,hz2⟩:=hrel
     by_cases hjl:j<(nth Bb ds k).maps.length
     · obtain ⟨mb,mo,rfl,hmb,hmc⟩:=Kz (hrW.keep ES (fun _ h=>h) hK2) (by omega)
       obtain ⟨m0,m1,m2⟩:=hmc j hjl
       have AAN:=hS mb hmb
       have kU:=qh (NZ hjl)
       have nR:=Y6 hkl hjl
       have xn:=qh (KW (j:=j+1) hkl)
       have jh:=qh (HP.out (k,nth Mv (nth Bb ds k).maps j) (xn.out.subset (by rw [kU.out];simp)))
       clear hmc
       generalize nth Mv (nth Bb ds k).maps j=m at *
       have Yu:CU S W (wr.alloc (.cells #[.int .i64 m.v,.int .i64 m.b,.int .i64 m.t] 134)):=hK2.trans (DV (fun b hb=>by have:=hS b hb;omega) _)
       obtain ⟨fn,tmps,assign,body,hy,hR⟩:=HY.out (upto ds k j) (k,m) (wr.alloc (.cells #[.int .i64 m.v,.int .i64 m.b,.int .i64 m.t] 134)) jh.out (xh.out _ _ _ hJ2) nR
       dsimp only [Y7] at hy
       clear hJ2 nR
       gi_wp2
       refine hR.mono ?_
       rintro e W3 (⟨rfl,hJ3,hk3⟩|⟨rfl,hJx3⟩)
       · have hk31:=hk3.1
         have dN:=hk3.2
         simp at dN
         gi_wp2
         go_roundw
         case rel=>exact ⟨j+1,by omega,by go_num,by rw [kU.out];exact hJ3,Yu.trans hk31,by omega⟩
         case measure=>simp [intOf];omega
       · gi_wp2
         refine bodyPost_ret (results_none rfl _ _ _) rfl ?_
         exact ⟨⟨_,rfl⟩,.inr ⟨_,by rw [← kU.out];exact xn.out,hJx3⟩⟩
     · have xq:j=(nth Bb ds k).maps.length:=by omega
       have hJ3:Hid (J (pairs (ds.take (k+1))) wr):=by rw [xq,HUF.out] at hJ2;exact hJ2
       clear hJ2 xq
       gi_wp2
       go_roundw
       case rel=>exact ⟨k+1,by omega,by go_num,hJ3.out,hK2,hz2⟩
       case measure=>simp [intOf];omega
  · have hfin:ds.take k=ds:=List.take_of_length_le (by rw [hl.out];omega)
    rw [hfin] at hJs
    clear hfin
    gi_wp2
    go_end0
    exact ⟨⟨_,rfl⟩,.inl ⟨_,rfl,hJs⟩⟩
theorem SC (F:Fence) (n:Nat) (hf:F.fn 118) (hro:F.round=none) (hn:1≤n) (pb:Nat) (S:Nat→Prop) (A:Option Addr) (c:Nat) (ds:List Dev) (P:Nat × Mp→Prop) (hP:∀ x∈pairs ds,P x) (w:World)
 (hS:∀ b,S b→b<w.heap.size) (hnd:ds.length≤1099511627776) (hnm:∀ k,k<ds.length→(nth Bb ds k).maps.length≤140737488355328) (hpl:pb<w.heap.size)
 (hpb:w.cell? ⟨pb,4,none⟩=some (.slice A ds.length c)) (hr:Ni w S A ds) :
 SeqStopsK F n Tryz.prog 118 #[.pointer (some ⟨pb,0,none⟩)] (fun x:{ x:Nat × Mp // P x }=>Y7 x.1) (iP S) (fun xs=>xs.map (·.1)=pairs ds) (fun pre=>pre.map (·.1) <+: pairs ds) (pairs ds).length w:=fun l J Jx W hW hJ _ hY h0=>by
 have hWS:∀ b,S b→b<W.heap.size:=fun b hb=>Nat.lt_of_lt_of_le (hS b hb) hW.size
 refine (U3 F n hf hro hn l pb S A c ds P hP (fun pre W=>∃ pre':List { x:Nat × Mp // P x },pre'.map (·.1)=pre∧J pre' W) (fun pre W=>∃ pre':List { x:Nat × Mp // P x },pre'.map (·.1)=pre∧Jx pre' W) ?_ W hWS hnd hnm
  ((hW.cell (p:=⟨pb,4,none⟩) hpl).trans hpb) (hr.keep Dy (fun _ h=>h) (AR hW hS)) ?_ ⟨[],rfl,h0⟩).mono ?_
 · rintro pre x W1 hx ⟨pre',rfl,hj⟩ hlen
   obtain ⟨fn,tmps,assign,body,hy,hR⟩:=hY pre' ⟨x,hx⟩ W1 hj (by simpa using hlen)
   refine ⟨fn,tmps,assign,body,hy,hR.mono ?_⟩
   rintro e W' (⟨rfl,h1,h2⟩|⟨rfl,h1⟩)
   · exact .inl ⟨rfl,⟨_,by simp,h1⟩,h2⟩
   · exact .inr ⟨rfl,⟨_,by simp,h1⟩⟩
 · rintro s W1 W2 row ⟨s',rfl,hs⟩ hg hr'
   exact ⟨s',rfl,hJ s' W1 W2 row hs hg hr'⟩
 · rintro e W' ⟨he,⟨ys,hys,ys',rfl,hj⟩|⟨pre,hpre,pre',rfl,hj⟩⟩
   · exact ⟨he,.inl ⟨ys',hys,hj⟩⟩
   · exact ⟨he,.inr ⟨pre',hpre,hj⟩⟩
theorem kV {S:Nat→Prop} {A B C:World} (h:iP S A B) (k:iP S B C):iP S A C:=⟨h.1.trans k.1,Nat.le_trans h.2 k.2⟩
theorem kW {S:Nat→Prop} {w:World} (hS:∀ b,S b→b<w.heap.size) (W:World) (l:Nat) (o':Obj) (hl:w.heap.size≤l):iP S W (W.putObj l o') :=
 ⟨fun b i hb=>by
  have hg:=grownBy_putObj' W l o'
  by_cases hbW:b<W.heap.size
  · exact World.cell?_of_block (a:=⟨b,i,none⟩) (hg.block b hbW (fun e=>by have:=hS b hb;cases e;omega))
  · have:=hg.size
    have h1:=hS b hb
    have e1:W.heap[b]? = none:=Array.getElem?_eq_none (by omega)
    have e2:(W.putObj l o').heap[b]? = none:=by
     refine Array.getElem?_eq_none ?_
     have:(W.putObj l o').heap.size=W.heap.size:=by simp [World.putObj]
     omega
    simp [World.cell?,e1,e2],(grownBy_putObj' W l o').size⟩
theorem Y8 (w:World) (p:Pool) (A:Option Addr) (n c:Nat):Calls Tryz.prog 71 #[.agg #[.int .i64 p.tx,.int .i64 p.time,.int .i64 p.unit,.int .i64 p.data,.slice A n c]] w fun e w' =>
 e=.returned (.func (.func 118) #[] #[.pointer (some ⟨w.heap.size,0,none⟩)])∧w'=w.alloc (.cells #[.int .i64 p.tx,.int .i64 p.time,.int .i64 p.unit,.int .i64 p.data,.slice A n c] 32):=by
 go_enter Tryz.func71,Tryz.ntmps71
 go_wp2
 go_ret
 exact ⟨rfl,rfl⟩
end
section
open Go.RowKit Go.Shelf
theorem QO {S:Nat→Prop} {w:World} {l:Nat} (h:∀ b,S b→b≠l) (o':Obj):CU S w (w.putObj l o'):=fun b i hb=>by
 have hg:=grownBy_putObj' w l o'
 by_cases hbW:b<w.heap.size
 · exact World.cell?_of_block (a:=⟨b,i,none⟩) (hg.block b hbW (fun e=>h b hb (by cases e;rfl)))
 · have e1:w.heap[b]? = none:=Array.getElem?_eq_none (by omega)
   have e2:(w.putObj l o').heap[b]? = none:=by
    refine Array.getElem?_eq_none ?_
    have:(w.putObj l o').heap.size=w.heap.size:=by simp [World.putObj]
    omega
   simp [World.cell?,e1,e2]
def aQ (w:World) (b:Nat) (m:Mp):Prop:=w.heap[b]? = some (.cells #[.int .i64 m.v,.int .i64 m.b,.int .i64 m.t] 134 (0,0))
theorem Y9 {β:Type} (b:Nat) (m:Mp):Own (fun (_:β) W=>aQ W b m):=fun s X Y row hs hg hrow =>
 (hg.block b (Array.getElem?_eq_some_iff.1 hs).1 (fun e=>by obtain ⟨o,ho,hc⟩:=hrow b e.symm;rw [show X.heap[b]? = _ from hs] at ho;cases ho;cases hc)).trans hs
theorem aQ.cell {w:World} {b:Nat} {m:Mp} (h:aQ w b m):w.cell? ⟨b,0,none⟩=some (.int .i64 m.v)∧w.cell? ⟨b,1,none⟩=some (.int .i64 m.b)∧w.cell? ⟨b,2,none⟩=some (.int .i64 m.t):=by
 unfold aQ at h
 simp [World.cell?,h]
theorem aQ.new (w:World) (m:Mp):aQ (w.alloc (.cells #[.int .i64 m.v,.int .i64 m.b,.int .i64 m.t] 134)) w.heap.size m:=heap_alloc_new w _
end
section
open Go.RowKit Go.Shelf
attribute [local go_sem] Oper.semAt_some
def Ez (l:List Int) (ms:List (Nat × Mp)):List Int:=ms.foldl (fun l x=>bump l x.2.b) l
def refsOf (p:Pool):List Int:=Ez (List.replicate p.data.toNat 0) (pairs p.Bc)
def C9 (p:Pool):List Int:=if CP p=0 then refsOf p else []
theorem SE (l:List Int) (ms:List (Nat × Mp)) (x:Nat × Mp):Ez l (ms++[x])=bump (Ez l ms) x.2.b:=by simp [Ez]
theorem Gc (l:List Int) (ms:List (Nat × Mp)):(Ez l ms).length=l.length:=by
 induction ms generalizing l with
 | nil=>rfl
 | cons x ms ih =>
  have:Ez l (x :: ms)=Ez (bump l x.2.b) ms:=rfl
  rw [this,ih,He]
theorem ZA (l:List Int) (i j:Nat) (u:Int):nth 0 (l.set i u) j=if i=j∧i<l.length then u else nth 0 l j:=by
 unfold nth
 simp only [List.getD,List.getElem?_set]
 by_cases h:i=j
 · subst h
   by_cases hi:i<l.length
   · simp [hi]
   · simp [hi]
 · simp [h]
theorem QP:∀ (ms:List (Nat × Mp)) (l:List Int) (c:Nat),(∀ j,0≤nth 0 l j∧nth 0 l j≤c)→∀ j,0≤nth 0 (Ez l ms) j∧nth 0 (Ez l ms) j≤((c+ms.length:Nat):Int):=by
 intro ms
 induction ms with
 | nil=>intro l c h j;exact h j
 | cons x ms ih =>
  intro l c h j
  have:=ih (bump l x.2.b) (c+1) (fun j=>by
   unfold bump
   rw [ZA]
   split
   · have:=h x.2.b.toNat;omega
   · have:=h j;omega) j
  have e:Ez l (x :: ms)=Ez (bump l x.2.b) ms:=rfl
  rw [e]
  simp only [List.length_cons]
  omega
theorem Mh (n j:Nat):nth 0 (List.replicate n (0:Int)) j=0:=by
 unfold nth
 by_cases h:j<n <;> simp [List.getD,h]
theorem OW (n:Nat) (ms:List (Nat × Mp)) (j:Nat):0≤nth 0 (Ez (List.replicate n 0) ms) j∧nth 0 (Ez (List.replicate n 0) ms) j≤ms.length:=by
 have:=QP ms (List.replicate n 0) 0 (fun j=>by rw [Mh];simp) j
 simpa using this
theorem Mi {data:Int}:∀ (l:List Mp) (last:Int),DX data last l=0→∀ m∈l,Jv data m=true:=by
 intro l
 induction l with
 | nil=>intro _ _ m hm;cases hm
 | cons x l ih =>
  intro last h m hm
  simp only [DX] at h
  by_cases h1:Jv data x=false
  · rw [if_pos h1] at h;cases h
  · rw [if_neg h1] at h
    by_cases h2:x.v≤last
    · rw [if_pos h2] at h;cases h
    · rw [if_neg h2] at h
      rcases List.mem_cons.1 hm with rfl|hm
      · simpa using h1
      · exact ih _ h m hm
theorem SF {data:Int}:∀ (l:List Dev) (last:Int),DR data last l=0→∀ d∈l,Dj data d.maps=0∧Qv d=true:=by
 intro l
 induction l with
 | nil=>intro _ _ m hm;cases hm
 | cons x l ih =>
  intro last h d hd
  simp only [DR] at h
  by_cases h1:Cn x last≠0
  · rw [if_pos h1] at h;exact absurd h h1
  · rw [if_neg h1] at h
    by_cases h2:Dj data x.maps≠0
    · rw [if_pos h2] at h;exact absurd h h2
    · rw [if_neg h2] at h
      rcases List.mem_cons.1 hd with rfl|hd
      · refine ⟨by simpa using h2,?_⟩
        cases hb:Qv d with
        | true=>rfl
        | false=>exact absurd (by unfold Cn;rw [if_pos hb];simp) h1
      · exact ih _ h d hd
theorem Ee {p:Pool} (h:CP p=0):Gx p=true∧KI p=true∧DR p.data (-1) p.Bc=0:=by
 unfold CP at h
 by_cases h1:Gx p=false
 · rw [if_pos h1] at h;cases h
 · rw [if_neg h1] at h
   by_cases h2:KI p=false
   · rw [if_pos h2] at h;cases h
   · rw [if_neg h2] at h
     exact ⟨by simpa using h1,by simpa using h2,h⟩
theorem Mj {x:Nat × Mp}:∀ {l:List Dev} {i:Nat},x∈CS i l→∃ d∈l,x.2∈d.maps:=by
 intro l
 induction l with
 | nil=>intro i h;cases h
 | cons d l ih =>
  intro i h
  rcases List.mem_append.1 h with h|h
  · obtain ⟨m,hm,rfl⟩:=List.mem_map.1 h
    exact ⟨d,by simp,hm⟩
  · obtain ⟨d',h1,h2⟩:=ih h
    exact ⟨d',by simp [h1],h2⟩
theorem J9:∀ (l:List Dev) (i:Nat),((CS i l).length:Int)=CE l:=by
 intro l
 induction l with
 | nil=>intro i;rfl
 | cons d l ih=>intro i;simp only [CS,List.length_append,List.length_map,CE];have:=ih (i+1);omega
theorem ZB {p:Pool} (h:CP p=0):∀ x∈pairs p.Bc,0≤x.2.b∧x.2.b<p.data:=by
 intro x hx
 obtain ⟨d,hd,hm⟩:=Mj hx
 have h1:=(SF _ _ (Ee h).2.2 d hd).1
 have h2:=Mi _ _ h1 _ hm
 simp only [Jv,Bool.and_eq_true] at h2
 have:=Ki.1 h2.2.1
 omega
theorem U4 {p:Pool} (h:CP p=0):(pairs p.Bc).length≤16384:=by
 have h1:=J9 p.Bc 0
 have h2:=(Ee h).2.1
 simp only [KI,decide_eq_true_eq] at h2
 unfold Pool.count at h2
 unfold pairs
 omega
theorem Na {β:Type} (rb base g:Nat) (f:β→List Int):Own (fun s W=>FU W rb base g (f s)):=by
 rintro s X Y row ⟨cap,h1,h2,h3,h4,h5⟩ hg hrow
 have hn1:some rb≠row:=fun e=>by obtain ⟨o,ho,hc⟩:=hrow rb e.symm;rw [show X.heap[rb]? = _ from h1] at ho;cases ho;cases hc
 have hn2:some g≠row:=fun e=>by
  obtain ⟨o,ho,hc⟩:=hrow g e.symm
  rcases h2.2 with ⟨hv,_⟩|⟨g',cap',cur,hv,_,hgb,_⟩
  · simp at hv
  · simp at hv
    rw [← hv.1] at hgb
    rw [hgb] at ho;cases ho;cases hc
 exact ⟨cap,h1.grown hg hn1,h2.kept hg (.inr (by simp [Value.ownBlock];exact hn2)),h3,Nat.lt_of_lt_of_le h4 hg.size,h5⟩
set_option maxRecDepth 100000 in
theorem QQ (w:World) (S:Nat→Prop) (v:Value) (p:Pool) (hS:∀ b,S b→b<w.heap.size) (h:FI w S v p) (hok:p.ok) :
 Calls Tryz.prog 37 #[v] w fun e w'=>∃ v',e=.returned v'∧BV w' (Fu w.heap.size w'.heap.size) v' (C9 p)∧Below w.heap.size w w':=by
 have hp0:=h
 obtain ⟨A,c,rfl,hc,hr⟩:=h
 have hck:=fun w2 (hB:Below w.heap.size w w2)=>NE w2 S _ p (fun b hb=>Nat.lt_of_lt_of_le (hS b hb) hB.size) (hp0.below hB hS) hok
 have XF:=qh hck
 have hw1:Below w.heap.size w (w.alloc (.cells #[.int .i64 p.tx,.int .i64 p.time,.int .i64 p.unit,.int .i64 p.data,.slice A p.Bc.length c] 32)):=(Below.refl _ _).alloc (Nat.le_refl _) _
 by_cases hz:CP p=0
 · have e:C9 p=refsOf p:=by unfold C9;rw [if_pos hz]
   rw [e]
   have hzb:(CP p != 0)=false:=by simp [hz]
   obtain ⟨q1,q2,_⟩:=Ee hz
   have hdat:0≤p.data∧p.data≤65536:=by simp [Gx] at q1;exact Ki.1 q1.2.2
   have hnd:p.Bc.length≤4096:=by simp [KI] at q2;exact q2.1
   have hpb:=ZB hz
   have hpf:=U4 hz
   have HZ:=qh hz
   clear hz e q1 q2 hck
   obtain ⟨dn,hdn⟩:=Int.eq_ofNat_of_zero_le hdat.1
   have xu:=qh hdn
   have hN:=fun w=>KN w dn (by omega)
   rw [← hdn] at hN
   have HN:=qh hN
   clear hN
   have kX:dn≤65536:=by omega
   have f1:Fence.wide.fn 12:=trivial
   have f2:Fence.wide.fn 48:=trivial
   have f3:Fence.wide.fn 71:=trivial
   clear hdn
   refine (callsIn_wide (n:=3)).1 ?_
   refine callsIn_of_wp_marks Tryz.func37 rfl trivial ?_ rfl
   simp only [Tryz.ntmps37,List.size_toArray,List.length_cons,List.length_nil,Nat.reduceAdd,Nat.reduceSub,Array.replicate_succ,Array.replicate_zero,List.push_toArray,List.append_toArray,List.nil_append,List.cons_append]
   gi_wp2_with (first
    | (gi_at_call 12;refine (callsIn_wide.2 (XF.out _ hw1)).mono ?_;rintro e w2 ⟨rfl,hB2⟩;have hsz2:=hB2.size;have hB2':=hw1.trans (hB2.mono (by simp));have hp2:=(MV.new w p A p.Bc.length c).below hB2 (by simp);obtain ⟨x0,x1,x2,x3,x4⟩:=hp2.cells;simp only [World.size_alloc] at hsz2)
    | (gi_at_call 48;refine (callsIn_wide.2 (HN.out _)).mono ?_;rintro e w3 ⟨rb,g,rfl,oI,AAO,hB3⟩;have j5:=hB3.size;have hp3:=hp2.below hB3 (by omega);clear x0 x1 x2 x3 x4;obtain ⟨x0,x1,x2,x3,x4⟩:=hp3.cells;have hlt3:w.heap.size<w3.heap.size:=by omega)
    | (gi_at_call 71;refine (callsIn_wide.2 (Y8 _ _ _ _ _)).mono ?_;rintro e w4 ⟨rfl,rfl⟩))
   have q1:=(Boxed.new w3 111 (.pointer (some ⟨rb,0,none⟩))).alloc (.cells #[.int .i64 p.tx,.int .i64 p.time,.int .i64 p.unit,.int .i64 p.data,.slice A p.Bc.length c] 32)
   have q2:=MV.new (w3.alloc (.cells #[.pointer (some ⟨rb,0,none⟩)] 111)) p A p.Bc.length c
   have q3:Below w3.heap.size w3 ((w3.alloc (.cells #[.pointer (some ⟨rb,0,none⟩)] 111)).alloc (.cells #[.int .i64 p.tx,.int .i64 p.time,.int .i64 p.unit,.int .i64 p.data,.slice A p.Bc.length c] 32)):=((Below.refl _ w3).alloc (Nat.le_refl _) _).alloc (by simp) _
   have q4:((w3.alloc (.cells #[.pointer (some ⟨rb,0,none⟩)] 111)).alloc (.cells #[.int .i64 p.tx,.int .i64 p.time,.int .i64 p.unit,.int .i64 p.data,.slice A p.Bc.length c] 32)).heap.size=w3.heap.size+2:=by simp
   generalize (w3.alloc (.cells #[.pointer (some ⟨rb,0,none⟩)] 111)).alloc (.cells #[.int .i64 p.tx,.int .i64 p.time,.int .i64 p.unit,.int .i64 p.data,.slice A p.Bc.length c] 32)=w4 at *
   simp only [World.size_alloc] at q2
   have hB4:Below w.heap.size w w4:=(hB2'.trans (hB3.mono (by omega))).trans (q3.mono (by omega))
   have hR4:=oI.below q3
   have xw:∀ b,S b→b<w4.heap.size:=fun b hb=>by have:=hS b hb;omega
   have hrg:g<w3.heap.size:=by obtain ⟨_,_,_,_,h,_⟩:=oI;exact h
   have hg2:w2.heap.size≤g:=by obtain ⟨_,_,_,h,_⟩:=oI;exact h
   clear x0 x1 x2 x3 x4 oI hp3 hp2
   refine wpIn_rangeFunc_ownH rfl (by omega) (gf:=118) (lb:=#[.pointer (some ⟨w3.heap.size+1,0,none⟩)]) rfl trivial (enters_of Tryz.func118 (by kernel_rfl) rfl)
    (SC Fence.wide 2 trivial rfl (by omega) (w3.heap.size+1) S A c p.Bc (fun x=>0≤x.2.b∧x.2.b<p.data) hpb w4 xw (by omega) (fun k hk=>by have:=(hok.dev hk).2.2.2.2.2;omega) (by omega) q2.cells.2.2.2.2 (hr.keep Dy (fun _ h=>h) (AR hB4 hS)))
    kV (fun W l o o' hl _ _ _=>kW xw W l o' hl) (Below.refl _ _) (fun _=>rfl)
    (fun pre W=>(FU W rb w2.heap.size g (Ez (List.replicate dn 0) (pre.map (·.1)))∧Boxed W w3.heap.size 111 (.pointer (some ⟨rb,0,none⟩)))∧Below w.heap.size w W)
    (fun _ _ _=>False)
    (OwnFrom.and (OwnFrom.and (Own.from (Na _ _ _ _) _) (Own.from (boxed_own _ _ _) _)) (ownFrom_below (Nat.le_refl _) (by omega)))
    (fun _ _ _ _ _ hs _ _=>hs)
    ⟨⟨hR4,q1⟩,hB4⟩
    (fun x a' W=>∃ Bx,aQ W Bx x.1.2∧a'={ tmps:=#[.agg #[.int .i64 p.tx,.int .i64 p.time,.int .i64 p.unit,.int .i64 p.data,.slice A p.Bc.length c],.pointer (some ⟨w.heap.size,0,none⟩),.slice none 0 0,.pointer (some ⟨w3.heap.size,0,none⟩),.int .i64 0,undef,.pointer (some ⟨Bx,0,none⟩),.agg #[.int .i64 p.tx,.int .i64 p.time,.int .i64 p.unit,.int .i64 p.data,.slice A p.Bc.length c],.int .i64 (CP p),.bool false,.tuple #[.pointer (some ⟨rb,0,none⟩),.int .i64 0],.pointer (some ⟨w.heap.size,3,none⟩),.int .i64 p.data,.tuple #[.pointer (some ⟨rb,0,none⟩),.int .i64 0],.pointer (some ⟨rb,0,none⟩),.int .i64 0,.agg #[.int .i64 p.tx,.int .i64 p.time,.int .i64 p.unit,.int .i64 p.data,.slice A p.Bc.length c],.func (.func 118) #[] #[.pointer (some ⟨w3.heap.size+1,0,none⟩)],.int .i64 x.1.1,.agg #[.int .i64 x.1.2.v,.int .i64 x.1.2.b,.int .i64 x.1.2.t],undef,undef,undef,undef,undef,undef],defers:=[] })
    (fun x a' _ X Y row hs hg hr=>by obtain ⟨Bx,h2,h3⟩:=hs;exact ⟨Bx,Y9 Bx x.1.2 () X Y row h2 hg (fun r e=>(hr r e).2),h3⟩)
    ?assign ?body ?done ?stop
   case assign =>
    rintro l pre x W K ⟨⟨QG,hbW⟩,hBW⟩ hK
    dsimp only [Y7]
    have hsz:=hBW.size
    gi_wp2
    exact hK _ _ ((KeepsOthers.alloc _ _).from _) ⟨DV (fun b hb=>by have:=hS b hb;omega) _,by simp⟩ ⟨⟨Na rb w2.heap.size g (fun (_:Unit)=>_) () _ _ none QG (World.grownBy_alloc _ _ _) (fun r e=>by cases e),hbW.alloc _⟩,hBW.alloc hsz _⟩ ⟨W.heap.size,aQ.new W x.1.2,rfl⟩
   case body =>
    rintro l pre x a' W hl ⟨r,hr⟩ ⟨⟨QG,hbW⟩,hBW⟩ ⟨Bx,hT,rfl⟩ hlt
    have e0:=hbW.cell
    obtain ⟨t0,t1,t2⟩:=hT.cell
    have hln:(Ez (List.replicate dn 0) (pre.map (·.1))).length=dn:=by rw [Gc,List.length_replicate]
    have hcb:=OW dn (pre.map (·.1)) x.1.2.b.toNat
    rw [List.length_map] at hcb
    have hx1:=x.2.1
    have hx2:=x.2.2
    have hAdd:=Hf W rb w2.heap.size g _ x.1.2.b QG hx1 (by rw [hln,← xu.out];exact hx2) (by rw [hln];exact kX) ⟨hcb.1,by omega⟩
    have dI:=qh hAdd
    clear hAdd hcb hln
    have f4:Fence.wide.fn 49:=trivial
    gi_wp2_with (gi_at_call 49;refine (CallsIn.inRound l (callsIn_wide.2 dI.out)).mono ?_;rintro e w5 ⟨rfl,rfl,hR5⟩)
    have hgl:w.heap.size≤g:=by omega
    have hne:w3.heap.size≠g:=by omega
    refine ⟨(KeepsOthers.setCell _ _ _).from _,⟨EC (fun hs=>by have:=hS _ hs;simp only at this;omega) _,(KeepsOthers.setCell _ _ _).size⟩,⟨?_,?_⟩,?_⟩
    · rw [List.map_append,List.map_cons,List.map_nil,SE];exact hR5
    · exact (Below.heap_setCell W _ _ w3.heap.size hne).trans hbW
    · exact hBW.setCell hgl _
   case done =>
    rintro D xs W hD hxs ⟨⟨QG,hbW⟩,hBW⟩ hK
    have e0:=hbW.cell
    have xx:=JN W rb w2.heap.size g _ QG (by rw [Gc,List.length_replicate];exact kX)
    have HLS:=qh xx
    clear xx
    have f4:Fence.wide.fn 51:=trivial
    gi_wp2_with (gi_at_call 51;refine (callsIn_wide.2 HLS.out).mono ?_;rintro e w5 ⟨v',rfl,hv5,BX⟩)
    have rZ:=hBW.size
    have oC:D<W.heap.size:=(Array.getElem?_eq_some_iff.1 hK).1
    have eH:w5.heap[D]? = some (.deferred (some [])):=(BX.block D oC).trans hK
    refine ⟨by simp,.inl ⟨_,_,rfl,run_takeDeferred eH,?_⟩⟩
    refine ⟨_,results_tmp rfl _ _ _,_,rfl,?_,?_⟩
    · have e:Ez (List.replicate dn 0) (xs.map (·.1))=refsOf p:=by rw [hxs];unfold refsOf;rw [xu.out,Int.toNat_natCast]
      rw [e] at hv5
      refine hv5.keep (AB _) (fun b hb=>⟨by have:=hb.1;omega,Nat.lt_of_lt_of_le hb.2 (grownBy_putObj' w5 D _).size⟩) (QO (fun b hb=>by have:=hb.1;omega) _)
    · exact (hBW.trans (BX.mono (by omega))).grown (grownBy_putObj' w5 D _) (by have:=BX.size;omega) (fun k e=>by cases e;omega)
   case stop =>
    rintro D c pre W _ _ h _
    exact h.elim
 · have e:C9 p=[]:=by unfold C9;rw [if_neg hz]
   rw [e]
   have hzb:(CP p != 0)=true:=by simp [hz]
   clear hz e hck
   go_enter Tryz.func37,Tryz.ntmps37
   go_wp2_with (go_at_call 12;refine (XF.out _ hw1).mono ?_;rintro e w2 ⟨rfl,hB2⟩)
   go_ret
   exact ⟨_,rfl,Bp.DW,hw1.trans (hB2.mono (by simp))⟩
end
section
open Go.RowKit
def FN (t:Int):List Int→Int
 | []=>0
 | x :: l=>(if x > t then 1 else 0)+FN t l
theorem QU (t:Int) (l r:List Int):FN t (l++r)=FN t l+FN t r:=by
 induction l with
 | nil=>simp [FN]
 | cons x l ih=>simp only [List.cons_append,FN,ih];omega
theorem Nb (t:Int) (l:List Int) (k:Nat) (h:k<l.length):FN t (l.take (k+1))=FN t (l.take k)+if nth 0 l k > t then 1 else 0:=by
 rw [Ck 0 l k h,QU];simp [FN]
theorem L6 (t:Int):∀ l:List Int,0≤FN t l∧FN t l≤l.length:=by
 intro l
 induction l with
 | nil=>simp [FN]
 | cons x l ih =>
  simp only [FN,List.length_cons]
  split <;> omega
end
section
open Go.RowKit
end
section
open Go.RowKit
theorem L8 {p:Pool}:(C9 p).length≤65536:=by
 unfold C9
 by_cases h:CP p=0
 · rw [if_pos h]
   unfold refsOf
   rw [Gc,List.length_replicate]
   obtain ⟨q1,_⟩:=Ee h
   have hdat:0≤p.data∧p.data≤65536:=by simp [Gx] at q1;exact Ki.1 q1.2.2
   omega
 · rw [if_neg h];simp
set_option maxRecDepth 100000 in
theorem U6 (w:World) (S:Nat→Prop) (v:Value) (p:Pool) (hS:∀ b,S b→b<w.heap.size) (h:FI w S v p) (hok:p.ok) :
 Calls Tryz.prog 26 #[v] w fun e w'=>e=.returned (.tuple #[.int .i64 (FN 0 (C9 p)),.int .i64 (FN 1 (C9 p)),.int .i64 ((C9 p).length-FN 0 (C9 p))])∧Below w.heap.size w w':=by
 have h0:=h
 obtain ⟨A,c,rfl,hc,hr⟩:=h
 have hB1:Below w.heap.size w (w.alloc (Nq p A p.Bc.length c)):=(Below.refl _ _).alloc (Nat.le_refl _) _
 have hrf:=QQ (w.alloc (Nq p A p.Bc.length c)) S _ p (fun b hb=>by have:=hS b hb;simp;omega) (h0.below hB1 hS) hok
 have ZG:=qh hrf
 have hll:=L8 (p:=p)
 clear hrf hr h0
 generalize C9 p=l at *
 generalize hln:l.length=n at *
 have Jr:=qh hln
 clear hln
 dsimp only [Nq] at hB1 ZG
 go_enter Tryz.func26,Tryz.ntmps26
 go_wp2_with (go_at_call 37;refine ZG.out.mono ?_;rintro e w2 ⟨v2,rfl,⟨A2,c2,rfl,hc2,hr2⟩,hB2⟩;rw [Jr.out] at hc2 ⊢;have hk2:=hB1.trans (hB2.mono (by simp)))
 go_loop [5,6,7,13] (fun a b c i=>∃ k:Nat,k≤n∧i=.int .i64 k∧a=.int .i64 (FN 0 (l.take k))∧b=.int .i64 (FN 1 (l.take k))∧c=.int .i64 (k-FN 0 (l.take k))) (fun _ _ _ i=>n-(intOf i).toNat)
 case atStart=>exact ⟨0,by omega,rfl,rfl,rfl,rfl⟩
 case round =>
  obtain ⟨k,hk,rfl,rfl,rfl,rfl⟩:=hrel
  have b0:=L6 0 (l.take k)
  have b1:=L6 1 (l.take k)
  have hlk:(l.take k).length=k:=by rw [List.length_take,Jr.out];omega
  rw [hlk] at b0 b1
  by_cases hlt:k<n
  · obtain ⟨b,off,rfl,hb,hcl⟩:=Be hr2 (by rw [Jr.out];omega)
    have q:=hcl k (by rw [Jr.out];exact hlt)
    have T0:=qh (Nb 0 l k (by rw [Jr.out];exact hlt))
    have T1:=qh (Nb 1 l k (by rw [Jr.out];exact hlt))
    clear hcl hlk
    generalize nth 0 l k=y at *
    generalize FN 0 (l.take k)=z0 at *
    generalize FN 1 (l.take k)=z1 at *
    by_cases h1:y > 1
    · go_wp2_with fail
      go_round
      case rel=>exact ⟨k+1,by omega,by go_num,by rw [T0.out,if_pos (by omega)],by rw [T1.out,if_pos h1],by rw [T0.out,if_pos (by omega)];go_num⟩
      case measure=>simp [intOf];omega
    · by_cases h2:y=1
      · subst h2
        go_wp2_with fail
        go_round
        case rel=>exact ⟨k+1,by omega,by go_num,by rw [T0.out,if_pos (by omega)],by rw [T1.out,if_neg h1,Int.add_zero],by rw [T0.out,if_pos (by omega)];go_num⟩
        case measure=>simp [intOf];omega
      · have h2b:(y==1)=false:=beq_false_of_ne h2
        go_wp2_with fail
        go_round
        case rel=>exact ⟨k+1,by omega,by go_num,by rw [T0.out,if_neg (by omega),Int.add_zero],by rw [T1.out,if_neg h1,Int.add_zero],by rw [T0.out,if_neg (by omega),Int.add_zero];go_num⟩
        case measure=>simp [intOf];omega
  · obtain rfl:k=n:=by omega
    have hfin:Hid (l.take k=l):=List.take_of_length_le (by rw [Jr.out];omega)
    go_wp2_with fail
    go_ret3
    exact ⟨by rw [hfin.out];rfl,hk2⟩
end
end Go.Proofs.YthblbddmcdnllaaGreatDoor
