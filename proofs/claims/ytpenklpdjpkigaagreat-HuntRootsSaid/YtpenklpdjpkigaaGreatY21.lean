/- Part 21 of the proof: WSpan3, WSpan4, WBack, WNote, VisitM. -/
import Derived.Test.YtpenklpdjpkigaaGreatY8
import Derived.RangeFuncNested
import Derived.RangeFuncBound
import Derived.RangeFuncBox
import Derived.RangeFuncCalls
import Derived.RangeFuncLeaves
import Derived.Shelf.RegionOpen
import Derived.OwnWalkIn
import Derived.TacticsInMore
import Derived.RegionIn
import Derived.LoopNIn
import Derived.LoopIn
import Derived.Test.YtpenklpdjpkigaaGreatY1
import Derived.Test.YtpenklpdjpkigaaGreatY3
import Derived.Test.YtpenklpdjpkigaaGreatY5
import Derived.Test.YtpenklpdjpkigaaGreatY2
set_option maxHeartbeats 6400000
set_option linter.unusedVariables false
set_option linter.unusedSimpArgs false
namespace Go.Proofs.YtpenklpdjpkigaaGreat
section
open Go.RowKit Go.Shelf
attribute [local go_sem] Oper.semAt_some
def qK (S:Nat→Prop) (w w':World):Prop:=CS S w w'∧w.heap.size≤w'.heap.size
def mV (hi:Int) (ks:List Int) (i:Nat):Array Value:=#[.int .i64 (i:Int),.agg #[.int .i64 (nth 0 ks i),.int .i64 (GX hi ks i)]]
def Ca (n k:Nat):List Nat:=(List.range k).map fun j=>n-1-j
theorem II (n k:Nat):Ca n (k+1)=Ca n k++[n-1-k]:=by simp [Ca,List.range_succ]
theorem Pg (n k:Nat):(Ca n k).length=k:=by simp [Ca]
theorem Kz {n k:Nat} (h:k≤n):Ca n k <+: Ca n n:=by
 obtain ⟨d,rfl⟩:∃ d,n=k+d:=⟨n-k,by omega⟩
 unfold Ca
 rw [List.range_add,List.map_append]
 exact List.prefix_append _ _
set_option maxRecDepth 100000 in
theorem aK (F:Fence) (n:Nat) (hf:F.fn 248) (hro:F.round=none) (hn:1≤n) (lp gs gk:Nat) (S:Nat→Prop) (lo hi:Int) (A:Option Addr) (c:Nat) (ks:List Int) (J Jx:List Nat→World→Prop)
 (hY:∀ pre x W,x<ks.length→J pre W→pre.length<ks.length→YieldAt F (n-1) Tryz.prog lp (mV hi ks x) W fun e W' =>
  (e=.returned (.bool true)∧J (pre++[x]) W'∧qK S W W')∨(e=.returned (.bool false)∧Jx (pre++[x]) W'))
 (W:World) (hS:∀ b,S b→b<W.heap.size) (hnl:ks.length≤1000000) (hSs:S gs) (iA:S gk)
 (h0:W.cell? ⟨gs,1,none⟩=some (.int .i64 hi)) (h1:W.cell? ⟨gk,0,none⟩=some (.slice A ks.length c)) (hr:BX (Flat fun n:Int=>[.int .i64 n]) 1 0 W S A ks) (hJ0:J [] W) :
 CallsIn F n Tryz.prog 248 #[.func (.yield lp) #[] #[],.pointer (some ⟨gs,0,none⟩),.pointer (some ⟨gk,0,none⟩)] W fun e W'=>(∃ v,e=.returned v) ∧
  ((∃ ys,ys=Ca ks.length ks.length∧J ys W')∨(∃ pre,pre <+: Ca ks.length ks.length∧Jx pre W')):=by
 have HY:=qh hY
 have HC:Hid (∀ k,k<ks.length→∃ b off,A=some ⟨b,off,none⟩∧∀ W',CS S W W'→W'.cell? ⟨b,off+k,none⟩=some (.int .i64 (nth 0 ks k))):=fun k hk=>by
  obtain ⟨b,off,e,hb,h1⟩:=BR hr (by omega)
  exact ⟨b,off,e,fun W' hK=>(hK b _ hb).trans (h1 k hk)⟩
 have zW:=qh (fun k (h:k≤ks.length)=>Kz h)
 have LH:Hid (∀ i,GX hi ks i=if i+1<ks.length then nth 0 ks (i+1) else hi):=fun i=>rfl
 clear hY hr
 generalize hl0:ks.length=nd at *
 have hl:=qh hl0
 clear hl0
 refine callsIn_of_wp Tryz.func248 rfl hf ?_ hro
 simp only [Tryz.ntmps248,List.size_toArray,List.length_cons,List.length_nil,Nat.reduceAdd,Nat.reduceSub,Array.replicate_succ,Array.replicate_zero,List.push_toArray,List.append_toArray,List.nil_append,List.cons_append]
 gi_wp2
 gi_loopw [4,5] (fun vh vi wr=>∃ m:Nat,m≤nd∧vi=.int .i64 ((m:Int)-1)∧(∃ z,vh=.int .i64 z∧Hid (z=if m<nd then nth 0 ks m else hi))∧J (Ca nd (nd-m)) wr∧CS S W wr∧W.heap.size≤wr.heap.size) (fun _ vi _=>(intOf vi+1).toNat)
 case atStart=>exact ⟨nd,Nat.le_refl _,rfl,⟨hi,rfl,by show _=_;rw [if_neg (by omega)]⟩,by rw [Nat.sub_self];exact hJ0,CS.refl,Nat.le_refl _⟩
 case round =>
  obtain ⟨m,hm,rfl,⟨z,rfl,HZ⟩,hJs,hK,hz⟩:=hrel
  cases m with
  | zero =>
   rw [Nat.sub_zero] at hJs
   gi_wp2
   go_end0
   exact ⟨⟨_,rfl⟩,.inl ⟨_,rfl,hJs⟩⟩
  | succ x =>
   rw [show (((x+1:Nat):Int)-1)=(x:Int) by omega]
   obtain ⟨b,off,rfl,hq⟩:=HC.out x (by omega)
   have q0:=hq wr hK
   have k1:=(hK gk 0 iA).trans h1
   have hxl:(x:Int)<(nd:Int):=by omega
   have hEZ:GX hi ks x=z:=by rw [LH.out,HZ.out]
   obtain ⟨fn,tmps,assign,body,hy,hR⟩:=HY.out (Ca nd (nd-(x+1))) x wr (by omega) hJs (by rw [Pg];omega)
   have hsn:Ca nd (nd-(x+1))++[x]=Ca nd (nd-x):=by
    rw [show nd-x=(nd-(x+1))+1 by omega,II,show nd-1-(nd-(x+1))=x by omega]
   rw [hsn] at hR
   have hpx:=zW.out (nd-x) (by omega)
   dsimp only [mV] at hy
   rw [hEZ] at hy
   have uH:=qh hpx
   have HH1:=qh h1
   have HQ:=qh hq
   obtain ⟨y,xy⟩:∃ y,nth 0 ks x=y:=⟨_,rfl⟩
   have yj:Hid (y=if x<nd then nth 0 ks x else hi):=by show _=_;rw [if_pos (by omega),xy]
   rw [xy] at q0 hy HQ
   clear hEZ hsn hJs hpx h0 h1 hq xy
   gi_wp2
   refine hR.mono ?_
   rintro e W3 (⟨rfl,hJ3,hk3⟩|⟨rfl,hJx3⟩)
   · have hk31:=hk3.1
     have uI:=hk3.2
     have mW:=hK.trans hk31
     have q3:=HQ.out W3 mW
     have k3:=(mW gk 0 iA).trans HH1.out
     gi_wp2
     go_roundw
     case rel=>exact ⟨x,by omega,rfl,⟨y,rfl,yj⟩,hJ3,mW,by omega⟩
     case measure=>simp [intOf]
   · gi_wp2
     refine bodyPost_ret (results_none rfl _ _ _) rfl ?_
     exact ⟨⟨_,rfl⟩,.inr ⟨_,uH.out,hJx3⟩⟩
end
section
open Go.RowKit Go.Shelf
attribute [local go_sem] Oper.semAt_some
theorem XE (F:Fence) (n:Nat) (hf:F.fn 248) (hro:F.round=none) (hn:1≤n) (gs gk:Nat) (S:Nat→Prop) (lo hi:Int) (A:Option Addr) (c:Nat) (ks:List Int) (w:World)
 (hS:∀ b,S b→b<w.heap.size) (hnl:ks.length≤1000000) (hSs:S gs) (iA:S gk) (h0:w.cell? ⟨gs,1,none⟩=some (.int .i64 hi)) (h1:w.cell? ⟨gk,0,none⟩=some (.slice A ks.length c)) (hr:BX (Flat fun n:Int=>[.int .i64 n]) 1 0 w S A ks) :
 SeqStopsK F n Tryz.prog 248 #[.pointer (some ⟨gs,0,none⟩),.pointer (some ⟨gk,0,none⟩)] (fun x:{ k:Nat // k<ks.length }=>mV hi ks x.1) (qK S) (fun xs=>xs.map (·.1)=Ca ks.length ks.length) (fun pre=>pre.map (·.1) <+: Ca ks.length ks.length) ks.length w:=fun lp J Jx W hW hJ _ hY hj0=>by
 have hWS:∀ b,S b→b<W.heap.size:=fun b hb=>Nat.lt_of_lt_of_le (hS b hb) hW.size
 refine (aK F n hf hro hn lp gs gk S lo hi A c ks (fun pre W=>∃ pre':List { k:Nat // k<ks.length },pre'.map (·.1)=pre∧J pre' W) (fun pre W=>∃ pre':List { k:Nat // k<ks.length },pre'.map (·.1)=pre∧Jx pre' W) ?_ W hWS hnl hSs iA
  ((hW.cell (p:=⟨gs,1,none⟩) (hS _ hSs)).trans h0) ((hW.cell (p:=⟨gk,0,none⟩) (hS _ iA)).trans h1) (hr.keep (AA _) (fun _ h=>h) (AL hW hS)) ⟨[],rfl,hj0⟩).mono ?_
 · rintro pre x W1 hx ⟨pre',rfl,hj⟩ hlen
   obtain ⟨fn,tmps,assign,body,hy,hR⟩:=hY pre' ⟨x,hx⟩ W1 hj (by simpa using hlen)
   refine ⟨fn,tmps,assign,body,hy,hR.mono ?_⟩
   rintro e W' (⟨rfl,h1,h2⟩|⟨rfl,h1⟩)
   · exact .inl ⟨rfl,⟨_,by simp,h1⟩,h2⟩
   · exact .inr ⟨rfl,⟨_,by simp,h1⟩⟩
 · rintro e W' ⟨he,⟨ys,hys,ys',rfl,hj⟩|⟨pre,hpre,pre',rfl,hj⟩⟩
   · exact ⟨he,.inl ⟨ys',hys,hj⟩⟩
   · exact ⟨he,.inr ⟨pre',hpre,hj⟩⟩
theorem qL {S:Nat→Prop} {A B C:World} (h:qK S A B) (k:qK S B C):qK S A C:=⟨h.1.trans k.1,Nat.le_trans h.2 k.2⟩
theorem qM {S:Nat→Prop} {w:World} (hS:∀ b,S b→b<w.heap.size) (W:World) (l:Nat) (o':Obj) (hl:w.heap.size≤l):qK S W (W.putObj l o') :=
 ⟨fun b i hb=>by
  have hg:=grownBy_putObj' W l o'
  by_cases hbW:b<W.heap.size
  · exact World.cell?_of_block (a:=⟨b,i,none⟩) (hg.block b hbW (fun e=>by have:=hS b hb;cases e;omega))
  · have:=hg.size
    have h1:=hS b hb
    have e1:W.heap[b]? = none:=Array.getElem?_eq_none (by omega)
    have e2:(W.putObj l o').heap[b]? = none:=by
     refine Array.getElem?_eq_none ?_
     have:(W.putObj l o').heap.size=W.heap.size:=by simp [World.putObj]
     omega
    simp [World.cell?,e1,e2],(grownBy_putObj' W l o').size⟩
theorem mX (w:World) (lo hi:Int) (A:Option Addr) (n c:Nat):Calls Tryz.prog 239 #[.agg #[.int .i64 lo,.int .i64 hi],.slice A n c] w fun e w' =>
 e=.returned (.func (.func 248) #[] #[.pointer (some ⟨w.heap.size,0,none⟩),.pointer (some ⟨w.heap.size+1,0,none⟩)])∧w'=(w.alloc (.cells #[.int .i64 lo,.int .i64 hi] 283)).alloc (.cells #[.slice A n c] 29):=by
 go_enter Tryz.func239,Tryz.ntmps239
 go_wp2
 go_ret
 exact ⟨rfl,rfl⟩
def Gf (x:Int × Int):List Value:=[.int .i64 x.1,.int .i64 x.2]
theorem I8 (x:Int × Int):(Gf x).length=2:=rfl
theorem XF {l:List (Int × Int)} {i:Nat} (x:Int × Int) (hi:i<l.length):((AB Gf l).set (i*2) (.int .i64 x.1)).set (i*2+1) (.int .i64 x.2)=AB Gf (l.set i x):=by
 induction l generalizing i with
 | nil=>simp at hi
 | cons m l ih =>
  cases i with
  | zero=>rfl
  | succ i =>
   have e:∀ (a b:Value) (r:List Value) (u:Value) (j:Nat),(a :: b :: r).set (j+2) u=a :: b :: r.set j u:=fun _ _ _ _ _=>rfl
   have e0:AB Gf (m :: l)=.int .i64 m.1 :: .int .i64 m.2 :: AB Gf l:=rfl
   have e1:AB Gf ((m :: l).set (i+1) x)=.int .i64 m.1 :: .int .i64 m.2 :: AB Gf (l.set i x):=rfl
   rw [e0,e1,← ih (by simp at hi;omega),show (i+1)*2=i*2+2 by omega,e,show i*2+2+1=(i*2+1)+2 by omega,e]
theorem iB {w:World} {base e g n cap k:Nat} {l:List (Int × Int)} (h:w.ownsRow base e 2 (.slice (some ⟨g,0,none⟩) n cap) n (AB Gf l)) (x:Int × Int) (hk:k<n) (hn:l.length=n) :
 ((w.setCell ⟨g,k*2,none⟩ (.int .i64 x.1)).setCell ⟨g,k*2+1,none⟩ (.int .i64 x.2)).ownsRow base e 2 (.slice (some ⟨g,0,none⟩) n cap) n (AB Gf (l.set k x))∧w.grownBy ((w.setCell ⟨g,k*2,none⟩ (.int .i64 x.1)).setCell ⟨g,k*2+1,none⟩ (.int .i64 x.2)) (some g):=by
 rw [← XF x (by omega)]
 exact ⟨((h.stored _ _).1.stored _ _).1,UI (h.stored _ _).2 ((h.stored _ _).1.stored _ _).2⟩
theorem ACj {w:World} {base e g n cap k:Nat} {l:List (Int × Int)} (h:w.ownsRow base e 2 (.slice (some ⟨g,0,none⟩) n cap) n (AB Gf l)) (hk:k<n) (hn:l.length=n) :
 w.cell? ⟨g,k*2,none⟩=some (.int .i64 (nth (0,0) l k).1)∧w.cell? ⟨g,k*2+1,none⟩=some (.int .i64 (nth (0,0) l k).2):=by
 subst hn
 exact ⟨(h.cellAt _ (by omega)).trans (DK (d:=(0,0)) I8 l k 0 _ hk rfl),(h.cellAt _ (by omega)).trans (DK (d:=(0,0)) I8 l k 1 _ hk rfl)⟩
def K3 (hi:Int) (ks:List Int) (pre:List Nat):List (Int × Int):=pre.foldl (fun l i=>l.set i (nth 0 ks i,GX hi ks i)) (List.replicate ks.length (0,0))
theorem Ph (hi:Int) (ks:List Int) (pre:List Nat) (i:Nat):K3 hi ks (pre++[i])=(K3 hi ks pre).set i (nth 0 ks i,GX hi ks i):=by simp [K3]
theorem I9 (hi:Int) (ks:List Int) (pre:List Nat):(K3 hi ks pre).length=ks.length:=by
 unfold K3
 have:∀ (l:List (Int × Int)),(pre.foldl (fun l i=>l.set i (nth 0 ks i,GX hi ks i)) l).length=l.length:=by
  induction pre with
  | nil=>intro l;rfl
  | cons i p ih=>intro l;rw [List.foldl_cons,ih,List.length_set]
 rw [this,List.length_replicate]
theorem Rp (hi:Int) (ks:List Int):∀ (k j:Nat),k≤ks.length→j<ks.length→ks.length-k≤j→nth (0,0) (K3 hi ks (Ca ks.length k)) j=(nth 0 ks j,GX hi ks j)
 | 0,j,_,h1,h2=>by omega
 | k+1,j,h0,h1,h2=>by
  rw [II,Ph,Ac _ _ j (by rw [List.length_set,I9];exact h1)]
  by_cases e:ks.length-1-k=j
  · subst e
    rw [List.getElem_set_self]
  · rw [List.getElem_set_ne e,← Ac (0,0) _ j (by rw [I9];exact h1),Rp hi ks k j (by omega) h1 (by omega)]
theorem aL (hi:Int) (ks:List Int):K3 hi ks (Ca ks.length ks.length)=spansOf hi ks:=by
 apply List.ext_getElem
 · rw [I9,Dj]
 · intro i h1 h2
   rw [I9] at h1
   rw [← Ac (0,0) _ i,← Ac (0,0) _ i,H9 hi ks i h1,Rp hi ks _ i (Nat.le_refl _) h1 (by omega)]
theorem mY {β:Type} (b:Nat) (cs:Array Value) (T:TypeId):Own (fun (_:β) W=>AP W b cs T):=fun s X Y row hs hg hrow =>
 (hg.block b (Array.getElem?_eq_some_iff.1 hs).1 (fun e=>by obtain ⟨o,ho,hc⟩:=hrow b e.symm;rw [show X.heap[b]? = _ from hs] at ho;cases ho;cases hc)).trans hs
theorem MH {β:Type} (B n:Nat):OwnFrom B (fun (_:β) W=>n≤W.heap.size):=fun _ _ _ _ hs hg _=>Nat.le_trans hs hg.size
theorem Yb {β:Type} {base e size n:Nat} (v:Value) (f:β→List Value):Own (fun s W=>W.ownsRow base e size v n (f s)):=fun s X Y row hs hg hrow=>by
 refine hs.kept hg ?_
 rcases hs.2 with ⟨hv,_⟩|⟨g',cap',cur,hv,_,hgb,_⟩
 · left;rw [hv];rfl
 · right
   rw [hv]
   intro e
   obtain ⟨o,ho,hc⟩:=hrow g' e.symm
   rw [hgb] at ho;cases ho;cases hc
end
section
open Go.RowKit Go.Shelf
attribute [local go_sem] Oper.semAt_some
def mZ (ks:List Int) (i:Nat):Array Value:=#[.int .i64 (i:Int),.int .i64 (nth 0 ks i)]
set_option maxRecDepth 100000 in
theorem aM (F:Fence) (n:Nat) (hf:F.fn 244) (hro:F.round=none) (hn:1≤n) (lp gk:Nat) (S:Nat→Prop) (A:Option Addr) (c:Nat) (ks:List Int) (J Jx:List Nat→World→Prop)
 (hY:∀ pre x W,x<ks.length→J pre W→pre.length<ks.length→YieldAt F (n-1) Tryz.prog lp (mZ ks x) W fun e W' =>
  (e=.returned (.bool true)∧J (pre++[x]) W'∧qK S W W')∨(e=.returned (.bool false)∧Jx (pre++[x]) W'))
 (W:World) (hS:∀ b,S b→b<W.heap.size) (hnl:ks.length≤1000000) (iA:S gk)
 (h1:W.cell? ⟨gk,0,none⟩=some (.slice A ks.length c)) (hr:BX (Flat fun n:Int=>[.int .i64 n]) 1 0 W S A ks) (hJ0:J [] W) :
 CallsIn F n Tryz.prog 244 #[.func (.yield lp) #[] #[],.pointer (some ⟨gk,0,none⟩)] W fun e W'=>(∃ v,e=.returned v) ∧
  ((∃ ys,ys=Ca ks.length ks.length∧J ys W')∨(∃ pre,pre <+: Ca ks.length ks.length∧Jx pre W')):=by
 have HY:=qh hY
 have HC:Hid (∀ k,k<ks.length→∃ b off,A=some ⟨b,off,none⟩∧∀ W',CS S W W'→W'.cell? ⟨b,off+k,none⟩=some (.int .i64 (nth 0 ks k))):=fun k hk=>by
  obtain ⟨b,off,e,hb,h1⟩:=BR hr (by omega)
  exact ⟨b,off,e,fun W' hK=>(hK b _ hb).trans (h1 k hk)⟩
 have zW:=qh (fun k (h:k≤ks.length)=>Kz h)
 clear hY hr
 generalize hl0:ks.length=nd at *
 have hl:=qh hl0
 clear hl0
 refine callsIn_of_wp Tryz.func244 rfl hf ?_ hro
 simp only [Tryz.ntmps244,List.size_toArray,List.length_cons,List.length_nil,Nat.reduceAdd,Nat.reduceSub,Array.replicate_succ,Array.replicate_zero,List.push_toArray,List.append_toArray,List.nil_append,List.cons_append]
 gi_wp2
 gi_loopw [3] (fun vi wr=>∃ m:Nat,m≤nd∧vi=.int .i64 ((m:Int)-1)∧J (Ca nd (nd-m)) wr∧CS S W wr∧W.heap.size≤wr.heap.size) (fun vi _=>(intOf vi+1).toNat)
 case atStart=>exact ⟨nd,Nat.le_refl _,rfl,by rw [Nat.sub_self];exact hJ0,CS.refl,Nat.le_refl _⟩
 case round =>
  obtain ⟨m,hm,rfl,hJs,hK,hz⟩:=hrel
  cases m with
  | zero =>
   rw [Nat.sub_zero] at hJs
   gi_wp2
   go_end0
   exact ⟨⟨_,rfl⟩,.inl ⟨_,rfl,hJs⟩⟩
  | succ x =>
   rw [show (((x+1:Nat):Int)-1)=(x:Int) by omega]
   obtain ⟨b,off,rfl,hq⟩:=HC.out x (by omega)
   have q0:=hq wr hK
   have k1:=(hK gk 0 iA).trans h1
   have hxl:(x:Int)<(nd:Int):=by omega
   obtain ⟨fn,tmps,assign,body,hy,hR⟩:=HY.out (Ca nd (nd-(x+1))) x wr (by omega) hJs (by rw [Pg];omega)
   have hsn:Ca nd (nd-(x+1))++[x]=Ca nd (nd-x):=by
    rw [show nd-x=(nd-(x+1))+1 by omega,II,show nd-1-(nd-(x+1))=x by omega]
   rw [hsn] at hR
   have hpx:=zW.out (nd-x) (by omega)
   dsimp only [mZ] at hy
   have uH:=qh hpx
   have HH1:=qh h1
   have HQ:=qh hq
   obtain ⟨y,xy⟩:∃ y,nth 0 ks x=y:=⟨_,rfl⟩
   rw [xy] at q0 hy HQ
   clear hsn hJs hpx h1 hq xy
   gi_wp2
   refine hR.mono ?_
   rintro e W3 (⟨rfl,hJ3,hk3⟩|⟨rfl,hJx3⟩)
   · have hk31:=hk3.1
     have uI:=hk3.2
     have mW:=hK.trans hk31
     have q3:=HQ.out W3 mW
     have k3:=(mW gk 0 iA).trans HH1.out
     gi_wp2
     go_roundw
     case rel=>exact ⟨x,by omega,rfl,hJ3,mW,by omega⟩
     case measure=>simp [intOf]
   · gi_wp2
     refine bodyPost_ret (results_none rfl _ _ _) rfl ?_
     exact ⟨⟨_,rfl⟩,.inr ⟨_,uH.out,hJx3⟩⟩
theorem XG (F:Fence) (n:Nat) (hf:F.fn 244) (hro:F.round=none) (hn:1≤n) (gk:Nat) (S:Nat→Prop) (A:Option Addr) (c:Nat) (ks:List Int) (w:World)
 (hS:∀ b,S b→b<w.heap.size) (hnl:ks.length≤1000000) (iA:S gk) (h1:w.cell? ⟨gk,0,none⟩=some (.slice A ks.length c)) (hr:BX (Flat fun n:Int=>[.int .i64 n]) 1 0 w S A ks) :
 SeqStopsK F n Tryz.prog 244 #[.pointer (some ⟨gk,0,none⟩)] (fun x:{ k:Nat // k<ks.length }=>mZ ks x.1) (qK S) (fun xs=>xs.map (·.1)=Ca ks.length ks.length) (fun pre=>pre.map (·.1) <+: Ca ks.length ks.length) ks.length w:=fun lp J Jx W hW hJ _ hY hj0=>by
 have hWS:∀ b,S b→b<W.heap.size:=fun b hb=>Nat.lt_of_lt_of_le (hS b hb) hW.size
 refine (aM F n hf hro hn lp gk S A c ks (fun pre W=>∃ pre':List { k:Nat // k<ks.length },pre'.map (·.1)=pre∧J pre' W) (fun pre W=>∃ pre':List { k:Nat // k<ks.length },pre'.map (·.1)=pre∧Jx pre' W) ?_ W hWS hnl iA
  ((hW.cell (p:=⟨gk,0,none⟩) (hS _ iA)).trans h1) (hr.keep (AA _) (fun _ h=>h) (AL hW hS)) ⟨[],rfl,hj0⟩).mono ?_
 · rintro pre x W1 hx ⟨pre',rfl,hj⟩ hlen
   obtain ⟨fn,tmps,assign,body,hy,hR⟩:=hY pre' ⟨x,hx⟩ W1 hj (by simpa using hlen)
   refine ⟨fn,tmps,assign,body,hy,hR.mono ?_⟩
   rintro e W' (⟨rfl,h1,h2⟩|⟨rfl,h1⟩)
   · exact .inl ⟨rfl,⟨_,by simp,h1⟩,h2⟩
   · exact .inr ⟨rfl,⟨_,by simp,h1⟩⟩
 · rintro e W' ⟨he,⟨ys,hys,ys',rfl,hj⟩|⟨pre,hpre,pre',rfl,hj⟩⟩
   · exact ⟨he,.inl ⟨ys',hys,hj⟩⟩
   · exact ⟨he,.inr ⟨pre',hpre,hj⟩⟩
theorem ma (w:World) (A:Option Addr) (n c:Nat):Calls Tryz.prog 236 #[.slice A n c] w fun e w' =>
 e=.returned (.func (.func 244) #[] #[.pointer (some ⟨w.heap.size,0,none⟩)])∧w'=w.alloc (.cells #[.slice A n c] 29):=by
 go_enter Tryz.func236,Tryz.ntmps236
 go_wp2
 go_ret
 exact ⟨rfl,rfl⟩
end
section
open Go.RowKit Go.Shelf
attribute [local go_sem] Oper.semAt_some
theorem Wk.ACk {w w':World} {base a img:Nat} {tree fuel:Int} {st:WS} {way:List Int} {Ae Ab Af Aw:Option Addr} {ce cb cf cw:Nat} {vs:List Value} (h:Wk w base a img tree fuel st way Ae ce Ab cb Af cf Aw cw vs) {row:Option Nat} (hg:w.grownBy w' row) (hr:∀ r,row=some r→∃ o:Obj,w.heap[r]? = some o∧o.isCells=false):Wk w' base a img tree fuel st way Ae ce Ab cb Af cf Aw cw vs:=by
 have key:∀ b cs (T:TypeId) fr,w.heap[b]? = some (Obj.cells cs T fr)→some b≠row:=fun b cs T fr hb e=>by
  obtain ⟨o,ho,hc⟩:=hr b e.symm
  rw [hb] at ho
  cases ho
  cases hc
 have kr:∀ {e size n:Nat} {v:Value} {xs:List Value},w.ownsRow base e size v n xs→w'.ownsRow base e size v n xs:=fun {e size n v xs} h1=>by
  refine h1.kept hg ?_
  rcases h1.2 with ⟨hv,_⟩|⟨g',cap',cur,hv,_,hgb,_⟩
  · left;rw [hv];rfl
  · right;rw [hv];exact key g' _ _ _ hgb
 obtain ⟨k1,k2⟩:=E8 (w:=w) (w':=w') (base:=base) (fun b cs hb=>hg.block b (Array.getElem?_eq_some_iff.1 hb).1 (key b _ _ _ hb))
 exact ⟨h.low,(hg.block a h.box.lt (key a _ _ _ h.box)).trans h.box,kr h.AO,kr h.AV,kr h.AR,kr h.ways,h.apart,h.errs.keep k1 k2⟩
theorem aN {β:Type} {base:Nat} (f:β→List Int) (c:Int) (v:Value):Own (fun s W=>D7 W (FB W base) v (f s) c):=fun s X Y row hs hg hrow=>by
 obtain ⟨k1,k2⟩:=E8 (w:=X) (w':=Y) (base:=base) (fun b cs hb=>hg.block b (Array.getElem?_eq_some_iff.1 hb).1 (fun e=>by
  obtain ⟨o,ho,hc⟩:=hrow b e.symm
  rw [hb] at ho;cases ho;cases hc))
 exact hs.keep k1 k2
def IZ (way:List Int) (bs:List Int) (pre:List Nat):List Int:=pre.foldl (fun l i=>nth 0 way i :: l) bs
theorem NZ (way bs:List Int) (pre:List Nat) (i:Nat):IZ way bs (pre++[i])=nth 0 way i :: IZ way bs pre:=by simp [IZ]
theorem Na (way bs:List Int):∀ k,k≤way.length→IZ way bs (Ca way.length k)=way.drop (way.length-k)++bs
 | 0,_=>by simp [IZ,Ca]
 | k+1,h=>by
  rw [II,NZ,Na way bs k (by omega),show way.length-(k+1)=way.length-1-k by omega,Eb 0 way (way.length-1-k) (by omega),show way.length-1-k+1=way.length-k by omega]
  rfl
theorem XH (way bs:List Int):IZ way bs (Ca way.length way.length)=way++bs:=by rw [Na way bs _ (Nat.le_refl _),Nat.sub_self,List.drop_zero]
theorem iC:(Tryz.prog.info? 40).map (fun i=>(i.zero,i.size,i.bytes))=some (some .nilIface,1,16):=by kernel_rfl
def KA (a:Nat) (st:WS) (Af:Option Addr) (cf:Nat) (x:Nat):Prop:=x=a∨(Value.slice Af st.AR.length cf).ownBlock=some x
theorem KA.all {a:Nat} {st:WS} {way:List Int} {Ae Ab Af Aw:Option Addr} {ce cb cf cw x:Nat} (h:KA a st Af cf x):Gn a st way Ae ce Ab cb Af cf Aw cw x:=h.elim .inl (fun h=>.inr (.inr (.inr (.inl h))))
def uJ (w:World) (base a img:Nat) (tree fuel:Int) (st:WS) (way:List Int) (Ae Ab Af Aw:Option Addr) (ce cb cf cw:Nat) (vs:List Value) (bs:List Int) (c:Int) (e:Ending) (w':World):Prop :=
 (∃ r,e=.returned r)∧∃ Af' cf' v',Wk w' base a img tree fuel (Ad st ⟨bs,c⟩) way Ae ce Ab cb Af' cf' Aw cw (vs++[v'])∧Touch (KA a st Af cf) w w'∧(∀ y,(Value.slice Af' (st.AR.length+1) cf').ownBlock=some y→(Value.slice Af st.AR.length cf).ownBlock=some y∨w.heap.size≤y)
set_option maxRecDepth 100000 in
theorem Pi (w:World) (base a img:Nat) (tree fuel:Int) (st:WS) (way:List Int) (Ae Ab Af Aw:Option Addr) (ce cb cf cw:Nat) (vs:List Value) (v:Value) (bs:List Int) (c:Int)
 (h:Wk w base a img tree fuel st way Ae ce Ab cb Af cf Aw cw vs) (hv:D7 w (FB w base) v bs c) (hbase:base≤w.heap.size) (hn:way.length≤1000) (hf:st.AR.length≤1000000000) :
 Calls Tryz.prog 223 #[.pointer (some ⟨a,0,none⟩),v] w fun e w'=>uJ w base a img tree fuel st way Ae Ab Af Aw ce cb cf cw vs (way++bs) c e w':=by
 have hc:=h.cells.2.2.2.2.2.2.2.2.1
 have halt:=h.box.lt
 have H:=qh h
 have hrow:BX (Flat fun n:Int=>[.int .i64 n]) 1 0 w (fun b=>(Value.slice Aw way.length cw).ownBlock=some b) Aw way:=fun hp=>by
  obtain ⟨g,cap,e1,hb,hg,hcap⟩:=FV h.ways hp
  injection e1 with e1 e2 e3
  subst e1 e3
  refine ⟨g,0,rfl,rfl,fun k hk=>⟨[.int .i64 (nth 0 way k)],rfl,rfl,fun j u hu=>?_⟩⟩
  rcases j with _|j
  · simp at hu
    subst hu
    have h2:=DK (enc:=encI) (d:=(0:Int)) Bh way k 0 (.int .i64 (nth 0 way k)) hk rfl
    rw [← h2,Nat.zero_add]
    exact h.ways.cellAt _ (by omega)
  · simp at hu
 have hSw:∀ b,(Value.slice Aw way.length cw).ownBlock=some b→b<w.heap.size:=fun b hb=>(h.ways.lt b hb).2
 have hwl:∀ x∈[way.length],x=x:=fun _ _=>rfl
 obtain ⟨ty,u,rfl,hty⟩:=hv.form
 have HR:=qh hrow
 have HV:=qh hv
 have f1:Fence.wide.fn 236:=trivial
 refine (callsIn_wide (n:=3)).1 ?_
 refine callsIn_of_wp_marks Tryz.func223 rfl trivial ?_ rfl
 simp only [Tryz.ntmps223,List.size_toArray,List.length_cons,List.length_nil,Nat.reduceAdd,Nat.reduceSub,Array.replicate_succ,Array.replicate_zero,List.push_toArray,List.append_toArray,List.nil_append,List.cons_append]
 gi_wp2_with (gi_at_call 236;refine (callsIn_wide.2 (ma _ _ _ _)).mono ?_;rintro e w2 ⟨rfl,rfl⟩)
 have b1:=Boxed.new w 40 (.iface ty u)
 have hB1:Below w.heap.size w (w.alloc (.cells #[.iface ty u] 40)):=(Below.refl _ _).alloc (Nat.le_refl _) _
 have hz1:(w.alloc (.cells #[.iface ty u] 40)).heap.size=w.heap.size+1:=by simp
 generalize w.alloc (.cells #[.iface ty u] 40)=w1 at *
 have hk2:=AP.new w1 #[.slice Aw way.length cw] 29
 have b2:=b1.alloc (.cells #[.slice Aw way.length cw] 29)
 have hB2:=hB1.alloc (by omega) (.cells #[.slice Aw way.length cw] 29)
 have hz2:(w1.alloc (.cells #[.slice Aw way.length cw] 29)).heap.size=w.heap.size+2:=by simp [hz1]
 rw [hz1] at hk2
 generalize w1.alloc (.cells #[.slice Aw way.length cw] 29)=w2 at *
 have hS2:∀ b,((Value.slice Aw way.length cw).ownBlock=some b∨b=w.heap.size+1)→b<w2.heap.size:=fun b hb=>by
  rcases hb with hb|rfl
  · have:=hSw b hb;omega
  · omega
 have he2:D7 w2 (FB w2 base) (.iface ty u) bs c:=by
  obtain ⟨k1,k2⟩:=E8 (w:=w) (w':=w2) (base:=base) (fun b cs hb=>hB2.block b (Array.getElem?_eq_some_iff.1 hb).1)
  exact HV.out.keep k1 k2
 have hseq:=XG Fence.wide 2 trivial rfl (by omega) (w.heap.size+1) (fun b=>(Value.slice Aw way.length cw).ownBlock=some b∨b=w.heap.size+1) Aw cw way w2 hS2 (by omega) (.inr rfl) (hk2.at 0 _ rfl) (HR.out.keep (AA _) (fun _ h=>.inl h) (AL hB2 hSw))
 clear hk2 hB1 b1 hrow hwl hv
 refine wpIn_rangeFunc_ownH rfl (by omega) (gf:=244) (lb:=#[.pointer (some ⟨w.heap.size+1,0,none⟩)]) rfl trivial (enters_of Tryz.func244 (by kernel_rfl) rfl)
  hseq qL (fun W l o o' hl _ _ _=>qM hS2 W l o' hl) (Below.refl _ _) (fun _=>rfl)
  (fun pre W=>(∃ v',Boxed W w.heap.size 40 v'∧D7 W (FB W base) v' (IZ way bs (pre.map (·.1))) c)∧(Below w.heap.size w W∧w2.heap.size≤W.heap.size))
  (fun _ _ _=>False)
  (OwnFrom.and (fun s W W' row hs hg hr=>by obtain ⟨v',h1,h2⟩:=hs;exact ⟨v',boxed_own w.heap.size 40 (fun (_:Unit)=>v') () W W' row h1 hg (fun r e=>(hr r e).2),aN (fun (_:Unit)=>IZ way bs (s.map (·.1))) c v' () W W' row h2 hg (fun r e=>(hr r e).2)⟩) (OwnFrom.and (ownFrom_below (Nat.le_refl _) (by omega)) (MH _ _)))
  (fun _ _ _ _ _ hs _ _=>hs)
  ⟨⟨_,b2,he2⟩,hB2,Nat.le_refl _⟩
  (fun x a2 W=>a2={ tmps:=#[.pointer (some ⟨a,0,none⟩),.iface ty u,undef,.pointer (some ⟨w.heap.size,0,none⟩),undef,.int .i64 (nth 0 way x.1),.pointer (some ⟨a,0,none⟩),.pointer (some ⟨a,0,none⟩),.pointer (some ⟨a,8,none⟩),.slice Aw way.length cw,.func (.func 244) #[] #[.pointer (some ⟨w.heap.size+1,0,none⟩)],.int .i64 (x.1:Int),.int .i64 (nth 0 way x.1),undef,undef,undef,undef,undef,undef,undef,undef,undef,undef,undef,undef,undef,undef,undef],defers:=[] })
  (fun x a2 _ X Y row hs hg hr=>hs)
  ?assign ?body ?done ?stop
 case assign =>
  rintro lp pre x W K ⟨⟨v',h1,h2⟩,hBW,hWs⟩ hK
  dsimp only [mZ]
  obtain ⟨p,hp⟩:∃ p,nth 0 way x.1=p:=⟨_,rfl⟩
  rw [hp]
  rw [hp] at hK
  gi_wp2
  exact hK _ _ (KeepsOthers.refl W |>.from _) ⟨CS.refl,Nat.le_refl _⟩ ⟨⟨v',h1,h2⟩,hBW,hWs⟩ rfl
 case body =>
  rintro lp pre x a2 W hl' ⟨r,hr⟩ ⟨⟨v',h1,h2⟩,hBW,hWs⟩ rfl hlt
  obtain ⟨ty',u',rfl,_⟩:=h2.form
  have e0:=h1.cell
  have HE:=qh h2
  have HB:=qh h1
  have qE:w.heap.size<W.heap.size:=by omega
  have f4:Fence.wide.fn 151:=trivial
  clear h2 h1
  generalize hp:nth 0 way x.1=p at *
  have HP:=qh hp
  clear hp
  have z0:W.frozen? ⟨w.heap.size,0,none⟩=false:=HB.out.frozen
  gi_wp2_with (gi_at_call 151;refine (CallsIn.inRound lp (callsIn_wide.2 (Dn W p ty' u'))).mono ?_;rintro e w5 ⟨rfl,rfl⟩)
  have hnS:¬ ((Value.slice Aw way.length cw).ownBlock=some w.heap.size∨w.heap.size=w.heap.size+1):=by
   rintro (h|h)
   · have:=hSw _ h;omega
   · omega
  have hsz:(W.setCell ⟨w.heap.size,0,none⟩ (.iface 325 (.pointer (some ⟨W.heap.size,0,none⟩)))).heap.size=W.heap.size:=by simp [World.setCell]
  obtain ⟨k1,k2⟩:=E8 (w:=W) (w':=W.setCell ⟨w.heap.size,0,none⟩ (.iface 325 (.pointer (some ⟨W.heap.size,0,none⟩)))) (base:=base) (fun b cs hb=>Below.heap_setCell W ⟨w.heap.size,0,none⟩ _ b (fun e=>by
   dsimp only at e
   subst e
   have hx:=HB.out
   unfold Boxed at hx
   rw [hx] at hb
   injection hb with hb
   injection hb with _ ht
   exact absurd ht (by decide)))
  have hE2:=HE.out.keep k1 k2
  have xz:=hE2.wrap (fun b hb=>hb.lt) p (FB ((W.setCell ⟨w.heap.size,0,none⟩ (.iface 325 (.pointer (some ⟨W.heap.size,0,none⟩)))).alloc (.cells #[.int .i64 p,.iface ty' u'] 327)) base) (fun b hb=>⟨hb.1,by obtain ⟨cs,h⟩:=hb.2;exact ⟨cs,(Below.heap_alloc _ _ _ hb.lt).trans h⟩⟩) ⟨by rw [hsz];omega,_,heap_alloc_new _ _⟩ 327
  rw [hsz] at xz
  refine ⟨((KeepsOthers.setCell _ _ _).trans (KeepsOthers.alloc _ _)).from _,⟨(FU hnS _).trans (EH (fun b hb=>by rw [hsz];have:=hS2 b hb;omega) _),((KeepsOthers.setCell _ _ _).trans (KeepsOthers.alloc _ _)).size⟩,⟨_,(HB.out.set _).alloc _,?_⟩,?_,?_⟩
  · have e:(pre++[x]).map (·.1)=pre.map (·.1)++[x.1]:=by rw [List.map_append];rfl
    rw [show IZ way bs ((pre++[x]).map (·.1))=p :: IZ way bs (pre.map (·.1)) by rw [e,NZ,HP.out]]
    exact xz
  · exact (hBW.setCell (Nat.le_refl _) _).alloc (by rw [hsz];omega) _
  · rw [World.size_alloc,hsz];omega
 case done =>
  rintro D xs W hD hxs ⟨⟨v',h1,h2⟩,hBW,hWs⟩ hK
  rw [hxs,XH] at h2
  obtain ⟨ty',u',rfl,_⟩:=h2.form
  have TG:=H.out.below hBW
  have e0:=h1.cell
  obtain ⟨y0,y1,y2,y3,y4,y5,y6,y7,y8,y9⟩:=TG.cells
  have z4:=TG.free 4
  gi_wp2_with fail
  refine wpIn_wide.2 (ZA ?_)
  have zX:a≠w.heap.size:=by omega
  have hfl:∀ y,(Value.slice Af st.AR.length cf).ownBlock=some y→y<w.heap.size:=fun y hy=>(H.out.AR.lt y hy).2
  have hsW:=hBW.size
  have hbW:base≤W.heap.size:=by omega
  have XI:Wk (W.drew.alloc (.cells #[.iface ty' u'] 40)) base a img tree fuel st way Ae ce Ab cb Af cf Aw cw vs:=(TG.below (w':=W.drew) ⟨rfl,rfl,rfl,Nat.le_refl _,fun _ _=>rfl⟩).below ((Below.refl _ _).alloc (Nat.le_refl _) _)
  have zY:some a≠(Value.slice Af st.AR.length cf).ownBlock:=BC XI.AR XI.box (by decide)
  have ACl:some w.heap.size≠(Value.slice Af st.AR.length cf).ownBlock:=fun e=>absurd (hfl _ e.symm) (Nat.lt_irrefl _)
  have HE1:D7 (W.drew.alloc (.cells #[.iface ty' u'] 40)) (FB (W.drew.alloc (.cells #[.iface ty' u'] 40)) base) (.iface ty' u') (way++bs) c:=by
   obtain ⟨k1,k2⟩:=E8 (w:=W) (w':=W.drew.alloc (.cells #[.iface ty' u'] 40)) (base:=base) (fun b cs hb=>Below.heap_alloc W.drew _ b (Array.getElem?_eq_some_iff.1 hb).1)
   exact h2.keep k1 k2
  have HW:=qh TG
  have HW1:=qh XI
  have HE:=qh HE1
  have qA:=TG.AR
  have HFK:=qh qA
  have ACm:w.heap.size<W.heap.size:=by omega
  have haW:a<W.heap.size:=by omega
  have HB:=qh h1
  have hz1:(W.drew.alloc (.cells #[.iface ty' u'] 40)).heap.size=W.heap.size+1:=by simp
  have hlt1:a<(W.drew.alloc (.cells #[.iface ty' u'] 40)).heap.size:=by omega
  have hlt2:w.heap.size<(W.drew.alloc (.cells #[.iface ty' u'] 40)).heap.size:=by omega
  clear hz1
  clear qA h2 XI HE1 h1 TG
  refine AF (T:=fun j=>j==12) (S:=fun w'=>w'.cell? ⟨a,4,none⟩=some (.slice Af st.AR.length cf)∧w'.cell? ⟨w.heap.size,0,none⟩=some (.iface ty' u')∧w'.frozen? ⟨a,4,none⟩=false) (by kernel_rfl) (⟨y4,e0,z4⟩) (fun hHeld=>?_)
  refine qs 0 16 hHeld ?_
  refine qs 1 17 hHeld ?_
  refine qs 2 18 hHeld ?_
  refine qs 3 19 hHeld ?_
  refine qs 4 20 hHeld ?_
  refine qf 5 21 rfl rfl hHeld (by intro w hSw;have y4:=hSw.1;go_simp;(try with_reducible rfl)) ?_
  refine qf 6 22 rfl rfl hHeld (by intro w hSw;have e0:=hSw.2.1;go_simp;(try with_reducible rfl)) ?_
  refine qo 7 fun K hK=>?_
  go_simp
  clear hHeld
  have hHeld:=(show World.cell? (W.drew.alloc (.cells #[.iface ty' u'] 40)) ⟨a,4,none⟩=some (.slice Af st.AR.length cf)∧World.cell? (W.drew.alloc (.cells #[.iface ty' u'] 40)) ⟨w.heap.size,0,none⟩=some (.iface ty' u')∧World.frozen? (W.drew.alloc (.cells #[.iface ty' u'] 40)) ⟨a,4,none⟩=false from ⟨(World.cell?_of_block (a:=⟨a,4,none⟩) (Below.heap_alloc W.drew _ a haW)).trans y4,(World.cell?_of_block (a:=⟨w.heap.size,0,none⟩) (Below.heap_alloc W.drew _ w.heap.size ACm)).trans e0,(World.frozen?_of_block (a:=⟨a,4,none⟩) (Below.heap_alloc W.drew _ a haW)).trans z4⟩)
  refine hK.out _ _ (fun _=>hHeld) (fun _=>?_)
  clear hK K
  (try simp only [Act.put,qS])
  refine qo 8 fun K hK=>?_
  refine BD Tryz.underlying176 iC rfl (by omega) (by omega) rfl _ _ rfl base (.slice Af st.AR.length cf) st.AR.length vs rfl (HFK.out.drew.alloc _) (some ⟨W.heap.size,0,none⟩) 1 1 [.iface ty' u'] rfl rfl (fun d hd=>by cases hd;exact Cm W.drew [.iface ty' u'] 40) (by intro x hx;simp at hx;subst hx;rfl) (by omega) (by simp;omega) (by intro h;cases h) ?_
  intro A9 c9 w9 CZ Cu Fh
  have hHeld:=(show World.cell? w9 ⟨a,4,none⟩=some (.slice Af st.AR.length cf)∧World.cell? w9 ⟨w.heap.size,0,none⟩=some (.iface ty' u')∧World.frozen? w9 ⟨a,4,none⟩=false from ⟨(Cu.cell_far ⟨a,4,none⟩ hlt1 zY).trans hHeld.1,(Cu.cell_far ⟨w.heap.size,0,none⟩ hlt2 ACl).trans hHeld.2.1,(Cu.frozen_far ⟨a,4,none⟩ hlt1 zY).trans hHeld.2.2⟩)
  refine hK.out _ _ (fun _=>hHeld) (fun _=>?_)
  clear hK K
  (try simp only [Act.put])
  refine qo 9 fun K hK=>?_
  go_simp
  refine hK.out _ _ (fun _=>hHeld) (fun _=>?_)
  clear hK K
  (try simp only [Act.put,qS])
  refine qo 10 fun K hK=>?_
  go_simp
  refine hK.out _ _ (fun _=>hHeld) (fun _=>?_)
  clear hK K
  (try simp only [Act.put,qS])
  refine qs 11 27 hHeld ?_
  refine qo 12 fun K hK=>?_
  go_simp
  refine hK.out _ _ (fun h=>by cases h) (fun _=>?_)
  clear hK K hHeld
  (try simp only [Act.put,qS])
  refine qd ?_
  have Cu:World.grownBy (W.drew.alloc (.cells #[.iface ty' u'] 40)) w9 (Value.slice Af st.AR.length cf).ownBlock:=Cu
  have uK:=HW1.out.flt (f:=⟨way++bs,c⟩) CZ Cu HE.out
  clear hHeld
  have hDW:D<W.heap.size:=(Array.getElem?_eq_some_iff.1 hK).1
  have hDa:D≠a:=by omega
  have hK9:w9.heap[D]? = some (.deferred (some [])):=(Cu.block D (by show D<_;simp;omega) (fun e=>by have:=hfl D e.symm;omega)).trans ((Below.heap_alloc W.drew _ D hDW).trans hK)
  have zZ:(w9.setCell ⟨a,4,none⟩ (.slice A9 (st.AR.length+1) c9)).heap[D]? = some (.deferred (some [])):=(Below.heap_setCell w9 ⟨a,4,none⟩ _ D hDa).trans hK9
  have t1:Touch (KA a st Af cf) w W:=Touch.of_below hBW
  have t2:Touch (KA a st Af cf) W (W.drew.alloc (.cells #[.iface ty' u'] 40)):=Touch.drew.trans (Touch.alloc _)
  have t3:Touch (KA a st Af cf) (W.drew.alloc (.cells #[.iface ty' u'] 40)) w9:=Touch.BO Cu (fun x hx=>.inr hx)
  have t4:Touch (KA a st Af cf) w9 (w9.setCell ⟨a,4,none⟩ (.slice A9 (st.AR.length+1) c9)):=Touch.Dc (.inl rfl)
  refine ⟨by simp,.inl ⟨_,_,rfl,run_takeDeferred zZ,?_⟩⟩
  refine ⟨_,results_none rfl _ _ _,⟨_,rfl⟩,A9,c9,_,uK.ACk (grownBy_putObj' _ D _) (fun r e=>by cases e;exact ⟨_,zZ,rfl⟩),(((t1.trans t2).trans t3).trans t4).trans' (Touch.BO (R:=fun x=>x=D) (grownBy_putObj' _ D _) (fun x e=>by cases e;rfl)) (fun x e=>.inr (by omega)),fun y hy=>?_⟩
  rcases Fh y hy with h|h
  · exact .inl h
  · right
    rw [h]
    show w.heap.size≤(W.drew.alloc (.cells #[.iface ty' u'] 40)).heap.size
    omega
 case stop =>
  rintro D c pre W _ _ h _
  exact h.elim
end
section
open Go.RowKit
def After (w w':World) (base a img:Nat) (tree fuel:Int) (st st':WS) (way:List Int) (Ae Ab Af Aw:Option Addr) (ce cb cf cw:Nat):Prop :=
 ∃ Ae' ce' Ab' cb' Af' cf' Aw' cw' vs',Wk w' base a img tree fuel st' way Ae' ce' Ab' cb' Af' cf' Aw' cw' vs'∧Touch (Gn a st way Ae ce Ab cb Af cf Aw cw) w w'∧∀ x,Gn a st' way Ae' ce' Ab' cb' Af' cf' Aw' cw' x→Gn a st way Ae ce Ab cb Af cf Aw cw x∨w.heap.size≤x
section
variable {w w' w'':World} {base a img:Nat} {tree fuel:Int} {st st' st'':WS} {way:List Int} {Ae Ab Af Aw Ae' Ab' Af' Aw':Option Addr} {ce cb cf cw ce' cb' cf' cw':Nat}
theorem After.iD (ht:Touch (Gn a st way Ae ce Ab cb Af cf Aw cw) w w') (hx:∀ x,Gn a st' way Ae' ce' Ab' cb' Af' cf' Aw' cw' x→Gn a st way Ae ce Ab cb Af cf Aw cw x∨w.heap.size≤x)
 (h:After w' w'' base a img tree fuel st' st'' way Ae' Ab' Af' Aw' ce' cb' cf' cw'):After w w'' base a img tree fuel st st'' way Ae Ab Af Aw ce cb cf cw:=by
 obtain ⟨E,cE,B,cB,F,cF,W,cW,vs,h1,h2,h3⟩:=h
 refine ⟨E,cE,B,cB,F,cF,W,cW,vs,h1,ht.trans' h2 hx,fun x hxx=>?_⟩
 rcases h3 x hxx with h|h
 · exact hx x h
 · exact .inr (Nat.le_trans ht.size h)
theorem After.za {vs:List Value} (h:Wk w base a img tree fuel st way Ae ce Ab cb Af cf Aw cw vs):After w w base a img tree fuel st st way Ae Ab Af Aw ce cb cf cw :=
 ⟨_,_,_,_,_,_,_,_,_,h,Touch.refl,fun _ h=>.inl h⟩
theorem After.keeps {x y z:Nat} (h:After w.drew w' base a img tree fuel st st' way Ae Ab Af Aw ce cb cf cw) (hn:∀ b,(b=x∨b=y∨b=z)→¬ Gn a st way Ae ce Ab cb Af cf Aw cw b) (hx:x<w.heap.size) (hy:y<w.heap.size) (hz:z<w.heap.size) :
 ∀ b o,(b=x∨b=y∨b=z)→w'.cell? ⟨b,o,none⟩=w.cell? ⟨b,o,none⟩:=fun b o hb=>by
 obtain ⟨_,_,_,_,_,_,_,_,_,_,hT,_⟩:=h
 exact Ap (S:=fun b=>b=x∨b=y∨b=z) hT (fun b hb=>⟨by rcases hb with rfl|rfl|rfl <;> assumption,hn b hb⟩) b o hb
theorem Wk.ZR {vs:List Value} (h:Wk w base a img tree fuel st way Ae ce Ab cb Af cf Aw cw vs):∀ x,Gn a st way Ae ce Ab cb Af cf Aw cw x→x<w.heap.size:=by
 rintro x (rfl|e|e|e|e)
 · exact h.box.lt
 · exact (h.AO.lt x e).2
 · exact (h.AV.lt x e).2
 · exact (h.AR.lt x e).2
 · exact (h.ways.lt x e).2
end
theorem width_le (tree:Int) (leaf:Bool):BF tree leaf≤24:=by
 unfold BF
 repeat' split
 all_goals omega
theorem LJ (bs:List UInt8) (no:Int):∀ v∈(nodeAt bs no).vals,v.length≤24:=by
 unfold nodeAt
 rw [Ml]
 intro v hv
 simp only [Et,List.mem_map] at hv
 obtain ⟨k,_,rfl⟩:=hv
 have:=width_le (AC (Bz bs no) 1 1) (decide (AC (Bz bs no) 0 1=1))
 simp only [NJ,BN,List.length_take,List.length_drop]
 omega
theorem LK (f:Int→Int × Int→WS→WS) (way:List Int) (no:Int) (x:Int × Int) (v:List UInt8) (r:List ((Int × Int) × List UInt8)) (st:WS):Ee f way no ((x,v) :: r) st =
 if (if (Aj v).2≠0 then Ad st ⟨way++[no],(Aj v).2⟩ else f (Aj v).1 x st).Ju=true then (if (Aj v).2≠0 then Ad st ⟨way++[no],(Aj v).2⟩ else f (Aj v).1 x st)
 else Ee f way no r (if (Aj v).2≠0 then Ad st ⟨way++[no],(Aj v).2⟩ else f (Aj v).1 x st):=rfl
theorem VC {w:World} {S:Nat→Prop} {A:Option Addr} {l:List (Int × Int)} (h:BX (Flat Gf) 2 (0,0) w S A l) (hl:0<l.length) :
 ∃ b off,A=some ⟨b,off,none⟩∧S b∧∀ k,k<l.length→w.cell? ⟨b,off+k*2,none⟩=some (.int .i64 (nth (0,0) l k).1)∧w.cell? ⟨b,off+k*2+1,none⟩=some (.int .i64 (nth (0,0) l k).2):=by
 obtain ⟨b,off,e,hb,hc⟩:=h hl
 refine ⟨b,off,e,hb,fun k hk=>?_⟩
 obtain ⟨cs,_,hr,h3⟩:=hc k hk
 obtain rfl:cs=_:=hr
 exact ⟨by simpa using h3 0 _ rfl,by simpa using h3 1 _ rfl⟩
end
end Go.Proofs.YtpenklpdjpkigaaGreat
