/- A part of the proof: Pool, OwnT, Box, Touch. -/
import Derived.Test.YthblbddmcdnllaaGreatDoorY1
set_option maxHeartbeats 6400000
set_option linter.unusedVariables false
set_option linter.unusedSimpArgs false
namespace Go.Proofs.YthblbddmcdnllaaGreatDoor
section
open Go.RowKit
structure Dev where
 id:Int
 tx:Int
 made:Int
 Bz:Int
 maps:List Mp
def Bb:Dev:=⟨0,0,0,0,[]⟩
structure Pool where
 tx:Int
 time:Int
 unit:Int
 data:Int
 Bc:List Dev
def iX:Xy Dev:=fun w S cs d=>∃ A c,cs=[.int .i64 d.id,.int .i64 d.tx,.int .i64 d.made,.int .i64 d.Bz,.slice A d.maps.length c]∧d.maps.length≤c∧Ky w S A d.maps
theorem Dy:Stable iX:=by
 rintro w w' S S' cs d hs hk ⟨A,c,e,hc,hr⟩
 exact ⟨A,c,e,hc,hr.keep ES hs hk⟩
abbrev Ni (w:World) (S:Nat→Prop) (A:Option Addr) (l:List Dev):Prop:=Bw iX 5 Bb w S A l
def iY (w:World) (S:Nat→Prop) (v:Value) (d:Dev):Prop:=∃ A c,v=.agg #[.int .i64 d.id,.int .i64 d.tx,.int .i64 d.made,.int .i64 d.Bz,.slice A d.maps.length c]∧d.maps.length≤c∧Ky w S A d.maps
def FI (w:World) (S:Nat→Prop) (v:Value) (p:Pool):Prop:=∃ A c,v=.agg #[.int .i64 p.tx,.int .i64 p.time,.int .i64 p.unit,.int .i64 p.data,.slice A p.Bc.length c]∧p.Bc.length≤c∧Ni w S A p.Bc
section
variable {w w':World} {S S':Nat→Prop} {v:Value} {p:Pool} {d:Dev}
theorem FI.keep (h:FI w S v p) (hs:∀ b,S b→S' b) (hk:CU S w w'):FI w' S' v p:=by
 obtain ⟨A,c,e,hc,hr⟩:=h
 exact ⟨A,c,e,hc,hr.keep Dy hs hk⟩
theorem FI.below {B:Nat} (h:FI w S v p) (hB:Below B w w') (hs:∀ b,S b→b<B):FI w' S v p:=h.keep (fun _ h=>h) (AR hB hs)
theorem Iq {A:Option Addr} {l:List Dev} (h:Ni w S A l) (hl:0<l.length) :
 ∃ b off,A=some ⟨b,off,none⟩∧S b∧∀ k,k<l.length→w.cell? ⟨b,off+k*5,none⟩=some (.int .i64 (nth Bb l k).id)∧w.cell? ⟨b,off+k*5+1,none⟩=some (.int .i64 (nth Bb l k).tx) ∧
  w.cell? ⟨b,off+k*5+2,none⟩=some (.int .i64 (nth Bb l k).made)∧w.cell? ⟨b,off+k*5+3,none⟩=some (.int .i64 (nth Bb l k).Bz) ∧
  ∃ A' c',w.cell? ⟨b,off+k*5+4,none⟩=some (.slice A' (nth Bb l k).maps.length c')∧(nth Bb l k).maps.length≤c'∧Ky w S A' (nth Bb l k).maps:=by
 obtain ⟨b,off,e,hb,hc⟩:=h hl
 refine ⟨b,off,e,hb,fun k hk=>?_⟩
 obtain ⟨cs,_,⟨A',c',rfl,hc',hr⟩,h3⟩:=hc k hk
 exact ⟨h3 0 _ rfl,h3 1 _ rfl,h3 2 _ rfl,h3 3 _ rfl,A',c',h3 4 _ rfl,hc',hr⟩
end
def Dev.ok (d:Dev):Prop:=In64 d.id∧In64 d.tx∧In64 d.made∧In64 d.Bz∧(∀ m∈d.maps,m.ok)∧d.maps.length≤5864062014805
def Pool.ok (p:Pool):Prop:=In64 p.tx∧In64 p.time∧In64 p.unit∧In64 p.data∧(∀ d∈p.Bc,d.ok)∧p.Bc.length≤5864062014805
theorem Pool.ok.dev {p:Pool} (h:p.ok) {k:Nat} (hk:k<p.Bc.length):(nth Bb p.Bc k).ok:=h.2.2.2.2.1 _ (Ci Bb p.Bc k hk)
def FC (n lo hi:Int):Bool:=decide (lo≤n∧n≤hi)
theorem YG {n lo hi:Int} (h:lo≤n∧n≤hi):FC n lo hi=true:=by simp [FC,h]
theorem Vm {n lo hi:Int} (h:¬ (lo≤n∧n≤hi)):FC n lo hi=false:=by simp only [FC,decide_eq_false_iff_not];exact h
theorem Ki {n lo hi:Int}:FC n lo hi=true↔lo≤n∧n≤hi:=by simp [FC]
def EE (tx:Int) (l:List Int):Bool:=FC tx 0 2147483647 && l.all fun t=>FC t 0 16777215
def Qv (d:Dev):Bool:=FC d.id 0 16777215 && EE d.tx [d.made,d.Bz]
def Cn (d:Dev) (last:Int):Int:=if Qv d=false then 2 else if d.id≤last then 8 else 0
def Jv (data:Int) (m:Mp):Bool:=FC m.v 0 281474976710655 && (FC m.b 0 (data-1) && FC m.t 0 16777215)
def DX (data:Int):Int→List Mp→Int
 | _,[]=>0
 | last,m :: r=>if Jv data m=false then 2 else if m.v≤last then 8 else DX data m.v r
def Dj (data:Int) (l:List Mp):Int:=DX data (-1) l
def DR (data:Int):Int→List Dev→Int
 | _,[]=>0
 | last,d :: r=>if Cn d last≠0 then Cn d last else if Dj data d.maps≠0 then Dj data d.maps else DR data d.id r
def CE:List Dev→Int
 | []=>0
 | d :: r=>(d.maps.length:Int)+CE r
def Pool.count (p:Pool):Int:=CE p.Bc
def Gx (p:Pool):Bool:=EE p.tx [p.time] && (FC p.unit 1 65536 && FC p.data 0 65536)
def KI (p:Pool):Bool:=decide (p.Bc.length≤4096∧p.count≤16384)
def CP (p:Pool):Int:=if Gx p=false then 2 else if KI p=false then 2 else DR p.data (-1) p.Bc
def Gp (data:Int) (l:List Mp) (k:Nat):Prop:=DX data (KH l k) (l.drop k)=Dj data l
section
variable {data:Int} {l:List Mp} {k:Nat}
theorem Gp.zero (data:Int) (l:List Mp):Gp data l 0:=by simp [Gp,KH,Dj]
theorem Gp.done (h:Gp data l k) (hk:l.length≤k):Dj data l=0:=by
 unfold Gp at h;rw [← h,List.drop_eq_nil_of_le hk];rfl
theorem Gp.range (h:Gp data l k) (hk:k<l.length) (hb:Jv data (nth Mv l k)=false):Dj data l=2:=by
 unfold Gp at h;rw [← h,Ef Mv l k hk];simp [DX,hb]
theorem Gp.order (h:Gp data l k) (hk:k<l.length) (h1:Jv data (nth Mv l k)=true) (hb:(nth Mv l k).v≤KH l k):Dj data l=8:=by
 unfold Gp at h;rw [← h,Ef Mv l k hk];simp only [DX];rw [if_neg (by rw [h1];simp),if_pos hb]
theorem Gp.next (h:Gp data l k) (hk:k<l.length) (h1:Jv data (nth Mv l k)=true) (hb:KH l k<(nth Mv l k).v):Gp data l (k+1):=by
 unfold Gp at h ⊢;rw [← h,Ef Mv l k hk,K3];simp only [DX];rw [if_neg (by rw [h1];simp),if_neg (by omega)]
end
def ET (l:List Dev) (k:Nat):Int:=if k=0 then -1 else (nth Bb l (k-1)).id
theorem KJ (l:List Dev) (k:Nat):ET l (k+1)=(nth Bb l k).id:=by simp [ET]
def Gq (data:Int) (l:List Dev) (k:Nat):Prop:=DR data (ET l k) (l.drop k)=DR data (-1) l
section
variable {data:Int} {l:List Dev} {k:Nat}
theorem Gq.zero (data:Int) (l:List Dev):Gq data l 0:=by simp [Gq,ET]
theorem Gq.done (h:Gq data l k) (hk:l.length≤k):DR data (-1) l=0:=by
 unfold Gq at h;rw [← h,List.drop_eq_nil_of_le hk];rfl
theorem Gq.dev (h:Gq data l k) (hk:k<l.length) (hb:Cn (nth Bb l k) (ET l k)≠0):DR data (-1) l=Cn (nth Bb l k) (ET l k):=by
 unfold Gq at h;rw [← h,Ef Bb l k hk];simp only [DR];rw [if_pos hb]
theorem Gq.maps (h:Gq data l k) (hk:k<l.length) (h1:Cn (nth Bb l k) (ET l k)=0) (hb:Dj data (nth Bb l k).maps≠0):DR data (-1) l=Dj data (nth Bb l k).maps:=by
 unfold Gq at h;rw [← h,Ef Bb l k hk];simp only [DR];rw [if_neg (by simp [h1]),if_pos hb]
theorem Gq.next (h:Gq data l k) (hk:k<l.length) (h1:Cn (nth Bb l k) (ET l k)=0) (hb:Dj data (nth Bb l k).maps=0):Gq data l (k+1):=by
 unfold Gq at h ⊢;rw [← h,Ef Bb l k hk,KJ];simp only [DR];rw [if_neg (by simp [h1]),if_neg (by simp [hb])]
end
theorem IY (l r:List Dev):CE (l++r)=CE l+CE r:=by
 induction l with
 | nil=>simp [CE]
 | cons d l ih=>simp only [List.cons_append,CE,ih];omega
theorem O6 (l:List Dev) (k:Nat) (h:k<l.length):CE (l.take (k+1))=CE (l.take k)+(nth Bb l k).maps.length:=by
 rw [Ck Bb l k h,IY];simp [CE]
theorem Fa (l:List Dev):0≤CE l:=by
 induction l with
 | nil=>simp [CE]
 | cons d l ih=>simp only [CE];omega
theorem K4 (l:List Dev) (k:Nat):CE (l.take k)≤CE l:=by
 have:CE l=CE (l.take k)+CE (l.drop k):=by rw [← IY,List.take_append_drop]
 have:=Fa (l.drop k)
 omega
theorem Nj {c:Nat}:∀ (l:List Dev),(∀ d∈l,d.maps.length≤c)→CE l≤(l.length*c:Nat):=by
 intro l
 induction l with
 | nil=>intro _;simp [CE]
 | cons d l ih =>
  intro h
  have h1:=h d (by simp)
  have h2:=ih (fun e he=>h e (by simp [he]))
  simp only [CE,List.length_cons,Nat.add_mul,Nat.one_mul]
  omega
end
section
open Go.RowKit
theorem BC {w:World} {base e size n g:Nat} {v:Value} {xs:List Value} {cs:Array Value} {e2:TypeId} {fr:Nat × Nat} (h:w.ownsRow base e size v n xs) (hg:w.heap[g]? = some (.cells cs e2 fr)) (hne:e≠e2):some g≠v.ownBlock:=fun hv=>by
 rcases h.2 with ⟨rfl,_⟩|⟨g',cap,cur,rfl,_,hg',_⟩
 · cases hv
 · simp only [Value.ownBlock,Option.some.injEq] at hv
   subst hv
   rw [hg] at hg'
   injection hg' with hg'
   injection hg' with _ h2
   exact hne h2.symm
theorem CY {w w':World} {b1 e1 s1 n1 b2 e2 s2 n2:Nat} {v1 v2:Value} {nP pE:List Value} (h:w.ownsRow b1 e1 s1 v1 n1 nP) (h2:w.ownsRow b2 e2 s2 v2 n2 pE) (hne:e2≠e1) (hg:w.grownBy w' v2.ownBlock):w'.ownsRow b1 e1 s1 v1 n1 nP:=by
 refine h.kept hg ?_
 rcases h.2 with ⟨rfl,_⟩|⟨g',cap,cur,rfl,_,hg',_⟩
 · exact .inl rfl
 · exact .inr (BC h2 hg' hne)
theorem Ac {w:World} {base e size n:Nat} {v:Value} {xs:List Value} (h:w.ownsRow base e size v n xs) {a:Addr} (ha:v.ownBlock≠some a.block) (u:Value):(w.setCell a u).ownsRow base e size v n xs:=by
 refine ⟨h.1,?_⟩
 rcases h.2 with ⟨rfl,h0⟩|⟨g,cap,cur,rfl,hb,hg,rest⟩
 · exact .inl ⟨rfl,h0⟩
 · refine .inr ⟨g,cap,cur,rfl,hb,?_,rest⟩
   have hne:g≠a.block:=fun e=>ha (by rw [← e];rfl)
   exact (Below.heap_setCell w a u g hne).trans hg
theorem BL {w:World} {base e size n g:Nat} {v:Value} {xs:List Value} {cs:Array Value} {e2:TypeId} {fr:Nat × Nat} (h:w.ownsRow base e size v n xs) (hg:w.heap[g]? = some (.cells cs e2 fr)) (hne:e≠e2):v.ownBlock≠some g:=fun e=>BC h hg hne e.symm
end
section
open Go.RowKit
def AL (w:World) (g:Nat) (cs:Array Value) (T:TypeId):Prop:=w.heap[g]? = some (.cells cs T (0,0))
section
variable {w w':World} {g b:Nat} {cs:Array Value} {T:TypeId} {a0 a1 a2 a3:Value}
theorem AL.new (w:World) (cs:Array Value) (T:TypeId):AL (w.alloc (.cells cs T)) w.heap.size cs T:=heap_alloc_new w _
theorem AL.lt (h:AL w g cs T):g<w.heap.size:=(Array.getElem?_eq_some_iff.1 h).1
theorem AL.at (h:AL w g cs T) (i:Nat) (v:Value) (hv:cs[i]? = some v):w.cell? ⟨g,i,none⟩=some v:=(cell_of_row _ _ i _ _ (0,0) h).trans hv
theorem AL.free (h:AL w g cs T) (i:Nat):w.frozen? ⟨g,i,none⟩=false:=by unfold AL at h;simp [World.frozen?,h]
theorem AL.below {B:Nat} (h:AL w g cs T) (hB:Below B w w') (hg:g<B):AL w' g cs T:=(hB.block g hg).trans h
theorem AL.far (h:AL w g cs T) (hb:b≠g) (o:Nat) (u:Value):AL (w.setCell ⟨b,o,none⟩ u) g cs T:=(Below.heap_setCell w ⟨b,o,none⟩ u g (Ne.symm hb)).trans h
theorem AL.set (h:AL w g cs T) (i:Nat) (u:Value):AL (w.setCell ⟨g,i,none⟩ u) g (cs.setIfInBounds i u) T:=by
 unfold AL at *
 simp [World.setCell,Array.getElem?_modify,h]
theorem AL.Qw (h:AL w g #[a0,a1,a2,a3] T):w.cell? ⟨g,0,none⟩=some a0∧w.cell? ⟨g,1,none⟩=some a1∧w.cell? ⟨g,2,none⟩=some a2∧w.cell? ⟨g,3,none⟩=some a3:=by
 unfold AL at h
 simp [World.cell?,h]
end
end
section
open Go.RowKit
def Touch (R:Nat→Prop) (w w':World):Prop:=w'.os=w.os∧w'.tape=w.tape∧w'.output=w.output∧w.heap.size≤w'.heap.size∧∀ x,x<w.heap.size→¬ R x→w'.heap[x]? = w.heap[x]?
section
variable {R:Nat→Prop} {w w' w'':World}
theorem Touch.refl:Touch R w w:=⟨rfl,rfl,rfl,Nat.le_refl _,fun _ _ _=>rfl⟩
theorem Touch.trans (h:Touch R w w') (k:Touch R w' w''):Touch R w w'' :=
 ⟨k.1.trans h.1,k.2.1.trans h.2.1,k.2.2.1.trans h.2.2.1,Nat.le_trans h.2.2.2.1 k.2.2.2.1,fun x hx hr=>(k.2.2.2.2 x (Nat.lt_of_lt_of_le hx h.2.2.2.1) hr).trans (h.2.2.2.2 x hx hr)⟩
theorem Touch.weak {R':Nat→Prop} (h:Touch R w w') (hr:∀ x,R x→R' x):Touch R' w w':=⟨h.1,h.2.1,h.2.2.1,h.2.2.2.1,fun x hx hn=>h.2.2.2.2 x hx (fun e=>hn (hr x e))⟩
theorem Touch.size (h:Touch R w w'):w.heap.size≤w'.heap.size:=h.2.2.2.1
theorem Touch.block (h:Touch R w w') {x:Nat} (hx:x<w.heap.size) (hr:¬ R x):w'.heap[x]? = w.heap[x]? := h.2.2.2.2 x hx hr
theorem Touch.of_below (h:Below w.heap.size w w'):Touch R w w':=⟨h.os,h.tape,h.output,h.size,fun x hx _=>h.block x hx⟩
theorem Touch.CV {row:Option Nat} (h:w.grownBy w' row) (hr:∀ x,row=some x→R x):Touch R w w' :=
 ⟨h.os,h.tape,h.output,h.size,fun x hx hn=>h.block x hx (fun e=>hn (hr x e.symm))⟩
theorem Touch.drew:Touch R w w.drew:=⟨rfl,rfl,rfl,Nat.le_refl _,fun _ _ _=>rfl⟩
theorem Touch.drewN (n:Nat):Touch R w (w.drewN n):=⟨rfl,rfl,rfl,Nat.le_refl _,fun _ _ _=>rfl⟩
theorem Touch.alloc (o:Obj):Touch R w (w.alloc o):=⟨rfl,rfl,rfl,by simp,fun x hx _=>Below.heap_alloc w o x hx⟩
theorem Touch.BZ {p:Addr} {u:Value} (hp:R p.block):Touch R w (w.setCell p u) :=
 ⟨rfl,rfl,rfl,by simp [World.setCell],fun x _ hr=>Below.heap_setCell w p u x (fun e=>hr (by rw [e];exact hp))⟩
theorem Touch.below {base:Nat} (h:Touch R w w') (hR:∀ x,R x→base≤x) (hb:base≤w.heap.size):Below base w w' :=
 ⟨h.1,h.2.1,h.2.2.1,h.size,fun x hx=>h.block (by omega) (fun hr=>by have:=hR x hr;omega)⟩
theorem BB {base e size:Nat} {v:Value} {n:Nat} {xs:List Value} (h:w.ownsRow base e size v n xs) (k:Touch R w w') (hr:∀ x,v.ownBlock=some x→¬ R x):w'.ownsRow base e size v n xs:=by
 refine ⟨h.1,?_⟩
 rcases h.2 with h0|⟨g',cap,cur,hv,hb,hg,rest⟩
 · exact .inl h0
 · exact .inr ⟨g',cap,cur,hv,hb,(k.block (Array.getElem?_eq_some_iff.1 hg).1 (hr g' (by rw [hv];rfl))).trans hg,rest⟩
theorem Touch.trans' {R':Nat→Prop} (h:Touch R w w') (k:Touch R' w' w'') (hr:∀ x,R' x→R x∨w.heap.size≤x):Touch R w w'' :=
 ⟨k.1.trans h.1,k.2.1.trans h.2.1,k.2.2.1.trans h.2.2.1,Nat.le_trans h.2.2.2.1 k.2.2.2.1,fun x hx hn=>(k.block (Nat.lt_of_lt_of_le hx h.size) (fun e=>(hr x e).elim hn (fun e=>by omega))).trans (h.block hx hn)⟩
theorem Ap {S:Nat→Prop} (h:Touch R w w') (hs:∀ b,S b→b<w.heap.size∧¬ R b):CU S w w':=fun b o hb=>World.cell?_of_block (a:=⟨b,o,none⟩) (h.block (hs b hb).1 (hs b hb).2)
end
theorem S9 {w:World} {base e n c:Nat} {A:Option Addr} {xs:List Value} (h:w.ownsRow base e 1 (.slice A (n+1) c) (n+1) xs):w.ownsRow base e 1 (.slice A n c) n (xs.take n):=by
 have hl:=h.1
 refine ⟨by rw [List.length_take];omega,?_⟩
 rcases h.2 with ⟨hv,h0⟩|⟨g,cap,cur,hv,hb,hg,hnc,hm,hcs,ht⟩
 · omega
 · injection hv with e1 e2 e3
   subst e1 e3
   refine .inr ⟨g,c,cur,rfl,hb,hg,by omega,hm,hcs,?_⟩
   rw [← ht,List.take_take,Nat.mul_one,Nat.min_eq_left (by omega)]
theorem Vo {w:World} {b1 e1 s1 n1 b2 e2 s2 n2:Nat} {v1 v2:Value} {nP pE:List Value} (h1:w.ownsRow b1 e1 s1 v1 n1 nP) (h2:w.ownsRow b2 e2 s2 v2 n2 pE) (hne:e1≠e2):∀ x,v1.ownBlock=some x→v2.ownBlock≠some x:=fun x hx e=>by
 rcases h2.2 with ⟨hv,_⟩|⟨g,cap,cur,hv,_,hg,_⟩
 · rw [hv] at e;cases e
 · rw [hv] at e
   simp only [Value.ownBlock,Option.some.injEq] at e
   subst e
   exact BC h1 hg hne hx.symm
end
end Go.Proofs.YthblbddmcdnllaaGreatDoor
