/- A part of the proof: WSuper1, WSuper2, WPut, WSuper3. -/
import Derived.Test.YthblbddmcdnllaaGreatDoorX7
import Derived.Test.YthblbddmcdnllaaGreatDoorY1
import Derived.Test.YthblbddmcdnllaaGreatDoorX1
import Derived.Test.YthblbddmcdnllaaGreatDoorProg
import Derived.Deep.CutBlock
import Derived.Shelf.Abstract
import Derived.Test.YthblbddmcdnllaaGreatDoorX13
import Derived.Test.YthblbddmcdnllaaGreatDoorX6
import Derived.Test.YthblbddmcdnllaaGreatDoorX9
import Derived.Test.YthblbddmcdnllaaGreatDoorX4
set_option maxHeartbeats 6400000
set_option linter.unusedVariables false
set_option linter.unusedSimpArgs false
namespace Go.Proofs.YthblbddmcdnllaaGreatDoor
section
open Go.RowKit
attribute [local go_sem] Oper.semAt_some
def Side (nb:Int) (k:Nat) (lo hi:Int):Prop :=
 (k=0∧lo=0∧hi=2147483647)∨(k=1∧lo=0∧hi=16777215)∨(k=2∧lo=1∧hi=65536)∨(k=3∧lo=0∧hi=65536)∨(k=4∧lo=2∧hi=14400)∨(5≤k∧k<11∧lo=1∧hi=nb-1)
structure Nv (g b:Nat) (cb:Array Value) (nb:Int) (P:Nat→World→Prop):Prop where
 al:∀ k w o,P k w→P k (w.alloc o)
 dr:∀ k w,P k w→P k w.drew
 at4:∀ k w,5≤k→P k w→w.cell? ⟨b,4,none⟩=some (.int .i64 nb)
 go:∀ k lo hi,Side nb k lo hi→∀ w,P k w→Calls Tryz.prog g (#[.pointer (some ⟨b,k,none⟩),.int .i64 lo,.int .i64 hi]++cb) w fun e w'=>e=.returned (.tuple #[])∧P (k+1) w'∧∀ ga cs,AL w ga cs 172→AL w' ga cs 172
theorem bR (b:Nat) {k:Nat} (h:k<6):(#[.pointer (some ⟨b,5,none⟩),.pointer (some ⟨b,6,none⟩),.pointer (some ⟨b,7,none⟩),.pointer (some ⟨b,8,none⟩),.pointer (some ⟨b,9,none⟩),.pointer (some ⟨b,10,none⟩)]:Array Value)[k]? = some (.pointer (some ⟨b,5+k,none⟩)):=by
 have:k=0∨k=1∨k=2∨k=3∨k=4∨k=5:=by omega
 rcases this with rfl|rfl|rfl|rfl|rfl|rfl <;> rfl
set_option maxRecDepth 100000 in
theorem LW (w:World) (g b:Nat) (cb:Array Value) (nb:Int) (P:Nat→World→Prop) (eg:∀ args w,(callFunc g args).run Tryz.prog w=.ok (.enter g args) w) (hn0 : -4611686018427387904≤nb) (hn1:nb≤4611686018427387904) (hE:Nv g b cb nb P) (h0:P 0 w) :
 Calls Tryz.prog 79 #[.pointer (some ⟨b,0,none⟩),.func (.func g) #[] cb] w fun e w'=>e=.returned (.tuple #[])∧P 11 w':=by
 have HE:=qh hE
 have H0:=qh h0
 have c0:=qh (hE.go 0 0 2147483647 (.inl ⟨rfl,rfl,rfl⟩))
 have c1:=qh (hE.go 1 0 16777215 (.inr (.inl ⟨rfl,rfl,rfl⟩)))
 have c2:=qh (hE.go 2 1 65536 (.inr (.inr (.inl ⟨rfl,rfl,rfl⟩))))
 have c3:=qh (hE.go 3 0 65536 (.inr (.inr (.inr (.inl ⟨rfl,rfl,rfl⟩)))))
 have c4:=qh (hE.go 4 2 14400 (.inr (.inr (.inr (.inr (.inl ⟨rfl,rfl,rfl⟩))))))
 clear hE h0
 go_enter Tryz.func79,Tryz.ntmps79
 go_wp2_with fail
 with_reducible refine (c0.out _ H0.out).mono ?_
 rintro e w1 ⟨rfl,h1,_⟩;have H1:=qh h1;clear h1 c0
 go_upto_region 1 with fail
 go_wp2_with fail
 with_reducible refine (c1.out _ H1.out).mono ?_
 rintro e w2 ⟨rfl,h2,_⟩;have H2:=qh h2;clear h2 c1
 go_upto_region 2 with fail
 go_wp2_with fail
 with_reducible refine (c2.out _ H2.out).mono ?_
 rintro e w3 ⟨rfl,h3,_⟩;have H3:=qh h3;clear h3 c2
 go_upto_region 3 with fail
 go_wp2_with fail
 with_reducible refine (c3.out _ H3.out).mono ?_
 rintro e w4 ⟨rfl,h4,_⟩;have H4:=qh h4;clear h4 c3
 go_upto_region 4 with fail
 go_wp2_with fail
 with_reducible refine (c4.out _ H4.out).mono ?_
 rintro e w5 ⟨rfl,h5,_⟩;have H5:=qh h5;clear h5 c4
 go_upto_region 5 with fail
 refine AJ (T:=fun _=>false) (S:=fun w'=>Below w5.heap.size w5 w') (by kernel_rfl) (Below.refl w5.heap.size w5).drew (fun hHeld=>?_)
 have hkr:Below w5.heap.size w5 w5.drew:=(Below.refl w5.heap.size w5).drew
 refine qs 0 31 hHeld ?_
 refine qs 1 32 hHeld ?_
 refine qs 2 33 hHeld ?_
 refine qs 3 34 hHeld ?_
 refine qs 4 35 hHeld ?_
 refine qs 5 36 hHeld ?_
 refine qs 6 37 hHeld ?_
 refine qs 7 38 hHeld ?_
 refine qs 8 39 hHeld ?_
 refine qs 9 40 hHeld ?_
 refine qs 10 41 hHeld ?_
 refine qs 11 42 hHeld ?_
 refine qs 12 43 hHeld ?_
 refine qs 13 44 hHeld ?_
 refine qs 14 45 hHeld ?_
 refine qs 15 46 hHeld ?_
 refine qs 16 47 hHeld ?_
 refine qs 17 48 hHeld ?_
 refine qs 20 51 hHeld ?_
 obtain ⟨w6,bS⟩:∃ wzz,w5.drew.alloc (.cells #[.pointer (some ⟨b,5,none⟩),.pointer (some ⟨b,6,none⟩),.pointer (some ⟨b,7,none⟩),.pointer (some ⟨b,8,none⟩),.pointer (some ⟨b,9,none⟩),.pointer (some ⟨b,10,none⟩)] 172)=wzz:=⟨_,rfl⟩
 have F5:Below w5.drew.heap.size w5.drew w6:=by rw [← bS];exact (Below.refl _ _).alloc (Nat.le_refl _) _
 have hkr:=hkr.trans (F5.mono hkr.size)
 refine qo 18 fun K hK=>?_
 go_simp
 (try rw [bS])
 refine hK.out _ _ (fun _=>(Below.refl w5.heap.size w5).drew.trans (F5.mono (Below.refl w5.heap.size w5).drew.size)) (fun _=>?_)
 clear hK K hHeld
 (try simp only [Act.put,qS,qZ,qU])
 refine FR (S':=fun w'=>Below w6.heap.size w6 w') (fun _ h=>((Below.refl w5.heap.size w5).drew.trans (F5.mono (Below.refl w5.heap.size w5).drew.size)).trans (h.mono (hkr.size))) _ _ _ _ ?_
 have hHeld:(fun w'=>Below w6.heap.size w6 w') w6:=Below.refl _ _
 refine qs 19 50 hHeld ?_
 refine qd ?_
 have D8:Hid (AL w6 w5.heap.size #[.pointer (some ⟨b,5,none⟩),.pointer (some ⟨b,6,none⟩),.pointer (some ⟨b,7,none⟩),.pointer (some ⟨b,8,none⟩),.pointer (some ⟨b,9,none⟩),.pointer (some ⟨b,10,none⟩)] 172):=by
  show AL _ _ _ _
  rw [← bS]
  exact AL.new w5.drew _ _
 have H6:Hid (P 5 w6):=by
  show P 5 w6
  rw [← bS]
  exact HE.out.al 5 _ _ (HE.out.dr 5 _ H5.out)
 obtain ⟨ga,hga⟩:∃ x,w5.heap.size=x:=⟨_,rfl⟩
 rw [hga] at D8 ⊢
 clear bS F5 hHeld hkr hga
 go_wp2_with fail
 go_loopw [5,51] (fun _ i wr=>∃ k:Nat,i=.int .i64 k∧k≤6∧Hid (P (5+k) wr)∧Hid (AL wr ga #[.pointer (some ⟨b,5,none⟩),.pointer (some ⟨b,6,none⟩),.pointer (some ⟨b,7,none⟩),.pointer (some ⟨b,8,none⟩),.pointer (some ⟨b,9,none⟩),.pointer (some ⟨b,10,none⟩)] 172)) (fun _ i _=>6-(intOf i).toNat)
 case atStart=>exact ⟨0,rfl,by omega,H6,D8⟩
 case round =>
  obtain ⟨k,rfl,hk,HP,HB⟩:=hrel
  by_cases hlt:k<6
  · have q0:=HB.out.at k _ (bR b hlt)
    have q4:=HE.out.at4 (5+k) wr (by omega) HP.out
    have hsub:IntKind.i64.wrap (nb-1)=nb-1:=by rw [IntKind.wrap_i64];omega
    have hki:(k:Int)<6:=by omega
    have HC:Hid (Calls Tryz.prog g (#[.pointer (some ⟨b,5+k,none⟩),.int .i64 1,.int .i64 (nb-1)]++cb) wr fun e w'=>e=.returned (.tuple #[])∧P (5+k+1) w'∧∀ ga cs,AL wr ga cs 172→AL w' ga cs 172) :=
     HE.out.go (5+k) 1 (nb-1) (.inr (.inr (.inr (.inr (.inr ⟨by omega,by omega,rfl,rfl⟩))))) wr HP.out
    go_wp2_with fail
    with_reducible refine HC.out.mono ?_
    rintro e w7 ⟨rfl,h7,gW⟩
    have H7:=qh h7
    have Es:=qh (gW _ _ HB.out)
    clear h7 gW
    go_wp2_with fail
    go_roundw
    case rel=>exact ⟨k+1,by go_num,by omega,H7,Es⟩
    case measure=>simp [intOf];omega
  · obtain rfl:k=6:=by omega
    go_wp2_with fail
    (try simp only [Exit.inBlock,Exit.then])
    refine bodyPost_end (results_none rfl _ _ _) rfl ?_
    exact ⟨rfl,HP.out⟩
end
section
open Go.RowKit Go.Shelf
attribute [local go_sem] Oper.semAt_some
abbrev E5 (s:Kk):Array Value:=#[.int .i64 s.tx,.int .i64 s.time,.int .i64 s.unit,.int .i64 s.data,.int .i64 s.blocks,.int .i64 s.top,.int .i64 s.Ed,.int .i64 s.Ff,.int .i64 s.Ic,.int .i64 s.Fg,.int .i64 s.mover]
def gY (k:Nat):Int:=if k=2 then 1 else if k=4 then 2 else if k<5 then 0 else 1
def gZ (nb:Int) (k:Nat):Int:=if k=0 then 2147483647 else if k=1 then 16777215 else if k=2 then 65536 else if k=3 then 65536 else if k=4 then 14400 else nb-1
theorem Nw {nb:Int} {k:Nat} {lo hi:Int} (h:Side nb k lo hi):k<11∧lo=gY k∧hi=gZ nb k:=by
 rcases h with ⟨rfl,rfl,rfl⟩|⟨rfl,rfl,rfl⟩|⟨rfl,rfl,rfl⟩|⟨rfl,rfl,rfl⟩|⟨rfl,rfl,rfl⟩|⟨h1,h2,rfl,rfl⟩
 · exact ⟨by omega,rfl,rfl⟩
 · exact ⟨by omega,rfl,rfl⟩
 · exact ⟨by omega,rfl,rfl⟩
 · exact ⟨by omega,rfl,rfl⟩
 · exact ⟨by omega,rfl,rfl⟩
 · refine ⟨h2,?_,?_⟩
   · unfold gY;rw [if_neg (by omega),if_neg (by omega),if_neg (by omega)]
   · unfold gZ;rw [if_neg (by omega),if_neg (by omega),if_neg (by omega),if_neg (by omega),if_neg (by omega)]
def JQ (s:Kk):Nat→Bool
 | 0=>true
 | k+1=>JQ s k && Dh (gY k) (gZ s.blocks k) (nth 0 (Np s) k)
theorem Pb (s:Kk):JQ s 11=CL s:=by
 simp [JQ,CL,gY,gZ,Np,nth,List.getD]
theorem WA (s:Kk) {k:Nat} (h:k<11):(E5 s)[k]? = some (.int .i64 (nth 0 (Np s) k)):=by
 have:k=0∨k=1∨k=2∨k=3∨k=4∨k=5∨k=6∨k=7∨k=8∨k=9∨k=10:=by omega
 rcases this with rfl|rfl|rfl|rfl|rfl|rfl|rfl|rfl|rfl|rfl|rfl <;> rfl
theorem RJ (w:World) (a k:Nat) (n lo hi:Int) (ob:Nat) (ok:Bool) (hc:w.cell? ⟨a,k,none⟩=some (.int .i64 n)) (ho:One w ob (.bool ok) 4) :
 Calls Tryz.prog 91 #[.pointer (some ⟨a,k,none⟩),.int .i64 lo,.int .i64 hi,.pointer (some ⟨ob,0,none⟩)] w fun e w'=>e=.returned (.tuple #[])∧w'=w.setCell ⟨ob,0,none⟩ (.bool (ok && Dh lo hi n)):=by
 have o0:=ho.cell
 have o1:=ho.free
 clear ho
 cases ok with
 | false =>
  have e:(false && Dh lo hi n)=false:=rfl
  rw [e]
  go_enter Tryz.func91,Tryz.ntmps91
  go_wp2_with fail
  (try simp only [Exit.inBlock,Exit.then])
  refine bodyPost_end (results_none rfl _ _ _) rfl ?_
  exact ⟨rfl,rfl⟩
 | true =>
  by_cases h1:lo≤n
  · have d1:decide (lo≤n)=true:=decide_eq_true h1
    by_cases h2:n≤hi
    · have d2:decide (n≤hi)=true:=decide_eq_true h2
      have e:(true && Dh lo hi n)=true:=by unfold Dh;rw [d1,d2];rfl
      rw [e]
      go_enter Tryz.func91,Tryz.ntmps91
      go_wp2_with fail
      (try simp only [Exit.inBlock,Exit.then])
      refine bodyPost_end (results_none rfl _ _ _) rfl ?_
      exact ⟨rfl,rfl⟩
    · have d2:decide (n≤hi)=false:=decide_eq_false h2
      have e:(true && Dh lo hi n)=false:=by unfold Dh;rw [d1,d2];rfl
      rw [e]
      go_enter Tryz.func91,Tryz.ntmps91
      go_wp2_with fail
      (try simp only [Exit.inBlock,Exit.then])
      refine bodyPost_end (results_none rfl _ _ _) rfl ?_
      exact ⟨rfl,rfl⟩
  · have d1:decide (lo≤n)=false:=decide_eq_false h1
    have e:(true && Dh lo hi n)=false:=by unfold Dh;rw [d1];rfl
    rw [e]
    go_enter Tryz.func91,Tryz.ntmps91
    go_wp2_with fail
    (try simp only [Exit.inBlock,Exit.then])
    refine bodyPost_end (results_none rfl _ _ _) rfl ?_
    exact ⟨rfl,rfl⟩
theorem Mc:∀ args w,(callFunc 91 args).run Tryz.prog w=.ok (.enter 91 args) w:=enters_of Tryz.func91 (by kernel_rfl) rfl
theorem UN (w0:World) (g ob:Nat) (s:Kk) (hne:ob≠g):Nv 91 g #[.pointer (some ⟨ob,0,none⟩)] s.blocks fun k w=>AL w g (E5 s) 59∧One w ob (.bool (JQ s k)) 4∧Touch (fun x=>x=ob) w0 w where
 al:=fun k w o ⟨h1,h2,h3⟩=>⟨(Below.heap_alloc w o g h1.lt).trans h1,h2.alloc o,h3.trans (Touch.alloc o)⟩
 dr:=fun k w ⟨h1,h2,h3⟩=>⟨h1,h2,h3.trans Touch.drew⟩
 at4:=fun k w _ h=>h.1.at 4 _ rfl
 go:=fun k lo hi hs w ⟨h1,h2,h3⟩=>by
  obtain ⟨hk,rfl,rfl⟩:=Nw hs
  refine (RJ w g k (nth 0 (Np s) k) (gY k) (gZ s.blocks k) ob (JQ s k) (h1.at k _ (WA s hk)) h2).mono ?_
  rintro e w' ⟨rfl,rfl⟩
  refine ⟨rfl,⟨h1.far hne 0 _,h2.BZ,h3.trans (Touch.BZ (R:=fun x=>x=ob) (p:=⟨ob,0,none⟩) rfl)⟩,fun ga cs hb=>hb.far (fun e=>?_) 0 _⟩
  subst e
  unfold One at h2
  unfold AL at hb
  rw [h2] at hb
  injection hb with hb
  injection hb with _ h4
  exact absurd h4 (by decide)
theorem JR (w:World) (s:Kk) (hn0 : -4611686018427387904≤s.blocks) (hn1:s.blocks≤4611686018427387904) :
 Calls Tryz.prog 47 #[Iu s] w fun e w'=>e=.returned (.bool (CL s))∧Below w.heap.size w w':=by
 have hb:=AL.new w (E5 s) 59
 obtain ⟨w1,hw1⟩:∃ x,w.alloc (.cells (E5 s) 59)=x:=⟨_,rfl⟩
 have hz1:w1.heap.size=w.heap.size+1:=by rw [← hw1];exact World.size_alloc _ _
 have hB1:Below w.heap.size w w1:=by rw [← hw1];exact (Below.refl _ _).alloc (Nat.le_refl _) _
 rw [hw1] at hb
 have ho:=One.new w1 (.bool true) 4
 have hb2:AL (w1.alloc (.cells #[.bool true] 4)) w.heap.size (E5 s) 59:=(Below.heap_alloc w1 _ w.heap.size hb.lt).trans hb
 have hB2:Below w.heap.size w (w1.alloc (.cells #[.bool true] 4)):=hB1.alloc (by omega) _
 rw [hz1] at ho
 have HC:Hid (Calls Tryz.prog 79 #[.pointer (some ⟨w.heap.size,0,none⟩),.func (.func 91) #[] #[.pointer (some ⟨w.heap.size+1,0,none⟩)]] (w1.alloc (.cells #[.bool true] 4)) fun e w'=>e=.returned (.tuple #[])∧One w' (w.heap.size+1) (.bool (CL s)) 4∧Below w.heap.size w w') :=
  (LW _ 91 w.heap.size #[.pointer (some ⟨w.heap.size+1,0,none⟩)] s.blocks _ Mc hn0 hn1 (UN (w1.alloc (.cells #[.bool true] 4)) w.heap.size (w.heap.size+1) s (by omega)) ⟨hb2,ho,Touch.refl⟩).mono fun e w' ⟨h1,h2,h3,h4⟩ =>
   ⟨h1,by rw [Pb] at h3;exact h3,hB2.trans ((h4.weak (R':=fun x=>w.heap.size≤x) (fun x e=>by omega)).below (fun x h=>h) (by simp;omega))⟩
 subst hw1
 clear hb ho hb2 hB1 hB2 hz1
 go_enter Tryz.func47,Tryz.ntmps47
 go_wp2_with (go_at_call 79;(with_reducible refine HC.out.mono ?_);rintro e w5 ⟨rfl,h5,BX⟩;have o5:=h5.cell;have DT:=qh BX;clear h5 BX)
 go_ret
 exact ⟨rfl,DT.out⟩
end
section
open Go.RowKit
attribute [local go_sem] Oper.semAt_some
abbrev WL (w:World) (S:Nat→Prop) (v:Value) (l:List Pt):Prop:=Bp (Flat Mx) 3 Ir w S v l
theorem NK {w:World} {S:Nat→Prop} {A:Option Addr} {l:List Pt} (h:Bw (Flat Mx) 3 Ir w S A l) (hl:0<l.length) :
 ∃ b off,A=some ⟨b,off,none⟩∧S b∧∀ k,k<l.length→w.cell? ⟨b,off+k*3,none⟩=some (.int .i64 ((nth Ir l k).w:Nat))∧w.cell? ⟨b,off+k*3+1,none⟩=some (.int .i64 (nth Ir l k).lo)∧w.cell? ⟨b,off+k*3+2,none⟩=some (.int .i64 (nth Ir l k).hi):=by
 obtain ⟨b,off,e,hb,hc⟩:=h hl
 refine ⟨b,off,e,hb,fun k hk=>?_⟩
 obtain ⟨cs,_,hr,h3⟩:=hc k hk
 obtain rfl:cs=_:=hr
 exact ⟨by simpa using h3 0 _ rfl,h3 1 _ rfl,h3 2 _ rfl⟩
theorem WM (w:World) (g x:Nat) (n:Int) (hx:EG (x,n)) (hg:w.heap[g]? = some (.cells #[.int .i64 (x:Int),.int .i64 n] 168 (0,0))) :
 Calls Tryz.prog 81 #[.slice (some ⟨g,0,none⟩) 1 1] w fun e w'=>(∃ A c,e=.returned (.tuple #[.slice A x c,.int .i64 0])∧w'.ownsRow w.heap.size 5 1 (.slice A x c) x (AA AX (leB x n.toNat)))∧Below w.heap.size w w':=by
 have h:=Hl w (fun b=>b=g) (.slice (some ⟨g,0,none⟩) 1 1) [(x,n)] (fun b hb=>by subst hb;exact (Array.getElem?_eq_some_iff.1 hg).1) (Bp.block (enc:=MS) Fy hg (by rfl) rfl (by omega) rfl) (fun f hf=>by simp at hf;subst hf;exact hx) (by simp)
 rw [Tx,Br] at h
 exact h
set_option maxRecDepth 100000 in
theorem OB (w:World) (S:Nat→Prop) (v vn:Value) (ps:List Pt) (ns:List Int) (hS:∀ b,S b→b<w.heap.size) (h:WL w S v ps) (hn:BV w S vn ns) (hok:∀ p∈ps,Qy p) (hk:ps.length≤1000) (hl:ps.length≤ns.length) :
 Calls Tryz.prog 105 #[v,vn] w fun e w'=>e=.returned (.string (BJ (Fb ps ns)))∧Below w.heap.size w w':=by
 obtain ⟨A,c,rfl,hc,hr⟩:=h
 obtain ⟨An,cn,rfl,hcn,hrn⟩:=hn
 have HC:Hid (∀ k,k<ps.length→∃ b off,A=some ⟨b,off,none⟩∧b<w.heap.size∧∀ w',Below w.heap.size w w'→w'.cell? ⟨b,off+k*3,none⟩=some (.int .i64 ((nth Ir ps k).w:Nat))∧w'.cell? ⟨b,off+k*3+1,none⟩=some (.int .i64 (nth Ir ps k).lo)∧w'.cell? ⟨b,off+k*3+2,none⟩=some (.int .i64 (nth Ir ps k).hi)):=fun k hk=>by
  obtain ⟨b,off,e,hb,h1⟩:=NK hr (by omega)
  obtain ⟨a1,a2,a3⟩:=h1 k hk
  exact ⟨b,off,e,hS b hb,fun w' hB=>⟨(hB.cell (p:=⟨b,off+k*3,none⟩) (hS b hb)).trans a1,(hB.cell (p:=⟨b,off+k*3+1,none⟩) (hS b hb)).trans a2,(hB.cell (p:=⟨b,off+k*3+2,none⟩) (hS b hb)).trans a3⟩⟩
 have iD:Hid (∀ k,k<ps.length→∃ b off,An=some ⟨b,off,none⟩∧b<w.heap.size∧∀ w',Below w.heap.size w w'→w'.cell? ⟨b,off+k,none⟩=some (.int .i64 (nth 0 ns k))):=fun k hk=>by
  obtain ⟨b,off,e,hb,h1⟩:=Be hrn (by omega)
  exact ⟨b,off,e,hS b hb,fun w' hB=>(hB.cell (p:=⟨b,off+k,none⟩) (hS b hb)).trans (h1 k (by omega))⟩
 have X0:=qh (fun k (hk:k<ps.length)=>hok _ (Ci Ir ps k hk))
 have RB:=qh (fun k (hk:k<ps.length) (h:MU (nth Ir ps k) (nth 0 ns k)=false)=>Vr hk h)
 have YU:=qh (fun (h:∀ k,k<ps.length→MU (nth Ir ps k) (nth 0 ns k)=true)=>Ty h)
 have qO:Hid (Fb ps ns=if IZ ps ns=true then Aj (Gj ps ns ps.length) else []):=rfl
 have qP:=qh (fun k=>K7 ps ns k)
 clear hr hrn hok
 generalize nX:ps.length=n at *
 generalize hnn:ns.length=nl at *
 clear nX hnn
 go_enter Tryz.func105,Tryz.ntmps105
 go_wp2_with fail
 go_loopw [5,12] (fun vo vi wr=>∃ (k L:Nat) (Ao:Option Addr) (co:Nat),vi=.int .i64 k∧vo=.slice Ao L co∧k≤n∧L≤8*k∧Hid (L=(Aj (Gj ps ns k)).length)∧Hid (∀ j,j<k→MU (nth Ir ps j) (nth 0 ns j)=true)∧Hid (wr.ownsRow w.heap.size 5 1 (.slice Ao L co) L (AA AX (Aj (Gj ps ns k))))∧Hid (Below w.heap.size w wr)) (fun _ vi _=>n-(intOf vi).toNat)
 case atStart=>exact ⟨0,0,none,0,rfl,rfl,by omega,by omega,rfl,fun j hj=>by omega,World.ownsRow_nil w w.heap.size 5 1,Below.refl _ _⟩
 case round =>
  obtain ⟨k,L,Ao,co,rfl,rfl,hk0,hL8,HL,HJ,HR,HB⟩:=hrel
  by_cases hlt:k<n
  · obtain ⟨b,off,rfl,hbw,hq⟩:=HC.out k hlt
    obtain ⟨bn,offn,rfl,hbn,wS⟩:=iD.out k hlt
    have hpo:=X0.out k hlt
    have hno:=RB.out k hlt
    have bi:=qP.out k
    have zw:Hid (MU (nth Ir ps k) (nth 0 ns k)=true→∀ j,j<k+1→MU (nth Ir ps j) (nth 0 ns j)=true):=fun h j hj=>by
     rcases Nat.lt_or_ge j k with h1|h1
     · exact HJ.out j h1
     · obtain rfl:j=k:=by omega
       exact h
    obtain ⟨q0,q1,q2⟩:=hq wr HB.out
    generalize nth Ir ps k=p at *
    obtain ⟨x,lo,hi⟩:=p
    generalize nth 0 ns k=y at *
    dsimp only at q0 q1 q2 bi
    obtain ⟨hW,hlo,hhi,hfit⟩:=hpo
    dsimp only at hW hlo hhi hfit
    have hz:=HB.out.size
    have iB:x≤8∧0<x:=by rcases hW with h|h|h|h <;> omega
    have hbr:b<wr.heap.size:=by omega
    have bq:bn<wr.heap.size:=by omega
    have wT:=qh wS
    have h2:=heap_alloc_new wr (.cells #[.int .i64 (x:Int),.int .i64 lo,.int .i64 hi] 246)
    have UH:Hid (MU ⟨x,lo,hi⟩ y=(decide (lo≤y) && decide (y≤hi))):=rfl
    have jR:=qh hno
    have jS:=qh bi
    clear wS hq hno bi
    go_upto_region 5 with fail
    have hB2:=HB.out.alloc hz (.cells #[.int .i64 (x:Int),.int .i64 lo,.int .i64 hi] 246)
    have hr2:=HR.out.alloc (.cells #[.int .i64 (x:Int),.int .i64 lo,.int .i64 hi] 246)
    have hg2:wr.heap.size<(wr.alloc (.cells #[.int .i64 (x:Int),.int .i64 lo,.int .i64 hi] 246)).heap.size:=by simp
    generalize wr.alloc (.cells #[.int .i64 (x:Int),.int .i64 lo,.int .i64 hi] 246)=w2 at *
    generalize wr.heap.size=g2 at *
    have y0:w2.cell? ⟨g2,0,none⟩=some (.int .i64 (x:Int)):=(cell_of_row _ _ 0 _ _ (0,0) h2).trans rfl
    have y1:w2.cell? ⟨g2,1,none⟩=some (.int .i64 lo):=(cell_of_row _ _ 1 _ _ (0,0) h2).trans rfl
    have y2:w2.cell? ⟨g2,2,none⟩=some (.int .i64 hi):=(cell_of_row _ _ 2 _ _ (0,0) h2).trans rfl
    have qn:=wT.out w2 hB2
    have HB2:=qh hB2
    have HR2:=qh hr2
    clear hB2 hr2 HB HR q0 q1 q2 h2
    by_cases g1:y<lo
    · as_aux_lemma =>
      have d1:decide (y<lo)=true:=decide_eq_true g1
      have HE:Hid (Fb ps ns=[]):=by
       show _=_
       rw [qO.out,jR.out (by rw [UH.out,decide_eq_false (by omega)];rfl)];rfl
      go_quiet (fail)
      go_wp2_with fail
      go_ret
      exact ⟨by rw [HE.out];rfl,AV HB2.out _⟩
    · by_cases g2':hi<y
      · as_aux_lemma =>
        have d1:decide (y<lo)=false:=decide_eq_false g1
        have d2:decide (hi<y)=true:=decide_eq_true g2'
        have HE:Hid (Fb ps ns=[]):=by
         show _=_
         rw [qO.out,jR.out (by rw [UH.out,decide_eq_false (show ¬ y≤hi by omega),Bool.and_false])];rfl
        go_quiet (fail)
        go_wp2_with fail
        go_ret
        exact ⟨by rw [HE.out];rfl,AV HB2.out _⟩
      · have d1:decide (y<lo)=false:=decide_eq_false g1
        have d2:decide (hi<y)=false:=decide_eq_false g2'
        have HJ2:=qh (zw.out (by rw [UH.out,decide_eq_true (show lo≤y by omega),decide_eq_true (show y≤hi by omega)];rfl))
        obtain ⟨m,rfl⟩:∃ m:Nat,y=m:=⟨y.toNat,by omega⟩
        have hfo:EG (x,(m:Int)):=⟨hW,by omega,by omega,by rcases hfit with h|h;exact .inl h;exact .inr (by dsimp only;omega)⟩
        have RP:=qh (fun w' g hg=>WM w' g x m hfo hg)
        simp only [Int.toNat_natCast] at RP
        go_quiet (fail)
        go_upto_region 7 with fail
        have HB3:=qh (AV HB2.out nq)
        have HR3:=qh (own_below HR2.out (AV (Below.refl w2.heap.size w2) nq) (Nat.le_refl _))
        have y0:(w2.drewN nq).cell? ⟨g2,0,none⟩=some (.int .i64 (x:Int)):=y0
        have hg2:g2<(w2.drewN nq).heap.size:=hg2
        have bq:bn<(w2.drewN nq).heap.size:=by have:=HB3.out.size;omega
        have qn:=wT.out _ HB3.out
        have hkl:k<nl:=by omega
        clear HB2 HR2 y1 y2 g1 g2' d1 d2
        generalize w2.drewN nq=w3 at *
        refine AJ (T:=fun _=>false) (S:=fun w'=>Below w3.heap.size w3 w') (by kernel_rfl) (Below.refl w3.heap.size w3).drew (fun hHeld=>?_)
        have Qn:Below w3.heap.size w3 w3.drew:=(Below.refl w3.heap.size w3).drew
        refine qs 0 34 hHeld ?_
        refine qf 1 35 rfl rfl hHeld (by intro w hSw;have y0:=AY hSw hg2 y0;have qn:=AY hSw bq qn;go_simp;(try with_reducible rfl)) ?_
        refine qs 2 36 hHeld ?_
        refine qs 3 37 hHeld ?_
        refine qs 4 38 hHeld ?_
        refine qf 5 39 rfl rfl hHeld (by intro w hSw;have y0:=AY hSw hg2 y0;have qn:=AY hSw bq qn;go_simp;(try with_reducible rfl)) ?_
        refine qs 6 40 hHeld ?_
        obtain ⟨w5,bf⟩:∃ wzz,w3.drew.alloc (.cells #[.int .i64 (x:Int),.int .i64 (m:Int)] 168)=wzz:=⟨_,rfl⟩
        have Kb:Below w3.drew.heap.size w3.drew w5:=by rw [← bf];exact (Below.refl _ _).alloc (Nat.le_refl _) _
        have Qn:=Qn.trans (Kb.mono Qn.size)
        refine qo 7 fun K hK=>?_
        go_simp
        (try rw [bf])
        have h5:w5.heap[w3.heap.size]? = some (.cells #[.int .i64 (x:Int),.int .i64 (m:Int)] 168 (0,0)):=by rw [← bf];exact heap_alloc_new w3.drew _
        have RQ:=qh (own_below HR3.out Qn (Nat.le_refl _))
        refine hK.out _ _ (fun _=>(Below.refl w3.heap.size w3).drew.trans (Kb.mono (Below.refl w3.heap.size w3).drew.size)) (fun _=>?_)
        clear hK K hHeld
        (try simp only [Act.put,qS,qZ,qU])
        refine FR (S':=fun w'=>Below w5.heap.size w5 w') (fun _ h=>((Below.refl w3.heap.size w3).drew.trans (Kb.mono (Below.refl w3.heap.size w3).drew.size)).trans (h.mono (Qn.size))) _ _ _ _ ?_
        have hHeld:(fun w'=>Below w5.heap.size w5 w') w5:=Below.refl _ _
        refine qo 8 fun K hK=>?_
        go_simp
        refine (RP.out w5 w3.heap.size h5).mono ?_
        rintro e w6 ⟨⟨A6,c6,rfl,hown6⟩,FP⟩
        have Qn:=Qn.trans (FP.mono Qn.size)
        have Yc:=qh (own_below RQ.out FP (Nat.le_refl _))
        have OA:=qh hown6
        clear hown6
        refine hK.out _ _ (fun _=>FP) (fun _=>?_)
        clear hK K hHeld
        (try simp only [Act.put,qS,qZ,qU])
        refine FR (S':=fun w'=>Below w6.heap.size w6 w') (fun _ h=>FP.trans (h.mono FP.size)) _ _ _ _ ?_
        have hHeld:(fun w'=>Below w6.heap.size w6 w') w6:=Below.refl _ _
        refine qs 9 33 hHeld ?_
        refine qs 10 43 hHeld ?_
        refine qs 11 44 hHeld ?_
        refine qs 12 8 hHeld ?_
        refine qs 13 9 hHeld ?_
        refine qd ?_
        obtain ⟨g6,rfl,N7,hc6,hsrc⟩:=BS OA.out iB.2
        have Hm:=qh hsrc
        have D8:=qh (HB3.out.trans (Qn.mono HB3.out.size))
        have nY:w.heap.size≤w6.heap.size:=D8.out.size
        have Po:=qh (Br x m)
        clear hsrc Qn FP OA hHeld h5 Kb
        go_wp2_with (at_builtin;go_loud (refine Bl Tryz.underlying82 JL rfl (by omega) (by omega) rfl _ _ rfl w.heap.size (.slice Ao L co) L _ rfl Yc.out ⟨g6,0,none⟩ x c6 (AA AX (leB x m)) rfl (by rw [Ad,Po.out];omega) Hm.out (Cy _) (by omega) nY ?_);intro A7 RU w7 Ih IG;have X6:=qh Ih;have WN:=qh IG;clear Ih IG)
        go_roundw
        case rel =>
         refine ⟨k+1,L+x,A7,RU,by go_num,rfl,by omega,by omega,?_,HJ2,?_,D8.out.grown WN.out nY (fun i hi=>(Yc.out.lt i hi).1)⟩
         · show _=_
           rw [jS.out,K8,List.length_append,← HL.out,Int.toNat_natCast,Po.out]
         · show World.ownsRow _ _ _ _ _ _ _
           rw [jS.out,K8,Int.toNat_natCast,BK]
           exact X6.out
        case measure=>simp [intOf];omega
  · have hkn:k=n:=by omega
    subst hkn
    have HE:Hid (Fb ps ns=Aj (Gj ps ns k)):=by
     show _=_
     rw [qO.out,if_pos (YU.out HJ.out)]
    have jL:Hid ((convert 82 9 (.slice Ao L co)).run Tryz.prog wr=.ok (.string (BJ (Aj (Gj ps ns k)))) wr):=by
     obtain ⟨A',c',e,hc',hr'⟩:=Bp.own (enc:=AX) (d:=(0:UInt8)) DY HR.out (by omega)
     rw [e]
     exact K5 (P:=Tryz.prog) (c:=c') 82 5 Tryz.underlying82 Tryz.underlying5 hr' 9 Tryz.underlying9
    have hcv:=jL.out
    go_wp2_with fail
    go_ret
    exact ⟨by rw [HE.out];rfl,HB.out⟩
end
section
open Go.RowKit Go.Shelf
attribute [local go_sem] Oper.semAt_some
theorem WT:(Tryz.prog.info? 168).map (fun i=>(i.zero,i.size,i.bytes))=some (some (.agg #[.int .i64 0,.int .i64 0]),2,16):=by kernel_rfl
theorem WU (a b:Int):∀ u∈[Value.int .i64 a,Value.int .i64 b],u.oneCell'=true:=by
 intro u hu
 simp at hu
 rcases hu with rfl|rfl <;> rfl
def Pv (w:World) (base lb:Nat) (fs:List (Nat × Int)):Prop :=
 ∃ A c,One w lb (.slice A fs.length c) 169∧w.ownsRow base 168 2 (.slice A fs.length c) fs.length (AA MS fs)
set_option maxRecDepth 100000 in
theorem WV (w:World) (base a k lb:Nat) (x lo hi:Int) (fs:List (Nat × Int)) (cs:Array Value) (T:TypeId) (hx:AL w a cs T) (hk:cs[k]? = some (.int .i64 x)) (hT:T≠168) (wW:a≠lb) (hF:Pv w base lb fs) (hn:fs.length≤100) (hb:base≤w.heap.size) :
 Calls Tryz.prog 80 #[.pointer (some ⟨a,k,none⟩),.int .i64 lo,.int .i64 hi,.pointer (some ⟨lb,0,none⟩)] w fun e w'=>e=.returned (.tuple #[])∧Pv w' base lb (fs++[(4,x)])∧AL w' a cs T∧(∀ g d t,t≠168→g≠lb→AL w g d t→AL w' g d t)∧Touch (fun y=>base≤y∨y=lb) w w':=by
 obtain ⟨A,c,hl,how⟩:=hF
 generalize hnn:fs.length=n at *
 have HN:=qh hnn
 clear hnn
 have y0:=hl.cell
 have y1:=hx.at k _ hk
 have z0:=hl.free
 have hal:=hx.lt
 have hll:=hl.lt
 have hf1:some lb≠(Value.slice A n c).ownBlock:=BC how hl (by decide)
 have hf2:some a≠(Value.slice A n c).ownBlock:=BC how hx (fun e=>hT e.symm)
 have wX:Hid (∀ w':World,Below w.heap.size w w'→w'.cell? ⟨lb,0,none⟩=some (.slice A n c)∧w'.frozen? ⟨lb,0,none⟩=false∧w'.cell? ⟨a,k,none⟩=some (.int .i64 x)):=fun w' hB=>⟨AY hB hll y0,(hB.frozen (p:=⟨lb,0,none⟩) hll).trans z0,AY hB hal y1⟩
 have HOW:=qh how
 have HX:=qh hx
 have HL:=qh hl
 have bz:=qh wW
 have HKK:=qh hT
 clear y0 y1 z0 how hx hl hk wW hT
 go_enter Tryz.func80,Tryz.ntmps80
 go_upto_region 0 with fail
 refine AJ (T:=fun j=>j==7) (S:=fun w'=>w'.cell? ⟨lb,0,none⟩=some (.slice A n c)∧w'.frozen? ⟨lb,0,none⟩=false∧w'.cell? ⟨a,k,none⟩=some (.int .i64 x)) (by kernel_rfl) (wX.out w.drew (Below.refl _ _).drew) (fun hHeld=>?_)
 refine qf 0 7 rfl rfl hHeld (by intro w hSw;have y0:=hSw.1;go_simp;(try with_reducible rfl)) ?_
 refine qs 1 8 hHeld ?_
 refine qs 2 9 hHeld ?_
 refine qf 3 10 rfl rfl hHeld (by intro w hSw;have y1:=hSw.2.2;go_simp;(try with_reducible rfl)) ?_
 refine qs 4 11 hHeld ?_
 refine qo 5 fun K hK=>?_
 go_simp
 clear hHeld
 have hHeld:=wX.out (w.drew.alloc (.cells #[.int .i64 4,.int .i64 x] 168)) ((Below.refl _ _).drew.alloc (by simp) _)
 refine hK.out _ _ (fun _=>hHeld) (fun _=>?_)
 clear hK K
 (try simp only [Act.put,qS])
 refine qo 6 fun K hK=>?_
 refine Co Tryz.underlying169 WT rfl (by omega) (by omega) rfl _ _ rfl base (.slice A n c) n (AA MS fs) rfl (HOW.out.drew.alloc _) (some ⟨w.heap.size,0,none⟩) 1 1 [.int .i64 4,.int .i64 x] rfl rfl (fun d hd=>by cases hd;exact Cm w.drew [.int .i64 4,.int .i64 x] 168) (WU 4 x) (by omega) (by simp;omega) (by intro h;cases h) ?_
 intro A9 c9 w9 Ig Dp Pw
 have hHeld:=(show World.cell? w9 ⟨lb,0,none⟩=some (.slice A n c)∧World.frozen? w9 ⟨lb,0,none⟩=false∧World.cell? w9 ⟨a,k,none⟩=some (.int .i64 x) from ⟨(Dp.cell_far ⟨lb,0,none⟩ (by simp;omega) hf1).trans hHeld.1,(Dp.frozen_far ⟨lb,0,none⟩ (by simp;omega) hf1).trans hHeld.2.1,(Dp.cell_far ⟨a,k,none⟩ (by simp;omega) hf2).trans hHeld.2.2⟩)
 refine hK.out _ _ (fun _=>hHeld) (fun _=>?_)
 clear hK K
 (try simp only [Act.put])
 refine qo 7 fun K hK=>?_
 have y0:=hHeld.1;have z0:=hHeld.2.1
 go_simp
 refine hK.out _ _ (fun h=>by cases h) (fun _=>?_)
 clear hK K hHeld
 (try simp only [Act.put,qS])
 refine qd ?_
 have Dp:World.grownBy (w.drew.alloc (.cells #[.int .i64 4,.int .i64 x] 168)) w9 (Value.slice A n c).ownBlock:=Dp
 have Du:w.grownBy w9 (Value.slice A n c).ownBlock:=have h:=Dx (w:=w.drew) Dp;⟨h.os,h.tape,h.output,h.size,h.block⟩
 have HG:=qh Du
 have Yh:=qh Ig
 clear Dp Du Ig Pw hHeld hf1 hf2
 go_wp2_with fail
 (try simp only [Exit.inBlock,Exit.then])
 refine bodyPost_end (results_none rfl _ _ _) rfl ?_
 have hfl:(fs++[((4:Nat),x)]).length=n+1:=by rw [List.length_append,HN.out];rfl
 have k1:∀ g d t,t≠168→AL w g d t→AL w9 g d t:=fun g d t ht h=>(HG.out.block g h.lt (BC HOW.out h (fun e=>ht e.symm))).trans h
 have wY:One w9 lb (.slice A n c) 169:=k1 lb _ _ (by decide) HL.out
 have Z5:w9.ownsRow base 168 2 (.slice A9 (n+1) c9) (n+1) (AA MS (fs++[((4:Nat),x)])):=by
  rw [BK];exact Yh.out
 refine ⟨rfl,⟨A9,c9,by rw [hfl];exact wY.BZ,by rw [hfl];exact Ac (a:=⟨lb,0,none⟩) Z5 (BL (g:=lb) Z5 wY (by decide)) _⟩,(k1 a _ _ HKK.out HX.out).far (fun e=>bz.out e.symm) 0 _,fun g d t ht hg h=>(k1 g d t ht h).far (fun e=>hg e.symm) 0 _,?_⟩
 exact (Touch.CV HG.out (fun y hy=>.inl (HOW.out.lt y hy).1)).trans (Touch.BZ (R:=fun y=>base≤y∨y=lb) (p:=⟨lb,0,none⟩) (.inr rfl))
theorem Px:∀ args w,(callFunc 80 args).run Tryz.prog w=.ok (.enter 80 args) w:=enters_of Tryz.func80 (by kernel_rfl) rfl
theorem Lb (s:Kk) {k:Nat} (hk:k<11):(BM s).take (k+2)=(BM s).take (k+1)++[(4,nth 0 (Np s) k)]:=by
 have hl:(BM s).length=12:=rfl
 rw [Ck (0,0) (BM s) (k+1) (by omega)]
 congr 2
 have:k=0∨k=1∨k=2∨k=3∨k=4∨k=5∨k=6∨k=7∨k=8∨k=9∨k=10:=by omega
 rcases this with rfl|rfl|rfl|rfl|rfl|rfl|rfl|rfl|rfl|rfl|rfl <;> rfl
theorem Yi (w0:World) (base g lb:Nat) (s:Kk) (hne:g≠lb) (hb:base≤w0.heap.size):Nv 80 g #[.pointer (some ⟨lb,0,none⟩)] s.blocks fun k w=>AL w g (E5 s) 59∧Pv w base lb ((BM s).take (k+1))∧Touch (fun y=>base≤y∨y=lb) w0 w where
 al:=fun k w o ⟨h1,⟨A,c,h2,h3⟩,h4⟩=>⟨(Below.heap_alloc w o g h1.lt).trans h1,⟨A,c,h2.alloc o,h3.alloc o⟩,h4.trans (Touch.alloc o)⟩
 dr:=fun k w ⟨h1,⟨A,c,h2,h3⟩,h4⟩=>⟨h1,⟨A,c,h2,h3.drew⟩,h4.trans Touch.drew⟩
 at4:=fun k w _ h=>h.1.at 4 _ rfl
 go:=fun k lo hi hs w ⟨h1,h2,h3⟩=>by
  obtain ⟨hk,rfl,rfl⟩:=Nw hs
  have hz:=h3.size
  refine (WV w base g k lb (nth 0 (Np s) k) (gY k) (gZ s.blocks k) _ _ _ h1 (WA s hk) (by decide) hne h2 (by rw [List.length_take];omega) (by omega)).mono ?_
  rintro e w' ⟨rfl,h5,h6,h7,h8⟩
  obtain ⟨A,c,hl,_⟩:=h2
  refine ⟨rfl,⟨h6,by rw [Lb s hk];exact h5,h3.trans h8⟩,fun ga d hd=>h7 ga d _ (by decide) (fun e=>?_) hd⟩
  subst e
  unfold One at hl
  unfold AL at hd
  rw [hl] at hd
  injection hd with hd
  injection hd with _ h4
  exact absurd h4 (by decide)
end
end Go.Proofs.YthblbddmcdnllaaGreatDoor
