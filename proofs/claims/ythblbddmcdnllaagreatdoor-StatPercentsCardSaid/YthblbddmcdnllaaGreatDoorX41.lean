/- A part of the proof: WLoad5, RMaps1, RHunt1, Memo, RHunt2, RHunt3, PairF, HnP, WAlloc1, WAlloc2, WAlloc3, WBuild2, WBuild3, WLay1, WLay2, WBits1. -/
import Derived.Test.YthblbddmcdnllaaGreatDoorX33
import Derived.Test.YthblbddmcdnllaaGreatDoorX40
import Derived.Deep.Cut
import Derived.Deep.DeepCutAuto
import Derived.Test.YthblbddmcdnllaaGreatDoorX32
import Derived.Test.YthblbddmcdnllaaGreatDoorX30
import Derived.Test.YthblbddmcdnllaaGreatDoorX15
import Derived.Test.YthblbddmcdnllaaGreatDoorX3
import Derived.Test.YthblbddmcdnllaaGreatDoorX31
import Derived.Maps.OwnSet
import Derived.Test.YthblbddmcdnllaaGreatDoorX10
import Derived.Test.YthblbddmcdnllaaGreatDoorX8
import Derived.Deep.QuietTactic
import Derived.BigQuiet
import Derived.Test.YthblbddmcdnllaaGreatDoorX12
import Derived.Test.YthblbddmcdnllaaGreatDoorX4
import Derived.Test.YthblbddmcdnllaaGreatDoorX39
import Derived.Test.YthblbddmcdnllaaGreatDoorY1
set_option maxHeartbeats 6400000
set_option linter.unusedVariables false
set_option linter.unusedSimpArgs false
namespace Go.Proofs.YthblbddmcdnllaaGreatDoor
section
open Go.RowKit Go.Shelf
end
section
open Go.RowKit Go.Shelf
end
section
open Go.RowKit Go.Shelf
end
section
open Go.RowKit Go.Shelf Go.Maps
section
variable {R:Nat→Prop} {w w':World} {base:Nat} {bs:List UInt8} {fuel:Int}
end
end
section
open Go.RowKit Go.Shelf
end
section
open Go.RowKit Go.Shelf
end
section
open Go.RowKit
end
section
open Go.RowKit Go.Shelf
section
variable {R:Nat→Prop} {w w':World} {S:Nat→Prop} {img g mb base n:Nat} {bs:List UInt8} {fuel:Int}
end
structure DvA where
 d:Dev
 A:Option Addr
 c:Nat
section
variable {R:Nat→Prop} {w w':World} {mb b1 b2:Nat} {L:List DvA} {v:Value} {l:List Dev}
end
end
section
open Go.RowKit Go.Shelf
def GD (w:World) (a img n c:Nat) (A:Option Addr) (next:Int):Prop:=AL w a #[.slice A n c,.int .i64 next,.pointer (some ⟨img,0,none⟩)] 89
theorem GD.cells {w:World} {a img n c:Nat} {A:Option Addr} {next:Int} (h:GD w a img n c A next):w.cell? ⟨a,0,none⟩=some (.slice A n c)∧w.cell? ⟨a,1,none⟩=some (.int .i64 next)∧w.cell? ⟨a,2,none⟩=some (.pointer (some ⟨img,0,none⟩)) :=
 ⟨AL.at h 0 _ rfl,AL.at h 1 _ rfl,AL.at h 2 _ rfl⟩
section
variable (w:World) (a img n c:Nat) (A:Option Addr) (next:Int) (h:GD w a img n c A next)
include h
theorem Hz:Calls Tryz.prog 59 #[.pointer (some ⟨a,0,none⟩)] w fun e w'=>e=.returned (.bool false)∧w'=w:=by
 obtain ⟨a0,a1,a2⟩:=h.cells
 clear h
 go_enter Tryz.func59,Tryz.ntmps59
 go_wp2
 go_ret
 exact ⟨rfl,rfl⟩
theorem Ji:Calls Tryz.prog 34 #[.pointer (some ⟨a,0,none⟩)] w fun e w'=>e=.returned (.pointer (some ⟨img,0,none⟩))∧w'=w:=by
 have HN:=qh (Hz w a img n c A next h)
 obtain ⟨a0,a1,a2⟩:=h.cells
 clear h
 go_enter Tryz.func34,Tryz.ntmps34
 go_wp2_with (go_at_call 59;(with_reducible refine HN.out.mono ?_);rintro e w2 ⟨rfl,hw⟩;rw [hw];clear hw w2)
 go_ret
 exact ⟨rfl,rfl⟩
theorem eZ:Calls Tryz.prog 78 #[.pointer (some ⟨a,0,none⟩)] w fun e w'=>e=.returned (.int .i64 next)∧w'=w:=by
 have HN:=qh (Hz w a img n c A next h)
 obtain ⟨a0,a1,a2⟩:=h.cells
 clear h
 go_enter Tryz.func78,Tryz.ntmps78
 go_wp2_with (go_at_call 59;(with_reducible refine HN.out.mono ?_);rintro e w2 ⟨rfl,hw⟩;rw [hw];clear hw w2)
 go_ret
 exact ⟨rfl,rfl⟩
end
def Oc (gl n k:Nat) (e:Ending):Prop:=∃ o c',e=.returned (.slice (some ⟨gl,o,none⟩) (n-k) c')∧n-k≤c'∧(k<n→o=k)
theorem Tf (w:World) (a img n c:Nat) (gl k:Nat) (h:GD w a img n c (some ⟨gl,0,none⟩) k) (hk:k≤n) (hc:n≤c) (hn:n≤1000000):Calls Tryz.prog 110 #[.pointer (some ⟨a,0,none⟩)] w fun e w'=>Oc gl n k e∧Below w.heap.size w w':=by
 obtain ⟨a0,a1,a2⟩:=h.cells
 have hk2:(k:Int)≤(n:Int):=by omega
 have hk0:(0:Int)≤(k:Int):=by omega
 have hkc:(k:Int)≤(c:Int):=by omega
 have HC:=qh hc
 clear h hc
 unfold Oc
 go_enter Tryz.func110,Tryz.ntmps110
 go_upto_region 1 with fail
 go_quiet (fail)
 go_wp2_with fail
 · refine bodyPost_ret (v:=.slice (some ⟨gl,0,none⟩) (n-k) 0) (by simp [results,Tryz.results110,go_sem]) rfl ⟨⟨_,_,rfl,by have:=HC.out;omega,fun h=>by have:=HC.out;omega⟩,(Touch.drewN (R:=fun _=>False) nq).below (fun x h=>h.elim) (Nat.le_refl _)⟩
 · refine bodyPost_ret (v:=.slice (some ⟨gl,k,none⟩) (n-k) (c-k)) (by simp [results,Tryz.results110,go_sem]) rfl ⟨⟨_,_,rfl,by have:=HC.out;omega,fun _=>rfl⟩,(Touch.drewN (R:=fun _=>False) nq).below (fun x h=>h.elim) (Nat.le_refl _)⟩
theorem SX (w:World) (a img n c:Nat) (gl k:Nat) (h:GD w a img n c (some ⟨gl,0,none⟩) k) (hk:k≤n) (hc:n≤c) (hn:n≤1000000):Calls Tryz.prog 65 #[.pointer (some ⟨a,0,none⟩)] w fun e w'=>e=.returned (.int .i64 ((n-k:Nat):Int))∧Below w.heap.size w w':=by
 have HN:=qh (Hz w a img n c _ _ h)
 have HL:=qh (Tf w a img n c gl k h hk hc hn)
 unfold Oc at HL
 obtain ⟨a0,a1,a2⟩:=h.cells
 clear h hk hc hn
 generalize n-k=m at *
 go_enter Tryz.func65,Tryz.ntmps65
 go_wp2_with (first|(go_at_call 59;(with_reducible refine HN.out.mono ?_);rintro e w2 ⟨rfl,hw⟩;rw [hw];clear hw w2)|(go_at_call 110;(with_reducible refine HL.out.mono ?_);rintro e w2 ⟨⟨o2,c2,rfl,-,-⟩,hB⟩;have HB:=qh hB;clear hB))
 go_ret
 exact ⟨rfl,HB.out⟩
theorem ed (w:World) (a img n c:Nat) (gl k:Nat) (x:Int) (h:GD w a img n c (some ⟨gl,0,none⟩) k) (hk:k<n) (hn:n≤1000000) (hx:w.cell? ⟨gl,k,none⟩=some (.int .i64 x)) (hne:gl≠a):Calls Tryz.prog 165 #[.pointer (some ⟨a,0,none⟩)] w fun e w'=>e=.returned (.tuple #[.int .i64 x,.bool true])∧GD w' a img n c (some ⟨gl,0,none⟩) ((k+1:Nat):Int)∧Touch (fun b=>b=a) w w':=by
 obtain ⟨a0,a1,a2⟩:=h.cells
 have f1:=AL.free h 1
 have hlt:=AL.lt h
 have HH:=qh h
 have hk2:(k:Int)<(n:Int):=by omega
 have hk3:¬ (n:Int)≤(k:Int):=by omega
 have HX:=qh hx
 have EP:=qh hne
 clear h hx hne
 go_enter Tryz.func165,Tryz.ntmps165
 go_upto_region 1 with fail
 go_quiet (fail)
 go_upto_region 4 with fail
 have hb2:GD ((w.drewN nq).setCell ⟨a,1,none⟩ (.int .i64 ((k:Int)+1))) a img n c (some ⟨gl,0,none⟩) ((k:Int)+1):=AL.set HH.out 1 _
 have Ko:Touch (fun b=>b=a) w ((w.drewN nq).setCell ⟨a,1,none⟩ (.int .i64 ((k:Int)+1))):=(Touch.drewN nq).trans (Touch.BZ (R:=fun b=>b=a) (p:=⟨a,1,none⟩) rfl)
 have hx2:((w.drewN nq).setCell ⟨a,1,none⟩ (.int .i64 ((k:Int)+1))).cell? ⟨gl,k,none⟩=some (.int .i64 x):=(World.cell?_of_block (a:=⟨gl,k,none⟩) (Ko.block (World.block_lt_of_cell? _ _ HX.out) EP.out)).trans HX.out
 generalize (w.drewN nq).setCell ⟨a,1,none⟩ (.int .i64 ((k:Int)+1))=w2 at *
 obtain ⟨c0,c1,c2⟩:=hb2.cells
 have HB2:=qh hb2
 have HT2:=qh Ko
 clear a0 a1 a2 f1 hlt hb2 Ko HH
 have hk4:(k:Int)+1-1=(k:Int):=by omega
 have hk5:(0:Int)≤(k:Int):=by omega
 go_quiet (fail)
 go_wp2_with fail
 refine bodyPost_ret (v:=.tuple #[.int .i64 x,.bool true]) (by simp [results,Tryz.results165,go_sem]) rfl ⟨rfl,?_,?_⟩
 · exact HB2.out
 · exact HT2.out.trans (Touch.drewN _)
theorem ek (w:World) (a img n c:Nat) (gl k:Nat) (x:Int) (h:GD w a img n c (some ⟨gl,0,none⟩) k) (hk:k<n) (hn:n≤1000000) (hx:w.cell? ⟨gl,k,none⟩=some (.int .i64 x)) (hne:gl≠a):Calls Tryz.prog 119 #[.pointer (some ⟨a,0,none⟩)] w fun e w'=>e=.returned (.tuple #[.int .i64 x,.nilIface])∧GD w' a img n c (some ⟨gl,0,none⟩) ((k+1:Nat):Int)∧Touch (fun b=>b=a) w w':=by
 have HN:=qh (Hz w a img n c _ _ h)
 have HL:=qh (ed w a img n c gl k x h hk hn hx hne)
 clear h hk hn hx hne
 go_enter Tryz.func119,Tryz.ntmps119
 go_wp2_with (first|(go_at_call 59;(with_reducible refine HN.out.mono ?_);rintro e w2 ⟨rfl,hw⟩;rw [hw];clear hw w2)|(go_at_call 165;(with_reducible refine HL.out.mono ?_);rintro e w2 ⟨rfl,hb,hT⟩;have HB:=qh hb;have HT:=qh hT;clear hb hT))
 go_ret2
 exact ⟨rfl,HB.out,HT.out⟩
end
section
open Go.RowKit Go.Shelf
def SY (n:Nat):List Int:=(List.range n).map fun i=>((i+1:Nat):Int)
theorem Tg (n:Nat):(SY n).length=n:=by simp [SY]
theorem XX (n:Nat):SY (n+1)=SY n++[((n+1:Nat):Int)]:=by simp [SY,List.range_succ]
theorem Ti {n k:Nat} (h:k<n):nth 0 (SY n) k=((k+1:Nat):Int):=by
 unfold nth SY
 simp [List.getD,h]
set_option maxRecDepth 100000 in
theorem lQ (w:World) (img ni ci:Nat) (Ai:Option Addr) (h:w.cell? ⟨img,0,none⟩=some (.slice Ai ni ci)) (hni:ni≤140737488355328) (h2:2≤ni / 256) (hn:ni / 256≤14400) (hlt:img<w.heap.size) :
 Calls Tryz.prog 15 #[.pointer (some ⟨img,0,none⟩),.int .i64 1] w fun e w'=>(∃ a gl c,e=.returned (.tuple #[.pointer (some ⟨a,0,none⟩),.nilIface])∧w.heap.size≤a∧gl≠a∧GD w' a img (ni / 256-1) c (some ⟨gl,0,none⟩) 0∧w'.ownsRow w.heap.size 3 1 (.slice (some ⟨gl,0,none⟩) (ni / 256-1) c) (ni / 256-1) (AA encI (SY (ni / 256-1))))∧Below w.heap.size w w':=by
 have LM:=qh (fun w' (hB:Below w.heap.size w w')=>(show Calls Tryz.prog 33 #[.pointer (some ⟨img,0,none⟩)] w' fun e w''=>e=.returned (.int .i64 ((ni / 256:Nat):Int))∧w'=w'' from by
  have:=CF w' img Ai ni ci (AY hB hlt h) hni
  rwa [show (ni:Int) / 256=((ni / 256:Nat):Int) by omega] at this))
 obtain ⟨nb,hnb⟩:∃ q,ni / 256=q:=⟨_,rfl⟩
 rw [hnb] at LM h2 hn ⊢
 have Uh:=qh hlt
 clear h hni hnb hlt
 have AAS:¬ (nb:Int)<1:=by omega
 have AAT:(1:Int)≤(nb:Int):=by omega
 go_enter Tryz.func15,Tryz.ntmps15
 go_upto_region 4 with (go_at_call 33;(with_reducible refine (LM.out _ (Below.refl _ _)).mono ?_);rintro e w5 ⟨rfl,rfl⟩)
 go_wp2_with fail
 go_loopw [6,7] (fun vo vi wr=>∃ (k:Nat) (A:Option Addr) (c:Nat),vo=.slice A k c∧vi=.int .i64 ((k+1:Nat):Int)∧k≤nb-1∧Hid (Below w.heap.size w wr)∧Hid (wr.ownsRow w.heap.size 3 1 (.slice A k c) k (AA encI (SY k)))) (fun _ vi _=>nb+1-(intOf vi).toNat)
 case atStart=>exact ⟨0,none,0,rfl,rfl,Nat.zero_le _,Below.refl _ _,World.ownsRow_nil _ _ _ _⟩
 case round =>
  obtain ⟨k,A,c,rfl,rfl,hk,J6,HOW⟩:=hrel
  have lS:=qh (LM.out wr J6.out)
  have hszr:=J6.out.size
  by_cases hlt:k+1<nb
  · have hil:((k+1:Nat):Int)<(nb:Int):=by omega
    go_wp2_with (first|(go_at_call 33;(with_reducible refine lS.out.mono ?_);rintro e w5 ⟨rfl,rfl⟩)|(at_builtin;go_loud (refine BD Ha rfl _ _ rfl w.heap.size (.slice A k c) k (SY k) ((k+1:Nat):Int) rfl HOW.out rfl (by omega) (by omega) ?_);intro A8 c8 w8 CQ Du Eu;have IU:=qh CQ;have Hg:=qh Du;clear CQ Du Eu))
    have Gf:Hid (Below w.heap.size w w8):=J6.out.trans ((Touch.CV (R:=fun x=>w.heap.size≤x) Hg.out (fun x hx=>(HOW.out.lt x hx).1)).below (fun x h=>h) hszr)
    have Yh:Hid (w8.ownsRow w.heap.size 3 1 (.slice A8 (k+1) c8) (k+1) (AA encI (SY (k+1)))):=by rw [XX];exact IU.out
    clear IU Hg
    go_roundw
    case rel=>exact ⟨k+1,A8,c8,rfl,by go_num,by omega,Gf,Yh⟩
    case measure=>simp [intOf];omega
  · have hil:(nb:Int)≤((k+1:Nat):Int):=by omega
    obtain rfl:k=nb-1:=by omega
    obtain ⟨gl,hA,hgl,hc,hs⟩:=BS HOW.out (by omega)
    subst hA
    have HGL:=qh hgl
    have hbx:=AL.new wr #[.slice (some ⟨gl,0,none⟩) (nb-1) c,.int .i64 0,.pointer (some ⟨img,0,none⟩)] 89
    have hBx:Below wr.heap.size wr (wr.alloc (.cells #[.slice (some ⟨gl,0,none⟩) (nb-1) c,.int .i64 0,.pointer (some ⟨img,0,none⟩)] 89)):=(Below.refl _ _).alloc (Nat.le_refl _) _
    have DL:=qh hbx
    have Jb:=qh hBx
    clear hs hbx hBx hgl
    go_wp2_with (go_at_call 33;(with_reducible refine lS.out.mono ?_);rintro e w5 ⟨rfl,rfl⟩)
    refine bodyPost_ret (v:=.tuple #[.pointer (some ⟨wr.heap.size,0,none⟩),.nilIface]) (by simp [results,Tryz.results15,go_sem]) rfl ⟨⟨wr.heap.size,gl,c,rfl,hszr,by have:=HGL.out;omega,DL.out,own_below HOW.out Jb.out (Nat.le_refl _)⟩,J6.out.trans (Jb.out.mono hszr)⟩
end
section
open Go.RowKit Go.Shelf
def Az (w:World) (base a img gl n c k:Nat) (bs:List UInt8):Prop:=GD w a img n c (some ⟨gl,0,none⟩) k∧BO w base img bs∧w.ownsRow base 3 1 (.slice (some ⟨gl,0,none⟩) n c) n (AA encI (SY n))∧base≤a∧gl≠a
def Bo (w:World) (a img:Nat) (x:Nat):Prop:=x=a∨VH w img x
section
variable {w w':World} {base a img gl n c k:Nat} {bs:List UInt8}
theorem Az.below (h:Az w base a img gl n c k bs) (hB:Below w.heap.size w w'):Az w' base a img gl n c k bs:=by
 obtain ⟨h1,h2,h3,h4,h5⟩:=h
 exact ⟨AL.below h1 hB (AL.lt h1),h2.below' hB,own_below h3 hB (Nat.le_refl _),h4,h5⟩
theorem Az.cell (h:Az w base a img gl n c k bs) (hk:k<n):w.cell? ⟨gl,k,none⟩=some (.int .i64 ((k+1:Nat):Int)):=by
 obtain ⟨h1,h2,h3,h4,h5⟩:=h
 obtain ⟨g,e,hg,hc,hs⟩:=BS h3 (by omega)
 injection e with e
 injection e with e
 subst e
 have:=hs (k*1+0) (.int .i64 ((k+1:Nat):Int)) (Dc (size:=1) (d:=(0:Int)) Bu (SY n) k 0 _ (by rw [Tg];exact hk) (by rw [Ti hk];rfl))
 rwa [add_lit,Nat.zero_add,Nat.mul_one,Nat.add_zero] at this
theorem Gg (h:BO w base img bs) (x:Nat) (hx:VH w img x):∃ cs,w.heap[x]? = some (Obj.cells cs 5 (0,0))∧base≤x:=by
 obtain ⟨h0,A,c,h1,h2⟩:=h
 obtain ⟨v,hv,hx⟩:=hx
 rw [h1.cell] at hv
 injection hv with hv
 subst hv
 rcases h2.2 with ⟨e,_⟩|⟨g',cap,cur,e,hb,hg,rest⟩
 · rw [e] at hx;cases hx
 · rw [e] at hx
   have e1:x=g':=by simpa [Value.ownBlock] using hx.symm
   subst e1
   exact ⟨_,hg,hb⟩
end
set_option maxRecDepth 100000 in
theorem XY (w:World) (S:Nat→Prop) (base a img gl n c k:Nat) (bs:List UInt8) (kind:Nat) (v:Value) (inn:List UInt8) (hS:∀ b,S b→b<w.heap.size) (yN:¬ S a) (h:Az w base a img gl n c k bs) (hk:k<n) (hn:n≤14000) (hb:AU w S v inn) (hl:inn.length≤244) (hk1:1≤kind) (hk4:kind≤4) (hj:(k+1)*256+256≤bs.length) (hbl:bs.length≤3686400) :
 Calls Tryz.prog 77 #[.pointer (some ⟨a,0,none⟩),.int .i64 kind,v] w fun e w'=>e=.returned (.tuple #[.int .i64 ((k+1:Nat):Int),.nilIface])∧Az w' base a img gl n c (k+1) (Gv bs ((k+1:Nat):Int) (BG kind (k+1) inn))∧Touch (Bo w a img) w w':=by
 have hc:=h.cell hk
 obtain ⟨h1,h2,h3,h4,h5⟩:=h
 have MO:=qh (ek w a img n c gl k ((k+1:Nat):Int) h1 hk (by omega) hc h5)
 have Ie:=qh (fun w' (ho:BO w' base img bs) (hT:Touch (fun b=>b=a) w w')=>H8 w' S base img bs (k+1) kind v inn (fun b hb=>Nat.lt_of_lt_of_le (hS b hb) hT.size) ho (by omega) (hb.keep (AB _) (fun _ h=>h) (Ap hT (fun b hb=>⟨hS b hb,fun e=>yN (by rw [← e];exact hb)⟩))) hl hk1 hk4 (by omega) hj)
 have HA:=qh h1
 have HI:=qh h2
 have HR:=qh h3
 have JC:Hid (∀ w',Touch (fun b=>b=a) w w'→BO w' base img bs∧(∀ x,VH w' img x→VH w img x)):=fun w' hT=>by
  obtain ⟨p0,A,cc,p1,p2⟩:=h2
  have hia:img≠a:=fun e=>by
   subst e
   have q1:w.heap[img]? = some _:=p1
   have q2:w.heap[img]? = some _:=h1
   rw [q1] at q2
   injection q2 with q2
   injection q2 with _ q3
   exact absurd q3 (by decide)
  have q1:One w' img (.slice A bs.length cc) 84:=(hT.block (Array.getElem?_eq_some_iff.1 p1).1 (fun e=>hia e)).trans p1
  refine ⟨⟨p0,A,cc,q1,BB p2 hT (fun x hx e=>BC p2 h1 (by decide) (by rw [← e];exact hx.symm))⟩,fun x hx=>?_⟩
  obtain ⟨v,hv,hx⟩:=hx
  rw [q1.cell] at hv
  exact ⟨v,by rw [p1.cell];exact hv,hx⟩
 have R8:=qh (And.intro h4 h5)
 clear hS yN hk hn hb hl hk1 hk4 hj hbl hc h1 h2 h3 h4 h5
 obtain ⟨no,hno⟩:∃ x,k+1=x:=⟨_,rfl⟩
 have RB:=qh hno
 rw [hno] at MO Ie ⊢
 clear hno
 generalize BG kind no inn=sb at *
 go_enter Tryz.func77,Tryz.ntmps77
 go_upto_region 4 with (go_at_call 119;(with_reducible refine MO.out.mono ?_);rintro e w2 ⟨rfl,hb2,Ko⟩;have HB2:=qh hb2;have HT2:=qh Ko;clear hb2 Ko)
 rename World=>w2
 obtain ⟨a0,a1,a2⟩:=HB2.out.cells
 have uP:=qh (Ie.out w2 (JC.out w2 HT2.out).1 HT2.out)
 go_wp2_with (go_at_call 41;(with_reducible refine uP.out.mono ?_);rintro e w3 ⟨rfl,ho3,TS⟩;have PZ:=qh ho3;have HT3:=qh TS;clear ho3 TS)
 refine bodyPost_ret (v:=.tuple #[.int .i64 no,.nilIface]) (by simp [results,Tryz.results77,go_sem]) rfl ⟨rfl,⟨?_,PZ.out,?_,R8.out.1,R8.out.2⟩,?_⟩
 · exact (HT3.out.block (AL.lt HB2.out) (fun hx=>by
     obtain ⟨cs,hx,-⟩:=Gg (JC.out w2 HT2.out).1 a hx
     have h9:w2.heap[a]? = some _:=HB2.out
     rw [hx] at h9
     injection h9 with h9
     injection h9 with _ h9
     exact absurd h9 (by decide))).trans HB2.out
 · have hr2:=BB HR.out HT2.out (fun x hx e=>BC HR.out HA.out (by decide) (by rw [← e];exact hx.symm))
   exact BB hr2 HT3.out (fun x hx hx2=>by
    obtain ⟨cs,hx3,-⟩:=Gg (JC.out w2 HT2.out).1 x hx2
    exact BC hr2 hx3 (by decide) hx.symm)
 · exact (HT2.out.weak (fun x hx=>.inl hx)).trans (HT3.out.weak (fun x hx=>.inr ((JC.out w2 HT2.out).2 x hx)))
end
section
open Go.RowKit Go.Shelf
theorem VI:(Tryz.prog.info? 144).map (fun i=>(i.zero,i.size,i.bytes))=some (some (.agg #[.int .i64 0,.string ByteArray.empty,.int .i64 0]),3,32):=by kernel_rfl
def Tj (e:Int × ByteArray × Int):List Value:=[.int .i64 e.1,.string e.2.1,.int .i64 e.2.2]
theorem VJ (e:Int × ByteArray × Int):(Tj e).length=3:=rfl
theorem VK:∀ (e:Int × ByteArray × Int),∀ u∈Tj e,u.oneCell'=true:=by
 intro e u hu
 simp only [Tj,List.mem_cons,List.not_mem_nil,or_false] at hu
 rcases hu with rfl|rfl|rfl <;> rfl
theorem uQ:Elem Tryz.prog 139 144 3 32 Tj:=⟨Tryz.underlying139,⟨_,VI,rfl⟩,by omega,by omega,VJ,VK⟩
theorem CJ {w w':World} {base a img:Nat} {bs:List UInt8} (h:BO w base img bs) (hB:Below w.heap.size w w'):∀ x,Bo w' a img x→Bo w a img x:=by
 obtain ⟨A,c,h1,h2⟩:=h.MG
 intro x hx
 rcases hx with hx|⟨v,hv,hx⟩
 · exact .inl hx
 · rw [AY hB h2 h1] at hv
   exact .inr ⟨_,h1,by injection hv with hv;rw [hv];exact hx⟩
def Sa (w:World) (base a img gl n c k:Nat) (bs:List UInt8) (t:Int) (vu:Value) (w':World):Prop:=∃ gu cu,vu=.slice (some ⟨gu,0,none⟩) 1 cu∧w.heap.size≤gu∧w'.cell? ⟨gu,2,none⟩=some (.int .i64 ((k+1:Nat):Int))∧Az w' base a img gl n c (k+1) (Gv bs ((k+1:Nat):Int) (BG 2 (k+1) (Cr t)))∧Touch (Bo w a img) w w'
set_option maxRecDepth 100000 in
theorem fA (w:World) (base a img gl n c k:Nat) (bs:List UInt8) (t:Int) (h1:1≤t) (h5:t≤5) (h:Az w base a img gl n c k bs) (hk:k<n) (hn:n≤14000) (hj:(k+1)*256+256≤bs.length) (hbl:bs.length≤3686400) (hb:base≤w.heap.size) :
 Calls Tryz.prog 117 #[.pointer (some ⟨a,0,none⟩),.int .i64 t,.bool true,.slice none 0 0] w fun e w'=>∃ vu,e=.returned (.tuple #[vu,.nilIface])∧Sa w base a img gl n c k bs t vu w':=by
 have Yg:=qh (fun w'=>El w' t true)
 have Yj:=qh (fun w'=>cK w' t h1 h5)
 have nZ:=qh (fun w'=>SK w' t h1 h5)
 have wR:=qh (IM t h1 h5)
 have Qq:=qh (fun (w':World) (b0:Nat) (A:Option Addr) (cc:Nat) (ho:w'.ownsRow b0 5 1 (.slice A 244 cc) 244 (AA AX (Cr t))) (hs:Az w' base a img gl n c k bs)=>show Calls Tryz.prog 77 #[.pointer (some ⟨a,0,none⟩),.int .i64 2,.slice A 244 cc] w' (fun e w''=>e=.returned (.tuple #[.int .i64 ((k+1:Nat):Int),.nilIface])∧Az w'' base a img gl n c (k+1) (Gv bs ((k+1:Nat):Int) (BG 2 (k+1) (Cr t)))∧Touch (Bo w' a img) w' w'') from XY w' (fun b=>b<w'.heap.size∧b≠a) base a img gl n c k bs 2 (.slice A 244 cc) (Cr t) (fun b hb=>hb.1) (fun hb=>hb.2 rfl) hs hk hn (by
  have hl:=IM t h1 h5
  have hq:w'.ownsRow b0 5 1 (.slice A (Cr t).length cc) (Cr t).length (AA AX (Cr t)):=by rw [hl];exact ho
  have h9:AU w' (fun b=>(Value.slice A (Cr t).length cc).ownBlock=some b∧b<w'.heap.size) (.slice A (Cr t).length cc) (Cr t):=by
   rcases hq.2 with ⟨e,h0⟩|⟨g',cap,cur,e,hb',hg,rest⟩
   · rw [hl] at h0;omega
   · have h8:=Bp.own (enc:=AX) (size:=1) (d:=(0:UInt8)) DY hq (by omega)
     obtain ⟨A',c',e',hc',hr'⟩:=h8
     injection e' with e1 e2 e3
     injection e with f1 f2 f3
     subst e1 e3
     refine ⟨_,_,rfl,hc',fun h0=>?_⟩
     obtain ⟨b,off,eb,hb2,hcell⟩:=hr' h0
     rw [f1] at eb
     injection eb with eb
     injection eb with eb1 eb2
     subst eb1 eb2
     exact ⟨_,_,f1,⟨by rw [f1];rfl,hb2.2⟩,hcell⟩
  rw [hl] at h9
  exact h9.sub (AB _) (fun b hb=>⟨hb.2,fun e=>by
   subst e
   have h7:w'.heap[b]? = some _:=hs.1
   rw [hl] at hq
   exact BC hq h7 (by decide) hb.1.symm⟩)) (by rw [IM t h1 h5];exact Nat.le_refl _) (by omega) (by omega) hj hbl)
 have yO:=qh (fun w'=>Ub w' ((k+1:Nat):Int))
 have HST:=qh h
 have JC:=qh h.2.1
 have IL:=qh hb
 unfold Sa
 clear h h1 h5 hk hn hj hbl hb
 obtain ⟨no,hno⟩:∃ x,k+1=x:=⟨_,rfl⟩
 rw [hno] at Qq yO ⊢
 clear hno
 generalize (BH t true:Int)=mk at *
 go_enter Tryz.func117,Tryz.ntmps117
 go_wp2_with (first
  | (go_at_call 53;(with_reducible refine (Yg.out _).mono ?_);rintro e w2 ⟨rfl,hw⟩;rw [hw];clear hw w2)
  | (go_at_call 163;(with_reducible refine (Yj.out _).mono ?_);rintro e w2 ⟨⟨gs,rfl,hgs,hc⟩,hB⟩;have HC:=qh hc;have HB:=qh hB;clear hc hB hgs))
 rename World=>w2
 have Jj:=qh (HST.out.below HB.out)
 have hs2:=HB.out.size
 go_loopw [3,10,28] (fun vl vu vi wr=>∃ i:Nat,vi=.int .i64 i∧i≤1∧vl=.slice none 0 0∧Hid (i=0→vu=.slice none 0 0∧w2=wr)∧Hid (i=1→∃ gu cu,vu=.slice (some ⟨gu,0,none⟩) 1 cu∧w.heap.size≤gu∧wr.cell? ⟨gu,2,none⟩=some (.int .i64 (no:Int))∧Az wr base a img gl n c no (Gv bs (no:Int) (BG 2 no (Cr t)))∧Touch (Bo w a img) w wr)) (fun _ _ vi _=>1-(intOf vi).toNat)
 case atStart=>exact ⟨0,rfl,by omega,rfl,fun _=>⟨rfl,rfl⟩,fun h=>by omega⟩
 case round =>
  obtain ⟨i,rfl,hi,rfl,H0,H1⟩:=hrel
  rcases (show i=0∨i=1 by omega) with hi0|hi1
  · obtain rfl:=hi0
    obtain ⟨rfl,rfl⟩:=H0.out rfl
    clear H0 H1
    have x0:=HC.out
    go_upto_region 6 with fail
    have hbx:=AL.new w2 #[.int .i64 t,.bool true,.slice none 0 0,.slice none 0 0] 125
    have hBx:Below w2.heap.size w2 (w2.alloc (.cells #[.int .i64 t,.bool true,.slice none 0 0,.slice none 0 0] 125)):=(Below.refl _ _).alloc (Nat.le_refl _) _
    generalize w2.alloc (.cells #[.int .i64 t,.bool true,.slice none 0 0,.slice none 0 0] 125)=w3 at *
    have HB3:=qh (HB.out.trans (hBx.mono hs2))
    have Mm:=qh (Jj.out.below hBx)
    have hs3:=HB3.out.size
    obtain ⟨g3,hg3⟩:∃ q,w2.heap.size=q:=⟨_,rfl⟩
    rw [hg3] at hbx ⊢
    have x0:w3.cell? ⟨g3,0,none⟩=some (.int .i64 t):=hbx.at 0 _ rfl
    have x1:w3.cell? ⟨g3,1,none⟩=some (.bool true):=hbx.at 1 _ rfl
    have x2:w3.cell? ⟨g3,2,none⟩=some (.slice none 0 0):=hbx.at 2 _ rfl
    have x3:w3.cell? ⟨g3,3,none⟩=some (.slice none 0 0):=hbx.at 3 _ rfl
    clear hbx hBx hg3 HC Jj HST HB hs2 Yj Yg
    go_wp2_with fail
    go_loopw [39] (fun vi wr=>vi=.int .i64 0∧wr=w3) (fun vi _=>1)
    case atStart=>exact ⟨rfl,rfl⟩
    case round =>
     obtain ⟨rfl,hwr⟩:=hrel
     rw [hwr]
     clear hwr wr
     go_upto_region 20 with (first
      | (go_at_call 164;(with_reducible refine (nZ.out _).mono ?_);rintro e w4 ⟨⟨A4,c4,rfl,ZV⟩,hB4⟩;have ZW:=qh ZV;have EQ:=qh hB4;clear ZV hB4)
      | (go_at_call 77;(with_reducible refine (Qq.out _ _ A4 c4 ZW.out (Mm.out.below EQ.out)).mono ?_);rintro e w5 ⟨rfl,lU,JY⟩;have uR:=qh lU;have Qp:=qh JY;clear lU JY)
      | (go_at_call 62;(with_reducible refine (yO.out _).mono ?_);rintro e w6 ⟨rfl,FP⟩;have D8:=qh FP;clear FP))
     generalize BJ (Fb Fe [(no:Int)])=sx at *
     have hby:=AL.new w6 #[.int .i64 0,.string sx,.int .i64 no] 144
     have fC:Below w6.heap.size w6 (w6.alloc (.cells #[.int .i64 0,.string sx,.int .i64 no] 144)):=(Below.refl _ _).alloc (Nat.le_refl _) _
     generalize w6.alloc (.cells #[.int .i64 0,.string sx,.int .i64 no] 144)=w7 at *
     have hs4:=EQ.out.size
     have hs5:=Qp.out.size
     have hs6:=D8.out.size
     have Es:=qh (D8.out.trans (fC.mono hs6))
     have uS:=qh (uR.out.below Es.out)
     have hs7:=Es.out.size
     obtain ⟨g7,IG⟩:∃ q,w6.heap.size=q:=⟨_,rfl⟩
     rw [IG] at hby ⊢
     have y0:w7.cell? ⟨g7,0,none⟩=some (.int .i64 0):=hby.at 0 _ rfl
     have y1:w7.cell? ⟨g7,1,none⟩=some (.string sx):=hby.at 1 _ rfl
     have y2:w7.cell? ⟨g7,2,none⟩=some (.int .i64 no):=hby.at 2 _ rfl
     clear hby fC IG ZW
     go_wp2_with (at_builtin;go_loud (refine BD uQ rfl _ _ rfl w.heap.size (.slice none 0 0) 0 [] (0,sx,(no:Int)) rfl (World.ownsRow_nil _ _ _ _) rfl (by omega) (by omega) ?_);intro A8 c8 w8 CQ Du Eu;have IU:=qh CQ;have Hg:=qh Du;clear CQ Du Eu)
     have KS:Below w7.heap.size w7 w8:=(Touch.CV (R:=fun _=>False) Hg.out (fun x hx=>by simp [Value.ownBlock] at hx)).below (fun x h=>h.elim) (Nat.le_refl _)
     obtain ⟨gu,hgu,hgl,-,hsu⟩:=BS IU.out (by omega)
     subst hgu
     have HU:Hid (0+1=1→∃ gu' cu,(Value.slice (some ⟨gu,0,none⟩) (0+1) c8)=.slice (some ⟨gu',0,none⟩) 1 cu∧w.heap.size≤gu'∧w8.cell? ⟨gu',2,none⟩=some (.int .i64 (no:Int))∧Az w8 base a img gl n c no (Gv bs (no:Int) (BG 2 no (Cr t)))∧Touch (Bo w a img) w w8):=fun _=>by
      refine ⟨gu,c8,rfl,?_,?_,uS.out.below KS,?_⟩
      · exact (IU.out.lt gu rfl).1
      · have:=hsu 2 (.int .i64 (no:Int)) rfl
        rwa [add_lit,Nat.zero_add] at this
      · have t4:Touch (Bo w a img) w _:=Touch.of_below (HB3.out.trans (EQ.out.mono hs3))
        have t5:=t4.trans (Qp.out.weak (CJ JC.out (HB3.out.trans (EQ.out.mono hs3))))
        exact (t5.trans (Touch.of_below Es.out)).trans (Touch.of_below KS)
     clear KS hsu hgl IU Hg y0 y1 y2
     go_roundw
     case rel=>exact ⟨1,by go_num,by omega,rfl,(fun h=>by omega),HU⟩
     case measure=>simp [intOf]
  · obtain rfl:=hi1
    obtain ⟨gu,cu,rfl,hgu,ae,hal,hT⟩:=H1.out rfl
    have HF:Hid (w.heap.size≤gu∧wr.cell? ⟨gu,2,none⟩=some (.int .i64 (no:Int))∧Az wr base a img gl n c no (Gv bs (no:Int) (BG 2 no (Cr t)))∧Touch (Bo w a img) w wr):=⟨hgu,ae,hal,hT⟩
    clear H0 H1 hgu ae hal hT
    go_wp2_with fail
    refine bodyPost_ret (v:=.tuple #[.slice (some ⟨gu,0,none⟩) 1 cu,.nilIface]) (by simp [results,Tryz.results117,go_sem]) rfl ⟨_,rfl,gu,cu,rfl,HF.out⟩
end
section
open Go.RowKit Go.Shelf
theorem Az.touch {w w':World} {base a img gl n c k g:Nat} {bs:List UInt8} {cs:Array Value} {T:TypeId} (h:Az w base a img gl n c k bs) (hT:Touch (fun x=>x=g) w w') (hg:AL w g cs T) (h1:T≠89) (h2:T≠84) (h3:T≠5) (h4:T≠3):Az w' base a img gl n c k bs:=by
 obtain ⟨p1,⟨q0,A,cc,q1,q2⟩,p3,p4,p5⟩:=h
 have hne:∀ {b:Nat} {cs':Array Value} {T':TypeId},w.heap[b]? = some (.cells cs' T' (0,0))→T≠T'→b≠g:=fun hb ht e=>by
  subst e
  unfold AL at hg
  rw [hb] at hg
  injection hg with hg
  injection hg with _ hg
  exact ht hg.symm
 have p1':w.heap[a]? = some (.cells _ _ (0,0)):=p1
 have q1':w.heap[img]? = some (.cells _ _ (0,0)):=q1
 refine ⟨(hT.block (AL.lt p1) (hne p1' h1)).trans p1,⟨q0,A,cc,(hT.block (Array.getElem?_eq_some_iff.1 q1').1 (hne q1' h2)).trans q1,BB q2 hT (fun x hx e=>BC q2 hg (fun e=>h3 e.symm) (by rw [← e];exact hx.symm))⟩,BB p3 hT (fun x hx e=>BC p3 hg (fun e=>h4 e.symm) (by rw [← e];exact hx.symm)),p4,p5⟩
theorem Ce {w:World} {base a img gl n c k g:Nat} {bs:List UInt8} {cs:Array Value} {T:TypeId} (h:Az w base a img gl n c k bs) (hg:AL w g cs T) (h1:T≠89) (h3:T≠5):¬ Bo w a img g:=by
 rintro (rfl|hx)
 · have p1:w.heap[g]? = some _:=h.1
   unfold AL at hg
   rw [p1] at hg
   injection hg with hg
   injection hg with _ hg
   exact h1 hg.symm
 · obtain ⟨cs',hx,-⟩:=Gg h.2.1 g hx
   unfold AL at hg
   rw [hx] at hg
   injection hg with hg
   injection hg with _ hg
   exact h3 hg.symm
set_option maxRecDepth 100000 in
theorem ZX (w:World) (base a img gl n c k:Nat) (bs:List UInt8) (t:Int) (g3 g4 g8:Nat) (h1:1≤t) (h5:t≤5) (h:Az w base a img gl n c k bs) (hk:k<n) (hn:n≤14000) (hj:(k+1)*256+256≤bs.length) (hbl:bs.length≤3686400) (hb:base≤w.heap.size) (b3:AL w g3 #[.pointer (some ⟨a,0,none⟩)] 49) (b4:AL w g4 #[.int .i64 t] 3) (b8:AL w g8 #[.nilIface] 27) :
 Calls Tryz.prog 116 #[.bool true,.slice none 0 0,.pointer (some ⟨g3,0,none⟩),.pointer (some ⟨g4,0,none⟩),.pointer (some ⟨g8,0,none⟩)] w fun e w'=>(∃ gu cu,e=.returned (.slice (some ⟨gu,0,none⟩) 1 cu)∧w'.cell? ⟨gu,2,none⟩=some (.int .i64 ((k+1:Nat):Int)))∧w'.cell? ⟨g8,0,none⟩=some .nilIface∧Az w' base a img gl n c (k+1) (Gv bs ((k+1:Nat):Int) (BG 2 (k+1) (Cr t)))∧Touch (fun x=>Bo w a img x∨x=g8) w w':=by
 have jY:=qh (fA w base a img gl n c k bs t h1 h5 h hk hn hj hbl hb)
 unfold Sa at jY
 have HN8:=qh (Ce h b8 (by decide) (by decide))
 have x3:=b3.at 0 _ rfl
 have x4:=b4.at 0 _ rfl
 have Gf:=qh b8
 clear h1 h5 h hk hn hj hbl hb b3 b4 b8
 obtain ⟨no,hno⟩:∃ x,k+1=x:=⟨_,rfl⟩
 rw [hno] at jY ⊢
 clear hno
 go_enter Tryz.func116,Tryz.ntmps116
 go_upto_region 2 with (go_at_call 117;(with_reducible refine jY.out.mono ?_);rintro e w2 ⟨vu,rfl,gu,cu,rfl,hgu,ae,ha,hT⟩;have HU:=qh (And.intro hgu ae);have HA:=qh ha;have HT:=qh hT;clear hgu ae ha hT)
 rename World=>w2
 have hb2:AL w2 g8 #[.nilIface] 27:=(HT.out.block Gf.out.lt HN8.out).trans Gf.out
 have y0:w2.cell? ⟨g8,0,none⟩=some .nilIface:=hb2.at 0 _ rfl
 have f0:=hb2.free 0
 have hlt:=hb2.lt
 have HB2:=qh hb2
 have Hg:=qh Gf.out.lt
 clear hb2
 go_wp2_with fail
 have OP:Touch (fun x=>x=g8) w2 (w2.setCell ⟨g8,0,none⟩ .nilIface):=Touch.BZ (R:=fun x=>x=g8) (p:=⟨g8,0,none⟩) rfl
 have Ey:AL (w2.setCell ⟨g8,0,none⟩ .nilIface) g8 #[.nilIface] 27:=HB2.out.set 0 _
 refine bodyPost_ret (v:=.slice (some ⟨gu,0,none⟩) 1 cu) (by simp [results,Tryz.results116,go_sem]) rfl ⟨⟨gu,cu,rfl,?_⟩,Ey.at 0 _ rfl,HA.out.touch OP HB2.out (by decide) (by decide) (by decide) (by decide),(HT.out.weak (fun x hx=>.inl hx)).trans (OP.weak (fun x hx=>.inr hx))⟩
 exact (World.cell?_of_block (a:=⟨gu,2,none⟩) (OP.block (World.block_lt_of_cell? _ _ HU.out.2) (fun e=>by have h8:=Hg.out;have h9:=HU.out.1;have e':gu=g8:=e;omega))).trans HU.out.2
set_option maxRecDepth 100000 in
theorem af (w:World) (base a img gl n c k:Nat) (bs:List UInt8) (t:Int) (h1:1≤t) (h5:t≤5) (h:Az w base a img gl n c k bs) (hk:k<n) (hc:n≤c) (hn:n≤14000) (hj:(k+1)*256+256≤bs.length) (hbl:bs.length≤3686400) (hb:base≤w.heap.size) :
 Calls Tryz.prog 70 #[.pointer (some ⟨a,0,none⟩),.int .i64 t,.slice none 0 0] w fun e w'=>e=.returned (.tuple #[.int .i64 ((k+1:Nat):Int),.nilIface])∧Az w' base a img gl n c (k+1) (Gv bs ((k+1:Nat):Int) (BG 2 (k+1) (Cr t)))∧Touch (Bo w a img) w w':=by
 have Sb:=qh (fun w' (hs:Az w' base a img gl n c k bs)=>Ji w' a img n c _ _ hs.1)
 have Xz:=qh (fun w'=>eY w' t h1 h5)
 have oO:=qh (fun w'=>GV w' t h1 h5)
 have IJ:=qh (fun w' (hs:Az w' base a img gl n c k bs)=>SX w' a img n c gl k hs.1 (by omega) hc (by omega))
 have UW:=qh (fun w' g3 g4 g8 (hs:Az w' base a img gl n c k bs) (hb:base≤w'.heap.size)=>ZX w' base a img gl n c k bs t g3 g4 g8 h1 h5 hs hk hn hj hbl hb)
 have HST:=qh h
 have IL:=qh hb
 have hnk:¬ ((n-k:Nat):Int)<1:=by omega
 have Uh:=qh (decide_eq_false hnk)
 clear h1 h5 h hk hc hn hj hbl hb hnk
 obtain ⟨no,hno⟩:∃ x,k+1=x:=⟨_,rfl⟩
 rw [hno] at UW ⊢
 clear hno
 obtain ⟨lf,hlf⟩:∃ x,((n-k:Nat):Int)=x:=⟨_,rfl⟩
 rw [hlf] at IJ Uh
 clear hlf
 obtain ⟨ka,kb,kB,kz⟩:=AL.two w #[.pointer (some ⟨a,0,none⟩)] #[.int .i64 t] 49 3
 go_enter Tryz.func70,Tryz.ntmps70
 go_upto_region 1 with fail
 generalize (w.alloc (.cells #[.pointer (some ⟨a,0,none⟩)] 49)).alloc (.cells #[.int .i64 t] 3)=w1 at *
 have XJ:=qh ka
 have VL:=qh kb
 have HB1:=qh kB
 have IV:=qh (HST.out.below kB)
 obtain ⟨g4,hg4⟩:∃ q,w.heap.size+1=q:=⟨_,rfl⟩
 rw [hg4] at kb VL ⊢
 obtain ⟨g3,hg3⟩:∃ q,w.heap.size=q:=⟨_,rfl⟩
 have VA:=qh hg3
 rw [hg3] at ka XJ ⊢
 have x3:w1.cell? ⟨g3,0,none⟩=some (.pointer (some ⟨a,0,none⟩)):=ka.at 0 _ rfl
 have x4:w1.cell? ⟨g4,0,none⟩=some (.int .i64 t):=kb.at 0 _ rfl
 clear ka kb kB kz hg3 hg4
 go_upto_region 5 with (first
  | (go_at_call 34;(with_reducible refine (Sb.out _ IV.out).mono ?_);rintro e w2 ⟨rfl,hw⟩;rw [hw];clear hw w2)
  | (go_at_call 115;(with_reducible refine (Xz.out _).mono ?_);rintro e w2 ⟨rfl,hB⟩;have HB2:=qh hB;clear hB))
 rename World=>w2
 have XZ:=qh (XJ.out.below HB2.out XJ.out.lt)
 have Od:=qh (VL.out.below HB2.out VL.out.lt)
 have Jj:=qh (IV.out.below HB2.out)
 clear x3 x4 XJ VL
 go_cut [22] (fun s22 wx=>s22=.bool false∧Hid (Below w2.heap.size w2 wx))
 case first =>
  refine AJ (T:=fun _=>false) (S:=fun w'=>Below w2.heap.size w2 w') (by kernel_rfl) (Below.refl w2.heap.size w2).drew (fun hHeld=>?_)
  obtain ⟨BN,hw0⟩:∃ x,w2.drew=x:=⟨_,rfl⟩
  rw [hw0] at hHeld ⊢
  have AF:Below w2.heap.size w2 BN:=hHeld
  clear hHeld hw0
  refine qf 0 23 rfl rfl AF (by intro w2' hSw;have x3:=(XZ.out.below hSw XZ.out.lt).at 0 _ rfl;go_simp;(try with_reducible rfl)) ?_
  refine qf 2 25 rfl rfl AF (by intro w2' hSw;have x4:=(Od.out.below hSw Od.out.lt).at 0 _ rfl;go_simp;(try with_reducible rfl)) ?_
  refine qs 3 26 AF ?_
  refine qs 4 27 AF ?_
  refine qo 1 fun K hK=>?_
  go_simp
  refine (IJ.out BN (Jj.out.below AF)).mono ?_
  rintro e BP ⟨rfl,CB⟩
  have AF:=AF.trans (CB.mono AF.size)
  clear CB
  refine hK.out _ _ (fun _=>AF) (fun Cq=>?_)
  clear hK K Cq
  (try simp only [Act.put,qS,qZ,qU])
  refine qo 5 fun K hK=>?_
  go_simp
  refine (oO.out BP).mono ?_
  rintro e Cz ⟨rfl,CB⟩
  have AF:=AF.trans (CB.mono AF.size)
  clear CB
  refine hK.out _ _ (fun _=>AF) (fun Cq=>?_)
  clear hK K Cq
  (try simp only [Act.put,qS,qZ,qU])
  refine qs 6 29 AF ?_
  refine qs 7 22 AF ?_
  refine qd ?_
  have hlt:=Uh.out
  go_wp2_with fail
  go_meet
  exact ⟨by rw [hlt],AF⟩
 rename World=>w3
 obtain ⟨h22,HB3⟩:=hcut
 obtain rfl:=h22.symm
 clear h22
 go_upto_region 8 with fail
 have uT:=AL.new w3 #[.nilIface] 27
 have KS:Below w3.heap.size w3 (w3.alloc (.cells #[.nilIface] 27)):=(Below.refl _ _).alloc (Nat.le_refl _) _
 generalize w3.alloc (.cells #[.nilIface] 27)=w4 at *
 have hs1:=HB1.out.size
 have hs2:=HB2.out.size
 have hs3:=HB3.out.size
 have QX:=qh (HB3.out.trans (KS.mono hs3))
 have uU:=qh (XZ.out.below QX.out XZ.out.lt)
 have Oe:=qh (Od.out.below QX.out Od.out.lt)
 have uV:=qh (Jj.out.below QX.out)
 have EQ:=qh ((HB1.out.trans (HB2.out.mono hs1)).trans (QX.out.mono (by omega)))
 have VM:Hid (w.heap.size≤w3.heap.size):=by show _≤_;omega
 obtain ⟨g8,Du⟩:∃ q,w3.heap.size=q:=⟨_,rfl⟩
 rw [Du] at uT VM ⊢
 have uW:=qh (UW.out w4 g3 g4 g8 uV.out (by have:=IL.out;have:=EQ.out.size;omega) uU.out Oe.out uT)
 clear uT KS Du XZ Od Jj HB3 QX UW Sb Xz oO IJ hs1 hs2 hs3
 go_wp2_with (go_at_call 116;(with_reducible refine uW.out.mono ?_);rintro e w5 ⟨⟨gu,cu,rfl,ae⟩,hc8,lU,JY⟩;have HCU:=qh ae;have HC8:=qh hc8;have uR:=qh lU;have Qp:=qh JY;clear ae hc8 lU JY)
 rename World=>w5
 have y8:=HC8.out
 have yu:=HCU.out
 go_loopw [10] (fun vu wr=>vu=.slice (some ⟨gu,0,none⟩) 1 cu∧wr=w5) (fun vu _=>1)
 case atStart=>exact ⟨rfl,rfl⟩
 case round =>
  obtain ⟨rfl,hwr⟩:=hrel
  rw [hwr]
  clear hwr wr
  go_wp2_with fail
  refine bodyPost_ret (v:=.tuple #[.int .i64 no,.nilIface]) (by simp [results,Tryz.results70,go_sem]) rfl ⟨rfl,uR.out,?_⟩
  refine (Touch.of_below EQ.out).trans' Qp.out (fun x hx=>?_)
  rcases hx with hx|hx
  · exact .inl (CJ HST.out.2.1 EQ.out x hx)
  · exact .inr (by rw [hx];exact VM.out)
end
section
open Go.RowKit Go.Shelf
theorem Jk (bs:List UInt8) (k:Int) (b:List UInt8):(Gv bs k b).length=bs.length:=by
 unfold Gv
 split
 · rename_i h
   simp only [List.length_append,List.length_take,List.length_drop]
   omega
 · rfl
theorem Og (w:World):Calls Tryz.prog 16 #[.nilIface] w fun e w'=>e=.returned (.tuple #[])∧w'=w:=by
 go_enter Tryz.func16,Tryz.ntmps16
 go_wp2
 (try simp only [Exit.inBlock,Exit.then])
 first
  | (refine bodyPost_ret (results_none rfl _ _ _) rfl ⟨rfl,rfl⟩)
  | (refine bodyPost_end (results_none rfl _ _ _) rfl ⟨rfl,rfl⟩)
def Cf (bs:List UInt8) (k:Nat) (t:Int):List UInt8:=Gv bs ((k+1:Nat):Int) (BG 2 (k+1) (Cr t))
theorem Ca (bs:List UInt8) (k:Nat) (t:Int):(Cf bs k t).length=bs.length:=Jk _ _ _
set_option maxRecDepth 100000 in
theorem QY (w:World) (base a img gl n c k:Nat) (bs:List UInt8) (t:Int) (h1:1≤t) (h5:t≤5) (h:Az w base a img gl n c k bs) (hk:k<n) (hc:n≤c) (hn:n≤14000) (hj:(k+1)*256+256≤bs.length) (hbl:bs.length≤3686400) (hb:base≤w.heap.size) :
 Calls Tryz.prog 60 #[.agg #[.pointer (some ⟨a,0,none⟩)],.int .i64 t,.slice none 0 0] w fun e w'=>e=.returned (.int .i64 ((k+1:Nat):Int))∧Az w' base a img gl n c (k+1) (Cf bs k t)∧Touch (Bo w a img) w w':=by
 have hB1:Below w.heap.size w (w.alloc (.cells #[.pointer (some ⟨a,0,none⟩)] 54)):=(Below.refl _ _).alloc (Nat.le_refl _) _
 have hbx:=AL.new w #[.pointer (some ⟨a,0,none⟩)] 54
 have UW:=qh (fun w' (hB:Below w.heap.size w w')=>af w' base a img gl n c k bs t h1 h5 (h.below hB) hk hc hn hj hbl (by have:=hB.size;omega))
 have ag:=qh (fun w'=>Og w')
 have JC:=qh h.2.1
 unfold Cf
 clear h1 h5 h hk hc hn hj hbl hb
 obtain ⟨no,hno⟩:∃ x,k+1=x:=⟨_,rfl⟩
 rw [hno] at UW ⊢
 clear hno
 go_enter Tryz.func60,Tryz.ntmps60
 go_upto_region 1 with fail
 generalize w.alloc (.cells #[.pointer (some ⟨a,0,none⟩)] 54)=w1 at *
 have x0:w1.cell? ⟨w.heap.size,0,none⟩=some (.pointer (some ⟨a,0,none⟩)):=hbx.at 0 _ rfl
 have HB1:=qh hB1
 have uX:=qh (UW.out w1 hB1)
 clear hbx hB1
 go_wp2_with (first
  | (go_at_call 70;(with_reducible refine uX.out.mono ?_);rintro e w2 ⟨rfl,ha,hT⟩;have HA:=qh ha;have HT:=qh hT;clear ha hT)
  | (go_at_call 16;(with_reducible refine (ag.out _).mono ?_);rintro e w3 ⟨rfl,hw⟩;rw [hw];clear hw w3))
 refine bodyPost_ret (v:=.int .i64 no) (by simp [results,Tryz.results60,go_sem]) rfl ⟨rfl,HA.out,(Touch.of_below HB1.out).trans (HT.out.weak (CJ JC.out HB1.out))⟩
theorem Eb {w w':World} {base a img:Nat} {bs:List UInt8} (h:BO w base img bs) (hT:Touch (Bo w a img) w w') (hc:img≠a):∀ x,Bo w' a img x→Bo w a img x:=by
 obtain ⟨A,c,h1,h2⟩:=h.MG
 have hni:¬ Bo w a img img:=by
  rintro (e|hx)
  · exact hc e
  · obtain ⟨cs,hx,-⟩:=Gg h img hx
    obtain ⟨h0,A',c',q1,q2⟩:=h
    have q1':w.heap[img]? = some _:=q1
    rw [hx] at q1'
    injection q1' with q1'
    injection q1' with _ q1'
    exact absurd q1' (by decide)
 intro x hx
 rcases hx with hx|⟨v,hv,hx⟩
 · exact .inl hx
 · rw [(World.cell?_of_block (a:=⟨img,0,none⟩) (hT.block h2 hni)).trans h1] at hv
   exact .inr ⟨_,h1,by injection hv with hv;rw [hv];exact hx⟩
theorem Az.Tk {w:World} {base a img gl n c k:Nat} {bs:List UInt8} (h:Az w base a img gl n c k bs):img≠a:=fun e=>by
 obtain ⟨p1,⟨q0,A,cc,q1,q2⟩,-⟩:=h
 subst e
 have r1:w.heap[img]? = some _:=p1
 have r2:w.heap[img]? = some _:=q1
 rw [r1] at r2
 injection r2 with r2
 injection r2 with _ r2
 exact absurd r2 (by decide)
set_option maxRecDepth 100000 in
theorem Xa (w:World) (base a img gl n c k:Nat) (bs:List UInt8) (h:Az w base a img gl n c k bs) (hk:k+1<n) (hc:n≤c) (hn:n≤14000) (hj:(k+2)*256+256≤bs.length) (hbl:bs.length≤3686400) (hb:base≤w.heap.size) :
 Calls Tryz.prog 35 #[.agg #[.pointer (some ⟨a,0,none⟩)],.slice none 0 0] w fun e w'=>e=.returned (.tuple #[.int .i64 ((k+1:Nat):Int),.int .i64 ((k+2:Nat):Int)])∧Az w' base a img gl n c (k+2) (Cf (Cf bs k 1) (k+1) 3)∧Touch (Bo w a img) w w':=by
 have hB1:Below w.heap.size w (w.alloc (.cells #[.pointer (some ⟨a,0,none⟩)] 54)):=(Below.refl _ _).alloc (Nat.le_refl _) _
 have hbx:=AL.new w #[.pointer (some ⟨a,0,none⟩)] 54
 have HT1:=qh (QY _ base a img gl n c k bs 1 (by omega) (by omega) (h.below hB1) (by omega) hc hn (by omega) hbl (by have:=hB1.size;omega))
 have HT2:=qh (fun w' (hs:Az w' base a img gl n c (k+1) (Cf bs k 1)) (hb:base≤w'.heap.size)=>QY w' base a img gl n c (k+1) (Cf bs k 1) 3 (by omega) (by omega) hs hk hc hn (by rw [Ca];omega) (by rw [Ca];exact hbl) hb)
 have JC:=qh h.2.1
 have EP:=qh h.Tk
 have HH:=qh h
 have IL:=qh hb
 clear h hk hc hn hj hbl hb
 obtain ⟨n1,hn1⟩:∃ x,k+1=x:=⟨_,rfl⟩
 obtain ⟨n2,hn2⟩:∃ x,n1+1=x:=⟨_,rfl⟩
 have WI:k+2=n2:=by omega
 rw [hn1] at HT1 HT2
 rw [hn2] at HT2
 rw [WI,hn1]
 clear hn1 hn2 WI
 go_enter Tryz.func35,Tryz.ntmps35
 go_upto_region 1 with fail
 generalize w.alloc (.cells #[.pointer (some ⟨a,0,none⟩)] 54)=w1 at *
 have HB1:=qh hB1
 have HX:=qh hbx
 clear hB1 hbx
 go_wp2_with fail
 have IV:=qh (HH.out.below HB1.out)
 have MO:=qh (Ce IV.out HX.out (by decide) (by decide))
 go_loopw [6,7,15] (fun v6 v7 vi wr=>v6=.slice none 0 0∧v7=.slice none 0 0∧vi=.int .i64 0∧wr=w1) (fun _ _ vi _=>1)
 case atStart=>exact ⟨rfl,rfl,rfl,rfl⟩
 case round =>
  obtain ⟨rfl,rfl,rfl,hwr⟩:=hrel
  rw [hwr]
  clear hwr wr
  have x0:w1.cell? ⟨w.heap.size,0,none⟩=some (.pointer (some ⟨a,0,none⟩)):=HX.out.at 0 _ rfl
  go_upto_region 11 with (go_at_call 60;(with_reducible refine HT1.out.mono ?_);rintro e w2 ⟨rfl,ha,hT⟩;have HA:=qh ha;have HT:=qh hT;clear ha hT)
  rename World=>w2
  have hx2:AL w2 w.heap.size #[.pointer (some ⟨a,0,none⟩)] 54:=(HT.out.block HX.out.lt MO.out).trans HX.out
  have x2:w2.cell? ⟨w.heap.size,0,none⟩=some (.pointer (some ⟨a,0,none⟩)):=hx2.at 0 _ rfl
  clear hx2
  have HT3:=qh (HT2.out w2 HA.out (by have:=IL.out;have:=HB1.out.size;have:=HT.out.size;omega))
  clear x0 HT1 HT2
  go_wp2_with (go_at_call 60;(with_reducible refine HT3.out.mono ?_);rintro e w3 ⟨rfl,ha,hT⟩;have wN:=qh ha;have bz:=qh hT;clear ha hT)
  have t1:Touch (Bo w a img) w w2:=(Touch.of_below HB1.out).trans (HT.out.weak (CJ JC.out HB1.out))
  refine bodyPost_ret (v:=.tuple #[.int .i64 n1,.int .i64 n2]) (by simp [results,Tryz.results35,go_sem]) rfl ⟨rfl,wN.out,t1.trans (bz.out.weak (Eb JC.out t1 EP.out))⟩
end
section
open Go.RowKit Go.Shelf
theorem fD (w:World):(Instr.makeSlice 62 (.int .i64 8) (.int .i64 8)).run Tryz.prog w=.ok (.slice (some ⟨w.heap.size,0,none⟩) 8 8) (w.alloc (.cells #[.int .i64 0,.int .i64 0,.int .i64 0,.int .i64 0,.int .i64 0,.int .i64 0,.int .i64 0,.int .i64 0] 3)):=by
 have h:=run_make_row' (P:=Tryz.prog) 62 3 (.int .i64 0) 8 Tryz.underlying62 (by kernel_rfl) rfl .i64 .i64 8 (by omega) (by omega) w
 have hmz:(madeCells #[Value.int .i64 0] 8)=#[.int .i64 0,.int .i64 0,.int .i64 0,.int .i64 0,.int .i64 0,.int .i64 0,.int .i64 0,.int .i64 0]:=by kernel_rfl
 rw [hmz] at h
 exact h
def DU (i:Nat):List Int:=List.replicate i 1++List.replicate (8-i) 0
def FX (i:Nat):Array Value:=((DU i).map fun x=>Value.int .i64 x).toArray
theorem VN:FX 0=#[.int .i64 0,.int .i64 0,.int .i64 0,.int .i64 0,.int .i64 0,.int .i64 0,.int .i64 0,.int .i64 0]:=rfl
theorem Xb {i:Nat} (h:i<8):(FX i).setIfInBounds i (.int .i64 1)=FX (i+1):=by
 rcases (show i=0∨i=1∨i=2∨i=3∨i=4∨i=5∨i=6∨i=7 by omega) with rfl|rfl|rfl|rfl|rfl|rfl|rfl|rfl <;> rfl
theorem ZY {i:Nat} (h:i<8):(FX i)[i]? = some (.int .i64 0):=by
 rcases (show i=0∨i=1∨i=2∨i=3∨i=4∨i=5∨i=6∨i=7 by omega) with rfl|rfl|rfl|rfl|rfl|rfl|rfl|rfl <;> rfl
set_option maxRecDepth 100000 in
theorem VO (w:World) (base a img gl n c k:Nat) (bs:List UInt8) (h:Az w base a img gl n c k bs) (hl:bs.length=2048) (hk:k≤7) :
 Calls Tryz.prog 39 #[.agg #[.pointer (some ⟨a,0,none⟩)]] w fun e w'=>(∃ g,e=.returned (.slice (some ⟨g,0,none⟩) 8 8)∧w.heap.size≤g∧AL w' g (FX (k+1)) 3)∧Below w.heap.size w w':=by
 have hB1:Below w.heap.size w (w.alloc (.cells #[.pointer (some ⟨a,0,none⟩)] 54)):=(Below.refl _ _).alloc (Nat.le_refl _) _
 have hbx:=AL.new w #[.pointer (some ⟨a,0,none⟩)] 54
 have Sb:=qh (fun w' (hs:Az w' base a img gl n c k bs)=>Ji w' a img n c _ _ hs.1)
 have kU:=qh (fun w' (hs:Az w' base a img gl n c k bs)=>eZ w' a img n c _ _ hs.1)
 have LM:Hid (∀ w',Az w' base a img gl n c k bs→Calls Tryz.prog 33 #[.pointer (some ⟨img,0,none⟩)] w' fun e w''=>e=.returned (.int .i64 8)∧w''=w'):=fun w' hs=>by
  obtain ⟨A,cc,h1,-⟩:=hs.2.1.MG
  have h9:=CF w' img A bs.length cc h1 (by rw [hl];decide)
  rw [hl] at h9
  refine h9.mono ?_
  rintro e w2 ⟨rfl,hw⟩
  exact ⟨rfl,hw.symm⟩
 have HST:=qh h
 have hk1:(k:Int)+1≤8:=by omega
 clear h hl
 go_enter Tryz.func39,Tryz.ntmps39
 go_upto_region 1 with fail
 generalize w.alloc (.cells #[.pointer (some ⟨a,0,none⟩)] 54)=w1 at *
 have HB1:=qh hB1
 have HX:=qh hbx
 have x0:w1.cell? ⟨w.heap.size,0,none⟩=some (.pointer (some ⟨a,0,none⟩)):=hbx.at 0 _ rfl
 have IV:=qh (HST.out.below HB1.out)
 have hmk:=fD w1
 clear hB1 hbx
 go_upto_region 2 with (first
  | (go_at_call 34;(with_reducible refine (Sb.out _ IV.out).mono ?_);rintro e w2 ⟨rfl,hw⟩;rw [hw];clear hw w2)
  | (go_at_call 33;(with_reducible refine (LM.out _ IV.out).mono ?_);rintro e w2 ⟨rfl,hw⟩;rw [hw];clear hw w2))
 have hby:=AL.new w1 #[.int .i64 0,.int .i64 0,.int .i64 0,.int .i64 0,.int .i64 0,.int .i64 0,.int .i64 0,.int .i64 0] 3
 have fC:Below w1.heap.size w1 (w1.alloc (.cells #[.int .i64 0,.int .i64 0,.int .i64 0,.int .i64 0,.int .i64 0,.int .i64 0,.int .i64 0,.int .i64 0] 3)):=(Below.refl _ _).alloc (Nat.le_refl _) _
 generalize w1.alloc (.cells #[.int .i64 0,.int .i64 0,.int .i64 0,.int .i64 0,.int .i64 0,.int .i64 0,.int .i64 0,.int .i64 0] 3)=w2 at *
 rw [← VN] at hby
 have hs1:=HB1.out.size
 have HB2:=qh (HB1.out.trans (fC.mono hs1))
 have Jj:=qh (IV.out.below fC)
 have hx2:AL w2 w.heap.size #[.pointer (some ⟨a,0,none⟩)] 54:=HX.out.below fC HX.out.lt
 have x2:w2.cell? ⟨w.heap.size,0,none⟩=some (.pointer (some ⟨a,0,none⟩)):=hx2.at 0 _ rfl
 have Pq:Hid (w.heap.size≤w1.heap.size):=hs1
 obtain ⟨g,hg⟩:∃ q,w1.heap.size=q:=⟨_,rfl⟩
 rw [hg] at hby Pq ⊢
 have X5:=qh hby
 clear x0 hmk hby fC hg hx2 HX Sb LM IV HST
 go_wp2_with (go_at_call 78;(with_reducible refine (kU.out _ Jj.out).mono ?_);rintro e w3 ⟨rfl,hw⟩;rw [hw];clear hw w3)
 go_loopw [14] (fun vi wr=>∃ i:Nat,vi=.int .i64 i∧i≤k+1∧Hid (Below w.heap.size w wr)∧Hid (AL wr g (FX i) 3)) (fun vi _=>k+1-(intOf vi).toNat)
 case atStart=>exact ⟨0,rfl,by omega,HB2,X5⟩
 case round =>
  obtain ⟨i,rfl,hi,J6,lV⟩:=hrel
  by_cases hlt:i<k+1
  · have hil:(i:Int)<(k:Int)+1:=by omega
    have hi8:(i:Int)<8:=by omega
    have yP:Hid (i<8):=by show _<_;omega
    have z0:wr.cell? ⟨g,i,none⟩=some (.int .i64 0):=lV.out.at i _ (ZY yP.out)
    have f0:=lV.out.free i
    have hgl:=lV.out.lt
    go_wp2_with fail
    have NW:Hid (AL (wr.setCell ⟨g,i,none⟩ (.int .i64 1)) g (FX (i+1)) 3):=by
     have:=lV.out.set i (.int .i64 1)
     rw [Xb yP.out] at this
     exact this
    have Jb:Hid (Below w.heap.size w (wr.setCell ⟨g,i,none⟩ (.int .i64 1))):=J6.out.trans ((Touch.BZ (R:=fun x=>x=g) (p:=⟨g,i,none⟩) rfl).below (fun x e=>by rw [e];exact Pq.out) J6.out.size)
    clear z0 f0 hgl
    go_roundw
    case rel=>exact ⟨i+1,by go_num,by omega,Jb,NW⟩
    case measure=>simp [intOf];omega
  · obtain rfl:i=k+1:=by omega
    go_wp2_with fail
    refine bodyPost_ret (v:=.slice (some ⟨g,0,none⟩) 8 8) (by simp [results,Tryz.results39,go_sem]) rfl ⟨⟨g,rfl,Pq.out,lV.out⟩,J6.out⟩
end
section
open Go.RowKit Go.Shelf
set_option maxRecDepth 100000 in
theorem Nc (w:World) (g off n c:Nat) (f:Nat→Int) (hf:∀ i,i<n→w.cell? ⟨g,off+i,none⟩=some (.int .i64 (f i))∧f i≠0) (hn:n≤1000000) :
 Calls Tryz.prog 113 #[.slice (some ⟨g,off,none⟩) n c] w fun e w'=>e=.returned (.tuple #[.int .i64 0,.int .i64 n])∧w'=w:=by
 have HF:=qh hf
 clear hf
 go_enter Tryz.func113,Tryz.ntmps113
 go_wp2_with fail
 go_loopw [4,5,12] (fun v4 v5 vi wr=>(∃ i:Nat,vi=.int .i64 i∧i≤n∧v4=.int .i64 0∧v5=.int .i64 n)∧wr=w) (fun _ _ vi _=>n-(intOf vi).toNat)
 case atStart=>exact ⟨⟨0,rfl,Nat.zero_le _,rfl,rfl⟩,rfl⟩
 case round =>
  obtain ⟨⟨i,rfl,hi,rfl,rfl⟩,hwr⟩:=hrel
  rw [hwr]
  clear hwr wr
  by_cases hlt:i<n
  · have hil:(i:Int)<(n:Int):=by omega
    obtain ⟨x0,hne⟩:=HF.out i hlt
    obtain ⟨u,hu⟩:∃ u,f i=u:=⟨_,rfl⟩
    rw [hu] at x0 hne
    have hnb:(u != 0)=true:=by rw [bne_iff_ne];exact hne
    clear hne hu
    go_wp2_with fail
    go_roundw
    case rel=>exact ⟨⟨i+1,by go_num,by omega,rfl,rfl⟩,by trivial⟩
    case measure=>simp [intOf];omega
  · obtain rfl:i=n:=by omega
    go_wp2_with fail
    refine bodyPost_ret (v:=.tuple #[.int .i64 0,.int .i64 i]) (by simp [results,Tryz.results113,go_sem]) rfl ⟨rfl,rfl⟩
theorem QZ (w:World):Calls Tryz.prog 72 #[.int .i64 8] w fun e w'=>e=.returned (.int .i64 1)∧w'=w:=by
 go_enter Tryz.func72,Tryz.ntmps72
 go_wp2
 go_ret
 exact ⟨rfl,rfl⟩
theorem Qa (w:World):Calls Tryz.prog 72 #[.int .i64 0] w fun e w'=>e=.returned (.int .i64 0)∧w'=w:=by
 go_enter Tryz.func72,Tryz.ntmps72
 go_wp2
 go_ret
 exact ⟨rfl,rfl⟩
end
end Go.Proofs.YthblbddmcdnllaaGreatDoor
