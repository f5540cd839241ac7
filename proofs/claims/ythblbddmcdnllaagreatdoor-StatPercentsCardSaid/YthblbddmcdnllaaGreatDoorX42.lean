/- A part of the proof: WBits2, WBitsPut, WAhead, WSize0. -/
import Derived.Test.YthblbddmcdnllaaGreatDoorX41
import Derived.Test.YthblbddmcdnllaaGreatDoorX38
import Derived.RegionTactic
import Derived.BigRegion
import Derived.Test.YthblbddmcdnllaaGreatDoorX12
import Derived.Test.YthblbddmcdnllaaGreatDoorX25
import Derived.Test.YthblbddmcdnllaaGreatDoorX22
import Derived.Deep.RegionHeld3
import Derived.Test.YthblbddmcdnllaaGreatDoorY1
set_option maxHeartbeats 6400000
set_option linter.unusedVariables false
set_option linter.unusedSimpArgs false
namespace Go.Proofs.YthblbddmcdnllaaGreatDoor
section
open Go.RowKit Go.Shelf
theorem Xc (w:World):Calls Tryz.prog 162 #[.int .i64 1] w fun e w'=>e=.returned (.bool false)∧w'=w:=by
 go_enter Tryz.func162,Tryz.ntmps162
 go_wp2
 go_ret
 exact ⟨rfl,rfl⟩
set_option maxRecDepth 100000 in
theorem Sc (w:World) (g off n c:Nat) (hf:∀ i,i<n→w.cell? ⟨g,off+i,none⟩=some (.int .i64 1)) (hn:n≤1000000) :
 Calls Tryz.prog 101 #[.slice (some ⟨g,off,none⟩) n c,.func (.func 162) #[] #[]] w fun e w'=>e=.returned (.int .i64 (-1))∧w'=w:=by
 have HF:=qh hf
 have HA:=qh (fun w=>Xc w)
 clear hf
 go_enter Tryz.func101,Tryz.ntmps101
 go_wp2_with fail
 go_loopw [8] (fun vi wr=>(∃ k:Nat,vi=.int .i64 k∧k≤n)∧wr=w) (fun vi _=>n-(intOf vi).toNat)
 case atStart=>exact ⟨⟨0,rfl,by omega⟩,rfl⟩
 case round =>
  obtain ⟨⟨k,rfl,hk⟩,hwr⟩:=hrel
  rw [hwr]
  clear hwr wr
  by_cases hlt:k<n
  · have hil:(k:Int)<(n:Int):=by omega
    have c0:=HF.out k hlt
    go_wp2_with (go_at_call 162;(with_reducible refine (HA.out _).mono ?_);rintro e w3 ⟨rfl,hw⟩;rw [hw];clear hw w3)
    go_roundw
    case rel=>exact ⟨⟨k+1,by go_num,by omega⟩,by trivial⟩
    case measure=>simp [intOf];omega
  · obtain rfl:k=n:=by omega
    go_wp2_with fail
    go_ret
    exact ⟨rfl,rfl⟩
theorem Xd (w:World) (g off n c:Nat) (hf:∀ i,i<n→w.cell? ⟨g,off+i,none⟩=some (.int .i64 1)) (hn:n≤1000000) :
 Calls Tryz.prog 56 #[.slice (some ⟨g,off,none⟩) n c,.func (.func 162) #[] #[]] w fun e w'=>e=.returned (.bool false)∧w'=w:=by
 have HI:=qh (Sc w g off n c hf hn)
 clear hf hn
 go_enter Tryz.func56,Tryz.ntmps56
 go_wp2_with (go_at_call 101;(with_reducible refine HI.out.mono ?_);rintro e w3 ⟨rfl,hw⟩;rw [hw];clear hw w3)
 go_ret
 exact ⟨rfl,rfl⟩
end
section
open Go.RowKit Go.Shelf
def EN:List UInt8:=[8,0,0,0,85,85]++List.replicate 238 0
def CX (x y:Int):List Value:=[.int .u8 8,.int .u8 0,.int .u8 0,.int .u8 0,.int .u8 x,.int .u8 y]++List.replicate 238 (Value.int .u8 0)
theorem VP:CX 85 85=AA AX EN:=by kernel_rfl
theorem Xe:splice EA 0 (AA AX (Aj [(4,8)]))=CX 0 0:=by kernel_rfl
theorem lW (x y z:Int):((CX x y).toArray).setIfInBounds 4 (.int .u8 z)=(CX z y).toArray:=by rw [List.setIfInBounds_toArray];rfl
theorem lX (x y z:Int):((CX x y).toArray).setIfInBounds 5 (.int .u8 z)=(CX x z).toArray:=by rw [List.setIfInBounds_toArray];rfl
theorem uY (x y:Int):((CX x y).toArray)[4]? = some (.int .u8 x):=by rw [List.getElem?_toArray];rfl
theorem uZ (x y:Int):((CX x y).toArray)[5]? = some (.int .u8 y):=by rw [List.getElem?_toArray];rfl
def bx (i:Nat):Int:=match i with|0=>0|1=>1|2=>5|3=>21|_=>85
def KD (i:Nat):Int:=match i with|0=>0|1=>0|2=>0|3=>0|4=>0|5=>1|6=>5|7=>21|_=>85
theorem VQ:∀ f∈([(4,8)]:List (Nat × Int)),EG f:=by
 intro f hf
 simp only [List.mem_cons,List.not_mem_nil,or_false] at hf
 subst hf
 exact ⟨.inr (.inr (.inl rfl)),by decide,by decide,.inr (by decide)⟩
theorem ZZ (w:World):Calls Tryz.prog 81 #[.slice (some ⟨w.heap.size,0,none⟩) 1 1] (w.alloc (.cells #[.int .i64 4,.int .i64 8] 168)) fun e w'=>(∃ A c,e=.returned (.tuple #[.slice A 4 c,.int .i64 0])∧w'.ownsRow w.heap.size 5 1 (.slice A 4 c) 4 (AA AX (Aj [(4,8)])))∧Below w.heap.size w w':=by
 have b16:=heap_alloc_new w (.cells #[.int .i64 4,.int .i64 8] 168)
 have h9:=Hl (w.alloc (.cells #[.int .i64 4,.int .i64 8] 168)) _ (.slice (some ⟨w.heap.size,0,none⟩) 1 1) [(4,8)] (fun b hb=>hb) (I7 (fs:=[(4,8)]) b16 (by decide)) VQ (by decide)
 refine h9.mono ?_
 rintro e w' ⟨⟨A,c,rfl,ho⟩,hB⟩
 have hB1:Below w.heap.size w (w.alloc (.cells #[.int .i64 4,.int .i64 8] 168)):=(Below.refl _ _).alloc (Nat.le_refl _) _
 exact ⟨⟨A,c,rfl,ho.mono hB1.size⟩,hB1.trans (hB.mono hB1.size)⟩
set_option maxRecDepth 100000 in
theorem Xf (w:World) (g c:Nat) (hg:g<w.heap.size) (hf:∀ i,i<8→w.cell? ⟨g,i,none⟩=some (.int .i64 1)) :
 Calls Tryz.prog 112 #[.slice (some ⟨g,0,none⟩) 8 c] w fun e w'=>(∃ A c,e=.returned (.tuple #[.slice A 244 c,.int .i64 0])∧w'.ownsRow w.heap.size 5 1 (.slice A 244 c) 244 (AA AX EN))∧Below w.heap.size w w':=by
 have yQ:Hid (Calls Tryz.prog 56 #[.slice (some ⟨g,0,none⟩) 8 c,.func (.func 162) #[] #[]] w fun e w'=>e=.returned (.bool false)∧w'=w):=Xd w g 0 8 c (fun i hi=>by rw [Nat.zero_add];exact hf i hi) (by decide)
 have RP:=qh (ZZ w)
 have ah:Hid (∀ w',Below w.heap.size w w'→∀ i,i<8→w'.cell? ⟨g,i,none⟩=some (.int .i64 1)):=fun w' hB i hi=>AY hB hg (hf i hi)
 clear hf hg
 go_enter Tryz.func112,Tryz.ntmps112
 go_upto_region 4 with (first
  | (go_at_call 56;(with_reducible refine yQ.out.mono ?_);rintro e w2 ⟨rfl,hw⟩;rw [hw];clear hw w2)
  | (go_at_call 81;(with_reducible refine RP.out.mono ?_);rintro e w2 ⟨⟨A4,c4,rfl,ZV⟩,hB2⟩;obtain ⟨g6,lF,-,-,-⟩:=BS ZV (by omega);subst lF;have ZW:=qh ZV;have HB2:=qh hB2;clear ZV hB2))
 rename World=>w2
 have hmk:=OX w2
 clear yQ RP
 go_upto_region 5 with fail
 have IG:=AL.new w2 EA.toArray 5
 have Gs:Below w2.heap.size w2 (w2.alloc (.cells EA.toArray 5)):=(Below.refl _ _).alloc (Nat.le_refl _) _
 generalize w2.alloc (.cells EA.toArray 5)=w7 at *
 obtain ⟨g8,Du⟩:∃ g,w2.heap.size=g:=⟨_,rfl⟩
 have Es:=qh (HB2.out.trans (Gs.mono HB2.out.size))
 have Hm:Hid (∀ j u,(AA AX (Aj [(4,8)]))[j]? = some u→w7.cell? ((⟨g6,0,none⟩:Addr).add j)=some u):=by
  obtain ⟨g9,e9,-,-,Kq⟩:=BS (own_below ZW.out Gs (Nat.le_refl _)) (by omega)
  injection e9 with e9
  injection e9 with e9
  subst e9
  exact Kq
 rw [Du] at IG ⊢
 have WN:Hid (w7.heap[g8]? = some (.cells EA.toArray 5 (0,0))):=IG
 have X7:Hid (w.heap.size≤g8):=by show _≤_;have:=HB2.out.size;omega
 have Ow:Hid ((AA AX (Aj [(4,8)])).length=4):=by show _=_;rfl
 have aY:Hid (EA.length=244):=Jd
 have NM:Hid (splice EA 0 (AA AX (Aj [(4,8)]))=CX 0 0):=Xe
 have oQ:=qh (Cy (Aj [(4,8)]))
 generalize AA AX (Aj [(4,8)])=pk at *
 clear IG Gs Du hmk HB2
 go_upto_region 6 with ((with_reducible refine wpList_copy_splice ?_ (.tmp 25) (.tmp 26) 82 82 ?_ 5 Tryz.underlying82 Ye (some ⟨g8,0,none⟩) (some ⟨g6,0,none⟩) 244 244 4 c4 ?_ ?_ g8 0 EA 5 WN.out pk ?_ ?_ ?_ ?_ g8 w7 (Below.refl _ _) (Nat.le_refl _) ?_);rfl;rfl;rfl;rfl;exact Ow.out;(intro h0;exact ⟨rfl,_,rfl,Hm.out⟩);(rw [Ow.out,aY.out];decide);exact oQ.out;(intro w8 Du KS;have Hg:=qh Du.out;have Gf:=qh KS;clear KS Du))
 rename World=>w8
 have aM:Hid (AL w8 g8 (CX 0 0).toArray 5):=by
  have h:=Hg.out
  rw [NM.out] at h
  exact h
 have eX:Hid (Below w.heap.size w w8):=Es.out.trans (Gf.out.mono X7.out)
 clear WN Hg Hm Ow aY NM Es Gf oQ ZW
 go_upto_region 7 with fail
 go_loopw [30] (fun vi wr=>∃ i:Nat,vi=.int .i64 i∧i≤8∧Hid (Below w.heap.size w wr)∧Hid (AL wr g8 (CX (bx i) (KD i)).toArray 5)) (fun vi _=>8-(intOf vi).toNat)
 case atStart=>exact ⟨0,rfl,by omega,eX,aM⟩
 case round =>
  obtain ⟨i,rfl,hi,HB,HX⟩:=hrel
  have z4:wr.cell? ⟨g8,4,none⟩=some (.int .u8 (bx i)):=HX.out.at 4 _ (uY _ _)
  have z5:wr.cell? ⟨g8,5,none⟩=some (.int .u8 (KD i)):=HX.out.at 5 _ (uZ _ _)
  have f4:=HX.out.free 4
  have f5:=HX.out.free 5
  have hlt:=HX.out.lt
  have ZP:Hid (∀ u,AL (wr.setCell ⟨g8,4,none⟩ (.int .u8 u)) g8 (CX u (KD i)).toArray 5):=fun u=>by have h:=HX.out.set 4 (.int .u8 u);rw [lW] at h;exact h
  have Tc:Hid (∀ u,AL (wr.setCell ⟨g8,5,none⟩ (.int .u8 u)) g8 (CX (bx i) u).toArray 5):=fun u=>by have h:=HX.out.set 5 (.int .u8 u);rw [lX] at h;exact h
  have Vg:Hid (∀ o u,Below w.heap.size w (wr.setCell ⟨g8,o,none⟩ u)):=fun o u=>HB.out.trans ((Touch.BZ (R:=fun x=>x=g8) (p:=⟨g8,o,none⟩) rfl).below (fun x e=>by rw [e];exact X7.out) HB.out.size)
  rcases (show i=0∨i=1∨i=2∨i=3∨i=4∨i=5∨i=6∨i=7∨i=8 by omega) with rfl|rfl|rfl|rfl|rfl|rfl|rfl|rfl|rfl
  · have x0:=ah.out wr HB.out 0 (by decide)
    rw [show ((0:Nat):Int)=0 from rfl]
    go_upto_region 9 with fail
    go_region
    obtain ⟨V,hV⟩:∃ V,(wr.setCell ⟨g8,4,none⟩ (.int .u8 (bits BinOp.or .u8 (bx 0) 1))).drew=V:=⟨_,rfl⟩
    have Sd:Hid (Below w.heap.size w V):=by rw [← hV];exact (Vg.out _ _).drew
    have MQ:Hid (AL V g8 (CX (bx 1) (KD 1)).toArray 5):=by
     rw [← hV,show bits BinOp.or .u8 (bx 0) 1=bx 1 from by decide]
     exact ZP.out (bx 1)
    rw [hV]
    clear hV z4 z5 f4 f5 hlt x0
    go_wp2_with fail
    go_roundw
    case rel=>exact ⟨1,rfl,by omega,Sd,MQ⟩
    case measure=>simp [intOf]
  · have x0:=ah.out wr HB.out 1 (by decide)
    rw [show ((1:Nat):Int)=1 from rfl]
    go_upto_region 9 with fail
    go_region
    obtain ⟨V,hV⟩:∃ V,(wr.setCell ⟨g8,4,none⟩ (.int .u8 (bits BinOp.or .u8 (bx 1) 4))).drew=V:=⟨_,rfl⟩
    have Sd:Hid (Below w.heap.size w V):=by rw [← hV];exact (Vg.out _ _).drew
    have MQ:Hid (AL V g8 (CX (bx 2) (KD 2)).toArray 5):=by
     rw [← hV,show bits BinOp.or .u8 (bx 1) 4=bx 2 from by decide]
     exact ZP.out (bx 2)
    rw [hV]
    clear hV z4 z5 f4 f5 hlt x0
    go_wp2_with fail
    go_roundw
    case rel=>exact ⟨2,rfl,by omega,Sd,MQ⟩
    case measure=>simp [intOf]
  · have x0:=ah.out wr HB.out 2 (by decide)
    rw [show ((2:Nat):Int)=2 from rfl]
    go_upto_region 9 with fail
    go_region
    obtain ⟨V,hV⟩:∃ V,(wr.setCell ⟨g8,4,none⟩ (.int .u8 (bits BinOp.or .u8 (bx 2) 16))).drew=V:=⟨_,rfl⟩
    have Sd:Hid (Below w.heap.size w V):=by rw [← hV];exact (Vg.out _ _).drew
    have MQ:Hid (AL V g8 (CX (bx 3) (KD 3)).toArray 5):=by
     rw [← hV,show bits BinOp.or .u8 (bx 2) 16=bx 3 from by decide]
     exact ZP.out (bx 3)
    rw [hV]
    clear hV z4 z5 f4 f5 hlt x0
    go_wp2_with fail
    go_roundw
    case rel=>exact ⟨3,rfl,by omega,Sd,MQ⟩
    case measure=>simp [intOf]
  · have x0:=ah.out wr HB.out 3 (by decide)
    rw [show ((3:Nat):Int)=3 from rfl]
    go_upto_region 9 with fail
    go_region
    obtain ⟨V,hV⟩:∃ V,(wr.setCell ⟨g8,4,none⟩ (.int .u8 (bits BinOp.or .u8 (bx 3) 64))).drew=V:=⟨_,rfl⟩
    have Sd:Hid (Below w.heap.size w V):=by rw [← hV];exact (Vg.out _ _).drew
    have MQ:Hid (AL V g8 (CX (bx 4) (KD 4)).toArray 5):=by
     rw [← hV,show bits BinOp.or .u8 (bx 3) 64=bx 4 from by decide]
     exact ZP.out (bx 4)
    rw [hV]
    clear hV z4 z5 f4 f5 hlt x0
    go_wp2_with fail
    go_roundw
    case rel=>exact ⟨4,rfl,by omega,Sd,MQ⟩
    case measure=>simp [intOf]
  · have x0:=ah.out wr HB.out 4 (by decide)
    rw [show ((4:Nat):Int)=4 from rfl]
    go_upto_region 9 with fail
    go_region
    obtain ⟨V,hV⟩:∃ V,(wr.setCell ⟨g8,5,none⟩ (.int .u8 (bits BinOp.or .u8 (KD 4) 1))).drew=V:=⟨_,rfl⟩
    have Sd:Hid (Below w.heap.size w V):=by rw [← hV];exact (Vg.out _ _).drew
    have MQ:Hid (AL V g8 (CX (bx 5) (KD 5)).toArray 5):=by
     rw [← hV,show bits BinOp.or .u8 (KD 4) 1=KD 5 from by decide]
     exact Tc.out (KD 5)
    rw [hV]
    clear hV z4 z5 f4 f5 hlt x0
    go_wp2_with fail
    go_roundw
    case rel=>exact ⟨5,rfl,by omega,Sd,MQ⟩
    case measure=>simp [intOf]
  · have x0:=ah.out wr HB.out 5 (by decide)
    rw [show ((5:Nat):Int)=5 from rfl]
    go_upto_region 9 with fail
    go_region
    obtain ⟨V,hV⟩:∃ V,(wr.setCell ⟨g8,5,none⟩ (.int .u8 (bits BinOp.or .u8 (KD 5) 4))).drew=V:=⟨_,rfl⟩
    have Sd:Hid (Below w.heap.size w V):=by rw [← hV];exact (Vg.out _ _).drew
    have MQ:Hid (AL V g8 (CX (bx 6) (KD 6)).toArray 5):=by
     rw [← hV,show bits BinOp.or .u8 (KD 5) 4=KD 6 from by decide]
     exact Tc.out (KD 6)
    rw [hV]
    clear hV z4 z5 f4 f5 hlt x0
    go_wp2_with fail
    go_roundw
    case rel=>exact ⟨6,rfl,by omega,Sd,MQ⟩
    case measure=>simp [intOf]
  · have x0:=ah.out wr HB.out 6 (by decide)
    rw [show ((6:Nat):Int)=6 from rfl]
    go_upto_region 9 with fail
    go_region
    obtain ⟨V,hV⟩:∃ V,(wr.setCell ⟨g8,5,none⟩ (.int .u8 (bits BinOp.or .u8 (KD 6) 16))).drew=V:=⟨_,rfl⟩
    have Sd:Hid (Below w.heap.size w V):=by rw [← hV];exact (Vg.out _ _).drew
    have MQ:Hid (AL V g8 (CX (bx 7) (KD 7)).toArray 5):=by
     rw [← hV,show bits BinOp.or .u8 (KD 6) 16=KD 7 from by decide]
     exact Tc.out (KD 7)
    rw [hV]
    clear hV z4 z5 f4 f5 hlt x0
    go_wp2_with fail
    go_roundw
    case rel=>exact ⟨7,rfl,by omega,Sd,MQ⟩
    case measure=>simp [intOf]
  · have x0:=ah.out wr HB.out 7 (by decide)
    rw [show ((7:Nat):Int)=7 from rfl]
    go_upto_region 9 with fail
    go_region
    obtain ⟨V,hV⟩:∃ V,(wr.setCell ⟨g8,5,none⟩ (.int .u8 (bits BinOp.or .u8 (KD 7) 64))).drew=V:=⟨_,rfl⟩
    have Sd:Hid (Below w.heap.size w V):=by rw [← hV];exact (Vg.out _ _).drew
    have MQ:Hid (AL V g8 (CX (bx 8) (KD 8)).toArray 5):=by
     rw [← hV,show bits BinOp.or .u8 (KD 7) 64=KD 8 from by decide]
     exact Tc.out (KD 8)
    rw [hV]
    clear hV z4 z5 f4 f5 hlt x0
    go_wp2_with fail
    go_roundw
    case rel=>exact ⟨8,rfl,by omega,Sd,MQ⟩
    case measure=>simp [intOf]
  · have Rt:Hid (wr.ownsRow w.heap.size 5 1 (.slice (some ⟨g8,0,none⟩) 244 244) 244 (AA AX EN)):=by
      have h:AL wr g8 (CX 85 85).toArray 5:=HX.out
      rw [VP] at h
      exact ⟨rfl,.inr ⟨g8,244,_,rfl,X7.out,h,Nat.le_refl _,by decide,rfl,rfl⟩⟩
    clear z4 z5 f4 f5 hlt ZP Tc Vg
    rw [show ((8:Nat):Int)=8 from rfl]
    go_wp2_with fail
    refine bodyPost_ret (v:=.tuple #[.slice (some ⟨g8,0,none⟩) 244 244,.int .i64 0]) (by simp [results,Tryz.results112,go_sem]) rfl ⟨⟨_,_,rfl,Rt.out⟩,HB.out⟩
end
section
open Go.RowKit Go.Shelf
theorem Az.cells {w:World} {base a img gl n c k:Nat} {bs:List UInt8} (h:Az w base a img gl n c k bs) {j:Nat} (hj:j<n):gl<w.heap.size∧w.cell? ⟨gl,j,none⟩=some (.int .i64 ((j+1:Nat):Int)):=by
 obtain ⟨h1,h2,h3,h4,h5⟩:=h
 obtain ⟨g,e,hg,hc,hs⟩:=BS h3 (by omega)
 injection e with e
 injection e with e
 subst e
 have:=hs (j*1+0) (.int .i64 ((j+1:Nat):Int)) (Dc (size:=1) (d:=(0:Int)) Bu (SY n) j 0 _ (by rw [Tg];exact hj) (by rw [Ti hj];rfl))
 rw [add_lit,Nat.zero_add,Nat.mul_one,Nat.add_zero] at this
 exact ⟨hg,this⟩
def Jl (k m:Nat):List Int:=(List.range m).map fun i=>((k+i+1:Nat):Int)
theorem FD (k m:Nat):(Jl k m).length=m:=by simp [Jl]
theorem VU {k m i:Nat} (h:i<m):nth 0 (Jl k m) i=((k+i+1:Nat):Int):=by
 unfold nth Jl
 simp [List.getD,h]
theorem Az.next {w:World} {base a img gl n c k:Nat} {bs:List UInt8} (h:Az w base a img gl n c k bs) {m c':Nat} (hm:k+m≤n) (hc:m≤c'):BV w (fun b=>b<w.heap.size) (.slice (some ⟨gl,k,none⟩) m c') (Jl k m):=by
 refine ⟨some ⟨gl,k,none⟩,c',by rw [FD],by rw [FD];exact hc,fun h0=>?_⟩
 rw [FD] at h0
 refine ⟨gl,k,rfl,(h.cells (j:=k) (by omega)).1,fun i hi=>?_⟩
 rw [FD] at hi
 refine ⟨encI (nth 0 (Jl k m) i),rfl,rfl,fun q u hu=>?_⟩
 rw [VU hi] at hu
 obtain ⟨hq,rfl⟩:=List.getElem?_eq_some_iff.1 hu
 obtain rfl:q=0:=by simp [encI] at hq;omega
 have:=(h.cells (j:=k+i) (by omega)).2
 simpa [encI] using this
set_option maxRecDepth 100000 in
theorem Zc (w:World) (base a img gl n c k m:Nat) (bs:List UInt8) (h:Az w base a img gl n c k bs) (hm1:1≤m) (hm:k+m≤n) (hc:n≤c) (hn:n≤14000) :
 Calls Tryz.prog 74 #[.pointer (some ⟨a,0,none⟩),.int .i64 m] w fun e w'=>(∃ v',e=.returned v'∧BV w' (Fu w.heap.size w'.heap.size) v' (Jl k m))∧Below w.heap.size w w':=by
 have RB:=qh (Hz w a img n c _ _ h.1)
 have IJ:=qh (Tf w a img n c gl k h.1 (by omega) hc (by omega))
 unfold Oc at IJ
 have Qk:=qh (fun (w':World) (hs:Az w' base a img gl n c k bs) (c':Nat) (hcc:m≤c')=>ND w' _ (.slice (some ⟨gl,k,none⟩) m c') (Jl k m) (hs.next hm hcc) (by rw [FD];omega))
 have HST:=qh h
 have hmb:¬ (m:Int)<1:=by omega
 have hkn:k<n:=by omega
 have yU:Hid (m≤n-k):=by show _≤_;omega
 have bX:(m:Int)≤((n-k:Nat):Int):=by omega
 clear h hm hc hn
 obtain ⟨q,hq⟩:∃ q,n-k=q:=⟨_,rfl⟩
 rw [hq] at IJ yU bX
 clear hq
 have lG:=qh hkn
 clear hkn
 go_enter Tryz.func74,Tryz.ntmps74
 go_upto_region 4 with (first
  | (go_at_call 59;(with_reducible refine RB.out.mono ?_);rintro e w2 ⟨rfl,hw⟩;rw [hw];clear hw w2)
  | (go_at_call 110;(with_reducible refine IJ.out.mono ?_);rintro e w2 ⟨⟨o,c2,rfl,hc2,ho⟩,hB⟩;obtain rfl:=ho lG.out;have Zx:=qh hc2;have HB:=qh hB;clear hc2 ho hB))
 rename World=>w2
 have hcq:=Zx.out
 have nQ:=yU.out
 have hmc:(m:Int)≤(c2:Int):=by omega
 have hmin:min (m:Int) (q:Int)=(m:Int):=by omega
 have iw:¬ (q:Int)<(m:Int):=by omega
 have hmd:decide ((q:Int)<(m:Int))=false:=decide_eq_false iw
 have bv:=qh (Qk.out w2 (HST.out.below HB.out) c2 (by omega))
 clear hcq nQ iw Qk IJ RB
 go_wp2_with (go_at_call 73;(with_reducible refine bv.out.mono ?_);rintro e w3 ⟨v',rfl,hv,hB3⟩;have HV:=qh hv;have HB3:=qh hB3;clear hv hB3)
 refine bodyPost_ret (v:=v') (by simp [results,Tryz.results74,go_sem]) rfl ⟨⟨v',rfl,HV.out.sub (AB _) (fun b hb=>⟨by have:=HB.out.size;have:=hb.1;omega,hb.2⟩)⟩,HB.out.trans (HB3.out.mono HB.out.size)⟩
end
section
open Go.RowKit Go.Shelf
attribute [local go_sem] Oper.semAt_some
def Gn:Pool:=⟨0,0,1,0,[]⟩
def D7:Value:=.agg #[.int .i64 0,.int .i64 0,.int .i64 1,.int .i64 0,.slice none 0 0]
def Gh:Array Value:=#[.int .i64 0,.int .i64 0,.int .i64 1,.int .i64 0,.slice none 0 0]
theorem MJ (w:World):FI w (fun b=>b<w.heap.size) D7 Gn:=⟨none,0,rfl,Nat.le_refl _,fun h=>absurd h (by decide)⟩
theorem MK:Gn.ok:=⟨by unfold In64 Gn;decide,by unfold In64 Gn;decide,by unfold In64 Gn;decide,by unfold In64 Gn;decide,fun d hd=>(by cases hd),by decide⟩
theorem Xn (w:World):Calls Tryz.prog 12 #[D7] w fun e w'=>e=.returned (.int .i64 0)∧Below w.heap.size w w':=NE w _ D7 Gn (fun b hb=>hb) (MJ w) MK
theorem Xo (w:World):Calls Tryz.prog 37 #[D7] w fun e w'=>(∃ A c,e=.returned (.slice A 0 c))∧Below w.heap.size w w':=by
 refine (QQ w _ D7 Gn (fun b hb=>hb) (MJ w) MK).mono ?_
 rintro e w' ⟨v',rfl,⟨A,c,rfl,-⟩,hB⟩
 exact ⟨⟨A,c,rfl⟩,hB⟩
theorem uy (w:World) (A:Option Addr) (c:Nat):Calls Tryz.prog 102 #[.slice A 0 c] w fun e w'=>e=.returned (.int .i64 0)∧w'=w:=by
 go_enter Tryz.func102,Tryz.ntmps102
 go_wp2_with fail
 go_loopw [3,8] (fun v vi wr=>v=.int .i64 0∧vi=.int .i64 0∧wr=w) (fun _ vi _=>1)
 case atStart=>exact ⟨rfl,rfl,rfl⟩
 case round =>
  obtain ⟨rfl,rfl,hwr⟩:=hrel
  rw [hwr]
  clear hwr wr
  go_wp2_with fail
  refine bodyPost_ret (v:=.int .i64 0) (by simp [results,Tryz.results102,go_sem]) rfl ⟨rfl,rfl⟩
theorem uz (w:World) (g:Nat) (h:w.heap[g]? = some (.cells #[.int .i64 1,.int .i64 1,.int .i64 1,.int .i64 0,.int .i64 0,.int .i64 1,.int .i64 1] 3 (0,0))):Calls Tryz.prog 102 #[.slice (some ⟨g,0,none⟩) 7 7] w fun e w'=>e=.returned (.int .i64 5)∧w'=w:=by
 have h':AL w g #[.int .i64 1,.int .i64 1,.int .i64 1,.int .i64 0,.int .i64 0,.int .i64 1,.int .i64 1] 3:=h
 have x0:w.cell? ⟨g,0,none⟩=some (.int .i64 1):=h'.at 0 _ rfl
 have x1:w.cell? ⟨g,1,none⟩=some (.int .i64 1):=h'.at 1 _ rfl
 have x2:w.cell? ⟨g,2,none⟩=some (.int .i64 1):=h'.at 2 _ rfl
 have x3:w.cell? ⟨g,3,none⟩=some (.int .i64 0):=h'.at 3 _ rfl
 have x4:w.cell? ⟨g,4,none⟩=some (.int .i64 0):=h'.at 4 _ rfl
 have x5:w.cell? ⟨g,5,none⟩=some (.int .i64 1):=h'.at 5 _ rfl
 have x6:w.cell? ⟨g,6,none⟩=some (.int .i64 1):=h'.at 6 _ rfl
 clear h h'
 go_enter Tryz.func102,Tryz.ntmps102
 go_wp2_with fail
 go_loopw [3,8] (fun v vi wr=>((vi=.int .i64 0∧v=.int .i64 0)∨(vi=.int .i64 1∧v=.int .i64 1)∨(vi=.int .i64 2∧v=.int .i64 2)∨(vi=.int .i64 3∧v=.int .i64 3)∨(vi=.int .i64 4∧v=.int .i64 3)∨(vi=.int .i64 5∧v=.int .i64 3)∨(vi=.int .i64 6∧v=.int .i64 4)∨(vi=.int .i64 7∧v=.int .i64 5))∧wr=w) (fun _ vi _=>7-(intOf vi).toNat)
 case atStart=>exact ⟨.inl ⟨rfl,rfl⟩,rfl⟩
 case round =>
  obtain ⟨h8,hwr⟩:=hrel
  rw [hwr]
  clear hwr wr
  rcases h8 with ⟨rfl,rfl⟩|⟨rfl,rfl⟩|⟨rfl,rfl⟩|⟨rfl,rfl⟩|⟨rfl,rfl⟩|⟨rfl,rfl⟩|⟨rfl,rfl⟩|⟨rfl,rfl⟩
  · go_wp2_with fail
    exact ⟨⟨.inr (.inl ⟨rfl,rfl⟩),by trivial⟩,by simp [intOf]⟩
  · go_wp2_with fail
    exact ⟨⟨.inr (.inr (.inl ⟨rfl,rfl⟩)),by trivial⟩,by simp [intOf]⟩
  · go_wp2_with fail
    exact ⟨⟨.inr (.inr (.inr (.inl ⟨rfl,rfl⟩))),by trivial⟩,by simp [intOf]⟩
  · go_wp2_with fail
    exact ⟨⟨.inr (.inr (.inr (.inr (.inl ⟨rfl,rfl⟩)))),by trivial⟩,by simp [intOf]⟩
  · go_wp2_with fail
    exact ⟨⟨.inr (.inr (.inr (.inr (.inr (.inl ⟨rfl,rfl⟩))))),by trivial⟩,by simp [intOf]⟩
  · go_wp2_with fail
    exact ⟨⟨.inr (.inr (.inr (.inr (.inr (.inr (.inl ⟨rfl,rfl⟩)))))),by trivial⟩,by simp [intOf]⟩
  · go_wp2_with fail
    exact ⟨⟨.inr (.inr (.inr (.inr (.inr (.inr (.inr ⟨rfl,rfl⟩)))))),by trivial⟩,by simp [intOf]⟩
  · go_wp2_with fail
    refine bodyPost_ret (v:=.int .i64 5) (by simp [results,Tryz.results102,go_sem]) rfl ⟨rfl,rfl⟩
theorem Jn (w:World):AL (w.alloc (.cells Gh 32)) w.heap.size Gh 32∧Below w.heap.size w (w.alloc (.cells Gh 32)):=⟨AL.new w Gh 32,(Below.refl _ _).alloc (Nat.le_refl _) _⟩
theorem Bn {w:World} {g:Nat} (h:AL w g Gh 32):w.cell? ⟨g,0,none⟩=some (.int .i64 0)∧w.cell? ⟨g,1,none⟩=some (.int .i64 0)∧w.cell? ⟨g,2,none⟩=some (.int .i64 1)∧w.cell? ⟨g,3,none⟩=some (.int .i64 0)∧w.cell? ⟨g,4,none⟩=some (.slice none 0 0):=⟨h.at 0 _ rfl,h.at 1 _ rfl,h.at 2 _ rfl,h.at 3 _ rfl,h.at 4 _ rfl⟩
theorem fe (w:World):Calls Tryz.prog 103 #[D7] w fun e w'=>e=.returned (.int .i64 0)∧Below w.heap.size w w':=by
 have ZG:=qh (fun w'=>Xo w')
 obtain ⟨hb,hB⟩:=Jn w
 dsimp only [D7,Gh] at hb hB ZG ⊢
 go_enter Tryz.func103,Tryz.ntmps103
 go_upto_region 1 with fail
 generalize w.alloc (.cells #[.int .i64 0,.int .i64 0,.int .i64 1,.int .i64 0,.slice none 0 0] 32)=w1 at *
 obtain ⟨x0,x1,x2,x3,x4⟩:=Bn hb
 have HB:=qh hB
 clear hb hB
 go_wp2_with (go_at_call 37;(with_reducible refine (ZG.out _).mono ?_);rintro e w2 ⟨⟨A2,c2,rfl⟩,hB2⟩;have HB2:=qh hB2;clear hB2)
 rename World=>w2
 go_loopw [3,9] (fun v vi wr=>v=.int .i64 0∧vi=.int .i64 0∧wr=w2) (fun _ vi _=>1)
 case atStart=>exact ⟨rfl,rfl,rfl⟩
 case round =>
  obtain ⟨rfl,rfl,hwr⟩:=hrel
  rw [hwr]
  clear hwr wr
  go_wp2_with fail
  refine bodyPost_ret (v:=.int .i64 0) (by simp [results,Tryz.results103,go_sem]) rfl ⟨rfl,HB.out.trans (HB2.out.mono HB.out.size)⟩
set_option maxRecDepth 100000 in
theorem base0 (w:World):Calls Tryz.prog 58 #[D7] w fun e w'=>e=.returned (.int .i64 5)∧Below w.heap.size w w':=by
 have XF:=qh (fun w'=>Xn w')
 have yY:=qh (fun w'=>fe w')
 have ai:=qh (fun w'=>Qa w')
 have rU:=qh (fun w'=>uy w' none 0)
 have UX:=qh (fun w'=>GV w' 1 (by omega) (by omega))
 have Rj:=qh (fun w'=>GV w' 3 (by omega) (by omega))
 have MP:=qh (fun w'=>GV w' 4 (by omega) (by omega))
 have QD:=qh (fun w'=>GV w' 5 (by omega) (by omega))
 have dZ:=qh (fun (w0:World)=>uz (w0.alloc (.cells #[.int .i64 1,.int .i64 1,.int .i64 1,.int .i64 0,.int .i64 0,.int .i64 1,.int .i64 1] 3)) w0.heap.size (heap_alloc_new w0 _))
 obtain ⟨hb,hB⟩:=Jn w
 dsimp only [D7,Gh] at hb hB XF yY ⊢
 go_enter Tryz.func58,Tryz.ntmps58
 go_upto_region 1 with fail
 generalize w.alloc (.cells #[.int .i64 0,.int .i64 0,.int .i64 1,.int .i64 0,.slice none 0 0] 32)=w1 at *
 obtain ⟨x0,x1,x2,x3,x4⟩:=Bn hb
 have HB:=qh hB
 have HX:=qh hb
 clear hb hB
 go_upto_region 4 with (go_at_call 12;(with_reducible refine (XF.out _).mono ?_);rintro e w2 ⟨rfl,hB2⟩;have HB2:=qh hB2;clear hB2)
 rename World=>w2
 have YV:=qh (HX.out.below HB2.out HX.out.lt)
 clear x0 x1 x2 x3 x4
 obtain ⟨x0,x1,x2,x3,x4⟩:=Bn YV.out
 have HP:Hid (∀ w',Below w2.heap.size w2 w'→w'.cell? ⟨w.heap.size,0,none⟩=some (.int .i64 0)∧w'.cell? ⟨w.heap.size,1,none⟩=some (.int .i64 0)∧w'.cell? ⟨w.heap.size,2,none⟩=some (.int .i64 1)∧w'.cell? ⟨w.heap.size,3,none⟩=some (.int .i64 0)∧w'.cell? ⟨w.heap.size,4,none⟩=some (.slice none 0 0)):=fun w' hB=>Bn (YV.out.below hB YV.out.lt)
 go_upto_region 5 with fail
 go_loopw [3,13] (fun v vi wr=>v=.slice none 0 0∧vi=.int .i64 0∧wr=w2) (fun _ vi _=>1)
 case atStart=>exact ⟨rfl,rfl,rfl⟩
 case round =>
  obtain ⟨rfl,rfl,hwr⟩:=hrel
  rw [hwr]
  clear hwr wr
  go_wp2_with (go_at_call 72;(with_reducible refine (ai.out _).mono ?_);rintro e w6 ⟨rfl,hw⟩;rw [hw];clear hw w6)
  have Qn:=(Below.refl w2.heap.size w2).drew
  go_region_held3 (fun w'=>w'.cell? ⟨w.heap.size,0,none⟩=some (.int .i64 0)∧w'.cell? ⟨w.heap.size,1,none⟩=some (.int .i64 0)∧w'.cell? ⟨w.heap.size,2,none⟩=some (.int .i64 1)∧w'.cell? ⟨w.heap.size,3,none⟩=some (.int .i64 0)∧w'.cell? ⟨w.heap.size,4,none⟩=some (.slice none 0 0)) (go_keep)
   (first
    | (go_at_call 102;have _:=Zg;(with_reducible refine (dZ.out mD).mono ?_);rintro e w14 ⟨rfl,rfl⟩)
    | (go_at_call 66;have _:=Zh;refine (QD.out _).mono ?_;rintro e mD ⟨rfl,vB⟩;have Zg:=Zh.trans (vB.mono Zh.size);clear x0 x1 x2 x3 x4;obtain ⟨x0,x1,x2,x3,x4⟩:=HP.out _ Zg)
    | (go_at_call 103;refine (yY.out _).mono ?_;rintro e YA ⟨rfl,Wi⟩;have Zh:=fo.trans (Wi.mono fo.size);clear x0 x1 x2 x3 x4;obtain ⟨x0,x1,x2,x3,x4⟩:=HP.out _ Zh)
    | (go_at_call 66;have _:=vC;refine (MP.out _).mono ?_;rintro e Vi ⟨rfl,vD⟩;have fo:=gy.trans (vD.mono gy.size);clear x0 x1 x2 x3 x4;obtain ⟨x0,x1,x2,x3,x4⟩:=HP.out _ fo)
    | (go_at_call 102;refine (rU.out _).mono ?_;rintro e D9 ⟨rfl,rfl⟩;have vC:=True.intro)
    | (go_at_call 66;have _:=oZ;refine (UX.out _).mono ?_;rintro e w9 ⟨rfl,Kr⟩;have gy:=oZ.trans (Kr.mono oZ.size);clear x0 x1 x2 x3 x4;obtain ⟨x0,x1,x2,x3,x4⟩:=HP.out _ gy)
    | (go_at_call 66;refine (Rj.out _).mono ?_;rintro e w8 ⟨rfl,KS⟩;have oZ:=Qn.trans (KS.mono Qn.size);clear x0 x1 x2 x3 x4;obtain ⟨x0,x1,x2,x3,x4⟩:=HP.out _ oZ))
  go_wp2_with fail
  have uh:Below w2.heap.size w2 (mD.alloc (.cells #[.int .i64 1,.int .i64 1,.int .i64 1,.int .i64 0,.int .i64 0,.int .i64 1,.int .i64 1] 3)):=Zg.alloc Zg.size _
  refine bodyPost_ret (v:=.int .i64 5) (by simp [results,Tryz.results58,go_sem]) rfl ⟨rfl,HB.out.trans ((HB2.out.trans (uh.mono HB2.out.size)).mono HB.out.size)⟩
theorem mP (w:World):Calls Tryz.prog 32 #[D7] w fun e w'=>e=.returned (.int .i64 8)∧Below w.heap.size w w':=by
 have R8:=qh (fun w'=>base0 w')
 obtain ⟨hb,hB⟩:=Jn w
 dsimp only [D7,Gh] at hb hB R8 ⊢
 go_enter Tryz.func32,Tryz.ntmps32
 go_upto_region 1 with fail
 generalize w.alloc (.cells #[.int .i64 0,.int .i64 0,.int .i64 1,.int .i64 0,.slice none 0 0] 32)=w1 at *
 obtain ⟨x0,x1,x2,x3,x4⟩:=Bn hb
 have HB:=qh hB
 clear hb hB
 go_wp2_with (go_at_call 58;(with_reducible refine (R8.out _).mono ?_);rintro e w2 ⟨rfl,hB2⟩;have HB2:=qh hB2;clear hB2)
 refine bodyPost_ret (v:=.int .i64 8) (by simp [results,Tryz.results32,go_sem]) rfl ⟨rfl,HB.out.trans (HB2.out.mono HB.out.size)⟩
theorem mQ (w:World):Calls Tryz.prog 14 #[D7,.int .i64 8] w fun e w'=>e=.returned (.bool true)∧Below w.heap.size w w':=by
 have R8:=qh (fun w'=>mP w')
 obtain ⟨hb,hB⟩:=Jn w
 dsimp only [D7,Gh] at hb hB R8 ⊢
 go_enter Tryz.func14,Tryz.ntmps14
 go_upto_region 1 with fail
 generalize w.alloc (.cells #[.int .i64 0,.int .i64 0,.int .i64 1,.int .i64 0,.slice none 0 0] 32)=w1 at *
 obtain ⟨x0,x1,x2,x3,x4⟩:=Bn hb
 have HB:=qh hB
 clear hb hB
 go_wp2_with (go_at_call 32;(with_reducible refine (R8.out _).mono ?_);rintro e w2 ⟨rfl,hB2⟩;have HB2:=qh hB2;clear hB2)
 refine bodyPost_ret (v:=.bool true) (by simp [results,Tryz.results14,go_sem]) rfl ⟨rfl,HB.out.trans (HB2.out.mono HB.out.size)⟩
end
end Go.Proofs.YthblbddmcdnllaaGreatDoor
