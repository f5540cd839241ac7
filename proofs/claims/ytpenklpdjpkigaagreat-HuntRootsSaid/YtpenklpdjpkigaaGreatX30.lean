/- A part of the proof: RHunt4, RHunt5, HuntP, WLoadZP. -/
import Derived.Test.YtpenklpdjpkigaaGreatX23
import Derived.Test.YtpenklpdjpkigaaGreatY4
import Derived.Test.YtpenklpdjpkigaaGreatY2
import Derived.Test.YtpenklpdjpkigaaGreatX7
import Derived.Test.YtpenklpdjpkigaaGreatX22
import Derived.Test.YtpenklpdjpkigaaGreatX15
import Derived.Test.YtpenklpdjpkigaaGreatX21
import Derived.Test.YtpenklpdjpkigaaGreatY1
set_option maxHeartbeats 6400000
set_option linter.unusedVariables false
set_option linter.unusedSimpArgs false
namespace Go.Proofs.YtpenklpdjpkigaaGreat
section
open Go.RowKit Go.Shelf
def Ck (bs:List UInt8) (fuel:Int):Nat→List Int
 | 0=>[]
 | i+1=>Ck bs fuel i++(if OA bs ((i+1:Nat):Int) fuel=true then [((i+1:Nat):Int)] else [])
theorem Mc (bs:List UInt8) (fuel:Int):∀ i,(Ck bs fuel i).length≤i
 | 0=>Nat.le_refl _
 | i+1=>by
  have:=Mc bs fuel i
  unfold Ck
  rw [List.length_append]
  split <;> simp <;> omega
set_option maxRecDepth 100000 in
theorem dC (w:World) (S:Nat→Prop) (a:Nat) (bs:List UInt8) (fuel:Int) (hS:∀ b,S b→b<w.heap.size) (h:Hq w S a bs) (hl:bs.length≤140737488355328) (hf:fuel≤9999999) :
 Calls Tryz.prog 10 #[.pointer (some ⟨a,0,none⟩),.int .i64 fuel] w fun e w'=>(∃ A c,e=.returned (.slice A (Ck bs fuel (bs.length / 256-1)).length c)∧w'.ownsRow w.heap.size 3 1 (.slice A (Ck bs fuel (bs.length / 256-1)).length c) (Ck bs fuel (bs.length / 256-1)).length (AB encI (Ck bs fuel (bs.length / 256-1))))∧Below w.heap.size w w':=by
 have hh:=h
 obtain ⟨yN,A0,c0,hcell,hlc,-⟩:=h
 rw [G7] at hcell
 have HC:Hid (∀ w',Below w.heap.size w w'→w'.cell? ⟨a,0,none⟩=some (.slice A0 (bs.length / 256) c0)):=fun w' hB=>AQ hB (hS a yN) hcell
 have HT:=qh (fun w' (hB:Below w.heap.size w w') root=>jP w' S a bs root fuel (fun b hb=>Nat.lt_of_lt_of_le (hS b hb) hB.size) (hh.below hB hS) hf)
 have Vt:=qh (Mc bs fuel)
 have wo:Hid (∀ k,Ck bs fuel (k+1)=Ck bs fuel k++(if OA bs ((k+1:Nat):Int) fuel=true then [((k+1:Nat):Int)] else [])):=fun k=>rfl
 have X0:bs.length / 256≤549755813888:=by omega
 obtain ⟨nb,hnb⟩:∃ q,bs.length / 256=q:=⟨_,rfl⟩
 rw [hnb] at HC X0 ⊢
 clear hcell hlc hnb hS hl hf hh
 go_enter Tryz.func10,Tryz.ntmps10
 go_wp2_with fail
 go_loopw [5,6] (fun vo vi wr=>∃ (k:Nat) (A:Option Addr) (c:Nat),vo=.slice A (Ck bs fuel k).length c∧vi=.int .i64 ((k+1:Nat):Int)∧k≤nb-1∧Hid (Below w.heap.size w wr)∧Hid (wr.ownsRow w.heap.size 3 1 (.slice A (Ck bs fuel k).length c) (Ck bs fuel k).length (AB encI (Ck bs fuel k)))) (fun _ vi _=>nb+1-(intOf vi).toNat)
 case atStart=>exact ⟨0,none,0,rfl,rfl,Nat.zero_le _,Below.refl _ _,World.ownsRow_nil _ _ _ _⟩
 case round =>
  obtain ⟨k,A,c,rfl,rfl,hk,Cy,HOW⟩:=hrel
  have d0:=HC.out wr Cy.out
  by_cases hlt:k+1<nb
  · have hil:((k+1:Nat):Int)<(nb:Int):=by omega
    have Ic:=qh (HT.out wr Cy.out ((k+1:Nat):Int))
    have hts:=wo.out k
    have htl:=Vt.out k
    have hszr:=Cy.out.size
    obtain ⟨b,hb⟩:∃ b,OA bs ((k+1:Nat):Int) fuel=b:=⟨_,rfl⟩
    rw [hb] at Ic hts
    have GQ:=qh hts
    obtain ⟨L,hL⟩:∃ L,Ck bs fuel k=L:=⟨_,rfl⟩
    rw [hL] at GQ HOW htl ⊢
    obtain ⟨n,hn⟩:∃ n,L.length=n:=⟨_,rfl⟩
    rw [hn] at HOW htl ⊢
    have eT:=qh hn
    obtain ⟨i,hi⟩:∃ i,k+1=i:=⟨_,rfl⟩
    rw [hi] at Ic GQ hil ⊢
    have HI:=qh hi
    clear hts hb hL hn hi hlt
    cases b with
    | true =>
     have JU:Hid (Ck bs fuel i=L++[(i:Int)]):=by show _=_;rw [← HI.out];rw [← HI.out] at GQ;exact GQ.out
     have fO:n+1≤549755813889:=by omega
     go_upto_region 6 with (go_at_call 22;(with_reducible refine Ic.out.mono ?_);rintro e w5 ⟨rfl,BS⟩;have CE:=qh (Cy.out.trans (BS.mono hszr));have Jb:=qh (own_below HOW.out BS (Nat.le_refl _));clear BS)
     have hs5:=CE.out.size
     go_wp2_with (at_builtin;go_loud (refine BA Ir rfl _ _ rfl w.heap.size (.slice A n c) n L (i:Int) rfl Jb.out rfl (by omega) (by omega) ?_);intro A8 c8 w8 DI E5 Fx;have Ie:=qh DI;have Gl:=qh E5;clear DI E5 Fx)
     have KZ:Hid (Below w.heap.size w w8):=CE.out.trans ((Touch.BO (R:=fun x=>w.heap.size≤x) Gl.out (fun x hx=>(Jb.out.lt x hx).1)).below (fun x h=>h) hs5)
     have dU:Hid ((Ck bs fuel i).length=n+1):=by show _=_;rw [JU.out,List.length_append,eT.out];rfl
     go_roundw
     case rel=>exact ⟨i,A8,c8,by rw [dU.out],by go_num,by have:=HI.out;omega,KZ,by rw [dU.out,JU.out];exact Ie.out⟩
     case measure=>simp [intOf];omega
    | false =>
     have JU:Hid (Ck bs fuel i=L):=by
      show _=_
      rw [← HI.out];rw [← HI.out] at GQ
      rw [GQ.out]
      simp
     have dU:Hid ((Ck bs fuel i).length=n):=by show _=_;rw [JU.out,eT.out]
     go_wp2_with (go_at_call 22;(with_reducible refine Ic.out.mono ?_);rintro e w5 ⟨rfl,BS⟩;have CE:=qh (Cy.out.trans (BS.mono hszr));have Jb:=qh (own_below HOW.out BS (Nat.le_refl _));clear BS)
     go_roundw
     case rel=>exact ⟨i,A,c,by rw [dU.out],by go_num,by have:=HI.out;omega,CE,by rw [dU.out,JU.out];exact Jb.out⟩
     case measure=>simp [intOf];omega
  · have hil:¬ ((k+1:Nat):Int)<(nb:Int):=by omega
    have wu:(nb:Int)≤((k+1:Nat):Int):=by omega
    obtain rfl:k=nb-1:=by omega
    obtain ⟨i,hi⟩:∃ i,nb-1+1=i:=⟨_,rfl⟩
    rw [hi] at hil wu ⊢
    clear hi hlt
    go_wp2_with fail
    refine bodyPost_ret (v:=.slice A (Ck bs fuel (nb-1)).length c) (by simp [results,Tryz.results10,go_sem]) rfl ⟨⟨A,c,rfl,HOW.out⟩,Cy.out⟩
end
section
open Go.RowKit Go.Shelf
def Cs (bs:List UInt8) (fuel:Int):Nat→List Int
 | 0=>[]
 | i+1=>Cs bs fuel i++(if N9 bs ((i+1:Nat):Int) fuel=true then [((i+1:Nat):Int)] else [])
theorem Md (bs:List UInt8) (fuel:Int):∀ i,(Cs bs fuel i).length≤i
 | 0=>Nat.le_refl _
 | i+1=>by
  have:=Md bs fuel i
  unfold Cs
  rw [List.length_append]
  split <;> simp <;> omega
set_option maxRecDepth 100000 in
theorem OD (w:World) (S:Nat→Prop) (a:Nat) (bs:List UInt8) (fuel:Int) (hS:∀ b,S b→b<w.heap.size) (h:Hq w S a bs) (hl:bs.length≤140737488355328) (hf:fuel≤9999999) :
 Calls Tryz.prog 12 #[.pointer (some ⟨a,0,none⟩),.int .i64 fuel] w fun e w'=>(∃ A c,e=.returned (.slice A (Cs bs fuel (bs.length / 256-1)).length c)∧w'.ownsRow w.heap.size 3 1 (.slice A (Cs bs fuel (bs.length / 256-1)).length c) (Cs bs fuel (bs.length / 256-1)).length (AB encI (Cs bs fuel (bs.length / 256-1))))∧Below w.heap.size w w':=by
 have hh:=h
 obtain ⟨yN,A0,c0,hcell,hlc,-⟩:=h
 rw [G7] at hcell
 have HC:Hid (∀ w',Below w.heap.size w w'→w'.cell? ⟨a,0,none⟩=some (.slice A0 (bs.length / 256) c0)):=fun w' hB=>AQ hB (hS a yN) hcell
 have HT:=qh (fun w' (hB:Below w.heap.size w w') root=>Tg w' S a bs root fuel (fun b hb=>Nat.lt_of_lt_of_le (hS b hb) hB.size) (hh.below hB hS) hf)
 have Vt:=qh (Md bs fuel)
 have wo:Hid (∀ k,Cs bs fuel (k+1)=Cs bs fuel k++(if N9 bs ((k+1:Nat):Int) fuel=true then [((k+1:Nat):Int)] else [])):=fun k=>rfl
 have X0:bs.length / 256≤549755813888:=by omega
 obtain ⟨nb,hnb⟩:∃ q,bs.length / 256=q:=⟨_,rfl⟩
 rw [hnb] at HC X0 ⊢
 clear hcell hlc hnb hS hl hf hh
 go_enter Tryz.func12,Tryz.ntmps12
 go_wp2_with fail
 go_loopw [5,6] (fun vo vi wr=>∃ (k:Nat) (A:Option Addr) (c:Nat),vo=.slice A (Cs bs fuel k).length c∧vi=.int .i64 ((k+1:Nat):Int)∧k≤nb-1∧Hid (Below w.heap.size w wr)∧Hid (wr.ownsRow w.heap.size 3 1 (.slice A (Cs bs fuel k).length c) (Cs bs fuel k).length (AB encI (Cs bs fuel k)))) (fun _ vi _=>nb+1-(intOf vi).toNat)
 case atStart=>exact ⟨0,none,0,rfl,rfl,Nat.zero_le _,Below.refl _ _,World.ownsRow_nil _ _ _ _⟩
 case round =>
  obtain ⟨k,A,c,rfl,rfl,hk,Cy,HOW⟩:=hrel
  have d0:=HC.out wr Cy.out
  by_cases hlt:k+1<nb
  · have hil:((k+1:Nat):Int)<(nb:Int):=by omega
    have Ic:=qh (HT.out wr Cy.out ((k+1:Nat):Int))
    have hts:=wo.out k
    have htl:=Vt.out k
    have hszr:=Cy.out.size
    obtain ⟨b,hb⟩:∃ b,N9 bs ((k+1:Nat):Int) fuel=b:=⟨_,rfl⟩
    rw [hb] at Ic hts
    have GQ:=qh hts
    obtain ⟨L,hL⟩:∃ L,Cs bs fuel k=L:=⟨_,rfl⟩
    rw [hL] at GQ HOW htl ⊢
    obtain ⟨n,hn⟩:∃ n,L.length=n:=⟨_,rfl⟩
    rw [hn] at HOW htl ⊢
    have eT:=qh hn
    obtain ⟨i,hi⟩:∃ i,k+1=i:=⟨_,rfl⟩
    rw [hi] at Ic GQ hil ⊢
    have HI:=qh hi
    clear hts hb hL hn hi hlt
    cases b with
    | true =>
     have JU:Hid (Cs bs fuel i=L++[(i:Int)]):=by show _=_;rw [← HI.out];rw [← HI.out] at GQ;exact GQ.out
     have fO:n+1≤549755813889:=by omega
     go_upto_region 6 with (go_at_call 25;(with_reducible refine Ic.out.mono ?_);rintro e w5 ⟨rfl,BS⟩;have CE:=qh (Cy.out.trans (BS.mono hszr));have Jb:=qh (own_below HOW.out BS (Nat.le_refl _));clear BS)
     have hs5:=CE.out.size
     go_wp2_with (at_builtin;go_loud (refine BA Ir rfl _ _ rfl w.heap.size (.slice A n c) n L (i:Int) rfl Jb.out rfl (by omega) (by omega) ?_);intro A8 c8 w8 DI E5 Fx;have Ie:=qh DI;have Gl:=qh E5;clear DI E5 Fx)
     have KZ:Hid (Below w.heap.size w w8):=CE.out.trans ((Touch.BO (R:=fun x=>w.heap.size≤x) Gl.out (fun x hx=>(Jb.out.lt x hx).1)).below (fun x h=>h) hs5)
     have dU:Hid ((Cs bs fuel i).length=n+1):=by show _=_;rw [JU.out,List.length_append,eT.out];rfl
     go_roundw
     case rel=>exact ⟨i,A8,c8,by rw [dU.out],by go_num,by have:=HI.out;omega,KZ,by rw [dU.out,JU.out];exact Ie.out⟩
     case measure=>simp [intOf];omega
    | false =>
     have JU:Hid (Cs bs fuel i=L):=by
      show _=_
      rw [← HI.out];rw [← HI.out] at GQ
      rw [GQ.out]
      simp
     have dU:Hid ((Cs bs fuel i).length=n):=by show _=_;rw [JU.out,eT.out]
     go_wp2_with (go_at_call 25;(with_reducible refine Ic.out.mono ?_);rintro e w5 ⟨rfl,BS⟩;have CE:=qh (Cy.out.trans (BS.mono hszr));have Jb:=qh (own_below HOW.out BS (Nat.le_refl _));clear BS)
     go_roundw
     case rel=>exact ⟨i,A,c,by rw [dU.out],by go_num,by have:=HI.out;omega,CE,by rw [dU.out,JU.out];exact Jb.out⟩
     case measure=>simp [intOf];omega
  · have hil:¬ ((k+1:Nat):Int)<(nb:Int):=by omega
    have wu:(nb:Int)≤((k+1:Nat):Int):=by omega
    obtain rfl:k=nb-1:=by omega
    obtain ⟨i,hi⟩:∃ i,nb-1+1=i:=⟨_,rfl⟩
    rw [hi] at hil wu ⊢
    clear hi hlt
    go_wp2_with fail
    refine bodyPost_ret (v:=.slice A (Cs bs fuel (nb-1)).length c) (by simp [results,Tryz.results12,go_sem]) rfl ⟨⟨A,c,rfl,HOW.out⟩,Cy.out⟩
end
section
open Go.RowKit
theorem dJ {bs:List UInt8} {root tree fuel:Int} (h:Bf bs tree 0 [] root 0 281474976710656≠0):(BJ (Az bs root tree fuel)).code≠0:=by
 unfold Az BV
 by_cases h0:fuel≤OE.looked
 · rw [if_pos h0]
   show (12:Int)≠0
   decide
 · rw [if_neg h0,if_pos (show Bf bs tree OE.deep [] root 0 281474976710656≠0 from h)]
   exact h
theorem X4 {bs:List UInt8} {root tree fuel:Int} (h:AZ bs root tree≠0):(BJ (Az bs root tree fuel)).code≠0:=by
 refine dJ ?_
 unfold Bf
 rw [if_neg (by simp),if_neg (by simp),if_pos h]
 exact h
theorem jq {lo hi:Int} {l:List Kq} (h:Ia lo hi l) (hn:0<l.length) (hk:(nth ED l (l.length-1)).key≤16777215):QJ l=false:=by
 refine R4 (fun j hj=>?_)
 by_cases hjl:j=l.length-1
 · rw [hjl];omega
 · have:=List.pairwise_iff_getElem.1 h.2 j (l.length-1) hj (by omega) (by omega)
   have e1:nth ED l j=l[j]:=by unfold nth;rw [List.getD_eq_getElem?_getD,List.getElem?_eq_getElem hj];rfl
   have e2:nth ED l (l.length-1)=l[l.length-1]'(by omega):=by unfold nth;rw [List.getD_eq_getElem?_getD,List.getElem?_eq_getElem (by omega)];rfl
   rw [e2] at hk
   rw [e1]
   omega
end
section
open Go.RowKit Go.Shelf
def Y7 (s:Nl) (ok:Prop) (e:Ending):Prop:=(ok→e=.returned (.tuple #[.agg #[.int .i64 s.tx,.int .i64 s.time,.int .i64 s.unit,.int .i64 s.data,.slice none 0 0],IW s,.nilIface]))∧(¬ ok→∃ t u,e=.returned (.tuple #[.agg #[.int .i64 0,.int .i64 0,.int .i64 0,.int .i64 0,.slice none 0 0],IW LB,.iface t u]))
set_option maxRecDepth 100000 in
theorem j6 (w:World) (S:Nat→Prop) (img:Nat) (bs:List UInt8) (fuel:Int) (hS:∀ b,S b→b<w.heap.size) (h:Cj w S img bs) (hl:bs.length≤140737488355328) (hf:fuel≤9999999) (hz:Cb bs=0→(BJ (Az bs (CO bs).BQ 3 fuel)).code=0∧(Az bs (CO bs).BQ 3 fuel).AO.length=0∧(BJ (Az bs (CO bs).top 1 fuel)).code=0∧(Az bs (CO bs).top 1 fuel).AO.length=0) :
 Calls Tryz.prog 28 #[.pointer (some ⟨img,0,none⟩),.int .i64 fuel] w fun e w'=>Y7 (CO bs) (Cb bs=0) e∧Below w.heap.size w w':=by
 obtain ⟨h4,h5,hB2,hz2⟩:=AP.two w #[.int .i64 0,.int .i64 0,.int .i64 0,.int .i64 0,.slice none 0 0] Eo 45 69
 have Ry:=qh (fun w' (hB:Below w.heap.size w w')=>Hw w' S img bs (fun b hb=>Nat.lt_of_lt_of_le (hS b hb) hB.size) (h.below hB hS) hl)
 obtain ⟨s,hs⟩:∃ s,CO bs=s:=⟨_,rfl⟩
 have YI:Hid (Cb bs=0→∀ w',Below w.heap.size w w'→Calls Tryz.prog 55 #[.pointer (some ⟨img,0,none⟩),.int .i64 s.top,.int .i64 s.BQ,.int .i64 s.data,.int .i64 fuel] w' fun e w''=>e=.returned (.tuple #[.slice none 0 0,.nilIface])∧Below w'.heap.size w' w''):=fun hc w' hB=>by
  obtain ⟨z1,z2,z3,z4⟩:=hz hc
  rw [hs] at z1 z2 z3 z4
  exact vL w' S img bs s.top s.BQ s.data fuel (fun b hb=>Nat.lt_of_lt_of_le (hS b hb) hB.size) (h.below hB hS) hl hf z1 z2 z3 z4
 unfold Ig at Ry
 rw [hs] at Ry ⊢
 clear hs h hS hl hf hz
 obtain ⟨stx,stime,sunit,sdata,sblocks,stop,sdetails,sdslots,sdover,smindex,smover⟩:=s
 dsimp only [IW] at Ry
 dsimp only at YI
 unfold Y7
 dsimp only
 go_enter Tryz.func28,Tryz.ntmps28
 go_upto_region 1 with fail
 generalize (w.alloc (.cells #[.int .i64 0,.int .i64 0,.int .i64 0,.int .i64 0,.slice none 0 0] 45)).alloc (.cells Eo 69)=w2 at *
 have HB2:=qh hB2
 have gD:=qh (Ry.out w2 hB2)
 have H4:=qh h4
 have H5:=qh h5
 clear hB2 Ry h4 h5
 go_upto_region 2 with (go_at_call 27;(with_reducible refine gD.out.mono ?_);rintro e w3 ⟨⟨ev,rfl,hie⟩,hB3⟩;have yL:=qh hie;have HB3:=qh hB3;clear hie hB3)
 have h7:=AP.new w3 #[.int .i64 stx,.int .i64 stime,.int .i64 sunit,.int .i64 sdata,.int .i64 sblocks,.int .i64 stop,.int .i64 sdetails,.int .i64 sdslots,.int .i64 sdover,.int .i64 smindex,.int .i64 smover] 69
 have hB4:Below w3.heap.size w3 (w3.alloc (.cells #[.int .i64 stx,.int .i64 stime,.int .i64 sunit,.int .i64 sdata,.int .i64 sblocks,.int .i64 stop,.int .i64 sdetails,.int .i64 sdslots,.int .i64 sdover,.int .i64 smindex,.int .i64 smover] 69)):=(Below.refl _ _).alloc (Nat.le_refl _) _
 generalize w3.alloc (.cells #[.int .i64 stx,.int .i64 stime,.int .i64 sunit,.int .i64 sdata,.int .i64 sblocks,.int .i64 stop,.int .i64 sdetails,.int .i64 sdslots,.int .i64 sdover,.int .i64 smindex,.int .i64 smover] 69)=w4 at *
 obtain ⟨g7,G8⟩:∃ q,w3.heap.size=q:=⟨_,rfl⟩
 have M9:=qh (HB3.out.trans (hB4.mono HB3.out.size))
 have CL:=qh hB4
 have AEs:w2.heap.size≤g7:=by rw [← G8];exact HB3.out.size
 have Xb:Hid (∀ w',Below w2.heap.size w2 w'→AP w' w.heap.size #[.int .i64 0,.int .i64 0,.int .i64 0,.int .i64 0,.slice none 0 0] 45∧AP w' (w.heap.size+1) Eo 69∧Below w.heap.size w w'):=fun w' hB=>⟨H4.out.below hB H4.out.lt,H5.out.below hB H5.out.lt,HB2.out.trans (hB.mono HB2.out.size)⟩
 rw [G8] at h7 ⊢
 have H7:=qh h7
 clear hB4 G8 h7 gD
 obtain ⟨b4,b5,hB⟩:=Xb.out w4 M9.out
 have a0:=b4.at 0 _ rfl
 have a1:=b4.at 1 _ rfl
 have a2:=b4.at 2 _ rfl
 have a3:=b4.at 3 _ rfl
 have a4:=b4.at 4 _ rfl
 have c0:=b4.free 0
 have c1:=b4.free 1
 have c2:=b4.free 2
 have c3:=b4.free 3
 have c4:=b4.free 4
 have DU:=qh (And.intro b4 b5)
 have I1:=qh hB
 have k5:=b5
 clear b4 b5 hB
 have b0:=k5.at 0 _ rfl
 have b1:=k5.at 1 _ rfl
 have b2:=k5.at 2 _ rfl
 have b3:=k5.at 3 _ rfl
 have b4:=k5.at 4 _ rfl
 have b5:=k5.at 5 _ rfl
 have b6:=k5.at 6 _ rfl
 have b7:=k5.at 7 _ rfl
 have b8:=k5.at 8 _ rfl
 have b9:=k5.at 9 _ rfl
 have b10:=k5.at 10 _ rfl
 have d0:=k5.free 0
 have d1:=k5.free 1
 have d2:=k5.free 2
 have d3:=k5.free 3
 have d4:=k5.free 4
 have d5:=k5.free 5
 have d6:=k5.free 6
 have d7:=k5.free 7
 have d8:=k5.free 8
 have d9:=k5.free 9
 have d10:=k5.free 10
 clear k5
 by_cases hc:Cb bs=0
 · have hev:ev=.nilIface:=by
     have hie:=yL.out
     unfold CJ at hie
     rw [if_pos hc] at hie
     exact hie
   subst hev
   have HC:=qh hc
   clear yL
   have s5:=H7.out.at 5 _ rfl
   have s6:=H7.out.at 6 _ rfl
   have s3:=H7.out.at 3 _ rfl
   have HDK:=qh (YI.out hc w4 I1.out)
   clear hc
   go_upto_region 7 with (go_at_call 55;(with_reducible refine HDK.out.mono ?_);rintro e w5 ⟨rfl,BS⟩;have CE:=qh BS;clear BS)
   have QH:Hid (AP w5 w.heap.size #[.int .i64 0,.int .i64 0,.int .i64 0,.int .i64 0,.slice none 0 0] 45∧AP w5 (w.heap.size+1) Eo 69∧Below w.heap.size w w5):=Xb.out w5 (M9.out.trans (CE.out.mono M9.out.size))
   have hs2:w2.heap.size=w.heap.size+2:=hz2
   have AEt:=M9.out.size
   have HS:Hid (∀ w',Touch (yM w.heap.size (w.heap.size+1)) w5 w'→AP w' g7 #[.int .i64 stx,.int .i64 stime,.int .i64 sunit,.int .i64 sdata,.int .i64 sblocks,.int .i64 stop,.int .i64 sdetails,.int .i64 sdslots,.int .i64 sdover,.int .i64 smindex,.int .i64 smover] 69):=fun w' ht=>(ht.block (by have:=H7.out.lt;have:=CE.out.size;omega) (fun e=>by rcases e with e|e <;> omega)).trans (H7.out.below CE.out H7.out.lt)
   clear a0 a1 a2 a3 a4 c0 c1 c2 c3 c4 b0 b1 b2 b3 b4 b5 b6 b7 b8 b9 b10 d0 d1 d2 d3 d4 d5 d6 d7 d8 d9 d10 DU I1 s3 s5 s6 hz2
   go_cut [6] (fun s6 wx=>s6=.nilIface∧AP wx w.heap.size #[.int .i64 stx,.int .i64 stime,.int .i64 sunit,.int .i64 sdata,.slice none 0 0] 45∧AP wx (w.heap.size+1) #[.int .i64 stx,.int .i64 stime,.int .i64 sunit,.int .i64 sdata,.int .i64 sblocks,.int .i64 stop,.int .i64 sdetails,.int .i64 sdslots,.int .i64 sdover,.int .i64 smindex,.int .i64 smover] 69∧Touch (yM w.heap.size (w.heap.size+1)) w5 wx)
   case first =>
    refine AF (T:=fun _=>false) (S:=fun w'=>Touch (yM w.heap.size (w.heap.size+1)) w5 w') (by kernel_rfl) Touch.drew (fun hHeld=>?_)
    obtain ⟨BM,hw0⟩:∃ x,w5.drew=x:=⟨_,rfl⟩
    rw [hw0] at hHeld ⊢
    have AJ:Touch (yM w.heap.size (w.heap.size+1)) w5 BM:=hHeld
    have hkW:Below w5.heap.size w5 BM:=by rw [← hw0];exact (Below.refl w5.heap.size w5).drew
    clear hHeld hw0
    refine qs 0 37 AJ ?_
    refine qf 1 38 rfl rfl AJ (by intro w2' hSw;have x0:=(HS.out _ hSw).at 0 _ rfl;go_simp;(try with_reducible rfl)) ?_
    refine qs 2 39 AJ ?_
    refine qf 3 40 rfl rfl AJ (by intro w2' hSw;have x0:=(HS.out _ hSw).at 1 _ rfl;go_simp;(try with_reducible rfl)) ?_
    refine qs 4 41 AJ ?_
    refine qf 5 42 rfl rfl AJ (by intro w2' hSw;have x0:=(HS.out _ hSw).at 2 _ rfl;go_simp;(try with_reducible rfl)) ?_
    refine qs 6 43 AJ ?_
    refine qf 7 44 rfl rfl AJ (by intro w2' hSw;have x0:=(HS.out _ hSw).at 3 _ rfl;go_simp;(try with_reducible rfl)) ?_
    refine qs 8 45 AJ ?_
    refine qs 9 46 AJ ?_
    refine qf 10 47 rfl rfl AJ (by intro w2' hSw;have b:=HS.out _ hSw;have x0:=b.at 0 _ rfl;have x1:=b.at 1 _ rfl;have x2:=b.at 2 _ rfl;have x3:=b.at 3 _ rfl;have x4:=b.at 4 _ rfl;have x5:=b.at 5 _ rfl;have x6:=b.at 6 _ rfl;have x7:=b.at 7 _ rfl;have x8:=b.at 8 _ rfl;have x9:=b.at 9 _ rfl;have Yu:=b.at 10 _ rfl;go_simp;(try with_reducible rfl)) ?_
    refine qo 11 fun K hK=>?_
    have p4:=QH.out.1.below hkW QH.out.1.lt
    have p5:=QH.out.2.1.below hkW QH.out.2.1.lt
    have f0:=p4.free 0;have f1:=p4.free 1;have f2:=p4.free 2;have f3:=p4.free 3;have f4:=p4.free 4;have a0:=p4.at 0 _ rfl;have a1:=p4.at 1 _ rfl;have a2:=p4.at 2 _ rfl;have a3:=p4.at 3 _ rfl;have a4:=p4.at 4 _ rfl
    go_simp
    obtain ⟨Bg,hwn,q4,xG,hzn⟩:=Px p4 (.int .i64 stx) (.int .i64 stime) (.int .i64 sunit) (.int .i64 sdata) (.slice none 0 0)
    rw [hwn]
    have p5:AP Bg _ _ _:=(xG.block p5.lt (by omega)).trans p5
    have AJ:=AJ.trans (xG.weak (R':=yM w.heap.size (w.heap.size+1)) (fun x e=>.inl e))
    clear f0 f1 f2 f3 f4 a0 a1 a2 a3 a4 p4 hwn xG hzn
    clear hkW
    refine hK.out _ _ (fun _=>AJ) (fun Ji=>?_)
    clear hK K Ji
    (try simp only [Act.put,qS,qZ,qU])
    refine qo 12 fun K hK=>?_
    have f0:=p5.free 0;have f1:=p5.free 1;have f2:=p5.free 2;have f3:=p5.free 3;have f4:=p5.free 4;have f5:=p5.free 5;have f6:=p5.free 6;have f7:=p5.free 7;have f8:=p5.free 8;have f9:=p5.free 9;have f10:=p5.free 10;have a0:=p5.at 0 _ rfl;have a1:=p5.at 1 _ rfl;have a2:=p5.at 2 _ rfl;have a3:=p5.at 3 _ rfl;have a4:=p5.at 4 _ rfl;have a5:=p5.at 5 _ rfl;have a6:=p5.at 6 _ rfl;have a7:=p5.at 7 _ rfl;have a8:=p5.at 8 _ rfl;have a9:=p5.at 9 _ rfl;have a10:=p5.at 10 _ rfl
    go_simp
    obtain ⟨Cr,hwn,q5,xG⟩:=Fp p5 ⟨stx,stime,sunit,sdata,sblocks,stop,sdetails,sdslots,sdover,smindex,smover⟩
    dsimp only at hwn
    rw [hwn]
    have q4:AP Cr _ _ _:=(xG.block q4.lt (by omega)).trans q4
    have AJ:=AJ.trans (xG.weak (R':=yM w.heap.size (w.heap.size+1)) (fun x e=>.inr e))
    clear f0 f1 f2 f3 f4 f5 f6 f7 f8 f9 f10 a0 a1 a2 a3 a4 a5 a6 a7 a8 a9 a10 p5 hwn xG
    refine hK.out _ _ (fun _=>AJ) (fun Ji=>?_)
    clear hK K Ji
    (try simp only [Act.put,qS,qZ,qU])
    refine qs 13 6 AJ ?_
    refine qd ?_
    go_wp2_with fail
    go_meet
    exact ⟨rfl,q4,q5,AJ⟩
   rename World=>wz
   obtain ⟨rfl,q4,q5,AJ⟩:=hcut
   have r0:=q4.at 0 _ rfl
   have r1:=q4.at 1 _ rfl
   have r2:=q4.at 2 _ rfl
   have r3:=q4.at 3 _ rfl
   have r4:=q4.at 4 _ rfl
   have y0:=q5.at 0 _ rfl
   have y1:=q5.at 1 _ rfl
   have y2:=q5.at 2 _ rfl
   have y3:=q5.at 3 _ rfl
   have y4:=q5.at 4 _ rfl
   have y5:=q5.at 5 _ rfl
   have y6:=q5.at 6 _ rfl
   have y7:=q5.at 7 _ rfl
   have y8:=q5.at 8 _ rfl
   have y9:=q5.at 9 _ rfl
   have bF:=q5.at 10 _ rfl
   go_wp2_with fail
   refine bodyPost_ret (v:=.tuple #[.agg #[.int .i64 stx,.int .i64 stime,.int .i64 sunit,.int .i64 sdata,.slice none 0 0],.agg #[.int .i64 stx,.int .i64 stime,.int .i64 sunit,.int .i64 sdata,.int .i64 sblocks,.int .i64 stop,.int .i64 sdetails,.int .i64 sdslots,.int .i64 sdover,.int .i64 smindex,.int .i64 smover],.nilIface]) (by simp [results,Tryz.results28,go_sem,r0,r1,r2,r3,r4,y0,y1,y2,y3,y4,y5,y6,y7,y8,y9,bF]) rfl ⟨⟨fun _=>rfl,fun h=>absurd HC.out h⟩,QH.out.2.2.trans ((AJ.weak (R':=fun x=>w.heap.size≤x) (fun x e=>by rcases e with e|e <;> omega)).below (fun x h=>h) QH.out.2.2.size)⟩
 · have hne:=LP.of yL.out (by exact hc)
   have HCC:=qh hc
   obtain ⟨t,u,rfl,hne2⟩:=hne
   have hs2:w2.heap.size=w.heap.size+2:=hz2
   clear hc hne2 yL hz2
   go_wp2_with fail
   obtain ⟨w8,ew8,q8,t8,z8⟩:=Px DU.out.1 (.int .i64 0) (.int .i64 0) (.int .i64 0) (.int .i64 0) (.slice none 0 0)
   rw [ew8]
   obtain ⟨w9,ew9,q9,t9⟩:=FJ ((t8.block DU.out.2.lt (by omega)).trans DU.out.2)
   rw [ew9]
   have q89:=(t9.block q8.lt (by omega)).trans q8
   have QY:=(t8.weak (R':=fun x=>x=w.heap.size∨x=w.heap.size+1) (fun x e=>.inl e)).trans (t9.weak (R':=fun x=>x=w.heap.size∨x=w.heap.size+1) (fun x e=>.inr e))
   have r0:=AP.at q89 0 _ rfl
   have r1:=AP.at q89 1 _ rfl
   have r2:=AP.at q89 2 _ rfl
   have r3:=AP.at q89 3 _ rfl
   have r4:=AP.at q89 4 _ rfl
   have y0:=q9.at 0 _ rfl
   have y1:=q9.at 1 _ rfl
   have y2:=q9.at 2 _ rfl
   have y3:=q9.at 3 _ rfl
   have y4:=q9.at 4 _ rfl
   have y5:=q9.at 5 _ rfl
   have y6:=q9.at 6 _ rfl
   have y7:=q9.at 7 _ rfl
   have y8:=q9.at 8 _ rfl
   have y9:=q9.at 9 _ rfl
   have bF:=q9.at 10 _ rfl
   refine bodyPost_ret (v:=.tuple #[.agg #[.int .i64 0,.int .i64 0,.int .i64 0,.int .i64 0,.slice none 0 0],IW LB,.iface t u]) (by simp [results,Tryz.results28,go_sem,LB,r0,r1,r2,r3,r4,y0,y1,y2,y3,y4,y5,y6,y7,y8,y9,bF]) rfl ⟨⟨fun h=>absurd h HCC.out,fun _=>⟨t,u,rfl⟩⟩,I1.out.trans ((QY.weak (R':=fun x=>w.heap.size≤x) (fun x e=>by rcases e with e|e <;> omega)).below (fun x h=>h) I1.out.size)⟩
end
end Go.Proofs.YtpenklpdjpkigaaGreat
