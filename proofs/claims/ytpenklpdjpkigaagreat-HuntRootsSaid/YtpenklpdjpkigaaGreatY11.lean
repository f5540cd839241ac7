/- Part 11 of the proof: WRSpan, WRText, WRVal1. -/
import Derived.Test.YtpenklpdjpkigaaGreatY7
import Derived.Test.YtpenklpdjpkigaaGreatY3
import Derived.Test.YtpenklpdjpkigaaGreatY4
import Derived.Test.YtpenklpdjpkigaaGreatY1
import Derived.Lib.Hide
import Derived.Deep.QuietTactic
import Derived.BigQuiet
import Derived.Outline
import Derived.Deep.Cut
import Derived.Deep.CutBlock
import Derived.Deep.DeepCutAuto
import Derived.Test.YtpenklpdjpkigaaGreatY10
import Derived.Test.YtpenklpdjpkigaaGreatY2
import Derived.Test.YtpenklpdjpkigaaGreatY8
import Derived.Test.YtpenklpdjpkigaaGreatY5
set_option maxHeartbeats 6400000
set_option linter.unusedVariables false
set_option linter.unusedSimpArgs false
namespace Go.Proofs.YtpenklpdjpkigaaGreat
section
open Go.RowKit
attribute [local go_sem] Oper.semAt_some
theorem L8 (w:World) (lo hi k:Int):Calls Tryz.prog 212 #[.agg #[.int .i64 lo,.int .i64 hi],.int .i64 k] w fun e w'=>e=.returned (.bool (BP lo hi k))∧Below w.heap.size w w':=by
 have HB:Hid (Below w.heap.size w (w.alloc (.cells #[.int .i64 lo,.int .i64 hi] 283))):=(Below.refl _ _).alloc (Nat.le_refl _) _
 have h:=AP.new w #[.int .i64 lo,.int .i64 hi] 283
 have HR:Hid (BP lo hi k=(decide (lo≤k) && decide (k<hi))):=rfl
 go_enter Tryz.func212,Tryz.ntmps212
 go_upto_region 1 with fail
 generalize w.alloc (.cells #[.int .i64 lo,.int .i64 hi] 283)=w1 at *
 have x0:=h.at 0 _ rfl
 have x1:=h.at 1 _ rfl
 clear h
 by_cases a:lo≤k
 · by_cases b:k<hi
   · have HF:Hid (BP lo hi k=true):=by show _=_;rw [HR.out,decide_eq_true a,decide_eq_true b];rfl
     go_wp2
     go_ret
     exact ⟨by rw [HF.out];rfl,HB.out⟩
   · have HF:Hid (BP lo hi k=false):=by show _=_;rw [HR.out,decide_eq_true a,decide_eq_false b];rfl
     go_wp2
     go_ret
     exact ⟨by rw [HF.out];rfl,HB.out⟩
 · have HF:Hid (BP lo hi k=false):=by show _=_;rw [HR.out,decide_eq_false a];rfl
   go_wp2
   go_ret
   exact ⟨by rw [HF.out];rfl,HB.out⟩
theorem PK (w:World) (lo hi:Int) (h:Cn lo hi=true):Calls Tryz.prog 232 #[.agg #[.int .i64 lo,.int .i64 hi]] w fun e w'=>e=.returned (.bool true)∧Below w.heap.size w w':=by
 have HB:Hid (Below w.heap.size w (w.alloc (.cells #[.int .i64 lo,.int .i64 hi] 283))):=(Below.refl _ _).alloc (Nat.le_refl _) _
 have hx:=AP.new w #[.int .i64 lo,.int .i64 hi] 283
 unfold Cn at h
 simp only [Bool.and_eq_true,decide_eq_true_eq] at h
 obtain ⟨⟨h1,h2⟩,h3⟩:=h
 go_enter Tryz.func232,Tryz.ntmps232
 go_upto_region 1 with fail
 generalize w.alloc (.cells #[.int .i64 lo,.int .i64 hi] 283)=w1 at *
 have x0:=hx.at 0 _ rfl
 have x1:=hx.at 1 _ rfl
 clear hx
 go_wp2
 go_ret
 exact ⟨rfl,HB.out⟩
theorem FH {w:World} {S:Nat→Prop} {A:Option Addr} {l:List Int} (hS:∀ b,S b→b<w.heap.size) (h:BX (Flat fun n:Int=>[.int .i64 n]) 1 0 w S A l):∀ k,k<l.length→∃ b off,A=some ⟨b,off,none⟩∧b<w.heap.size∧∀ w':World,Below w.heap.size w w'→∀ k,k<l.length→w'.cell? ⟨b,off+k,none⟩=some (.int .i64 (nth 0 l k)):=fun k hk=>by
 obtain ⟨b,off,e,hb,h1⟩:=BR h (by omega)
 exact ⟨b,off,e,hS b hb,fun w' hB k hk=>AQ hB (hS b hb) (h1 k hk)⟩
set_option maxRecDepth 100000 in
theorem Sn (w:World) (S:Nat→Prop) (lo hi:Int) (A:Option Addr) (c:Nat) (ks:List Int) (hS:∀ b,S b→b<w.heap.size) (h:BX (Flat fun n:Int=>[.int .i64 n]) 1 0 w S A ks) (hl:ks.length≤1000000) (hfit:FN lo hi ks=0) :
 Calls Tryz.prog 213 #[.agg #[.int .i64 lo,.int .i64 hi],.slice A ks.length c] w fun e w'=>e=.returned (.int .i64 0)∧Below w.heap.size w w':=by
 obtain ⟨hr,hk⟩:=Ou hfit
 have ha:=(Ip hr hk).1 hfit
 have hm:=(F7 ks).1 hk
 rw [List.all_eq_true] at ha
 have lU:=qh (fun w'=>PK w' lo hi hr)
 have xV:=qh (fun w' k=>L8 w' lo hi k)
 have GH:=qh (FH hS h)
 have HM:Hid (∀ i,i+1<ks.length→nth 0 ks i<nth 0 ks (i+1)):=fun i hi=>hm i hi
 have HA:Hid (∀ i,i<ks.length→BP lo hi (nth 0 ks i)=true):=fun i hi=>ha _ (Bv 0 ks i hi)
 have hx:=AP.new w #[.int .i64 lo,.int .i64 hi] 283
 have hB:Below w.heap.size w (w.alloc (.cells #[.int .i64 lo,.int .i64 hi] 283)):=(Below.refl _ _).alloc (Nat.le_refl _) _
 generalize ks.length=n at *
 clear h hr hk ha hm hfit hS
 go_enter Tryz.func213,Tryz.ntmps213
 go_upto_region 1 with fail
 generalize w.alloc (.cells #[.int .i64 lo,.int .i64 hi] 283)=w1 at *
 have HB:=qh hB
 have HX:=qh hx
 have x0:=hx.at 0 _ rfl
 have x1:=hx.at 1 _ rfl
 have hlt1:=hx.lt
 clear hB hx
 go_wp2_with (go_at_call 232;refine (lU.out _).mono ?_;rintro e w2 ⟨rfl,hB2⟩;have HB2:=qh hB2;clear hB2)
 go_loopw [5] (fun vi wr=>∃ i:Nat,vi=.int .i64 ((i:Int)+1)∧(i+1≤n∨i=0)∧Hid (Below w1.heap.size w1 wr)) (fun vi _=>n-(intOf vi).toNat)
 case atStart=>exact ⟨0,rfl,.inr rfl,HB2⟩
 case round =>
  obtain ⟨i,rfl,hi9,HR⟩:=hrel
  by_cases hlt:i+1<n
  · obtain ⟨b,off,rfl,hb,hcl⟩:=GH.out i (by omega)
    have hBw:Below w.heap.size w wr:=HB.out.trans (HR.out.mono HB.out.size)
    have c0:=hcl wr hBw i (by omega)
    have c1:=hcl wr hBw (i+1) hlt
    have hlt2:=HM.out i hlt
    generalize nth 0 ks i=p at *
    generalize nth 0 ks (i+1)=q at *
    obtain ⟨j,hj⟩:∃ j,i+1=j:=⟨_,rfl⟩
    have hji:((i:Int)+1)=(j:Int):=by omega
    have hjn:(j:Int)<(n:Int):=by omega
    have hj1:IntKind.i64.wrap ((j:Int)-1)=(i:Int):=by rw [IntKind.wrap_i64];omega
    have hin:(i:Int)<(n:Int):=by omega
    have hqp:decide (q≤p)=false:=decide_eq_false (by omega)
    have AEB:¬ q≤p:=by omega
    rw [hji]
    rw [hj] at c1 hlt
    have HJ:=qh hj
    clear hji hj hcl hlt2 hBw
    go_upto_region 6 with fail
    go_quiet (fail)
    have HR2:=qh (Ay HR.out nq)
    generalize wr.drewN nq=wr2 at *
    go_wp2_with fail
    go_roundw
    case rel=>exact ⟨i+1,by have:=HJ.out;go_num,.inl (by have:=HJ.out;omega),HR2⟩
    case measure=>have:=HJ.out;simp [intOf];omega
  · have hni:¬ ((i:Int)+1<(n:Int)):=by omega
    go_wp2_with fail
    go_loopw [6] (fun vi ws=>∃ k:Nat,vi=.int .i64 k∧k≤n∧Hid (Below w1.heap.size w1 ws)) (fun vi _=>n-(intOf vi).toNat)
    case atStart=>exact ⟨0,rfl,by omega,HR⟩
    case round =>
     obtain ⟨k,rfl,hk,HQ⟩:=hrel
     by_cases hkn:k<n
     · obtain ⟨b,off,rfl,hb,hcl⟩:=GH.out k hkn
       have hBw:Below w.heap.size w wr:=HB.out.trans (HQ.out.mono HB.out.size)
       have c0:=hcl _ hBw k hkn
       have x0:=AQ HQ.out hlt1 x0
       have x1:=AQ HQ.out hlt1 x1
       have hH:=HA.out k hkn
       have HH:Hid (∀ w',Calls Tryz.prog 212 #[.agg #[.int .i64 lo,.int .i64 hi],.int .i64 (nth 0 ks k)] w' fun e w'_1=>e=.returned (.bool true)∧Below w'.heap.size w' w'_1):=fun w'=>by
        have:=xV.out w' (nth 0 ks k)
        rwa [hH] at this
       generalize nth 0 ks k=q at *
       have hkz:(k:Int)<(n:Int):=by omega
       have hbw:b<wr.heap.size:=by have:=hBw.size;omega
       have hgw:w.heap.size<wr.heap.size:=by have:=HQ.out.size;omega
       have hsw:w1.heap.size≤wr.heap.size:=HQ.out.size
       clear hcl hBw hH
       go_upto_region 11 with fail
       refine AF (T:=fun _=>false) (S:=fun w'=>Below wr.heap.size wr w') (by kernel_rfl) (Below.refl wr.heap.size wr).drew (fun hHeld=>?_)
       have Jh:Below wr.heap.size wr wr.drew:=(Below.refl wr.heap.size wr).drew
       refine qf 0 32 rfl rfl hHeld (by intro w hSw;have x0:=AQ hSw hgw x0;have x1:=AQ hSw hgw x1;go_simp;(try with_reducible rfl)) ?_
       refine qs 1 33 hHeld ?_
       refine qs 2 34 hHeld ?_
       refine qs 3 35 hHeld ?_
       refine qf 4 36 rfl rfl hHeld (by intro w hSw;have c0:=AQ hSw hbw c0;go_simp;(try with_reducible rfl)) ?_
       refine qo 5 fun K hK=>?_
       go_simp
       refine (HH.out _).mono ?_
       rintro e Ch ⟨rfl,Fg⟩
       have Jh:=Jh.trans (Fg.mono Jh.size)
       refine hK.out _ _ (fun _=>(Below.refl wr.heap.size wr).drew.trans (Fg.mono (Below.refl wr.heap.size wr).drew.size)) (fun _=>?_)
       clear hK K hHeld
       (try simp only [Act.put,qS,qZ,qU])
       refine Di (S':=fun w'=>Below Ch.heap.size Ch w') (fun _ h=>((Below.refl wr.heap.size wr).drew.trans (Fg.mono (Below.refl wr.heap.size wr).drew.size)).trans (h.mono (Jh.size))) _ _ _ _ ?_
       have hHeld:(fun w'=>Below Ch.heap.size Ch w') Ch:=Below.refl _ _
       refine qs 6 38 hHeld ?_
       refine qd ?_
       have lm:=qh (HQ.out.trans (Jh.mono hsw))
       clear Jh Fg hHeld
       go_wp2_with fail
       go_roundw
       case rel=>exact ⟨k+1,by go_num,by omega,lm⟩
       case measure=>simp [intOf];omega
     · have hkz:¬ ((k:Int)<(n:Int)):=by omega
       have HF:Hid (Below w.heap.size w wr):=HB.out.trans (HQ.out.mono HB.out.size)
       go_wp2_with fail
       go_ret
       exact ⟨rfl,HF.out⟩
set_option maxRecDepth 100000 in
theorem Qk (w:World) (S:Nat→Prop) (lo hi:Int) (A:Option Addr) (c:Nat) (ks:List Int) (i:Nat) (hi0:i<ks.length) (hS:∀ b,S b→b<w.heap.size) (h:BX (Flat fun n:Int=>[.int .i64 n]) 1 0 w S A ks) (hl:ks.length≤1000000) (hfit:FN lo hi ks=0) :
 Calls Tryz.prog 171 #[.agg #[.int .i64 lo,.int .i64 hi],.slice A ks.length c,.int .i64 i] w fun e w'=>e=.returned (.tuple #[.agg #[.int .i64 (nth (0,0) (spansOf hi ks) i).1,.int .i64 (nth (0,0) (spansOf hi ks) i).2],.int .i64 0])∧Below w.heap.size w w':=by
 rw [H9 hi ks i hi0]
 dsimp only
 obtain ⟨E,hE⟩:∃ E,GX hi ks i=E:=⟨_,rfl⟩
 obtain ⟨p,hp⟩:∃ p,nth 0 ks i=p:=⟨_,rfl⟩
 rw [hE,hp]
 have HP:=qh hp
 clear hp
 unfold GX at hE
 have HE:=qh hE
 clear hE
 obtain ⟨b,off,rfl,hb,hcl⟩:=FH hS h i hi0
 have HF:=qh (fun w' (hB:Below w.heap.size w w')=>Sn w' S lo hi (some ⟨b,off,none⟩) c ks (fun b hb=>Nat.lt_of_lt_of_le (hS b hb) hB.size) (h.keep (AA _) (fun _ h=>h) (AL hB hS)) hl hfit)
 obtain ⟨h0,h1,hB,hz⟩:=AP.two w #[.int .i64 lo,.int .i64 hi] #[.int .i64 0,.int .i64 0] 283 283
 have GH:=qh hcl
 generalize hn:ks.length=n at *
 have HN:=qh hn
 clear h hcl hfit hn
 have hin:(i:Int)<(n:Int):=by omega
 have hi1:IntKind.i64.wrap ((i:Int)+1)=(i:Int)+1:=by rw [IntKind.wrap_i64];omega
 have AEC:¬ ((n:Int)≤(i:Int)):=by omega
 go_enter Tryz.func171,Tryz.ntmps171
 go_upto_region 1 with fail
 generalize (w.alloc (.cells #[.int .i64 lo,.int .i64 hi] 283)).alloc (.cells #[.int .i64 0,.int .i64 0] 283)=w1 at *
 have hw1:w.heap.size+1<w1.heap.size:=by omega
 have HB:=qh hB
 have H0:=qh h0
 have H1:=qh h1
 have x0:=h0.at 0 _ rfl
 have x1:=h0.at 1 _ rfl
 clear h0 h1 hB hz hS
 go_upto_region 6 with (go_at_call 213;refine (HF.out _ HB.out).mono ?_;rintro e w2 ⟨rfl,hB2⟩;have HB2:=qh hB2;clear hB2)
 have lq:=HB2.out.size
 have x0:=AQ HB2.out (by omega) x0
 have x1:=AQ HB2.out (by omega) x1
 have h1:=H1.out.below HB2.out hw1
 have y0:=h1.at 0 _ rfl
 have y1:=h1.at 1 _ rfl
 have z0:=h1.free 0
 have z1:=h1.free 1
 have HB3:=qh (HB.out.trans (HB2.out.mono HB.out.size))
 have H2:=qh h1
 have c0:=GH.out w2 HB3.out i (by omega)
 rw [HP.out] at c0
 clear h1
 have hbw:b<w2.heap.size:=by have:=HB3.out.size;omega
 have hgw:w.heap.size<w2.heap.size:=by omega
 have hgw1:w.heap.size+1<w2.heap.size:=by omega
 have L6:Hid (∀ w4 q,Below w2.heap.size w2 w4→AP ((w4.setCell ⟨w.heap.size+1,0,none⟩ (.int .i64 p)).setCell ⟨w.heap.size+1,1,none⟩ (.int .i64 q)) (w.heap.size+1) #[.int .i64 p,.int .i64 q] 283∧Below w.heap.size w ((w4.setCell ⟨w.heap.size+1,0,none⟩ (.int .i64 p)).setCell ⟨w.heap.size+1,1,none⟩ (.int .i64 q))):=fun w4 q hB4 =>
  ⟨(H2.out.below hB4 hgw1).UW _ _,(HB3.out.trans (hB4.mono (by omega))).trans (((Eh w4 (w.heap.size+1) (.int .i64 p) (.int .i64 q)).weak (R':=fun x=>w.heap.size≤x) (fun x e=>by omega)).below (fun x h=>h) (by have:=hB4.size;omega))⟩
 by_cases hlast:i+1<n
 · have c1:=GH.out w2 HB3.out (i+1) hlast
   have HE2:Hid (nth 0 ks (i+1)=E):=by
    have:=HE.out
    rw [if_pos hlast] at this
    exact this
   have hne:((i:Int)+1==(n:Int))=false:=beq_false_of_ne (by omega)
   have hj0:(0:Int)≤(i:Int)+1:=by omega
   have hjn:(i:Int)+1<(n:Int):=by omega
   have he2:=HE2.out
   rw [he2] at c1
   clear he2
   go_upto_region 8 with fail
   refine AF (T:=fun j=>j==10 || j==11) (S:=fun w'=>Below w2.heap.size w2 w') (by kernel_rfl) (Below.refl w2.heap.size w2).drew (fun hHeld=>?_)
   obtain ⟨BM,hw0⟩:∃ x,w2.drew=x:=⟨_,rfl⟩
   rw [hw0] at hHeld ⊢
   have AJ:Below w2.heap.size w2 BM:=hHeld
   clear hHeld hw0
   refine qs 0 37 AJ ?_
   refine qs 1 38 AJ ?_
   refine qs 2 39 AJ ?_
   refine qf 3 40 rfl rfl AJ (by intro w2' hSw;have c0:=AQ hSw hbw c0;go_simp;(try with_reducible rfl)) ?_
   refine qs 4 41 AJ ?_
   refine qs 5 42 AJ ?_
   refine qs 6 43 AJ ?_
   refine qs 7 44 AJ ?_
   refine qf 8 45 rfl rfl AJ (by intro w2' hSw;have c1:=AQ hSw hbw c1;go_simp;(try with_reducible rfl)) ?_
   refine qs 9 46 AJ ?_
   refine qo 10 fun K hK=>?_
   have y0:=AQ AJ hgw1 y0
   have y1:=AQ AJ hgw1 y1
   have z0:=(AJ.frozen (p:=⟨w.heap.size+1,0,none⟩) hgw1).trans z0
   have z1:=(AJ.frozen (p:=⟨w.heap.size+1,1,none⟩) hgw1).trans z1
   go_simp
   obtain ⟨dN,hfB⟩:=L6.out BM E AJ
   obtain ⟨Bg,hwn⟩:∃ x,(BM.setCell ⟨w.heap.size+1,0,none⟩ (.int .i64 p)).setCell ⟨w.heap.size+1,1,none⟩ (.int .i64 E)=x:=⟨_,rfl⟩
   rw [hwn] at dN hfB ⊢
   refine hK.out _ _ (fun h=>by cases h) (fun _=>?_)
   clear hK K
   (try simp only [Act.put,qS,qZ,qU])
   refine qo 11 fun K hK=>?_
   go_simp
   refine hK.out _ _ (fun h=>by cases h) (fun _=>?_)
   clear hK K
   (try simp only [Act.put,qS,qZ,qU])
   refine qd ?_
   have r0:=dN.at 0 _ rfl
   have r1:=dN.at 1 _ rfl
   go_wp2_with fail
   exact bodyPost_ret (v:=.tuple #[.agg #[.int .i64 p,.int .i64 E],.int .i64 0]) (by simp [results,Tryz.results171,go_sem,r0,r1]) rfl ⟨rfl,hfB⟩
 · have HE2:Hid (hi=E):=by
     have:=HE.out
     rw [if_neg hlast] at this
     exact this
   have hne:((i:Int)+1==(n:Int))=true:=beq_iff_eq.2 (by omega)
   have he2:=HE2.out
   rw [he2] at x1
   clear he2
   go_upto_region 7 with fail
   refine AF (T:=fun j=>j==7 || j==8) (S:=fun w'=>Below w2.heap.size w2 w') (by kernel_rfl) (Below.refl w2.heap.size w2).drew (fun hHeld=>?_)
   obtain ⟨Cr,hw0⟩:∃ x,w2.drew=x:=⟨_,rfl⟩
   rw [hw0] at hHeld ⊢
   have AJ:Below w2.heap.size w2 Cr:=hHeld
   clear hHeld hw0
   refine qs 0 30 AJ ?_
   refine qs 1 31 AJ ?_
   refine qs 2 32 AJ ?_
   refine qf 3 33 rfl rfl AJ (by intro w2' hSw;have c0:=AQ hSw hbw c0;go_simp;(try with_reducible rfl)) ?_
   refine qs 4 34 AJ ?_
   refine qf 5 35 rfl rfl AJ (by intro w2' hSw;have x1:=AQ hSw hgw x1;go_simp;(try with_reducible rfl)) ?_
   refine qs 6 36 AJ ?_
   refine qo 7 fun K hK=>?_
   have y0:=AQ AJ hgw1 y0
   have y1:=AQ AJ hgw1 y1
   have z0:=(AJ.frozen (p:=⟨w.heap.size+1,0,none⟩) hgw1).trans z0
   have z1:=(AJ.frozen (p:=⟨w.heap.size+1,1,none⟩) hgw1).trans z1
   go_simp
   obtain ⟨dN,hfB⟩:=L6.out Cr E AJ
   obtain ⟨Kh,hwn⟩:∃ x,(Cr.setCell ⟨w.heap.size+1,0,none⟩ (.int .i64 p)).setCell ⟨w.heap.size+1,1,none⟩ (.int .i64 E)=x:=⟨_,rfl⟩
   rw [hwn] at dN hfB ⊢
   refine hK.out _ _ (fun h=>by cases h) (fun _=>?_)
   clear hK K
   (try simp only [Act.put,qS,qZ,qU])
   refine qo 8 fun K hK=>?_
   go_simp
   refine hK.out _ _ (fun h=>by cases h) (fun _=>?_)
   clear hK K
   (try simp only [Act.put,qS,qZ,qU])
   refine qd ?_
   have r0:=dN.at 0 _ rfl
   have r1:=dN.at 1 _ rfl
   go_wp2_with fail
   exact bodyPost_ret (v:=.tuple #[.agg #[.int .i64 p,.int .i64 E],.int .i64 0]) (by simp [results,Tryz.results171,go_sem,r0,r1]) rfl ⟨rfl,hfB⟩
end
section
open Go.RowKit
attribute [local go_sem] Oper.semAt_some
theorem fT (a b:List UInt8):Am a++Am b=Am (a++b):=by
 have e:∀ l:List UInt8,Am l=⟨l.toArray⟩:=fun l=>rfl
 rw [e,e,e]
 apply ByteArray.ext
 simp [ByteArray.data_append]
theorem NV:∀ (fs:List (Nat × Int)),(∀ f∈fs,f.1≤8)→(BB fs).length≤8*fs.length
 | [],_=>by simp [BB]
 | f :: l,h=>by
  have h1:=NV l (fun x hx=>h x (by simp [hx]))
  have h2:=h f (by simp)
  rw [show BB (f :: l)=leB f.1 f.2.toNat++BB l from rfl,List.length_append,CY,List.length_cons]
  omega
def Rb (fs:List (Nat × Int)):List Int:=fs.map (·.2)
def Rc (fs:List (Nat × Int)):List Int:=fs.map fun f=>(f.1:Int)
theorem Zm (fs:List (Nat × Int)) (k:Nat) (h:k<fs.length):nth 0 (Rb fs) k=(nth (0,0) fs k).2:=by
 rw [Ac 0 _ k (by unfold Rb;rw [List.length_map];exact h),Ac (0,0) fs k h];simp [Rb]
theorem Zn (fs:List (Nat × Int)) (k:Nat) (h:k<fs.length):nth 0 (Rc fs) k=((nth (0,0) fs k).1:Int):=by
 rw [Ac 0 _ k (by unfold Rc;rw [List.length_map];exact h),Ac (0,0) fs k h];simp [Rc]
set_option maxRecDepth 100000 in
theorem Zo (w:World) (S:Nat→Prop) (A1 A2:Option Addr) (c1 c2:Nat) (fs:List (Nat × Int)) (hS:∀ b,S b→b<w.heap.size) (h1:BX (Flat fun n:Int=>[.int .i64 n]) 1 0 w S A1 (Rb fs)) (h2:BX (Flat fun n:Int=>[.int .i64 n]) 1 0 w S A2 (Rc fs)) (hl:fs.length≤1000000)
 (hok:∀ f∈fs,0≤f.2∧f.2<9223372036854775808∧f.1≤8) :
 Calls Tryz.prog 148 #[.slice A1 fs.length c1,.slice A2 fs.length c2] w fun e w'=>e=.returned (.string (Am (BB fs)))∧Below w.heap.size w w':=by
 have HC1:=qh (FH hS h1)
 have fE:=qh (FH hS h2)
 rw [show (Rb fs).length=fs.length by simp [Rb]] at HC1
 rw [show (Rc fs).length=fs.length by simp [Rc]] at fE
 have Ms:=qh (Zm fs)
 have Ql:=qh (Zn fs)
 have WX:Hid (∀ k,k<fs.length→∃ m:Nat,(nth (0,0) fs k).2=(m:Int)∧m<9223372036854775808∧(nth (0,0) fs k).1≤8):=fun k hk=>by
  obtain ⟨a,b,c⟩:=hok _ (Bv (0,0) fs k hk)
  exact ⟨(nth (0,0) fs k).2.toNat,by omega,by omega,c⟩
 have Wd:Hid (∀ k,k<fs.length→BB (fs.take (k+1))=BB (fs.take k)++leB (nth (0,0) fs k).1 (nth (0,0) fs k).2.toNat):=fun k hk=>Od fs k hk
 have xW:Hid (∀ k,(BB (fs.take k)).length≤8*fs.length):=fun k=>Nat.le_trans (Ko fs k) (NV fs (fun f hf=>(hok f hf).2.2))
 have HPN:Hid (fs.take fs.length=fs):=List.take_length
 have H0:Hid (Am (BB (fs.take 0))=ByteArray.empty):=rfl
 generalize hn:fs.length=n at *
 clear h1 h2 hok hS hn
 go_enter Tryz.func148,Tryz.ntmps148
 go_wp2_with fail
 go_loopw [5,6] (fun vs vi wr=>∃ k:Nat,vi=.int .i64 k∧vs=.string (Am (BB (fs.take k)))∧k≤n∧Hid (Below w.heap.size w wr)) (fun _ vi _=>n-(intOf vi).toNat)
 case atStart=>exact ⟨0,rfl,rfl,by omega,Below.refl _ _⟩
 case round =>
  obtain ⟨k,rfl,rfl,hk,HB⟩:=hrel
  by_cases hlt:k<n
  · obtain ⟨b1,o1,rfl,hb1,hq1⟩:=HC1.out k hlt
    obtain ⟨b2,o2,rfl,hb2,hq2⟩:=fE.out k hlt
    have q1:=hq1 wr HB.out k hlt
    have q2:=hq2 wr HB.out k hlt
    rw [Ms.out k hlt] at q1
    rw [Ql.out k hlt] at q2
    obtain ⟨m,hm,hm63,hw8⟩:=WX.out k hlt
    have HP:=qh (Wd.out k hlt)
    rw [hm] at q1 HP
    rw [Int.toNat_natCast] at HP
    clear hq1 hq2 hm
    generalize (nth (0,0) fs k).1=x at *
    have We:=qh (fun w'=>PI w' m x hm63 (by omega))
    have HAD:=qh (fT (BB (fs.take k)) (leB x m))
    rw [← HP.out] at HAD
    have hsz:=HB.out.size
    have ACH:b1<wr.heap.size:=by omega
    have fU:b2<wr.heap.size:=by omega
    have had:=HAD.out
    have hzz:¬ (9223372036854775807<(Am (BB (fs.take k))).size+(Am (leB x m)).size):=by
     rw [ER,ER,CY]
     have:=xW.out k
     omega
    generalize hs2:Am (BB (fs.take (k+1)))=s2 at *
    have HS2:=qh hs2
    clear hs2
    generalize hs1:Am (BB (fs.take k))=s1 at *
    clear hs1
    have hkn:(k:Int)<(n:Int):=by omega
    go_upto_region 5 with fail
    refine AF (T:=fun _=>false) (S:=fun w'=>Below wr.heap.size wr w') (by kernel_rfl) (Below.refl wr.heap.size wr).drew (fun hHeld=>?_)
    have hk5:Below wr.heap.size wr wr.drew:=(Below.refl wr.heap.size wr).drew
    refine qs 0 13 hHeld ?_
    refine qs 1 14 hHeld ?_
    refine qs 2 15 hHeld ?_
    refine qs 3 16 hHeld ?_
    refine qf 4 17 rfl rfl hHeld (by intro w hSw;have q1:=AQ hSw ACH q1;go_simp;(try with_reducible rfl)) ?_
    refine qs 5 18 hHeld ?_
    refine qs 6 19 hHeld ?_
    refine qs 7 20 hHeld ?_
    refine qf 8 21 rfl rfl hHeld (by intro w hSw;have q2:=AQ hSw fU q2;go_simp;(try with_reducible rfl)) ?_
    refine qo 9 fun K hK=>?_
    go_simp
    refine (We.out _).mono ?_
    rintro e w6 ⟨⟨A6,c6,rfl,hown6⟩,EG⟩
    have hk5:=hk5.trans (EG.mono hk5.size)
    have fV:=NR hown6
    refine hK.out _ _ (fun _=>(Below.refl wr.heap.size wr).drew.trans (EG.mono (Below.refl wr.heap.size wr).drew.size)) (fun _=>?_)
    clear hK K hHeld
    (try simp only [Act.put,qS,qZ,qU])
    refine Di (S':=fun w'=>Below w6.heap.size w6 w') (fun _ h=>((Below.refl wr.heap.size wr).drew.trans (EG.mono (Below.refl wr.heap.size wr).drew.size)).trans (h.mono (hk5.size))) _ _ _ _ ?_
    have hHeld:(fun w'=>Below w6.heap.size w6 w') w6:=Below.refl _ _
    refine qf 10 23 rfl rfl hHeld (by intro w hSw;have hcv:=fV _ hSw;go_simp;(try with_reducible rfl)) ?_
    refine qs 11 24 hHeld ?_
    refine qs 12 5 hHeld ?_
    refine qd ?_
    have Dz:=qh (HB.out.trans (hk5.mono hsz))
    clear hk5 EG hown6 fV hHeld HAD had hzz q1 q2
    go_wp2_with fail
    go_roundw
    case rel=>exact ⟨k+1,by go_num,by rw [HS2.out],by omega,Dz⟩
    case measure=>simp [intOf];omega
  · obtain rfl:k=n:=by omega
    go_wp2_with fail
    go_ret
    exact ⟨by rw [HPN.out];rfl,HB.out⟩
end
section
open Go.RowKit
attribute [local go_sem] Oper.semAt_some
def LG (lo hi n:Int):Bool:=decide (lo≤n) && decide (n≤hi)
theorem YO (w:World) (n lo hi:Int):Calls Tryz.prog 147 #[.int .i64 n,.int .i64 lo,.int .i64 hi] w fun e w'=>e=.returned (.bool (LG lo hi n))∧w'=w:=by
 by_cases h1:lo≤n
 · by_cases h2:n≤hi
   · have hd:Hid (LG lo hi n=true):=by show _=_;unfold LG;rw [decide_eq_true h1,decide_eq_true h2];rfl
     go_enter Tryz.func147,Tryz.ntmps147
     go_wp2
     go_ret
     exact ⟨by rw [hd.out];rfl,rfl⟩
   · have hd:Hid (LG lo hi n=false):=by show _=_;unfold LG;rw [decide_eq_false h2,Bool.and_false]
     go_enter Tryz.func147,Tryz.ntmps147
     go_wp2
     go_ret
     exact ⟨by rw [hd.out];rfl,rfl⟩
 · have hd:Hid (LG lo hi n=false):=by show _=_;unfold LG;rw [decide_eq_false h1];rfl
   go_enter Tryz.func147,Tryz.ntmps147
   go_wp2
   go_ret
   exact ⟨by rw [hd.out];rfl,rfl⟩
theorem Uq (w:World) (s:List UInt8) (n:Nat) (hn:Lh n) (hs:s.length=n):∃ cc w1 g,(convert 9 22 (.string (Am s))).run Tryz.prog w=.ok (.slice (some ⟨g,0,none⟩) n cc) w1∧Below w.heap.size w w1 ∧
 Calls Tryz.prog 146 #[.slice (some ⟨g,0,none⟩) n cc,.int .i64 0,.int .i64 n] w1 fun e w'=>e=.returned (if 9223372036854775808≤EL s then .tuple #[.int .i64 0,.int .i64 2] else .tuple #[.int .i64 (EL s:Nat),.int .i64 0])∧w'=w1:=by
 have hcv:=Lib.run_convert_string_bytes (P:=Tryz.prog) w 9 22 5 (Am s) (u:=.string) Tryz.underlying9 Tryz.underlying22 Tryz.underlying5
 have hsz:(Am s).size=n:=by rw [ER,hs]
 rw [hsz] at hcv
 have hb:=IE w s
 have hcap:n≤grownCap w n 0 5:=grownCap_ge w n 0 5
 have kK:n≤8:=by rcases hn with h|h|h|h <;> omega
 have hg:=Lx (Lib.bytesWorld w 5 (Am s)) (fun b=>b=w.heap.size) (.slice (some ⟨w.heap.size,0,none⟩) s.length (grownCap w n 0 5)) s 0 n (fun b e=>by rw [e];exact hb.lt) (hb.isl rfl (by omega)) hn (by omega) (by omega)
 rw [LA hs,hs] at hg
 exact ⟨_,_,_,hcv,bytesWorld_below w s,hg⟩
def Kr (s:List UInt8) (lo hi:Int):Int × Int:=if s.length≠4 then (0,7) else if (EL s:Int)<lo∨hi<(EL s:Int) then (0,2) else (EL s,0)
set_option maxRecDepth 100000 in
theorem Zp (w:World) (s:List UInt8) (lo hi:Int) (hl:s.length≤140737488355328):Calls Tryz.prog 85 #[.string (Am s),.int .i64 lo,.int .i64 hi] w fun e w'=>e=.returned (.tuple #[.int .i64 (Kr s lo hi).1,.int .i64 (Kr s lo hi).2])∧Below w.heap.size w w':=by
 have hsz:=ER s
 by_cases h4:s.length=4
 · obtain ⟨cc,w1,g,hcv,hB,hg⟩:=Uq w s 4 (.inr (.inr (.inl rfl))) h4
   have hlt:EL s<4294967296:=by have:=SG s;rw [h4] at this;exact this
   rw [if_neg (by omega)] at hg
   have HG:=qh hg
   have HB:=qh hB
   have J2:=qh (YO w1 (EL s) lo hi)
   rw [h4] at hsz
   have HF:Hid (Kr s lo hi=if (EL s:Int)<lo∨hi<(EL s:Int) then (0,2) else ((EL s:Int),0)):=by
    show _=_
    unfold Kr
    rw [if_neg (by omega)]
   generalize Kr s lo hi=F at *
   generalize EL s=n at *
   generalize Am s=sb at *
   clear hg hB hlt h4 hl
   go_enter Tryz.func85,Tryz.ntmps85
   by_cases h1:lo≤(n:Int)
   · by_cases h2:(n:Int)≤hi
     · have hF:F=((n:Int),0):=HF.out.trans (if_neg (by omega))
       have OM:=qh hF
       rw [show LG lo hi (n:Int)=true by unfold LG;rw [decide_eq_true h1,decide_eq_true h2];rfl] at J2
       clear hF HF h1 h2
       go_wp2_with first
        | (go_at_call 146;refine HG.out.mono ?_;rintro e w1 ⟨rfl,rfl⟩)
        | (go_at_call 147;refine J2.out.mono ?_;rintro e w1 ⟨rfl,rfl⟩)
       go_ret2
       exact ⟨by rw [OM.out];rfl,HB.out⟩
     · have hF:F=(0,2):=HF.out.trans (if_pos (by omega))
       have OM:=qh hF
       rw [show LG lo hi (n:Int)=false by unfold LG;rw [decide_eq_false h2,Bool.and_false]] at J2
       clear hF HF h1 h2
       go_wp2_with first
        | (go_at_call 146;refine HG.out.mono ?_;rintro e w1 ⟨rfl,rfl⟩)
        | (go_at_call 147;refine J2.out.mono ?_;rintro e w1 ⟨rfl,rfl⟩)
       go_ret2
       exact ⟨by rw [OM.out];rfl,HB.out⟩
   · have hF:F=(0,2):=HF.out.trans (if_pos (by omega))
     have OM:=qh hF
     rw [show LG lo hi (n:Int)=false by unfold LG;rw [decide_eq_false h1,Bool.false_and]] at J2
     clear hF HF h1
     go_wp2_with first
      | (go_at_call 146;refine HG.out.mono ?_;rintro e w1 ⟨rfl,rfl⟩)
      | (go_at_call 147;refine J2.out.mono ?_;rintro e w1 ⟨rfl,rfl⟩)
     go_ret2
     exact ⟨by rw [OM.out];rfl,HB.out⟩
 · have HF:Hid (Kr s lo hi=(0,7)):=by show _=_;unfold Kr;rw [if_pos h4]
   have hne:((s.length:Int)==4)=false:=beq_false_of_ne (by omega)
   generalize Kr s lo hi=F at *
   generalize s.length=n at *
   generalize Am s=sb at *
   go_enter Tryz.func85,Tryz.ntmps85
   go_wp2_with fail
   go_ret2
   exact ⟨by rw [HF.out];rfl,Below.refl _ _⟩
theorem Zq (s:List UInt8):Kr s 1 14399=Aj s:=by
 unfold Kr Aj
 by_cases h:s.length≠4
 · rw [if_pos h,if_pos h]
 · rw [if_neg h,if_neg h]
   by_cases h2:EL s<1∨14399<EL s
   · rw [if_pos h2,if_pos (by omega)]
   · rw [if_neg h2,if_neg (by omega)]
theorem Kt (w:World) (s:List UInt8) (hl:s.length≤140737488355328):Calls Tryz.prog 47 #[.string (Am s)] w fun e w'=>e=.returned (.tuple #[.int .i64 (Aj s).1,.int .i64 (Aj s).2])∧Below w.heap.size w w':=by
 have HF:=qh (Zp w s 1 14399 hl)
 rw [Zq] at HF
 go_enter Tryz.func47,Tryz.ntmps47
 go_wp2_with (go_at_call 85;refine HF.out.mono ?_;rintro e w1 ⟨rfl,hB⟩)
 go_ret2
 exact ⟨rfl,hB⟩
set_option maxRecDepth 100000 in
theorem Sq (w:World) (s:List UInt8) (hl:s.length≤140737488355328):Calls Tryz.prog 86 #[.string (Am s)] w fun e w'=>e=.returned (.tuple #[.int .i64 (Ed s).1,.int .i64 (Ed s).2.1,.int .i64 (Ed s).2.2])∧Below w.heap.size w w':=by
 have hsz:=ER s
 by_cases h8:s.length=8
 · obtain ⟨cc,w1,g,hcv,hB,hg⟩:=Uq w s 8 (.inr (.inr (.inr rfl))) h8
   have HB:=qh hB
   have HF:Hid (Ed s=if 1099511627775<EL s then (0,0,2) else (((EL s / 16777216:Nat):Int),((EL s % 16777216:Nat):Int),0)):=by
    show _=_
    unfold Ed
    rw [if_neg (by omega)]
   rw [h8] at hsz
   generalize Ed s=F at *
   generalize EL s=n at *
   generalize Am s=sb at *
   clear hB h8 hl
   by_cases hb:9223372036854775808≤n
   · rw [if_pos hb] at hg
     have HG:=qh hg
     have OM:Hid (F=(0,0,2)):=HF.out.trans (if_pos (by omega))
     clear hg HF hb
     go_enter Tryz.func86,Tryz.ntmps86
     go_wp2_with (go_at_call 146;refine HG.out.mono ?_;rintro e w1 ⟨rfl,rfl⟩)
     exact bodyPost_ret (v:=.tuple #[.int .i64 0,.int .i64 0,.int .i64 2]) (by simp [results,Tryz.results86,go_sem]) rfl ⟨by rw [OM.out],HB.out⟩
   · rw [if_neg hb] at hg
     have HG:=qh hg
     have hq:((n:Int) / 16777216)=((n / 16777216:Nat):Int):=by omega
     have hr:((n:Int) % 16777216)=((n % 16777216:Nat):Int):=by omega
     have hqt:Int.tdiv (n:Int) 16777216=((n / 16777216:Nat):Int):=by rw [Int.tdiv_eq_ediv_of_nonneg (by omega)];exact hq
     have hrt:Int.tmod (n:Int) 16777216=((n % 16777216:Nat):Int):=by rw [Int.tmod_eq_emod_of_nonneg (by omega)];exact hr
     by_cases hm:1099511627775<n
     · have OM:Hid (F=(0,0,2)):=HF.out.trans (if_pos hm)
       have hge:(65536:Int)≤((n / 16777216:Nat):Int):=by omega
       generalize n / 16777216=q at *
       clear hg HF hm
       go_enter Tryz.func86,Tryz.ntmps86
       go_wp2_with (go_at_call 146;refine HG.out.mono ?_;rintro e w1 ⟨rfl,rfl⟩)
       exact bodyPost_ret (v:=.tuple #[.int .i64 0,.int .i64 0,.int .i64 2]) (by simp [results,Tryz.results86,go_sem]) rfl ⟨by rw [OM.out],HB.out⟩
     · have OM:Hid (F=(((n / 16777216:Nat):Int),((n % 16777216:Nat):Int),0)):=HF.out.trans (if_neg hm)
       have hge:decide ((65536:Int)≤((n / 16777216:Nat):Int))=false:=decide_eq_false (by omega)
       have yh:((n / 16777216:Nat):Int)<65536:=by omega
       generalize n / 16777216=q at *
       generalize n % 16777216=r at *
       clear hg HF hm hb hqt hrt
       go_enter Tryz.func86,Tryz.ntmps86
       go_upto_region 4 with (go_at_call 146;refine HG.out.mono ?_;rintro e w1 ⟨rfl,rfl⟩)
       go_wp2_with fail
       exact bodyPost_ret (v:=.tuple #[.int .i64 (q:Int),.int .i64 (r:Int),.int .i64 0]) (by simp [results,Tryz.results86,go_sem,hr]) rfl ⟨by rw [OM.out],HB.out⟩
 · have HF:Hid (Ed s=(0,0,7)):=by show _=_;unfold Ed;rw [if_pos h8]
   have hne:((s.length:Int)==8)=false:=beq_false_of_ne (by omega)
   generalize Ed s=F at *
   generalize s.length=n at *
   generalize Am s=sb at *
   go_enter Tryz.func86,Tryz.ntmps86
   go_wp2_with fail
   exact bodyPost_ret (v:=.tuple #[.int .i64 0,.int .i64 0,.int .i64 7]) (by simp [results,Tryz.results86,go_sem]) rfl ⟨by rw [HF.out],Below.refl _ _⟩
end
end Go.Proofs.YtpenklpdjpkigaaGreat
