/- A part of the proof: WPairsZ. -/
import Derived.Test.YtpenklpdjpkigaaGreatX30
import Derived.Test.YtpenklpdjpkigaaGreatX34
import Derived.Test.YtpenklpdjpkigaaGreatY1
set_option maxHeartbeats 6400000
set_option linter.unusedVariables false
set_option linter.unusedSimpArgs false
namespace Go.Proofs.YtpenklpdjpkigaaGreat
section
open Go.RowKit Go.Shelf
theorem kC {P:List PS} {t:Int} (h:P.map PS.r=[t]):∃ p:PS,P=[p]∧p.r=t:=by
 cases P with
 | nil=>simp at h
 | cons p r =>
  cases r with
  | nil=>exact ⟨p,rfl,by simpa using h⟩
  | cons _ _=>simp at h
theorem ABe (w:World) (A B:Option Addr) (c d:Nat):Calls Tryz.prog 29 #[.slice A 0 c,.slice B 0 d] w fun e w'=>e=.returned (.tuple #[.slice none 0 0,.bool true])∧w'=w:=by
 go_enter Tryz.func29,Tryz.ntmps29
 go_wp2_with fail
 go_loopw [6,17] (fun v4 vi wr=>v4=.slice none 0 0∧vi=.int .i64 0∧wr=w) (fun _ vi _=>1)
 case atStart=>exact ⟨rfl,rfl,rfl⟩
 case round =>
  obtain ⟨rfl,rfl,hwr⟩:=hrel
  rw [hwr]
  clear hwr wr
  go_wp2_with fail
  refine bodyPost_ret (v:=.tuple #[.slice none 0 0,.bool true]) (by simp [results,Tryz.results29,go_sem]) rfl ⟨rfl,rfl⟩
set_option maxRecDepth 100000 in
theorem kD (w:World) (S:Nat→Prop) (img:Nat) (bs:List UInt8) (fuel:Int) (hS:∀ b,S b→b<w.heap.size) (h:Cj w S img bs) (hl:bs.length≤3686400) (hf:fuel≤9999999) (hr:Cb bs≠0) (ht:Ck bs fuel (bs.length / 256-1)=[]) :
 Calls Tryz.prog 15 #[.pointer (some ⟨img,0,none⟩),.int .i64 fuel] w fun e w'=>e=.returned (.slice none 0 0)∧Below w.heap.size w w':=by
 have HS:=qh hS
 have QZ:=qh h
 have PH:=qh (fun w' g mb base (h:Hn w' S img g mb base 0 bs fuel)=>La w' S img g mb base 0 bs fuel h (by unfold maxLen;omega) (by omega) hf)
 have HDR:=qh (fun w' g mb base n (h:Hn w' S img g mb base n bs fuel)=>Lb w' S img g bs fuel (.map (some mb)) (fun b hb=>Nat.lt_of_lt_of_le (h.2.1 b hb) h.lt) h.1 (by omega) hf h.2.2.2.2.1)
 have HST:=qh (fun w' (hB:Below w.heap.size w w')=>Kb w' S img bs fuel (fun b hb=>Nat.lt_of_lt_of_le (hS b hb) hB.size) (h.below hB hS))
 have Ry:=qh (Hw w S img bs hS h (by omega))
 have pV:=qh (fun w' (hB:Below w.heap.size w w')=>j6 w' S img bs fuel (fun b hb=>Nat.lt_of_lt_of_le (hS b hb) hB.size) (h.below hB hS) (by omega) hf (fun h=>absurd h hr))
 unfold Ig at Ry
 unfold Y7 at pV
 dsimp only [IW,LB] at pV
 have HT:=qh ht
 have HR:=qh hr
 clear hS h hl hf hr ht
 generalize CO bs=s at *
 go_enter Tryz.func15,Tryz.ntmps15
 go_upto_region 3 with (go_at_call 27;(with_reducible refine Ry.out.mono ?_);rintro e w2 ⟨⟨ev,rfl,hie⟩,hB2⟩;obtain ⟨t8,v8,rfl,-⟩:=LP.of hie HR.out;have HB2:=qh hB2;clear hB2 hie)
 rename World=>w2
 have hBx:Below w.heap.size w (w2.alloc (Obj.cells (Y9 s) 69)):=HB2.out.alloc HB2.out.size _
 unfold Y9 at hBx
 generalize w2.alloc (Obj.cells #[.int .i64 s.tx,.int .i64 s.time,.int .i64 s.unit,.int .i64 s.data,.int .i64 s.blocks,.int .i64 s.top,.int .i64 s.BQ,.int .i64 s.FD,.int .i64 s.Hg,.int .i64 s.FE,.int .i64 s.mover] 69)=w3 at *
 have HB3:=qh hBx
 have kE:=qh (pV.out w3 hBx)
 clear hBx pV Ry HB2
 go_upto_region 5 with (go_at_call 28;(with_reducible refine kE.out.mono ?_);rintro e w4 ⟨⟨-,hx⟩,hB4⟩;obtain ⟨t9,v9,rfl⟩:=hx HR.out;have CL:=qh hB4;clear hB4 hx)
 rename World=>w4
 obtain ⟨ka,kb,kB,kz⟩:=AP.two w4 #[.int .i64 0,.int .i64 0,.int .i64 0,.int .i64 0,.slice none 0 0] #[.int .i64 0,.int .i64 0,.int .i64 0,.int .i64 0,.int .i64 0,.int .i64 0,.int .i64 0,.int .i64 0,.int .i64 0,.int .i64 0,.int .i64 0] 45 69
 have CE:=qh (HB3.out.trans ((CL.out.trans (kB.mono CL.out.size)).mono HB3.out.size))
 clear ka kb kB kz CL HB3 kE
 generalize (w4.alloc (Obj.cells #[.int .i64 0,.int .i64 0,.int .i64 0,.int .i64 0,.slice none 0 0] 45)).alloc (Obj.cells #[.int .i64 0,.int .i64 0,.int .i64 0,.int .i64 0,.int .i64 0,.int .i64 0,.int .i64 0,.int .i64 0,.int .i64 0,.int .i64 0,.int .i64 0] 69)=w5 at *
 have OC:=qh (HST.out w5 CE.out)
 have rT:∀ (fn:Fn) (first cap:Array Value) (w:World),(Instr.makeFunc fn first cap).run Tryz.prog w=.ok (.func fn first cap) w:=fun _ _ _ _=>rfl
 clear HST
 go_upto_region 11 with (first
  | (go_at_call 20;(with_reducible refine OC.out.mono ?_);rintro e w6 ⟨⟨g,mb,rfl,hh⟩,EG⟩;have Dz:=qh (CE.out.trans (EG.mono CE.out.size));have HN:=qh hh;clear EG hh)
  | (go_at_call 19;(with_reducible refine (PH.out _ g mb _ HN.out).mono ?_);rintro e w7 ⟨⟨P,A,A2,c,c2,rfl,hp,-,-,-⟩,dP,hT⟩;rw [HT.out] at hp;obtain rfl:=List.map_eq_nil_iff.1 hp;have ll:=qh dP;have Ew:Hid (Below w.heap.size w w7):=Dz.out.trans ((hT.weak (R':=fun x=>w5.heap.size≤x) (fun x e=>by rw [e];exact HN.out.2.2.2.1)).below (fun x hx=>Nat.le_trans CE.out.size hx) Dz.out.size);clear hp dP hT)
  | (go_at_call 23;(with_reducible refine (HDR.out _ g mb _ _ ll.out).mono ?_);rintro e w8 ⟨⟨P2,A3,A4,c3,c4,rfl,-,-,-,-⟩,KE⟩;have KZ:=qh (Ew.out.trans (KE.mono Ew.out.size));clear KE))
 rename World=>w8
 clear PH HDR HN ll OC rT
 generalize P2.length=n2 at *
 go_loopw [8,67] (fun v8 vi wr=>v8=.slice none 0 0∧vi=.int .i64 0∧wr=w8) (fun _ vi _=>1)
 case atStart=>exact ⟨rfl,rfl,rfl⟩
 case round =>
  obtain ⟨rfl,rfl,hwr⟩:=hrel
  rw [hwr]
  clear hwr wr
  go_wp2_with fail
  refine bodyPost_ret (v:=.slice none 0 0) (by simp [results,Tryz.results15,go_sem]) rfl ⟨rfl,KZ.out⟩
set_option maxRecDepth 100000 in
theorem kF (w:World) (S:Nat→Prop) (img:Nat) (bs:List UInt8) (fuel:Int) (hS:∀ b,S b→b<w.heap.size) (h:Cj w S img bs) (hl:bs.length≤3686400) (hf:fuel≤9999999) (hr:Cb bs=0) (hz:(BJ (Az bs (CO bs).BQ 3 fuel)).code=0∧(Az bs (CO bs).BQ 3 fuel).AO.length=0∧(BJ (Az bs (CO bs).top 1 fuel)).code=0∧(Az bs (CO bs).top 1 fuel).AO.length=0) (ht:Ck bs fuel (bs.length / 256-1)=[(CO bs).top]) (hd:Cs bs fuel (bs.length / 256-1)=[(CO bs).BQ]) :
 Calls Tryz.prog 15 #[.pointer (some ⟨img,0,none⟩),.int .i64 fuel] w fun e w'=>(∃ A c,e=.returned (.slice A 1 c))∧Below w.heap.size w w':=by
 have PH:=qh (fun w' g mb base (h:Hn w' S img g mb base 0 bs fuel)=>La w' S img g mb base 0 bs fuel h (by unfold maxLen;omega) (by omega) hf)
 have HDR:=qh (fun w' g mb base n (h:Hn w' S img g mb base n bs fuel)=>Lb w' S img g bs fuel (.map (some mb)) (fun b hb=>Nat.lt_of_lt_of_le (h.2.1 b hb) h.lt) h.1 (by omega) hf h.2.2.2.2.1)
 have HST:=qh (fun w' (hB:Below w.heap.size w w')=>Kb w' S img bs fuel (fun b hb=>Nat.lt_of_lt_of_le (hS b hb) hB.size) (h.below hB hS))
 have Ry:=qh (Hw w S img bs hS h (by omega))
 have pV:=qh (fun w' (hB:Below w.heap.size w w')=>j6 w' S img bs fuel (fun b hb=>Nat.lt_of_lt_of_le (hS b hb) hB.size) (h.below hB hS) (by omega) hf (fun _=>hz))
 have Vt:Hid (Qy bs (CO bs).top fuel=[]):=List.map_eq_nil_iff.2 (List.eq_nil_of_length_eq_zero hz.2.2.2)
 have WK:Hid (LY bs (CO bs).BQ fuel=[]):=List.eq_nil_of_length_eq_zero hz.2.1
 have HJO:=qh (fun w' A B c d=>ABe w' A B c d)
 unfold Ig at Ry
 unfold Y7 at pV
 dsimp only [IW] at pV
 have HT:=qh ht
 have HD:=qh hd
 have HR:=qh hr
 clear hS h hl hf hr ht hd hz
 generalize CO bs=s at *
 go_enter Tryz.func15,Tryz.ntmps15
 go_upto_region 3 with (go_at_call 27;(with_reducible refine Ry.out.mono ?_);rintro e w2 ⟨⟨ev,rfl,hie⟩,hB2⟩;have hev:ev=.nilIface:=(by unfold CJ at hie;rw [if_pos HR.out] at hie;exact hie);subst hev;have HB2:=qh hB2;clear hB2 hie)
 rename World=>w2
 have hBx:Below w.heap.size w (w2.alloc (Obj.cells (Y9 s) 69)):=HB2.out.alloc HB2.out.size _
 unfold Y9 at hBx
 generalize w2.alloc (Obj.cells #[.int .i64 s.tx,.int .i64 s.time,.int .i64 s.unit,.int .i64 s.data,.int .i64 s.blocks,.int .i64 s.top,.int .i64 s.BQ,.int .i64 s.FD,.int .i64 s.Hg,.int .i64 s.FE,.int .i64 s.mover] 69)=w3 at *
 have HB3:=qh hBx
 have kE:=qh (pV.out w3 hBx)
 clear hBx pV Ry HB2
 go_upto_region 6 with (go_at_call 28;(with_reducible refine kE.out.mono ?_);rintro e w4 ⟨⟨hx,-⟩,hB4⟩;obtain rfl:=hx HR.out;have CL:=qh hB4;clear hB4 hx)
 rename World=>w4
 obtain ⟨ka,kb,kB,kz⟩:=AP.two w4 #[.int .i64 s.tx,.int .i64 s.time,.int .i64 s.unit,.int .i64 s.data,.slice none 0 0] #[.int .i64 s.tx,.int .i64 s.time,.int .i64 s.unit,.int .i64 s.data,.int .i64 s.blocks,.int .i64 s.top,.int .i64 s.BQ,.int .i64 s.FD,.int .i64 s.Hg,.int .i64 s.FE,.int .i64 s.mover] 45 69
 have CE:=qh (HB3.out.trans ((CL.out.trans (kB.mono CL.out.size)).mono HB3.out.size))
 generalize (w4.alloc (Obj.cells #[.int .i64 s.tx,.int .i64 s.time,.int .i64 s.unit,.int .i64 s.data,.slice none 0 0] 45)).alloc (Obj.cells #[.int .i64 s.tx,.int .i64 s.time,.int .i64 s.unit,.int .i64 s.data,.int .i64 s.blocks,.int .i64 s.top,.int .i64 s.BQ,.int .i64 s.FD,.int .i64 s.Hg,.int .i64 s.FE,.int .i64 s.mover] 69)=w5 at *
 have p0:=ka.at 0 _ rfl
 have p1:=ka.at 1 _ rfl
 have p2:=ka.at 2 _ rfl
 have p3:=ka.at 3 _ rfl
 have p4:=ka.at 4 _ rfl
 have u5:=kb.at 5 _ rfl
 have u6:=kb.at 6 _ rfl
 clear ka kb kB kz CL HB3 kE
 go_upto_region 7 with (at_builtin;go_loud (refine BA ADt rfl _ _ rfl w5.heap.size (.slice none 0 0) 0 [] ⟨⟨true,s.top,s.BQ,⟨s.tx,s.time,s.unit,s.data,[]⟩⟩,none,0⟩ rfl (World.ownsRow_nil _ _ _ _) rfl (by omega) (by omega) ?_);intro A8 c8 w6 DI E5 Fx;have Ie:=qh DI;have mP:Hid (Below w5.heap.size w5 w6):=(Below.refl _ _).grown E5 (Nat.le_refl _) (fun k e=>by cases e);clear DI E5 Fx)
 rename World=>w6
 have Dz:=qh (CE.out.trans (mP.out.mono CE.out.size))
 have oo:=qh (HST.out w6 Dz.out)
 have rT:∀ (fn:Fn) (first cap:Array Value) (w:World),(Instr.makeFunc fn first cap).run Tryz.prog w=.ok (.func fn first cap) w:=fun _ _ _ _=>rfl
 clear HST p0 p1 p2 p3 p4 u5 u6
 go_upto_region 8 with (go_at_call 20;(with_reducible refine oo.out.mono ?_);rintro e w7 ⟨⟨g,mb,rfl,hh⟩,Ff⟩;have Sr:=qh Ff;have HN:=qh hh;clear Ff hh)
 rename World=>w7
 have ABf:=qh (PH.out w7 g mb _ HN.out)
 have HL8:Hid (∀ x,(Value.slice A8 1 c8).ownBlock=some x→x<w6.heap.size):=fun x hx=>(Ie.out.lt x hx).2
 have Ie:=qh (own_below Ie.out Sr.out (Nat.le_refl _))
 go_upto_region 9 with (go_at_call 19;(with_reducible refine ABf.out.mono ?_);rintro e w8 ⟨⟨P,A,A2,c,c2,rfl,hp,ho1,ho2,hta⟩,kK,hT⟩;rw [HT.out] at hp;obtain ⟨p,rfl,hpr⟩:=kC hp;have Yg:=qh (hta p (List.mem_singleton.2 rfl));have HPR:=qh hpr;have HR1:=qh ho1;have HR2:=qh ho2;have qb:=qh kK;have Q0:=qh hT;clear hp ho1 ho2 hta kK hT hpr)
 rename World=>w8
 have Qp:Hid (w8.ownsRow w5.heap.size _ 8 (.slice A8 1 c8) 1 _):=BG Ie.out Q0.out (fun x hx e=>by have h1:=HL8.out x hx;have h2:=HN.out.2.2.2.1;have e:x=mb:=e;omega)
 have xH:Hid (Below w6.heap.size w6 w8):=Sr.out.trans (Q0.out.below (fun x e=>by rw [e];exact HN.out.2.2.2.1) Sr.out.size)
 have ABg:=qh (HDR.out w8 g mb _ _ qb.out)
 clear PH ABf HN Ie Q0 Sr oo
 go_upto_region 10 with (go_at_call 23;(with_reducible refine ABg.out.mono ?_);rintro e w9 ⟨⟨P2,A3,A4,c3,c4,rfl,hp,ho1,ho2,xQ⟩,Mg⟩;rw [HD.out] at hp;obtain ⟨p2,rfl,ABh⟩:=kC hp;have HDA:=qh (xQ p2 (List.mem_singleton.2 rfl));have xI:=qh ABh;have HR3:=qh ho1;have HR4:=qh ho2;have kG:=qh Mg;clear hp ho1 ho2 xQ Mg ABh)
 rename World=>w9
 have Ms:Hid (p.n=0):=by show _=_;rw [Yg.out.1,HPR.out,Vt.out];rfl
 have Ql:Hid (p2.n=0):=by show _=_;rw [HDA.out.1,xI.out,WK.out];rfl
 have TK:Hid (Below w.heap.size w w9):=Dz.out.trans ((xH.out.trans (kG.out.mono xH.out.size)).mono Dz.out.size)
 have ABi:=qh (own_below Qp.out kG.out (Nat.le_refl _))
 have HR1:=qh (own_below HR1.out kG.out (Nat.le_refl _))
 have HR2:=qh (own_below HR2.out kG.out (Nat.le_refl _))
 obtain ⟨r1,e1,l1,-,s1⟩:=CG HR1.out (Nat.succ_pos _)
 obtain ⟨r2,e2,l2,-,s2⟩:=CG HR2.out (Nat.succ_pos _)
 obtain ⟨r3,e3,l3,-,s3⟩:=CG HR3.out (Nat.succ_pos _)
 obtain ⟨r4,e4,l4,-,s4⟩:=CG HR4.out (Nat.succ_pos _)
 obtain ⟨r5,e5,l5,-,s5⟩:=CG ABi.out (by decide)
 subst e1 e2 e3 e4 e5
 have q1:=s1 0 _ rfl
 have q2:=s2 0 _ rfl
 have q3:=s3 0 _ rfl
 have q4:=s4 0 _ rfl
 have k0:=s5 0 _ rfl
 have k1:=s5 1 _ rfl
 have k2:=s5 2 _ rfl
 rw [add_lit] at q1 q2 q3 q4 k0 k1 k2
 rw [HPR.out] at q1
 rw [xI.out] at q3
 rw [Ms.out] at q2
 rw [Ql.out] at q4
 have HC:Hid (∀ W,Below w9.heap.size w9 W→W.cell? ⟨r1,0,none⟩=some (.int .i64 s.top)∧W.cell? ⟨r2,0,none⟩=some (.slice p.A 0 p.c)∧W.cell? ⟨r3,0,none⟩=some (.int .i64 s.BQ)∧W.cell? ⟨r4,0,none⟩=some (.slice p2.A 0 p2.c)∧W.cell? ⟨r5,0,none⟩=some (.bool true)∧W.cell? ⟨r5,1,none⟩=some (.int .i64 s.top)∧W.cell? ⟨r5,2,none⟩=some (.int .i64 s.BQ)):=fun W hB=>⟨AQ hB l1 q1,AQ hB l2 q2,AQ hB l3 q3,AQ hB l4 q4,AQ hB l5 k0,AQ hB l5 k1,AQ hB l5 k2⟩
 clear q1 q2 q3 q4 k0 k1 k2 s1 s2 s3 s4 s5 l1 l2 l3 l4 l5 HR1 HR2 HR3 HR4 ABi Qp Yg HDA HPR xI Ms Ql HDR ABg qb xH kG Dz HT HD Vt WK HL8 rT
 generalize p.A=pA at *
 generalize p.c=pc at *
 generalize p2.A=pB at *
 generalize p2.c=pd at *
 go_upto_region 11 with fail
 go_loopw [8,67] (fun v8 vi wr=>((vi=.int .i64 0∧wr=w9)∨(vi=.int .i64 1∧Hid (Below w9.heap.size w9 wr)))∧v8=.slice (some ⟨r5,0,none⟩) 1 c8) (fun _ vi _=>1-(intOf vi).toNat)
 case atStart=>exact ⟨.inl ⟨rfl,rfl⟩,rfl⟩
 case round =>
  obtain ⟨⟨rfl,hwr⟩|⟨rfl,Cy⟩,rfl⟩:=hrel
  · rw [hwr]
    clear hwr wr
    obtain ⟨q1,q2,q3,q4,k0,k1,k2⟩:=HC.out w9 (Below.refl _ _)
    go_upto_region 14 with fail
    go_loopw [8,74] (fun v8 vi wr=>((vi=.int .i64 0∧wr=w9)∨(vi=.int .i64 1∧Hid (Below w9.heap.size w9 wr)))∧v8=.slice (some ⟨r5,0,none⟩) 1 c8) (fun _ vi _=>1-(intOf vi).toNat)
    case atStart=>exact ⟨.inl ⟨rfl,rfl⟩,rfl⟩
    case round =>
     obtain ⟨⟨rfl,hwr⟩|⟨rfl,Cy⟩,rfl⟩:=hrel
     · rw [hwr]
       clear hwr wr
       go_upto_region 16 with fail
       go_quiet (first|(go_at_call 29;refine Calls.quiet_of_same (HJO.out _ _ _ _ _)))
       have Fy:Hid (Below w9.heap.size w9 (w9.drewN nq)):=(Touch.drewN (R:=fun _=>False) nq).below (fun x h=>h.elim) (Nat.le_refl _)
       generalize w9.drewN nq=CW at *
       clear q1 q2 q3 q4 k0 k1 k2
       obtain ⟨q1,q2,q3,q4,k0,k1,k2⟩:=HC.out CW Fy.out
       go_wp2_with fail
       exact ⟨⟨.inr ⟨rfl,Fy⟩,rfl⟩,by simp [intOf]⟩
     · go_wp2_with fail
       exact ⟨⟨.inr ⟨rfl,Cy⟩,rfl⟩,by simp [intOf]⟩
  · go_wp2_with fail
    refine bodyPost_ret (v:=.slice (some ⟨r5,0,none⟩) 1 c8) (by simp [results,Tryz.results15,go_sem]) rfl ⟨⟨_,_,rfl⟩,TK.out.trans (Cy.out.mono TK.out.size)⟩
end
end Go.Proofs.YtpenklpdjpkigaaGreat
