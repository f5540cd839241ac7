/- A part of the proof: WRLook. -/
import Derived.Test.YtpenklpdjpkigaaGreatX3
import Derived.Test.YtpenklpdjpkigaaGreatY13
import Derived.Test.YtpenklpdjpkigaaGreatY3
import Derived.Test.YtpenklpdjpkigaaGreatY1
set_option maxHeartbeats 6400000
set_option linter.unusedVariables false
set_option linter.unusedSimpArgs false
namespace Go.Proofs.YtpenklpdjpkigaaGreat
section
open Go.RowKit
attribute [local go_sem] Oper.semAt_some
theorem Pf (b c:Int):(UB b ⟨[],c⟩).code=c:=by
 unfold UB
 by_cases h:c=0
 · rw [if_pos h];exact h.symm
 · rw [if_neg h]
def OU (w:World) (bs:List UInt8) (tree deep:Int) (way:List Int) (no lo hi:Int) (e:Ending) (w':World):Prop :=
 ∃ nt nl Ak nk ck Av nv cv fv,e=.returned (.tuple #[.agg #[.int .i64 nt,.bool nl,.slice Ak nk ck,.slice Av nv cv],fv])∧(Bf bs tree deep way no lo hi=0→Bp w' (C9 w.heap.size w'.heap.size) (.agg #[.int .i64 nt,.bool nl,.slice Ak nk ck,.slice Av nv cv]) (nodeAt bs no))∧RF w' (C9 w.heap.size w'.heap.size) fv (UB no ⟨[],Bf bs tree deep way no lo hi⟩)
theorem MG.open_ {w w':World} {bs:List UInt8} {no tree:Int} {e:Ending} (h:MG w bs no tree e w'):∃ nt nl Ak nk ck Av nv cv Af m cf,e=.returned (.tuple #[.agg #[.int .i64 nt,.bool nl,.slice Ak nk ck,.slice Av nv cv],.agg #[.slice Af m cf,.int .i64 (AZ bs no tree)]]) ∧
 Bp w' (C9 w.heap.size w'.heap.size) (.agg #[.int .i64 nt,.bool nl,.slice Ak nk ck,.slice Av nv cv]) (if AZ bs no tree=0 then nodeAt bs no else Mr)∧RF w' (C9 w.heap.size w'.heap.size) (.agg #[.slice Af m cf,.int .i64 (AZ bs no tree)]) (UB no ⟨[],AZ bs no tree⟩):=by
 obtain ⟨nv,fv,he,hn,hf⟩:=h
 obtain ⟨Ak,nk,ck,Av,nv',cv,rfl⟩:=hn.open_
 obtain ⟨Af,cf,rfl,hi⟩:=hf
 rw [Pf] at he
 exact ⟨_,_,Ak,nk,ck,Av,nv',cv,Af,_,cf,he,hn,Af,cf,by rw [Pf],hi⟩
set_option maxRecDepth 100000 in
theorem aF (w:World) (S:Nat→Prop) (a:Nat) (bs:List UInt8) (tree deep:Int) (Aw:Option Addr) (cw:Nat) (way:List Int) (no lo hi ft:Int) (hS:∀ b,S b→b<w.heap.size) (h:Hq w S a bs) (hw:BX (Flat fun n:Int=>[.int .i64 n]) 1 0 w S Aw way) (hl:way.length≤1000) :
 Calls Tryz.prog 170 #[.pointer (some ⟨a,0,none⟩),.agg #[.int .i64 no,.int .i64 lo,.int .i64 hi,.slice Aw way.length cw,.int .i64 ft],.int .i64 tree,.int .i64 deep] w fun e w'=>OU w bs tree deep way no lo hi e w'∧Below w.heap.size w w':=by
 obtain ⟨h0,h1,h2,hB,hz⟩:=AP.three w #[.int .i64 no,.int .i64 lo,.int .i64 hi,.slice Aw way.length cw,.int .i64 ft] #[.int .i64 0,.bool false,.slice none 0 0,.slice none 0 0] #[.slice none 0 0,.int .i64 0] 285 173 78
 have fG:=qh (fun w' (hB:Below w.heap.size w w')=>Wj w' S Aw cw way no (fun b hb=>Nat.lt_of_lt_of_le (hS b hb) hB.size) (hw.keep (AA _) (fun _ h=>h) (AL hB hS)) (by omega))
 have aG:Hid (no∈way→Bf bs tree deep way no lo hi=11):=fun h=>by unfold Bf;rw [if_pos h]
 have HL2:Hid (no ∉ way→16≤way.length→Bf bs tree deep way no lo hi=10):=fun h h2=>by unfold Bf;rw [if_neg h,if_pos h2]
 have kS:Hid (no ∉ way→¬ 16≤way.length→AZ bs no tree≠0→Bf bs tree deep way no lo hi=AZ bs no tree):=fun h h2 h3=>by unfold Bf;rw [if_neg h,if_neg h2,if_pos h3]
 have XD:Hid (no ∉ way→¬ 16≤way.length→AZ bs no tree=0→Bf bs tree deep way no lo hi=if (nodeAt bs no).keys.all (BP lo hi)=false then 9 else if (nodeAt bs no).leaf=true∧deep≠0∧deep≠way.length+1 then 10 else 0):=fun h h2 h3=>by unfold Bf;rw [if_neg h,if_neg h2,if_neg (not_not_intro h3)]
 go_enter Tryz.func170,Tryz.ntmps170
 go_upto_region 1 with fail
 generalize ((w.alloc (.cells #[.int .i64 no,.int .i64 lo,.int .i64 hi,.slice Aw way.length cw,.int .i64 ft] 285)).alloc (.cells #[.int .i64 0,.bool false,.slice none 0 0,.slice none 0 0] 173)).alloc (.cells #[.slice none 0 0,.int .i64 0] 78)=w1 at *
 have hw1:w.heap.size+1+1<w1.heap.size:=by omega
 have TD:=qh ((U8 w1 S a bs no tree (fun b hb=>by have:=hS b hb;omega) (h.below hB hS)))
 have HB:=qh hB
 have H0:=qh h0
 have H1:=qh h1
 have H2:=qh h2
 have HH:=qh (fG.out w1 hB)
 have LH:Hid (∀ w3 nt nl Ak nk ck Av nv cv f0 f1,Below w1.heap.size w1 w3→(Bf bs tree deep way no lo hi=0→Bp w3 (C9 w1.heap.size w3.heap.size) (.agg #[.int .i64 nt,.bool nl,.slice Ak nk ck,.slice Av nv cv]) (nodeAt bs no))→RF w3 (C9 w1.heap.size w3.heap.size) (.agg #[f0,f1]) (UB no ⟨[],Bf bs tree deep way no lo hi⟩) →
  ∃ wF,(((((w3.setCell ⟨w.heap.size+1,0,none⟩ (.int .i64 nt)).setCell ⟨w.heap.size+1,1,none⟩ (.bool nl)).setCell ⟨w.heap.size+1,2,none⟩ (.slice Ak nk ck)).setCell ⟨w.heap.size+1,3,none⟩ (.slice Av nv cv)).setCell ⟨w.heap.size+1+1,0,none⟩ f0).setCell ⟨w.heap.size+1+1,1,none⟩ f1=wF ∧
   (wF.cell? ⟨w.heap.size+1,0,none⟩=some (.int .i64 nt)∧wF.cell? ⟨w.heap.size+1,1,none⟩=some (.bool nl)∧wF.cell? ⟨w.heap.size+1,2,none⟩=some (.slice Ak nk ck)∧wF.cell? ⟨w.heap.size+1,3,none⟩=some (.slice Av nv cv))∧(wF.cell? ⟨w.heap.size+1+1,0,none⟩=some f0∧wF.cell? ⟨w.heap.size+1+1,1,none⟩=some f1) ∧
   OU w bs tree deep way no lo hi (.returned (.tuple #[.agg #[.int .i64 nt,.bool nl,.slice Ak nk ck,.slice Av nv cv],.agg #[f0,f1]])) wF∧Below w.heap.size w wF):=fun w3 nt nl Ak nk ck Av nv cv f0 f1 hB3 hn hf=>by
  obtain ⟨wF,e,k0,k1,hT⟩:=YY (H1.out.below hB3 (by omega)) (H2.out.below hB3 hw1) (by omega) (.int .i64 nt) (.bool nl) (.slice Ak nk ck) (.slice Av nv cv) f0 f1
  have hk:CS (C9 w1.heap.size w3.heap.size) w3 wF:=Ap hT (fun b hb=>⟨hb.2,fun e=>by have:=hb.1;omega⟩)
  have hs:∀ b,C9 w1.heap.size w3.heap.size b→C9 w.heap.size wF.heap.size b:=fun b hb=>⟨by have:=hb.1;omega,Nat.lt_of_lt_of_le hb.2 hT.size⟩
  exact ⟨wF,e,k0.Cf,⟨k1.at 0 _ rfl,k1.at 1 _ rfl⟩,⟨nt,nl,Ak,nk,ck,Av,nv,cv,_,rfl,fun h=>(hn h).keep hs hk,hf.keep hs hk⟩,(HB.out.trans (hB3.mono HB.out.size)).trans ((hT.weak (R':=fun x=>w.heap.size≤x) (fun x e=>by omega)).below (fun x h=>h) (by have:=hB3.size;omega))⟩
 have U9:Hid (∀ w4,Below w1.heap.size w1 w4→AP w4 w.heap.size #[.int .i64 no,.int .i64 lo,.int .i64 hi,.slice Aw way.length cw,.int .i64 ft] 285∧AP w4 (w.heap.size+1) #[.int .i64 0,.bool false,.slice none 0 0,.slice none 0 0] 173∧AP w4 (w.heap.size+1+1) #[.slice none 0 0,.int .i64 0] 78):=fun w4 hB4=>⟨H0.out.below hB4 (by omega),H1.out.below hB4 (by omega),H2.out.below hB4 hw1⟩
 have x0:=h0.at 0 _ rfl
 have x3:=h0.at 3 _ rfl
 clear h0 h1 h2 hB hz h hw fG
 have hwl:=hl
 obtain ⟨nw,hnw⟩:∃ n,way.length=n:=⟨_,rfl⟩
 rw [hnw] at hl HL2 kS XD HH U9 H0 x3 ⊢
 have Kj:=qh hnw
 clear hnw hwl
 by_cases hm:no∈way
 · have HE:=qh (aG.out hm)
   rw [decide_eq_true hm] at HH
   have JQ:=qh (Gw w1 no 11 (by decide))
   clear aG HL2 kS XD TD hm
   go_upto_region 2 with (go_at_call 210;refine HH.out.mono ?_;rintro e w1 ⟨rfl,rfl⟩)
   go_wp2_with (go_at_call 58;refine JQ.out.mono ?_;rintro e w5 ⟨⟨A3,c3,rfl,hi3⟩,BS⟩;have HI3:=qh hi3;have CE:=qh BS;clear hi3 BS;obtain ⟨f0,f1,f2⟩:=U9.out w5 CE.out;obtain ⟨y0,y1,y2,y3⟩:=f1.Cf;obtain ⟨z0,z1,z2,z3⟩:=f1.JV;have u0:=f2.at 0 _ rfl;have u1:=f2.at 1 _ rfl;have u2:=f2.free 0;have u3:=f2.free 1;clear f0 f1 f2)
   obtain ⟨wF,ew,⟨r0,r1,r2,r3⟩,⟨r4,r5⟩,hR,OT⟩:=LH.out w5 0 false none 0 0 none 0 0 (.slice A3 1 c3) (.int .i64 11) CE.out (fun h=>by rw [HE.out] at h;cases h) (by rw [HE.out,KR no 11 (by decide)];exact ⟨A3,c3,rfl,HI3.out⟩)
   rw [ew]
   exact bodyPost_ret (v:=.tuple #[.agg #[.int .i64 0,.bool false,.slice none 0 0,.slice none 0 0],.agg #[.slice A3 1 c3,.int .i64 11]]) (by simp [results,Tryz.results170,go_sem,r0,r1,r2,r3,r4,r5]) rfl ⟨hR,OT⟩
 · rw [decide_eq_false hm] at HH
   have hwr:IntKind.i64.wrap ((nw:Int)+1)=(nw:Int)+1:=by rw [IntKind.wrap_i64];omega
   by_cases h16:16≤nw
   · have HE:=qh (HL2.out hm h16)
     have JQ:=qh (Gw w1 no 10 (by decide))
     have zR:(16:Int)<(nw:Int)+1:=by omega
     clear aG HL2 kS XD TD hm h16
     go_upto_region 4 with (go_at_call 210;refine HH.out.mono ?_;rintro e w1 ⟨rfl,rfl⟩)
     go_wp2_with (go_at_call 58;refine JQ.out.mono ?_;rintro e w5 ⟨⟨A3,c3,rfl,hi3⟩,BS⟩;have HI3:=qh hi3;have CE:=qh BS;clear hi3 BS;obtain ⟨f0,f1,f2⟩:=U9.out w5 CE.out;obtain ⟨y0,y1,y2,y3⟩:=f1.Cf;obtain ⟨z0,z1,z2,z3⟩:=f1.JV;have u0:=f2.at 0 _ rfl;have u1:=f2.at 1 _ rfl;have u2:=f2.free 0;have u3:=f2.free 1;clear f0 f1 f2)
     obtain ⟨wF,ew,⟨r0,r1,r2,r3⟩,⟨r4,r5⟩,hR,OT⟩:=LH.out w5 0 false none 0 0 none 0 0 (.slice A3 1 c3) (.int .i64 10) CE.out (fun h=>by rw [HE.out] at h;cases h) (by rw [HE.out,KR no 10 (by decide)];exact ⟨A3,c3,rfl,HI3.out⟩)
     rw [ew]
     exact bodyPost_ret (v:=.tuple #[.agg #[.int .i64 0,.bool false,.slice none 0 0,.slice none 0 0],.agg #[.slice A3 1 c3,.int .i64 10]]) (by simp [results,Tryz.results170,go_sem,r0,r1,r2,r3,r4,r5]) rfl ⟨hR,OT⟩
   · have HE3:=qh (kS.out hm h16)
     have HE4:=qh (XD.out hm h16)
     have zR:¬ (16:Int)<(nw:Int)+1:=by omega
     have ACe:decide ((16:Int)<(nw:Int)+1)=false:=decide_eq_false zR
     have Vx:Hid (Calls Tryz.prog 211 #[.pointer (some ⟨a,0,none⟩),.int .i64 no,.int .i64 tree] w1 fun e w'=>(∃ nt nl Ak nk ck Av nv cv Af m cf,e=.returned (.tuple #[.agg #[.int .i64 nt,.bool nl,.slice Ak nk ck,.slice Av nv cv],.agg #[.slice Af m cf,.int .i64 (AZ bs no tree)]]) ∧
      Bp w' (C9 w1.heap.size w'.heap.size) (.agg #[.int .i64 nt,.bool nl,.slice Ak nk ck,.slice Av nv cv]) (if AZ bs no tree=0 then nodeAt bs no else Mr)∧RF w' (C9 w1.heap.size w'.heap.size) (.agg #[.slice Af m cf,.int .i64 (AZ bs no tree)]) (UB no ⟨[],AZ bs no tree⟩))∧Below w1.heap.size w1 w'):=TD.out.mono fun e w' ⟨h,hB⟩=>⟨h.open_,hB⟩
     clear aG HL2 kS XD TD hm h16
     go_upto_region 6 with first
      | (go_at_call 210;refine HH.out.mono ?_;rintro e w1 ⟨rfl,rfl⟩)
      | (go_at_call 211;refine Vx.out.mono ?_;rintro e w4 ⟨⟨nt,nl,Ak,nk,ck,Av,nv,cv,Af,m,cf,rfl,hn,hf⟩,hB4⟩;have Nv:=qh hn;have HF4:=qh hf;have CL:=qh hB4;clear hn hf hB4)
     obtain ⟨hbn,hbf,BS,hz5⟩:=AP.two w4 #[.int .i64 nt,.bool nl,.slice Ak nk ck,.slice Av nv cv] #[.slice Af m cf,.int .i64 (AZ bs no tree)] 173 78
     generalize (w4.alloc (.cells #[.int .i64 nt,.bool nl,.slice Ak nk ck,.slice Av nv cv] 173)).alloc (.cells #[.slice Af m cf,.int .i64 (AZ bs no tree)] 78)=w5 at *
     have CE:=qh (CL.out.trans (BS.mono CL.out.size))
     have ACf:w1.heap.size≤w4.heap.size:=CL.out.size
     have ACg:w4.heap.size+1<w5.heap.size:=by omega
     have Nw:Hid (Bp w5 (C9 w1.heap.size w5.heap.size) (.agg #[.int .i64 nt,.bool nl,.slice Ak nk ck,.slice Av nv cv]) (if AZ bs no tree=0 then nodeAt bs no else Mr)):=Nv.out.keep (fun b hb=>⟨hb.1,Nat.lt_of_lt_of_le hb.2 BS.size⟩) (AL BS (fun b hb=>hb.2))
     have HF5:Hid (RF w5 (C9 w1.heap.size w5.heap.size) (.agg #[.slice Af m cf,.int .i64 (AZ bs no tree)]) (UB no ⟨[],AZ bs no tree⟩)):=HF4.out.keep (fun b hb=>⟨hb.1,Nat.lt_of_lt_of_le hb.2 BS.size⟩) (AL BS (fun b hb=>hb.2))
     have SY:=qh hbn
     have qI:=qh hbf
     obtain ⟨n0,n1,n2,n3⟩:=hbn.Cf
     have e0:=hbf.at 0 _ rfl
     have e1:=hbf.at 1 _ rfl
     clear BS hz5 Nv HF4 CL Vx x0 x3 hwr ACe hbn hbf HH
     obtain ⟨gn,hgn⟩:∃ g,w4.heap.size=g:=⟨_,rfl⟩
     rw [hgn] at n0 n1 n2 n3 e0 e1 ACf ACg SY qI ⊢
     clear hgn
     by_cases he:AZ bs no tree=0
     · have xw:(AZ bs no tree==0)=true:=by simpa using he
       have uG:(AZ bs no tree != 0)=false:=by unfold bne;rw [xw];rfl
       have HE:=qh (HE4.out he)
       have zS:=Nw.out
       rw [if_pos he] at zS
       have VA:(nodeAt bs no).keys.length≤18:=(Hl (Dg he)).1
       rw [he] at qI e1 e0 ⊢
       clear HE3 HE4 HF5 Nw he xw uG
       have Lp:=qh zS
       obtain ⟨kv,vv,hv,hki,hvi⟩:=zS
       simp at hv
       obtain ⟨rfl,rfl,rfl,rfl⟩:=hv
       generalize nodeAt bs no=x at *
       obtain ⟨xt,xl,xk,xv⟩:=x
       dsimp only at HE Lp SY n0 n1 n2 n3 hki VA ⊢
       have hkl:=hki.DC.1
       subst hkl
       have xx:=qh (FH (w:=w5) (fun b hb=>hb.2) hki.DC.2.2)
       have HKA:Hid (∀ i,i<xk.length→BP lo hi (nth 0 xk i)=false→xk.all (BP lo hi)=false):=fun i hi h=>by
        rw [← Bool.not_eq_true,List.all_eq_true]
        intro h2
        rw [h2 _ (Bv 0 xk i hi)] at h
        cases h
       have UC:Hid ((∀ i,i<xk.length→BP lo hi (nth 0 xk i)=true)→xk.all (BP lo hi)=true):=fun h=>by
        rw [List.all_eq_true]
        intro y hy
        obtain ⟨i,hi,rfl⟩:=YQ hy
        exact h i hi
       clear hki hvi
       generalize xk.length=nk at *
       have xV:=qh (fun w' k=>L8 w' lo hi k)
       generalize xt=nt at *
       generalize xl=nl at *
       go_wp2_with fail
       go_loopw [12] (fun vi wr=>∃ i:Nat,vi=.int .i64 i∧i≤nk∧Hid (∀ j,j<i→BP lo hi (nth 0 xk j)=true)∧Hid (Below w5.heap.size w5 wr)) (fun vi _=>nk-(intOf vi).toNat)
       case atStart=>exact ⟨0,rfl,by omega,fun j hj=>absurd hj (by omega),Below.refl _ _⟩
       case round =>
       obtain ⟨i,rfl,hi9,HI,Cy⟩:=hrel
       have aH:=Cy.out
       have hsz:=Cy.out.size
       have n0:=AQ aH (by omega) n0
       have n1:=AQ aH (by omega) n1
       have n2:=AQ aH (by omega) n2
       have n3:=AQ aH (by omega) n3
       have kT:=qh (CE.out.trans (aH.mono CE.out.size))
       clear aH
       by_cases hlt:i<nk
       · obtain ⟨bk,ok,rfl,hbk,hck⟩:=xx.out i hlt
         have k0:=hck wr Cy.out i hlt
         have zT:=qh (HKA.out i hlt)
         have hsp:BP lo hi (nth 0 xk i)=true∨BP lo hi (nth 0 xk i)=false:=by cases BP lo hi (nth 0 xk i) <;> simp
         have HHK:=qh (fun w'=>xV.out w' (nth 0 xk i))
         have hnx:Hid (nth 0 xk i=nth 0 xk i):=rfl
         obtain ⟨p,hp⟩:∃ p,nth 0 xk i=p:=⟨_,rfl⟩
         rw [hp] at k0 HHK hsp zT
         have HP:=qh hp
         clear hp hnx hck
         have hiz:(i:Int)<(nk:Int):=by omega
         obtain ⟨f0,-,-⟩:=U9.out wr kT.out
         have x1:=f0.at 1 _ rfl
         have x2:=f0.at 2 _ rfl
         have hgw:=f0.lt
         have hgn1:gn<wr.heap.size:=by omega
         have ACh:bk<wr.heap.size:=by omega
         clear f0
         go_upto_region 11 with fail
         refine AF (T:=fun _=>false) (S:=fun w'=>Below wr.heap.size wr w') (by kernel_rfl) (Below.refl wr.heap.size wr).drew (fun hHeld=>?_)
         have Jh:Below wr.heap.size wr wr.drew:=(Below.refl wr.heap.size wr).drew
         refine qs 0 51 hHeld ?_
         refine qf 1 52 rfl rfl hHeld (by intro w hSw;have x1:=AQ hSw hgw x1;have x2:=AQ hSw hgw x2;go_simp;(try with_reducible rfl)) ?_
         refine qs 2 53 hHeld ?_
         refine qf 3 54 rfl rfl hHeld (by intro w hSw;have n2:=AQ hSw hgn1 n2;go_simp;(try with_reducible rfl)) ?_
         refine qs 4 55 hHeld ?_
         refine qs 5 56 hHeld ?_
         refine qf 6 57 rfl rfl hHeld (by intro w hSw;have k0:=AQ hSw ACh k0;go_simp;(try with_reducible rfl)) ?_
         refine qo 7 fun K hK=>?_
         go_simp
         refine (HHK.out _).mono ?_
         rintro e Jj ⟨rfl,aI⟩
         have Jh:=Jh.trans (aI.mono Jh.size)
         refine hK.out _ _ (fun _=>(Below.refl wr.heap.size wr).drew.trans (aI.mono (Below.refl wr.heap.size wr).drew.size)) (fun _=>?_)
         clear hK K hHeld
         (try simp only [Act.put,qS,qZ,qU])
         refine Di (S':=fun w'=>Below Jj.heap.size Jj w') (fun _ h=>((Below.refl wr.heap.size wr).drew.trans (aI.mono (Below.refl wr.heap.size wr).drew.size)).trans (h.mono (Jh.size))) _ _ _ _ ?_
         have hHeld:(fun w'=>Below Jj.heap.size Jj w') Jj:=Below.refl _ _
         refine qs 8 59 hHeld ?_
         refine qd ?_
         have aJ:=Cy.out.trans (Jh.mono hsz)
         have TE:=qh (kT.out.trans (Jh.mono kT.out.size))
         have zU:=qh aJ
         clear Jh aI hHeld n0 n1 n2 n3 k0 x1 x2
         rcases hsp with h9|h9
         · rw [h9]
           have HI2:Hid (∀ j,j<i+1→BP lo hi (nth 0 xk j)=true):=fun j hj=>by
            rcases Nat.lt_or_ge j i with h|h
            · exact HI.out j h
            · obtain rfl:j=i:=by omega
              rw [HP.out]
              exact h9
           clear h9 aJ
           go_wp2_with fail
           go_roundw
           case rel=>exact ⟨i+1,by go_num,by omega,HI2,zU⟩
           case measure=>simp [intOf];omega
         · rw [h9]
           have qJ:Hid (Bf bs tree deep way no lo hi=9):=HE.out.trans (if_pos (zT.out h9))
           clear h9
           obtain ⟨g0,g1,g2⟩:=U9.out Jj TE.out
           have HX0:=qh g0
           have YZ:=qh g1
           have Kg:=qh g2
           have Ya:=qh (SY.out.below (w':=Jj) (aJ) SY.out.lt)
           have hg0:=g0.lt
           have hg1:=g1.lt
           have hg2:=g2.lt
           have hgN:=Ya.out.lt
           clear g0 g1 g2
           have JQ:=qh (Gw Jj.drew no 9 (by decide))
           have GH:Hid (∀ w',Below Jj.drew.heap.size Jj.drew w'→AP w' gn #[.int .i64 nt,.bool nl,.slice (some ⟨bk,ok,none⟩) nk ck,.slice Av nv cv] 173∧AP w' w.heap.size #[.int .i64 no,.int .i64 lo,.int .i64 hi,.slice Aw nw cw,.int .i64 ft] 285∧AP w' (w.heap.size+1+1) #[.slice none 0 0,.int .i64 0] 78∧AP w' (w.heap.size+1) #[.int .i64 0,.bool false,.slice none 0 0,.slice none 0 0] 173):=fun w' hB=>⟨Ya.out.below (w':=w') ((Below.refl Jj.heap.size Jj).drew.trans hB) hgN,HX0.out.below (w':=w') ((Below.refl Jj.heap.size Jj).drew.trans hB) hg0,Kg.out.below (w':=w') ((Below.refl Jj.heap.size Jj).drew.trans hB) hg2,YZ.out.below (w':=w') ((Below.refl Jj.heap.size Jj).drew.trans hB) hg1⟩
           have HST:Hid (∀ w',Below Jj.drew.heap.size Jj.drew w'→AP ((((w'.setCell ⟨w.heap.size+1,0,none⟩ (.int .i64 nt)).setCell ⟨w.heap.size+1,1,none⟩ (.bool nl)).setCell ⟨w.heap.size+1,2,none⟩ (.slice (some ⟨bk,ok,none⟩) nk ck)).setCell ⟨w.heap.size+1,3,none⟩ (.slice Av nv cv)) gn #[.int .i64 nt,.bool nl,.slice (some ⟨bk,ok,none⟩) nk ck,.slice Av nv cv] 173∧AP ((((w'.setCell ⟨w.heap.size+1,0,none⟩ (.int .i64 nt)).setCell ⟨w.heap.size+1,1,none⟩ (.bool nl)).setCell ⟨w.heap.size+1,2,none⟩ (.slice (some ⟨bk,ok,none⟩) nk ck)).setCell ⟨w.heap.size+1,3,none⟩ (.slice Av nv cv)) w.heap.size #[.int .i64 no,.int .i64 lo,.int .i64 hi,.slice Aw nw cw,.int .i64 ft] 285∧AP ((((w'.setCell ⟨w.heap.size+1,0,none⟩ (.int .i64 nt)).setCell ⟨w.heap.size+1,1,none⟩ (.bool nl)).setCell ⟨w.heap.size+1,2,none⟩ (.slice (some ⟨bk,ok,none⟩) nk ck)).setCell ⟨w.heap.size+1,3,none⟩ (.slice Av nv cv)) (w.heap.size+1+1) #[.slice none 0 0,.int .i64 0] 78):=fun w' hB=>by
            obtain ⟨k0,k1,k2,_⟩:=GH.out w' hB
            exact ⟨(((k0.far (by omega) 0 _).far (by omega) 1 _).far (by omega) 2 _).far (by omega) 3 _,(((k1.far (by omega) 0 _).far (by omega) 1 _).far (by omega) 2 _).far (by omega) 3 _,(((k2.far (by omega) 0 _).far (by omega) 1 _).far (by omega) 2 _).far (by omega) 3 _⟩
           go_upto_region 12 with fail
           refine AF (T:=fun j=>j==5) (S:=fun w'=>AP w' gn #[.int .i64 nt,.bool nl,.slice (some ⟨bk,ok,none⟩) nk ck,.slice Av nv cv] 173∧AP w' w.heap.size #[.int .i64 no,.int .i64 lo,.int .i64 hi,.slice Aw nw cw,.int .i64 ft] 285∧AP w' (w.heap.size+1+1) #[.slice none 0 0,.int .i64 0] 78) (by kernel_rfl) (⟨Ya.out,HX0.out,Kg.out⟩) (fun hHeld=>?_)
           refine qf 0 60 rfl rfl hHeld (by intro w hSw;obtain ⟨n0,n1,n2,n3⟩:=hSw.1.Cf;go_simp;(try with_reducible rfl)) ?_
           refine qs 1 61 hHeld ?_
           refine qf 2 62 rfl rfl hHeld (by intro w hSw;have x0:=hSw.2.1.at 0 _ rfl;go_simp;(try with_reducible rfl)) ?_
           refine qo 3 fun K hK=>?_
           go_simp
           refine (JQ.out).mono ?_
           rintro e Ch ⟨⟨A3,c3,rfl,hi3⟩,Fg⟩
           have HI3:=qh hi3
           have Db:=qh Fg
           clear hi3 Fg
           have hHeld:=(show AP Ch gn #[.int .i64 nt,.bool nl,.slice (some ⟨bk,ok,none⟩) nk ck,.slice Av nv cv] 173∧AP Ch w.heap.size #[.int .i64 no,.int .i64 lo,.int .i64 hi,.slice Aw nw cw,.int .i64 ft] 285∧AP Ch (w.heap.size+1+1) #[.slice none 0 0,.int .i64 0] 78 from ⟨(GH.out Ch Db.out).1,(GH.out Ch Db.out).2.1,(GH.out Ch Db.out).2.2.1⟩)
           refine hK.out _ _ (fun _=>hHeld) (fun _=>?_)
           clear hK K
           (try simp only [Act.put,qS])
           refine qo 4 fun K hK=>?_
           (obtain ⟨y0,y1,y2,y3⟩:=(GH.out Ch Db.out).2.2.2.Cf;obtain ⟨z0,z1,z2,z3⟩:=(GH.out Ch Db.out).2.2.2.JV)
           go_simp
           have Bi:=HST.out Ch Db.out
           clear hHeld
           have hHeld:=Bi
           clear Bi
           refine hK.out _ _ (fun _=>hHeld) (fun _=>?_)
           clear hK K
           (try simp only [Act.put,qS])
           refine qo 5 fun K hK=>?_
           (have u0:=(GH.out Ch Db.out).2.2.1.at 0 _ rfl;have u1:=(GH.out Ch Db.out).2.2.1.at 1 _ rfl;have u2:=(GH.out Ch Db.out).2.2.1.free 0;have u3:=(GH.out Ch Db.out).2.2.1.free 1)
           go_simp
           refine hK.out _ _ (fun h=>by cases h) (fun _=>?_)
           clear hK K hHeld
           (try simp only [Act.put,qS])
           refine qd ?_
           obtain ⟨wF,ew,⟨r0,r1,r2,r3⟩,⟨r4,r5⟩,hR,OT⟩:=LH.out Ch nt nl (some ⟨bk,ok,none⟩) nk ck Av nv cv (.slice A3 1 c3) (.int .i64 9) (TE.out.trans (((Below.refl Jj.heap.size Jj).drew.trans Db.out).mono TE.out.size)) (fun h=>by rw [qJ.out] at h;cases h) (by rw [qJ.out,KR no 9 (by decide)];exact ⟨A3,c3,rfl,HI3.out.sub (AA _) (fun b hb=>⟨Nat.le_trans TE.out.size hb.1,hb.2⟩)⟩)
           rw [ew]
           go_wp2_with fail
           exact bodyPost_ret (v:=.tuple #[.agg #[.int .i64 nt,.bool nl,.slice (some ⟨bk,ok,none⟩) nk ck,.slice Av nv cv],.agg #[.slice A3 1 c3,.int .i64 9]]) (by simp [results,Tryz.results170,go_sem,r0,r1,r2,r3,r4,r5]) rfl ⟨hR,OT⟩
       · have hall:=UC.out (fun j hj=>HI.out j (by omega))
         have HE2:Hid (Bf bs tree deep way no lo hi=if nl=true∧deep≠0∧deep≠nw+1 then 10 else 0):=HE.out.trans (if_neg (by rw [hall];simp))
         have aJ:=Cy.out
         have zU:=qh aJ
         clear hall UC HKA xx HE
         have hwr:IntKind.i64.wrap ((nw:Int)+1)=(nw:Int)+1:=by rw [IntKind.wrap_i64];omega
         obtain ⟨f0,-,-⟩:=U9.out wr kT.out
         have x3:=f0.at 3 _ rfl
         clear f0
         by_cases hc:nl=true∧deep≠0∧deep≠nw+1
         · have zV:Hid (Bf bs tree deep way no lo hi=10):=HE2.out.trans (if_pos hc)
           obtain ⟨rfl,hd0,hdw⟩:=hc
           have d0:(deep==0)=false:=by simpa using hd0
           have d0n:(deep != 0)=true:=by unfold bne;rw [d0];rfl
           have d1:((nw:Int)+1==deep)=false:=beq_false_of_ne (fun e=>hdw e.symm)
           have d1n:((nw:Int)+1 != deep)=true:=by unfold bne;rw [d1];rfl
           clear hd0 hdw HE2
           obtain ⟨g0,g1,g2⟩:=U9.out wr kT.out
           have HX0:=qh g0
           have YZ:=qh g1
           have Kg:=qh g2
           have Ya:=qh (SY.out.below (w':=wr) (aJ) SY.out.lt)
           have hg0:=g0.lt
           have hg1:=g1.lt
           have hg2:=g2.lt
           have hgN:=Ya.out.lt
           clear g0 g1 g2
           have JQ:=qh (Gw wr.drew no 10 (by decide))
           have GH:Hid (∀ w',Below wr.drew.heap.size wr.drew w'→AP w' gn #[.int .i64 nt,.bool true,.slice Ak nk ck,.slice Av nv cv] 173∧AP w' w.heap.size #[.int .i64 no,.int .i64 lo,.int .i64 hi,.slice Aw nw cw,.int .i64 ft] 285∧AP w' (w.heap.size+1+1) #[.slice none 0 0,.int .i64 0] 78∧AP w' (w.heap.size+1) #[.int .i64 0,.bool false,.slice none 0 0,.slice none 0 0] 173):=fun w' hB=>⟨Ya.out.below (w':=w') ((Below.refl wr.heap.size wr).drew.trans hB) hgN,HX0.out.below (w':=w') ((Below.refl wr.heap.size wr).drew.trans hB) hg0,Kg.out.below (w':=w') ((Below.refl wr.heap.size wr).drew.trans hB) hg2,YZ.out.below (w':=w') ((Below.refl wr.heap.size wr).drew.trans hB) hg1⟩
           have HST:Hid (∀ w',Below wr.drew.heap.size wr.drew w'→AP ((((w'.setCell ⟨w.heap.size+1,0,none⟩ (.int .i64 nt)).setCell ⟨w.heap.size+1,1,none⟩ (.bool true)).setCell ⟨w.heap.size+1,2,none⟩ (.slice Ak nk ck)).setCell ⟨w.heap.size+1,3,none⟩ (.slice Av nv cv)) gn #[.int .i64 nt,.bool true,.slice Ak nk ck,.slice Av nv cv] 173∧AP ((((w'.setCell ⟨w.heap.size+1,0,none⟩ (.int .i64 nt)).setCell ⟨w.heap.size+1,1,none⟩ (.bool true)).setCell ⟨w.heap.size+1,2,none⟩ (.slice Ak nk ck)).setCell ⟨w.heap.size+1,3,none⟩ (.slice Av nv cv)) w.heap.size #[.int .i64 no,.int .i64 lo,.int .i64 hi,.slice Aw nw cw,.int .i64 ft] 285∧AP ((((w'.setCell ⟨w.heap.size+1,0,none⟩ (.int .i64 nt)).setCell ⟨w.heap.size+1,1,none⟩ (.bool true)).setCell ⟨w.heap.size+1,2,none⟩ (.slice Ak nk ck)).setCell ⟨w.heap.size+1,3,none⟩ (.slice Av nv cv)) (w.heap.size+1+1) #[.slice none 0 0,.int .i64 0] 78):=fun w' hB=>by
            obtain ⟨k0,k1,k2,_⟩:=GH.out w' hB
            exact ⟨(((k0.far (by omega) 0 _).far (by omega) 1 _).far (by omega) 2 _).far (by omega) 3 _,(((k1.far (by omega) 0 _).far (by omega) 1 _).far (by omega) 2 _).far (by omega) 3 _,(((k2.far (by omega) 0 _).far (by omega) 1 _).far (by omega) 2 _).far (by omega) 3 _⟩
           go_upto_region 14 with fail
           refine AF (T:=fun j=>j==5) (S:=fun w'=>AP w' gn #[.int .i64 nt,.bool true,.slice Ak nk ck,.slice Av nv cv] 173∧AP w' w.heap.size #[.int .i64 no,.int .i64 lo,.int .i64 hi,.slice Aw nw cw,.int .i64 ft] 285∧AP w' (w.heap.size+1+1) #[.slice none 0 0,.int .i64 0] 78) (by kernel_rfl) (⟨Ya.out,HX0.out,Kg.out⟩) (fun hHeld=>?_)
           refine qf 0 78 rfl rfl hHeld (by intro w hSw;obtain ⟨n0,n1,n2,n3⟩:=hSw.1.Cf;go_simp;(try with_reducible rfl)) ?_
           refine qs 1 79 hHeld ?_
           refine qf 2 80 rfl rfl hHeld (by intro w hSw;have x0:=hSw.2.1.at 0 _ rfl;go_simp;(try with_reducible rfl)) ?_
           refine qo 3 fun K hK=>?_
           go_simp
           refine (JQ.out).mono ?_
           rintro e Ch ⟨⟨A3,c3,rfl,hi3⟩,Fg⟩
           have HI3:=qh hi3
           have Db:=qh Fg
           clear hi3 Fg
           have hHeld:=(show AP Ch gn #[.int .i64 nt,.bool true,.slice Ak nk ck,.slice Av nv cv] 173∧AP Ch w.heap.size #[.int .i64 no,.int .i64 lo,.int .i64 hi,.slice Aw nw cw,.int .i64 ft] 285∧AP Ch (w.heap.size+1+1) #[.slice none 0 0,.int .i64 0] 78 from ⟨(GH.out Ch Db.out).1,(GH.out Ch Db.out).2.1,(GH.out Ch Db.out).2.2.1⟩)
           refine hK.out _ _ (fun _=>hHeld) (fun _=>?_)
           clear hK K
           (try simp only [Act.put,qS])
           refine qo 4 fun K hK=>?_
           (obtain ⟨y0,y1,y2,y3⟩:=(GH.out Ch Db.out).2.2.2.Cf;obtain ⟨z0,z1,z2,z3⟩:=(GH.out Ch Db.out).2.2.2.JV)
           go_simp
           have Bi:=HST.out Ch Db.out
           clear hHeld
           have hHeld:=Bi
           clear Bi
           refine hK.out _ _ (fun _=>hHeld) (fun _=>?_)
           clear hK K
           (try simp only [Act.put,qS])
           refine qo 5 fun K hK=>?_
           (have u0:=(GH.out Ch Db.out).2.2.1.at 0 _ rfl;have u1:=(GH.out Ch Db.out).2.2.1.at 1 _ rfl;have u2:=(GH.out Ch Db.out).2.2.1.free 0;have u3:=(GH.out Ch Db.out).2.2.1.free 1)
           go_simp
           refine hK.out _ _ (fun h=>by cases h) (fun _=>?_)
           clear hK K hHeld
           (try simp only [Act.put,qS])
           refine qd ?_
           obtain ⟨wF,ew,⟨r0,r1,r2,r3⟩,⟨r4,r5⟩,hR,OT⟩:=LH.out Ch nt true Ak nk ck Av nv cv (.slice A3 1 c3) (.int .i64 10) (kT.out.trans (((Below.refl wr.heap.size wr).drew.trans Db.out).mono kT.out.size)) (fun h=>by rw [zV.out] at h;cases h) (by rw [zV.out,KR no 10 (by decide)];exact ⟨A3,c3,rfl,HI3.out.sub (AA _) (fun b hb=>⟨Nat.le_trans kT.out.size hb.1,hb.2⟩)⟩)
           rw [ew]
           go_wp2_with fail
           exact bodyPost_ret (v:=.tuple #[.agg #[.int .i64 nt,.bool true,.slice Ak nk ck,.slice Av nv cv],.agg #[.slice A3 1 c3,.int .i64 10]]) (by simp [results,Tryz.results170,go_sem,r0,r1,r2,r3,r4,r5]) rfl ⟨hR,OT⟩
         · have WT:Hid (Bf bs tree deep way no lo hi=0):=HE2.out.trans (if_neg hc)
           go_upto_region 13 with fail
           go_cut [77] (fun v wx=>v=.bool false∧wx=wr)
           case first =>
            cases nl with
            | false =>
             clear hc
             go_wp2_with fail
             go_meet
             exact ⟨rfl,rfl⟩
            | true =>
             by_cases hd:deep=0
             · have d0:(deep==0)=true:=by simpa using hd
               have d0n:(deep != 0)=false:=by unfold bne;rw [d0];rfl
               clear hc hd
               go_wp2_with fail
               go_meet
               exact ⟨rfl,rfl⟩
             · have d0:(deep==0)=false:=by simpa using hd
               have d0n:(deep != 0)=true:=by unfold bne;rw [d0];rfl
               have hdw:deep=nw+1:=Decidable.not_not.1 (fun h=>hc ⟨rfl,hd,h⟩)
               have d1:((nw:Int)+1==deep)=true:=beq_iff_eq.2 hdw.symm
               have d1n:((nw:Int)+1 != deep)=false:=by unfold bne;rw [d1];rfl
               clear hc hd hdw
               go_wp2_with fail
               go_meet
               exact ⟨rfl,rfl⟩
           case rest =>
           obtain ⟨rfl,hwc⟩:=hcut
           have hwc:=hwc.symm
           subst hwc
           clear hc x3 hwr
           obtain ⟨-,f1,f2⟩:=U9.out _ kT.out
           obtain ⟨y0,y1,y2,y3⟩:=f1.Cf
           obtain ⟨z0,z1,z2,z3⟩:=f1.JV
           have u0:=f2.at 0 _ rfl
           have u1:=f2.at 1 _ rfl
           have u2:=f2.free 0
           have u3:=f2.free 1
           clear f1 f2
           have HNF:=qh (Lp.out.keep (S':=C9 w1.heap.size wr.heap.size) (fun b hb=>⟨hb.1,Nat.lt_of_lt_of_le hb.2 hsz⟩) (AL Cy.out (fun b hb=>hb.2)))
           obtain ⟨wF,ew,⟨r0,r1,r2,r3⟩,⟨r4,r5⟩,hR,OT⟩:=LH.out wr nt nl Ak nk ck Av nv cv (.slice none 0 0) (.int .i64 0) kT.out (fun _=>HNF.out) (by rw [WT.out];exact RF.zero)
           have EW:=qh ew
           have R:=qh (And.intro r0 (And.intro r1 (And.intro r2 (And.intro r3 (And.intro r4 r5)))))
           have HR:=qh hR
           have ACi:=qh OT
           clear ew r0 r1 r2 r3 r4 r5 hR OT
           go_wp2_with fail
           rw [EW.out]
           obtain ⟨r0,r1,r2,r3,r4,r5⟩:=R.out
           exact bodyPost_ret (v:=.tuple #[.agg #[.int .i64 nt,.bool nl,.slice Ak nk ck,.slice Av nv cv],.agg #[.slice none 0 0,.int .i64 0]]) (by simp [results,Tryz.results170,go_sem,r0,r1,r2,r3,r4,r5]) rfl ⟨HR.out,ACi.out⟩
     · have xw:(AZ bs no tree==0)=false:=by simpa using he
       have uG:(AZ bs no tree != 0)=true:=by unfold bne;rw [xw];rfl
       have HE:=qh (HE3.out he)
       have OM:Hid (RF w5 (C9 w1.heap.size w5.heap.size) (.agg #[.slice Af m cf,.int .i64 (AZ bs no tree)]) (UB no ⟨[],Bf bs tree deep way no lo hi⟩)):=by
        show RF _ _ _ _
        rw [HE.out]
        exact HF5.out
       have WT:Hid (Bf bs tree deep way no lo hi≠0):=by
        show _≠_
        rw [HE.out]
        exact he
       clear HE3 HE4 HF5 Nw he HE
       generalize AZ bs no tree=E at *
       obtain ⟨f0,f1,f2⟩:=U9.out w5 CE.out
       have YZ:=qh f1
       have Kg:=qh f2
       clear f0 f1 f2 n0 n1 n2 n3 e0
       have hg1:w.heap.size+1<w5.heap.size:=by omega
       have hg2:w.heap.size+1+1<w5.heap.size:=by omega
       have HST:Hid (AP ((((w5.drew.setCell ⟨w.heap.size+1,0,none⟩ (.int .i64 nt)).setCell ⟨w.heap.size+1,1,none⟩ (.bool nl)).setCell ⟨w.heap.size+1,2,none⟩ (.slice Ak nk ck)).setCell ⟨w.heap.size+1,3,none⟩ (.slice Av nv cv)) gn #[.int .i64 nt,.bool nl,.slice Ak nk ck,.slice Av nv cv] 173∧AP ((((w5.drew.setCell ⟨w.heap.size+1,0,none⟩ (.int .i64 nt)).setCell ⟨w.heap.size+1,1,none⟩ (.bool nl)).setCell ⟨w.heap.size+1,2,none⟩ (.slice Ak nk ck)).setCell ⟨w.heap.size+1,3,none⟩ (.slice Av nv cv)) (gn+1) #[.slice Af m cf,.int .i64 E] 78∧AP ((((w5.drew.setCell ⟨w.heap.size+1,0,none⟩ (.int .i64 nt)).setCell ⟨w.heap.size+1,1,none⟩ (.bool nl)).setCell ⟨w.heap.size+1,2,none⟩ (.slice Ak nk ck)).setCell ⟨w.heap.size+1,3,none⟩ (.slice Av nv cv)) (w.heap.size+1+1) #[.slice none 0 0,.int .i64 0] 78) :=
        ⟨((((SY.out.drewN 1).far (by omega) 0 _).far (by omega) 1 _).far (by omega) 2 _).far (by omega) 3 _,((((qI.out.drewN 1).far (by omega) 0 _).far (by omega) 1 _).far (by omega) 2 _).far (by omega) 3 _,((((Kg.out.drewN 1).far (by omega) 0 _).far (by omega) 1 _).far (by omega) 2 _).far (by omega) 3 _⟩
       go_upto_region 7 with fail
       refine AF (T:=fun j=>j==3) (S:=fun w'=>AP w' gn #[.int .i64 nt,.bool nl,.slice Ak nk ck,.slice Av nv cv] 173∧AP w' (gn+1) #[.slice Af m cf,.int .i64 E] 78∧AP w' (w.heap.size+1+1) #[.slice none 0 0,.int .i64 0] 78) (by kernel_rfl) (⟨SY.out,qI.out,Kg.out⟩) (fun hHeld=>?_)
       refine qf 0 42 rfl rfl hHeld (by intro w hSw;obtain ⟨n0,n1,n2,n3⟩:=hSw.1.Cf;go_simp;(try with_reducible rfl)) ?_
       refine qf 1 43 rfl rfl hHeld (by intro w hSw;have e0:=hSw.2.1.at 0 _ rfl;have e1:=hSw.2.1.at 1 _ rfl;go_simp;(try with_reducible rfl)) ?_
       refine qo 2 fun K hK=>?_
       (obtain ⟨y0,y1,y2,y3⟩:=YZ.out.Cf;obtain ⟨z0,z1,z2,z3⟩:=YZ.out.JV;have y0:World.cell? w5.drew ⟨w.heap.size+1,0,none⟩=_:=y0;have y1:World.cell? w5.drew ⟨w.heap.size+1,1,none⟩=_:=y1;have y2:World.cell? w5.drew ⟨w.heap.size+1,2,none⟩=_:=y2;have y3:World.cell? w5.drew ⟨w.heap.size+1,3,none⟩=_:=y3;have z0:World.frozen? w5.drew ⟨w.heap.size+1,0,none⟩=_:=z0;have z1:World.frozen? w5.drew ⟨w.heap.size+1,1,none⟩=_:=z1;have z2:World.frozen? w5.drew ⟨w.heap.size+1,2,none⟩=_:=z2;have z3:World.frozen? w5.drew ⟨w.heap.size+1,3,none⟩=_:=z3)
       go_simp
       have Bi:=HST.out
       clear hHeld
       have hHeld:=Bi
       clear Bi
       refine hK.out _ _ (fun _=>hHeld) (fun _=>?_)
       clear hK K
       (try simp only [Act.put,qS])
       refine qo 3 fun K hK=>?_
       (have u0:=Kg.out.at 0 _ rfl;have u1:=Kg.out.at 1 _ rfl;have u2:=Kg.out.free 0;have u3:=Kg.out.free 1;have u0:World.cell? w5.drew ⟨w.heap.size+1+1,0,none⟩=_:=u0;have u1:World.cell? w5.drew ⟨w.heap.size+1+1,1,none⟩=_:=u1;have u2:World.frozen? w5.drew ⟨w.heap.size+1+1,0,none⟩=_:=u2;have u3:World.frozen? w5.drew ⟨w.heap.size+1+1,1,none⟩=_:=u3)
       go_simp
       refine hK.out _ _ (fun h=>by cases h) (fun _=>?_)
       clear hK K hHeld
       (try simp only [Act.put,qS])
       refine qd ?_
       obtain ⟨wF,ew,⟨r0,r1,r2,r3⟩,⟨r4,r5⟩,hR,OT⟩:=LH.out w5 nt nl Ak nk ck Av nv cv (.slice Af m cf) (.int .i64 E) CE.out (fun h=>absurd h WT.out) OM.out
       rw [ew]
       go_wp2_with fail
       exact bodyPost_ret (v:=.tuple #[.agg #[.int .i64 nt,.bool nl,.slice Ak nk ck,.slice Av nv cv],.agg #[.slice Af m cf,.int .i64 E]]) (by simp [results,Tryz.results170,go_sem,r0,r1,r2,r3,r4,r5]) rfl ⟨hR,OT.drew⟩
end
end Go.Proofs.YtpenklpdjpkigaaGreat
