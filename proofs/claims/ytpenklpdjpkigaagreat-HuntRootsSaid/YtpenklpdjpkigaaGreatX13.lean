/- A part of the proof: WRScan. -/
import Derived.Test.YtpenklpdjpkigaaGreatX4
import Derived.Test.YtpenklpdjpkigaaGreatY15
import Derived.Test.YtpenklpdjpkigaaGreatY11
import Derived.Test.YtpenklpdjpkigaaGreatX11
import Derived.Test.YtpenklpdjpkigaaGreatX9
import Derived.Test.YtpenklpdjpkigaaGreatY1
set_option maxHeartbeats 6400000
set_option linter.unusedVariables false
set_option linter.unusedSimpArgs false
namespace Go.Proofs.YtpenklpdjpkigaaGreat
section
open Go.RowKit Go.Shelf
attribute [local go_sem] Oper.semAt_some
theorem OU.open_ {w w':World} {bs:List UInt8} {tree deep no lo hi:Int} {way:List Int} {e:Ending} {E:Int} (h:OU w bs tree deep way no lo hi e w') (hE:Bf bs tree deep way no lo hi=E):∃ nt nl Ak nk ck Av nv cv Af m cf,e=.returned (.tuple #[.agg #[.int .i64 nt,.bool nl,.slice Ak nk ck,.slice Av nv cv],.agg #[.slice Af m cf,.int .i64 E]]) ∧
 (E=0→Bp w' (C9 w.heap.size w'.heap.size) (.agg #[.int .i64 nt,.bool nl,.slice Ak nk ck,.slice Av nv cv]) (nodeAt bs no))∧(E≠0→m=1∧Aa w' (C9 w.heap.size w'.heap.size) (.slice Af 1 cf) [no]):=by
 subst hE
 obtain ⟨nt,nl,Ak,nk,ck,Av,nv,cv,fv,he,hn,hf⟩:=h
 obtain ⟨Af,cf,rfl,hfi⟩:=hf
 rw [Pf] at he
 refine ⟨nt,nl,Ak,nk,ck,Av,nv,cv,Af,_,cf,he,hn,fun hE=>?_⟩
 have e1:(UB no ⟨[],Bf bs tree deep way no lo hi⟩).blocks=[no]:=by unfold UB;rw [if_neg hE]
 rw [e1] at hfi ⊢
 exact ⟨rfl,hfi⟩
theorem Py {w:World} {g base:Nat} {e:TypeId} (h:AP w g #[] e) (hb:base≤g):w.ownsRow base e 1 (.slice (some ⟨g,0,none⟩) 0 0) 0 [] :=
 ⟨rfl,.inr ⟨g,0,#[],rfl,hb,h,Nat.le_refl _,by unfold maxLen;omega,rfl,rfl⟩⟩
theorem TR {w:World} {g:Nat} {v:Value} {e:TypeId} (h:AP w g #[v] e):∀ j u,[v][j]? = some u→w.cell? ((⟨g,0,none⟩:Addr).add j)=some u:=fun j u hu=>by
 obtain ⟨hj,rfl⟩:=List.getElem?_eq_some_iff.1 hu
 obtain rfl:j=0:=by simp at hj;omega
 exact h.at 0 _ rfl
theorem Pz {w:World} {base:Nat} {e:TypeId} {A:Option Addr} {n c size:Nat} {xs:List Value} (h:w.ownsRow base e size (.slice A (0+n) c) (0+n) ([]++xs)):w.ownsRow base e size (.slice A n c) n xs:=by
 rw [Nat.zero_add,List.nil_append] at h;exact h
theorem Hq.sub {w:World} {S S':Nat→Prop} {a:Nat} {bs:List UInt8} (h:Hq w S a bs) (hs:∀ b,S b→S' b):Hq w S' a bs:=h.keep hs CS.refl
set_option maxRecDepth 100000 in
theorem aZ (w:World) (S:Nat→Prop) (a:Nat) (bs:List UInt8) (root tree fuel:Int) (hS:∀ b,S b→b<w.heap.size) (h:Hq w S a bs) (hf:fuel≤9999999) :
 Calls Tryz.prog 105 #[.pointer (some ⟨a,0,none⟩),.int .i64 root,.int .i64 tree,.int .i64 fuel] w fun e w'=>(∃ v,e=.returned v∧EZ w w' v (Az bs root tree fuel))∧Below w.heap.size w w':=by
 obtain ⟨h0,h1,hB,hz⟩:=AP.two w #[.slice none 0 0,.slice none 0 0,.int .i64 0,.int .i64 0,.slice none 0 0] #[.slice none 0 0,.slice none 0 0,.int .i64 0,.int .i64 0,.slice none 0 0] 145 145
 have yf:=qh (ZJ bs root tree fuel)
 go_enter Tryz.func105,Tryz.ntmps105
 go_upto_region 2 with fail
 generalize (w.alloc (.cells #[.slice none 0 0,.slice none 0 0,.int .i64 0,.int .i64 0,.slice none 0 0] 145)).alloc (.cells #[.slice none 0 0,.slice none 0 0,.int .i64 0,.int .i64 0,.slice none 0 0] 145)=w1 at *
 obtain ⟨g,hg⟩:∃ g,w.heap.size+1=g:=⟨_,rfl⟩
 rw [hg] at h1 ⊢
 have hgw:w.heap.size<g:=by omega
 have hg1:g<w1.heap.size:=by omega
 have QZ:=qh (fun w' (hB:Below w.heap.size w w')=>h.below hB hS)
 have qR:=qh hS
 have HB:=qh hB
 have H0:=qh h0
 have H1:=qh h1
 clear h h0 h1 hB hz hg hS
 have hbw:=AP.new w1 #[.int .i64 root,.int .i64 0,.int .i64 281474976710656,.slice none 0 0,.int .i64 0] 285
 have hB2:Below w1.heap.size w1 (w1.alloc (.cells #[.int .i64 root,.int .i64 0,.int .i64 281474976710656,.slice none 0 0,.int .i64 0] 285)):=(Below.refl _ _).alloc (Nat.le_refl _) _
 have AAG:Hid (Yh w (w1.alloc (.cells #[.int .i64 root,.int .i64 0,.int .i64 281474976710656,.slice none 0 0,.int .i64 0] 285)) g bs tree fuel (Az bs root tree fuel) (some ⟨w1.heap.size,0,none⟩) 1 1 OE [⟨root,0,281474976710656,[],0⟩] none 0 none 0 none 0 []):=by
  refine ⟨rfl,⟨_,1,rfl,Nat.le_refl _,fun _=>⟨w1.heap.size,0,rfl,⟨by omega,hbw.lt,fun h=>?_⟩,fun k hk=>?_⟩⟩,⟨Nat.le_refl _,H1.out.below hB2 hg1,World.ownsRow_nil _ _ _ _,World.ownsRow_nil _ _ _ _,World.ownsRow_nil _ _ _ _,Bj.F4⟩,H0.out.below hB2 (by omega),HB.out.trans (hB2.mono HB.out.size),yf.out,rfl,by simp [OE],.inr rfl,by simp [Ii,OE],fun v hv=>?_⟩
  · rcases h with h|h|h|h
    · omega
    all_goals cases h
  · obtain rfl:k=0:=by simp at hk;omega
    refine ⟨[.int .i64 root,.int .i64 0,.int .i64 281474976710656,.slice none 0 0,.int .i64 0],rfl,⟨none,0,rfl,CF.F4⟩,fun j u hu=>?_⟩
    rw [Nat.zero_mul,Nat.add_zero,Nat.zero_add]
    exact hbw.at j u (by simpa using hu)
  · simp at hv
    subst hv
    exact ⟨by simp,fun _=>(by decide:Cn 0 281474976710656=true)⟩
 clear hbw hB2
 generalize hfe:Az bs root tree fuel=F at *
 have OO:=qh hfe
 clear hfe
 go_wp2_with fail
 generalize w1.alloc (.cells #[.int .i64 root,.int .i64 0,.int .i64 281474976710656,.slice none 0 0,.int .i64 0] 285)=w2 at *
 go_loopw [10] (fun vq wr=>∃ (Aq:Option Addr) (n cq:Nat) (st:WS) (wait:List NP) (Ae:Option Addr) (ce:Nat) (Ab:Option Addr) (cb:Nat) (Af:Option Addr) (cf:Nat) (xs:List Value),vq=.slice Aq n cq∧Hid (Yh w wr g bs tree fuel F Aq n cq st wait Ae ce Ab cb Af cf xs)) (fun vq wr=>(fuel-Gh wr g).toNat*19+lenOf vq)
 case atStart=>exact ⟨_,1,1,OE,_,none,0,none,0,none,0,[],rfl,AAG⟩
 case round =>
  obtain ⟨Aq,n,cq,st,wait,Ae,ce,Ab,cb,Af,cf,xs,rfl,HR⟩:=hrel
  obtain ⟨hn,hq,hrq,hb0,hBw,hwf,hok⟩:=HR.out
  have hmu:Gh wr g=st.looked:=JB hrq.cells.2.2.2.1
  rw [hmu]
  cases wait with
  | nil =>
   obtain rfl:n=0:=hn
   obtain ⟨y0,y1,y2,y3,y4⟩:=hrq.cells
   have x0:=hb0.at 0 _ rfl
   have x1:=hb0.at 1 _ rfl
   have x2:=hb0.at 2 _ rfl
   have x3:=hb0.at 3 _ rfl
   have x4:=hb0.at 4 _ rfl
   have z0:=hb0.free 0
   have z1:=hb0.free 1
   have z2:=hb0.free 2
   have z3:=hb0.free 3
   have z4:=hb0.free 4
   have P5:=qh (hrq.res hb0 hBw hgw)
   have um:=qh hwf
   clear hq hrq hb0 hBw hwf hok HR hmu
   go_wp2_with fail
   obtain ⟨wF,ew,⟨r0,r1,r2,r3,r4⟩,hR,OT⟩:=P5.out
   rw [ew]
   exact bodyPost_ret (v:=.agg #[.slice Ae st.AO.length ce,.slice Ab st.AV.length cb,.int .i64 st.deep,.int .i64 st.looked,.slice Af st.AR.length cf]) (by simp [results,Tryz.results105,go_sem,r0,r1,r2,r3,r4]) rfl ⟨⟨_,rfl,by rw [OO.out,← um.out];exact hR⟩,OT⟩
  | cons v r =>
   obtain ⟨no,lo,hi,way,ft⟩:=v
   have hn1:n=r.length+1:=hn
   obtain ⟨-,hcq,hrow⟩:=hq.DC
   obtain ⟨bq,oq,rfl,hbq,hcl⟩:=hrow (by simp)
   obtain ⟨cs,hcs,hRv,hcl0⟩:=hcl 0 (by simp)
   rw [EP] at hRv
   obtain ⟨Av,cv,rfl,Qq⟩:=hRv
   dsimp only at hcl0 Qq hcs
   have c0:wr.cell? ⟨bq,oq,none⟩=some (.int .i64 no):=by simpa using hcl0 0 _ rfl
   have c1:wr.cell? ⟨bq,oq+1,none⟩=some (.int .i64 lo):=by simpa using hcl0 1 _ rfl
   have c2:wr.cell? ⟨bq,oq+2,none⟩=some (.int .i64 hi):=by simpa using hcl0 2 _ rfl
   have c3:wr.cell? ⟨bq,oq+3,none⟩=some (.slice Av way.length cv):=by simpa using hcl0 3 _ rfl
   have c4:wr.cell? ⟨bq,oq+4,none⟩=some (.int .i64 ft):=by simpa using hcl0 4 _ rfl
   have Qq:Aa wr (Hz wr g g st Ae ce Ab cb Af cf) (.slice Av way.length cv) way:=Qq
   obtain ⟨TN,AC8,AAH,hsz,hall⟩:=hok
   obtain ⟨hw16,hrs⟩:=hall ⟨no,lo,hi,way,ft⟩ (by simp)
   dsimp only at hw16 hrs
   have xP:=qh hrs
   have Ny:Hid (∀ v∈r,v.way.length≤16∧(v.fault=0→Cn v.lo v.hi=true)):=fun v hv=>hall v (by simp [hv])
   have lm:Hid (BX Vs 5 Jy wr (Hz wr g g st Ae ce Ab cb Af cf) (if cq=1 then some ⟨bq,oq,none⟩ else some ⟨bq,oq+5,none⟩) r):=by
    have:=BX.drop hrow (k:=1) (c:=cq) (by simp) (by rw [List.length_cons];omega)
    show BX _ _ _ _ _ _ _
    simpa [Addr.add] using this
   rw [List.length_cons] at hsz
   have VP:=qh TN
   have um:=qh hwf
   have HRQ:=qh hrq
   have HB0:=qh hb0
   have I1:=qh hBw
   have AAI:=qh Qq
   have hrl:(r.length:Int)≤64*st.looked:=by push_cast at hsz;omega
   have hwz:(Ii st:Int)≤64*st.looked:=by push_cast at hsz;omega
   have dR:Hid ((Ii st:Int)+r.length≤64*st.looked):=by show _≤_;push_cast at hsz;omega
   have AEZ:st.looked≤9999999:=by rcases AAH with h|h <;> omega
   obtain ⟨m,hm⟩:∃ m,r.length=m:=⟨_,rfl⟩
   rw [hm] at hn1 hrl
   have HM:=qh hm
   subst hn1
   obtain ⟨nw,hnw⟩:∃ n,way.length=n:=⟨_,rfl⟩
   rw [hnw] at c3 hw16
   have Kj:=qh hnw
   have hone:(1:Int)≤(m:Int)+1:=by omega
   have AEa:(1:Int)≤(cq:Int):=by omega
   have hmc:(m:Int)+1≤(cq:Int):=by omega
   clear hcl hcl0 hcs hrow hq hn hm hnw TN hwf hall hrs Qq hb0 hBw hrq HR hsz hbq
   go_upto_region 6 with fail
   generalize (if cq=1 then some (⟨bq,oq,none⟩:Addr) else some ⟨bq,oq+5,none⟩)=A2 at *
   have hbv:=AP.new wr #[.int .i64 no,.int .i64 lo,.int .i64 hi,.slice Av nw cv,.int .i64 ft] 285
   have BS:Below wr.heap.size wr (wr.alloc (.cells #[.int .i64 no,.int .i64 lo,.int .i64 hi,.slice Av nw cv,.int .i64 ft] 285)):=(Below.refl _ _).alloc (Nat.le_refl _) _
   generalize wr.alloc (.cells #[.int .i64 no,.int .i64 lo,.int .i64 hi,.slice Av nw cv,.int .i64 ft] 285)=w5 at *
   have CE:=qh BS
   have uo:=qh hbv
   have EU:=qh (HRQ.out.below BS)
   obtain ⟨k1,k2,k3⟩:=DZ HRQ.out BS
   have qV:Hid (BX Vs 5 Jy w5 (Hz w5 g g st Ae ce Ab cb Af cf) A2 r):=lm.out.keep Ei k1 k2
   have Yi:Hid (Aa w5 (Hz w5 g g st Ae ce Ab cb Af cf) (.slice Av nw cv) way):=by
    show Aa _ _ _ _
    rw [← Kj.out]
    exact AAI.out.keep (AA _) k1 k2
   have nJ:Hid (AP w5 w.heap.size #[.slice none 0 0,.slice none 0 0,.int .i64 0,.int .i64 0,.slice none 0 0] 145):=HB0.out.below BS HB0.out.lt
   have iU:Hid (Below w.heap.size w w5):=I1.out.trans (BS.mono I1.out.size)
   have hgv:wr.heap.size<w5.heap.size:=hbv.lt
   have YN:Hid (¬ Fw g st Ae ce Ab cb Af cf wr.heap.size):=fun e=>by have:=(HRQ.out.ZR _ e).2;omega
   obtain ⟨gv,AAJ⟩:∃ x,wr.heap.size=x:=⟨_,rfl⟩
   rw [AAJ] at uo YN hgv hbv ⊢
   have v0:=hbv.at 0 _ rfl
   have v1:=hbv.at 1 _ rfl
   have v2:=hbv.at 2 _ rfl
   have v3:=hbv.at 3 _ rfl
   have v4:=hbv.at 4 _ rfl
   have AC9:st.AR.length≤1000000000:=by unfold Ii at hwz;omega
   clear BS hbv k1 k2 k3 c0 c1 c2 c3 c4 HRQ lm AAI HB0 I1 CE AAJ hmu
   by_cases hft:ft=0
   · subst hft
     obtain ⟨y0,y1,y2,y3,y4⟩:=EU.out.cells
     have hg5:=EU.out.box.lt
     by_cases hfu:fuel≤st.looked
     ·
      have hfd:decide (fuel≤st.looked)=true:=decide_eq_true hfu
      have XJ:Hid ((12:Int)≠0):=(by decide:(12:Int)≠0)
      have z4:=EU.out.box.free 4
      have HFL:=EU.out.AR
      have hfa:some g≠(Value.slice Af st.AR.length cf).ownBlock:=BC HFL EU.out.box (by decide)
      have qW:some gv≠(Value.slice Af st.AR.length cf).ownBlock:=fun e=>YN.out (.inr (.inr (.inr e.symm)))
      have LH:Hid (F={ Ad st ⟨way++[no],12⟩ with Ju:=true }):=by
       show _=_
       rw [← um.out]
       exact ZK bs tree fuel ⟨no,lo,hi,way,0⟩ r st rfl (by show way.length≤16;rw [Kj.out];exact hw16) hfu
      clear y0 y1 y2 v1 v2 hfu
      go_upto_region 9 with fail
      have NW:Hid (∀ w':World,Below w5.heap.size w5 w'→AP w' gv #[.int .i64 no,.int .i64 lo,.int .i64 hi,.slice Av nw cv,.int .i64 0] 285∧w'.cell? ⟨g,4,none⟩=some (.slice Af st.AR.length cf)∧w'.frozen? ⟨g,4,none⟩=false):=fun w' hB=>⟨uo.out.below hB uo.out.lt,AQ hB EU.out.box.lt EU.out.cells.2.2.2.2,(hB.frozen (p:=⟨g,4,none⟩) EU.out.box.lt).trans (EU.out.box.free 4)⟩
      have VQ:Hid (∀ wq A3 c3,Below w5.heap.size w5 wq→Aa wq (Hz wq g g st Ae ce Ab cb Af cf) (.slice A3 1 c3) [no]→Calls Tryz.prog 169 #[.slice Av nw cv,.agg #[.slice A3 1 c3,.int .i64 12]] wq fun e w'=>(∃ A4 c4,e=.returned (.agg #[.slice A4 (nw+1) c4,.int .i64 12])∧Aa w' (Hz w' g g st Ae ce Ab cb Af cf) (.slice A4 (nw+1) c4) (way++[no]))∧Below wq.heap.size wq w'):=fun wq A3 c3 hB hi=>by
       obtain ⟨k1,k2,k3⟩:=DZ EU.out hB
       have Zj:=Yi.out
       have YJ:Aa wq (Hz wq g g st Ae ce Ab cb Af cf) (.slice Av nw cv) way:=Zj.keep (AA _) k1 k2
       rw [← Kj.out] at YJ ⊢
       refine (Mx wq (Hz wq g g st Ae ce Ab cb Af cf) Av A3 cv c3 way ⟨[no],12⟩ (fun b hb=>hb.2.1) YJ.DC.2.2 hi (by rw [Kj.out];omega) (by simp) XJ.out).mono fun e w' ⟨⟨v,he,hr⟩,hB2⟩=>?_
       obtain ⟨A4,c4,rfl,h4⟩:=hr
       have hlen:(way++[no]).length=way.length+1:=by simp
       dsimp only at he h4
       rw [hlen] at he h4
       obtain ⟨j1,j2,j3⟩:=DZ (EU.out.below hB) hB2
       exact ⟨⟨A4,c4,he,h4.sub (AA _) (fun b hb=>hb.elim (fun h=>j1 b h) (fun h=>j3 b h.1 h.2))⟩,hB2⟩
      have JQ:=qh (Gw w5.drew no 12 XJ.out)
      refine AF (T:=fun j=>j==11) (S:=fun w'=>AP w' gv #[.int .i64 no,.int .i64 lo,.int .i64 hi,.slice Av nw cv,.int .i64 0] 285∧w'.cell? ⟨g,4,none⟩=some (.slice Af st.AR.length cf)∧w'.frozen? ⟨g,4,none⟩=false) (by kernel_rfl) (NW.out w5.drew (Below.refl _ _).drew) (fun hHeld=>?_)
      refine qs 0 55 hHeld ?_
      refine qf 1 56 rfl rfl hHeld (by intro w hSw;have y4:=hSw.2.1;go_simp;(try with_reducible rfl)) ?_
      refine qs 2 57 hHeld ?_
      refine qf 3 58 rfl rfl hHeld (by intro w hSw;have v3:=hSw.1.at 3 _ rfl;go_simp;(try with_reducible rfl)) ?_
      refine qs 4 59 hHeld ?_
      refine qf 5 60 rfl rfl hHeld (by intro w hSw;have v0:=hSw.1.at 0 _ rfl;go_simp;(try with_reducible rfl)) ?_
      refine qo 6 fun K hK=>?_
      go_simp
      refine (JQ.out).mono ?_
      rintro e Ch ⟨⟨A3,c3,rfl,hi3⟩,Fg⟩
      have Db:=qh ((Below.refl w5.heap.size w5).drew.trans Fg)
      have HI3:=qh hi3
      clear hi3 Fg
      have hHeld:=NW.out Ch Db.out
      refine hK.out _ _ (fun _=>hHeld) (fun _=>?_)
      clear hK K
      (try simp only [Act.put,qS])
      refine qo 7 fun K hK=>?_
      go_simp
      refine (VQ.out Ch A3 c3 Db.out (HI3.out.sub (AA _) (fun b hb=>(DZ EU.out Db.out).2.2 b hb.1 hb.2))).mono ?_
      rintro e IY ⟨⟨A4,c4,rfl,hi4⟩,LQ⟩
      have EE:=qh (Db.out.trans (LQ.mono Db.out.size))
      have HI4:=qh hi4
      clear hi4 LQ
      have hHeld:=NW.out IY EE.out
      refine hK.out _ _ (fun _=>hHeld) (fun _=>?_)
      clear hK K
      (try simp only [Act.put,qS])
      refine qo 8 fun K hK=>?_
      go_simp
      clear hHeld
      have hHeld:=NW.out (IY.alloc (.cells #[.slice A4 (nw+1) c4,.int .i64 12] 78)) (EE.out.alloc EE.out.size _)
      refine hK.out _ _ (fun _=>hHeld) (fun _=>?_)
      clear hK K
      (try simp only [Act.put,qS])
      refine qo 9 fun K hK=>?_
      refine BD Tryz.underlying143 Pv rfl (by omega) (by omega) rfl _ _ rfl g (.slice Af st.AR.length cf) st.AR.length xs rfl ((EU.out.below EE.out).AR.alloc _) (some ⟨IY.heap.size,0,none⟩) 1 1 [.slice A4 (nw+1) c4,.int .i64 12] rfl rfl (fun d hd=>by cases hd;exact Cm IY [.slice A4 (nw+1) c4,.int .i64 12] 78) (Pw _ _ _ _) (by omega) (by have:=EE.out.size;simp;omega) (by intro h;cases h) ?_
      intro A9 c9 w9 CZ Cu Fh
      have hHeld:=(show AP w9 gv #[.int .i64 no,.int .i64 lo,.int .i64 hi,.slice Av nw cv,.int .i64 0] 285∧World.cell? w9 ⟨g,4,none⟩=some (.slice Af st.AR.length cf)∧World.frozen? w9 ⟨g,4,none⟩=false from ⟨(Cu.block gv hHeld.1.lt qW).trans hHeld.1,(Cu.cell_far ⟨g,4,none⟩ (by have:=EE.out.size;simp;omega) hfa).trans hHeld.2.1,(Cu.frozen_far ⟨g,4,none⟩ (by have:=EE.out.size;simp;omega) hfa).trans hHeld.2.2⟩)
      refine hK.out _ _ (fun _=>hHeld) (fun _=>?_)
      clear hK K
      (try simp only [Act.put])
      refine qs 10 65 hHeld ?_
      refine qo 11 fun K hK=>?_
      have y4:=hHeld.2.1;have z4:=hHeld.2.2
      go_simp
      refine hK.out _ _ (fun h=>by cases h) (fun _=>?_)
      clear hK K hHeld
      (try simp only [Act.put,qS])
      refine qd ?_
      have qX:=EE.out.alloc EE.out.size (.cells #[.slice A4 (nw+1) c4,.int .i64 12] 78)
      obtain ⟨q1,q2,q3⟩:=EU.out.ul (wc:=(IY.alloc (.cells #[.slice A4 (nw+1) c4,.int .i64 12] 78))) (f:=⟨way++[no],12⟩) qX rfl CZ Cu (fun y hy=>(Fh y hy).imp id (fun e=>Nat.le_of_eq e.symm)) ⟨A4,c4,by
       show [Value.slice A4 (nw+1) c4,Value.int .i64 12]=[Value.slice A4 (way++[no]).length c4,Value.int .i64 12]
       rw [List.length_append,List.length_singleton,Kj.out],by
       show Aa _ _ (.slice A4 (way++[no]).length c4) (way++[no])
       rw [List.length_append,List.length_singleton,Kj.out]
       obtain ⟨j1,j2,_⟩:=DZ (EU.out.below EE.out) ((Below.refl IY.heap.size IY).alloc (Nat.le_refl _) (.cells #[.slice A4 (nw+1) c4,.int .i64 12] 78))
       exact HI4.out.keep (AA _) j1 j2⟩
      have Q1:=qh q1
      have Q2:=qh q2
      have Q3:=qh q3
      clear q1 q2 q3 qX CZ Cu Fh hHeld
      generalize w9.setCell ⟨g,4,none⟩ (.slice A9 (st.AR.length+1) c9)=CW at *
      have Fy:=qh (EU.out.far Q2.out hgw nJ.out)
      have VR:Hid (Below w.heap.size w CW):=iU.out.trans ((Q2.out.weak (R':=fun x=>w.heap.size≤x) (fun x e=>by have:=(EU.out.ZR x e).1;omega)).below (fun x h=>h) iU.out.size)
      have P5:=qh (Q1.out.res Fy.out VR.out hgw)
      obtain ⟨p0,p1,p2,p3,p4⟩:=Q1.out.cells
      have x0:=Fy.out.at 0 _ rfl
      have x1:=Fy.out.at 1 _ rfl
      have x2:=Fy.out.at 2 _ rfl
      have x3:=Fy.out.at 3 _ rfl
      have x4:=Fy.out.at 4 _ rfl
      have z0:=Fy.out.free 0
      have z1:=Fy.out.free 1
      have z2:=Fy.out.free 2
      have z3:=Fy.out.free 3
      have z4':=Fy.out.free 4
      clear Q1 Q2 Q3 NW VQ JQ
      go_wp2_with fail
      obtain ⟨wF,ew,⟨r0,r1,r2,r3,r4⟩,hR,OT⟩:=P5.out
      rw [ew]
      exact bodyPost_ret (v:=.agg #[.slice Ae (Ad st ⟨way++[no],12⟩).AO.length ce,.slice Ab (Ad st ⟨way++[no],12⟩).AV.length cb,.int .i64 (Ad st ⟨way++[no],12⟩).deep,.int .i64 (Ad st ⟨way++[no],12⟩).looked,.slice A9 (Ad st ⟨way++[no],12⟩).AR.length c9]) (by simp [results,Tryz.results105,go_sem,r0,r1,r2,r3,r4]) rfl ⟨⟨_,rfl,by rw [OO.out,LH.out];exact hR⟩,OT⟩
     · have hfd:decide (fuel≤st.looked)=false:=decide_eq_false hfu
       have qE:IntKind.i64.wrap (st.looked+1)=st.looked+1:=by rw [IntKind.wrap_i64];omega
       have iV:st.looked+1≤fuel:=by omega
       have z3:=EU.out.box.free 3
       obtain ⟨st1,AAK,AAL,qY,AAM,AAN,AAO,dS,hR6⟩:=EU.out.nH
       obtain ⟨XR,AAP,uq,iW,AAQ,XC⟩:=EU.out.carry (r:=r) (A2:=A2) (way:=way) (Av:=Av) (nw:=nw) (cv:=cv) dS hR6 uo.out YN.out qV.out Yi.out nJ.out iU.out hgw
       have TS:=qh AAO
       have Yj:=qh dS
       have HR6:=qh hR6
       have I5:=qh AAK
       have ut:=qh AAN
       have aa:=qh AAM
       have nK:=qh AAL
       have Nz:=qh qY
       clear AAL qY AAO dS hR6 AAK AAN AAM y0 y1 y2 v0 v1 v2 v3
       go_upto_region 12 with fail
       generalize w5.setCell ⟨g,3,none⟩ (.int .i64 (st.looked+1))=w6 at *
       have v0:=XR.out.at 0 _ rfl
       have v1:=XR.out.at 1 _ rfl
       have v2:=XR.out.at 2 _ rfl
       have v3:=XR.out.at 3 _ rfl
       have v4:=XR.out.at 4 _ rfl
       have y2:=TS.out.cells.2.2.1
       obtain ⟨E,hE⟩:∃ E,Bf bs tree st1.deep way no lo hi=E:=⟨_,rfl⟩
       have HE:=qh hE
       have yB:Hid (Calls Tryz.prog 170 #[.pointer (some ⟨a,0,none⟩),.agg #[.int .i64 no,.int .i64 lo,.int .i64 hi,.slice Av nw cv,.int .i64 0],.int .i64 tree,.int .i64 st1.deep] w6 fun e w'=>(∃ nt nl Ak nk ck Av nv cv Af m cf,e=.returned (.tuple #[.agg #[.int .i64 nt,.bool nl,.slice Ak nk ck,.slice Av nv cv],.agg #[.slice Af m cf,.int .i64 E]]) ∧
        (E=0→Bp w' (C9 w6.heap.size w'.heap.size) (.agg #[.int .i64 nt,.bool nl,.slice Ak nk ck,.slice Av nv cv]) (nodeAt bs no))∧(E≠0→m=1∧Aa w' (C9 w6.heap.size w'.heap.size) (.slice Af 1 cf) [no]))∧Below w6.heap.size w6 w'):=by
        have h6:=iW.out
        rw [← Kj.out] at h6 ⊢
        have hrow:=h6.DC.2.2
        exact (aF w6 (fun b=>S b∨Hz w6 g g st1 Ae ce Ab cb Af cf b) a bs tree st1.deep Av cv way no lo hi 0 (TS.out.sees qR.out hgw) ((QZ.out w6 XC.out).sub (fun b h=>.inl h)) (hrow.keep (AA _) (fun b h=>.inr h) CS.refl) (by rw [Kj.out];omega)).mono fun e w' ⟨h,hB⟩=>⟨h.open_ HE.out,hB⟩
       clear hE qE z3 hfd y3 hg5 EU uo YN qV Yi nJ iU hgv
       go_upto_region 13 with (go_at_call 170;refine yB.out.mono ?_;rintro e w7 ⟨⟨nt,nl,Ak,nk,ck,Avl,nv,cvl,Afl,mfl,cfl,rfl,dP,hf7⟩,Ff⟩;have ll:=qh dP;have HF7:=qh hf7;have Ew:=qh Ff;clear dP hf7 Ff)
       obtain ⟨hbn,hbf,KE,hz8⟩:=AP.two w7 #[.int .i64 nt,.bool nl,.slice Ak nk ck,.slice Avl nv cvl] #[.slice Afl mfl cfl,.int .i64 E] 173 78
       generalize (w7.alloc (.cells #[.int .i64 nt,.bool nl,.slice Ak nk ck,.slice Avl nv cvl] 173)).alloc (.cells #[.slice Afl mfl cfl,.int .i64 E] 78)=w8 at *
       have KZ:=qh (Ew.out.trans (KE.mono Ew.out.size))
       obtain ⟨hT8,hR8⟩:=TS.out.iR KZ.out
       obtain ⟨iX,uu,qa,iY,uw,uy⟩:=TS.out.carry (r:=r) (A2:=A2) (way:=way) (Av:=Av) (nw:=nw) (cv:=cv) hT8 hR8 XR.out AAP.out uq.out iW.out AAQ.out XC.out hgw
       have Hr:=qh (TS.out.below KZ.out)
       have qb:Hid (E=0→Bp w8 (C9 w6.heap.size w8.heap.size) (.agg #[.int .i64 nt,.bool nl,.slice Ak nk ck,.slice Avl nv cvl]) (nodeAt bs no)):=fun h=>(ll.out h).keep (fun b hb=>⟨hb.1,Nat.lt_of_lt_of_le hb.2 KE.size⟩) (AL KE (fun b hb=>hb.2))
       have HF8:Hid (E≠0→mfl=1∧Aa w8 (C9 w6.heap.size w8.heap.size) (.slice Afl 1 cfl) [no]):=fun h=>⟨(HF7.out h).1,(HF7.out h).2.keep (AA _) (fun b hb=>⟨hb.1,Nat.lt_of_lt_of_le hb.2 KE.size⟩) (AL KE (fun b hb=>hb.2))⟩
       have ADA:w6.heap.size≤w7.heap.size:=Ew.out.size
       have AAR:w7.heap.size+1<w8.heap.size:=by omega
       have uz:Hid (∀ b,C9 w6.heap.size w8.heap.size b→Hz w8 g g st1 Ae ce Ab cb Af cf b):=fun b hb=>(DZ TS.out KZ.out).2.2 b hb.1 hb.2
       have e1:=hbf.at 1 _ rfl
       obtain ⟨gn,hgn⟩:∃ x,w7.heap.size=x:=⟨_,rfl⟩
       have AAS:¬ Fw g st1 Ae ce Ab cb Af cf gn:=fun e=>by have:=(TS.out.ZR _ e).2;omega
       have AAT:¬ Fw g st1 Ae ce Ab cb Af cf (gn+1):=fun e=>by have:=(TS.out.ZR _ e).2;omega
       have HGN:=qh AAS
       have kW:=qh AAT
       rw [hgn] at hbn hbf e1 ADA AAR ⊢
       have SY:=qh hbn
       have qI:=qh hbf
       clear AAS AAT hbn hbf KE hz8 hgn ll HF7 Ew Yj HR6 XR AAP uq iW AAQ XC TS yB hT8 hR8 v0 v1 v2 v3 v4 y2
       obtain ⟨gf,hgf⟩:∃ x,gn+1=x:=⟨_,rfl⟩
       rw [hgf] at qI kW e1 AAR ⊢
       by_cases hE0:E=0
       · subst hE0
         obtain ⟨hna,ADx,hall⟩:=GD HE.out
         obtain ⟨VA,hlen⟩:(nodeAt bs no).keys.length≤18∧(nodeAt bs no).keys.length=(nodeAt bs no).vals.length:=Hl (Dg hna)
         obtain ⟨kv,vv,hv,hki,hvi⟩:=qb.out rfl
         simp at hv
         obtain ⟨hnt,hnl,zf,hvv⟩:=hv
         subst zf hvv
         have HKI:=qh hki
         have HVI:=qh hvi
         have VI:=qh VA
         have HLEN:=qh hlen
         have ADy:=qh hall
         have gX:=qh hna
         have ADB:=qh hnl
         have Pn:=Hr.out.AV
         have y1:=Hr.out.cells.2.1
         have z1:=Hr.out.box.free 1
         have v0:=iX.out.at 0 _ rfl
         have AAU:=Hr.out.box.lt
         have AAV:g≤w8.heap.size:=by omega
         have uW:Hid (some g≠(Value.slice Ab st1.AV.length cb).ownBlock):=BC Pn Hr.out.box (by decide)
         have AEb:st1.AV.length≤1000000000:=by have:=aa.out;unfold Ii at hwz this;omega
         clear hki hvi VA hlen hall hna hnl hnt HF8 qb hgf qI kW
         go_upto_region 16 with (at_builtin;go_loud (refine BA Ir rfl _ _ rfl g (.slice Ab st1.AV.length cb) st1.AV.length st1.AV no rfl Pn rfl (by omega) AAV ?_);intro A9 c9 w9 CZ Cu Fh;have y1:=(Cu.cell_far ⟨g,1,none⟩ AAU uW.out).trans y1;have z1:=(Cu.frozen_far ⟨g,1,none⟩ AAU uW.out).trans z1;have HS9:=qh (Hr.out.blk CZ Cu Fh);clear CZ Cu Fh)
         clear Pn y1 z1 v0 uW AAV e1
         generalize w9.setCell ⟨g,1,none⟩ (.slice A9 (st1.AV.length+1) c9)=CW at *
         obtain ⟨Yk,ae,af⟩:=HS9.out
         obtain ⟨st2,Ke⟩:∃ s:WS,{ st1 with AV:=st1.AV++[no] }=s:=⟨_,rfl⟩
         have AEc:Hid (st2.deep=st1.deep):=by show _=_;rw [← Ke]
         have VS:Hid (st2.looked=st1.looked):=by show _=_;rw [← Ke]
         have AAW:Hid (st2.Ju=st1.Ju):=by show _=_;rw [← Ke]
         have vB:Hid (Ii st2=Ii st1+1):=by show _=_;rw [← Ke];unfold Ii;simp;omega
         have AEd:Hid (st2.AV.length=st1.AV.length+1):=by show _=_;rw [← Ke];simp
         have Yk:RQ CW g g st2 Ae ce A9 c9 Af cf xs:=by rw [← Ke];exact Yk
         have af:∀ x,Fw g st2 Ae ce A9 c9 Af cf x→Fw g st1 Ae ce Ab cb Af cf x∨w8.heap.size≤x:=by rw [← Ke];exact af
         have KF:=qh Ke
         obtain ⟨P6,qc,vC,XT,iZ,VR⟩:=Hr.out.carry (r:=r) (A2:=A2) (way:=way) (Av:=Av) (nw:=nw) (cv:=cv) ae af iX.out uu.out qa.out iY.out uw.out uy.out hgw
         have ADC:=SY.out.lt
         have P7:=qh (RQ.Mq ae HGN.out SY.out)
         have VT:Hid (¬ Fw g st2 Ae ce A9 c9 Af cf gn):=fun e=>(af _ e).elim HGN.out (fun e=>by omega)
         have ADz:=ae.size
         have KG:Hid (∀ b,C9 w6.heap.size w8.heap.size b→b<CW.heap.size∧¬ Fw g st2 Ae ce A9 c9 Af cf b):=fun b hb=>⟨by have:=hb.2;omega,fun e=>(af _ e).elim (uz.out b hb).2.2 (fun e=>by have:=hb.2;omega)⟩
         have Yl:Hid (Aa CW (C9 w6.heap.size w8.heap.size) (.slice Ak nk ck) (nodeAt bs no).keys):=HKI.out.keep (AA _) (fun _ h=>h) (Ap ae (fun b hb=>⟨hb.2,(uz.out b hb).2.2⟩))
         have Ym:Hid (Js CW (C9 w6.heap.size w8.heap.size) (.slice Avl nv cvl) (nodeAt bs no).vals):=HVI.out.keep (AA _) (fun _ h=>h) (Ap ae (fun b hb=>⟨hb.2,(uz.out b hb).2.2⟩))
         have Nb:=qh Yk
         obtain ⟨n0,n1,n2,n3⟩:=P7.out.Cf
         clear Yk ae af Ke HS9 iX uu qa iY uw uy SY HGN uz HKI HVI Hr KZ ADC
         have ADE:=ADB.out
         subst ADE
         by_cases hlf:(nodeAt bs no).leaf=true
         ·
          have lZ:Hid (∀ n:Nd,nodeAt bs no=n→n.leaf=true):=fun n e=>by rw [← e];exact hlf
          generalize (nodeAt bs no).leaf=lf at *
          subst hlf
          have v2:=P6.out.at 3 _ rfl
          have y2:=Nb.out.cells.2.2.1
          have z2:=Nb.out.box.free 2
          have hwl:IntKind.i64.wrap ((nw:Int)+1)=(nw:Int)+1:=by rw [IntKind.wrap_i64];omega
          have AAX:=qh (Nb.out.WB 2 (.int .i64 ((nw:Int)+1)) { st2 with deep:=(nw:Int)+1 } rfl rfl rfl rfl)
          have XU:Hid (Touch (Fw g st2 Ae ce A9 c9 Af cf) CW (CW.setCell ⟨g,2,none⟩ (.int .i64 ((nw:Int)+1)))):=Touch.Dc (.inl rfl)
          go_upto_region 18 with fail
          generalize CW.setCell ⟨g,2,none⟩ (.int .i64 ((nw:Int)+1))=Jj at *
          clear v2 y2 z2 hwl n0 n1 n2 n3
          have n2:=(RQ.Mq XU.out VT.out P7.out).at 2 _ rfl
          have hkl:=Yl.out.DC.1
          have hvl:=Ym.out.DC.1
          have HL:=qh (K4 (nodeAt bs no) no HLEN.out)
          have yA:Hid ((BK (nodeAt bs no) no).take nk=BK (nodeAt bs no) no):=List.take_of_length_le (by rw [Fj (nodeAt bs no) no HLEN.out,← hkl];exact Nat.le_refl _)
          have eT:Hid (∀ i,i≤nk→((BK (nodeAt bs no) no).take i).length=i):=fun i hi=>by rw [List.length_take,Fj (nodeAt bs no) no HLEN.out,← hkl];omega
          have yD:nv=nk:=by have:=HLEN.out;omega
          have VA:nk≤18:=by have:=VI.out;omega
          have aQ:Hid (0<nk→∃ b off,Ak=some ⟨b,off,none⟩∧b<CW.heap.size∧¬ Fw g st2 Ae ce A9 c9 Af cf b∧∀ w',Touch (Fw g st2 Ae ce A9 c9 Af cf) CW w'→∀ k,k<nk→w'.cell? ⟨b,off+k,none⟩=some (.int .i64 (nth 0 (nodeAt bs no).keys k))):=fun hp=>by
           obtain ⟨b,off,e,hb,h1⟩:=BR Yl.out.DC.2.2 (by omega)
           exact ⟨b,off,e,(KG.out b hb).1,(KG.out b hb).2,fun w' hT k hk=>(Ap hT KG.out b (off+k) hb).trans (h1 k (by omega))⟩
          have lc:Hid (0<nk→∃ b off,Avl=some ⟨b,off,none⟩∧b<CW.heap.size∧¬ Fw g st2 Ae ce A9 c9 Af cf b∧∀ w',Touch (Fw g st2 Ae ce A9 c9 Af cf) CW w'→∀ k,k<nk→w'.cell? ⟨b,off+k,none⟩=some (.string (Am (nth [] (nodeAt bs no).vals k)))):=fun hp=>by
           obtain ⟨b,off,e,hb,h1⟩:=He Ym.out.DC.2.2 (by omega)
           exact ⟨b,off,e,(KG.out b hb).1,(KG.out b hb).2,fun w' hT k hk=>(Ap hT KG.out b (off+k) hb).trans (h1 k (by omega))⟩
          have HHK:Hid (∀ i,i<nk→i<(nodeAt bs no).keys.length):=fun i hi=>by omega
          have ic:=qh hkl
          have AEe:st2.AO.length≤1000000000:=by have:=vB.out;have h2:=aa.out;unfold Ii at hwz this h2;omega
          have hsz0:CW.heap.size≤Jj.heap.size:=XU.out.size
          clear hkl hvl
          subst yD
          have AEf:=qh (RQ.Mq XU.out VT.out P7.out)
          go_wp2_with fail
          go_loopw [14] (fun vi wr=>∃ i:Nat,vi=.int .i64 i∧i≤nv∧Hid (KY CW wr g st2 { st2 with deep:=(nw:Int)+1,AO:=st2.AO++(BK (nodeAt bs no) no).take i } Ae ce A9 c9 Af cf xs)) (fun vi _=>nv-(intOf vi).toNat)
          case atStart=>exact ⟨0,rfl,Nat.zero_le _,qh ⟨Ae,ce,by rw [List.take_zero,List.append_nil];exact AAX.out,XU.out,fun y hy=>.inl (by rw [List.take_zero,List.append_nil] at hy;exact hy)⟩⟩
          case round =>
           obtain ⟨i,rfl,hi9,HR⟩:=hrel
           by_cases hlt:i<nv
           · obtain ⟨b,off,rfl,hb,hbR,hq⟩:=aQ.out (by omega)
             obtain ⟨b2,KD,rfl,hb2,uO,hq2⟩:=lc.out (by omega)
             have iM:=HL.out i (HHK.out i hlt)
             have htl:=eT.out i hi9
             have uP:(st2.AO++(BK (nodeAt bs no) no).take i).length≤1000001000:=by rw [List.length_append,htl];omega
             have Lp:Hid (∀ w',KY CW w' g st2 { st2 with deep:=(nw:Int)+1,AO:=(st2.AO++(BK (nodeAt bs no) no).take i)++[⟨nth 0 (nodeAt bs no).keys i,nth [] (nodeAt bs no).vals i,no⟩] } Ae ce A9 c9 Af cf xs→KY CW w' g st2 { st2 with deep:=(nw:Int)+1,AO:=st2.AO++(BK (nodeAt bs no) no).take (i+1) } Ae ce A9 c9 Af cf xs):=fun w' h=>by
              rw [iM,← List.append_assoc];exact h
             obtain ⟨es,hes⟩:∃ es,st2.AO++(BK (nodeAt bs no) no).take i=es:=⟨_,rfl⟩
             rw [hes] at HR Lp uP
             clear hes htl iM
             obtain ⟨Ae',ce',hrq,hT,hR⟩:=HR.out
             have q0:=hq wr hT i hlt
             have q1:=hq2 wr hT i hlt
             have HRR:=qh hrq
             have mE:=qh hT
             have HRX:=qh hR
             have hbn:=RQ.Mq hT VT.out P7.out
             have hbv:=RQ.Mq hT qc.out P6.out
             have n2:=hbn.at 2 _ rfl
             have n3:=hbn.at 3 _ rfl
             have v0:=hbv.at 0 _ rfl
             have nL:=hbn.lt
             have ag:=hbv.lt
             have y0:=hrq.cells.1
             have z0:=hrq.box.free 0
             dsimp only at y0
             have hil:(i:Int)<(nv:Int):=by omega
             have hsz:=hT.size
             have AAY:g<wr.heap.size:=hrq.box.lt
             have fU:b2<wr.heap.size:=by omega
             have hbw:b<wr.heap.size:=by omega
             have Ci:wr.ownsRow g 108 3 (.slice Ae' es.length ce') es.length (AB Cq es):=hrq.AO
             have hfa:some g≠(Value.slice Ae' es.length ce').ownBlock:=BC Ci hrq.box (by decide)
             have hfg:some gn≠(Value.slice Ae' es.length ce').ownBlock:=BC Ci hbn (by decide)
             have qW:some gv≠(Value.slice Ae' es.length ce').ownBlock:=BC Ci hbv (by decide)
             have dN:some b2≠(Value.slice Ae' es.length ce').ownBlock:=fun e=>(hR b2 (.inr (.inl e.symm))).elim uO (fun h=>by omega)
             have qA:some b≠(Value.slice Ae' es.length ce').ownBlock:=fun e=>(hR b (.inr (.inl e.symm))).elim hbR (fun h=>by omega)
             have HRE:=qh Ci
             have NW:Hid (∀ w':World,Below wr.heap.size wr w'→w'.cell? ⟨g,0,none⟩=some (.slice Ae' es.length ce')∧w'.cell? ⟨gn,3,none⟩=some (.slice (some ⟨b2,KD,none⟩) nv cvl)∧w'.cell? ⟨b2,KD+i,none⟩=some (.string (Am (nth [] (nodeAt bs no).vals i)))∧w'.cell? ⟨gv,0,none⟩=some (.int .i64 no)∧w'.cell? ⟨gn,2,none⟩=some (.slice (some ⟨b,off,none⟩) nv ck)∧w'.cell? ⟨b,off+i,none⟩=some (.int .i64 (nth 0 (nodeAt bs no).keys i))∧w'.frozen? ⟨g,0,none⟩=false):=fun w' hB=>⟨AQ hB AAY y0,AQ hB nL n3,AQ hB fU q1,AQ hB ag v0,AQ hB nL n2,AQ hB hbw q0,(hB.frozen (p:=⟨g,0,none⟩) AAY).trans z0⟩
             clear hq hq2 hrq hT hR Ci hbn hbv
             generalize nth 0 (nodeAt bs no).keys i=p at *
             generalize nth [] (nodeAt bs no).vals i=q at *
             go_upto_region 21 with fail
             refine AF (T:=fun j=>j==18) (S:=fun w'=>w'.cell? ⟨g,0,none⟩=some (.slice Ae' es.length ce')∧w'.cell? ⟨gn,3,none⟩=some (.slice (some ⟨b2,KD,none⟩) nv cvl)∧w'.cell? ⟨b2,KD+i,none⟩=some (.string (Am q))∧w'.cell? ⟨gv,0,none⟩=some (.int .i64 no)∧w'.cell? ⟨gn,2,none⟩=some (.slice (some ⟨b,off,none⟩) nv ck)∧w'.cell? ⟨b,off+i,none⟩=some (.int .i64 p)∧w'.frozen? ⟨g,0,none⟩=false) (by kernel_rfl) (NW.out wr.drew (Below.refl _ _).drew) (fun hHeld=>?_)
             refine qs 0 113 hHeld ?_
             refine qf 1 114 rfl rfl hHeld (by intro w hSw;have y0:=hSw.1;go_simp;(try with_reducible rfl)) ?_
             refine qs 2 115 hHeld ?_
             refine qf 3 116 rfl rfl hHeld (by intro w hSw;have n2:=hSw.2.2.2.2.1;go_simp;(try with_reducible rfl)) ?_
             refine qs 4 117 hHeld ?_
             refine qs 5 118 hHeld ?_
             refine qf 6 119 rfl rfl hHeld (by intro w hSw;have q0:=hSw.2.2.2.2.2.1;go_simp;(try with_reducible rfl)) ?_
             refine qs 7 120 hHeld ?_
             refine qf 8 121 rfl rfl hHeld (by intro w hSw;have n3:=hSw.2.1;go_simp;(try with_reducible rfl)) ?_
             refine qs 9 122 hHeld ?_
             refine qs 10 123 hHeld ?_
             refine qf 11 124 rfl rfl hHeld (by intro w hSw;have q1:=hSw.2.2.1;go_simp;(try with_reducible rfl)) ?_
             refine qs 12 125 hHeld ?_
             refine qf 13 126 rfl rfl hHeld (by intro w hSw;have v0:=hSw.2.2.2.1;go_simp;(try with_reducible rfl)) ?_
             refine qs 14 127 hHeld ?_
             refine qo 15 fun K hK=>?_
             go_simp
             clear hHeld
             have hHeld:=NW.out (wr.drew.alloc (.cells #[.int .i64 p,.string (Am q),.int .i64 no] 108)) ((Below.refl _ _).drew.alloc (by simp) _)
             refine hK.out _ _ (fun _=>hHeld) (fun _=>?_)
             clear hK K
             (try simp only [Act.put,qS])
             refine qo 16 fun K hK=>?_
             refine BD Tryz.underlying104 VG rfl (by omega) (by omega) rfl _ _ rfl g (.slice Ae' es.length ce') es.length (AB Cq es) rfl (HRE.out.drew.alloc _) (some ⟨wr.heap.size,0,none⟩) 1 1 [.int .i64 p,.string (Am q),.int .i64 no] rfl rfl (fun d hd=>by cases hd;exact Cm wr.drew [.int .i64 p,.string (Am q),.int .i64 no] 108) (Oo ⟨p,q,no⟩) (by omega) (by simp;omega) (by intro h;cases h) ?_
             intro A8 c8 w9 CZ Cu Fh
             have hHeld:=(show World.cell? w9 ⟨g,0,none⟩=some (.slice Ae' es.length ce')∧World.cell? w9 ⟨gn,3,none⟩=some (.slice (some ⟨b2,KD,none⟩) nv cvl)∧World.cell? w9 ⟨b2,KD+i,none⟩=some (.string (Am q))∧World.cell? w9 ⟨gv,0,none⟩=some (.int .i64 no)∧World.cell? w9 ⟨gn,2,none⟩=some (.slice (some ⟨b,off,none⟩) nv ck)∧World.cell? w9 ⟨b,off+i,none⟩=some (.int .i64 p)∧World.frozen? w9 ⟨g,0,none⟩=false from ⟨(Cu.cell_far ⟨g,0,none⟩ (by simp;omega) hfa).trans hHeld.1,(Cu.cell_far ⟨gn,3,none⟩ (by simp;omega) hfg).trans hHeld.2.1,(Cu.cell_far ⟨b2,KD+i,none⟩ (by simp;omega) dN).trans hHeld.2.2.1,(Cu.cell_far ⟨gv,0,none⟩ (by simp;omega) qW).trans hHeld.2.2.2.1,(Cu.cell_far ⟨gn,2,none⟩ (by simp;omega) hfg).trans hHeld.2.2.2.2.1,(Cu.cell_far ⟨b,off+i,none⟩ (by simp;omega) qA).trans hHeld.2.2.2.2.2.1,(Cu.frozen_far ⟨g,0,none⟩ (by simp;omega) hfa).trans hHeld.2.2.2.2.2.2⟩)
             refine hK.out _ _ (fun _=>hHeld) (fun _=>?_)
             clear hK K
             (try simp only [Act.put])
             refine qs 17 130 hHeld ?_
             refine qo 18 fun K hK=>?_
             have y0:=hHeld.1;have z0:=hHeld.2.2.2.2.2.2
             go_simp
             refine hK.out _ _ (fun h=>by cases h) (fun _=>?_)
             clear hK K hHeld
             (try simp only [Act.put,qS])
             refine qd ?_
             have Cu:World.grownBy (wr.drew.alloc (.cells #[.int .i64 p,.string (Am q),.int .i64 no] 108)) w9 (Value.slice Ae' es.length ce').ownBlock:=Cu
             have Fx:∀ y,(Value.slice A8 (es.length+1) c8).ownBlock=some y→(Value.slice Ae' es.length ce').ownBlock=some y∨(wr.drew.alloc (.cells #[.int .i64 p,.string (Am q),.int .i64 no] 108)).heap.size≤y:=fun y hy=>(Fh y hy).imp id (fun e=>Nat.le_of_eq e.symm)
             have nM:=qh (Lp.out _ (KY.step (x:=⟨p,q,no⟩) (A:=A8) (c:=c8) (w9:=w9) HRR.out mE.out HRX.out ((Below.refl _ _).drew.alloc (by simp) (.cells #[.int .i64 p,.string (Am q),.int .i64 no] 108)) (by show w9.ownsRow g 108 3 (.slice A8 (es.length+1) c8) (es.length+1) (AB Cq (es++[⟨p,q,no⟩]));rw [Ba];exact CZ) Cu Fx))
             clear Cu Fh CZ Fx hfa hfg qW dN qA n2 n3 q0 q1 y0 z0 v0
             go_wp2_with fail
             go_roundw
             case rel=>exact ⟨i+1,by go_num,by omega,nM⟩
             case measure=>simp [intOf];omega
           · obtain rfl:i=nv:=by omega
             obtain ⟨Ae3,ce3,nN,Vz,qi⟩:=HR.out
             rw [yA.out] at nN qi
             have n2:=(RQ.Mq Vz VT.out P7.out).at 2 _ rfl
             have P8:Hid (Yh w wr g bs tree fuel F A2 m (cq-1) { st2 with deep:=(nw:Int)+1,AO:=st2.AO++BK (nodeAt bs no) no } r Ae3 ce3 A9 c9 Af cf xs) :=
              Yh.next iZ.out VR.out hgw Nb.out vC.out HM.out (by omega) Vz qi nN (by rw [← um.out,ZM bs tree fuel ⟨no,lo,hi,way,0⟩ r st VP.out rfl (by show way.length≤16;rw [Kj.out];exact hw16) (by omega) (by show Bf bs tree st.deep way no lo hi=0;rw [← nK.out];exact HE.out) (lZ.out _ rfl),← KF.out,← I5.out,← Kj.out]) (by
               have e:Ii ({ st2 with deep:=(nw:Int)+1,AO:=st2.AO++BK (nodeAt bs no) no }:WS)=Ii st2+(BK (nodeAt bs no) no).length:=by unfold Ii;simp;omega
               have e2:=Fj (nodeAt bs no) no HLEN.out
               refine ⟨by show st2.Ju=false;rw [AAW.out,ut.out];exact VP.out,by show 0≤st2.looked;rw [VS.out,Nz.out];omega,.inl (by show st2.looked≤fuel;rw [VS.out,Nz.out];exact iV),?_,Ny.out⟩
               rw [e,e2,vB.out,aa.out]
               show _≤64*st2.looked+1
               rw [VS.out,Nz.out]
               have:=dR.out
               have:=VI.out
               push_cast
               omega)
             have XV:Gh wr g=st2.looked:=JB nN.cells.2.2.2.1
             clear nN Vz qi
             go_wp2_with fail
             go_roundw
             case rel=>exact ⟨A2,m,cq-1,_,r,Ae3,ce3,A9,c9,Af,cf,_,rfl,P8⟩
             case measure=>rw [XV,VS.out,Nz.out];simp [lenOf];omega
         · have lZ:Hid (∀ n:Nd,nodeAt bs no=n→¬ n.leaf=true):=fun n e=>by rw [← e];exact hlf
           have nA:(nodeAt bs no).leaf=false:=by simpa using hlf
           generalize (nodeAt bs no).leaf=lf at *
           subst nA
           clear hlf n0 n2 n3
           have v0:=P6.out.at 0 _ rfl
           have v3:=P6.out.at 3 _ rfl
           have ag:=P6.out.lt
           have NW:Hid (∀ w':World,Below CW.heap.size CW w'→World.cell? w' ⟨gv,3,none⟩=some (.slice Av nw cv)∧World.cell? w' ⟨gv,0,none⟩=some (.int .i64 no)):=fun w' hB=>⟨AQ hB ag v3,AQ hB ag v0⟩
           have Yn:Aa CW (Hz CW g g st2 Ae ce A9 c9 Af cf) (.slice Av nw cv) way:=XT.out
           have Ga:Hid (∀ d,Av=some d→∀ j u,(AB encI way)[j]? = some u→CW.cell? (d.add j)=some u∧(d.add j).block<CW.heap.size):=fun d e j u hu=>by
            subst e
            obtain ⟨b,off,f⟩:=d
            obtain ⟨b',off',hd,hbS,-⟩:=BR Yn.DC.2.2 (by have:j<(AB encI way).length:=(List.getElem?_eq_some_iff.1 hu).1;rw [Bw (size:=1) Bh] at this;omega)
            injection hd with hd
            injection hd with h1 h2 h3
            subst h1 h2 h3
            have:=UX Yn.DC.2.2 j u hu
            rw [show (⟨b,off,none⟩:Addr).add j=⟨b,off+j,none⟩ by simp [Addr.add]] at this ⊢
            exact ⟨this,hbS.2.1⟩
           have Z6:Hid (Av=none→nw=0):=fun e=>by
            by_cases h0:0<way.length
            · obtain ⟨b',off',hd,-⟩:=BR Yn.DC.2.2 h0
              rw [e] at hd
              cases hd
            · have:=Kj.out;omega
           have AEg:nw≤16:=hw16
           clear Yn
           have Yo:Hid (∀ (Ch:World) (A7:Option Addr) (c7:Nat),Ch.ownsRow CW.heap.size 3 1 (.slice A7 (nw+1) c7) (nw+1) (AB encI way++[.int .i64 no])→Hid (Aa Ch (C9 CW.heap.size Ch.heap.size) (.slice A7 (nw+1) c7) (way++[no]))):=fun Ch A7 c7 h1=>by
            have e:(way++[no]).length=nw+1:=by rw [List.length_append,Kj.out];rfl
            have h1:Ch.ownsRow CW.heap.size 3 1 (.slice A7 (nw+1) c7) (nw+1) (AB encI (way++[no])):=by rw [Ba];exact h1
            rw [← e] at h1 ⊢
            exact CF.own (enc:=encI) (d:=(0:Int)) Bh h1 (by omega)
           go_upto_region 22 with fail
           go_cut [15] (fun s15 wx=>∃ A7 c7,s15=.slice A7 (nw+1) c7∧Hid (Below CW.heap.size CW wx)∧Hid (Aa wx (C9 CW.heap.size wx.heap.size) (.slice A7 (nw+1) c7) (way++[no])))
           case first =>
            refine AF (T:=fun _=>false) (S:=fun w'=>Below CW.heap.size CW w') (by kernel_rfl) (Below.refl CW.heap.size CW).drew (fun hHeld=>?_)
            obtain ⟨BM,hw0⟩:∃ x,CW.drew=x:=⟨_,rfl⟩
            rw [hw0] at hHeld ⊢
            have AJ:Below CW.heap.size CW BM:=hHeld
            clear hHeld hw0
            refine qs 1 132 AJ ?_
            refine qf 2 133 rfl rfl AJ (by intro w2' hSw;have v3:=(NW.out _ hSw).1;go_simp;(try with_reducible rfl)) ?_
            refine qs 4 135 AJ ?_
            refine qf 5 136 rfl rfl AJ (by intro w2' hSw;have v0:=(NW.out _ hSw).2;go_simp;(try with_reducible rfl)) ?_
            refine F3 0 6 (oi:=_) (oj:=_) (by kernel_rfl) rfl rfl (fun K hK=>?_) (fun K hK=>?_)
            · skip
              go_simp
              obtain ⟨Bg,hwn⟩:∃ x,BM.alloc (.cells #[] 3)=x:=⟨_,rfl⟩
              have Co:Below BM.heap.size BM Bg:=by rw [← hwn];exact (Below.refl _ _).alloc (Nat.le_refl _) _
              have b0:AP Bg BM.heap.size #[] 3:=by rw [← hwn];exact AP.new BM #[] 3
              have ADF:BM.heap.size<Bg.heap.size:=by rw [← hwn];simp
              have AAZ:=AJ.size
              have AJ:=AJ.trans (Co.mono AJ.size)
              rw [hwn]
              clear hwn Co
              refine hK.out _ _ (fun _=>AJ) (fun _=>?_)
              clear hK K
              (try simp only [Act.put,qS,qZ,qU])
              refine F3 3 6 (oi:=_) (oj:=_) (by kernel_rfl) rfl rfl (fun K hK=>?_) (fun K hK=>?_)
              · skip
                refine BD Tryz.underlying29 Ej rfl (by omega) (by omega) rfl (.tmp 131) (.tmp 133) rfl CW.heap.size (.slice (some ⟨BM.heap.size,0,none⟩) 0 0) 0 [] rfl (Py b0 (by omega)) Av nw cv (AB encI way) rfl (by rw [Bw (size:=1) Bh,Kj.out]) (fun d hd j u hu=>by have h0:=Ga.out d hd j u hu;exact (AJ.cell h0.2).trans h0.1) (Lm way) (by omega) (by have:=AJ.size;omega) Z6.out ?_
                intro A8 c8 Cr ho hg hat
                have ho:=Pz ho
                rw [Nat.zero_add] at hat
                have hlo:∀ x,(Value.slice (some ⟨BM.heap.size,0,none⟩) 0 0).ownBlock=some x→BM.heap.size=x:=fun x hx=>by simpa [Value.ownBlock] using hx
                have AJ:=AJ.grown hg AJ.size (fun x hx=>by have:=hlo x hx;omega)
                clear hg hat hlo
                refine hK.out _ _ (fun _=>AJ) (fun _=>?_)
                clear hK K
                (try simp only [Act.put,qS,qZ,qU])
                (try simp only [Nat.zero_add])
                refine qo 6 fun K hK=>?_
                go_simp
                obtain ⟨Kh,hwn⟩:∃ x,Cr.alloc (.cells #[.int .i64 no] 3)=x:=⟨_,rfl⟩
                have Co:Below Cr.heap.size Cr Kh:=by rw [← hwn];exact (Below.refl _ _).alloc (Nat.le_refl _) _
                have b6:AP Kh Cr.heap.size #[.int .i64 no] 3:=by rw [← hwn];exact AP.new Cr #[.int .i64 no] 3
                have AAa:Cr.heap.size<Kh.heap.size:=by rw [← hwn];simp
                have qj:=AJ.size
                have ho:=own_below ho Co (Nat.le_refl _)
                have AJ:=AJ.trans (Co.mono AJ.size)
                rw [hwn]
                clear hwn Co
                refine hK.out _ _ (fun _=>AJ) (fun _=>?_)
                clear hK K
                (try simp only [Act.put,qS,qZ,qU])
                refine qo 7 fun K hK=>?_
                refine BD Tryz.underlying29 Ej rfl (by omega) (by omega) rfl (.tmp 134) (.tmp 137) rfl CW.heap.size (.slice A8 nw c8) nw (AB encI way) rfl ho (some ⟨Cr.heap.size,0,none⟩) 1 1 [.int .i64 no] rfl rfl (fun d hd=>by cases hd;exact TR b6) (by intro u hu;simp at hu;subst hu;rfl) (by omega) (by have:=AJ.size;omega) (by intro h;cases h) ?_
                intro A7 c7 GK ho2 hg hat
                have AJ:=AJ.grown hg AJ.size (fun x hx=>(ho.lt x hx).1)
                refine hK.out _ _ (fun _=>AJ) (fun _=>?_)
                clear hK K
                (try simp only [Act.put,qS,qZ,qU])
                refine qs 8 15 AJ ?_
                refine qd ?_
                go_wp2_with fail
                go_meet
                exact ⟨A7,c7,rfl,AJ,Yo.out GK A7 c7 ho2⟩
              · skip
                go_simp
                obtain ⟨Kk,hwn⟩:∃ x,Bg.alloc (.cells #[.int .i64 no] 3)=x:=⟨_,rfl⟩
                have Co:Below Bg.heap.size Bg Kk:=by rw [← hwn];exact (Below.refl _ _).alloc (Nat.le_refl _) _
                have b6:AP Kk Bg.heap.size #[.int .i64 no] 3:=by rw [← hwn];exact AP.new Bg #[.int .i64 no] 3
                have AAa:Bg.heap.size<Kk.heap.size:=by rw [← hwn];simp
                have qj:=AJ.size
                have b0:=b0.below Co b0.lt
                have AJ:=AJ.trans (Co.mono AJ.size)
                rw [hwn]
                clear hwn Co
                refine hK.out _ _ (fun _=>AJ) (fun _=>?_)
                clear hK K
                (try simp only [Act.put,qS,qZ,qU])
                refine qo 3 fun K hK=>?_
                refine BD Tryz.underlying29 Ej rfl (by omega) (by omega) rfl (.tmp 131) (.tmp 133) rfl CW.heap.size (.slice (some ⟨BM.heap.size,0,none⟩) 0 0) 0 [] rfl (Py b0 (by omega)) Av nw cv (AB encI way) rfl (by rw [Bw (size:=1) Bh,Kj.out]) (fun d hd j u hu=>by have h0:=Ga.out d hd j u hu;exact (AJ.cell h0.2).trans h0.1) (Lm way) (by omega) (by have:=AJ.size;omega) Z6.out ?_
                intro A8 c8 Uz ho hg hat
                have ho:=Pz ho
                rw [Nat.zero_add] at hat
                have hlo:∀ x,(Value.slice (some ⟨BM.heap.size,0,none⟩) 0 0).ownBlock=some x→BM.heap.size=x:=fun x hx=>by simpa [Value.ownBlock] using hx
                have b6:AP Uz Bg.heap.size _ 3:=(hg.block Bg.heap.size b6.lt (fun e=>by have:=hlo _ e.symm;omega)).trans b6
                have AJ:=AJ.grown hg AJ.size (fun x hx=>by have:=hlo x hx;omega)
                clear hg hat hlo
                refine hK.out _ _ (fun _=>AJ) (fun _=>?_)
                clear hK K
                (try simp only [Act.put,qS,qZ,qU])
                (try simp only [Nat.zero_add])
                refine qo 7 fun K hK=>?_
                refine BD Tryz.underlying29 Ej rfl (by omega) (by omega) rfl (.tmp 134) (.tmp 137) rfl CW.heap.size (.slice A8 nw c8) nw (AB encI way) rfl ho (some ⟨Bg.heap.size,0,none⟩) 1 1 [.int .i64 no] rfl rfl (fun d hd=>by cases hd;exact TR b6) (by intro u hu;simp at hu;subst hu;rfl) (by omega) (by have:=AJ.size;omega) (by intro h;cases h) ?_
                intro A7 c7 TH ho2 hg hat
                have AJ:=AJ.grown hg AJ.size (fun x hx=>(ho.lt x hx).1)
                refine hK.out _ _ (fun _=>AJ) (fun _=>?_)
                clear hK K
                (try simp only [Act.put,qS,qZ,qU])
                refine qs 8 15 AJ ?_
                refine qd ?_
                go_wp2_with fail
                go_meet
                exact ⟨A7,c7,rfl,AJ,Yo.out TH A7 c7 ho2⟩
            · skip
              go_simp
              obtain ⟨MI,hwn⟩:∃ x,BM.alloc (.cells #[.int .i64 no] 3)=x:=⟨_,rfl⟩
              have Co:Below BM.heap.size BM MI:=by rw [← hwn];exact (Below.refl _ _).alloc (Nat.le_refl _) _
              have b6:AP MI BM.heap.size #[.int .i64 no] 3:=by rw [← hwn];exact AP.new BM #[.int .i64 no] 3
              have AAa:BM.heap.size<MI.heap.size:=by rw [← hwn];simp
              have qj:=AJ.size
              have AJ:=AJ.trans (Co.mono AJ.size)
              rw [hwn]
              clear hwn Co
              refine hK.out _ _ (fun _=>AJ) (fun _=>?_)
              clear hK K
              (try simp only [Act.put,qS,qZ,qU])
              refine qo 0 fun K hK=>?_
              go_simp
              obtain ⟨iH,hwn⟩:∃ x,MI.alloc (.cells #[] 3)=x:=⟨_,rfl⟩
              have Co:Below MI.heap.size MI iH:=by rw [← hwn];exact (Below.refl _ _).alloc (Nat.le_refl _) _
              have b0:AP iH MI.heap.size #[] 3:=by rw [← hwn];exact AP.new MI #[] 3
              have ADF:MI.heap.size<iH.heap.size:=by rw [← hwn];simp
              have AAZ:=AJ.size
              have b6:=b6.below Co b6.lt
              have AJ:=AJ.trans (Co.mono AJ.size)
              rw [hwn]
              clear hwn Co
              refine hK.out _ _ (fun _=>AJ) (fun _=>?_)
              clear hK K
              (try simp only [Act.put,qS,qZ,qU])
              refine qo 3 fun K hK=>?_
              refine BD Tryz.underlying29 Ej rfl (by omega) (by omega) rfl (.tmp 131) (.tmp 133) rfl CW.heap.size (.slice (some ⟨MI.heap.size,0,none⟩) 0 0) 0 [] rfl (Py b0 (by omega)) Av nw cv (AB encI way) rfl (by rw [Bw (size:=1) Bh,Kj.out]) (fun d hd j u hu=>by have h0:=Ga.out d hd j u hu;exact (AJ.cell h0.2).trans h0.1) (Lm way) (by omega) (by have:=AJ.size;omega) Z6.out ?_
              intro A8 c8 uN ho hg hat
              have ho:=Pz ho
              rw [Nat.zero_add] at hat
              have hlo:∀ x,(Value.slice (some ⟨MI.heap.size,0,none⟩) 0 0).ownBlock=some x→MI.heap.size=x:=fun x hx=>by simpa [Value.ownBlock] using hx
              have b6:AP uN BM.heap.size _ 3:=(hg.block BM.heap.size b6.lt (fun e=>by have:=hlo _ e.symm;omega)).trans b6
              have AJ:=AJ.grown hg AJ.size (fun x hx=>by have:=hlo x hx;omega)
              clear hg hat hlo
              refine hK.out _ _ (fun _=>AJ) (fun _=>?_)
              clear hK K
              (try simp only [Act.put,qS,qZ,qU])
              (try simp only [Nat.zero_add])
              refine qo 7 fun K hK=>?_
              refine BD Tryz.underlying29 Ej rfl (by omega) (by omega) rfl (.tmp 134) (.tmp 137) rfl CW.heap.size (.slice A8 nw c8) nw (AB encI way) rfl ho (some ⟨BM.heap.size,0,none⟩) 1 1 [.int .i64 no] rfl rfl (fun d hd=>by cases hd;exact TR b6) (by intro u hu;simp at hu;subst hu;rfl) (by omega) (by have:=AJ.size;omega) (by intro h;cases h) ?_
              intro A7 c7 ADG ho2 hg hat
              have AJ:=AJ.grown hg AJ.size (fun x hx=>(ho.lt x hx).1)
              refine hK.out _ _ (fun _=>AJ) (fun _=>?_)
              clear hK K
              (try simp only [Act.put,qS,qZ,qU])
              refine qs 8 15 AJ ?_
              refine qd ?_
              go_wp2_with fail
              go_meet
              exact ⟨A7,c7,rfl,AJ,Yo.out ADG A7 c7 ho2⟩
           case rest =>
            rename World=>Ch
            obtain ⟨A7,c7,rfl,Db,ql⟩:=hcut
            clear Ga Z6 NW Yo v0 v3
            obtain ⟨ig,AAb⟩:=Nb.out.iR Db.out
            obtain ⟨P9,AD0,ADH,vD,AAc,AAd⟩:=Nb.out.carry (r:=r) (A2:=A2) (way:=way) (Av:=Av) (nw:=nw) (cv:=cv) ig AAb P6.out qc.out vC.out XT.out iZ.out VR.out hgw
            have qm:=qh (Nb.out.below Db.out)
            have QA:=qh (RQ.Mq ig VT.out P7.out)
            have AAe:Hid (∀ b,C9 CW.heap.size Ch.heap.size b→Hz Ch g g st2 Ae ce A9 c9 Af cf b):=fun b hb=>(DZ Nb.out Db.out).2.2 b hb.1 hb.2
            have lq:CW.heap.size≤Ch.heap.size:=Db.out.size
            have qp:Hid (Aa Ch (C9 w6.heap.size w8.heap.size) (.slice Ak nk ck) (nodeAt bs no).keys):=Yl.out.keep (AA _) (fun _ h=>h) (Ap ig (fun b hb=>KG.out b hb))
            have qx:Hid (Js Ch (C9 w6.heap.size w8.heap.size) (.slice Avl nv cvl) (nodeAt bs no).vals):=Ym.out.keep (AA _) (fun _ h=>h) (Ap ig (fun b hb=>KG.out b hb))
            have ADI:Hid (Aa Ch (Hz Ch g g st2 Ae ce A9 c9 Af cf) (.slice A7 (nw+1) c7) (way++[no])):=ql.out.sub (AA _) AAe.out
            clear ig AAb ql P6 vC XT iZ VR P7 Yl Ym
            have hkl:=qp.out.DC.1
            have hvl:=qx.out.DC.1
            have yD:nv=nk:=by have:=HLEN.out;omega
            have zw:nk≤18:=by have:=VI.out;omega
            have ic:=qh hkl
            have aU:=qh hvl
            obtain ⟨kids,qy⟩:∃ k,((spansOf hi (nodeAt bs no).keys).zip (nodeAt bs no).vals).map (Kc way no)=k:=⟨_,rfl⟩
            have Yp:=qh qy
            have n2:=QA.out.at 2 _ rfl
            clear qy hkl hvl
            subst yD
            go_wp2_with fail
            go_loopw [16,17] (fun vb vi wr=>∃ (i:Nat) (Abl:Option Addr) (cbl:Nat) (xsb:List Value),vb=.slice Abl i cbl∧vi=.int .i64 i∧i≤nv∧Hid (Below Ch.heap.size Ch wr)∧Hid (wr.ownsRow Ch.heap.size 285 5 (.slice Abl i cbl) i xsb)∧Hid (Bj Vs 5 Jy wr (Hz Ch g g st2 Ae ce A9 c9 Af cf) (kids.take i) xsb)) (fun _ vi _=>nv-(intOf vi).toNat)
            case atStart=>exact ⟨0,none,0,[],rfl,rfl,Nat.zero_le _,Below.refl _ _,World.ownsRow_nil _ _ _ _,by rw [List.take_zero];exact Bj.F4⟩
            case round =>
             obtain ⟨i,Abl,cbl,xsb,rfl,rfl,hi9,Cy,HOW,HCB⟩:=hrel
             by_cases hlt:i<nv
             · obtain ⟨b,off,rfl,hb,hq⟩:=He qx.out.DC.2.2 (by have:=aU.out;omega)
               have mH:b<Ch.heap.size:=by have:=(KG.out b hb).1;omega
               have q1:=AQ Cy.out mH (hq i (by have:=aU.out;omega))
               have hbn:=QA.out.below Cy.out QA.out.lt
               have hbv:=P9.out.below Cy.out P9.out.lt
               have n2:=hbn.at 2 _ rfl
               have n3:=hbn.at 3 _ rfl
               have nL:=hbn.lt
               have ag:=hbv.lt
               have hbw:b<wr.heap.size:=by have:=Cy.out.size;omega
               have hil:(i:Int)<(nv:Int):=by omega
               have nO:Hid (nth Jy kids i=Kc way no (nth (0,0) (spansOf hi (nodeAt bs no).keys) i,nth [] (nodeAt bs no).vals i)∧i<kids.length):=by
                rw [← Yp.out]
                exact iT way no i (by rw [Dj];have:=ic.out;omega) (by have:=aU.out;omega)
               have hv24:(nth [] (nodeAt bs no).vals i).length≤24:=LJ bs no _ (Bv [] _ i (by have:=aU.out;omega))
               obtain ⟨⟨x0,x1⟩,hx⟩:∃ x,Aj (nth [] (nodeAt bs no).vals i)=x:=⟨_,rfl⟩
               have HX:=qh hx
               have Lc:Hid (Calls Tryz.prog 47 #[.string (Am (nth [] (nodeAt bs no).vals i))] wr fun e w'=>e=.returned (.tuple #[.int .i64 x0,.int .i64 x1])∧Below wr.heap.size wr w'):=by
                have:=Kt wr (nth [] (nodeAt bs no).vals i) (by omega)
                rw [hx] at this
                exact this
               obtain ⟨q,hqq⟩:∃ q,nth [] (nodeAt bs no).vals i=q:=⟨_,rfl⟩
               rw [hqq] at q1 Lc HX nO
               clear hx hqq hq hv24 hbn hbv
               go_upto_region 28 with (go_at_call 47;refine Lc.out.mono ?_;rintro e qz ⟨rfl,ah⟩;have M5:=qh (Cy.out.trans (ah.mono Cy.out.size));have CL:=qh ah;clear ah)
               clear n2 n3 q1 nL ag hbw
               have AAf:=QA.out.lt
               have Yq:=P9.out.lt
               have hs4:=M5.out.size
               have nP:=qh (own_below HOW.out CL.out (Nat.le_refl _))
               have v0:=AQ M5.out Yq (P9.out.at 0 _ rfl)
               have v1:=AQ M5.out Yq (P9.out.at 1 _ rfl)
               have v2:=AQ M5.out Yq (P9.out.at 2 _ rfl)
               have v3:=AQ M5.out Yq (P9.out.at 3 _ rfl)
               have n2:=AQ M5.out AAf (QA.out.at 2 _ rfl)
               have yE:Hid (∀ wm w' cs (A:Option Addr) (c:Nat),Below wr.heap.size wr wm→cs.length=5→Vs Ch (Hz Ch g g st2 Ae ce A9 c9 Af cf) cs (nth Jy kids i)→wm.grownBy w' (Value.slice Abl i cbl).ownBlock →
                Hid (Below Ch.heap.size Ch w')∧Hid (Bj Vs 5 Jy w' (Hz Ch g g st2 Ae ce A9 c9 Af cf) (kids.take (i+1)) (xsb++cs))):=fun wm w' cs A c hBm hl hx hg=>by
                obtain ⟨g1,g2⟩:=grow_step Ei (fun b hb=>hb.2.1) Cy.out (Nat.le_refl _) HOW.out HCB.out hBm hl hx hg
                rw [DV Jy kids i nO.out.2]
                exact ⟨g1,g2⟩
               by_cases hx1:x1=0
               · subst hx1
                 obtain ⟨⟨p1,p2⟩,hp⟩:∃ x,nth (0,0) (spansOf hi (nodeAt bs no).keys) i=x:=⟨_,rfl⟩
                 have HCH:Hid (∀ wq,Below Ch.heap.size Ch wq→Calls Tryz.prog 171 #[.agg #[.int .i64 lo,.int .i64 hi],.slice Ak nv ck,.int .i64 i] wq fun e w'=>e=.returned (.tuple #[.agg #[.int .i64 p1,.int .i64 p2],.int .i64 0])∧Below wq.heap.size wq w'):=fun wq hB=>by
                  have:=Qk wq (C9 w6.heap.size w8.heap.size) lo hi Ak ck (nodeAt bs no).keys i (by have:=ic.out;omega) (fun b hb=>by have:=(KG.out b hb).1;have:=hB.size;omega) (qp.out.DC.2.2.keep (AA _) (fun _ h=>h) (AL hB (fun b hb=>by have:=(KG.out b hb).1;omega))) (by have:=VI.out;omega) (Rv HE.out (xP.out trivial))
                  rw [hp,← ic.out] at this
                  exact this
                 have HKV:Hid (nth Jy kids i=⟨x0,p1,p2,way++[no],0⟩):=by
                  show _=_
                  rw [nO.out.1,hp]
                  unfold Kc
                  dsimp only
                  rw [HX.out,if_neg (by simp)]
                 have kM:Hid (Vs Ch (Hz Ch g g st2 Ae ce A9 c9 Af cf) [.int .i64 x0,.int .i64 p1,.int .i64 p2,.slice A7 (nw+1) c7,.int .i64 0] ⟨x0,p1,p2,way++[no],0⟩):=by
                  have e:(way++[no]).length=nw+1:=by rw [List.length_append,Kj.out];rfl
                  exact ⟨A7,c7,by show [_,_,_,_,_]=[_,_,_,Value.slice A7 (way++[no]).length c7,_];rw [e],by show Aa _ _ (.slice A7 (way++[no]).length c7) _;rw [e];exact ADI.out⟩
                 have lM:Hid (∀ Yr:World,Hid (∀ d,some (⟨Yr.heap.size+1,0,none⟩:Addr)=some d→∀ j u,([.int .i64 x0,.int .i64 p1,.int .i64 p2,.slice A7 (nw+1) c7,.int .i64 0]:List Value)[j]? = some u→((Yr.alloc (.cells #[.int .i64 p1,.int .i64 p2] 283)).alloc (.cells #[.int .i64 x0,.int .i64 p1,.int .i64 p2,.slice A7 (nw+1) c7,.int .i64 0] 285)).cell? (d.add j)=some u)):=fun Yr d hd=>by
                  cases hd
                  have:=Cm (Yr.alloc (.cells #[.int .i64 p1,.int .i64 p2] 283)) [.int .i64 x0,.int .i64 p1,.int .i64 p2,.slice A7 (nw+1) c7,.int .i64 0] 285
                  rw [World.size_alloc] at this
                  exact this
                 clear hp
                 go_wp2_with (first|(go_at_call 171;refine (HCH.out _ M5.out).mono ?_;rintro e Yr ⟨rfl,nQ⟩;have ik:=qh (M5.out.trans (nQ.mono M5.out.size));have CE:=qh (CL.out.trans (nQ.mono CL.out.size));have AAg:=qh (own_below nP.out nQ (Nat.le_refl _));have hs5:=ik.out.size;have Nw:=lM.out Yr;clear nQ)|(at_builtin;go_loud (refine EI Tryz.underlying286 Ps rfl (by omega) (by omega) rfl _ _ rfl Ch.heap.size (.slice Abl i cbl) i xsb rfl ((AAg.out.alloc _).alloc _) (some ⟨Yr.heap.size+1,0,none⟩) 1 1 [.int .i64 x0,.int .i64 p1,.int .i64 p2,.slice A7 (nw+1) c7,.int .i64 0] rfl rfl (fun d hd=>Nw.out d hd) (SX Ch (Hz Ch g g st2 Ae ce A9 c9 Af cf) _ ⟨x0,p1,p2,way++[no],0⟩ kM.out) (by omega) (by simp;omega) (by intro h;cases h) ?_);intro A8 c8 rA KH VU VV;have VW:=qh KH;have il:=qh VU;clear KH VU VV))
                 have kX:Hid (Below wr.heap.size wr ((Yr.alloc (.cells #[.int .i64 p1,.int .i64 p2] 283)).alloc (.cells #[.int .i64 x0,.int .i64 p1,.int .i64 p2,.slice A7 (nw+1) c7,.int .i64 0] 285))):=(CE.out.alloc CE.out.size _).alloc (by have:=CE.out.size;simp;omega) _
                 obtain ⟨G1,G2⟩:=yE.out _ rA [.int .i64 x0,.int .i64 p1,.int .i64 p2,.slice A7 (nw+1) c7,.int .i64 0] A8 c8 kX.out rfl (by rw [HKV.out];exact kM.out) il.out
                 clear kX yE kM HKV AAg nP HCH v0 v1 v2 v3 n2
                 go_roundw
                 case rel=>exact ⟨i+1,A8,c8,_,rfl,by go_num,by omega,G1,VW,G2⟩
                 case measure=>simp [intOf];omega
               · have ADJ:(x1==0)=false:=by simpa using hx1
                 have AEh:(x1 != 0)=true:=by unfold bne;rw [ADJ];rfl
                 have HKV:Hid (nth Jy kids i=⟨no,0,0,way,x1⟩):=by
                  show _=_
                  rw [nO.out.1]
                  unfold Kc
                  dsimp only
                  rw [HX.out,if_pos hx1]
                 have kM:Hid (Vs Ch (Hz Ch g g st2 Ae ce A9 c9 Af cf) [.int .i64 no,.int .i64 0,.int .i64 0,.slice Av nw cv,.int .i64 x1] ⟨no,0,0,way,x1⟩) :=
                  ⟨Av,cv,by show [_,_,_,_,_]=[_,_,_,Value.slice Av way.length cv,_];rw [Kj.out],by show Aa _ _ (.slice Av way.length cv) _;rw [Kj.out];exact vD.out⟩
                 have Nw:Hid (∀ d,some (⟨qz.heap.size,0,none⟩:Addr)=some d→∀ j u,([.int .i64 no,.int .i64 0,.int .i64 0,.slice Av nw cv,.int .i64 x1]:List Value)[j]? = some u→(qz.alloc (.cells #[.int .i64 no,.int .i64 0,.int .i64 0,.slice Av nw cv,.int .i64 x1] 285)).cell? (d.add j)=some u):=fun d hd=>by
                  cases hd
                  exact Cm qz [.int .i64 no,.int .i64 0,.int .i64 0,.slice Av nw cv,.int .i64 x1] 285
                 clear hx1
                 go_wp2_with (at_builtin;go_loud (refine EI Tryz.underlying286 Ps rfl (by omega) (by omega) rfl _ _ rfl Ch.heap.size (.slice Abl i cbl) i xsb rfl (nP.out.alloc _) (some ⟨qz.heap.size,0,none⟩) 1 1 [.int .i64 no,.int .i64 0,.int .i64 0,.slice Av nw cv,.int .i64 x1] rfl rfl (fun d hd=>Nw.out d hd) (SX Ch (Hz Ch g g st2 Ae ce A9 c9 Af cf) _ ⟨no,0,0,way,x1⟩ kM.out) (by omega) (by simp;omega) (by intro h;cases h) ?_);intro A8 c8 rA KH VU VV;have VW:=qh KH;have il:=qh VU;clear KH VU VV)
                 have kX:Hid (Below wr.heap.size wr (qz.alloc (.cells #[.int .i64 no,.int .i64 0,.int .i64 0,.slice Av nw cv,.int .i64 x1] 285))):=CL.out.alloc CL.out.size _
                 obtain ⟨G1,G2⟩:=yE.out _ rA [.int .i64 no,.int .i64 0,.int .i64 0,.slice Av nw cv,.int .i64 x1] A8 c8 kX.out rfl (by rw [HKV.out];exact kM.out) il.out
                 clear kX yE kM HKV nP v0 v1 v2 v3 n2
                 go_roundw
                 case rel=>exact ⟨i+1,A8,c8,_,rfl,by go_num,by omega,G1,VW,G2⟩
                 case measure=>simp [intOf];omega
             · obtain rfl:i=nv:=by omega
               have xx:Hid (kids.length=i):=by
                show _=_
                rw [← Yp.out,List.length_map,List.length_zip,Dj,← ic.out,← aU.out]
                exact Nat.min_self _
               have AAh:Hid (Bj Vs 5 Jy wr (Hz Ch g g st2 Ae ce A9 c9 Af cf) kids xsb):=by
                have:=HCB.out
                rw [List.take_of_length_le (by rw [xx.out];exact Nat.le_refl _)] at this
                exact this
               obtain ⟨ys,hy1,hy2,hy3⟩:=nI (ADH.out.keep Ei (fun _ h=>h) (AL Cy.out (fun b hb=>hb.2.1)))
               have xg:=qh hy1
               have HY2:=qh hy2
               have HY3:=qh hy3
               have hyl:ys.length=m*5:=by rw [hy1.1,HM.out]
               have HYL:=qh hyl
               have XQ:=Cy.out.size
               have n2:=(QA.out.below Cy.out QA.out.lt).at 2 _ rfl
               clear hy1 hy2 hy3 hyl
               go_wp2_with (at_builtin;go_loud (refine EI Tryz.underlying286 Ps rfl (by omega) (by omega) rfl _ _ rfl Ch.heap.size (.slice Abl i cbl) i xsb rfl HOW.out A2 m (cq-1) ys rfl HYL.out HY2.out (xg.out.one SX) (by omega) XQ (fun h=>by rw [← HM.out];exact HY3.out h) ?_);intro A8 c8 rA KH VU VV;have VW:=qh KH;have il:=qh VU;clear KH VU VV)
               have DU:Hid (Below Ch.heap.size Ch rA):=Cy.out.trans ((Touch.BO (R:=fun x=>Ch.heap.size≤x) il.out (fun x hx=>(HOW.out.lt x hx).1)).below (fun x h=>h) XQ)
               have HCC:Hid (Bj Vs 5 Jy rA (Hz Ch g g st2 Ae ce A9 c9 Af cf) (kids++r) (xsb++ys)) :=
                (AAh.out.keep Ei (fun _ h=>h) (Mh Cy.out DU.out (fun b hb=>hb.2.1))).WH (xg.out.keep Ei (fun _ h=>h) (Mh Cy.out DU.out (fun b hb=>hb.2.1)))
               have P8:Hid (Yh w rA g bs tree fuel F A8 (i+m) c8 st2 (kids++r) Ae ce A9 c9 Af cf xs) :=
                Yh.inner AAc.out AAd.out qm.out DU.out VW.out HCC.out (by rw [List.length_append,xx.out,HM.out])
                 (by
                  rw [← um.out,WF bs tree fuel ⟨no,lo,hi,way,0⟩ r st VP.out rfl (by show way.length≤16;rw [Kj.out];exact hw16) (by omega) (by show Bf bs tree st.deep way no lo hi=0;rw [← nK.out];exact HE.out) (lZ.out _ rfl),← KF.out,← I5.out,← Yp.out])
                 (by
                  refine ⟨by rw [AAW.out,ut.out];exact VP.out,by rw [VS.out,Nz.out];omega,.inl (by rw [VS.out,Nz.out];exact iV),?_,fun v hv=>?_⟩
                  · rw [vB.out,aa.out,VS.out,Nz.out,List.length_append,xx.out]
                    have:=dR.out
                    push_cast
                    omega
                  · rcases List.mem_append.1 hv with hv|hv
                    · rw [← Yp.out] at hv
                      exact aX HE.out (xP.out trivial) v hv
                    · exact Ny.out v hv)
               have XV:Gh rA g=st2.looked:=JB (qm.out.below DU.out).cells.2.2.2.1
               clear xg HY2 HY3 HYL AAh HCC DU
               go_roundw
               case rel=>exact ⟨A8,i+m,c8,st2,kids++r,Ae,ce,A9,c9,Af,cf,xs,rfl,P8⟩
               case measure=>rw [XV,VS.out,Nz.out];simp [lenOf];omega
       ·
        have mO:(E==0)=false:=by simpa using hE0
        have hEn:(E != 0)=true:=by unfold bne;rw [mO];rfl
        obtain ⟨rfl,hfi⟩:=HF8.out hE0
        have ADK:Hid (Aa w8.drew (Hz w8.drew g g st1 Ae ce Ab cb Af cf) (.slice Afl 1 cfl) [no]):=hfi.keep (AA _) (fun b hb=>uz.out b hb) (CS.refl)
        have AAi:=qI
        have XJ:=qh hE0
        have HFL:=Hr.out.AR
        have E5:=Hr.out.box.lt
        have y4:=Hr.out.cells.2.2.2.2
        have z4:=Hr.out.box.free 4
        have AC9:st1.AR.length≤1000000000:=by have:=aa.out;unfold Ii at hwz this;omega
        have hfa:some g≠(Value.slice Af st1.AR.length cf).ownBlock:=BC HFL Hr.out.box (by decide)
        have qW:some gv≠(Value.slice Af st1.AR.length cf).ownBlock:=fun e=>uu.out (.inr (.inr (.inr e.symm)))
        have lw:some gf≠(Value.slice Af st1.AR.length cf).ownBlock:=fun e=>kW.out (.inr (.inr (.inr e.symm)))
        clear hfi hE0 hgf HGN kW qb HF8
        go_upto_region 14 with fail
        have NW:Hid (∀ w':World,Below w8.heap.size w8 w'→AP w' gv #[.int .i64 no,.int .i64 lo,.int .i64 hi,.slice Av nw cv,.int .i64 0] 285∧w'.cell? ⟨g,4,none⟩=some (.slice Af st1.AR.length cf)∧w'.frozen? ⟨g,4,none⟩=false∧AP w' gf #[.slice Afl 1 cfl,.int .i64 E] 78):=fun w' hB=>⟨iX.out.below hB iX.out.lt,AQ hB Hr.out.box.lt Hr.out.cells.2.2.2.2,(hB.frozen (p:=⟨g,4,none⟩) Hr.out.box.lt).trans (Hr.out.box.free 4),AAi.out.below hB AAi.out.lt⟩
        have VQ:Hid (∀ wq A3 c3,Below w8.heap.size w8 wq→Aa wq (Hz wq g g st1 Ae ce Ab cb Af cf) (.slice A3 1 c3) [no]→Calls Tryz.prog 169 #[.slice Av nw cv,.agg #[.slice A3 1 c3,.int .i64 E]] wq fun e w'=>(∃ A4 c4,e=.returned (.agg #[.slice A4 (nw+1) c4,.int .i64 E])∧Aa w' (Hz w' g g st1 Ae ce Ab cb Af cf) (.slice A4 (nw+1) c4) (way++[no]))∧Below wq.heap.size wq w'):=fun wq A3 c3 hB hi=>by
         obtain ⟨k1,k2,k3⟩:=DZ Hr.out hB
         have Zj:=iY.out
         have YJ:Aa wq (Hz wq g g st1 Ae ce Ab cb Af cf) (.slice Av nw cv) way:=Zj.keep (AA _) k1 k2
         rw [← Kj.out] at YJ ⊢
         refine (Mx wq (Hz wq g g st1 Ae ce Ab cb Af cf) Av A3 cv c3 way ⟨[no],E⟩ (fun b hb=>hb.2.1) YJ.DC.2.2 hi (by rw [Kj.out];omega) (by simp) XJ.out).mono fun e w' ⟨⟨v,he,hr⟩,hB2⟩=>?_
         obtain ⟨A4,c4,rfl,h4⟩:=hr
         have hlen:(way++[no]).length=way.length+1:=by simp
         dsimp only at he h4
         rw [hlen] at he h4
         obtain ⟨j1,j2,j3⟩:=DZ (Hr.out.below hB) hB2
         exact ⟨⟨A4,c4,he,h4.sub (AA _) (fun b hb=>hb.elim (fun h=>j1 b h) (fun h=>j3 b h.1 h.2))⟩,hB2⟩
        refine AF (T:=fun j=>j==9) (S:=fun w'=>AP w' gv #[.int .i64 no,.int .i64 lo,.int .i64 hi,.slice Av nw cv,.int .i64 0] 285∧w'.cell? ⟨g,4,none⟩=some (.slice Af st1.AR.length cf)∧w'.frozen? ⟨g,4,none⟩=false∧AP w' gf #[.slice Afl 1 cfl,.int .i64 E] 78) (by kernel_rfl) (NW.out w8.drew (Below.refl _ _).drew) (fun hHeld=>?_)
        refine qs 0 83 hHeld ?_
        refine qf 1 84 rfl rfl hHeld (by intro w hSw;have y4:=hSw.2.1;go_simp;(try with_reducible rfl)) ?_
        refine qs 2 85 hHeld ?_
        refine qf 3 86 rfl rfl hHeld (by intro w hSw;have v3:=hSw.1.at 3 _ rfl;go_simp;(try with_reducible rfl)) ?_
        refine qf 4 87 rfl rfl hHeld (by intro w hSw;have q0:=hSw.2.2.2.at 0 _ rfl;have q1:=hSw.2.2.2.at 1 _ rfl;go_simp;(try with_reducible rfl)) ?_
        refine qo 5 fun K hK=>?_
        go_simp
        refine (VQ.out w8.drew Afl cfl (Below.refl _ _).drew ADK.out).mono ?_
        rintro e IY ⟨⟨A4,c4,rfl,hi4⟩,LQ⟩
        have EE:=qh ((Below.refl w8.heap.size w8).drew.trans LQ)
        have HI4:=qh hi4
        clear hi4 LQ
        have hHeld:=NW.out IY EE.out
        refine hK.out _ _ (fun _=>hHeld) (fun _=>?_)
        clear hK K
        (try simp only [Act.put,qS])
        refine qo 6 fun K hK=>?_
        go_simp
        clear hHeld
        have hHeld:=NW.out (IY.alloc (.cells #[.slice A4 (nw+1) c4,.int .i64 E] 78)) (EE.out.alloc EE.out.size _)
        refine hK.out _ _ (fun _=>hHeld) (fun _=>?_)
        clear hK K
        (try simp only [Act.put,qS])
        refine qo 7 fun K hK=>?_
        refine BD Tryz.underlying143 Pv rfl (by omega) (by omega) rfl _ _ rfl g (.slice Af st1.AR.length cf) st1.AR.length xs rfl ((Hr.out.below EE.out).AR.alloc _) (some ⟨IY.heap.size,0,none⟩) 1 1 [.slice A4 (nw+1) c4,.int .i64 E] rfl rfl (fun d hd=>by cases hd;exact Cm IY [.slice A4 (nw+1) c4,.int .i64 E] 78) (Pw _ _ _ _) (by omega) (by have:=EE.out.size;simp;omega) (by intro h;cases h) ?_
        intro A9 c9 w9 CZ Cu Fh
        have hHeld:=(show AP w9 gv #[.int .i64 no,.int .i64 lo,.int .i64 hi,.slice Av nw cv,.int .i64 0] 285∧World.cell? w9 ⟨g,4,none⟩=some (.slice Af st1.AR.length cf)∧World.frozen? w9 ⟨g,4,none⟩=false∧AP w9 gf #[.slice Afl 1 cfl,.int .i64 E] 78 from ⟨(Cu.block gv hHeld.1.lt qW).trans hHeld.1,(Cu.cell_far ⟨g,4,none⟩ (by have:=EE.out.size;simp;omega) hfa).trans hHeld.2.1,(Cu.frozen_far ⟨g,4,none⟩ (by have:=EE.out.size;simp;omega) hfa).trans hHeld.2.2.1,(Cu.block gf hHeld.2.2.2.lt lw).trans hHeld.2.2.2⟩)
        refine hK.out _ _ (fun _=>hHeld) (fun _=>?_)
        clear hK K
        (try simp only [Act.put])
        refine qs 8 91 hHeld ?_
        refine qo 9 fun K hK=>?_
        have y4:=hHeld.2.1;have z4:=hHeld.2.2.1
        go_simp
        refine hK.out _ _ (fun h=>by cases h) (fun _=>?_)
        clear hK K hHeld
        (try simp only [Act.put,qS])
        refine qd ?_
        have qX:=EE.out.alloc EE.out.size (.cells #[.slice A4 (nw+1) c4,.int .i64 E] 78)
        obtain ⟨q1,q2,q3⟩:=Hr.out.ul (wc:=(IY.alloc (.cells #[.slice A4 (nw+1) c4,.int .i64 E] 78))) (f:=⟨way++[no],E⟩) qX rfl CZ Cu (fun y hy=>(Fh y hy).imp id (fun e=>Nat.le_of_eq e.symm)) ⟨A4,c4,by
         show [Value.slice A4 (nw+1) c4,Value.int .i64 E]=[Value.slice A4 (way++[no]).length c4,Value.int .i64 E]
         rw [List.length_append,List.length_singleton,Kj.out],by
         show Aa _ _ (.slice A4 (way++[no]).length c4) (way++[no])
         rw [List.length_append,List.length_singleton,Kj.out]
         obtain ⟨j1,j2,_⟩:=DZ (Hr.out.below EE.out) ((Below.refl IY.heap.size IY).alloc (Nat.le_refl _) (.cells #[.slice A4 (nw+1) c4,.int .i64 E] 78))
         exact HI4.out.keep (AA _) j1 j2⟩
        have Q1:=qh q1
        have Q2:=qh q2
        have Q3:=qh q3
        clear q1 q2 q3 qX CZ Cu Fh hHeld
        generalize w9.setCell ⟨g,4,none⟩ (.slice A9 (st1.AR.length+1) c9)=CW at *
        have P8:Hid (Yh w CW g bs tree fuel F A2 m (cq-1) (Ad st1 ⟨way++[no],E⟩) r Ae ce Ab cb A9 c9 (xs++[.slice A4 (nw+1) c4,.int .i64 E])) :=
         Yh.next uw.out uy.out hgw Hr.out qa.out HM.out (by omega) Q2.out Q3.out Q1.out (by rw [← um.out,ZL bs tree fuel ⟨no,lo,hi,way,0⟩ r st VP.out rfl (by show way.length≤16;rw [Kj.out];exact hw16) (by omega) (by show Bf bs tree st.deep way no lo hi≠0;rw [← nK.out,HE.out];exact XJ.out),I5.out];show _=EO _ _ _ _ (Ad st1 ⟨way++[no],Bf bs tree st.deep way no lo hi⟩);rw [← nK.out,HE.out]) (iQ (by rw [ut.out];exact VP.out) (by rw [Nz.out];omega) (.inl (by rw [Nz.out];exact iV)) (by rw [aa.out,Nz.out];have:=dR.out;omega) Ny.out)
        have XV:Gh CW g=st1.looked:=JB Q1.out.cells.2.2.2.1
        clear Q1 Q2 Q3 NW VQ
        go_wp2_with fail
        go_roundw
        case rel=>exact ⟨A2,m,cq-1,_,r,Ae,ce,Ab,cb,A9,c9,_,rfl,P8⟩
        case measure=>rw [XV,Nz.out];simp [lenOf];omega
   ·
    have ADL:(ft==0)=false:=by simpa using hft
    have AEi:(ft != 0)=true:=by unfold bne;rw [ADL];rfl
    have XJ:=qh hft
    obtain ⟨y0,y1,y2,y3,y4⟩:=EU.out.cells
    have z4:=EU.out.box.free 4
    have hg5:=EU.out.box.lt
    have HFL:=EU.out.AR
    have hfa:some g≠(Value.slice Af st.AR.length cf).ownBlock:=BC HFL EU.out.box (by decide)
    have qW:some gv≠(Value.slice Af st.AR.length cf).ownBlock:=fun e=>YN.out (.inr (.inr (.inr e.symm)))
    clear hft y0 y1 y2 y3 v1 v2
    go_upto_region 7 with fail
    have NW:Hid (∀ w':World,Below w5.heap.size w5 w'→AP w' gv #[.int .i64 no,.int .i64 lo,.int .i64 hi,.slice Av nw cv,.int .i64 ft] 285∧w'.cell? ⟨g,4,none⟩=some (.slice Af st.AR.length cf)∧w'.frozen? ⟨g,4,none⟩=false):=fun w' hB=>⟨uo.out.below hB uo.out.lt,AQ hB EU.out.box.lt EU.out.cells.2.2.2.2,(hB.frozen (p:=⟨g,4,none⟩) EU.out.box.lt).trans (EU.out.box.free 4)⟩
    have VQ:Hid (∀ wq A3 c3,Below w5.heap.size w5 wq→Aa wq (Hz wq g g st Ae ce Ab cb Af cf) (.slice A3 1 c3) [no]→Calls Tryz.prog 169 #[.slice Av nw cv,.agg #[.slice A3 1 c3,.int .i64 ft]] wq fun e w'=>(∃ A4 c4,e=.returned (.agg #[.slice A4 (nw+1) c4,.int .i64 ft])∧Aa w' (Hz w' g g st Ae ce Ab cb Af cf) (.slice A4 (nw+1) c4) (way++[no]))∧Below wq.heap.size wq w'):=fun wq A3 c3 hB hi=>by
     obtain ⟨k1,k2,k3⟩:=DZ EU.out hB
     have Zj:=Yi.out
     have YJ:Aa wq (Hz wq g g st Ae ce Ab cb Af cf) (.slice Av nw cv) way:=Zj.keep (AA _) k1 k2
     rw [← Kj.out] at YJ ⊢
     refine (Mx wq (Hz wq g g st Ae ce Ab cb Af cf) Av A3 cv c3 way ⟨[no],ft⟩ (fun b hb=>hb.2.1) YJ.DC.2.2 hi (by rw [Kj.out];omega) (by simp) XJ.out).mono fun e w' ⟨⟨v,he,hr⟩,hB2⟩=>?_
     obtain ⟨A4,c4,rfl,h4⟩:=hr
     have hlen:(way++[no]).length=way.length+1:=by simp
     dsimp only at he h4
     rw [hlen] at he h4
     obtain ⟨j1,j2,j3⟩:=DZ (EU.out.below hB) hB2
     exact ⟨⟨A4,c4,he,h4.sub (AA _) (fun b hb=>hb.elim (fun h=>j1 b h) (fun h=>j3 b h.1 h.2))⟩,hB2⟩
    have JQ:=qh (Gw w5.drew no ft XJ.out)
    refine AF (T:=fun j=>j==13) (S:=fun w'=>AP w' gv #[.int .i64 no,.int .i64 lo,.int .i64 hi,.slice Av nw cv,.int .i64 ft] 285∧w'.cell? ⟨g,4,none⟩=some (.slice Af st.AR.length cf)∧w'.frozen? ⟨g,4,none⟩=false) (by kernel_rfl) (NW.out w5.drew (Below.refl _ _).drew) (fun hHeld=>?_)
    refine qs 0 38 hHeld ?_
    refine qf 1 39 rfl rfl hHeld (by intro w hSw;have y4:=hSw.2.1;go_simp;(try with_reducible rfl)) ?_
    refine qs 2 40 hHeld ?_
    refine qf 3 41 rfl rfl hHeld (by intro w hSw;have v3:=hSw.1.at 3 _ rfl;go_simp;(try with_reducible rfl)) ?_
    refine qs 4 42 hHeld ?_
    refine qf 5 43 rfl rfl hHeld (by intro w hSw;have v0:=hSw.1.at 0 _ rfl;go_simp;(try with_reducible rfl)) ?_
    refine qs 6 44 hHeld ?_
    refine qf 7 45 rfl rfl hHeld (by intro w hSw;have v4:=hSw.1.at 4 _ rfl;go_simp;(try with_reducible rfl)) ?_
    refine qo 8 fun K hK=>?_
    go_simp
    refine (JQ.out).mono ?_
    rintro e Ch ⟨⟨A3,c3,rfl,hi3⟩,Fg⟩
    have Db:=qh ((Below.refl w5.heap.size w5).drew.trans Fg)
    have HI3:=qh hi3
    clear hi3 Fg
    have hHeld:=NW.out Ch Db.out
    refine hK.out _ _ (fun _=>hHeld) (fun _=>?_)
    clear hK K
    (try simp only [Act.put,qS])
    refine qo 9 fun K hK=>?_
    go_simp
    refine (VQ.out Ch A3 c3 Db.out (HI3.out.sub (AA _) (fun b hb=>(DZ EU.out Db.out).2.2 b hb.1 hb.2))).mono ?_
    rintro e IY ⟨⟨A4,c4,rfl,hi4⟩,LQ⟩
    have EE:=qh (Db.out.trans (LQ.mono Db.out.size))
    have HI4:=qh hi4
    clear hi4 LQ
    have hHeld:=NW.out IY EE.out
    refine hK.out _ _ (fun _=>hHeld) (fun _=>?_)
    clear hK K
    (try simp only [Act.put,qS])
    refine qo 10 fun K hK=>?_
    go_simp
    clear hHeld
    have hHeld:=NW.out (IY.alloc (.cells #[.slice A4 (nw+1) c4,.int .i64 ft] 78)) (EE.out.alloc EE.out.size _)
    refine hK.out _ _ (fun _=>hHeld) (fun _=>?_)
    clear hK K
    (try simp only [Act.put,qS])
    refine qo 11 fun K hK=>?_
    refine BD Tryz.underlying143 Pv rfl (by omega) (by omega) rfl _ _ rfl g (.slice Af st.AR.length cf) st.AR.length xs rfl ((EU.out.below EE.out).AR.alloc _) (some ⟨IY.heap.size,0,none⟩) 1 1 [.slice A4 (nw+1) c4,.int .i64 ft] rfl rfl (fun d hd=>by cases hd;exact Cm IY [.slice A4 (nw+1) c4,.int .i64 ft] 78) (Pw _ _ _ _) (by omega) (by have:=EE.out.size;simp;omega) (by intro h;cases h) ?_
    intro A9 c9 w9 CZ Cu Fh
    have hHeld:=(show AP w9 gv #[.int .i64 no,.int .i64 lo,.int .i64 hi,.slice Av nw cv,.int .i64 ft] 285∧World.cell? w9 ⟨g,4,none⟩=some (.slice Af st.AR.length cf)∧World.frozen? w9 ⟨g,4,none⟩=false from ⟨(Cu.block gv hHeld.1.lt qW).trans hHeld.1,(Cu.cell_far ⟨g,4,none⟩ (by have:=EE.out.size;simp;omega) hfa).trans hHeld.2.1,(Cu.frozen_far ⟨g,4,none⟩ (by have:=EE.out.size;simp;omega) hfa).trans hHeld.2.2⟩)
    refine hK.out _ _ (fun _=>hHeld) (fun _=>?_)
    clear hK K
    (try simp only [Act.put])
    refine qs 12 50 hHeld ?_
    refine qo 13 fun K hK=>?_
    have y4:=hHeld.2.1;have z4:=hHeld.2.2
    go_simp
    refine hK.out _ _ (fun h=>by cases h) (fun _=>?_)
    clear hK K hHeld
    (try simp only [Act.put,qS])
    refine qd ?_
    have qX:=EE.out.alloc EE.out.size (.cells #[.slice A4 (nw+1) c4,.int .i64 ft] 78)
    obtain ⟨q1,q2,q3⟩:=EU.out.ul (wc:=(IY.alloc (.cells #[.slice A4 (nw+1) c4,.int .i64 ft] 78))) (f:=⟨way++[no],ft⟩) qX rfl CZ Cu (fun y hy=>(Fh y hy).imp id (fun e=>Nat.le_of_eq e.symm)) ⟨A4,c4,by
     show [Value.slice A4 (nw+1) c4,Value.int .i64 ft]=[Value.slice A4 (way++[no]).length c4,Value.int .i64 ft]
     rw [List.length_append,List.length_singleton,Kj.out],by
     show Aa _ _ (.slice A4 (way++[no]).length c4) (way++[no])
     rw [List.length_append,List.length_singleton,Kj.out]
     obtain ⟨j1,j2,_⟩:=DZ (EU.out.below EE.out) ((Below.refl IY.heap.size IY).alloc (Nat.le_refl _) (.cells #[.slice A4 (nw+1) c4,.int .i64 ft] 78))
     exact HI4.out.keep (AA _) j1 j2⟩
    have Q1:=qh q1
    have Q2:=qh q2
    have Q3:=qh q3
    clear q1 q2 q3 qX CZ Cu Fh hHeld
    generalize w9.setCell ⟨g,4,none⟩ (.slice A9 (st.AR.length+1) c9)=CW at *
    have P8:Hid (Yh w CW g bs tree fuel F A2 m (cq-1) (Ad st ⟨way++[no],ft⟩) r Ae ce Ab cb A9 c9 (xs++[.slice A4 (nw+1) c4,.int .i64 ft])) :=
     Yh.next nJ.out iU.out hgw EU.out qV.out HM.out (by omega) Q2.out Q3.out Q1.out (by rw [← um.out];exact (WE bs tree fuel ⟨no,lo,hi,way,ft⟩ r st VP.out XJ.out).symm) (iQ VP.out AC8 AAH dR.out Ny.out)
    have XV:Gh CW g=st.looked:=JB Q1.out.cells.2.2.2.1
    clear Q1 Q2 Q3 NW VQ JQ
    go_wp2_with fail
    go_roundw
    case rel=>exact ⟨A2,m,cq-1,_,r,Ae,ce,Ab,cb,A9,c9,_,rfl,P8⟩
    case measure=>rw [XV];simp [lenOf]
end
end Go.Proofs.YtpenklpdjpkigaaGreat
