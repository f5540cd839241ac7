/- A part of the proof: WHunt1. -/
import Derived.Test.YtpenklpdjpkigaaGreatX12
import Derived.Test.YtpenklpdjpkigaaGreatX26
import Derived.Test.YtpenklpdjpkigaaGreatY14
import Derived.Test.YtpenklpdjpkigaaGreatY2
import Derived.Test.YtpenklpdjpkigaaGreatY4
import Derived.Test.YtpenklpdjpkigaaGreatX11
import Derived.Deep.Cut
import Derived.Deep.DeepCutAuto
import Derived.Test.YtpenklpdjpkigaaGreatY1
set_option maxHeartbeats 6400000
set_option linter.unusedVariables false
set_option linter.unusedSimpArgs false
namespace Go.Proofs.YtpenklpdjpkigaaGreat
section
open Go.RowKit Go.Shelf
attribute [local go_sem] Oper.semAt_some
set_option maxRecDepth 100000 in
theorem jo (w:World) (S:Nat→Prop) (img g:Nat) (bs:List UInt8) (fuel root:Int) (u:Value) (hS:∀ b,S b→b<w.heap.size) (h:Cj w S img bs) (hl:bs.length≤140737488355328) (hf:fuel≤9999999) (hg:AP w g #[.pointer (some ⟨img,0,none⟩),.int .i64 fuel,u] 103) :
 Calls Tryz.prog 84 #[.pointer (some ⟨g,0,none⟩),.int .i64 root] w fun e w'=>(∃ v,e=.returned v∧M8 w' w.heap.size bs fuel root v)∧Below w.heap.size w w':=by
 have rq:=qh (fun w' (hB:Below w.heap.size w w')=>M4 w' S img bs root 2 fuel (fun b hb=>Nat.lt_of_lt_of_le (hS b hb) hB.size) (h.below hB hS) hl hf)
 have HGM:Hid (∀ w',Below w.heap.size w w'→w'.cell? ⟨g,0,none⟩=some (.pointer (some ⟨img,0,none⟩))):=fun w' hB=>(hg.below hB hg.lt).at 0 _ rfl
 have kW:Hid (∀ w',Below w.heap.size w w'→w'.cell? ⟨g,1,none⟩=some (.int .i64 fuel)):=fun w' hB=>(hg.below hB hg.lt).at 1 _ rfl
 have hgl:=hg.lt
 have J4:=qh (GM bs root 2 fuel)
 have YU:Hid (FK bs root fuel=if (BJ (Az bs root 2 fuel)).code≠0 then (-1:Int) else if Qx (Az bs root 2 fuel).AO=true then (-1:Int) else ((Az bs root 2 fuel).AO.length:Int)):=rfl
 have HRM:Hid (Gg bs fuel root=(Az bs root 2 fuel).AO.map mapOf):=rfl
 have dQ:=qh (Ht bs root 2 fuel hf)
 unfold M8
 obtain ⟨st,hst⟩:∃ st,Az bs root 2 fuel=st:=⟨_,rfl⟩
 rw [hst] at rq J4 YU HRM dQ
 obtain ⟨F,hF⟩:∃ F,FK bs root fuel=F:=⟨_,rfl⟩
 obtain ⟨M,hM⟩:∃ M,Gg bs fuel root=M:=⟨_,rfl⟩
 rw [hF] at YU ⊢
 rw [hM] at HRM ⊢
 clear hg h hS hl hf hst hF hM
 go_enter Tryz.func84,Tryz.ntmps84
 go_upto_region 1 with fail
 go_cut [5,6] (fun s6 s7 wx=>∃ q Ae ne ce ev,s6=.pointer (some ⟨q,0,none⟩)∧s7=ev∧Pq w wx st q Ae ne ce ev)
 case first =>
  refine AF (T:=fun _=>false) (S:=fun w'=>Below w.heap.size w w') (by kernel_rfl) (Below.refl w.heap.size w).drew (fun hHeld=>?_)
  obtain ⟨BM,hw0⟩:∃ x,w.drew=x:=⟨_,rfl⟩
  rw [hw0] at hHeld ⊢
  have AJ:Below w.heap.size w BM:=hHeld
  clear hHeld hw0
  refine qs 0 14 AJ ?_
  refine qs 1 15 AJ ?_
  refine qs 2 16 AJ ?_
  refine qf 3 17 rfl rfl AJ (by intro w2' hSw;have x0:=HGM.out _ hSw;go_simp;(try with_reducible rfl)) ?_
  refine qs 4 18 AJ ?_
  refine qs 5 19 AJ ?_
  refine qs 6 20 AJ ?_
  refine qs 7 21 AJ ?_
  refine qf 8 22 rfl rfl AJ (by intro w2' hSw;have x1:=kW.out _ hSw;go_simp;(try with_reducible rfl)) ?_
  refine F3 9 13 (oi:=_) (oj:=_) (by kernel_rfl) rfl rfl (fun K hK=>?_) (fun K hK=>?_)
  · skip
    go_simp
    refine (rq.out BM AJ).mono ?_
    rintro e Bg ⟨TY,Co⟩
    obtain ⟨Ae,ne,ce,Ab,nb,cb,dp,lk,Af,nf,cf,ev,rfl,hv5⟩:=FI.of (w0:=w) TY AJ.size
    have AJ:=AJ.trans (Co.mono AJ.size)
    clear Co TY
    refine hK.out _ _ (fun _=>AJ) (fun _=>?_)
    clear hK K
    (try simp only [Act.put,qS,qZ,qU])
    refine qs 10 13 AJ ?_
    refine qs 11 24 AJ ?_
    refine qs 12 25 AJ ?_
    refine qo 13 fun K hK=>?_
    go_simp
    obtain ⟨Cr,hwn⟩:∃ wx,Bg.alloc (.cells #[.slice none 0 0,.slice none 0 0,.int .i64 0,.int .i64 0,.slice none 0 0] 178)=wx:=⟨_,rfl⟩
    have Co:Below Bg.heap.size Bg Cr:=by rw [← hwn];exact (Below.refl _ _).alloc (Nat.le_refl _) _
    have b13:Cr.heap[Bg.heap.size]? = some (.cells #[.slice none 0 0,.slice none 0 0,.int .i64 0,.int .i64 0,.slice none 0 0] 178):=by rw [← hwn];exact heap_alloc_new Bg _
    have Pj:=AJ.size
    have uL:Bg.heap.size<Cr.heap.size:=by rw [← hwn];simp
    have AJ:=AJ.trans (Co.mono AJ.size)
    rw [hwn]
    have hv5:=hv5.below Co
    clear hwn Co
    refine hK.out _ _ (fun _=>AJ) (fun _=>?_)
    clear hK K
    (try simp only [Act.put,qS,qZ,qU])
    refine qo 14 fun K hK=>?_
    obtain ⟨z0,z1,z2,z3,z4⟩:=cells5 b13
    have f0:=Cv b13 0
    have f1:=Cv b13 1
    have f2:=Cv b13 2
    have f3:=Cv b13 3
    have f4:=Cv b13 4
    go_simp
    obtain ⟨Kh,hwn⟩:∃ x,(((((Cr.setCell ⟨Bg.heap.size,0,none⟩ (.slice Ae ne ce)).setCell ⟨Bg.heap.size,1,none⟩ (.slice Ab nb cb)).setCell ⟨Bg.heap.size,2,none⟩ (.int .i64 dp)).setCell ⟨Bg.heap.size,3,none⟩ (.int .i64 lk)).setCell ⟨Bg.heap.size,4,none⟩ (.slice Af nf cf))=x:=⟨_,rfl⟩
    have hD:=KX Pj AJ hv5 b13 Kh hwn
    have AJ:=hD.2.1
    rw [hwn]
    clear z0 z1 z2 z3 z4 f0 f1 f2 f3 f4 hwn b13 hv5
    refine hK.out _ _ (fun _=>AJ) (fun _=>?_)
    clear hK K
    (try simp only [Act.put,qS,qZ,qU])
    refine qs 15 6 AJ ?_
    refine qd ?_
    go_wp2_with fail
    go_meet
    exact ⟨_,Ae,ne,ce,ev,rfl,rfl,hD⟩
  · skip
    go_simp
    obtain ⟨GK,hwn⟩:∃ wx,BM.alloc (.cells #[.slice none 0 0,.slice none 0 0,.int .i64 0,.int .i64 0,.slice none 0 0] 178)=wx:=⟨_,rfl⟩
    have Co:Below BM.heap.size BM GK:=by rw [← hwn];exact (Below.refl _ _).alloc (Nat.le_refl _) _
    have b13:GK.heap[BM.heap.size]? = some (.cells #[.slice none 0 0,.slice none 0 0,.int .i64 0,.int .i64 0,.slice none 0 0] 178):=by rw [← hwn];exact heap_alloc_new BM _
    have Pj:=AJ.size
    have uL:BM.heap.size<GK.heap.size:=by rw [← hwn];simp
    have AJ:=AJ.trans (Co.mono AJ.size)
    rw [hwn]
    clear hwn Co
    refine hK.out _ _ (fun _=>AJ) (fun _=>?_)
    clear hK K
    (try simp only [Act.put,qS,qZ,qU])
    refine qo 9 fun K hK=>?_
    go_simp
    refine (rq.out GK AJ).mono ?_
    rintro e Kk ⟨TY,Co⟩
    obtain ⟨Ae,ne,ce,Ab,nb,cb,dp,lk,Af,nf,cf,ev,rfl,hv5⟩:=FI.of (w0:=w) TY AJ.size
    have b13:=OW b13 Co
    have AJ:=AJ.trans (Co.mono AJ.size)
    clear Co TY
    refine hK.out _ _ (fun _=>AJ) (fun _=>?_)
    clear hK K
    (try simp only [Act.put,qS,qZ,qU])
    refine qs 10 13 AJ ?_
    refine qs 11 24 AJ ?_
    refine qs 12 25 AJ ?_
    refine qo 14 fun K hK=>?_
    obtain ⟨z0,z1,z2,z3,z4⟩:=cells5 b13
    have f0:=Cv b13 0
    have f1:=Cv b13 1
    have f2:=Cv b13 2
    have f3:=Cv b13 3
    have f4:=Cv b13 4
    go_simp
    obtain ⟨Uz,hwn⟩:∃ x,(((((Kk.setCell ⟨BM.heap.size,0,none⟩ (.slice Ae ne ce)).setCell ⟨BM.heap.size,1,none⟩ (.slice Ab nb cb)).setCell ⟨BM.heap.size,2,none⟩ (.int .i64 dp)).setCell ⟨BM.heap.size,3,none⟩ (.int .i64 lk)).setCell ⟨BM.heap.size,4,none⟩ (.slice Af nf cf))=x:=⟨_,rfl⟩
    have hD:=KX Pj AJ hv5 b13 Uz hwn
    have AJ:=hD.2.1
    rw [hwn]
    clear z0 z1 z2 z3 z4 f0 f1 f2 f3 f4 hwn b13 hv5
    refine hK.out _ _ (fun _=>AJ) (fun _=>?_)
    clear hK K
    (try simp only [Act.put,qS,qZ,qU])
    refine qs 15 6 AJ ?_
    refine qd ?_
    go_wp2_with fail
    go_meet
    exact ⟨_,Ae,ne,ce,ev,rfl,rfl,hD⟩
 rename World=>w2
 obtain ⟨q,Ae,ne,ce,ev,rfl,h7,hq,hB2,hv2,Ab,nb,cb,dp,lk,Af,nf,cf,hx2⟩:=hcut
 obtain rfl:=h7.symm
 have HB2:=qh hB2
 have M3:=qh hv2
 have Kg:=qh hx2
 clear hB2 hv2 hx2
 by_cases hc:(BJ st).code=0
 · obtain ⟨hie,hrow,-⟩:=M3.out
   obtain ⟨rfl,hr⟩:=hrow hc
   have hev:ev=.nilIface:=by
    unfold CJ at hie
    rw [if_pos hc] at hie
    exact hie
   subst hev
   have HR2:=qh hr
   have nR:Hid (F=if Qx st.AO=true then (-1:Int) else (st.AO.length:Int)):=by show _=_;rw [YU.out,if_neg (by rw [hc];simp)]
   obtain ⟨es,hes⟩:∃ es,st.AO=es:=⟨_,rfl⟩
   rw [hes] at HR2 Kg J4 HRM dQ nR
   have e0:=Kg.out.at 0 _ rfl
   obtain ⟨n,hn⟩:∃ n,es.length=n:=⟨_,rfl⟩
   rw [hn] at e0 HR2 Kg dQ nR
   have HN:=qh hn
   have Vy:=dQ.out
   clear hie hrow hr hc hes YU M3 rq HGM kW hn
   have hs2:=HB2.out.size
   go_upto_region 5 with fail
   obtain ⟨ka,kb,kB,kz⟩:=AP.two w2 #[] #[.slice (some ⟨w2.heap.size,0,none⟩) 0 0] 137 111
   have YX:=qh (bJ (size:=3) ka hs2)
   have HR4:=qh (own_below HR2.out kB (Nat.le_refl _))
   have e0:=Kg.out.below kB Kg.out.lt
   have e0:=e0.at 0 _ rfl
   generalize (w2.alloc (Obj.cells #[] 137)).alloc (Obj.cells #[.slice (some ⟨w2.heap.size,0,none⟩) 0 0] 111)=w4 at *
   have CL:=qh (HB2.out.trans (kB.mono hs2))
   have UC:=qh kb
   have yO:Hid (w.heap.size≤w2.heap.size+1):=by show _≤_;omega
   clear ka kb kB kz Kg HR2
   generalize w2.heap.size+1=gq at *
   generalize w2.heap.size=gz at *
   go_wp2_with fail
   go_loopw [32] (fun vi wr=>∃ (i:Nat) (A:Option Addr) (c:Nat),vi=.int .i64 i∧i≤n∧Hid (Below w.heap.size w wr)∧Hid (AP wr gq #[.slice A i c] 111)∧Hid (wr.ownsRow w.heap.size 137 3 (.slice A i c) i (AB Mp.enc ((es.take i).map mapOf)))∧Hid (wr.ownsRow w.heap.size 108 3 (.slice Ae n ce) n (AB Cq es))∧Hid (∀ j,j<i→(Ed (nth ED es j).val).2.2=0)) (fun vi _=>n-(intOf vi).toNat)
   case atStart=>exact ⟨0,_,0,rfl,Nat.zero_le _,CL,UC,YX,HR4,fun j hj=>by omega⟩
   case round =>
    obtain ⟨i,A,c,rfl,hi,Cy,HQ,HOW,TB,HJ⟩:=hrel
    by_cases hlt:i<n
    · obtain ⟨ge,hAe,ABX,hce,hsrc⟩:=CG TB.out (by omega)
      subst hAe
      obtain ⟨e,he⟩:∃ e,nth ED es i=e:=⟨_,rfl⟩
      have hcell:∀ j u,(Cq e)[j]? = some u→wr.cell? ⟨ge,i*3+j,none⟩=some u:=fun j u hu=>by
       have:=hsrc (i*3+j) u (DK (size:=3) JJ es i j u (by rw [HN.out];exact hlt) (by rw [he];exact hu))
       rwa [add_lit,Nat.zero_add] at this
      have e1:wr.cell? ⟨ge,i*3,none⟩=some (.int .i64 e.key):=hcell 0 _ rfl
      have e2:wr.cell? ⟨ge,i*3+1,none⟩=some (.string (Am e.val)):=hcell 1 _ rfl
      have e3:wr.cell? ⟨ge,i*3+2,none⟩=some (.int .i64 e.loc):=hcell 2 _ rfl
      have hil:(i:Int)<(n:Int):=by omega
      have hem:e∈es:=by rw [← he];exact Bv _ _ _ (by rw [HN.out];exact hlt)
      have hev:=(J4.out.1 e hem).2.2
      have hsz:=Cy.out.size
      have Ep:=qh (fun w'=>Uy w' e.val (by omega))
      have Ic:Hid ((es.take (i+1)).map mapOf=(es.take i).map mapOf++[⟨e.key,(Ed e.val).1,(Ed e.val).2.1⟩]):=by
       show _=_
       rw [DV ED es i (by rw [HN.out];exact hlt),List.map_append,he]
       rfl
      have HE:Hid (Qx es=true∨(Ed e.val).2.2=0):=by
       by_cases h0:(Ed e.val).2.2=0
       · exact .inr h0
       · exact .inl (Tf (i:=i) (by rw [HN.out];exact hlt) (by rw [he];exact h0))
      have HJ2:Hid ((Ed e.val).2.2=0→∀ j,j<i+1→(Ed (nth ED es j).val).2.2=0):=fun h0 j hj=>by
       by_cases hji:j<i
       · exact HJ.out j hji
       · obtain rfl:j=i:=by omega
         rw [he];exact h0
      obtain ⟨⟨mb,mt,me⟩,hm⟩:∃ q,Ed e.val=q:=⟨_,rfl⟩
      rw [hm] at Ep Ic HE HJ2
      dsimp only at Ep Ic HE HJ2
      generalize Am e.val=sx at *
      obtain ⟨key,hkey⟩:∃ k,e.key=k:=⟨_,rfl⟩
      rw [hkey] at e1 Ic
      clear hcell hsrc hem hev he hm hkey HJ
      go_upto_region 8 with fail
      have hbx:=AP.new wr #[.int .i64 key,.string sx,.int .i64 e.loc] 108
      have hBx:Below wr.heap.size wr (wr.alloc (.cells #[.int .i64 key,.string sx,.int .i64 e.loc] 108)):=(Below.refl _ _).alloc (Nat.le_refl _) _
      have M7:=qh hBx
      generalize wr.alloc (.cells #[.int .i64 key,.string sx,.int .i64 e.loc] 108)=w4x at *
      have x0:=hbx.at 0 _ rfl
      have x1:=hbx.at 1 _ rfl
      have HXB:=qh hbx
      clear hbx hBx e1 e2 e3
      by_cases hE:me=0
      · subst hE
        have HJ3:=qh (HJ2.out rfl)
        clear HE HJ2
        go_upto_region 11 with (go_at_call 145;(with_reducible refine (Ep.out _).mono ?_);rintro r w5 ⟨rfl,BS⟩;have x0:=(HXB.out.below BS HXB.out.lt).at 0 _ rfl;have CE:=qh (M7.out.trans (BS.mono M7.out.size));clear BS)
        rename World=>w5
        have hs5:=CE.out.size
        have qV:=qh (HQ.out.below CE.out HQ.out.lt)
        have Jb:=qh (own_below HOW.out CE.out (Nat.le_refl _))
        have HE5:=qh (own_below TB.out CE.out (Nat.le_refl _))
        have HW5:=qh (Cy.out.trans (CE.out.mono hsz))
        have q0:=qV.out.at 0 _ rfl
        have qf:=qV.out.free 0
        obtain ⟨L,hL⟩:∃ L,(es.take i).map mapOf=L:=⟨_,rfl⟩
        rw [hL] at Ic Jb
        clear hL M7 HXB CE HQ HOW TB Cy Ep
        go_wp2_with (at_builtin;go_loud (refine BA yU rfl _ _ rfl w.heap.size (.slice A i c) i L ⟨key,mb,mt⟩ rfl Jb.out rfl (by omega) (by omega) ?_);intro A8 c8 w8 DI E5 Fx;have Ie:=qh DI;have Gl:=qh E5;have hq8:=bI qV.out Jb.out (by decide) E5;have q0:=hq8.at 0 _ rfl;have qf:=hq8.free 0;have qa:=qh hq8;clear DI E5 Fx hq8)
        have QY:Touch (fun x=>x=gq) w8 (w8.setCell ⟨gq,0,none⟩ (.slice A8 (i+1) c8)):=Touch.Dc (R:=fun x=>x=gq) (p:=⟨gq,0,none⟩) rfl
        have vP:=Gl.out.size
        have mg:Hid (Below w.heap.size w (w8.setCell ⟨gq,0,none⟩ (.slice A8 (i+1) c8))):=(HW5.out.trans ((Touch.BO (R:=fun x=>w.heap.size≤x) Gl.out (fun x hx=>(Jb.out.lt x hx).1)).below (fun x h=>h) (by omega))).trans (QY.below (fun x e=>by rw [e];exact yO.out) (by omega))
        have qJ:=qh (BG (BH HE5.out Jb.out (by decide) Gl.out) QY (fun x hx e=>BC (BH HE5.out Jb.out (by decide) Gl.out) qa.out (by decide) (by rw [← e];exact hx.symm)))
        have Qp:Hid ((w8.setCell ⟨gq,0,none⟩ (.slice A8 (i+1) c8)).ownsRow w.heap.size 137 3 (.slice A8 (i+1) c8) (i+1) (AB Mp.enc ((es.take (i+1)).map mapOf))):=by
         rw [Ic.out]
         exact BG Ie.out QY (fun x hx e=>BC Ie.out qa.out (by decide) (by rw [← e];exact hx.symm))
        have HQ9:Hid (AP (w8.setCell ⟨gq,0,none⟩ (.slice A8 (i+1) c8)) gq #[.slice A8 (i+1) c8] 111):=qa.out.set 0 _
        clear Ie Gl Jb HE5 qa qV QY Ic
        go_roundw
        case rel=>exact ⟨i+1,A8,c8,by go_num,by omega,mg,HQ9,Qp,qJ,HJ3⟩
        case measure=>simp [intOf];omega
      · have mO:((me:Int) != 0)=true:=by rw [bne_iff_ne];exact hE
        have EK:Hid (F = -1):=by
         show _=_
         rcases HE.out with h0|h0
         · rw [nR.out,if_pos h0]
         · exact absurd h0 hE
        clear hE HE HJ2
        go_wp2_with (go_at_call 145;(with_reducible refine (Ep.out _).mono ?_);rintro r w5 ⟨rfl,BS⟩;have x0:=(HXB.out.below BS HXB.out.lt).at 0 _ rfl;have CE:=qh (M7.out.trans (BS.mono M7.out.size));clear BS)
        refine bodyPost_ret (v:=.pointer none) (by simp [results,Tryz.results84,go_sem]) rfl ⟨⟨_,rfl,.inl ⟨EK.out,rfl⟩⟩,Cy.out.trans (CE.out.mono hsz)⟩
    · obtain rfl:i=n:=by omega
      have OO:Hid (F=(i:Int)):=by
       show _=_
       rw [nR.out,if_neg (by rw [R3 (by rw [HN.out];exact HJ.out)];simp)]
      have HMM:Hid ((es.take i).map mapOf=M∧M.length=i):=by
       refine ⟨?_,?_⟩
       · rw [HRM.out,List.take_of_length_le (by rw [HN.out];exact Nat.le_refl _)]
       · rw [HRM.out,List.length_map,HN.out]
      go_wp2_with fail
      refine bodyPost_ret (v:=.pointer (some ⟨gq,0,none⟩)) (by simp [results,Tryz.results84,go_sem]) rfl ⟨⟨_,rfl,.inr ⟨by rw [OO.out];omega,gq,rfl,yO.out,A,c,?_,?_⟩⟩,Cy.out⟩
      · rw [HMM.out.2];exact HQ.out
      · have:=HOW.out
        rw [HMM.out.1] at this
        unfold IJ
        rw [HMM.out.2]
        exact this
 · obtain ⟨hie,-,-⟩:=M3.out
   obtain ⟨t,v,rfl,-⟩:=LP.of hie hc
   have OO:Hid (F = -1):=by show _=_;rw [YU.out,if_pos hc]
   clear hie hc M3
   go_wp2_with fail
   refine bodyPost_ret (v:=.pointer none) (by simp [results,Tryz.results84,go_sem]) rfl ⟨⟨_,rfl,.inl ⟨OO.out,rfl⟩⟩,HB2.out⟩
end
end Go.Proofs.YtpenklpdjpkigaaGreat
