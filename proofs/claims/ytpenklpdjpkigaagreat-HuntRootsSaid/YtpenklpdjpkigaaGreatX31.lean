/- A part of the proof: WHunt2. -/
import Derived.Test.YtpenklpdjpkigaaGreatX12
import Derived.Test.YtpenklpdjpkigaaGreatX26
import Derived.Test.YtpenklpdjpkigaaGreatX30
import Derived.Test.YtpenklpdjpkigaaGreatX1
import Derived.Test.YtpenklpdjpkigaaGreatX11
import Derived.Deep.Cut
import Derived.Deep.DeepCutAuto
import Derived.Test.YtpenklpdjpkigaaGreatY1
set_option maxHeartbeats 6400000
set_option linter.unusedVariables false
set_option linter.unusedSimpArgs false
namespace Go.Proofs.YtpenklpdjpkigaaGreat
section
open Go.RowKit Go.Shelf
attribute [local go_sem] Oper.semAt_some
theorem Gv.opened {w w':World} {bs:List UInt8} {no tree:Int} {e:Ending} (h:Gv w bs no tree e w'):∃ tt lf Ak nk ck Av nv cv ev,e=.returned (.tuple #[.agg #[.int .i64 tt,.bool lf,.slice Ak nk ck,.slice Av nv cv],ev])∧(AZ bs no tree=0→ev=.nilIface)∧(AZ bs no tree≠0→∃ t u,ev=.iface t u):=by
 obtain ⟨v,ev,rfl,h1,h2⟩:=h
 obtain ⟨Ak,nk,ck,Av,nv,cv,rfl⟩:=h1.open_
 refine ⟨_,_,Ak,nk,ck,Av,nv,cv,ev,rfl,fun h0=>?_,fun h0=>?_⟩
 · unfold CJ at h2
   rw [if_pos h0] at h2
   exact h2
 · obtain ⟨t,u,h3,-⟩:=LP.of h2 h0
   exact ⟨t,u,h3⟩
set_option maxRecDepth 100000 in
theorem QR (w:World) (S:Nat→Prop) (img g:Nat) (bs:List UInt8) (fuel root tree:Int) (u:Value) (hS:∀ b,S b→b<w.heap.size) (h:Cj w S img bs) (hl:bs.length≤140737488355328) (hf:fuel≤9999999) (hg:AP w g #[.pointer (some ⟨img,0,none⟩),.int .i64 fuel,u] 103) :
 Calls Tryz.prog 43 #[.pointer (some ⟨g,0,none⟩),.int .i64 root,.int .i64 tree] w fun e w'=>LX w (Az bs root tree fuel) e w'∧Below w.heap.size w w':=by
 have HWW:=qh (fun w' (hB:Below w.heap.size w w')=>M4 w' S img bs root tree fuel (fun b hb=>Nat.lt_of_lt_of_le (hS b hb) hB.size) (h.below hB hS) hl hf)
 have TD:=qh (Kw w S img bs root tree hS h hl)
 have ABY:Hid (∀ w',Below w.heap.size w w'→w'.cell? ⟨g,0,none⟩=some (.pointer (some ⟨img,0,none⟩))):=fun w' hB=>(hg.below hB hg.lt).at 0 _ rfl
 have ABZ:Hid (∀ w',Below w.heap.size w w'→w'.cell? ⟨g,1,none⟩=some (.int .i64 fuel)):=fun w' hB=>(hg.below hB hg.lt).at 1 _ rfl
 have g0:=hg.at 0 _ rfl
 have hgl:=hg.lt
 have J4:=qh (GM bs root tree fuel)
 have HTO:=qh (fun h=>X4 (bs:=bs) (root:=root) (tree:=tree) (fuel:=fuel) h)
 have dQ:=qh (Ht bs root tree fuel hf)
 unfold LX
 obtain ⟨st,hst⟩:∃ st,Az bs root tree fuel=st:=⟨_,rfl⟩
 rw [hst] at HWW J4 HTO dQ ⊢
 have HD:Hid (Dx st=(decide ((BJ st).code=0) && decide (st.AO.length≤4096) && !QJ st.AO)):=rfl
 obtain ⟨B,hB⟩:∃ B,Dx st=B:=⟨_,rfl⟩
 rw [hB] at HD ⊢
 clear hg h hS hl hf hst hB
 go_enter Tryz.func43,Tryz.ntmps43
 by_cases hn:AZ bs root tree=0
 · go_upto_region 4 with (go_at_call 80;(with_reducible refine TD.out.mono ?_);rintro e w2 ⟨hnr,hB2⟩;obtain ⟨tt,lf,Ak,nk,ck,Av,nv,cv,ev,rfl,hok,-⟩:=hnr.opened;obtain rfl:=hok hn;have HB2:=qh hB2;clear hB2 hok hnr)
   rename World=>w2
   clear hn HTO TD
   have hB3:Below w2.heap.size w2 (w2.alloc (Obj.cells #[.int .i64 tt,.bool lf,.slice Ak nk ck,.slice Av nv cv] 173)):=(Below.refl _ _).alloc (Nat.le_refl _) _
   have HB3:=qh (HB2.out.trans (hB3.mono HB2.out.size))
   obtain ⟨gn,hgn⟩:∃ q,w2.heap.size=q:=⟨_,rfl⟩
   generalize w2.alloc (Obj.cells #[.int .i64 tt,.bool lf,.slice Ak nk ck,.slice Av nv cv] 173)=w3 at *
   try rw [hgn]
   clear hB3 hgn HB2 g0
   have rq:Hid (∀ w',Below w3.heap.size w3 w'→Calls Tryz.prog 81 #[.pointer (some ⟨img,0,none⟩),.int .i64 root,.int .i64 tree,.int .i64 fuel] w' fun e w''=>TP w' w'' e st∧Below w'.heap.size w' w''):=fun w' hB=>HWW.out w' (HB3.out.trans (hB.mono HB3.out.size))
   have HGM:Hid (∀ w',Below w3.heap.size w3 w'→w'.cell? ⟨g,0,none⟩=some (.pointer (some ⟨img,0,none⟩))):=fun w' hB=>ABY.out w' (HB3.out.trans (hB.mono HB3.out.size))
   have kW:Hid (∀ w',Below w3.heap.size w3 w'→w'.cell? ⟨g,1,none⟩=some (.int .i64 fuel)):=fun w' hB=>ABZ.out w' (HB3.out.trans (hB.mono HB3.out.size))
   clear HWW ABY ABZ
   have nS:g<w3.heap.size:=by have:=HB3.out.size;omega
   go_cut [10,11] (fun s6 s7 wx=>∃ q Ae ne ce ev,s6=.pointer (some ⟨q,0,none⟩)∧s7=ev∧Pq w3 wx st q Ae ne ce ev)
   case first =>
    refine AF (T:=fun _=>false) (S:=fun w'=>Below w3.heap.size w3 w') (by kernel_rfl) (Below.refl w3.heap.size w3).drew (fun hHeld=>?_)
    obtain ⟨BM,hw0⟩:∃ x,w3.drew=x:=⟨_,rfl⟩
    rw [hw0] at hHeld ⊢
    have AJ:Below w3.heap.size w3 BM:=hHeld
    clear hHeld hw0
    refine qs 0 26 AJ ?_
    refine qs 1 27 AJ ?_
    refine qs 2 28 AJ ?_
    refine qf 3 29 rfl rfl AJ (by intro w2' hSw;have x0:=HGM.out _ hSw;go_simp;(try with_reducible rfl)) ?_
    refine qs 4 30 AJ ?_
    refine qs 5 31 AJ ?_
    refine qs 6 32 AJ ?_
    refine qs 7 33 AJ ?_
    refine qs 8 34 AJ ?_
    refine qf 9 35 rfl rfl AJ (by intro w2' hSw;have x1:=kW.out _ hSw;go_simp;(try with_reducible rfl)) ?_
    refine F3 10 14 (oi:=_) (oj:=_) (by kernel_rfl) rfl rfl (fun K hK=>?_) (fun K hK=>?_)
    · skip
      go_simp
      refine (rq.out BM AJ).mono ?_
      rintro e Bg ⟨TY,Co⟩
      obtain ⟨Ae,ne,ce,Ab,nb,cb,dp,lk,Af,nf,cf,ev,rfl,hv5⟩:=FI.of (w0:=w3) TY AJ.size
      have AJ:=AJ.trans (Co.mono AJ.size)
      clear Co TY
      refine hK.out _ _ (fun _=>AJ) (fun _=>?_)
      clear hK K
      (try simp only [Act.put,qS,qZ,qU])
      refine qs 11 25 AJ ?_
      refine qs 12 37 AJ ?_
      refine qs 13 38 AJ ?_
      refine qo 14 fun K hK=>?_
      go_simp
      obtain ⟨Cr,hwn⟩:∃ wx,Bg.alloc (.cells #[.slice none 0 0,.slice none 0 0,.int .i64 0,.int .i64 0,.slice none 0 0] 178)=wx:=⟨_,rfl⟩
      have Co:Below Bg.heap.size Bg Cr:=by rw [← hwn];exact (Below.refl _ _).alloc (Nat.le_refl _) _
      have b14:Cr.heap[Bg.heap.size]? = some (.cells #[.slice none 0 0,.slice none 0 0,.int .i64 0,.int .i64 0,.slice none 0 0] 178):=by rw [← hwn];exact heap_alloc_new Bg _
      have jr:=AJ.size
      have ADp:Bg.heap.size<Cr.heap.size:=by rw [← hwn];simp
      have AJ:=AJ.trans (Co.mono AJ.size)
      rw [hwn]
      have hv5:=hv5.below Co
      clear hwn Co
      refine hK.out _ _ (fun _=>AJ) (fun _=>?_)
      clear hK K
      (try simp only [Act.put,qS,qZ,qU])
      refine qo 15 fun K hK=>?_
      obtain ⟨z0,z1,z2,z3,z4⟩:=cells5 b14
      have f0:=Cv b14 0
      have f1:=Cv b14 1
      have f2:=Cv b14 2
      have f3:=Cv b14 3
      have f4:=Cv b14 4
      go_simp
      obtain ⟨Kh,hwn⟩:∃ x,(((((Cr.setCell ⟨Bg.heap.size,0,none⟩ (.slice Ae ne ce)).setCell ⟨Bg.heap.size,1,none⟩ (.slice Ab nb cb)).setCell ⟨Bg.heap.size,2,none⟩ (.int .i64 dp)).setCell ⟨Bg.heap.size,3,none⟩ (.int .i64 lk)).setCell ⟨Bg.heap.size,4,none⟩ (.slice Af nf cf))=x:=⟨_,rfl⟩
      have hD:=KX jr AJ hv5 b14 Kh hwn
      have AJ:=hD.2.1
      rw [hwn]
      clear z0 z1 z2 z3 z4 f0 f1 f2 f3 f4 hwn b14 hv5
      refine hK.out _ _ (fun _=>AJ) (fun _=>?_)
      clear hK K
      (try simp only [Act.put,qS,qZ,qU])
      refine qs 16 11 AJ ?_
      refine qd ?_
      go_wp2_with fail
      go_meet
      exact ⟨_,Ae,ne,ce,ev,rfl,rfl,hD⟩
    · skip
      go_simp
      obtain ⟨GK,hwn⟩:∃ wx,BM.alloc (.cells #[.slice none 0 0,.slice none 0 0,.int .i64 0,.int .i64 0,.slice none 0 0] 178)=wx:=⟨_,rfl⟩
      have Co:Below BM.heap.size BM GK:=by rw [← hwn];exact (Below.refl _ _).alloc (Nat.le_refl _) _
      have b14:GK.heap[BM.heap.size]? = some (.cells #[.slice none 0 0,.slice none 0 0,.int .i64 0,.int .i64 0,.slice none 0 0] 178):=by rw [← hwn];exact heap_alloc_new BM _
      have jr:=AJ.size
      have ADp:BM.heap.size<GK.heap.size:=by rw [← hwn];simp
      have AJ:=AJ.trans (Co.mono AJ.size)
      rw [hwn]
      clear hwn Co
      refine hK.out _ _ (fun _=>AJ) (fun _=>?_)
      clear hK K
      (try simp only [Act.put,qS,qZ,qU])
      refine qo 10 fun K hK=>?_
      go_simp
      refine (rq.out GK AJ).mono ?_
      rintro e Kk ⟨TY,Co⟩
      obtain ⟨Ae,ne,ce,Ab,nb,cb,dp,lk,Af,nf,cf,ev,rfl,hv5⟩:=FI.of (w0:=w3) TY AJ.size
      have b14:=OW b14 Co
      have AJ:=AJ.trans (Co.mono AJ.size)
      clear Co TY
      refine hK.out _ _ (fun _=>AJ) (fun _=>?_)
      clear hK K
      (try simp only [Act.put,qS,qZ,qU])
      refine qs 11 25 AJ ?_
      refine qs 12 37 AJ ?_
      refine qs 13 38 AJ ?_
      refine qo 15 fun K hK=>?_
      obtain ⟨z0,z1,z2,z3,z4⟩:=cells5 b14
      have f0:=Cv b14 0
      have f1:=Cv b14 1
      have f2:=Cv b14 2
      have f3:=Cv b14 3
      have f4:=Cv b14 4
      go_simp
      obtain ⟨Uz,hwn⟩:∃ x,(((((Kk.setCell ⟨BM.heap.size,0,none⟩ (.slice Ae ne ce)).setCell ⟨BM.heap.size,1,none⟩ (.slice Ab nb cb)).setCell ⟨BM.heap.size,2,none⟩ (.int .i64 dp)).setCell ⟨BM.heap.size,3,none⟩ (.int .i64 lk)).setCell ⟨BM.heap.size,4,none⟩ (.slice Af nf cf))=x:=⟨_,rfl⟩
      have hD:=KX jr AJ hv5 b14 Uz hwn
      have AJ:=hD.2.1
      rw [hwn]
      clear z0 z1 z2 z3 z4 f0 f1 f2 f3 f4 hwn b14 hv5
      refine hK.out _ _ (fun _=>AJ) (fun _=>?_)
      clear hK K
      (try simp only [Act.put,qS,qZ,qU])
      refine qs 16 11 AJ ?_
      refine qd ?_
      go_wp2_with fail
      go_meet
      exact ⟨_,Ae,ne,ce,ev,rfl,rfl,hD⟩
   rename World=>w5
   obtain ⟨q,Ae,ne,ce,ev,rfl,h7,hq,BS,hv5,Ab,nb,cb,dp,lk,Af,nf,cf,hx5⟩:=hcut
   obtain rfl:=h7.symm
   have CE:=qh (HB3.out.trans (BS.mono HB3.out.size))
   have HV5:=qh hv5
   have x0:=hx5.at 0 _ rfl
   have HS3:=qh HB3.out.size
   clear BS hv5 hx5 rq HGM kW HB3 nS
   by_cases hc:(BJ st).code=0
   · obtain ⟨hie,hrow,-⟩:=HV5.out
     obtain ⟨rfl,hr⟩:=hrow hc
     have hev:ev=.nilIface:=by
      unfold CJ at hie
      rw [if_pos hc] at hie
      exact hie
     subst hev
     have Qo:=qh (hr.mono HS3.out)
     have HD1:Hid (B=(decide (st.AO.length≤4096) && !QJ st.AO)):=by show _=_;rw [HD.out,decide_eq_true hc,Bool.true_and]
     obtain ⟨es,hes⟩:∃ es,st.AO=es:=⟨_,rfl⟩
     rw [hes] at Qo x0 J4 dQ HD1
     obtain ⟨n,hn⟩:∃ n,es.length=n:=⟨_,rfl⟩
     have HN:=qh hn
     have Ms:Hid (st.AO.length=n):=by show _=_;rw [hes,hn]
     have ru:=qh hes
     rw [hn] at x0 Qo dQ HD1
     have Vy:=dQ.out
     clear hie hrow hr hc hes HV5 hn HD
     by_cases hbig:(4096:Int)<(n:Int)
     · have EK:Hid (B=false):=by show _=_;rw [HD1.out,decide_eq_false (by omega)];rfl
       go_wp2_with fail
       refine bodyPost_ret (v:=.tuple #[.slice none 0 0,.bool false]) (by simp [results,Tryz.results43,go_sem]) rfl ⟨⟨none,0,0,by rw [EK.out],fun h=>absurd (h.symm.trans EK.out) (by simp)⟩,CE.out⟩
     · have hbig2:(n:Int)≤4096:=by omega
       have HD2:Hid (B = !QJ es):=by show _=_;rw [HD1.out,decide_eq_true (by omega),Bool.true_and]
       by_cases h0:(0:Int)<(n:Int)
       · obtain ⟨ge,hAe,ABX,hce,hsrc⟩:=CG Qo.out (by omega)
         subst hAe
         have hln:n-1<es.length:=by rw [HN.out];omega
         obtain ⟨k,hk⟩:∃ k,(nth ED es (n-1)).key=k:=⟨_,rfl⟩
         have hcell:w5.cell? ⟨ge,(n-1)*3,none⟩=some (.int .i64 k):=by
          have:=hsrc ((n-1)*3+0) (.int .i64 k) (DK (size:=3) JJ es (n-1) 0 _ hln (by rw [← hk];rfl))
          rwa [add_lit,Nat.zero_add,Nat.add_zero] at this
         obtain ⟨m,rfl⟩:∃ m,n=m+1:=⟨n-1,by omega⟩
         rw [Nat.add_sub_cancel] at hcell hk hln
         by_cases hkb:16777215<k
         · have EK:Hid (B=false):=by show _=_;rw [HD2.out,Yv hln (by rw [hk];exact hkb)];rfl
           clear hk hsrc hln
           go_wp2_with fail
           refine bodyPost_ret (v:=.tuple #[.slice none 0 0,.bool false]) (by simp [results,Tryz.results43,go_sem]) rfl ⟨⟨none,0,0,by rw [EK.out],fun h=>absurd (h.symm.trans EK.out) (by simp)⟩,CE.out⟩
         · have hkb2:k≤16777215:=by omega
           have EK:Hid (B=true):=by show _=_;rw [HD2.out,jq J4.out (by rw [HN.out];omega) (by rw [HN.out,Nat.add_sub_cancel,hk];exact hkb2)];rfl
           clear hk hsrc hln
           go_wp2_with fail
           refine bodyPost_ret (v:=.tuple #[.slice (some ⟨ge,0,none⟩) (m+1) ce,.bool true]) (by simp [results,Tryz.results43,go_sem]) rfl ⟨⟨some ⟨ge,0,none⟩,m+1,ce,by rw [EK.out],fun h=>⟨Ms.out.symm,by rw [ru.out];exact Qo.out⟩⟩,CE.out⟩
       · have h0e:(n:Int)≤0:=by omega
         obtain rfl:n=0:=by omega
         have hnil:es=[]:=List.eq_nil_of_length_eq_zero HN.out
         have EK:Hid (B=true):=by show _=_;rw [HD2.out,hnil];rfl
         clear hnil
         go_wp2_with fail
         refine bodyPost_ret (v:=.tuple #[.slice Ae 0 ce,.bool true]) (by simp [results,Tryz.results43,go_sem]) rfl ⟨⟨Ae,0,ce,by rw [EK.out],fun h=>⟨Ms.out.symm,by rw [ru.out];exact Qo.out⟩⟩,CE.out⟩
   · obtain ⟨hie,-,-⟩:=HV5.out
     obtain ⟨t,v,rfl,-⟩:=LP.of hie hc
     have EK:Hid (B=false):=by show _=_;rw [HD.out,decide_eq_false hc];rfl
     clear hie hc HV5
     go_wp2_with fail
     refine bodyPost_ret (v:=.tuple #[.slice none 0 0,.bool false]) (by simp [results,Tryz.results43,go_sem]) rfl ⟨⟨none,0,0,by rw [EK.out],fun h=>absurd (h.symm.trans EK.out) (by simp)⟩,CE.out⟩
 · have EK:Hid (B=false):=by show _=_;rw [HD.out,decide_eq_false (HTO.out hn)];rfl
   go_wp2_with (go_at_call 80;(with_reducible refine TD.out.mono ?_);rintro e w2 ⟨hnr,hB2⟩;obtain ⟨tt,lf,Ak,nk,ck,Av,nv,cv,ev,rfl,-,hbad⟩:=hnr.opened;obtain ⟨t,v,rfl⟩:=hbad hn;have HB2:=qh hB2;clear hB2 hbad hnr)
   rename World=>w2
   refine bodyPost_ret (v:=.tuple #[.slice none 0 0,.bool false]) (by simp [results,Tryz.results43,go_sem]) rfl ⟨⟨none,0,0,by rw [EK.out],fun h=>absurd (h.symm.trans EK.out) (by simp)⟩,HB2.out.trans (((Below.refl _ _).alloc (Nat.le_refl _) _).mono HB2.out.size)⟩
end
end Go.Proofs.YtpenklpdjpkigaaGreat
