/- A part of the proof: WAhead, WHunt3, WHunt5, PS. -/
import Derived.Test.YtpenklpdjpkigaaGreatX26
import Derived.Test.YtpenklpdjpkigaaGreatY6
import Derived.Test.YtpenklpdjpkigaaGreatX29
import Derived.Test.YtpenklpdjpkigaaGreatX31
import Derived.Test.YtpenklpdjpkigaaGreatY2
import Derived.Test.YtpenklpdjpkigaaGreatY4
import Derived.Test.YtpenklpdjpkigaaGreatY1
set_option maxHeartbeats 6400000
set_option linter.unusedVariables false
set_option linter.unusedSimpArgs false
namespace Go.Proofs.YtpenklpdjpkigaaGreat
section
open Go.RowKit Go.Shelf
theorem Bn.cells {w:World} {base a img gl n c k:Nat} {bs:List UInt8} (h:Bn w base a img gl n c k bs) {j:Nat} (hj:j<n):gl<w.heap.size∧w.cell? ⟨gl,j,none⟩=some (.int .i64 ((j+1:Nat):Int)):=by
 obtain ⟨h1,h2,h3,h4,h5⟩:=h
 obtain ⟨g,e,hg,hc,hs⟩:=CG h3 (by omega)
 injection e with e
 injection e with e
 subst e
 have:=hs (j*1+0) (.int .i64 ((j+1:Nat):Int)) (DK (size:=1) (d:=(0:Int)) Bh (Xn n) j 0 _ (by rw [Y0];exact hj) (by rw [Y1 hj];rfl))
 rw [add_lit,Nat.zero_add,Nat.mul_one,Nat.add_zero] at this
 exact ⟨hg,this⟩
def MV (k m:Nat):List Int:=(List.range m).map fun i=>((k+i+1:Nat):Int)
theorem G9 (k m:Nat):(MV k m).length=m:=by simp [MV]
theorem bz {k m i:Nat} (h:i<m):nth 0 (MV k m) i=((k+i+1:Nat):Int):=by
 unfold nth MV
 simp [List.getD,h]
theorem Bn.next {w:World} {base a img gl n c k:Nat} {bs:List UInt8} (h:Bn w base a img gl n c k bs) {m c':Nat} (hm:k+m≤n) (hc:m≤c'):Aa w (fun b=>b<w.heap.size) (.slice (some ⟨gl,k,none⟩) m c') (MV k m):=by
 refine ⟨some ⟨gl,k,none⟩,c',by rw [G9],by rw [G9];exact hc,fun h0=>?_⟩
 rw [G9] at h0
 refine ⟨gl,k,rfl,(h.cells (j:=k) (by omega)).1,fun i hi=>?_⟩
 rw [G9] at hi
 refine ⟨encI (nth 0 (MV k m) i),rfl,rfl,fun q u hu=>?_⟩
 rw [bz hi] at hu
 obtain ⟨hq,rfl⟩:=List.getElem?_eq_some_iff.1 hu
 obtain rfl:q=0:=by simp [encI] at hq;omega
 have:=(h.cells (j:=k+i) (by omega)).2
 simpa [encI] using this
set_option maxRecDepth 100000 in
theorem ou (w:World) (base a img gl n c k m:Nat) (bs:List UInt8) (h:Bn w base a img gl n c k bs) (hm1:1≤m) (hm:k+m≤n) (hc:n≤c) (hn:n≤14000) :
 Calls Tryz.prog 128 #[.pointer (some ⟨a,0,none⟩),.int .i64 m] w fun e w'=>(∃ v',e=.returned v'∧Aa w' (C9 w.heap.size w'.heap.size) v' (MV k m))∧Below w.heap.size w w':=by
 have Np:=qh (KI w a img n c _ _ h.1)
 have JZ:=qh (Yz w a img n c gl k h.1 (by omega) hc (by omega))
 unfold Tj at JZ
 have GH:=qh (fun (w':World) (hs:Bn w' base a img gl n c k bs) (c':Nat) (hcc:m≤c')=>RY w' _ (.slice (some ⟨gl,k,none⟩) m c') (MV k m) (hs.next hm hcc) (by rw [G9];omega))
 have HST:=qh h
 have hmb:¬ (m:Int)<1:=by omega
 have hkn:k<n:=by omega
 have HKM:Hid (m≤n-k):=by show _≤_;omega
 have yH:(m:Int)≤((n-k:Nat):Int):=by omega
 clear h hm hc hn
 obtain ⟨q,hq⟩:∃ q,n-k=q:=⟨_,rfl⟩
 rw [hq] at JZ HKM yH
 clear hq
 have kR:=qh hkn
 clear hkn
 go_enter Tryz.func128,Tryz.ntmps128
 go_upto_region 4 with (first
  | (go_at_call 110;(with_reducible refine Np.out.mono ?_);rintro e w2 ⟨rfl,hw⟩;rw [hw];clear hw w2)
  | (go_at_call 178;(with_reducible refine JZ.out.mono ?_);rintro e w2 ⟨⟨o,c2,rfl,hc2,ho⟩,hB⟩;obtain rfl:=ho kR.out;have fE:=qh hc2;have HB:=qh hB;clear hc2 ho hB))
 rename World=>w2
 have hcq:=fE.out
 have hkm:=HKM.out
 have hmc:(m:Int)≤(c2:Int):=by omega
 have hmin:min (m:Int) (q:Int)=(m:Int):=by omega
 have hmn:¬ (q:Int)<(m:Int):=by omega
 have hmd:decide ((q:Int)<(m:Int))=false:=decide_eq_false hmn
 have tq:=qh (GH.out w2 (HST.out.below HB.out) c2 (by omega))
 clear hcq hkm hmn GH JZ Np
 go_wp2_with (go_at_call 127;(with_reducible refine tq.out.mono ?_);rintro e w3 ⟨v',rfl,hv,hB3⟩;have HV:=qh hv;have HB3:=qh hB3;clear hv hB3)
 refine bodyPost_ret (v:=v') (by simp [results,Tryz.results128,go_sem]) rfl ⟨⟨v',rfl,HV.out.sub (AA _) (fun b hb=>⟨by have:=HB.out.size;have:=hb.1;omega,hb.2⟩)⟩,HB.out.trans (HB3.out.mono HB.out.size)⟩
end
section
open Go.RowKit Go.Shelf
def Y6 (w:World) (base:Nat) (bs:List UInt8) (fuel root:Int) (e:Ending):Prop:=(FK bs root fuel<0→e=.returned (.tuple #[.slice none 0 0,.bool false]))∧(0≤FK bs root fuel→∃ A c,e=.returned (.tuple #[.slice A (Gg bs fuel root).length c,.bool true])∧IJ w base (.slice A (Gg bs fuel root).length c) (Gg bs fuel root))
theorem pM (bs:List UInt8) (root fuel:Int):FK bs root fuel = -1∨0≤FK bs root fuel:=by
 unfold FK
 split
 · exact .inl rfl
 · split
   · exact .inl rfl
   · exact .inr (by omega)
theorem M8.cases {w:World} {base:Nat} {bs:List UInt8} {fuel root:Int} {v:Value} (h:M8 w base bs fuel root v):(FK bs root fuel<0∧v=.pointer none)∨(0≤FK bs root fuel∧∃ q A c,v=.pointer (some ⟨q,0,none⟩)∧w.cell? ⟨q,0,none⟩=some (.slice A (Gg bs fuel root).length c)∧IJ w base (.slice A (Gg bs fuel root).length c) (Gg bs fuel root)):=by
 rcases h with ⟨h,rfl⟩|⟨h,q,rfl,hb,A,c,h1,h2⟩
 · exact .inl ⟨by omega,rfl⟩
 · rcases pM bs root fuel with h3|h3
   · exact absurd h3 h
   · exact .inr ⟨h3,q,A,c,rfl,h1.at 0 _ rfl,h2⟩
set_option maxRecDepth 100000 in
theorem dI (w:World) (S:Nat→Prop) (img g mb base n:Nat) (bs:List UInt8) (fuel root:Int) (h:Hn w S img g mb base n bs fuel) (hr:In64 root) (hn:n<maxLen) (hl:bs.length≤140737488355328) (hf:fuel≤9999999) :
 Calls Tryz.prog 45 #[.pointer (some ⟨g,0,none⟩),.int .i64 root] w fun e w'=>Y6 w' base bs fuel root e∧Hn w' S img g mb base (n+1) bs fuel∧Touch (fun x=>x=mb) w w':=by
 obtain ⟨v,b,hlk,hv⟩:=h.2.2.2.2.2.look root hr
 have g2:w.cell? ⟨g,2,none⟩=some (.map (some mb)):=h.2.2.2.2.1.at 2 _ rfl
 have hlt:=h.lt
 have HH:=qh h
 have YI:=qh (jo w S img g bs fuel root (.map (some mb)) (fun b hb=>Nat.lt_of_lt_of_le (h.2.1 b hb) hlt) h.1 hl hf h.2.2.2.2.1)
 have O9:=qh hlt
 have HR:=qh hr
 have HNM:=qh hn
 clear h hr hn hl hf hlt
 cases b with
 | true =>
  have HN:Hid (Hn w S img g mb base (n+1) bs fuel):=⟨HH.out.1,HH.out.2.1,HH.out.2.2.1,HH.out.2.2.2.1,HH.out.2.2.2.2.1,HH.out.2.2.2.2.2.mono (by omega)⟩
  rcases (hv rfl).cases with ⟨hd,rfl⟩|⟨hd,q,A,c,rfl,hq,ho⟩
  · have xA:=qh hd
    clear hv hd
    go_enter Tryz.func45,Tryz.ntmps45
    go_wp2_with fail
    refine bodyPost_ret (v:=.tuple #[.slice none 0 0,.bool false]) (by simp [results,Tryz.results45,go_sem]) rfl ⟨⟨fun _=>rfl,fun h=>absurd h (by have:=xA.out;omega)⟩,HN.out,Touch.refl⟩
  · have xA:=qh hd
    have HO:=qh ho
    clear hv hd ho
    go_enter Tryz.func45,Tryz.ntmps45
    go_wp2_with fail
    refine bodyPost_ret (v:=.tuple #[.slice A (Gg bs fuel root).length c,.bool true]) (by simp [results,Tryz.results45,go_sem]) rfl ⟨⟨fun h=>absurd h (by have:=xA.out;omega),fun _=>⟨A,c,rfl,HO.out⟩⟩,HN.out,Touch.refl⟩
 | false =>
  clear hv
  go_enter Tryz.func45,Tryz.ntmps45
  go_upto_region 4 with (go_at_call 84;(with_reducible refine YI.out.mono ?_);rintro e w2 ⟨⟨v2,rfl,hd2⟩,hB2⟩;have HD2:=qh hd2;have HB2:=qh hB2;clear hB2 hd2)
  have hH2:=HH.out.below HB2.out
  have g22:w2.cell? ⟨g,2,none⟩=some (.map (some mb)):=hH2.2.2.2.2.1.at 2 _ rfl
  have hD2:=HD2.out.mono O9.out
  obtain ⟨w3,hst,hm3,hg3⟩:=hH2.2.2.2.2.2.store root HR.out HNM.out hD2
  have Vz:Touch (fun x=>x=mb) w2 w3:=Touch.BO hg3 (fun x hx=>(Option.some.inj hx).symm)
  have HT:Hid (Touch (fun x=>x=mb) w w3):=(Touch.of_below HB2.out).trans Vz
  have hN:∀ x,x<w2.heap.size→x=mb→base≤x∧GV w2 x:=fun x _ e=>⟨by rw [e];exact hH2.2.2.2.1,fun cs T hc=>by
   obtain ⟨es,c,hmp⟩:=hH2.Xl
   rw [e,hmp] at hc
   injection hc with hc
   cases hc⟩
  have HN:Hid (Hn w3 S img g mb base (n+1) bs fuel):=⟨hH2.1.below (B:=base) ⟨Vz.1,Vz.2.1,Vz.2.2.1,Vz.size,fun x hx=>Vz.block (by have:=hH2.lt;omega) (fun e=>by have:=hH2.2.2.2.1;omega)⟩ hH2.2.1,hH2.2.1,hH2.2.2.1,hH2.2.2.2.1,Yy hH2.2.2.2.2.1 hH2.Xl Vz,hm3⟩
  have hD3:=hD2.keep Vz (fun x hx hr=>(hN x hx hr).2)
  clear Vz hm3 hg3 hH2 hD2 HH HD2 HB2 YI hN
  have HST:=qh hst
  rcases hD3.cases with ⟨hd,rfl⟩|⟨hd,q,A,c,rfl,hq,ho⟩
  · have xA:=qh hd
    clear hd hD3 HST
    go_wp2_with fail
    refine bodyPost_ret (v:=.tuple #[.slice none 0 0,.bool false]) (by simp [results,Tryz.results45,go_sem]) rfl ⟨⟨fun _=>rfl,fun h=>absurd h (by have:=xA.out;omega)⟩,HN.out,HT.out⟩
  · have xA:=qh hd
    have HO:=qh ho
    clear hd hD3 ho HST
    go_wp2_with fail
    refine bodyPost_ret (v:=.tuple #[.slice A (Gg bs fuel root).length c,.bool true]) (by simp [results,Tryz.results45,go_sem]) rfl ⟨⟨fun h=>absurd h (by have:=xA.out;omega),fun _=>⟨A,c,rfl,HO.out⟩⟩,HN.out,HT.out⟩
end
section
open Go.RowKit Go.Shelf
def X5 (b1 base:Nat) (bs:List UInt8) (no fuel:Int) (e:Ending) (w:World):Prop:=(OA bs no fuel=false→e=.returned (.tuple #[.slice none 0 0,.bool false]))∧(OA bs no fuel=true→∃ A c,e=.returned (.tuple #[.slice A (Qy bs no fuel).length c,.bool true])∧Jc w b1 base (.slice A (Qy bs no fuel).length c) (Qy bs no fuel))
theorem jv (s:List UInt8):In64 (Aj s).1:=by
 unfold Aj In64
 split
 · exact ⟨by decide,by decide⟩
 · split
   · exact ⟨by decide,by decide⟩
   · exact ⟨by dsimp only;omega,by dsimp only;omega⟩
theorem pO {bs:List UInt8} {fuel s:Int} {l:List Kq} (hs:16384<s) (h0:0≤s):Ti (H8 bs fuel s l)=false:=by
 cases h:Ti (H8 bs fuel s l)
 · rfl
 · have:=(QK bs fuel l s h0 h).2;omega
set_option maxRecDepth 100000 in
theorem jw (w:World) (S:Nat→Prop) (img g mb base n:Nat) (bs:List UInt8) (fuel root:Int) (h:Hn w S img g mb base n bs fuel) (hn:n+4096<maxLen) (hl:bs.length≤140737488355328) (hf:fuel≤9999999) :
 Calls Tryz.prog 21 #[.pointer (some ⟨g,0,none⟩),.int .i64 root] w fun e w'=>X5 w.heap.size base bs root fuel e w'∧Hn w' S img g mb base (n+4096) bs fuel∧Touch (fun x=>x=mb) w w':=by
 have hlt:=h.lt
 have HW1:=qh (QR w S img g bs fuel root 1 (.map (some mb)) (fun b hb=>Nat.lt_of_lt_of_le (h.2.1 b hb) hlt) h.1 hl hf h.2.2.2.2.1)
 have J4:=qh (GM bs root 1 fuel)
 have HD:Hid (OA bs root fuel=(Dx (Az bs root 1 fuel) && Ti (H8 bs fuel 0 (Az bs root 1 fuel).AO))):=rfl
 have XD:=qh (fun h=>(Nh (st:=Az bs root 1 fuel) h).2.1)
 have yg:=qh (fun w' k root (h:Hn w' S img g mb base (n+k) bs fuel) (hk:k<4096) (hr:In64 root)=>dI w' S img g mb base (n+k) bs fuel root h hr (by omega) hl hf)
 have WK:=qh (fun root=>Yx bs root fuel hf)
 have HH:=qh h
 have O9:=qh hlt
 unfold X5 Qy
 obtain ⟨st,hst⟩:∃ st,Az bs root 1 fuel=st:=⟨_,rfl⟩
 rw [hst] at HW1 J4 HD XD ⊢
 obtain ⟨D,hD⟩:∃ D,OA bs root fuel=D:=⟨_,rfl⟩
 rw [hD] at HD ⊢
 unfold LX at HW1
 obtain ⟨B,hB⟩:∃ B,Dx st=B:=⟨_,rfl⟩
 rw [hB] at HW1 HD XD
 clear h hl hf hst hD hB hlt
 go_enter Tryz.func21,Tryz.ntmps21
 go_upto_region 2 with (go_at_call 43;(with_reducible refine HW1.out.mono ?_);rintro e w4 ⟨⟨Ae,ne,ce,rfl,hrow⟩,hB4⟩;have HRW:=qh hrow;have CL:=qh hB4;clear hrow hB4)
 clear HW1
 have xB:=qh (HH.out.below CL.out)
 cases B with
 | false =>
  have EK:Hid (D=false):=by show _=_;rw [HD.out];rfl
  go_wp2_with fail
  refine bodyPost_ret (v:=.tuple #[.slice none 0 0,.bool false]) (by simp [results,Tryz.results21,go_sem]) rfl ⟨⟨fun _=>rfl,fun h=>absurd (h.symm.trans EK.out) (by simp)⟩,⟨xB.out.1,xB.out.2.1,xB.out.2.2.1,xB.out.2.2.2.1,xB.out.2.2.2.2.1,xB.out.2.2.2.2.2.mono (by omega)⟩,Touch.of_below CL.out⟩
 | true =>
  obtain ⟨hne,hrow⟩:=HRW.out rfl
  have HR4:=qh hrow
  have ET:=qh hne
  have Vy:ne≤4096:=by rw [hne];exact XD.out rfl
  clear hrow hne HRW XD
  obtain ⟨es,hes⟩:∃ es,st.AO=es:=⟨_,rfl⟩
  have ru:=qh hes
  rw [hes] at HR4 ET J4 HD
  clear hes
  have ADq:=CL.out.size
  go_wp2_with fail
  go_loopw [8,9,26] (fun vo vs vi wr=>∃ (i:Nat) (A:Option Addr) (c:Nat) (sum:Int),vo=.slice A i c∧vs=.int .i64 sum∧vi=.int .i64 i∧(i≤ne∧0≤sum∧sum≤16384)∧Hid (Touch (fun x=>x=mb) w wr)∧Hid (Hn wr S img g mb base (n+i) bs fuel)∧Hid (wr.ownsRow w.heap.size 108 3 (.slice Ae ne ce) ne (AB Cq es))∧Hid (∃ L:List dV,L.map dV.d=(es.take i).map (jQ bs fuel)∧wr.ownsRow w.heap.size 115 5 (.slice A i c) i (AB QL L)∧EX wr base L)∧Hid (H8 bs fuel sum (es.drop i)=H8 bs fuel 0 es)) (fun _ _ vi _=>ne-(intOf vi).toNat)
  case atStart=>exact ⟨0,none,0,0,rfl,rfl,rfl,⟨Nat.zero_le _,by omega,by omega⟩,Touch.of_below CL.out,xB.out,HR4.out,⟨[],rfl,World.ownsRow_nil _ _ _ _,EX.nil⟩,rfl⟩
  case round =>
   obtain ⟨i,A,c,sum,rfl,rfl,rfl,⟨hi,ADT,AAz⟩,Tx,R8,TB,HOW,HJ⟩:=hrel
   by_cases hlt:i<ne
   · obtain ⟨ge,hAe,ABX,hce,hsrc⟩:=CG TB.out (by omega)
     subst hAe
     have hi1:i<es.length:=by rw [← ET.out];exact hlt
     obtain ⟨e,he⟩:∃ e,nth ED es i=e:=⟨_,rfl⟩
     have hcell:∀ j u,(Cq e)[j]? = some u→wr.cell? ⟨ge,i*3+j,none⟩=some u:=fun j u hu=>by
      have:=hsrc (i*3+j) u (DK (size:=3) JJ es i j u hi1 (by rw [he];exact hu))
      rwa [add_lit,Nat.zero_add] at this
     have e1:wr.cell? ⟨ge,i*3,none⟩=some (.int .i64 e.key):=hcell 0 _ rfl
     have e2:wr.cell? ⟨ge,i*3+1,none⟩=some (.string (Am e.val)):=hcell 1 _ rfl
     have e3:wr.cell? ⟨ge,i*3+2,none⟩=some (.int .i64 e.loc):=hcell 2 _ rfl
     have hil:(i:Int)<(ne:Int):=by omega
     have hev:e.val.length≤24:=(J4.out.1 e (by rw [← he];exact Bv _ _ _ hi1)).2.2
     have Ep:=qh (fun w'=>MB w' e.val (by omega))
     have HS:Hid (H8 bs fuel 0 es=if (Aj e.val).2≠0 then none else if FK bs (Aj e.val).1 fuel<0 then none else H8 bs fuel (sum+FK bs (Aj e.val).1 fuel) (es.drop (i+1))):=by
      show _=_
      rw [← HJ.out,Eb ED es i hi1,he]
      rfl
     have Ic:Hid ((es.take (i+1)).map (jQ bs fuel)=(es.take i).map (jQ bs fuel)++[⟨e.key,0,0,0,Gg bs fuel (Aj e.val).1⟩]):=by
      show _=_
      rw [DV ED es i hi1,List.map_append,he]
      rfl
     have J2:=qh (jv e.val)
     obtain ⟨⟨r,me⟩,hm⟩:∃ q,Aj e.val=q:=⟨_,rfl⟩
     rw [hm] at Ep HS Ic J2
     dsimp only at Ep HS Ic J2
     generalize Am e.val=sx at *
     obtain ⟨key,hkey⟩:∃ k,e.key=k:=⟨_,rfl⟩
     rw [hkey] at e1 Ic
     have Vq:=qh (fun w' h hk=>yg.out w' i r h hk J2.out)
     unfold Y6 at Vq
     have HDM:Hid (0≤FK bs r fuel→FK bs r fuel=(Gg bs fuel r).length):=fun h=>(bH h).2
     have hdl:=WK.out r
     obtain ⟨dn,hdn⟩:∃ q,FK bs r fuel=q:=⟨_,rfl⟩
     obtain ⟨M0,hM0⟩:∃ q,Gg bs fuel r=q:=⟨_,rfl⟩
     rw [hdn,hM0] at Vq HDM
     rw [hdn] at HS hdl
     rw [hM0] at Ic
     clear he hm hev hcell hsrc hkey yg hdn hM0
     have XQ:=Tx.out.size
     have hbx:=AP.new wr #[.int .i64 key,.string sx,.int .i64 e.loc] 108
     have hBx:Below wr.heap.size wr (wr.alloc (.cells #[.int .i64 key,.string sx,.int .i64 e.loc] 108)):=(Below.refl _ _).alloc (Nat.le_refl _) _
     have M7:=qh hBx
     go_upto_region 9 with fail
     generalize wr.alloc (.cells #[.int .i64 key,.string sx,.int .i64 e.loc] 108)=w4x at *
     have x0:=hbx.at 0 _ rfl
     have x1:=hbx.at 1 _ rfl
     have HXB:=qh hbx
     clear hbx hBx e1 e2 e3
     by_cases hE:me=0
     · subst hE
       rw [if_neg (by simp)] at HS
       go_upto_region 12 with (go_at_call 44;(with_reducible refine (Ep.out _).mono ?_);rintro r w5 ⟨rfl,BS⟩;have Ty:=qh (HXB.out.below BS HXB.out.lt);have CE:=qh (M7.out.trans (BS.mono M7.out.size));clear BS)
       rename World=>w5
       have hs5:=CE.out.size
       have ry:=qh (R8.out.below CE.out)
       have ND:=qh (Vq.out w5 ry.out (by omega))
       have JA:=qh (Tx.out.trans (Touch.of_below CE.out))
       clear Vq Ep x0 x1 HXB M7
       by_cases hn:dn<0
       · have yG:=qh hn
         have EK:Hid (D=false):=by
          show _=_
          rw [HD.out,HS.out,if_pos hn]
          rfl
         clear hn Ty
         go_wp2_with (go_at_call 45;(with_reducible refine ND.out.mono ?_);rintro q w6 ⟨⟨hm1,hm2⟩,hH6,dS⟩;obtain rfl:=hm1 yG.out;have V4:=qh hH6;have Yj:=qh (JA.out.trans dS);clear hm1 hm2 hH6 dS)
         rename World=>w6
         refine bodyPost_ret (v:=.tuple #[.slice none 0 0,.bool false]) (by simp [results,Tryz.results21,go_sem]) rfl ⟨⟨fun _=>rfl,fun h=>absurd (h.symm.trans EK.out) (by simp)⟩,⟨V4.out.1,V4.out.2.1,V4.out.2.2.1,V4.out.2.2.2.1,V4.out.2.2.2.2.1,V4.out.2.2.2.2.2.mono (by omega)⟩,Yj.out⟩
       · have yG:Hid (0≤dn):=by show _≤_;omega
         rw [if_neg hn] at HS
         have hdm:(M0.length:Int)=dn:=(HDM.out yG.out).symm
         obtain ⟨m,hm⟩:∃ m,M0.length=m:=⟨_,rfl⟩
         have HM:=qh hm
         rw [hm] at ND hdm
         have xW:Hid (H8 bs fuel 0 es=H8 bs fuel (sum+m) (es.drop (i+1))):=by show _=_;rw [HS.out,hdm]
         have hm9:(m:Int)≤1000000000:=by omega
         clear hn HDM HS hdm hm hdl
         by_cases hbig:16384<sum+(m:Int)
         · have EK:Hid (D=false):=by
             show _=_
             rw [HD.out,xW.out,pO hbig (by omega)]
             rfl
           clear Ty
           go_wp2_with (go_at_call 45;(with_reducible refine ND.out.mono ?_);rintro q w6 ⟨⟨hm1,hm2⟩,hH6,dS⟩;obtain ⟨A9,c9,rfl,kP⟩:=hm2 yG.out;have V4:=qh hH6;have Yj:=qh (JA.out.trans dS);clear hm1 hm2 hH6 dS kP)
           rename World=>w6
           refine bodyPost_ret (v:=.tuple #[.slice none 0 0,.bool false]) (by simp [results,Tryz.results21,go_sem]) rfl ⟨⟨fun _=>rfl,fun h=>absurd (h.symm.trans EK.out) (by simp)⟩,⟨V4.out.1,V4.out.2.1,V4.out.2.2.1,V4.out.2.2.2.1,V4.out.2.2.2.2.1,V4.out.2.2.2.2.2.mono (by omega)⟩,Yj.out⟩
         · have hbig2:sum+(m:Int)≤16384:=by omega
           obtain ⟨L,aG,HL2,kS⟩:=HOW.out
           have aG:=qh aG
           have HL2:=qh (own_below HL2 CE.out (Nat.le_refl _))
           have kS:=qh (kS.below CE.out)
           have ABa:=qh (own_below TB.out CE.out (Nat.le_refl _))
           have jy:=qh ry.out.Xl
           clear hbig HOW TB CE Tx R8 ry
           go_upto_region 16 with (go_at_call 45;(with_reducible refine ND.out.mono ?_);rintro q w6 ⟨⟨hm1,hm2⟩,hH6,dS⟩;obtain ⟨A9,c9,rfl,kP⟩:=hm2 yG.out;have V4:=qh hH6;have Yj:=qh dS;have Qp:=qh kP;clear hm1 hm2 hH6 dS kP)
           rename World=>w6
           have ABb:=qh (Yy Ty.out jy.out Yj.out)
           have x0:=ABb.out.at 0 _ rfl
           have X6:=qh (IK HL2.out jy.out Yj.out)
           have ABc:=qh (kS.out.map jy.out Yj.out)
           have ABd:=qh (IK ABa.out jy.out Yj.out)
           have xC:=qh (JA.out.trans Yj.out)
           have hs6:=xC.out.size
           clear ND JA Yj HL2 kS ABa Ty jy
           obtain rfl:=HM.out
           go_wp2_with (at_builtin;go_loud (refine BA ADU rfl _ _ rfl w.heap.size (.slice A i c) i L ⟨⟨key,0,0,0,M0⟩,A9,c9⟩ rfl X6.out rfl (by omega) (by omega) ?_);intro A8 c8 w8 DI E5 Fx;have Ie:=qh DI;have Gl:=qh E5;clear DI E5 Fx)
           have Q0:Hid (Touch (fun x=>x=mb) w w8):=xC.out.trans' (Touch.BO (R:=fun x=>w.heap.size≤x) Gl.out (fun x hx=>(X6.out.lt x hx).1)) (fun x hx=>.inr hx)
           have HH8:Hid (Hn w8 S img g mb base (n+(i+1)) bs fuel):=V4.out.grown X6.out O9.out (by decide) (by decide) (by decide) Gl.out
           have HE8:Hid (w8.ownsRow w.heap.size 108 3 (.slice (some ⟨ge,0,none⟩) ne ce) ne (AB Cq es)):=BH ABd.out X6.out (by decide) Gl.out
           have HL8:Hid (∃ L:List dV,L.map dV.d=(es.take (i+1)).map (jQ bs fuel)∧w8.ownsRow w.heap.size 115 5 (.slice A8 (i+1) c8) (i+1) (AB QL L)∧EX w8 base L) :=
            ⟨L++[⟨⟨key,0,0,0,M0⟩,A9,c9⟩],by rw [List.map_append,aG.out,Ic.out];rfl,Ie.out,(ABc.out.grown X6.out (by decide) Gl.out).snoc (BH Qp.out X6.out (by decide) Gl.out)⟩
           clear Ie Gl X6 ABc aG Ic Qp V4 ABd xC ABb x0
           go_roundw
           case rel=>exact ⟨i+1,A8,c8,sum+M0.length,rfl,by go_num,by go_num,⟨by omega,by omega,by omega⟩,Q0,HH8,HE8,HL8,by show _=_;rw [xW.out]⟩
           case measure=>simp [intOf];omega
     · have mO:((me:Int) != 0)=true:=by rw [bne_iff_ne];exact hE
       have EK:Hid (D=false):=by
        show _=_
        rw [HD.out,HS.out,if_pos hE]
        rfl
       clear hE Vq
       go_wp2_with (go_at_call 44;(with_reducible refine (Ep.out _).mono ?_);rintro r w5 ⟨rfl,BS⟩;have CE:=qh (M7.out.trans (BS.mono M7.out.size));clear BS)
       rename World=>w5
       have hH5:=R8.out.below CE.out
       refine bodyPost_ret (v:=.tuple #[.slice none 0 0,.bool false]) (by simp [results,Tryz.results21,go_sem]) rfl ⟨⟨fun _=>rfl,fun h=>absurd (h.symm.trans EK.out) (by simp)⟩,⟨hH5.1,hH5.2.1,hH5.2.2.1,hH5.2.2.2.1,hH5.2.2.2.2.1,hH5.2.2.2.2.2.mono (by omega)⟩,Tx.out.trans (Touch.of_below CE.out)⟩
   · obtain rfl:i=ne:=by omega
     have EK:Hid (D=true):=by
      show _=_
      rw [HD.out,← HJ.out,List.drop_of_length_le (by rw [← ET.out];exact Nat.le_refl _)]
      show (true && decide (sum≤16384))=true
      rw [decide_eq_true AAz]
      rfl
     go_wp2_with fail
     refine bodyPost_ret (v:=.tuple #[.slice A i c,.bool true]) (by simp [results,Tryz.results21,go_sem]) rfl ⟨⟨fun h=>absurd (h.symm.trans EK.out) (by simp),fun _=>⟨A,c,by rw [List.length_map,ru.out,← ET.out],?_⟩⟩,⟨R8.out.1,R8.out.2.1,R8.out.2.2.1,R8.out.2.2.2.1,R8.out.2.2.2.2.1,R8.out.2.2.2.2.2.mono (by omega)⟩,Tx.out⟩
     obtain ⟨L,h1,h2,h3⟩:=HOW.out
     have h10:es.take i=es:=by rw [ET.out,List.take_length]
     rw [h10] at h1
     rw [List.length_map,ru.out,← ET.out]
     exact ⟨L,h1,by rw [List.length_map,← ET.out];exact h2,h3⟩
end
section
open Go.RowKit Go.Shelf
structure PS where
 r:Int
 A:Option Addr
 n:Nat
 c:Nat
def Me (x:PS):List Value:=[.slice x.A x.n x.c]
theorem R9 (x:PS):(Me x).length=1:=rfl
theorem SA:∀ (x:PS),∀ u∈Me x,u.oneCell'=true:=by
 intro x u hu
 simp only [Me,List.mem_cons,List.not_mem_nil,or_false] at hu
 rcases hu with rfl
 rfl
theorem ADr:Elem Tryz.prog 52 43 1 24 Me:=⟨Tryz.underlying52,⟨_,(by kernel_rfl:(Tryz.prog.info? 43).map (fun i=>(i.zero,i.size,i.bytes))=some (some (.slice none 0 0),1,24)),rfl⟩,by omega,by omega,R9,SA⟩
theorem ADs:Elem Tryz.prog 59 62 1 24 Me:=⟨Tryz.underlying59,⟨_,(by kernel_rfl:(Tryz.prog.info? 62).map (fun i=>(i.zero,i.size,i.bytes))=some (some (.slice none 0 0),1,24)),rfl⟩,by omega,by omega,R9,SA⟩
def Fu (w:World) (b1 base:Nat) (bs:List UInt8) (fuel:Int) (P:List PS):Prop:=∀ x∈P,x.n=(Qy bs x.r fuel).length∧Jc w b1 base (.slice x.A x.n x.c) (Qy bs x.r fuel)
def Fv (w:World) (b1:Nat) (bs:List UInt8) (fuel:Int) (P:List PS):Prop:=∀ x∈P,x.n=(LY bs x.r fuel).length∧w.ownsRow b1 126 5 (.slice x.A x.n x.c) (LY bs x.r fuel).length (AB MR ((LY bs x.r fuel).map Vf))
section
variable {w w':World} {mb b1 base:Nat} {bs:List UInt8} {fuel:Int} {P:List PS}
theorem Fu.map (h:Fu w b1 base bs fuel P) (hm:Xk w mb) (hT:Touch (fun x=>x=mb) w w'):Fu w' b1 base bs fuel P:=fun x hx=>⟨(h x hx).1,(h x hx).2.map hm hT⟩
theorem Fu.grown {b e size m:Nat} {u:Value} {xs:List Value} (h:Fu w b1 base bs fuel P) (hrow:w.ownsRow b e size u m xs) (h1:e≠137) (h2:e≠115) (hg:w.grownBy w' u.ownBlock):Fu w' b1 base bs fuel P:=fun x hx=>⟨(h x hx).1,(h x hx).2.grown hrow h1 h2 hg⟩
theorem Fu.nil:Fu w b1 base bs fuel []:=fun x hx=>by simp at hx
theorem Fu.snoc {x:PS} (h:Fu w b1 base bs fuel P) (h1:x.n=(Qy bs x.r fuel).length) (h2:Jc w b1 base (.slice x.A x.n x.c) (Qy bs x.r fuel)):Fu w b1 base bs fuel (P++[x]):=fun y hy=>by
 rcases List.mem_append.1 hy with hy|hy
 · exact h y hy
 · obtain rfl:=List.mem_singleton.1 hy
   exact ⟨h1,h2⟩
theorem Fv.below (h:Fv w b1 bs fuel P) (hB:Below w.heap.size w w'):Fv w' b1 bs fuel P:=fun x hx=>⟨(h x hx).1,own_below (h x hx).2 hB (Nat.le_refl _)⟩
theorem Fv.grown {b e size m:Nat} {u:Value} {xs:List Value} (h:Fv w b1 bs fuel P) (hrow:w.ownsRow b e size u m xs) (h1:e≠126) (hg:w.grownBy w' u.ownBlock):Fv w' b1 bs fuel P:=fun x hx=>⟨(h x hx).1,BH (h x hx).2 hrow h1 hg⟩
theorem Fv.nil:Fv w b1 bs fuel []:=fun x hx=>by simp at hx
theorem Fv.snoc {x:PS} (h:Fv w b1 bs fuel P) (h1:x.n=(LY bs x.r fuel).length) (h2:w.ownsRow b1 126 5 (.slice x.A x.n x.c) (LY bs x.r fuel).length (AB MR ((LY bs x.r fuel).map Vf))):Fv w b1 bs fuel (P++[x]):=fun y hy=>by
 rcases List.mem_append.1 hy with hy|hy
 · exact h y hy
 · obtain rfl:=List.mem_singleton.1 hy
   exact ⟨h1,h2⟩
end
end
end Go.Proofs.YtpenklpdjpkigaaGreat
