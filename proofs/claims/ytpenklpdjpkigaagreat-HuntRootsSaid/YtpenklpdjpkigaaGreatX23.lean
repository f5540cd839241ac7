/- A part of the proof: RHunt3. -/
import Derived.Test.YtpenklpdjpkigaaGreatX22
import Derived.Test.YtpenklpdjpkigaaGreatY12
import Derived.Test.YtpenklpdjpkigaaGreatY1
set_option maxHeartbeats 6400000
set_option linter.unusedVariables false
set_option linter.unusedSimpArgs false
namespace Go.Proofs.YtpenklpdjpkigaaGreat
section
open Go.RowKit Go.Shelf
def Xj (l:List Kq):Bool:=l.any fun e=>decide ((CP e.val).2≠0)
def N9 (bs:List UInt8) (root fuel:Int):Bool:=Dx (Az bs root 3 fuel) && !Xj (Az bs root 3 fuel).AO
theorem Yw {l:List Kq} {i:Nat} (hi:i<l.length) (h:(CP (nth ED l i).val).2≠0):Xj l=true:=by
 unfold Xj
 rw [List.any_eq_true]
 exact ⟨nth ED l i,Bv _ _ _ hi,by simp only [decide_eq_true_eq];exact h⟩
theorem R5 {l:List Kq} (h:∀ j,j<l.length→(CP (nth ED l j).val).2=0):Xj l=false:=by
 unfold Xj
 rw [List.any_eq_false]
 intro e he
 obtain ⟨j,hj,rfl⟩:=List.getElem_of_mem he
 have:=h j hj
 simp only [decide_eq_true_eq]
 intro e2
 apply e2
 unfold nth at this
 rw [List.getD_eq_getElem?_getD,List.getElem?_eq_getElem hj] at this
 exact this
set_option maxRecDepth 100000 in
theorem Tg (w:World) (S:Nat→Prop) (a:Nat) (bs:List UInt8) (root fuel:Int) (hS:∀ b,S b→b<w.heap.size) (h:Hq w S a bs) (hf:fuel≤9999999) :
 Calls Tryz.prog 25 #[.pointer (some ⟨a,0,none⟩),.int .i64 root,.int .i64 fuel] w fun e w'=>e=.returned (.bool (N9 bs root fuel))∧Below w.heap.size w w':=by
 have HW1:=qh (MQ w S a bs root 3 fuel hS h hf)
 have J4:=qh (GM bs root 3 fuel)
 have HLEN:=qh (Ht bs root 3 fuel hf)
 have HD:Hid (N9 bs root fuel=(Dx (Az bs root 3 fuel) && !Xj (Az bs root 3 fuel).AO)):=rfl
 obtain ⟨st,hst⟩:∃ st,Az bs root 3 fuel=st:=⟨_,rfl⟩
 rw [hst] at HW1 J4 HLEN HD
 obtain ⟨D,hD⟩:∃ D,N9 bs root fuel=D:=⟨_,rfl⟩
 rw [hD] at HD ⊢
 unfold LX at HW1
 obtain ⟨B,hB⟩:∃ B,Dx st=B:=⟨_,rfl⟩
 rw [hB] at HW1 HD
 clear h hS hf hst hD hB
 go_enter Tryz.func25,Tryz.ntmps25
 go_upto_region 2 with (go_at_call 46;(with_reducible refine HW1.out.mono ?_);rintro e w4 ⟨⟨Ae,ne,ce,rfl,hrow⟩,hB4⟩;have HRW:=qh hrow;have CL:=qh hB4;clear hrow hB4)
 clear HW1
 cases B with
 | false =>
  have EK:Hid (D=false):=by show _=_;rw [HD.out];rfl
  by_cases h0:(0:Int)<(ne:Int)
  · have h0d:decide ((0:Int)<(ne:Int))=true:=decide_eq_true h0
    go_wp2_with fail
    go_loopw [9] (fun vi wr=>vi=.int .i64 0∧wr=w4) (fun vi _=>1)
    case atStart=>exact ⟨rfl,rfl⟩
    case round =>
     obtain ⟨rfl,hwr⟩:=hrel
     rw [hwr]
     clear hwr wr
     go_wp2_with fail
     refine bodyPost_ret (v:=.bool false) (by simp [results,Tryz.results25,go_sem]) rfl ⟨by rw [EK.out],CL.out⟩
  · have h0d:decide ((0:Int)<(ne:Int))=false:=decide_eq_false h0
    have h0e:(ne:Int)≤0:=by omega
    go_wp2_with fail
    go_loopw [9] (fun vi wr=>vi=.int .i64 0∧wr=w4) (fun vi _=>1)
    case atStart=>exact ⟨rfl,rfl⟩
    case round =>
     obtain ⟨rfl,hwr⟩:=hrel
     rw [hwr]
     clear hwr wr
     go_wp2_with fail
     refine bodyPost_ret (v:=.bool false) (by simp [results,Tryz.results25,go_sem]) rfl ⟨by rw [EK.out],CL.out⟩
 | true =>
  obtain ⟨hne,hrow⟩:=HRW.out rfl
  have HR4:=qh hrow
  have ET:=qh hne
  have Vy:ne≤1000000000:=by rw [hne];exact HLEN.out
  clear hrow hne HRW HLEN
  obtain ⟨es,hes⟩:∃ es,st.AO=es:=⟨_,rfl⟩
  rw [hes] at HR4 ET J4 HD
  clear hes
  obtain ⟨g,pg,qg,rg⟩:=MJ HR4.out ET.out
  have oU:=qh pg
  have jN:=qh rg
  clear pg rg
  go_wp2_with fail
  go_loopw [9] (fun vi wr=>∃ (i:Nat),vi=.int .i64 i∧i≤ne∧Hid (Below w4.heap.size w4 wr)∧Hid (∀ j,j<i→(CP (nth ED es j).val).2=0)) (fun vi _=>ne-(intOf vi).toNat)
  case atStart=>exact ⟨0,rfl,Nat.zero_le _,Below.refl _ _,fun j hj=>by omega⟩
  case round =>
   obtain ⟨i,rfl,hi,Cy,HJ⟩:=hrel
   by_cases hlt:i<ne
   · obtain ⟨rfl,hg⟩:=oU.out (by omega)
     have hi1:i<es.length:=by rw [← ET.out];exact hlt
     obtain ⟨e,he⟩:∃ e,nth ED es i=e:=⟨_,rfl⟩
     have x1:wr.cell? ⟨g,i*3+1,none⟩=some (.string (Am e.val)):=AQ Cy.out hg (jN.out i 1 _ hi1 (by rw [he];rfl))
     have hil:(i:Int)<(ne:Int):=by omega
     have hev:e.val.length≤24:=(J4.out.1 e (by rw [← he];exact Bv _ _ _ hi1)).2.2
     have Ep:=qh (Ns wr e.val (by omega))
     have HE:=qh he
     obtain ⟨⟨⟨dm,dt,dd,ds⟩,me⟩,hm⟩:∃ q,CP e.val=q:=⟨_,rfl⟩
     have HM:=qh hm
     rw [hm] at Ep
     dsimp only at Ep
     generalize Am e.val=sx at *
     have HI1:=qh hi1
     clear he hm hev hi1
     by_cases hE:me=0
     · have HJ2:Hid (∀ j,j<i+1→(CP (nth ED es j).val).2=0):=fun j hj=>by
         by_cases hji:j<i
         · exact HJ.out j hji
         · obtain rfl:j=i:=by omega
           rw [HE.out,HM.out];exact hE
       subst hE
       go_wp2_with (go_at_call 50;(with_reducible refine Ep.out.mono ?_);rintro r w6 ⟨rfl,EG⟩;have Dz:=qh (Cy.out.trans (EG.mono Cy.out.size));clear EG)
       have Ew:Hid (Below w4.heap.size w4 (w6.alloc (.cells #[.int .i64 dm,.int .i64 dt,.int .i64 dd,.int .i64 ds] 122))):=Dz.out.trans (((Below.refl _ _).alloc (Nat.le_refl _) _).mono Dz.out.size)
       go_roundw
       case rel=>exact ⟨i+1,by go_num,by omega,Ew,HJ2⟩
       case measure=>simp [intOf];omega
     · have mO:((me:Int) != 0)=true:=by rw [bne_iff_ne];exact hE
       have EK:Hid (D=false):=by
        show _=_
        rw [HD.out,Yw HI1.out (by rw [HE.out,HM.out];exact hE)]
        rfl
       clear hE
       go_wp2_with (go_at_call 50;(with_reducible refine Ep.out.mono ?_);rintro r w6 ⟨rfl,EG⟩;have Dz:=qh (Cy.out.trans (EG.mono Cy.out.size));clear EG)
       have Ew:Hid (Below w4.heap.size w4 (w6.alloc (.cells #[.int .i64 dm,.int .i64 dt,.int .i64 dd,.int .i64 ds] 122))):=Dz.out.trans (((Below.refl _ _).alloc (Nat.le_refl _) _).mono Dz.out.size)
       refine bodyPost_ret (v:=.bool false) (by simp [results,Tryz.results25,go_sem]) rfl ⟨by rw [EK.out],CL.out.trans (Ew.out.mono CL.out.size)⟩
   · obtain rfl:i=ne:=by omega
     have EK:Hid (D=true):=by
      show _=_
      rw [HD.out,R5 (by rw [← ET.out];exact HJ.out)]
      rfl
     go_wp2_with fail
     refine bodyPost_ret (v:=.bool true) (by simp [results,Tryz.results25,go_sem]) rfl ⟨by rw [EK.out],CL.out.trans (Cy.out.mono CL.out.size)⟩
end
section
open Go.RowKit Go.Shelf
def H8 (bs:List UInt8) (fuel:Int):Int→List Kq→Option Int
 | s,[]=>some s
 | s,x :: r=>if (Aj x.val).2≠0 then none else if FK bs (Aj x.val).1 fuel<0 then none else H8 bs fuel (s+FK bs (Aj x.val).1 fuel) r
def Ti:Option Int→Bool
 | none=>false
 | some s=>decide (s≤16384)
def OA (bs:List UInt8) (root fuel:Int):Bool:=Dx (Az bs root 1 fuel) && Ti (H8 bs fuel 0 (Az bs root 1 fuel).AO)
theorem Yx (bs:List UInt8) (root fuel:Int) (hf:fuel≤9999999):FK bs root fuel≤1000000000:=by
 have:=Ht bs root 2 fuel hf
 unfold FK
 split
 · omega
 · split
   · omega
   · omega
set_option maxRecDepth 100000 in
theorem jP (w:World) (S:Nat→Prop) (a:Nat) (bs:List UInt8) (root fuel:Int) (hS:∀ b,S b→b<w.heap.size) (h:Hq w S a bs) (hf:fuel≤9999999) :
 Calls Tryz.prog 22 #[.pointer (some ⟨a,0,none⟩),.int .i64 root,.int .i64 fuel] w fun e w'=>e=.returned (.bool (OA bs root fuel))∧Below w.heap.size w w':=by
 have HW1:=qh (MQ w S a bs root 1 fuel hS h hf)
 have J4:=qh (GM bs root 1 fuel)
 have HLEN:=qh (Ht bs root 1 fuel hf)
 have HD:Hid (OA bs root fuel=(Dx (Az bs root 1 fuel) && Ti (H8 bs fuel 0 (Az bs root 1 fuel).AO))):=rfl
 have YI:=qh (fun w' (hB:Below w.heap.size w w') root=>jM w' S a bs root fuel (fun b hb=>Nat.lt_of_lt_of_le (hS b hb) hB.size) (h.below hB hS) hf)
 have WK:=qh (fun root=>Yx bs root fuel hf)
 obtain ⟨st,hst⟩:∃ st,Az bs root 1 fuel=st:=⟨_,rfl⟩
 rw [hst] at HW1 J4 HLEN HD
 obtain ⟨D,hD⟩:∃ D,OA bs root fuel=D:=⟨_,rfl⟩
 rw [hD] at HD ⊢
 unfold LX at HW1
 obtain ⟨B,hB⟩:∃ B,Dx st=B:=⟨_,rfl⟩
 rw [hB] at HW1 HD
 clear h hS hf hst hD hB
 go_enter Tryz.func22,Tryz.ntmps22
 go_upto_region 2 with (go_at_call 46;(with_reducible refine HW1.out.mono ?_);rintro e w4 ⟨⟨Ae,ne,ce,rfl,hrow⟩,hB4⟩;have HRW:=qh hrow;have CL:=qh hB4;clear hrow hB4)
 clear HW1
 cases B with
 | false =>
  have EK:Hid (D=false):=by show _=_;rw [HD.out];rfl
  by_cases h0:(0:Int)<(ne:Int)
  · have h0d:decide ((0:Int)<(ne:Int))=true:=decide_eq_true h0
    go_wp2_with fail
    go_loopw [9,10] (fun vs vi wr=>vi=.int .i64 0∧vs=.int .i64 0∧wr=w4) (fun _ vi _=>1)
    case atStart=>exact ⟨rfl,rfl,rfl⟩
    case round =>
     obtain ⟨rfl,rfl,hwr⟩:=hrel
     rw [hwr]
     clear hwr wr
     go_wp2_with fail
     refine bodyPost_ret (v:=.bool false) (by simp [results,Tryz.results22,go_sem]) rfl ⟨by rw [EK.out],CL.out⟩
  · have h0d:decide ((0:Int)<(ne:Int))=false:=decide_eq_false h0
    have h0e:(ne:Int)≤0:=by omega
    go_wp2_with fail
    go_loopw [9,10] (fun vs vi wr=>vi=.int .i64 0∧vs=.int .i64 0∧wr=w4) (fun _ vi _=>1)
    case atStart=>exact ⟨rfl,rfl,rfl⟩
    case round =>
     obtain ⟨rfl,rfl,hwr⟩:=hrel
     rw [hwr]
     clear hwr wr
     go_wp2_with fail
     refine bodyPost_ret (v:=.bool false) (by simp [results,Tryz.results22,go_sem]) rfl ⟨by rw [EK.out],CL.out⟩
 | true =>
  obtain ⟨hne,hrow⟩:=HRW.out rfl
  have HR4:=qh hrow
  have ET:=qh hne
  have Vy:ne≤1000000000:=by rw [hne];exact HLEN.out
  clear hrow hne HRW HLEN
  obtain ⟨es,hes⟩:∃ es,st.AO=es:=⟨_,rfl⟩
  rw [hes] at HR4 ET J4 HD
  clear hes
  obtain ⟨g,pg,qg,rg⟩:=MJ HR4.out ET.out
  have oU:=qh pg
  have jN:=qh rg
  clear pg rg
  go_wp2_with fail
  go_loopw [9,10] (fun vs vi wr=>∃ (i:Nat) (sum:Int),vi=.int .i64 i∧vs=.int .i64 sum∧(i≤ne∧0≤sum∧sum≤1000000000*(i:Int))∧Hid (Below w4.heap.size w4 wr)∧Hid (H8 bs fuel sum (es.drop i)=H8 bs fuel 0 es)) (fun _ vi _=>ne-(intOf vi).toNat)
  case atStart=>exact ⟨0,0,rfl,rfl,⟨Nat.zero_le _,by omega,by omega⟩,Below.refl _ _,rfl⟩
  case round =>
   obtain ⟨i,sum,rfl,rfl,⟨hi,ADT,AAz⟩,Cy,HJ⟩:=hrel
   by_cases hlt:i<ne
   · obtain ⟨rfl,hg⟩:=oU.out (by omega)
     have hi1:i<es.length:=by rw [← ET.out];exact hlt
     obtain ⟨e,he⟩:∃ e,nth ED es i=e:=⟨_,rfl⟩
     have x1:wr.cell? ⟨g,i*3+1,none⟩=some (.string (Am e.val)):=AQ Cy.out hg (jN.out i 1 _ hi1 (by rw [he];rfl))
     have hil:(i:Int)<(ne:Int):=by omega
     have hev:e.val.length≤24:=(J4.out.1 e (by rw [← he];exact Bv _ _ _ hi1)).2.2
     have Ep:=qh (Kt wr e.val (by omega))
     have HS:Hid (H8 bs fuel 0 es=if (Aj e.val).2≠0 then none else if FK bs (Aj e.val).1 fuel<0 then none else H8 bs fuel (sum+FK bs (Aj e.val).1 fuel) (es.drop (i+1))):=by
      show _=_
      rw [← HJ.out,Eb ED es i hi1,he]
      rfl
     obtain ⟨⟨r,me⟩,hm⟩:∃ q,Aj e.val=q:=⟨_,rfl⟩
     rw [hm] at Ep HS
     dsimp only at Ep HS
     have vT:=qh (fun w' hB=>YI.out w' hB r)
     have hdl:=WK.out r
     obtain ⟨dn,hdn⟩:∃ q,FK bs r fuel=q:=⟨_,rfl⟩
     rw [hdn] at HS vT hdl
     generalize Am e.val=sx at *
     clear he hm hev hi1 hdn
     have HW:=qh (CL.out.trans (Cy.out.mono CL.out.size))
     by_cases hE:me=0
     · subst hE
       rw [if_neg (by simp)] at HS
       go_upto_region 9 with (go_at_call 47;(with_reducible refine Ep.out.mono ?_);rintro q w6 ⟨rfl,EG⟩;have Dz:=qh (Cy.out.trans (EG.mono Cy.out.size));clear EG)
       have AA0:=qh (vT.out w6 (CL.out.trans (Dz.out.mono CL.out.size)))
       clear Ep vT x1
       by_cases hn:dn<0
       · have hnd:decide (dn<0)=true:=decide_eq_true hn
         have EK:Hid (D=false):=by
          show _=_
          rw [HD.out,HS.out,if_pos hn]
          rfl
         go_wp2_with (go_at_call 48;(with_reducible refine AA0.out.mono ?_);rintro q w7 ⟨rfl,Ff⟩;have Ew:=qh (Dz.out.trans (Ff.mono Dz.out.size));clear Ff)
         refine bodyPost_ret (v:=.bool false) (by simp [results,Tryz.results22,go_sem]) rfl ⟨by rw [EK.out],CL.out.trans (Ew.out.mono CL.out.size)⟩
       · have hnd:decide (dn<0)=false:=decide_eq_false hn
         have hn0:0≤dn:=by omega
         rw [if_neg hn] at HS
         have HJ2:Hid (H8 bs fuel (sum+dn) (es.drop (i+1))=H8 bs fuel 0 es):=HS.out.symm
         have hwr:IntKind.i64.wrap (sum+dn)=sum+dn:=by rw [IntKind.wrap_i64];omega
         clear hn
         go_wp2_with (go_at_call 48;(with_reducible refine AA0.out.mono ?_);rintro q w7 ⟨rfl,Ff⟩;have Ew:=qh (Dz.out.trans (Ff.mono Dz.out.size));clear Ff)
         go_roundw
         case rel=>exact ⟨i+1,sum+dn,by go_num,by go_num,⟨by omega,by omega,by omega⟩,Ew,HJ2⟩
         case measure=>simp [intOf];omega
     · have mO:((me:Int) != 0)=true:=by rw [bne_iff_ne];exact hE
       have EK:Hid (D=false):=by
        show _=_
        rw [HD.out,HS.out,if_pos hE]
        rfl
       clear hE
       go_wp2_with (go_at_call 47;(with_reducible refine Ep.out.mono ?_);rintro q w6 ⟨rfl,EG⟩;have Dz:=qh (Cy.out.trans (EG.mono Cy.out.size));clear EG)
       refine bodyPost_ret (v:=.bool false) (by simp [results,Tryz.results22,go_sem]) rfl ⟨by rw [EK.out],CL.out.trans (Dz.out.mono CL.out.size)⟩
   · obtain rfl:i=ne:=by omega
     have HT:Hid (H8 bs fuel 0 es=some sum):=by
      show _=_
      rw [← HJ.out,List.drop_of_length_le (by rw [← ET.out];exact Nat.le_refl _)]
      rfl
     have EK:Hid (D=decide (sum≤16384)):=by
      show _=_
      rw [HD.out,HT.out]
      rfl
     by_cases hs:sum≤16384
     · have hsd:decide (sum≤16384)=true:=decide_eq_true hs
       rw [hsd] at EK
       go_wp2_with fail
       refine bodyPost_ret (v:=.bool true) (by simp [results,Tryz.results22,go_sem]) rfl ⟨by rw [EK.out],CL.out.trans (Cy.out.mono CL.out.size)⟩
     · have hsd:decide (sum≤16384)=false:=decide_eq_false hs
       rw [hsd] at EK
       go_wp2_with fail
       refine bodyPost_ret (v:=.bool false) (by simp [results,Tryz.results22,go_sem]) rfl ⟨by rw [EK.out],CL.out.trans (Cy.out.mono CL.out.size)⟩
end
end Go.Proofs.YtpenklpdjpkigaaGreat
