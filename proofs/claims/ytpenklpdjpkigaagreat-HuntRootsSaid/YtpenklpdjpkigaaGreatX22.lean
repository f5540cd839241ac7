/- A part of the proof: RMaps1, RHunt1. -/
import Derived.Test.YtpenklpdjpkigaaGreatX20
import Derived.Test.YtpenklpdjpkigaaGreatX12
import Derived.Test.YtpenklpdjpkigaaGreatX7
import Derived.Test.YtpenklpdjpkigaaGreatY11
import Derived.Test.YtpenklpdjpkigaaGreatY4
import Derived.Test.YtpenklpdjpkigaaGreatX21
import Derived.Test.YtpenklpdjpkigaaGreatX3
import Derived.Test.YtpenklpdjpkigaaGreatY1
set_option maxHeartbeats 6400000
set_option linter.unusedVariables false
set_option linter.unusedSimpArgs false
namespace Go.Proofs.YtpenklpdjpkigaaGreat
section
open Go.RowKit Go.Shelf
def Xi (base:Nat) (w:World) (st:WS) (Ae:Option Addr) (ne ce:Nat) (Ag:Option Addr) (ng cg:Nat) (fc:Int):Prop :=
 RF w (C9 base w.heap.size) (.agg #[.slice Ag ng cg,.int .i64 fc]) (BJ st)∧fc=(BJ st).code∧((BJ st).code=0→ne=st.AO.length∧w.ownsRow base 108 3 (.slice Ae ne ce) ne (AB Cq st.AO))
theorem Xi.of {w0 w:World} {st:WS} {e:Ending} (h:VX w0 w e st):∃ Ae ne ce Ab nb cb dp lk Af nf cf Ag ng cg fc,e=.returned (.tuple #[.agg #[.slice Ae ne ce,.slice Ab nb cb,.int .i64 dp,.int .i64 lk,.slice Af nf cf],.agg #[.slice Ag ng cg,.int .i64 fc]])∧Xi w0.heap.size w st Ae ne ce Ag ng cg fc:=by
 obtain ⟨v,fv,rfl,⟨Ag,cg,rfl,hi⟩,hv⟩:=h
 by_cases hc:(BJ st).code=0
 · rw [if_pos hc] at hv
   obtain ⟨Ae,ce,Ab,cb,Af,cf,xs,rfl,h1,_⟩:=hv
   exact ⟨Ae,_,ce,Ab,_,cb,_,_,Af,_,cf,Ag,_,cg,_,rfl,⟨Ag,cg,rfl,hi⟩,rfl,fun _=>⟨rfl,h1⟩⟩
 · rw [if_neg hc] at hv
   subst hv
   exact ⟨none,0,0,none,0,0,0,0,none,0,0,Ag,_,cg,_,rfl,⟨Ag,cg,rfl,hi⟩,rfl,fun h=>absurd h hc⟩
theorem Xi.below {base:Nat} {w w':World} {st:WS} {Ae Ag:Option Addr} {ne ce ng cg:Nat} {fc:Int} (h:Xi base w st Ae ne ce Ag ng cg fc) (hB:Below w.heap.size w w'):Xi base w' st Ae ne ce Ag ng cg fc:=by
 obtain ⟨h1,h2,h3⟩:=h
 exact ⟨h1.keep (fun b hb=>⟨hb.1,Nat.lt_of_lt_of_le hb.2 hB.size⟩) (AL hB (fun b hb=>hb.2)),h2,fun hc=>⟨(h3 hc).1,own_below (h3 hc).2 hB (Nat.le_refl _)⟩⟩
end
section
open Go.RowKit Go.Shelf
def Qx (l:List Kq):Bool:=l.any fun e=>decide ((Ed e.val).2.2≠0)
def FK (bs:List UInt8) (root fuel:Int):Int:=if (BJ (Az bs root 2 fuel)).code≠0 then -1 else if Qx (Az bs root 2 fuel).AO=true then -1 else (Az bs root 2 fuel).AO.length
theorem Tf {l:List Kq} {i:Nat} (hi:i<l.length) (h:(Ed (nth ED l i).val).2.2≠0):Qx l=true:=by
 unfold Qx
 rw [List.any_eq_true]
 exact ⟨nth ED l i,Bv _ _ _ hi,by simp only [decide_eq_true_eq];exact h⟩
theorem R3 {l:List Kq} (h:∀ j,j<l.length→(Ed (nth ED l j).val).2.2=0):Qx l=false:=by
 unfold Qx
 rw [List.any_eq_false]
 intro e he
 obtain ⟨j,hj,rfl⟩:=List.getElem_of_mem he
 have:=h j hj
 simp only [decide_eq_true_eq]
 intro e2
 apply e2
 unfold nth at this
 rw [List.getD_eq_getElem?_getD,List.getElem?_eq_getElem hj] at this
 exact this
set_option maxRecDepth 100000 in
theorem jM (w:World) (S:Nat→Prop) (a:Nat) (bs:List UInt8) (root fuel:Int) (hS:∀ b,S b→b<w.heap.size) (h:Hq w S a bs) (hf:fuel≤9999999) :
 Calls Tryz.prog 48 #[.pointer (some ⟨a,0,none⟩),.int .i64 root,.int .i64 fuel] w fun e w'=>e=.returned (.int .i64 (FK bs root fuel))∧Below w.heap.size w w':=by
 have HW1:=qh (QB w S a bs root 2 fuel hS h hf)
 have J4:=qh (GM bs root 2 fuel)
 have HLEN:=qh (Ht bs root 2 fuel hf)
 have HD:Hid (FK bs root fuel=if (BJ (Az bs root 2 fuel)).code≠0 then (-1:Int) else if Qx (Az bs root 2 fuel).AO=true then (-1:Int) else ((Az bs root 2 fuel).AO.length:Int)):=rfl
 obtain ⟨st,hst⟩:∃ st,Az bs root 2 fuel=st:=⟨_,rfl⟩
 rw [hst] at HW1 J4 HLEN HD
 obtain ⟨D,hD⟩:∃ D,FK bs root fuel=D:=⟨_,rfl⟩
 rw [hD] at HD ⊢
 clear h hS hf hst hD
 go_enter Tryz.func48,Tryz.ntmps48
 go_upto_region 2 with (go_at_call 60;(with_reducible refine HW1.out.mono ?_);rintro e w2 ⟨TY,hB2⟩;obtain ⟨Ae,ne,ce,Ab,nb,cb,dp,lk,Af,nf,cf,Ag,ng,cg,fc,rfl,hv⟩:=Xi.of TY;have HV:=qh hv;have HB2:=qh hB2;clear hv hB2 TY)
 obtain ⟨kw,kf,kB,kz⟩:=AP.two w2 #[.slice Ae ne ce,.slice Ab nb cb,.int .i64 dp,.int .i64 lk,.slice Af nf cf] #[.slice Ag ng cg,.int .i64 fc] 145 78
 have oQ:=qh (HV.out.below kB)
 generalize (w2.alloc (.cells #[.slice Ae ne ce,.slice Ab nb cb,.int .i64 dp,.int .i64 lk,.slice Af nf cf] 145)).alloc (.cells #[.slice Ag ng cg,.int .i64 fc] 78)=w4 at *
 have CL:=qh (HB2.out.trans (kB.mono HB2.out.size))
 obtain ⟨gw,hgw⟩:∃ q,w2.heap.size=q:=⟨_,rfl⟩
 rw [hgw] at kw kf ⊢
 have HKW:=qh kw
 have f1:=kf.at 1 _ rfl
 have d0:=kw.at 0 _ rfl
 clear kw kf kB kz hgw HV HW1
 obtain rfl:fc=(BJ st).code:=oQ.out.2.1
 by_cases hc:(BJ st).code=0
 · obtain ⟨hne,hrow⟩:=oQ.out.2.2 hc
   have HR4:=qh hrow
   have ET:=qh hne
   rw [if_neg (by rw [hc];simp)] at HD
   rw [hc] at f1
   have Vy:ne≤1000000000:=by rw [hne];exact HLEN.out
   clear hrow hne hc oQ HLEN d0
   obtain ⟨es,hes⟩:∃ es,st.AO=es:=⟨_,rfl⟩
   rw [hes] at HR4 ET J4 HD
   clear hes
   obtain ⟨g,pg,qg,rg⟩:=MJ HR4.out ET.out
   have oU:=qh pg
   have jN:=qh rg
   clear pg rg
   go_wp2_with fail
   go_loopw [9] (fun vi wr=>∃ (i:Nat),vi=.int .i64 i∧i≤ne∧Hid (Below w4.heap.size w4 wr)∧Hid (∀ j,j<i→(Ed (nth ED es j).val).2.2=0)) (fun vi _=>ne-(intOf vi).toNat)
   case atStart=>exact ⟨0,rfl,Nat.zero_le _,Below.refl _ _,fun j hj=>by omega⟩
   case round =>
    obtain ⟨i,rfl,hi,Cy,HJ⟩:=hrel
    have d0:=(HKW.out.below Cy.out HKW.out.lt).at 0 _ rfl
    by_cases hlt:i<ne
    · obtain ⟨hA,hg⟩:=oU.out (by omega)
      rw [hA] at d0
      have hi1:i<es.length:=by rw [← ET.out];exact hlt
      obtain ⟨e,he⟩:∃ e,nth ED es i=e:=⟨_,rfl⟩
      have x1:wr.cell? ⟨g,i*3+1,none⟩=some (.string (Am e.val)):=AQ Cy.out hg (jN.out i 1 _ hi1 (by rw [he];rfl))
      have hil:(i:Int)<(ne:Int):=by omega
      have hev:e.val.length≤24:=(J4.out.1 e (by rw [← he];exact Bv _ _ _ hi1)).2.2
      have Ep:=qh (Sq wr e.val (by omega))
      have HE:=qh he
      obtain ⟨⟨mb,mt,me⟩,hm⟩:∃ q,Ed e.val=q:=⟨_,rfl⟩
      have HM:=qh hm
      rw [hm] at Ep
      dsimp only at Ep
      generalize Am e.val=sx at *
      have HI1:=qh hi1
      clear he hm hev hA hi1
      by_cases hE:me=0
      · have HJ2:Hid (∀ j,j<i+1→(Ed (nth ED es j).val).2.2=0):=fun j hj=>by
          by_cases hji:j<i
          · exact HJ.out j hji
          · obtain rfl:j=i:=by omega
            rw [HE.out,HM.out];exact hE
        subst hE
        go_wp2_with (go_at_call 86;(with_reducible refine Ep.out.mono ?_);rintro r w6 ⟨rfl,EG⟩;have Dz:=qh (Cy.out.trans (EG.mono Cy.out.size));clear EG)
        go_roundw
        case rel=>exact ⟨i+1,by go_num,by omega,Dz,HJ2⟩
        case measure=>simp [intOf];omega
      · have mO:((me:Int) != 0)=true:=by rw [bne_iff_ne];exact hE
        have EK:Hid (D = -1):=by
         show _=_
         rw [HD.out,if_pos (Tf HI1.out (by rw [HE.out,HM.out];exact hE))]
        clear hE
        go_wp2_with (go_at_call 86;(with_reducible refine Ep.out.mono ?_);rintro r w6 ⟨rfl,EG⟩;have Dz:=qh (Cy.out.trans (EG.mono Cy.out.size));clear EG)
        refine bodyPost_ret (v:=.int .i64 (-1)) (by simp [results,Tryz.results48,go_sem]) rfl ⟨by rw [EK.out],CL.out.trans (Dz.out.mono CL.out.size)⟩
    · obtain rfl:i=ne:=by omega
      have EK:Hid (D=(i:Int)):=by
       show _=_
       rw [HD.out,if_neg (by rw [R3 (by rw [← ET.out];exact HJ.out)];simp),ET.out]
      go_wp2_with fail
      refine bodyPost_ret (v:=.int .i64 (i:Int)) (by simp [results,Tryz.results48,go_sem]) rfl ⟨by rw [EK.out],CL.out.trans (Cy.out.mono CL.out.size)⟩
 · have hcb:(((BJ st).code:Int) != 0)=true:=by rw [bne_iff_ne];exact hc
   have EK:Hid (D = -1):=by show _=_;rw [HD.out,if_pos hc]
   clear hc oQ
   generalize (BJ st).code=fcd at *
   go_wp2_with fail
   refine bodyPost_ret (v:=.int .i64 (-1)) (by simp [results,Tryz.results48,go_sem]) rfl ⟨by rw [EK.out],CL.out⟩
def QJ (l:List Kq):Bool:=l.any fun e=>decide (16777215<e.key)
def Dx (st:WS):Bool:=decide ((BJ st).code=0) && decide (st.AO.length≤4096) && !QJ st.AO
theorem Yv {l:List Kq} {i:Nat} (hi:i<l.length) (h:16777215<(nth ED l i).key):QJ l=true:=by
 unfold QJ
 rw [List.any_eq_true]
 exact ⟨nth ED l i,Bv _ _ _ hi,by simp only [decide_eq_true_eq];exact h⟩
theorem R4 {l:List Kq} (h:∀ j,j<l.length→¬ 16777215<(nth ED l j).key):QJ l=false:=by
 unfold QJ
 rw [List.any_eq_false]
 intro e he
 obtain ⟨j,hj,rfl⟩:=List.getElem_of_mem he
 have:=h j hj
 simp only [decide_eq_true_eq]
 intro e2
 apply this
 unfold nth
 rw [List.getD_eq_getElem?_getD,List.getElem?_eq_getElem hj]
 exact e2
def LX (w0:World) (st:WS) (e:Ending) (w:World):Prop:=∃ A n c,e=.returned (.tuple #[.slice A n c,.bool (Dx st)])∧(Dx st=true→n=st.AO.length∧w.ownsRow w0.heap.size 108 3 (.slice A n c) n (AB Cq st.AO))
set_option maxRecDepth 100000 in
theorem MQ (w:World) (S:Nat→Prop) (a:Nat) (bs:List UInt8) (root tree fuel:Int) (hS:∀ b,S b→b<w.heap.size) (h:Hq w S a bs) (hf:fuel≤9999999) :
 Calls Tryz.prog 46 #[.pointer (some ⟨a,0,none⟩),.int .i64 root,.int .i64 tree,.int .i64 fuel] w fun e w'=>LX w (Az bs root tree fuel) e w'∧Below w.heap.size w w':=by
 have HW1:=qh (QB w S a bs root tree fuel hS h hf)
 have HLEN:=qh (Ht bs root tree fuel hf)
 obtain ⟨st,hst⟩:∃ st,Az bs root tree fuel=st:=⟨_,rfl⟩
 rw [hst] at HW1 HLEN ⊢
 have HD:Hid (Dx st=(decide ((BJ st).code=0) && decide (st.AO.length≤4096) && !QJ st.AO)):=rfl
 clear h hS hf hst
 go_enter Tryz.func46,Tryz.ntmps46
 go_upto_region 2 with (go_at_call 60;(with_reducible refine HW1.out.mono ?_);rintro e w2 ⟨TY,hB2⟩;obtain ⟨Ae,ne,ce,Ab,nb,cb,dp,lk,Af,nf,cf,Ag,ng,cg,fc,rfl,hv⟩:=Xi.of TY;have HV:=qh hv;have HB2:=qh hB2;clear hv hB2 TY)
 obtain ⟨kw,kf,kB,kz⟩:=AP.two w2 #[.slice Ae ne ce,.slice Ab nb cb,.int .i64 dp,.int .i64 lk,.slice Af nf cf] #[.slice Ag ng cg,.int .i64 fc] 145 78
 have oQ:=qh (HV.out.below kB)
 generalize (w2.alloc (.cells #[.slice Ae ne ce,.slice Ab nb cb,.int .i64 dp,.int .i64 lk,.slice Af nf cf] 145)).alloc (.cells #[.slice Ag ng cg,.int .i64 fc] 78)=w4 at *
 have CL:=qh (HB2.out.trans (kB.mono HB2.out.size))
 obtain ⟨gw,hgw⟩:∃ q,w2.heap.size=q:=⟨_,rfl⟩
 rw [hgw] at kw kf ⊢
 have HKW:=qh kw
 have f1:=kf.at 1 _ rfl
 have d0:=kw.at 0 _ rfl
 clear kw kf kB kz hgw HV HW1
 obtain rfl:fc=(BJ st).code:=oQ.out.2.1
 by_cases hc:(BJ st).code=0
 · obtain ⟨hne,hrow⟩:=oQ.out.2.2 hc
   have HR4:=qh hrow
   have ET:=qh hne
   have xZ:=qh hc
   rw [hc] at f1
   have Vy:ne≤1000000000:=by rw [hne];exact HLEN.out
   clear hrow hne hc oQ HLEN
   by_cases hn:4096<ne
   · have hni:(4096:Int)<(ne:Int):=by omega
     have hnd:decide ((4096:Int)<(ne:Int))=true:=decide_eq_true hni
     have EK:Hid (Dx st=false):=by
      show _=_
      rw [HD.out,decide_eq_false (show ¬ st.AO.length≤4096 by rw [← ET.out];omega)]
      simp
     clear hn
     go_wp2_with fail
     refine bodyPost_ret (v:=.tuple #[.slice none 0 0,.bool false]) (by simp [results,Tryz.results46,go_sem]) rfl ⟨⟨none,0,0,by rw [EK.out],fun h=>by rw [EK.out] at h;cases h⟩,CL.out⟩
   · have hni:(ne:Int)≤4096:=by omega
     have hnd:decide ((4096:Int)<(ne:Int))=false:=decide_eq_false (by omega)
     have JZ:Hid (st.AO.length≤4096):=by show _≤_;rw [← ET.out];omega
     clear hn
     obtain ⟨g,pg,qg,rg⟩:=MJ HR4.out ET.out
     have oU:=qh pg
     have jN:=qh rg
     clear pg rg
     go_wp2_with fail
     go_loopw [12] (fun vi wr=>∃ (i:Nat),vi=.int .i64 i∧i≤ne∧wr=w4∧Hid (∀ j,j<i→¬ 16777215<(nth ED st.AO j).key)) (fun vi _=>ne-(intOf vi).toNat)
     case atStart=>exact ⟨0,rfl,Nat.zero_le _,rfl,fun j hj=>by omega⟩
     case round =>
      obtain ⟨i,rfl,hi,hwr,HJ⟩:=hrel
      rw [hwr]
      clear hwr wr
      by_cases hlt:i<ne
      · obtain ⟨hA,hg⟩:=oU.out (by omega)
        have hi1:i<st.AO.length:=by rw [← ET.out];exact hlt
        obtain ⟨e,he⟩:∃ e,nth ED st.AO i=e:=⟨_,rfl⟩
        have x1:w4.cell? ⟨g,i*3,none⟩=some (.int .i64 e.key):=jN.out i 0 _ hi1 (by rw [he];rfl)
        have hil:(i:Int)<(ne:Int):=by omega
        have d1:=d0
        rw [hA] at d1
        have HK:Hid ((nth ED st.AO i).key=e.key):=by show _=_;rw [he]
        have HI1:=qh hi1
        have HD0:=qh d0
        clear he
        generalize e.key=k at *
        clear d0 hA hi1
        by_cases hE:16777215<k
        · have hkd:decide (16777215<k)=true:=decide_eq_true hE
          have EK:Hid (Dx st=false):=by
           show _=_
           rw [HD.out,Yv HI1.out (by rw [HK.out];exact hE)]
           simp
          go_wp2_with fail
          refine bodyPost_ret (v:=.tuple #[.slice none 0 0,.bool false]) (by simp [results,Tryz.results46,go_sem]) rfl ⟨⟨none,0,0,by rw [EK.out],fun h=>by rw [EK.out] at h;cases h⟩,CL.out⟩
        · have hkd:decide (16777215<k)=false:=decide_eq_false hE
          have hk2:k≤16777215:=by omega
          have HJ2:Hid (∀ j,j<i+1→¬ 16777215<(nth ED st.AO j).key):=fun j hj=>by
           by_cases hji:j<i
           · exact HJ.out j hji
           · obtain rfl:j=i:=by omega
             rw [HK.out];exact hE
          clear hE
          go_wp2_with fail
          go_roundw
          case rel=>exact ⟨i+1,by go_num,by omega,by trivial,HJ2⟩
          case measure=>simp [intOf];omega
      · obtain rfl:i=ne:=by omega
        have EK:Hid (Dx st=true):=by
         show _=_
         rw [HD.out,decide_eq_true xZ.out,decide_eq_true JZ.out,R4 (by rw [← ET.out];exact HJ.out)]
         rfl
        go_wp2_with fail
        refine bodyPost_ret (v:=.tuple #[.slice Ae i ce,.bool true]) (by simp [results,Tryz.results46,go_sem]) rfl ⟨⟨Ae,i,ce,by rw [EK.out],fun _=>⟨ET.out,HR4.out⟩⟩,CL.out⟩
 · have hcb:(((BJ st).code:Int) != 0)=true:=by rw [bne_iff_ne];exact hc
   have EK:Hid (Dx st=false):=by
    show _=_
    rw [HD.out,decide_eq_false hc]
    rfl
   clear hc oQ
   generalize (BJ st).code=fcd at *
   go_wp2_with fail
   refine bodyPost_ret (v:=.tuple #[.slice none 0 0,.bool false]) (by simp [results,Tryz.results46,go_sem]) rfl ⟨⟨none,0,0,by rw [EK.out],fun h=>by rw [EK.out] at h;cases h⟩,CL.out⟩
end
end Go.Proofs.YtpenklpdjpkigaaGreat
