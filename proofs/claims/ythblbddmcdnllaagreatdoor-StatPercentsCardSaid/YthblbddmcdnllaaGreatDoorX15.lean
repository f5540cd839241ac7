/- A part of the proof: RFlt, WElB, WRSpan, WRText, WRVal1, WRDetail, WRForm, WRNode, WRHas14, WRead8, WVal1, WVRoot, WCodePut, WNodeW, WVal2, WRFault. -/
import Derived.Test.YthblbddmcdnllaaGreatDoorX5
import Derived.Test.YthblbddmcdnllaaGreatDoorX1
import Derived.Test.YthblbddmcdnllaaGreatDoorX8
import Derived.Test.YthblbddmcdnllaaGreatDoorX2
import Derived.Test.YthblbddmcdnllaaGreatDoorX4
import Derived.Test.YthblbddmcdnllaaGreatDoorX12
import Derived.Test.YthblbddmcdnllaaGreatDoorX7
import Derived.Test.YthblbddmcdnllaaGreatDoorY1
import Derived.Lib.Hide
import Derived.Deep.QuietTactic
import Derived.BigQuiet
import Derived.Outline
import Derived.Deep.Cut
import Derived.Deep.CutBlock
import Derived.Deep.DeepCutAuto
import Derived.Test.YthblbddmcdnllaaGreatDoorX9
import Derived.Test.YthblbddmcdnllaaGreatDoorX6
import Derived.Test.YthblbddmcdnllaaGreatDoorX11
import Derived.Test.YthblbddmcdnllaaGreatDoorX14
import Derived.Test.YthblbddmcdnllaaGreatDoorX13
import Derived.Laws.CopyOwn
import Derived.Deep.Onto
set_option maxHeartbeats 6400000
set_option linter.unusedVariables false
set_option linter.unusedSimpArgs false
namespace Go.Proofs.YthblbddmcdnllaaGreatDoor
section
open Go.RowKit
section
variable {w w':World} {S S':Nat→Prop} {v:Value} {f:Tt}
end
section
variable {w:World} {g:Nat} {T T1 T2 T3:TypeId} {a0 a1 u0 u1:Value} {cs cs1 cs2 Zv:Array Value}
theorem AL.Q6 (h:AL w g cs T) (o:Obj):AL (w.alloc o) g cs T:=(Below.heap_alloc w o g h.lt).trans h
theorem AL.two (w:World) (cs1 cs2:Array Value) (T1 T2:TypeId):AL ((w.alloc (.cells cs1 T1)).alloc (.cells cs2 T2)) w.heap.size cs1 T1∧AL ((w.alloc (.cells cs1 T1)).alloc (.cells cs2 T2)) (w.heap.size+1) cs2 T2∧Below w.heap.size w ((w.alloc (.cells cs1 T1)).alloc (.cells cs2 T2))∧((w.alloc (.cells cs1 T1)).alloc (.cells cs2 T2)).heap.size=w.heap.size+2:=by
 have e:(w.alloc (.cells cs1 T1)).heap.size=w.heap.size+1:=by simp
 refine ⟨(AL.new w cs1 T1).Q6 _,?_,((Below.refl _ _).alloc (Nat.le_refl _) _).alloc (by simp) _,by simp⟩
 have:=AL.new (w.alloc (.cells cs1 T1)) cs2 T2
 rwa [e] at this
theorem AL.three (w:World) (cs1 cs2 Zv:Array Value) (T1 T2 T3:TypeId):AL (((w.alloc (.cells cs1 T1)).alloc (.cells cs2 T2)).alloc (.cells Zv T3)) w.heap.size cs1 T1∧AL (((w.alloc (.cells cs1 T1)).alloc (.cells cs2 T2)).alloc (.cells Zv T3)) (w.heap.size+1) cs2 T2∧AL (((w.alloc (.cells cs1 T1)).alloc (.cells cs2 T2)).alloc (.cells Zv T3)) (w.heap.size+1+1) Zv T3 ∧
 Below w.heap.size w (((w.alloc (.cells cs1 T1)).alloc (.cells cs2 T2)).alloc (.cells Zv T3))∧(((w.alloc (.cells cs1 T1)).alloc (.cells cs2 T2)).alloc (.cells Zv T3)).heap.size=w.heap.size+3:=by
 obtain ⟨h1,h2,h3,h4⟩:=AL.two w cs1 cs2 T1 T2
 refine ⟨h1.Q6 _,h2.Q6 _,?_,h3.alloc (by omega) _,by simp [h4]⟩
 have:=AL.new ((w.alloc (.cells cs1 T1)).alloc (.cells cs2 T2)) Zv T3
 rwa [h4] at this
end
end
section
open Go.RowKit
theorem UE (l:List UInt8):(BJ l).toList=l:=by unfold BJ;rw [ByteArray.toList_mk]
end
section
open Go.RowKit
attribute [local go_sem] Oper.semAt_some
end
section
open Go.RowKit
attribute [local go_sem] Oper.semAt_some
end
section
open Go.RowKit
attribute [local go_sem] Oper.semAt_some
end
section
open Go.RowKit
attribute [local go_sem] Oper.semAt_some
end
section
open Go.RowKit
attribute [local go_sem] Oper.semAt_some
end
section
open Go.RowKit
attribute [local go_sem] Oper.semAt_some
end
section
open Go.RowKit
attribute [local go_sem] Oper.semAt_some
end
section
open Go.RowKit
attribute [local go_sem] Oper.semAt_some
theorem UZ:(Tryz.prog.info? 3).map (fun i=>(i.zero,i.size,i.bytes))=some (some (.int .i64 0),1,8):=by kernel_rfl
def IK (w:World) (ps:List Pt) (s:List UInt8) (e:Ending) (w':World):Prop:=∃ v,e=.returned (.tuple #[v,.int .i64 (Dm ps s).2])∧BV w' (Fu w.heap.size w'.heap.size) v (Dm ps s).1
theorem J4 (n:Nat):(madeCells (Value.int .i64 0).cells (n*1)).toList=AA encI (List.replicate n 0):=by
 rw [Bq,List.map_replicate,Nat.mul_one]
 exact toList_madeCells_one _ n
theorem IK.zeros {w w1:World} {ps:List Pt} {s:List UInt8} {E:Int} {n:Nat} {v:Value} (h:Dm ps s=(List.replicate n 0,E)) (hown:w1.ownsRow w.heap.size 3 1 v n (AA encI (List.replicate n 0))):IK w ps s (.returned (.tuple #[v,.int .i64 E])) w1:=by
 refine ⟨_,by rw [h],?_⟩
 rw [h]
 exact Bp.own (enc:=encI) (d:=(0:Int)) Bu hown (by omega)
theorem LZ (l:List UInt8):(BJ l).toList.isEmpty=l.isEmpty:=by unfold BJ;rw [ByteArray.toList_mk]
theorem Em (ps:List Pt):(Ba ps).length=ps.length:=List.length_map ..
theorem WO (ps:List Pt) (k:Nat) (h:k<ps.length):nth 0 (Ba ps) k=(nth Ir ps k).w:=by
 rw [AZ 0 _ k (by rw [Em];exact h),AZ Ir ps k h];simp [Ba]
theorem RV (ws:List Nat) (k:Nat) (h:k<ws.length):Hd (ws.take (k+1))=Hd (ws.take k)++[((nth 0 ws k:Nat):Int)]:=by
 rw [Ck 0 ws k h];simp [Hd]
set_option maxRecDepth 100000 in
theorem Ua (w:World) (S:Nat→Prop) (v:Value) (ps:List Pt) (s:List UInt8) (hS:∀ b,S b→b<w.heap.size) (h:WL w S v ps) (hok:∀ p∈ps,Qy p) (hk:ps.length≤1000) (hl:s.length≤140737488355328) :
 Calls Tryz.prog 201 #[v,.string (BJ s)] w fun e w'=>IK w ps s e w'∧Below w.heap.size w w':=by
 have h0:=h
 obtain ⟨A,c,rfl,hc,hr⟩:=h
 have HC:Hid (∀ k,k<ps.length→∃ b off,A=some ⟨b,off,none⟩∧b<w.heap.size∧∀ w',Below w.heap.size w w'→w'.cell? ⟨b,off+k*3,none⟩=some (.int .i64 ((nth 0 (Ba ps) k:Nat):Int))∧w'.cell? ⟨b,off+k*3+1,none⟩=some (.int .i64 (nth Ir ps k).lo)∧w'.cell? ⟨b,off+k*3+2,none⟩=some (.int .i64 (nth Ir ps k).hi)):=fun k hk=>by
  obtain ⟨b,off,e,hb,h1⟩:=NK hr (by omega)
  obtain ⟨a1,a2,a3⟩:=h1 k hk
  rw [WO ps k hk]
  exact ⟨b,off,e,hS b hb,fun w' hB=>⟨(hB.cell (p:=⟨b,off+k*3,none⟩) (hS b hb)).trans a1,(hB.cell (p:=⟨b,off+k*3+1,none⟩) (hS b hb)).trans a2,(hB.cell (p:=⟨b,off+k*3+2,none⟩) (hS b hb)).trans a3⟩⟩
 have qQ:∀ x∈Ba ps,Nk x:=fun x hx=>by
  obtain ⟨p,hp,rfl⟩:=List.mem_map.1 hx
  exact (hok p hp).1
 have jT:Hid (∀ k,k<ps.length→nth 0 (Ba ps) k≤8):=fun k hk=>by
  have:=qQ _ (Ci 0 (Ba ps) k (by rw [Em];exact hk))
  rcases this with h|h|h|h <;> omega
 have HIT:=qh (fun k (hk:k<ps.length)=>RV (Ba ps) k (by rw [Em];exact hk))
 have HST:=qh (fun k (hk:k<ps.length)=>Fw (Ba ps) k (by rw [Em];exact hk))
 have WK:Hid ((Ba ps).take ps.length=Ba ps):=List.take_of_length_le (by rw [Em];omega)
 have Pp:=qh (fun w' (hB:Below w.heap.size w w') vn ns (hn:BV w' (fun b=>b<w'.heap.size) vn ns) (hl:ps.length≤ns.length)=>OB w' (fun b=>b<w'.heap.size) (.slice A ps.length c) vn ps ns (fun _ h=>h) (h0.keep (AB _) (fun b hb=>Nat.lt_of_lt_of_le (hS b hb) hB.size) (AR hB hS)) hn hok hk hl)
 have wU:Hid ((Df s 0 (Ba ps)).length=ps.length):=by show _=_;rw [Fx,Em]
 have wV:Hid (Dm ps s=if s.length≠Cb (Ba ps) then (List.replicate ps.length 0,7) else if FQ s 0 (Ba ps)=true∨Fb ps (Df s 0 (Ba ps))=[] then (List.replicate ps.length 0,2) else (Df s 0 (Ba ps),0)):=rfl
 have vg:=qh (Em ps)
 have qR:=qh (fun w' vb vw (hb:AU w' (fun b=>b<w'.heap.size) vb s) (hw:BV w' (fun b=>b<w'.heap.size) vw (Hd (Ba ps))) (hs:Cb (Ba ps)≤s.length)=>LV w' (fun b=>b<w'.heap.size) vb vw s (Ba ps) (fun _ h=>h) hb hw qQ hs hl (by rw [Em];omega))
 have hsz:=IB s
 obtain ⟨i0,hi,hz0,hz1,hz2⟩:=info_parts UZ
 clear hr hok qQ h0
 generalize nX:ps.length=n at *
 have nZ:=qh nX
 generalize hns:s.length=m at *
 have jU:=qh hns
 clear nX hns
 go_enter Tryz.func201,Tryz.ntmps201
 go_wp2_with fail
 go_loopw [6,7,14] (fun vo va vi wr=>∃ (k a:Nat) (Ao:Option Addr) (co:Nat),vi=.int .i64 k∧va=.int .i64 a∧vo=.slice Ao k co∧k≤n∧a≤8*k∧Hid (a=Cb ((Ba ps).take k))∧Hid (wr.ownsRow w.heap.size 3 1 (.slice Ao k co) k (AA encI (Hd ((Ba ps).take k))))∧Hid (Below w.heap.size w wr)) (fun _ _ vi _=>n-(intOf vi).toNat)
 case atStart=>exact ⟨0,0,none,0,rfl,rfl,rfl,by omega,by omega,rfl,World.ownsRow_nil w w.heap.size 3 1,Below.refl _ _⟩
 case round =>
  obtain ⟨k,a,Ao,co,rfl,rfl,rfl,hk0,ha8,HA,HR,HB⟩:=hrel
  by_cases hlt:k<n
  · obtain ⟨b,off,rfl,hbw,hq⟩:=HC.out k hlt
    have hit:=HIT.out k hlt
    have hst:=HST.out k hlt
    have hw8:=jT.out k hlt
    obtain ⟨q0,q1,q2⟩:=hq wr HB.out
    generalize nth 0 (Ba ps) k=x at *
    generalize (nth Ir ps k).lo=lo at *
    generalize (nth Ir ps k).hi=hi' at *
    have qV:=qh hit
    have IV:=qh hst
    have hz:=HB.out.size
    have h2:=heap_alloc_new wr (.cells #[.int .i64 (x:Int),.int .i64 lo,.int .i64 hi'] 246)
    clear hq hit hst
    go_upto_region 6 with fail
    have hB2:=HB.out.alloc hz (.cells #[.int .i64 (x:Int),.int .i64 lo,.int .i64 hi'] 246)
    have hr2:=HR.out.alloc (.cells #[.int .i64 (x:Int),.int .i64 lo,.int .i64 hi'] 246)
    have hg2:wr.heap.size<(wr.alloc (.cells #[.int .i64 (x:Int),.int .i64 lo,.int .i64 hi'] 246)).heap.size:=by simp
    generalize wr.alloc (.cells #[.int .i64 (x:Int),.int .i64 lo,.int .i64 hi'] 246)=w2 at *
    generalize wr.heap.size=g2 at *
    have y0:w2.cell? ⟨g2,0,none⟩=some (.int .i64 (x:Int)):=(cell_of_row _ _ 0 _ _ (0,0) h2).trans rfl
    have jV:w.heap.size≤w2.heap.size:=hB2.size
    have HB2:=qh hB2
    have HR2:=qh hr2
    have H2:=qh h2
    clear hB2 hr2 HB HR q0 q1 q2 h2
    go_wp2_with (at_builtin;go_loud (refine ED Ha rfl _ _ rfl w.heap.size (.slice Ao k co) k (Hd ((Ba ps).take k)) (x:Int) rfl HR2.out rfl (by omega) jV ?_);intro A6 cap6 w6 hown hg;have y6:w6.cell? ⟨g2,0,none⟩=some (.int .i64 (x:Int)):=(World.cell?_of_block (a:=⟨g2,0,none⟩) (hg.block g2 hg2 (BC HR2.out H2.out (by decide)))).trans y0;have OA:=qh hown;have iC:=qh hg;clear hown hg)
    go_roundw
    case rel =>
     refine ⟨k+1,a+x,A6,cap6,by go_num,by go_num,rfl,by omega,by omega,?_,?_,HB2.out.grown iC.out jV (fun i hi=>(HR2.out.lt i hi).1)⟩
     · show _=_
       rw [IV.out,← HA.out]
     · show World.ownsRow _ _ _ _ _ _ _
       rw [qV.out]
       exact OA.out
    case measure=>simp [intOf];omega
  · obtain rfl:k=n:=by omega
    rw [WK.out] at HA HR
    by_cases hs:m=a
    · have hcap:m≤grownCap wr m 0 5:=grownCap_ge wr m 0 5
      have hcv:=Nr wr s
      have hbk:=PQ wr s
      have hBb:=bytesWorld_below wr s
      rw [jU.out] at hcv
      generalize Lib.bytesWorld wr 5 (BJ s)=wB at *
      generalize grownCap wr m 0 5=cc at *
      have hun:=qR.out wB (.slice (some ⟨wr.heap.size,0,none⟩) m cc) (.slice Ao k co) (by
       have:=hbk.yz (S:=fun b=>b<wB.heap.size) (c:=cc) hbk.lt (by rw [jU.out];exact hcap)
       rw [jU.out] at this
       exact this) ((Bp.own (enc:=encI) (d:=(0:Int)) Bu (own_below HR.out hBb (Nat.le_refl _)) (by omega)).sub (AB _) (fun b hb=>hb.2)) (by rw [← HA.out,hs];exact Nat.le_refl _)
      have qW:=qh hun
      have IL:=qh (HB.out.trans (hBb.mono HB.out.size))
      have Yd:Hid (Dm ps s=if FQ s 0 (Ba ps)=true∨Fb ps (Df s 0 (Ba ps))=[] then (List.replicate k 0,2) else (Df s 0 (Ba ps),0)):=by
       show _=_
       rw [wV.out,if_neg (by rw [← HA.out];omega)]
      have d1:((m:Int) != (a:Int))=false:=by rw [bne_eq_false_iff_eq];omega
      clear hun hbk hBb hs
      cases hbig:FQ s 0 (Ba ps) with
      | true =>
       have HE:Hid (Dm ps s=(List.replicate k 0,2)):=by
        show _=_
        rw [Yd.out,if_pos (.inl hbig)]
       have ng:Hid (∀ e w',LU wB s (Ba ps) e w'→e=.returned (.tuple #[.slice none 0 0,.int .i64 2])):=fun e w' h=>by
        unfold LU at h
        rwa [if_pos hbig] at h
       clear hbig
       go_wp2_with (first
        | (go_at_call 184;refine qW.out.mono ?_;rintro e w3 ⟨hu,hB3⟩;obtain rfl:=ng.out _ _ hu;have HB3:=qh (IL.out.trans (hB3.mono IL.out.size));clear hB3 hu)
        | (at_make;go_loud (refine wpList_make_full _ rfl _ _ 62 rfl w.heap.size 3 i0 (.int .i64 0) 1 Tryz.underlying62 hi hz0 hz1 _ _ _ _ k rfl rfl rfl rfl (by rw [hz2];omega) (by unfold maxLen;omega) HB3.out.size ?_);intro w1 hown hg;rw [J4] at hown;have HO:=qh hown;have Pq:=qh hg;clear hown hg))
       go_ret2
       exact ⟨IK.zeros HE.out HO.out,HB3.out.grown Pq.out HB3.out.size (fun i hi=>by cases hi)⟩
      | false =>
       have ng:Hid (∀ e w',LU wB s (Ba ps) e w'→∃ v,e=.returned (.tuple #[v,.int .i64 0])∧BV w' (Fu wB.heap.size w'.heap.size) v (Df s 0 (Ba ps))):=fun e w' h=>by
        unfold LU at h
        rwa [if_neg (by rw [hbig];simp)] at h
       rw [hbig] at Yd
       clear hbig
       by_cases hp:Fb ps (Df s 0 (Ba ps))=[]
       · have HE:Hid (Dm ps s=(List.replicate k 0,2)):=by
           show _=_
           rw [Yd.out,if_pos (.inr hp)]
         go_upto_region 12 with (go_at_call 184;refine qW.out.mono ?_;rintro e w3 ⟨hu,hB3⟩;obtain ⟨v3,rfl,A3,c3,rfl,hc3,hr3⟩:=ng.out _ _ hu;have HB3:=qh (IL.out.trans (hB3.mono IL.out.size));have iA:=qh (Pp.out w3 HB3.out _ _ ⟨A3,c3,rfl,hc3,hr3.keep (AB _) (fun b hb=>hb.2) CU.refl⟩ (by rw [wU.out];exact Nat.le_refl _));clear hB3 hu hr3)
         rw [hp] at iA
         have e1:(BJ []).toList.isEmpty=true:=by rw [LZ];rfl
         clear hp
         go_wp2_with (first
          | (go_at_call 105;refine iA.out.mono ?_;rintro e w4 ⟨rfl,hB4⟩;have EQ:=qh (HB3.out.trans (hB4.mono HB3.out.size));clear hB4)
          | (at_make;go_loud (refine wpList_make_full _ rfl _ _ 62 rfl w.heap.size 3 i0 (.int .i64 0) 1 Tryz.underlying62 hi hz0 hz1 _ _ _ _ k rfl rfl rfl rfl (by rw [hz2];omega) (by unfold maxLen;omega) EQ.out.size ?_);intro w1 hown hg;rw [J4] at hown;have HO:=qh hown;have Pq:=qh hg;clear hown hg))
         go_ret2
         exact ⟨IK.zeros HE.out HO.out,EQ.out.grown Pq.out EQ.out.size (fun i hi=>by cases hi)⟩
       · have HE:Hid (Dm ps s=(Df s 0 (Ba ps),0)):=by
           show _=_
           rw [Yd.out,if_neg (by simp [hp])]
         go_upto_region 12 with (go_at_call 184;refine qW.out.mono ?_;rintro e w3 ⟨hu,hB3⟩;obtain ⟨v3,rfl,hi3⟩:=ng.out _ _ hu;obtain ⟨A3,c3,rfl,hc3,hr3⟩:=hi3;have HI3:Hid (BV w3 (Fu wB.heap.size w3.heap.size) (.slice A3 (Df s 0 (Ba ps)).length c3) (Df s 0 (Ba ps))):=⟨A3,c3,rfl,hc3,hr3⟩;have HB3:=qh (IL.out.trans (hB3.mono IL.out.size));have iA:=qh (Pp.out w3 HB3.out _ _ ⟨A3,c3,rfl,hc3,hr3.keep (AB _) (fun b hb=>hb.2) CU.refl⟩ (by rw [wU.out];exact Nat.le_refl _));clear hB3 hu hr3)
         have e1:(BJ (Fb ps (Df s 0 (Ba ps)))).toList.isEmpty=false:=by rw [LZ,List.isEmpty_eq_false_iff];exact hp
         generalize Fb ps (Df s 0 (Ba ps))=pv at *
         clear hp
         go_wp2_with (go_at_call 105;refine iA.out.mono ?_;rintro e w4 ⟨rfl,hB4⟩;have EQ:=qh (HB3.out.trans (hB4.mono HB3.out.size));have HI4:=qh (HI3.out.keep (S':=Fu w.heap.size w4.heap.size) (AB _) (fun b hb=>⟨by have:=hb.1;have:=IL.out.size;omega,by have:=hb.2;have:=hB4.size;omega⟩) (AR hB4 (fun b hb=>hb.2)));clear hB4)
         go_ret2
         exact ⟨⟨_,by rw [HE.out];rfl,by rw [HE.out];exact HI4.out⟩,EQ.out⟩
    · have HE:Hid (Dm ps s=(List.replicate k 0,7)):=by
        show _=_
        rw [wV.out,if_pos (by rw [← HA.out];exact hs)]
      have d1:((m:Int) != (a:Int))=true:=by rw [bne_iff_ne];omega
      clear hs
      go_wp2_with (at_make;go_loud (refine wpList_make_full _ rfl _ _ 62 rfl w.heap.size 3 i0 (.int .i64 0) 1 Tryz.underlying62 hi hz0 hz1 _ _ _ _ k rfl rfl rfl rfl (by rw [hz2];omega) (by unfold maxLen;omega) HB.out.size ?_);intro w1 hown hg;rw [J4] at hown;have HO:=qh hown;have Pq:=qh hg;clear hown hg)
      go_ret2
      exact ⟨IK.zeros HE.out HO.out,HB.out.grown Pq.out HB.out.size (fun i hi=>by cases hi)⟩
end
section
open Go.RowKit
attribute [local go_sem] Oper.semAt_some
theorem J5 {w:World} {g n:Nat} {cs:Array Value} {ps:List Pt} (S:Nat→Prop) (hS:S g) (hg:w.heap[g]? = some (.cells cs 246 (0,0))) (hcs:cs.toList=AA Mx ps) (hn:n=ps.length):WL w S (.slice (some ⟨g,0,none⟩) n n) ps :=
 Bp.block (enc:=Mx) Tw hg hcs hn (Nat.le_refl _) hS
theorem NL (w:World) (cs:Array Value) (ps:List Pt) (s:List UInt8) (n:Nat) (hn:n=ps.length) (hcs:cs.toList=AA Mx ps) (hok:∀ p∈ps,Qy p) (hk:ps.length≤1000) (hl:s.length≤140737488355328) :
 Calls Tryz.prog 201 #[.slice (some ⟨w.heap.size,0,none⟩) n n,.string (BJ s)] (w.alloc (.cells cs 246)) fun e w'=>(∃ A c,e=.returned (.tuple #[.slice A (Dm ps s).1.length c,.int .i64 (Dm ps s).2])∧(0<(Dm ps s).1.length→∃ b off,A=some ⟨b,off,none⟩∧w.heap.size<b∧b<w'.heap.size∧∀ k,k<(Dm ps s).1.length→w'.cell? ⟨b,off+k,none⟩=some (.int .i64 (nth 0 (Dm ps s).1 k))))∧Below w.heap.size w w':=by
 refine (Ua (w.alloc (.cells cs 246)) (fun b=>b=w.heap.size) _ ps s (fun b hb=>by subst hb;simp) (J5 _ rfl (heap_alloc_new w _) hcs hn) hok hk hl).mono ?_
 rintro e w' ⟨⟨v,rfl,A,c,rfl,hc,hr⟩,hB⟩
 refine ⟨⟨A,c,rfl,fun h=>?_⟩,((Below.refl w.heap.size w).alloc (Nat.le_refl _) _).trans (hB.mono (by simp))⟩
 obtain ⟨b,off,e,hb,h1⟩:=Be hr h
 exact ⟨b,off,e,by have:=hb.1;simp at this;omega,hb.2,h1⟩
theorem La (w:World):Calls Tryz.prog 106 #[] w fun e w'=>e=.returned (.slice (some ⟨w.heap.size,0,none⟩) 1 1)∧w'=w.alloc (.cells #[.int .i64 4,.int .i64 1,.int .i64 14399] 246):=by
 go_enter Tryz.func106,Tryz.ntmps106
 go_wp2
 go_ret
 exact ⟨rfl,rfl⟩
theorem OC (w:World) (s:List UInt8) (hl:s.length≤140737488355328) :
 Calls Tryz.prog 183 #[.string (BJ s)] w fun e w'=>e=.returned (.tuple #[.int .i64 (Au s).1,.int .i64 (Au s).2])∧Below w.heap.size w w':=by
 have h:=NL w #[.int .i64 4,.int .i64 1,.int .i64 14399] Fe s 1 rfl (by rfl) Jz (by decide) hl
 rw [Qz] at h
 have H:=qh h
 have HP:=qh (La w)
 clear h
 obtain ⟨n,e0⟩:∃ n,(Au s).1=n:=⟨_,rfl⟩
 obtain ⟨E,e1⟩:∃ E,(Au s).2=E:=⟨_,rfl⟩
 rw [e0,e1] at H
 rw [e0,e1]
 clear e0 e1
 go_enter Tryz.func183,Tryz.ntmps183
 go_wp2_with (first
  | (go_at_call 106;refine HP.out.mono ?_;rintro e w1 ⟨rfl,rfl⟩)
  | (go_at_call 201;refine H.out.mono ?_;rintro e w2 ⟨⟨A,c,rfl,hc⟩,hB⟩;obtain ⟨b,off,rfl,_,hb,h1⟩:=hc (by simp);have q0:w2.cell? ⟨b,off,none⟩=some (.int .i64 n):=h1 0 (by simp);clear hc h1))
 go_ret2
 exact ⟨rfl,hB⟩
end
section
open Go.RowKit
theorem Ub (w:World) (n:Int):Calls Tryz.prog 62 #[.int .i64 n] w fun e w'=>e=.returned (.string (BJ (Fb Fe [n])))∧Below w.heap.size w w':=by
 have zx:=qh (La w)
 obtain ⟨ka,kb,kB,kz⟩:=AL.two w #[.int .i64 4,.int .i64 1,.int .i64 14399] #[.int .i64 n] 246 3
 have hp:=OB ((w.alloc (.cells #[.int .i64 4,.int .i64 1,.int .i64 14399] 246)).alloc (.cells #[.int .i64 n] 3)) (fun b=>b<w.heap.size+2) (.slice (some ⟨w.heap.size,0,none⟩) 1 1) (.slice (some ⟨w.heap.size+1,0,none⟩) 1 1) Fe [n] (fun b hb=>by rw [kz];exact hb) (J5 _ (by show _<_;omega) ka (by rfl) rfl) (by
  have hr:((w.alloc (.cells #[.int .i64 4,.int .i64 1,.int .i64 14399] 246)).alloc (.cells #[.int .i64 n] 3)).ownsRow 0 3 1 (.slice (some ⟨w.heap.size+1,0,none⟩) 1 1) 1 (AA encI [n]):=⟨rfl,.inr ⟨w.heap.size+1,1,_,rfl,Nat.zero_le _,kb,Nat.le_refl _,by decide,rfl,rfl⟩⟩
  exact (Bp.own (l:=[n]) Bu hr (by omega)).sub (AB _) (fun b hb=>by have:=hb.2;rw [kz] at this;exact this)) Jz (by decide) (Nat.le_refl 1)
 have HP:=qh hp
 have HK:=qh kB
 have X3:=qh kB.size
 clear ka kb kB hp
 go_enter Tryz.func62,Tryz.ntmps62
 go_wp2_with (first
  | (go_at_call 106;(with_reducible refine zx.out.mono ?_);rintro e w2 ⟨rfl,hw⟩;rw [hw];clear hw w2)
  | (go_at_call 105;(with_reducible refine HP.out.mono ?_);rintro e w2 ⟨rfl,hB⟩;have HB:=qh hB;clear hB))
 refine bodyPost_ret (v:=.string (BJ (Fb Fe [n]))) (by simp [results,Tryz.results62,go_sem]) rfl ⟨rfl,HK.out.trans (HB.out.mono X3.out)⟩
end
section
open Go.RowKit
def En (l:List UInt8) (a:Nat) (b:List UInt8):List UInt8:=l.take a++(b++l.drop (a+b.length))
theorem JU {l b:List UInt8} {a:Nat} (h:a+b.length≤l.length):(En l a b).length=l.length:=by
 unfold En
 simp only [List.length_append,List.length_take,List.length_drop]
 omega
theorem GR {l b:List UInt8} {a:Nat}:splice (AA AX l) a (AA AX b)=AA AX (En l a b):=by
 unfold splice En
 rw [BQ,BQ,BQ]
 simp only [List.map_append,List.map_take,List.map_drop,List.length_map]
theorem Ye:(Tryz.prog.info? 5).map (·.size)=some 1:=by kernel_rfl
theorem Yf {w:World} {base e g n c:Nat} {xs:List Value} (h:w.ownsRow base e 1 (.slice (some ⟨g,0,none⟩) n c) n xs):∃ cur:List Value,w.heap[g]? = some (.cells cur.toArray e (0,0))∧n≤cur.length∧base≤g∧∀ (off:Nat) (cs:List Value) (w':World),off+cs.length≤n→w'.heap[g]? = some (.cells (splice cur off cs).toArray e (0,0)) →
 w'.ownsRow base e 1 (.slice (some ⟨g,0,none⟩) n c) n (splice xs off cs):=by
 have hl:=h.1
 rcases h.2 with ⟨hv,_⟩|⟨g',cap,cur,hv,hb,hg,hnc,hm,hcs,ht⟩
 · injection hv with e;cases e
 · injection hv with e1 e2 e3
   injection e1 with e1
   injection e1 with e1
   subst e1 e3
   refine ⟨cur.toList,by simpa using hg,by rw [Array.length_toList];omega,hb,fun off cs w' ho hw'=>⟨by simp only [splice,List.length_append,List.length_take,List.length_drop];omega,.inr ⟨g,c,_,rfl,hb,hw',hnc,hm,?_,?_⟩⟩⟩
   · simp only [splice,List.size_toArray,List.length_append,List.length_take,List.length_drop,Array.length_toList];omega
   · have ho':(cur.toList.take off).length=off:=by rw [List.length_take,Array.length_toList];omega
     unfold splice
     rw [← ht,Nat.mul_one,List.toList_toArray,List.take_append,List.take_append,ho',List.take_take,List.take_take,List.drop_take,Nat.min_eq_right (by omega),Nat.min_eq_left (show off≤n by omega),List.take_of_length_le (show cs.length≤n-off by omega),Nat.sub_sub]
set_option maxRecDepth 100000 in
theorem Ps (w:World) (S:Nat→Prop) (v:Value) (l:List UInt8) (a n x:Nat) (hS:∀ b,S b→b<w.heap.size) (h:AU w S v l) (hn:Nk n) (ha:a+n≤l.length) (hl:l.length≤1000000) (hx:x<9223372036854775808) (hf:Dq x n=true) :
 Calls Tryz.prog 125 #[v,.int .i64 a,.int .i64 n,.int .i64 x] w fun e w'=>(∃ A c,e=.returned (.tuple #[.slice A l.length c,.int .i64 0])∧w'.ownsRow w.heap.size 5 1 (.slice A l.length c) l.length (AA AX (En l a (leB n x))))∧Below w.heap.size w w':=by
 have Qk:=qh (FL w S v l hS h (by omega))
 obtain ⟨Av,cv,rfl,hc,hr⟩:=h
 have qY:=qh (M9 w Av l.length cv a n hn ha (by omega))
 have NN:=qh (Pm w x n hn)
 rw [hf] at NN
 have X5:=qh (fun u=>NJ u x n hx hn)
 unfold N8 at X5
 have Po:Hid ((leB n x).length=n):=Br n x
 have hn1:1≤n:=by rcases hn with rfl|rfl|rfl|rfl <;> omega
 have HAI:Hid (a+n≤l.length):=ha
 clear hc hr hS hx hf hn
 obtain ⟨m,hm⟩:∃ m,l.length=m:=⟨_,rfl⟩
 have HM:=qh hm
 rw [hm] at Qk qY ha hl ⊢
 clear hm
 go_enter Tryz.func125,Tryz.ntmps125
 go_upto_region 7 with (first|(go_at_call 149;(with_reducible refine qY.out.mono ?_);rintro e w2 ⟨rfl,hw⟩;rw [hw];clear hw w2)|(go_at_call 122;(with_reducible refine NN.out.mono ?_);rintro e w2 ⟨rfl,hw⟩;rw [hw];clear hw w2)|(go_at_call 141;(with_reducible refine Qk.out.mono ?_);rintro e w2 ⟨A2,c2,rfl,ho2,hB2⟩;have V9:=qh ho2;have HB2:=qh hB2;clear ho2 hB2))
 rename World=>w2
 obtain ⟨g,hA,hg,hcc,-⟩:=BS V9.out (by omega)
 subst hA
 obtain ⟨cur,WR,hcl,hbg,hput⟩:=Yf V9.out
 have bu:=qh WR
 have Pp:=qh hput
 have X7:=qh hbg
 have bv:=qh hcl
 have hai:(a:Int)≤(m:Int):=by omega
 have hac:(a:Int)≤(c2:Int):=by omega
 have jM:¬ c2=a:=by omega
 have zy:(c2==a)=false:=by rw [beq_eq_false_iff_ne];exact jM
 clear WR hput hbg hcl hg Qk qY NN
 refine AJ (T:=fun _=>false) (S:=fun w'=>Below w.heap.size w w') (by kernel_rfl) HB2.out.drew (fun hHeld=>?_)
 obtain ⟨BN,hw0⟩:∃ x,w2.drew=x:=⟨_,rfl⟩
 rw [hw0] at hHeld ⊢
 have AF:Below w.heap.size w BN:=hHeld
 have hkW:Below w2.heap.size w2 BN:=by rw [← hw0];exact (Below.refl w2.heap.size w2).drew
 clear hHeld hw0
 refine qs 0 25 AF ?_
 refine qs 1 26 AF ?_
 refine qs 2 27 AF ?_
 refine qs 3 28 AF ?_
 refine qs 4 29 AF ?_
 refine qo 5 fun K hK=>?_
 go_simp
 refine (X5.out BN).mono ?_
 rintro e BP ⟨⟨A5,c5,rfl,IW⟩,CB⟩
 have AF:=AF.trans (CB.mono AF.size)
 have hkW:=hkW.trans (CB.mono hkW.size)
 clear CB
 refine hK.out _ _ (fun _=>AF) (fun Cq=>?_)
 clear hK K Cq
 (try simp only [Act.put,qS,qZ,qU])
 refine qo 6 fun K hK=>?_
 obtain ⟨g5,qa,-,-,hs5⟩:=BS IW (by omega)
 subst qa
 refine step_copy_splice rfl _ _ 82 82 rfl 5 Tryz.underlying82 Ye (some ⟨g,a,none⟩) (some ⟨g5,0,none⟩) (m-a) (c2-a) n c5 rfl rfl g a cur 5 (Jt bu.out hkW) (AA AX (leB n x)) (by rw [Ad,Po.out];exact (Nat.min_eq_left (by omega)).symm) (fun _=>⟨rfl,_,rfl,hs5⟩) (by rw [Ad,Po.out];have:=bv.out;omega) (Cy _) w.heap.size w AF X7.out ?_
 intro Cz hH hBel
 have HRW:=qh (Pp.out a (AA AX (leB n x)) Cz (by rw [Ad,Po.out];omega) hH.out)
 have Ie:=qh hBel
 have AF:=hBel
 clear hH hBel hs5 IW
 refine hK.out _ _ (fun _=>AF) (fun Cq=>?_)
 clear hK K Cq
 (try simp only [Act.put,qS,qZ,qU])
 refine qd ?_
 go_wp2_with fail
 rw [GR] at HRW
 refine bodyPost_ret (v:=.tuple #[.slice (some ⟨g,0,none⟩) m c2,.int .i64 0]) (by simp [results,Tryz.results125,go_sem]) rfl ⟨⟨_,_,rfl,HRW.out⟩,Ie.out⟩
end
section
open Go.RowKit
theorem Ud (w:World) (b:Bool):Calls Tryz.prog 188 #[.bool b] w fun e w'=>e=.returned (.int .i64 (if b then 1 else 0))∧w'=w:=by
 cases b
 · go_enter Tryz.func188,Tryz.ntmps188
   go_wp2
   go_ret
   exact ⟨rfl,rfl⟩
 · go_enter Tryz.func188,Tryz.ntmps188
   go_wp2
   go_ret
   exact ⟨rfl,rfl⟩
set_option maxRecDepth 100000 in
theorem OD (w:World) (t:Int) (h1:1≤t) (h5:t≤5) :
 Calls Tryz.prog 187 #[.agg #[.int .i64 t,.bool true,.slice none 0 0,.slice none 0 0]] w fun e w'=>e=.returned (.bool true)∧Below w.heap.size w w':=by
 have iE:=qh (fun w'=>EY w' t true)
 have Yg:=qh (fun w'=>El w' t true)
 have hwc:¬ (Ah t true:Int)=0∧0≤(BH t true:Int):=by
  refine ⟨?_,by omega⟩
  rcases NA (t:=t) (by omega) (by omega) with rfl|rfl|rfl|rfl|rfl <;> decide
 obtain ⟨hw0,hm0⟩:=hwc
 generalize (Ah t true:Int)=wd at *
 generalize (BH t true:Int)=mk at *
 have hwb:(wd==0)=false:=by rw [beq_eq_false_iff_ne];exact hw0
 have hmb:decide (mk<0)=false:=decide_eq_false (by omega)
 have hbx:=AL.new w #[.int .i64 t,.bool true,.slice none 0 0,.slice none 0 0] 125
 have hBx:Below w.heap.size w (w.alloc (.cells #[.int .i64 t,.bool true,.slice none 0 0,.slice none 0 0] 125)):=(Below.refl _ _).alloc (Nat.le_refl _) _
 clear h1 h5
 go_enter Tryz.func187,Tryz.ntmps187
 go_upto_region 1 with fail
 generalize w.alloc (.cells #[.int .i64 t,.bool true,.slice none 0 0,.slice none 0 0] 125)=w1 at *
 obtain ⟨g,hg⟩:∃ q,w.heap.size=q:=⟨_,rfl⟩
 have HB1:=qh hBx
 rw [hg] at hbx ⊢
 have x0:w1.cell? ⟨g,0,none⟩=some (.int .i64 t):=hbx.at 0 _ rfl
 have x1:w1.cell? ⟨g,1,none⟩=some (.bool true):=hbx.at 1 _ rfl
 have x2:w1.cell? ⟨g,2,none⟩=some (.slice none 0 0):=hbx.at 2 _ rfl
 have x3:w1.cell? ⟨g,3,none⟩=some (.slice none 0 0):=hbx.at 3 _ rfl
 clear hbx hBx hg hw0 hm0
 go_upto_region 2 with (go_at_call 97;(with_reducible refine (iE.out _).mono ?_);rintro e w2 ⟨rfl,hw⟩;rw [hw];clear hw w2)
 go_quiet (first|(go_at_call 53;refine Calls.quiet_of_same (Yg.out _)))
 go_wp2_with fail
 have HB2:Hid (Below w.heap.size w (w1.drewN nq)):=HB1.out.trans ((Touch.drewN (R:=fun _=>False) nq).below (fun x h=>h.elim) HB1.out.size)
 generalize w1.drewN nq=w2 at *
 go_loopw [47] (fun vi wr=>vi=.int .i64 0∧wr=w2) (fun vi _=>1)
 case atStart=>exact ⟨rfl,rfl⟩
 case round =>
  obtain ⟨rfl,hwr⟩:=hrel
  rw [hwr]
  clear hwr wr
  go_wp2_with fail
  refine bodyPost_ret (v:=.bool true) (by simp [results,Tryz.results187,go_sem]) rfl ⟨rfl,HB2.out⟩
def GU (t:Int):List (Nat × Int):=[(1,1),(1,t),(2,0),(2,(Ah t true:Int)),(2,(BH t true:Int)),(4,0)]
def NP:List UInt8:=List.replicate 244 0
def Cr (t:Int):List UInt8:=En NP 0 (Aj (GU t))
theorem Ue {t:Int} (h1:1≤t) (h5:t≤5):∀ f∈GU t,EG f:=by
 rcases NA (t:=t) (by omega) (by omega) with rfl|rfl|rfl|rfl|rfl <;>
 · intro f hf
   simp only [GU,List.mem_cons,List.not_mem_nil,or_false] at hf
   rcases hf with rfl|rfl|rfl|rfl|rfl|rfl <;> (unfold EG Nk;decide)
theorem IM (t:Int) (h1:1≤t) (h5:t≤5):(Cr t).length=244:=by
 unfold Cr
 rw [JU]
 · unfold NP;rw [List.length_replicate]
 · rw [Dg]
   unfold NP GU
   rw [List.length_replicate]
   simp only [List.map_cons,List.map_nil,Cb]
   omega
end
section
open Go.RowKit
attribute [local go_sem] Oper.semAt_some
end
section
open Go.RowKit
attribute [local go_sem] Oper.semAt_some
end
end Go.Proofs.YthblbddmcdnllaaGreatDoor
