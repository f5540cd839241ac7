/- Part 13 of the proof: WRNode, WRHas14, WBytes1, WPack. -/
import Derived.Test.YtpenklpdjpkigaaGreatY12
import Derived.Test.YtpenklpdjpkigaaGreatY10
import Derived.Test.YtpenklpdjpkigaaGreatY11
import Derived.Test.YtpenklpdjpkigaaGreatY5
import Derived.Test.YtpenklpdjpkigaaGreatY4
import Derived.Test.YtpenklpdjpkigaaGreatY1
import Derived.Deep.Onto
import Derived.Deep.Cut
import Derived.Deep.DeepCutAuto
import Derived.Test.YtpenklpdjpkigaaGreatY2
set_option maxHeartbeats 6400000
set_option linter.unusedVariables false
set_option linter.unusedSimpArgs false
namespace Go.Proofs.YtpenklpdjpkigaaGreat
section
open Go.RowKit
attribute [local go_sem] Oper.semAt_some
theorem fe {l:List UInt8} {a:Nat} (h:a+1<l.length):AC l a 2=(nth 0 l a).toNat+256*(nth 0 l (a+1)).toNat:=by
 unfold AC
 rw [G6 (by omega),G6 (by omega)]
 simp [BN,EL]
set_option maxRecDepth 100000 in
theorem Qn (w:World) (S:Nat→Prop) (v:Value) (l:List UInt8) (hS:∀ b,S b→b<w.heap.size) (h:AX w S v l) (hlen:l.length=244) :
 Calls Tryz.prog 231 #[v] w fun e w'=>Eu w l e w'∧Below w.heap.size w w':=by
 have ym:=qh (fun w' (hB:Below w.heap.size w w')=>Zr w' S v l (fun b hb=>Nat.lt_of_lt_of_le (hS b hb) hB.size) (h.keep (AA _) (fun _ h=>h) (AL hB hS)) hlen)
 have hB1:Below w.heap.size w (w.alloc (.cells #[.int .i64 0,.bool false,.slice none 0 0,.slice none 0 0] 173)):=(Below.refl _ _).alloc (Nat.le_refl _) _
 have hr1:AU (w.alloc (.cells #[.int .i64 0,.bool false,.slice none 0 0,.slice none 0 0] 173)) w.heap.size 0 false (.slice none 0 0) (.slice none 0 0):=heap_alloc_new w _
 have tF:=qh (ym.out _ hB1)
 obtain ⟨A,c,rfl,hc,hr⟩:=h
 obtain ⟨b,off,rfl,hSb,hcl⟩:=BU hr (by omega)
 have OO:=qh (YP hlen)
 have HE7:=qh (fun h=>JN (l:=l) h)
 rw [hlen] at hc tF ⊢
 go_enter Tryz.func231,Tryz.ntmps231
 go_upto_region 1 with fail
 generalize w.alloc (.cells #[.int .i64 0,.bool false,.slice none 0 0,.slice none 0 0] 173)=w1 at *
 by_cases hform:Gr l=true
 case neg =>
  have lw:Gr l=false:=by simpa using hform
  have HE:=qh (HE7.out lw)
  have HS2:Hid (Calls Tryz.prog 241 #[.slice (some ⟨b,off,none⟩) 244 c] w1 fun e w'=>e=.returned (.bool false)∧Below w1.heap.size w1 w'):=by
   have:=tF.out
   rw [lw] at this
   exact this
  have HB1:=qh hB1
  have HR1:=qh hr1
  clear hB1 hr1 lw hform hcl hr
  go_upto_region 2 with (go_at_call 241;refine HS2.out.mono ?_;rintro e w2 ⟨rfl,hB2⟩;have HB2:=qh hB2;clear hB2)
  have hr2:=HR1.out.below HB2.out HR1.out.lt
  have hB3:=HB1.out.trans (HB2.out.mono HB1.out.size)
  obtain ⟨z0,z1,z2,z3⟩:=(hr2.put 0 false (.slice none 0 0) (.slice none 0 0)).cells
  obtain ⟨f0,f1,f2,f3⟩:=hr2.free
  obtain ⟨r0,r1,r2,r3⟩:=hr2.cells
  have HB3:=qh hB3
  clear hr2 hB3
  go_wp2_with fail
  refine bodyPost_ret (v:=.tuple #[.agg #[.int .i64 0,.bool false,.slice none 0 0,.slice none 0 0],.int .i64 7]) (by simp [results,Tryz.results231,go_sem,z0,z1,z2,z3]) rfl ⟨Eu.bad HE.out (by decide),?_⟩
  exact DD HB3.out (Nat.le_refl _) (.int .i64 0) (.bool false) (.slice none 0 0) (.slice none 0 0)
 case pos =>
 have HS2:Hid (Calls Tryz.prog 241 #[.slice (some ⟨b,off,none⟩) 244 c] w1 fun e w'=>e=.returned (.bool true)∧Below w1.heap.size w1 w'):=by
  have:=tF.out
  rw [hform] at this
  exact this
 obtain ⟨-,hW0,hnM,-,-,-,-,-,-⟩:=OO.out.1 hform
 obtain ⟨AB7,AB8,hroom,hnW⟩:=room_le hnM hW0
 have lc:Hid (∀ a n,a+n≤244→∀ w',Below w.heap.size w w'→(convert 22 9 (.slice (some ⟨b,off+a,none⟩) n (c-a))).run Tryz.prog w'=.ok (.string (Am (BN l a n))) w'):=fun a n ha=>YH hS hr (by omega) (by omega)
 have tH:Hid (∀ w' k,Below w.heap.size w w'→12+k*8+8≤244→Calls Tryz.prog 146 #[.slice (some ⟨b,off,none⟩) 244 c,.int .i64 ((12+k*8:Nat):Int),.int .i64 8] w' fun e w''=>e=.returned (if 9223372036854775808≤Dm l k then .tuple #[.int .i64 0,.int .i64 2] else .tuple #[.int .i64 (Dm l k:Nat),.int .i64 0])∧w''=w'):=fun w' k hB hk =>
  Lx w' S (.slice (some ⟨b,off,none⟩) 244 c) l (12+k*8) 8 (fun b hb=>Nat.lt_of_lt_of_le (hS b hb) hB.size) ⟨_,c,by rw [hlen],by omega,hr.keep (AA _) (fun _ h=>h) (AL hB hS)⟩ (by unfold Lh;omega) (by omega) (by omega)
 have ET:Hid (Bl l=IA l (Dy l 0) 0 (AC l 2 2-0)):=by
  show _=_
  unfold Bl
  rw [if_neg (by rw [hform];simp)]
  rfl
 have Np:Hid (∀ w' v,Bp w' (C9 w.heap.size w'.heap.size) v ⟨AC l 1 1,decide (AC l 0 1=1),Ef l (AC l 2 2),Et l (BZ (AC l 1 1) (decide (AC l 0 1=1))) (BF (AC l 1 1) (decide (AC l 0 1=1))) (AC l 2 2)⟩→Bl l=0→Eu w l (.returned (.tuple #[v,.int .i64 0])) w'):=fun w' v h hE=>⟨v,by rw [hE],by rw [if_pos hE];exact h⟩
 have xO:=qh (fun k (hk:k<AC l 2 2)=>Oq (l:=l) hk)
 have yn:Hid (∀ k,NJ l (BZ (AC l 1 1) (decide (AC l 0 1=1))) (BF (AC l 1 1) (decide (AC l 0 1=1))) k=BN l (12+BZ (AC l 1 1) (decide (AC l 0 1=1))*8+k*BF (AC l 1 1) (decide (AC l 0 1=1))) (BF (AC l 1 1) (decide (AC l 0 1=1)))):=fun k=>rfl
 have HW:=qh (fun w'=>Jz w' (AC l 1 1:Nat) (decide (AC l 0 1=1)))
 have HM:=qh (fun w'=>RV w' (AC l 1 1:Nat) (decide (AC l 0 1=1)))
 have c0:=hcl 0 (by omega)
 have c1:=hcl 1 (by omega)
 have c2:=hcl 2 (by omega)
 rw [Nat.add_zero,← PL (l:=l) (a:=0) (by omega)] at c0
 rw [← PL (l:=l) (a:=1) (by omega)] at c1
 have hn2:(nth 0 l 2).toNat=AC l 2 2:=by
  have h2:=fe (l:=l) (a:=2) (by omega)
  omega
 rw [hn2] at c2
 have hbl:b<w.heap.size:=hS b hSb
 have HC:Hid (∀ w',Below w.heap.size w w'→w'.cell? ⟨b,off,none⟩=some (.int .u8 (AC l 0 1:Nat))∧w'.cell? ⟨b,off+1,none⟩=some (.int .u8 (AC l 1 1:Nat))∧w'.cell? ⟨b,off+2,none⟩=some (.int .u8 (AC l 2 2:Nat))):=fun w' hB=>⟨AQ hB hbl c0,AQ hB hbl c1,AQ hB hbl c2⟩
 have hlf:(((AC l 0 1:Nat):Int)==1)=decide (AC l 0 1=1):=by
  rw [Bool.eq_iff_iff,beq_iff_eq,decide_eq_true_eq]
  omega
 have AED:IntKind.i64.wrap ((AC l 1 1:Nat):Int)=((AC l 1 1:Nat):Int):=by
  have:=Dk (l:=l) (a:=1) (n:=1)
  rw [IntKind.wrap_i64]
  omega
 have AEE:IntKind.i64.wrap ((AC l 2 2:Nat):Int)=((AC l 2 2:Nat):Int):=by rw [IntKind.wrap_i64];omega
 generalize BF (AC l 1 1) (decide (AC l 0 1=1))=W at *
 generalize BZ (AC l 1 1) (decide (AC l 0 1=1))=M at *
 generalize decide (AC l 0 1=1)=lf at *
 generalize AC l 0 1=q0 at *
 generalize AC l 1 1=t at *
 generalize AC l 2 2=n at *
 have HB1:=qh hB1
 have HR1:=qh hr1
 clear hB1 hr1 hcl hr hform hn2 c0 c1 c2 OO HE7 ym tF
 go_upto_region 3 with (go_at_call 241;refine HS2.out.mono ?_;rintro e w2 ⟨rfl,hB2⟩;have HB2:=qh hB2;clear hB2)
 have hr2:=HR1.out.below HB2.out HR1.out.lt
 have hB3:=HB1.out.trans (HB2.out.mono HB1.out.size)
 have hlt3:=hr2.lt
 have HB3:=qh hB3
 have HR2:=qh hr2
 obtain ⟨c0,c1,c2⟩:=HC.out w2 hB3
 have hbw2:b<w2.heap.size:=by have:=hB3.size;omega
 clear hr2 hB3
 refine AF (T:=fun j=>j==10) (S:=fun w'=>w'.cell? ⟨b,off,none⟩=some (.int .u8 (q0:Nat))∧w'.cell? ⟨b,off+1,none⟩=some (.int .u8 (t:Nat))) (by kernel_rfl) (⟨c0,c1⟩) (fun hHeld=>?_)
 refine qs 0 14 hHeld ?_
 refine qs 1 15 hHeld ?_
 refine qf 2 16 rfl rfl hHeld (by intro w hSw;have c1:=hSw.2;go_simp;(try with_reducible rfl)) ?_
 refine qs 3 17 hHeld ?_
 refine qs 4 18 hHeld ?_
 refine qs 5 19 hHeld ?_
 refine qf 6 20 rfl rfl hHeld (by intro w hSw;have c0:=hSw.1;go_simp;(try with_reducible rfl)) ?_
 refine qs 7 21 hHeld ?_
 refine qs 8 22 hHeld ?_
 refine qo 9 fun K hK=>?_
 go_simp
 clear hHeld
 have hHeld:=(show World.cell? (w2.drew.alloc (.cells #[.int .i64 0,.bool false,.slice none 0 0,.slice none 0 0] 173)) ⟨b,off,none⟩=some (.int .u8 (q0:Nat))∧World.cell? (w2.drew.alloc (.cells #[.int .i64 0,.bool false,.slice none 0 0,.slice none 0 0] 173)) ⟨b,off+1,none⟩=some (.int .u8 (t:Nat)) from ⟨(World.cell?_of_block (a:=⟨b,off,none⟩) (Below.heap_alloc w2.drew _ _ hbw2)).trans c0,(World.cell?_of_block (a:=⟨b,off+1,none⟩) (Below.heap_alloc w2.drew _ _ hbw2)).trans c1⟩)
 refine hK.out _ _ (fun _=>hHeld) (fun _=>?_)
 clear hK K
 (try simp only [Act.put,qS])
 refine qo 10 fun K hK=>?_
 go_simp
 refine hK.out _ _ (fun h=>by cases h) (fun _=>?_)
 clear hK K hHeld
 (try simp only [Act.put,qS])
 refine qd ?_
 have hg3:Br ((w2.alloc (.cells #[.int .i64 (t:Nat),.bool lf,.slice none 0 0,.slice none 0 0] 173)).drew) (w.heap.size+1) w2.heap.size t lf [] [] none none 0 0 0 0:=Br.start w2 (w.heap.size+1) hlt3 t lf
 have hr3:AU ((w2.alloc (.cells #[.int .i64 (t:Nat),.bool lf,.slice none 0 0,.slice none 0 0] 173)).drew) w.heap.size 0 false (.slice none 0 0) (.slice none 0 0):=(Below.heap_alloc _ _ _ hlt3).trans HR2.out
 have hB3:Below w.heap.size w ((w2.alloc (.cells #[.int .i64 (t:Nat),.bool lf,.slice none 0 0,.slice none 0 0] 173)).drew):=(HB3.out.alloc HB3.out.size _).drew
 have ACJ:w2.heap.size=w2.heap.size:=rfl
 generalize (w2.alloc (.cells #[.int .i64 (t:Nat),.bool lf,.slice none 0 0,.slice none 0 0] 173)).drew=w3 at *
 generalize w2.heap.size=g at *
 have HB3:=qh hB3
 have HR3:=qh hr3
 have OP:=qh hg3
 obtain ⟨x0,x1,x2,x3⟩:=hg3.2.1.cells
 clear hg3 hr3 hB3 ACJ c0 c1 c2 hbw2
 go_upto_region 5 with (go_at_call 242;refine (HW.out _).mono ?_;rintro e w4 ⟨rfl,hB4⟩;have CL:=qh hB4;clear hB4)
 have hG4:=OP.out.below CL.out (Nat.le_refl _)
 have hR4:=HR3.out.below CL.out HR3.out.lt
 have Zi:=qh (HB3.out.trans (CL.out.mono HB3.out.size))
 have YL:=qh hG4
 have HR4:=qh hR4
 have lg:Hid (∀ k,NJ l M W k=BN l (12+M*8+k*W) W):=yn.out
 obtain ⟨V,hV⟩:∃ V,12+M*8=V:=⟨_,rfl⟩
 have HV0:=qh hV
 rw [hV] at lg hroom
 obtain ⟨nW,hnw⟩:∃ x,n*W=x:=⟨_,rfl⟩
 obtain ⟨m8,zA⟩:∃ x,M*8=x:=⟨_,rfl⟩
 have em8:IntKind.i64.wrap (8*(M:Int))=(m8:Int):=by rw [IntKind.wrap_i64];omega
 have emV:IntKind.i64.wrap (12+(m8:Int))=(V:Int):=by rw [IntKind.wrap_i64];omega
 have AEF:V+nW≤228:=by omega
 have Kj:=qh hnw
 clear hG4 hR4 hnw zA hV yn x0 x1 x2 x3 hnW hroom
 go_wp2_with fail
 go_loopw [6] (fun vi wr=>∃ (k:Nat) (Ak Av:Option Addr) (ck cv:Nat),vi=.int .i64 k∧k≤n∧Hid (Bl l=IA l (Dy l k) k (n-k))∧Hid (Br wr (w.heap.size+1) g t lf (Ef l k) (Et l M W k) Ak Av k ck k cv)∧Hid (AU wr w.heap.size 0 false (.slice none 0 0) (.slice none 0 0))∧Hid (Below w.heap.size w wr)) (fun vi _=>n-(intOf vi).toNat)
 case atStart=>exact ⟨0,none,none,0,0,rfl,by omega,ET,YL,HR4,Zi⟩
 case round =>
 obtain ⟨k,Ak,Av,ck,cv,rfl,hk,WY,HG,HR,HB⟩:=hrel
 obtain ⟨-,-,c2⟩:=HC.out wr HB.out
 by_cases hlt:k<n
 · have Vu:=qh (xO.out k hlt)
   have Uo:=tH.out wr k HB.out (by omega)
   have hr:=HR.out
   have hkn:(k:Int)<(n:Int):=by omega
   obtain ⟨K,hK⟩:∃ K,Dm l k=K:=⟨_,rfl⟩
   rw [hK] at Uo Vu
   have HKK:=qh hK
   clear hK
   obtain ⟨k8,sU⟩:∃ x,k*8=x:=⟨_,rfl⟩
   obtain ⟨a3,lh⟩:∃ x,12+k*8=x:=⟨_,rfl⟩
   rw [lh] at Uo
   have ek8:IntKind.i64.wrap (8*(k:Int))=(k8:Int):=by rw [IntKind.wrap_i64];omega
   have e11:IntKind.i64.wrap (12+(k8:Int))=(a3:Int):=by rw [IntKind.wrap_i64];omega
   clear lh sU
   obtain ⟨x0,x1,x2,x3⟩:=HG.out.2.1.cells
   by_cases hbig:9223372036854775808≤K
   · as_aux_lemma =>
     rw [if_pos hbig] at Uo
     have PG:=qh Uo
     have HE:Hid (Bl l=2):=by show _=_;rw [WY.out,Vu.out,if_pos (by omega)]
     clear hbig Uo
     obtain ⟨z0,z1,z2,z3⟩:=(hr.put 0 false (.slice none 0 0) (.slice none 0 0)).cells
     obtain ⟨f0,f1,f2,f3⟩:=hr.free
     obtain ⟨r0,r1,r2,r3⟩:=hr.cells
     go_wp2_with (go_at_call 146;refine PG.out.mono ?_;rintro e wr ⟨rfl,rfl⟩)
     refine bodyPost_ret (v:=.tuple #[.agg #[.int .i64 0,.bool false,.slice none 0 0,.slice none 0 0],.int .i64 2]) (by simp [results,Tryz.results231,go_sem,z0,z1,z2,z3]) rfl ⟨Eu.bad HE.out (by decide),?_⟩
     exact DD HB.out (Nat.le_refl _) (.int .i64 0) (.bool false) (.slice none 0 0) (.slice none 0 0)
   · rw [if_neg hbig] at Uo
     have PG:=qh Uo
     clear Uo
     by_cases hmax:281474976710655<K
     · as_aux_lemma =>
       have HE:Hid (Bl l=2):=by show _=_;rw [WY.out,Vu.out,if_pos hmax]
       obtain ⟨z0,z1,z2,z3⟩:=(hr.put 0 false (.slice none 0 0) (.slice none 0 0)).cells
       obtain ⟨f0,f1,f2,f3⟩:=hr.free
       obtain ⟨r0,r1,r2,r3⟩:=hr.cells
       have hmz:(281474976710655:Int)<(K:Int):=by omega
       go_wp2_with (go_at_call 146;refine PG.out.mono ?_;rintro e wr ⟨rfl,rfl⟩)
       refine bodyPost_ret (v:=.tuple #[.agg #[.int .i64 0,.bool false,.slice none 0 0,.slice none 0 0],.int .i64 2]) (by simp [results,Tryz.results231,go_sem,z0,z1,z2,z3]) rfl ⟨Eu.bad HE.out (by decide),?_⟩
       exact DD HB.out (Nat.le_refl _) (.int .i64 0) (.bool false) (.slice none 0 0) (.slice none 0 0)
     · have hmz:¬ (281474976710655:Int)<(K:Int):=by omega
       have hmd:decide (281474976710655<K)=false:=decide_eq_false hmax
       by_cases J5:0<k∧(K:Int)≤Dy l k
       · as_aux_lemma =>
         have HE:Hid (Bl l=8):=by show _=_;rw [WY.out,Vu.out,if_neg hmax,if_pos J5]
         obtain ⟨bk,rfl,hbk,qk⟩:=HG.out.last J5.1
         rw [Jw J5.1,Nat.zero_add] at qk
         have hk0:(0:Int)<(k:Int):=by omega
         have hk1:IntKind.i64.wrap ((k:Int)-1)=((k-1:Nat):Int):=by rw [IntKind.wrap_i64];omega
         have hk2:((k-1:Nat):Int)<(k:Int):=by omega
         have hKp:(K:Int)≤Dy l k:=J5.2
         obtain ⟨z0,z1,z2,z3⟩:=(hr.put 0 false (.slice none 0 0) (.slice none 0 0)).cells
         obtain ⟨f0,f1,f2,f3⟩:=hr.free
         obtain ⟨r0,r1,r2,r3⟩:=hr.cells
         generalize Dy l k=pk at *
         generalize k-1=km at *
         clear J5
         go_wp2_with (go_at_call 146;refine PG.out.mono ?_;rintro e wr ⟨rfl,rfl⟩)
         refine bodyPost_ret (v:=.tuple #[.agg #[.int .i64 0,.bool false,.slice none 0 0,.slice none 0 0],.int .i64 8]) (by simp [results,Tryz.results231,go_sem,z0,z1,z2,z3]) rfl ⟨Eu.bad HE.out (by decide),?_⟩
         exact DD HB.out (Nat.le_refl _) (.int .i64 0) (.bool false) (.slice none 0 0) (.slice none 0 0)
       · have tJ:Hid (Bl l=IA l (Dy l (k+1)) (k+1) (n-(k+1))):=by show _=_;rw [WY.out,Vu.out,if_neg hmax,if_neg J5]
         obtain ⟨y0,y1,y2,y3⟩:=HG.out.2.1.free
         have hown:=HG.out.2.2.1
         have hz:w.heap.size+1≤wr.heap.size:=by have:=HG.out.2.1.lt;omega
         have hk1:IntKind.i64.wrap ((k:Int)-1)=(k:Int)-1:=by rw [IntKind.wrap_i64];omega
         go_upto_region 11 with (go_at_call 146;refine PG.out.mono ?_;rintro e wr ⟨rfl,rfl⟩)
         go_cut [62] (fun v wx=>v=.bool false∧wx=wr)
         case first =>
          by_cases hk0:0<k
          · obtain ⟨bk,rfl,hbk,qk⟩:=HG.out.last hk0
            rw [Jw hk0,Nat.zero_add] at qk
            have AEG:(0:Int)<(k:Int):=by omega
            have AEH:IntKind.i64.wrap ((k:Int)-1)=((k-1:Nat):Int):=by rw [IntKind.wrap_i64];omega
            have hk2:((k-1:Nat):Int)<(k:Int):=by omega
            have hKp:decide ((K:Int)≤Dy l k)=false:=decide_eq_false (fun h=>J5 ⟨hk0,h⟩)
            clear J5 hk1
            generalize Dy l k=pk at *
            generalize k-1=km at *
            go_wp2_with fail
            go_meet
            exact ⟨rfl,rfl⟩
          · obtain rfl:k=0:=by omega
            clear J5
            go_wp2_with fail
            go_meet
            exact ⟨rfl,rfl⟩
         case rest =>
         obtain ⟨rfl,hwc⟩:=hcut
         have hwc:=hwc.symm
         subst hwc
         clear J5 hk1
         obtain ⟨x,hx⟩:∃ x,k*W=x:=⟨_,rfl⟩
         obtain ⟨y,hy⟩:∃ y,V+x=y:=⟨_,rfl⟩
         have hkW:x+W≤nW:=by
          have:=Nat.mul_le_mul_right W (show k+1≤n by omega)
          rw [Nat.add_mul,hx,Kj.out] at this
          omega
         obtain ⟨z,hzz⟩:∃ z,y+W=z:=⟨_,rfl⟩
         have em1:(W:Int)*(k:Int)=(x:Int):=by rw [← hx,Int.natCast_mul,Int.mul_comm]
         have ACC:IntKind.i64.wrap (x:Int)=(x:Int):=by rw [IntKind.wrap_i64];omega
         have em3:IntKind.i64.wrap ((V:Int)+(x:Int))=(y:Int):=by rw [IntKind.wrap_i64];omega
         have em4:IntKind.i64.wrap ((y:Int)+(W:Int))=(z:Int):=by rw [IntKind.wrap_i64];omega
         have em5:IntKind.i64.wrap ((k:Int)+1)=(k:Int)+1:=by rw [IntKind.wrap_i64];omega
         have hcv:=lc.out y W (by omega)
         have HVK:Hid (Et l M W (k+1)=Et l M W k++[BN l y W]):=by show _=_;rw [NM,lg.out,hx,hy]
         have hyW:(y:Int)≤(z:Int):=by omega
         have ACD:(z:Int)≤(c:Int):=by omega
         have ACE:y≤z:=by omega
         have ACF:z≤c:=by omega
         have hyc:¬ c=y:=by omega
         have ACG:(c==y)=false:=beq_false_of_ne hyc
         have hyn:z-y=W:=by omega
         have tN:=qh hcv
         clear hx hy hzz hcv hkW hown y0 y1 y2 y3 hz hr hmz hmd hmax hbig c2
         go_upto_region 14 with (go_at_call 243;refine (HM.out _).mono ?_;rintro e w5 ⟨rfl,BS⟩;have CE:=qh BS;clear BS)
         have Us:=qh (HG.out.below CE.out (Nat.le_refl _))
         have Qo:=qh (HR.out.below CE.out HR.out.lt)
         have zB:=qh (HB.out.trans (CE.out.mono HB.out.size))
         have hown:=Us.out.2.2.1
         have hz:w.heap.size+1≤w5.heap.size:=by have:=Us.out.2.1.lt;omega
         clear x0 x1 x2 x3
         obtain ⟨x0,x1,x2,x3⟩:=Us.out.2.1.cells
         obtain ⟨y0,y1,y2,y3⟩:=Us.out.2.1.free
         go_upto_region 15 with (at_builtin;go_loud (refine Cw Ir rfl _ _ rfl (w.heap.size+1) (.slice Ak k ck) k (Ef l k) (K:Int) rfl hown rfl (by omega) hz ?_);intro A6 cap6 w6 hown6 OJ;have Nq:=Us.out.key hown6 OJ;have YM:=qh Nq.1;obtain ⟨q0,q1,q2,q3⟩:=Nq.2.cells;obtain ⟨p0,p1,p2,p3⟩:=Nq.2.free;clear Nq)
         have EG:=zB.out.grown OJ zB.out.size (fun i hi=>by have:=(hown.lt i hi).1;omega)
         have p8:AU w6 w.heap.size 0 false (.slice none 0 0) (.slice none 0 0):=(OJ.block _ Qo.out.lt (BC hown Qo.out.h (by decide))).trans Qo.out
         have G8:=YM.out
         have Ff:=EG.setCell (p:=⟨g,2,none⟩) (Nat.le_of_lt hlt3) (.slice A6 (k+1) cap6)
         have yt:=p8.Mq (b:=g) (by omega) 2 (.slice A6 (k+1) cap6)
         generalize w6.setCell ⟨g,2,none⟩ (.slice A6 (k+1) cap6)=w7 at *
         have tK:=qh yt
         clear q0 q1 q2 q3 p0 p1 p2 p3 EG p8 yt YM hown6 OJ x0 x1 x2 x3 y0 y1 y2 y3
         have fM:=Ff.size
         have tL:w.heap.size+1≤w7.heap.size:=by have:=G8.2.1.lt;omega
         have hv7:=G8.2.2.2
         have Vv:=qh hv7
         have ll:=qh G8
         clear hv7
         refine AF (T:=fun j=>j==12) (S:=fun w'=>Below w.heap.size w w'∧AU w' g t lf (.slice A6 (k+1) cap6) (.slice Av k cv)) (by kernel_rfl) (⟨Ff.drew,G8.2.1⟩) (fun hHeld=>?_)
         refine qs 0 81 hHeld ?_
         refine qf 1 82 rfl rfl hHeld (by intro w hSw;obtain ⟨x0,x1,x2,x3⟩:=hSw.2.cells;go_simp;(try with_reducible rfl)) ?_
         refine qs 2 83 hHeld ?_
         refine qs 3 84 hHeld ?_
         refine qs 4 85 hHeld ?_
         refine qs 5 86 hHeld ?_
         refine qs 6 87 hHeld ?_
         refine qs 7 88 hHeld ?_
         refine qf 8 89 rfl rfl hHeld (by intro w hSw;have hcv:=tN.out _ hSw.1;go_simp;(try with_reducible rfl)) ?_
         refine qo 9 fun K hK=>?_
         go_simp
         clear hHeld
         have hHeld:=(show Below w.heap.size w (w7.drew.alloc (.cells #[.string (Am (BN l y W))] 9))∧AU (w7.drew.alloc (.cells #[.string (Am (BN l y W))] 9)) g t lf (.slice A6 (k+1) cap6) (.slice Av k cv) from ⟨Ff.drew.alloc fM _,(Below.heap_alloc w7.drew _ _ G8.2.1.lt).trans G8.2.1⟩)
         refine hK.out _ _ (fun _=>hHeld) (fun _=>?_)
         clear hK K
         (try simp only [Act.put,qS])
         refine qo 10 fun K hK=>?_
         refine JW pY rfl _ _ rfl (w.heap.size+1) (.slice Av k cv) k (Et l M W k) (BN l y W) rfl Vv.out.drew rfl (by omega) tL ?_
         intro A9 c9 w9 CZ Cu
         have hHeld:=(show Below w.heap.size w w9∧AU w9 g t lf (.slice A6 (k+1) cap6) (.slice Av k cv) from ⟨Ff.drew.grown Cu fM (fun j hj=>by have:=(Vv.out.lt j hj).1;omega),(Cu.block g G8.2.1.lt (BC Vv.out G8.2.1.h (by decide))).trans G8.2.1⟩)
         refine hK.out _ _ (fun _=>hHeld) (fun _=>?_)
         clear hK K
         (try simp only [Act.put])
         refine qs 11 92 hHeld ?_
         refine qo 12 fun K hK=>?_
         obtain ⟨x0,x1,x2,x3⟩:=hHeld.2.cells;obtain ⟨y0,y1,y2,y3⟩:=hHeld.2.free
         go_simp
         refine hK.out _ _ (fun h=>by cases h) (fun _=>?_)
         clear hK K hHeld
         (try simp only [Act.put,qS])
         refine qd ?_
         have fO:=(ll.out.drewN 1).val CZ Cu
         have Ra:AU w9 w.heap.size 0 false (.slice none 0 0) (.slice none 0 0):=(Cu.block _ tK.out.lt (BC Vv.out tK.out.h (by decide))).trans tK.out
         have tO:=Ra.Mq (b:=g) (by omega) 3 (.slice A9 (k+1) c9)
         have I4:=(Ff.drew.grown Cu fM (fun j hj=>by have:=(Vv.out.lt j hj).1;omega)).setCell (p:=⟨g,3,none⟩) (Nat.le_of_lt hlt3) (.slice A9 (k+1) c9)
         have hk10:=fO.1
         clear fO Ra CZ Cu
         go_wp2_with fail
         go_roundw
         case rel=>exact ⟨k+1,A6,A9,cap6,c9,by go_num,by omega,tJ,by show _;rw [HVK.out,NL,HKK.out];exact hk10,tO,I4⟩
         case measure=>simp [intOf];omega
 · have hkn:k=n:=by omega
   subst hkn
   have WT:Hid (Bl l=0):=by show _=_;rw [WY.out,Nat.sub_self];rfl
   obtain ⟨x0,x1,x2,x3⟩:=HG.out.2.1.cells
   obtain ⟨z0,z1,z2,z3⟩:=(HR.out.put t lf (.slice Ak k ck) (.slice Av k cv)).cells
   obtain ⟨f0,f1,f2,f3⟩:=HR.out.free
   obtain ⟨r0,r1,r2,r3⟩:=HR.out.cells
   go_wp2_with fail
   refine bodyPost_ret (v:=.tuple #[.agg #[.int .i64 t,.bool lf,.slice Ak k ck,.slice Av k cv],.int .i64 0]) (by simp [results,Tryz.results231,go_sem,z0,z1,z2,z3]) rfl ⟨Np.out _ _ ?_ WT.out,?_⟩
   · have hi:=HG.out.is
     exact hi.keep (fun b hb=>⟨by have:=hb.1;omega,by simpa [World.setCell] using hb.2⟩) (fun b o hb=>DN (by have:=hb.1;omega) (.int .i64 t) (.bool lf) (.slice Ak k ck) (.slice Av k cv))
   · exact DD HB.out (Nat.le_refl _) (.int .i64 t) (.bool lf) (.slice Ak k ck) (.slice Av k cv)
end
section
open Go.RowKit
attribute [local go_sem] Oper.semAt_some
theorem YQ {l:List Int} {k:Int} (h:k∈l):∃ i,i<l.length∧nth 0 l i=k:=by
 obtain ⟨i,hi,rfl⟩:=List.getElem_of_mem h
 exact ⟨i,hi,Ac 0 l i hi⟩
theorem Wj (w:World) (S:Nat→Prop) (A:Option Addr) (c:Nat) (l:List Int) (k:Int) (hS:∀ b,S b→b<w.heap.size) (h:BX (Flat fun n:Int=>[.int .i64 n]) 1 0 w S A l) (hl:l.length≤1000000) :
 Calls Tryz.prog 210 #[.slice A l.length c,.int .i64 k] w fun e w'=>e=.returned (.bool (decide (k∈l)))∧w'=w:=by
 have GH:=qh (FH hS h)
 have HY:Hid (∀ i,i<l.length→nth 0 l i=k→k∈l):=fun i hi e=>e ▸ Bv 0 l i hi
 have HN:Hid ((∀ i,i<l.length→nth 0 l i≠k)→k ∉ l):=fun h hm=>by
  obtain ⟨i,hi,e⟩:=YQ hm
  exact h i hi e
 generalize l.length=n at *
 clear h hS
 go_enter Tryz.func210,Tryz.ntmps210
 go_wp2_with fail
 go_loopw [5] (fun vi wr=>∃ i:Nat,vi=.int .i64 i∧i≤n∧Hid (∀ j,j<i→nth 0 l j≠k)∧wr=w) (fun vi _=>n-(intOf vi).toNat)
 case atStart=>exact ⟨0,rfl,by omega,fun j hj=>absurd hj (by omega),rfl⟩
 case round =>
  obtain ⟨i,rfl,hi,HI,rfl⟩:=hrel
  by_cases hlt:i<n
  · obtain ⟨b,off,rfl,_,hcl⟩:=GH.out i hlt
    have c0:=hcl _ (Below.refl _ _) i hlt
    have hin:(i:Int)<(n:Int):=by omega
    clear hcl
    by_cases he:nth 0 l i=k
    · have HE:Hid (decide (k∈l)=true):=decide_eq_true (HY.out i hlt he)
      have hb:(nth 0 l i==k)=true:=by simpa using he
      clear he
      generalize nth 0 l i=p at *
      go_wp2_with fail
      go_ret
      exact ⟨by rw [HE.out];rfl,rfl⟩
    · have hb:(nth 0 l i==k)=false:=by simpa using he
      have HI2:Hid (∀ j,j<i+1→nth 0 l j≠k):=fun j hj=>by
       rcases Nat.lt_or_ge j i with h|h
       · exact HI.out j h
       · obtain rfl:j=i:=by omega
         exact he
      clear he
      generalize nth 0 l i=p at *
      go_wp2_with fail
      go_roundw
      case rel=>exact ⟨i+1,by go_num,by omega,HI2,trivial⟩
      case measure=>simp [intOf];omega
  · obtain rfl:i=n:=by omega
    have HE:Hid (decide (k∈l)=false):=decide_eq_false (HN.out HI.out)
    go_wp2_with fail
    go_ret
    exact ⟨by rw [HE.out];rfl,rfl⟩
end
section
open Go.RowKit
attribute [local go_sem] Oper.semAt_some
def Ez (n:Int) (w:Nat):Bool:=decide (0≤n) && (decide (w=8) || decide (n<256 ^ w))
theorem Ut (u:World) (n:Int) (w:Nat) (hw:Lh w):Calls Tryz.prog 192 #[.int .i64 n,.int .i64 w] u fun e w'=>e=.returned (.bool (Ez n w))∧w'=u:=by
 by_cases h0:n<0
 · have HF:Hid (Ez n w=false):=by show _=_;unfold Ez;rw [decide_eq_false (by omega)];rfl
   clear hw
   go_enter Tryz.func192,Tryz.ntmps192
   go_wp2
   go_ret
   exact ⟨by rw [HF.out];rfl,rfl⟩
 · rcases hw with rfl|rfl|rfl|rfl
   · have HF:Hid (Ez n 1=decide (n<256)):=by show _=_;unfold Ez;rw [decide_eq_true (by omega)];simp
     go_enter Tryz.func192,Tryz.ntmps192
     go_wp2
     go_ret
     exact ⟨by rw [HF.out];rfl,rfl⟩
   · have HF:Hid (Ez n 2=decide (n<65536)):=by show _=_;unfold Ez;rw [decide_eq_true (by omega)];simp
     go_enter Tryz.func192,Tryz.ntmps192
     go_wp2
     go_ret
     exact ⟨by rw [HF.out];rfl,rfl⟩
   · have HF:Hid (Ez n 4=decide (n<4294967296)):=by show _=_;unfold Ez;rw [decide_eq_true (by omega)];simp
     go_enter Tryz.func192,Tryz.ntmps192
     go_wp2
     go_ret
     exact ⟨by rw [HF.out];rfl,rfl⟩
   · have HF:Hid (Ez n 8=true):=by show _=_;unfold Ez;rw [decide_eq_true (by omega)];simp
     go_enter Tryz.func192,Tryz.ntmps192
     go_wp2
     go_ret
     exact ⟨by rw [HF.out];rfl,rfl⟩
theorem YR:∀ (w n k:Nat),k<w→nth 0 (leB w n) k=UInt8.ofNat (n / 256 ^ k % 256)
 | w+1,n,0,_=>by rw [leB,EP,Nat.pow_zero,Nat.div_one]
 | w+1,n,k+1,h=>by rw [leB,EQ,YR w (n / 256) k (by omega),Nat.div_div_eq_div_mul,Nat.pow_succ,Nat.mul_comm 256]
theorem byte_at {n k:Nat} {x:Int} (h:x=((n / 256 ^ k % 256:Nat):Int)):Value.int .u8 x=.int .u8 ((UInt8.ofNat (n / 256 ^ k % 256)).toNat:Int):=by
 rw [h,UInt8.toNat_ofNat',Nat.mod_eq_of_lt (show n / 256 ^ k % 256<2 ^ 8 from Nat.mod_lt _ (by omega))]
theorem Zt {u:World} {g w n:Nat} {cs:Array Value} {T:TypeId} (S:Nat→Prop) (hS:S g) (hg:u.heap[g]? = some (.cells cs T (0,0))) (h:∀ k,k<w→cs[k]? = some (.int .u8 ((n / 256 ^ k % 256:Nat):Int))) (hw:w≤8):AX u S (.slice (some ⟨g,0,none⟩) w 8) (leB w n):=by
 refine ⟨_,8,by rw [CY],by rw [CY];exact hw,fun _=>⟨g,0,rfl,hS,fun k hk=>⟨Au (nth 0 (leB w n) k),rfl,rfl,fun j v hj=>?_⟩⟩⟩
 rw [CY] at hk
 rcases j with _|j
 · simp [Au] at hj
   subst hj
   rw [cell_of_row u g _ cs T (0,0) hg,Nat.zero_add,Nat.mul_one,Nat.add_zero,h k hk,YR w n k hk,byte_at rfl]
 · simp [Au] at hj
def Su (u:World) (l:List UInt8) (w:Nat) (e:Ending) (w':World):Prop:=∃ A c,e=.returned (.slice A w c)∧w'.ownsRow u.heap.size 5 1 (.slice A w c) w (AB Au l)
theorem KS (u:World) (w n:Nat) (hw:w≤8) (cs:Array Value) (h:∀ k,k<w→cs[k]? = some (.int .u8 ((n / 256 ^ k % 256:Nat):Int))) :
 Calls Tryz.prog 18 #[.slice (some ⟨u.heap.size,0,none⟩) w 8] (u.alloc (.cells cs 340)) fun e w'=>Su u (leB w n) w e w'∧Below u.heap.size u w':=by
 have hc:=GG (u.alloc (.cells cs 340)) (fun b=>b=u.heap.size) _ (leB w n) (fun b hb=>by subst hb;simp) (Zt (fun b=>b=u.heap.size) rfl (heap_alloc_new u (.cells cs 340)) h hw) (by rw [CY];omega)
 rw [CY] at hc
 refine hc.mono ?_
 rintro e w' ⟨A,c,rfl,hown,hB⟩
 exact ⟨⟨A,c,rfl,hown.mono (by simp)⟩,((Below.refl u.heap.size u).alloc (Nat.le_refl _) _).trans (hB.mono (by simp))⟩
theorem Re (u:World) (n w:Nat) (hn:n<9223372036854775808) (hw:Lh w):Calls Tryz.prog 193 #[.int .i64 n,.int .i64 w] u fun e w'=>Su u (leB w n) w e w'∧Below u.heap.size u w':=by
 rcases hw with rfl|rfl|rfl|rfl
 · have HC:=qh (KS u 1 n (by omega) #[.int .u8 ((n:Int) % 256),.int .u8 0,.int .u8 0,.int .u8 0,.int .u8 0,.int .u8 0,.int .u8 0,.int .u8 0] (fun k hk=>by
     obtain rfl:k=0:=by omega
     simp))
   go_enter Tryz.func193,Tryz.ntmps193
   go_wp2_with (go_at_call 18;refine HC.out.mono ?_;rintro e w' ⟨⟨A,c,rfl,hown⟩,hB⟩)
   go_ret
   exact ⟨⟨A,c,rfl,hown⟩,hB⟩
 · have HC:=qh (KS u 2 n (by omega) #[.int .u8 ((n:Int) % 256),.int .u8 ((n:Int) / 256 % 256),.int .u8 0,.int .u8 0,.int .u8 0,.int .u8 0,.int .u8 0,.int .u8 0] (fun k hk=>by
     rcases (by omega:k=0∨k=1) with rfl|rfl <;> simp))
   go_enter Tryz.func193,Tryz.ntmps193
   go_wp2_with (go_at_call 18;refine HC.out.mono ?_;rintro e w' ⟨⟨A,c,rfl,hown⟩,hB⟩)
   go_ret
   exact ⟨⟨A,c,rfl,hown⟩,hB⟩
 · have HC:=qh (KS u 4 n (by omega) #[.int .u8 ((n:Int) % 256),.int .u8 ((n:Int) / 256 % 256),.int .u8 ((n:Int) / 65536 % 256),.int .u8 ((n:Int) / 16777216 % 256),.int .u8 0,.int .u8 0,.int .u8 0,.int .u8 0] (fun k hk=>by
     rcases (by omega:k=0∨k=1∨k=2∨k=3) with rfl|rfl|rfl|rfl <;> simp))
   go_enter Tryz.func193,Tryz.ntmps193
   go_wp2_with (go_at_call 18;refine HC.out.mono ?_;rintro e w' ⟨⟨A,c,rfl,hown⟩,hB⟩)
   go_ret
   exact ⟨⟨A,c,rfl,hown⟩,hB⟩
 · have HC:=qh (KS u 8 n (by omega) #[.int .u8 ((n:Int) % 256),.int .u8 ((n:Int) / 256 % 256),.int .u8 ((n:Int) / 65536 % 256),.int .u8 ((n:Int) / 16777216 % 256),.int .u8 ((n:Int) / 4294967296 % 256),.int .u8 ((n:Int) / 1099511627776 % 256),.int .u8 ((n:Int) / 281474976710656 % 256),.int .u8 ((n:Int) / 72057594037927936)] (fun k hk=>by
     have h7:n / 72057594037927936 % 256=n / 72057594037927936:=by omega
     rcases (by omega:k=0∨k=1∨k=2∨k=3∨k=4∨k=5∨k=6∨k=7) with rfl|rfl|rfl|rfl|rfl|rfl|rfl|rfl
     all_goals (first|(rw [show (256:Nat) ^ 7=72057594037927936 from rfl,h7];simp)|simp)))
   go_enter Tryz.func193,Tryz.ntmps193
   go_upto_region 6 with fail
   go_wp2_with fail
   refine wp_loop_rounds 5 ?_
   rw [rounds_succ]
   go_wp2
   rw [rounds_succ]
   go_wp2
   rw [rounds_succ]
   go_wp2
   rw [rounds_succ]
   go_wp2
   rw [rounds_succ]
   go_wp2_with (go_at_call 18;refine HC.out.mono ?_;rintro e w' ⟨⟨A,c,rfl,hown⟩,hB⟩)
   go_ret
   exact ⟨⟨A,c,rfl,hown⟩,hB⟩
end
section
open Go.RowKit
attribute [local go_sem] Oper.semAt_some
abbrev Uu (w:World) (S:Nat→Prop) (v:Value) (l:List (Nat × Int)):Prop:=CF (Flat Qa) 2 (0,0) w S v l
theorem Sv {w:World} {S:Nat→Prop} {A:Option Addr} {l:List (Nat × Int)} (h:BX (Flat Qa) 2 (0,0) w S A l) (hl:0<l.length) :
 ∃ b off,A=some ⟨b,off,none⟩∧S b∧∀ k,k<l.length→w.cell? ⟨b,off+k*2,none⟩=some (.int .i64 ((nth (0,0) l k).1:Nat))∧w.cell? ⟨b,off+k*2+1,none⟩=some (.int .i64 (nth (0,0) l k).2):=by
 obtain ⟨b,off,e,hb,hc⟩:=h hl
 refine ⟨b,off,e,hb,fun k hk=>?_⟩
 obtain ⟨cs,_,hr,h3⟩:=hc k hk
 obtain rfl:cs=_:=hr
 exact ⟨by simpa using h3 0 _ rfl,h3 1 _ rfl⟩
theorem fo {f:Nat × Int} (h:FX f):Ez f.2 f.1=true:=by
 obtain ⟨_,h0,_,h1⟩:=h
 unfold Ez
 rw [decide_eq_true h0]
 rcases h1 with h1|h1
 · simp [h1]
 · simp [h1]
set_option maxRecDepth 100000 in
theorem J6 (w:World) (S:Nat→Prop) (v:Value) (fs:List (Nat × Int)) (hS:∀ b,S b→b<w.heap.size) (h:Uu w S v fs) (hok:∀ f∈fs,FX f) (hk:fs.length≤100000) :
 Calls Tryz.prog 135 #[v] w fun e w'=>(∃ A c,e=.returned (.tuple #[.slice A (BB fs).length c,.int .i64 0])∧w'.ownsRow w.heap.size 5 1 (.slice A (BB fs).length c) (BB fs).length (AB Au (BB fs)))∧Below w.heap.size w w':=by
 obtain ⟨A,c,rfl,hc,hr⟩:=h
 have hPL:(BB fs).length≤8*fs.length:=by
  rw [ES]
  have:∀ l:List (Nat × Int),(∀ f∈l,FX f)→Ct (l.map (·.1))≤8*l.length:=by
   intro l
   induction l with
   | nil=>intro _;simp [Ct]
   | cons f l ih =>
    intro hh
    have h1:=ih (fun x hx=>hh x (by simp [hx]))
    have h2:=(hh f (by simp)).1
    simp only [List.map_cons,Ct,List.length_cons]
    rcases h2 with h2|h2|h2|h2 <;> omega
  exact this fs hok
 have Jn:=qh hPL
 have HC:Hid (∀ w',Below w.heap.size w w'→∀ k,k<fs.length→∃ b off,A=some ⟨b,off,none⟩∧b<w.heap.size∧w'.cell? ⟨b,off+k*2,none⟩=some (.int .i64 ((nth (0,0) fs k).1:Nat))∧w'.cell? ⟨b,off+k*2+1,none⟩=some (.int .i64 (nth (0,0) fs k).2)):=fun w' hB k hk=>by
  obtain ⟨b,off,e,hb,h1⟩:=Sv hr (by omega)
  obtain ⟨a1,a2⟩:=h1 k hk
  exact ⟨b,off,e,hS b hb,(hB.cell (p:=⟨b,off+k*2,none⟩) (hS b hb)).trans a1,(hB.cell (p:=⟨b,off+k*2+1,none⟩) (hS b hb)).trans a2⟩
 have WX:=qh (fun k (hk:k<fs.length)=>hok _ (Bv (0,0) fs k hk))
 have Wd:=qh (fun k (hk:k<fs.length)=>Od fs k hk)
 have JZ:=qh (fun k=>Ko fs k)
 have fq:Hid (∀ k,¬ k<fs.length→fs.take k=fs):=fun k hk=>List.take_of_length_le (by omega)
 clear hr hok hPL
 generalize hn:fs.length=n at *
 clear hn
 go_enter Tryz.func135,Tryz.ntmps135
 go_wp2_with fail
 go_loopw [4,9] (fun vo vi wr=>∃ (k:Nat) (Ao:Option Addr) (co:Nat),vi=.int .i64 k∧vo=.slice Ao (BB (fs.take k)).length co∧k≤n∧Hid (wr.ownsRow w.heap.size 5 1 (.slice Ao (BB (fs.take k)).length co) (BB (fs.take k)).length (AB Au (BB (fs.take k))))∧Hid (Below w.heap.size w wr)) (fun _ vi _=>n-(intOf vi).toNat)
 case atStart=>exact ⟨0,none,0,rfl,rfl,by omega,World.ownsRow_nil w w.heap.size 5 1,Below.refl _ _⟩
 case round =>
  obtain ⟨k,Ao,co,rfl,rfl,hk0,HR,HB⟩:=hrel
  by_cases hlt:k<n
  · obtain ⟨b,off,rfl,hbw,q0,q1⟩:=HC.out wr HB.out k hlt
    have hf:=WX.out k hlt
    have hpt:=Wd.out k hlt
    have hle:=JZ.out (k+1)
    have hpl:=Jn.out
    have hz:=HB.out.size
    have hbr:b<wr.heap.size:=by omega
    have hfy:=fo hf
    obtain ⟨hW,hn0,hn1,_⟩:=hf
    obtain ⟨m,hm⟩:∃ m:Nat,(nth (0,0) fs k).2=m:=⟨(nth (0,0) fs k).2.toNat,by omega⟩
    rw [hm] at q1 hfy hn1 hpt
    rw [Int.toNat_natCast] at hpt
    generalize (nth (0,0) fs k).1=x at *
    have xc:x≤8∧0<x:=by rcases hW with h|h|h|h <;> omega
    have HK:=qh (fun w'=>RN w' x hW)
    have HF:=qh (fun w'=>Ut w' m x hW)
    rw [hfy] at HF
    have We:=qh (fun w'=>Re w' m x (by omega) hW)
    have zC:=qh hpt
    have ACK:(BB (fs.take k)).length+x≤8*n:=by rw [hpt,List.length_append,CY] at hle;omega
    have Uv:=qh (CY x m)
    obtain ⟨L,hL⟩:∃ L,(BB (fs.take k)).length=L:=⟨_,rfl⟩
    rw [hL] at ACK HR ⊢
    have HLL:=qh hL
    clear hpt hle hm hL hW hn0 hn1 hfy
    have h2:=heap_alloc_new wr (.cells #[.int .i64 (x:Int),.int .i64 (m:Int)] 249)
    have y0:(wr.alloc (.cells #[.int .i64 (x:Int),.int .i64 (m:Int)] 249)).cell? ⟨wr.heap.size,0,none⟩=some (.int .i64 (x:Int)):=(cell_of_row _ _ 0 _ _ (0,0) h2).trans rfl
    have y1:(wr.alloc (.cells #[.int .i64 (x:Int),.int .i64 (m:Int)] 249)).cell? ⟨wr.heap.size,1,none⟩=some (.int .i64 (m:Int)):=(cell_of_row _ _ 1 _ _ (0,0) h2).trans rfl
    go_upto_region 5 with fail
    have hB2:=HB.out.alloc hz (.cells #[.int .i64 (x:Int),.int .i64 (m:Int)] 249)
    have hr2:=HR.out.alloc (.cells #[.int .i64 (x:Int),.int .i64 (m:Int)] 249)
    clear h2
    generalize wr.alloc (.cells #[.int .i64 (x:Int),.int .i64 (m:Int)] 249)=w2 at *
    generalize wr.heap.size=g2 at *
    have HB2:=qh hB2
    have HR2:=qh hr2
    clear hB2 hr2 HB HR q0 q1
    go_wp2_with (first
     | (go_at_call 191;refine (HK.out _).mono ?_;rintro e w2 ⟨rfl,rfl⟩)
     | (go_at_call 192;refine (HF.out _).mono ?_;rintro e w2 ⟨rfl,rfl⟩)
     | (go_at_call 193;refine (We.out _).mono ?_;rintro e w3 ⟨⟨A3,c3,rfl,hown3⟩,hB3⟩;obtain ⟨g3,rfl,hg3,hc3,hsrc⟩:=CG hown3 xc.2;have Ga:=qh hsrc;have YS:=qh (own_below HR2.out hB3 (Nat.le_refl _));have hz3:w.heap.size≤w3.heap.size:=Nat.le_trans HB2.out.size hB3.size;have HB3:=qh (HB2.out.trans (hB3.mono HB2.out.size));clear hown3 hsrc hB3)
     | (at_builtin;go_loud (refine CK Tryz.underlying22 KQ rfl (by omega) (by omega) rfl _ _ rfl w.heap.size (.slice Ao L co) L _ rfl YS.out ⟨g3,0,none⟩ x c3 (AB Au (leB x m)) rfl (by rw [BI,Uv.out];omega) Ga.out (Dr _) (by omega) hz3 ?_);intro A6 cap6 w6 hown6 OJ;have PM:=qh hown6;have xe:=qh OJ;clear hown6 OJ))
    go_roundw
    case rel =>
     have hlen:(BB (fs.take (k+1))).length=L+x:=by rw [zC.out,List.length_append,HLL.out,Uv.out]
     refine ⟨k+1,A6,cap6,by go_num,by rw [hlen],by omega,?_,HB3.out.grown xe.out hz3 (fun i hi=>(YS.out.lt i hi).1)⟩
     show World.ownsRow _ _ _ _ _ _ _
     rw [hlen,zC.out,Ba]
     exact PM.out
    case measure=>simp [intOf];omega
  · have hfull:=fq.out k hlt
    rw [hfull] at HR ⊢
    go_wp2_with fail
    go_ret2
    exact ⟨⟨_,_,rfl,HR.out⟩,HB.out⟩
end
end Go.Proofs.YtpenklpdjpkigaaGreat
