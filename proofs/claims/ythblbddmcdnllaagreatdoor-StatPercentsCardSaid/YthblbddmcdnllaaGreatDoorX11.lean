/- A part of the proof: WNode4, WBlk1. -/
import Derived.Test.YthblbddmcdnllaaGreatDoorX10
import Derived.Test.YthblbddmcdnllaaGreatDoorX6
import Derived.Test.YthblbddmcdnllaaGreatDoorX8
import Derived.Test.YthblbddmcdnllaaGreatDoorX3
import Derived.Test.YthblbddmcdnllaaGreatDoorY1
set_option maxHeartbeats 6400000
set_option linter.unusedVariables false
set_option linter.unusedSimpArgs false
namespace Go.Proofs.YthblbddmcdnllaaGreatDoor
section
open Go.RowKit
attribute [local go_sem] Oper.semAt_some
def Fh (w:World) (l:List UInt8) (e:Ending) (w':World):Prop:=∃ v,e=.returned (.tuple #[v,.int .i64 (CK l)])∧CW w' (Fu w.heap.size w'.heap.size) v (if CK l=0 then EH l else Pi)
theorem Fh.bad {w w':World} {l:List UInt8} {E:Int} (h:CK l=E) (hE:E≠0):Fh w l (.returned (.tuple #[.agg #[.int .i64 0,.bool false,.slice none 0 0,.slice none 0 0],.int .i64 E])) w' :=
 ⟨_,by rw [h],by rw [h,if_neg hE];exact CW.zero⟩
theorem I4 {l:List UInt8} (h:Ib l=false):CK l=7:=by unfold CK;rw [if_pos h]
theorem Pj {l:List UInt8} (h:EW l=false):Ib l=false:=by unfold Ib;rw [h];rfl
theorem Ny {l:List UInt8} (h:EW l=true):l.length=244∧AC l 2 2≤BH (AC l 1 1) (decide (AC l 0 1=1))∧Ah (AC l 1 1) (decide (AC l 0 1=1))≠0:=by
 unfold EW at h
 simp only [Bool.and_eq_true,decide_eq_true_eq] at h
 exact ⟨h.1.1.1.1.1.1.1,h.1.1.1.1.2,h.1.1.1.1.1.2⟩
theorem room_le {t:Int} {lf:Bool} {n:Nat} (h:n≤BH t lf) (h0:Ah t lf≠0):BH t lf≤18∧Ah t lf≤24∧12+BH t lf*8+BH t lf*Ah t lf≤228∧n*Ah t lf≤BH t lf*Ah t lf:=by
 have hm:=Nat.mul_le_mul_right (Ah t lf) h
 rcases GQ t lf with ⟨a,b⟩|⟨a,b⟩|⟨a,b⟩|⟨a,b⟩|⟨a,b⟩ <;> (rw [a,b] at hm ⊢;rw [b] at h;rw [a] at h0;omega)
set_option maxRecDepth 100000 in
theorem Nz (w:World) (S:Nat→Prop) (v:Value) (l:List UInt8) (hS:∀ b,S b→b<w.heap.size) (h:AU w S v l) (hl:l.length≤140737488355328) :
 Calls Tryz.prog 96 #[v] w fun e w'=>Fh w l e w'∧Below w.heap.size w w':=by
 have wI:=qh (fun w' (hB:Below w.heap.size w w')=>UT w' S v l (fun b hb=>Nat.lt_of_lt_of_le (hS b hb) hB.size) (h.keep (AB _) (fun _ h=>h) (AR hB hS)) hl)
 have hB1:Below w.heap.size w (w.alloc (.cells #[.int .i64 0,.bool false,.slice none 0 0,.slice none 0 0] 125)):=(Below.refl _ _).alloc (Nat.le_refl _) _
 have hr1:AP (w.alloc (.cells #[.int .i64 0,.bool false,.slice none 0 0,.slice none 0 0] 125)) w.heap.size 0 false (.slice none 0 0) (.slice none 0 0):=heap_alloc_new w _
 have jK:=qh (wI.out _ hB1)
 obtain ⟨A,c,rfl,hc,hr⟩:=h
 go_enter Tryz.func96,Tryz.ntmps96
 go_upto_region 1 with fail
 generalize w.alloc (.cells #[.int .i64 0,.bool false,.slice none 0 0,.slice none 0 0] 125)=w1 at *
 go_upto_region 2 with (go_at_call 155;refine jK.out.mono ?_;rintro e w2 ⟨⟨t,lf,n,ok,rfl,hok,hsh⟩,hB2⟩;have X0:=qh hok;have wJ:=qh hsh;clear hok hsh)
 have hr2:AP (w2.alloc (.cells #[.int .i64 t,.bool lf,.slice none 0 0,.slice none 0 0] 125)) w.heap.size 0 false (.slice none 0 0) (.slice none 0 0):=(Below.heap_alloc _ _ _ (by have:=hB2.size;have:=hr1.lt;omega)).trans (hr1.below hB2 hr1.lt)
 have hg2:=Bi.start w2 (w.heap.size+1) (Nat.le_trans hr1.lt hB2.size) t lf
 have hB3:Below w.heap.size w (w2.alloc (.cells #[.int .i64 t,.bool lf,.slice none 0 0,.slice none 0 0] 125)):=(hB1.trans (hB2.mono hB1.size)).alloc (Nat.le_trans hB1.size hB2.size) _
 have hlt3:w.heap.size<w2.heap.size:=Nat.lt_of_lt_of_le hr1.lt hB2.size
 obtain ⟨g,hg⟩:∃ g,w2.heap.size=g:=⟨_,rfl⟩
 rw [hg] at hg2 hlt3 ⊢
 clear hg jK
 generalize w2.alloc (.cells #[.int .i64 t,.bool lf,.slice none 0 0,.slice none 0 0] 125)=w3 at *
 have HB3:=qh hB3
 clear hB1 hr1 hB2 hB3
 cases ok with
 | false =>
  obtain ⟨z0,z1,z2,z3⟩:=(hr2.put 0 false (.slice none 0 0) (.slice none 0 0)).cells
  obtain ⟨f0,f1,f2,f3⟩:=hr2.free
  obtain ⟨r0,r1,r2,r3⟩:=hr2.cells
  have HE:=qh (I4 (Pj X0.out.symm))
  go_wp2_with fail
  refine bodyPost_ret (v:=.tuple #[.agg #[.int .i64 0,.bool false,.slice none 0 0,.slice none 0 0],.int .i64 7]) (by simp [results,Tryz.results96,go_sem,z0,z1,z2,z3]) rfl ⟨Fh.bad HE.out (by decide),?_⟩
  exact C8 HB3.out (Nat.le_refl _) (.int .i64 0) (.bool false) (.slice none 0 0) (.slice none 0 0)
 | true =>
  obtain ⟨rfl,rfl,rfl⟩:=wJ.out rfl
  obtain ⟨hlen,zV,hW0⟩:=Ny X0.out.symm
  obtain ⟨zW,zX,hroom,wK⟩:=room_le zV hW0
  obtain ⟨b,off,rfl,hSb,hcl⟩:=BU hr (by omega)
  rw [hlen] at hc ⊢
  have p9:Hid (∀ w' a n,Below w.heap.size w w'→a+n≤244→AU w' S (.slice (some ⟨b,off+a,none⟩) n (c-a)) (BF l a n)):=fun w' a n hB ha=>(LQ hr (by omega) (by omega)).keep (AB _) (fun _ h=>h) (AR hB hS)
  have jL:Hid (∀ a n,a+n≤244→∀ w',Below w.heap.size w w'→(convert 82 9 (.slice (some ⟨b,off+a,none⟩) n (c-a))).run Tryz.prog w'=.ok (.string (BJ (BF l a n))) w'):=fun a n ha=>TH hS hr (by omega) (by omega)
  have qA:Hid (∀ w' k,Below w.heap.size w w'→12+k*8+8≤244→Calls Tryz.prog 89 #[.slice (some ⟨b,off,none⟩) 244 c,.int .i64 ((12+k*8:Nat):Int),.int .i64 8] w' fun e w''=>e=.returned (if 9223372036854775808≤Cv l k then .tuple #[.int .i64 0,.int .i64 2] else .tuple #[.int .i64 (Cv l k:Nat),.int .i64 0])∧w''=w'):=fun w' k hB hk =>
   IC w' S (.slice (some ⟨b,off,none⟩) 244 c) l (12+k*8) 8 (fun b hb=>Nat.lt_of_lt_of_le (hS b hb) hB.size) ⟨_,c,by rw [hlen],by omega,hr.keep (AB _) (fun _ h=>h) (AR hB hS)⟩ (by unfold Nk;omega) (by omega) (by omega)
  have Zz:Hid (∀ w' a n,Below w.heap.size w w'→a+n≤244→Calls Tryz.prog 156 #[.slice (some ⟨b,off+a,none⟩) n (c-a)] w' fun e w''=>e=.returned (.bool (DZ (BF l a n)))∧w''=w'):=fun w' a n hB ha =>
   Ph w' S _ _ (fun b hb=>Nat.lt_of_lt_of_le (hS b hb) hB.size) (p9.out w' a n hB ha) (by rw [Ej (by omega)];omega)
  have LY:Hid (Ib l=(DZ (BF l (12+AC l 2 2*8) (BH (AC l 1 1) (decide (AC l 0 1=1))*8-AC l 2 2*8)) && DZ (BF l (12+BH (AC l 1 1) (decide (AC l 0 1=1))*8+AC l 2 2*Ah (AC l 1 1) (decide (AC l 0 1=1))) (244-(12+BH (AC l 1 1) (decide (AC l 0 1=1))*8+AC l 2 2*Ah (AC l 1 1) (decide (AC l 0 1=1))))))):=by
   show _=_
   have e:=UD (l:=l) (a:=12+BH (AC l 1 1) (decide (AC l 0 1=1))*8+AC l 2 2*Ah (AC l 1 1) (decide (AC l 0 1=1))) (n:=244-(12+BH (AC l 1 1) (decide (AC l 0 1=1))*8+AC l 2 2*Ah (AC l 1 1) (decide (AC l 0 1=1)))) (by omega)
   unfold Ib
   rw [← X0.out,Bool.true_and,e]
  have EP:Hid (CK l=if Ib l=false then 7 else G7 l (D5 l 0) 0 (AC l 2 2-0)):=rfl
  have RB:Hid (∀ w' v,CW w' (Fu w.heap.size w'.heap.size) v ⟨AC l 1 1,decide (AC l 0 1=1),EL l (AC l 2 2),FK l (BH (AC l 1 1) (decide (AC l 0 1=1))) (Ah (AC l 1 1) (decide (AC l 0 1=1))) (AC l 2 2)⟩→CK l=0→Fh w l (.returned (.tuple #[v,.int .i64 0])) w'):=fun w' v h hE=>⟨v,by rw [hE],by rw [if_pos hE];exact h⟩
  have zY:=qh (fun k (hk:k<AC l 2 2)=>Q4 (l:=l) hk)
  have wL:Hid (∀ k,M0 l (BH (AC l 1 1) (decide (AC l 0 1=1))) (Ah (AC l 1 1) (decide (AC l 0 1=1))) k=BF l (12+BH (AC l 1 1) (decide (AC l 0 1=1))*8+k*Ah (AC l 1 1) (decide (AC l 0 1=1))) (Ah (AC l 1 1) (decide (AC l 0 1=1)))):=fun k=>rfl
  have HW:=qh (fun w'=>EY w' (AC l 1 1:Nat) (decide (AC l 0 1=1)))
  have HM:=qh (fun w'=>El w' (AC l 1 1:Nat) (decide (AC l 0 1=1)))
  clear hr hcl wJ wI hW0
  generalize decide (AC l 0 1=1)=lf at *
  generalize AC l 1 1=t at *
  generalize Ah (t:Int) lf=W at *
  generalize BH (t:Int) lf=M at *
  generalize AC l 2 2=n at *
  obtain ⟨x0,x1,x2,x3⟩:=hg2.2.1.cells
  go_upto_region 4 with fail
  go_quiet ((first
   | (go_at_call 97;exact Calls.quiet_of_same (HW.out _))
   | (go_at_call 53;exact Calls.quiet_of_same (HM.out _))))
  have hg4:=hg2.drewN nq
  have EQ:=qh (AV HB3.out nq)
  have hr4:=hr2.drewN nq
  generalize w3.drewN nq=w4 at *
  clear x0 x1 x2 x3 hg2 hr2 HB3
  obtain ⟨V,hV⟩:∃ V,12+M*8=V:=⟨_,rfl⟩
  obtain ⟨nW,hnw⟩:∃ x,n*W=x:=⟨_,rfl⟩
  obtain ⟨MW,hmw⟩:∃ x,M*W=x:=⟨_,rfl⟩
  rw [hV] at LY hroom
  rw [hnw] at LY wK
  rw [hmw] at hroom wK
  have qB:Hid (∀ k,M0 l M W k=BF l (V+k*W) W):=fun k=>by rw [wL.out,hV]
  have e8:IntKind.i64.wrap (12+(M:Int)*8)=(V:Int):=by rw [IntKind.wrap_i64];omega
  have e8':12+(M:Int)*8=(V:Int):=by omega
  have enw:(n:Int)*(W:Int)=(nW:Int):=by rw [← hnw];simp
  have ewn:IntKind.i64.wrap ((n:Int)*(W:Int))=(nW:Int):=by rw [enw,IntKind.wrap_i64];omega
  have HV:=qh hV
  have qC:=qh hnw
  have HMW:=qh hmw
  clear hV hnw hmw wL
  obtain ⟨a1,ha1⟩:∃ x,12+n*8=x:=⟨_,rfl⟩
  obtain ⟨a2,ha2⟩:∃ x,V+nW=x:=⟨_,rfl⟩
  have e9:12+(n:Int)*8=(a1:Int):=by omega
  have e9':IntKind.i64.wrap (12+(n:Int)*8)=(a1:Int):=by rw [e9,IntKind.wrap_i64];omega
  have e10:(V:Int)+(nW:Int)=(a2:Int):=by omega
  have zZ:IntKind.i64.wrap ((V:Int)+(nW:Int))=(a2:Int):=by rw [e10,IntKind.wrap_i64];omega
  have hV2:V=12+M*8:=HV.out.symm
  have wM:M*8-n*8=V-a1:=by omega
  rw [ha1,ha2,wM] at LY
  have HZ1:=qh (Zz.out w4 a1 (V-a1) EQ.out (by omega))
  have HZ2:=qh (Zz.out w4 a2 (244-a2) EQ.out (by omega))
  have za:(a1:Int)≤(V:Int):=by omega
  have zb:(a2:Int)≤244:=by omega
  have qD:¬ c=a2:=by omega
  have qE:¬ c=a1:=by omega
  have ze:(c==a2)=false:=beq_false_of_ne qD
  have zf:(c==a1)=false:=beq_false_of_ne qE
  have hVl:(V:Int)≤244:=by omega
  have hVc:(V:Int)≤(c:Int):=by omega
  have jM:(244:Int)≤(c:Int):=by omega
  clear ha1 ha2 hV2 wM
  generalize DZ (BF l a1 (V-a1))=z1 at *
  generalize DZ (BF l a2 (244-a2))=z2 at *
  cases z1 with
  | false =>
   have HE:=qh (I4 (l:=l) (by rw [LY.out];rfl))
   obtain ⟨z0,z1,z2,z3⟩:=(hr4.put 0 false (.slice none 0 0) (.slice none 0 0)).cells
   obtain ⟨f0,f1,f2,f3⟩:=hr4.free
   obtain ⟨r0,r1,r2,r3⟩:=hr4.cells
   go_wp2_with (go_at_call 156;refine HZ1.out.mono ?_;rintro e w4 ⟨rfl,rfl⟩)
   refine bodyPost_ret (v:=.tuple #[.agg #[.int .i64 0,.bool false,.slice none 0 0,.slice none 0 0],.int .i64 7]) (by simp [results,Tryz.results96,go_sem,z0,z1,z2,z3]) rfl ⟨Fh.bad HE.out (by decide),?_⟩
   exact C8 EQ.out (Nat.le_refl _) (.int .i64 0) (.bool false) (.slice none 0 0) (.slice none 0 0)
  | true =>
  cases z2 with
  | false =>
   have HE:=qh (I4 (l:=l) (by rw [LY.out];rfl))
   obtain ⟨z0,z1,z2,z3⟩:=(hr4.put 0 false (.slice none 0 0) (.slice none 0 0)).cells
   obtain ⟨f0,f1,f2,f3⟩:=hr4.free
   obtain ⟨r0,r1,r2,r3⟩:=hr4.cells
   go_wp2_with (first
    | (go_at_call 156;(with_reducible refine HZ1.out.mono ?_);rintro e w4 ⟨rfl,rfl⟩)
    | (go_at_call 156;(with_reducible refine HZ2.out.mono ?_);rintro e w4 ⟨rfl,rfl⟩))
   refine bodyPost_ret (v:=.tuple #[.agg #[.int .i64 0,.bool false,.slice none 0 0,.slice none 0 0],.int .i64 7]) (by simp [results,Tryz.results96,go_sem,z0,z1,z2,z3]) rfl ⟨Fh.bad HE.out (by decide),?_⟩
   exact C8 EQ.out (Nat.le_refl _) (.int .i64 0) (.bool false) (.slice none 0 0) (.slice none 0 0)
  | true =>
  have qF:Hid (CK l=G7 l (D5 l 0) 0 (n-0)):=by
   show _=_
   rw [EP.out,if_neg (by rw [LY.out];decide)]
  clear EP LY
  have HR4:=qh hr4
  have jN:=qh hg4
  clear hr4 hg4
  go_wp2_with (first
   | (go_at_call 156;(with_reducible refine HZ1.out.mono ?_);rintro e w4 ⟨rfl,rfl⟩)
   | (go_at_call 156;(with_reducible refine HZ2.out.mono ?_);rintro e w4 ⟨rfl,rfl⟩))
  go_loopw [56] (fun vi wr=>∃ (k:Nat) (Ak Av:Option Addr) (ck cv:Nat),vi=.int .i64 k∧k≤n∧Hid (CK l=G7 l (D5 l k) k (n-k))∧Hid (Bi wr (w.heap.size+1) g t lf (EL l k) (FK l M W k) Ak Av k ck k cv)∧Hid (AP wr w.heap.size 0 false (.slice none 0 0) (.slice none 0 0))∧Hid (Below w.heap.size w wr)) (fun vi _=>n-(intOf vi).toNat)
  case atStart=>exact ⟨0,none,none,0,0,rfl,by omega,qF,jN,HR4,EQ⟩
  case round =>
  obtain ⟨k,Ak,Av,ck,cv,rfl,hk,jO,HG,HR,HB⟩:=hrel
  by_cases hlt:k<n
  · have X3:=qh (zY.out k hlt)
    have Z0:=qA.out wr k HB.out (by omega)
    have hr:=HR.out
    obtain ⟨K,hK⟩:∃ K,Cv l k=K:=⟨_,rfl⟩
    rw [hK] at Z0 X3
    have HKEY:Hid (Calls Tryz.prog 157 #[.slice Ak k ck,.int .i64 K] wr fun e w'=>e=.returned (.int .i64 (I1 k (D5 l k) K))∧w'=wr):=YX wr Ak k ck (D5 l k) K (by omega) (fun h=>by
     obtain ⟨b,e,hb,q⟩:=HG.out.last h
     rw [PI h] at q
     exact ⟨b,0,e,q⟩)
    have HKK:=qh hK
    clear hK
    obtain ⟨a3,qG⟩:∃ x,12+k*8=x:=⟨_,rfl⟩
    rw [qG] at Z0
    have e11:12+(k:Int)*8=(a3:Int):=by omega
    have zg:IntKind.i64.wrap (12+(k:Int)*8)=(a3:Int):=by rw [e11,IntKind.wrap_i64];omega
    have wN:=qh qG
    clear qG
    by_cases hbig:9223372036854775808≤K
    · as_aux_lemma =>
      rw [if_pos hbig] at Z0
      have WF:=qh Z0
      have HE:Hid (CK l=2):=by show _=_;rw [jO.out,X3.out,if_pos (by omega)]
      clear hbig Z0
      obtain ⟨z0,z1,z2,z3⟩:=(hr.put 0 false (.slice none 0 0) (.slice none 0 0)).cells
      obtain ⟨f0,f1,f2,f3⟩:=hr.free
      obtain ⟨r0,r1,r2,r3⟩:=hr.cells
      go_wp2_with (go_at_call 89;refine WF.out.mono ?_;rintro e wr ⟨rfl,rfl⟩)
      refine bodyPost_ret (v:=.tuple #[.agg #[.int .i64 0,.bool false,.slice none 0 0,.slice none 0 0],.int .i64 2]) (by simp [results,Tryz.results96,go_sem,z0,z1,z2,z3]) rfl ⟨Fh.bad HE.out (by decide),?_⟩
      exact C8 HB.out (Nat.le_refl _) (.int .i64 0) (.bool false) (.slice none 0 0) (.slice none 0 0)
    · rw [if_neg hbig] at Z0
      have WF:=qh Z0
      clear Z0
      by_cases hmax:281474976710655<K
      · as_aux_lemma =>
        have HE:Hid (CK l=2):=by show _=_;rw [jO.out,X3.out,if_pos hmax]
        have HF:Hid (I1 k (D5 l k) K=2):=if_pos (.inr (by omega))
        rw [HF.out] at HKEY
        obtain ⟨x0,x1,x2,x3⟩:=HG.out.2.1.cells
        obtain ⟨z0,z1,z2,z3⟩:=(hr.put 0 false (.slice none 0 0) (.slice none 0 0)).cells
        obtain ⟨f0,f1,f2,f3⟩:=hr.free
        obtain ⟨r0,r1,r2,r3⟩:=hr.cells
        go_wp2_with (first
         | (go_at_call 89;refine WF.out.mono ?_;rintro e wr ⟨rfl,rfl⟩)
         | (go_at_call 157;refine HKEY.out.mono ?_;rintro e wr ⟨rfl,rfl⟩))
        refine bodyPost_ret (v:=.tuple #[.agg #[.int .i64 0,.bool false,.slice none 0 0,.slice none 0 0],.int .i64 2]) (by simp [results,Tryz.results96,go_sem,z0,z1,z2,z3]) rfl ⟨Fh.bad HE.out (by decide),?_⟩
        exact C8 HB.out (Nat.le_refl _) (.int .i64 0) (.bool false) (.slice none 0 0) (.slice none 0 0)
      · by_cases UU:0<k∧(K:Int)≤D5 l k
        · as_aux_lemma =>
          have HE:Hid (CK l=8):=by show _=_;rw [jO.out,X3.out,if_neg hmax,if_pos UU]
          have HF:Hid (I1 k (D5 l k) K=8):=by show _=_;unfold I1;rw [if_neg (by omega),if_pos UU]
          rw [HF.out] at HKEY
          clear UU
          obtain ⟨x0,x1,x2,x3⟩:=HG.out.2.1.cells
          obtain ⟨z0,z1,z2,z3⟩:=(hr.put 0 false (.slice none 0 0) (.slice none 0 0)).cells
          obtain ⟨f0,f1,f2,f3⟩:=hr.free
          obtain ⟨r0,r1,r2,r3⟩:=hr.cells
          go_wp2_with (first
           | (go_at_call 89;refine WF.out.mono ?_;rintro e wr ⟨rfl,rfl⟩)
           | (go_at_call 157;refine HKEY.out.mono ?_;rintro e wr ⟨rfl,rfl⟩))
          refine bodyPost_ret (v:=.tuple #[.agg #[.int .i64 0,.bool false,.slice none 0 0,.slice none 0 0],.int .i64 8]) (by simp [results,Tryz.results96,go_sem,z0,z1,z2,z3]) rfl ⟨Fh.bad HE.out (by decide),?_⟩
          exact C8 HB.out (Nat.le_refl _) (.int .i64 0) (.bool false) (.slice none 0 0) (.slice none 0 0)
        · have HF:Hid (I1 k (D5 l k) K=0):=by show _=_;unfold I1;rw [if_neg (by omega),if_neg UU]
          rw [HF.out] at HKEY
          have qH:Hid (CK l=G7 l (D5 l (k+1)) (k+1) (n-(k+1))):=by show _=_;rw [jO.out,X3.out,if_neg hmax,if_neg UU]
          clear UU
          obtain ⟨x0,x1,x2,x3⟩:=HG.out.2.1.cells
          obtain ⟨y0,y1,y2,y3⟩:=HG.out.2.1.free
          have hown:=HG.out.2.2.1
          have hz:w.heap.size+1≤wr.heap.size:=by have:=HG.out.2.1.lt;omega
          go_upto_region 17 with (first
           | (go_at_call 89;refine WF.out.mono ?_;rintro e wr ⟨rfl,rfl⟩)
           | (go_at_call 157;refine HKEY.out.mono ?_;rintro e wr ⟨rfl,rfl⟩)
           | (at_builtin;go_loud (refine ED Ha rfl _ _ rfl (w.heap.size+1) (.slice Ak k ck) k (EL l k) (K:Int) rfl hown rfl (by omega) hz ?_);intro A6 cap6 w6 hown6 N7;have NH:=HG.out.key hown6 N7;have wO:=qh NH.1;obtain ⟨q0,q1,q2,q3⟩:=NH.2.cells;obtain ⟨p0,p1,p2,p3⟩:=NH.2.free;clear NH))
          have FP:=HB.out.grown N7 HB.out.size (fun i hi=>by have:=(hown.lt i hi).1;omega)
          have jP:AP w6 w.heap.size 0 false (.slice none 0 0) (.slice none 0 0):=(N7.block _ hr.lt (BC hown hr.h (by decide))).trans hr
          have IG:=wO.out
          have Gs:=FP.setCell (p:=⟨g,2,none⟩) (Nat.le_of_lt hlt3) (.slice A6 (k+1) cap6)
          have wP:=jP.jJ (b:=g) (by omega) 2 (.slice A6 (k+1) cap6)
          generalize w6.setCell ⟨g,2,none⟩ (.slice A6 (k+1) cap6)=w7 at *
          have WG:=qh wP
          clear q0 q1 q2 q3 p0 p1 p2 p3 FP jP wP wO hown6 N7
          obtain ⟨x,hx⟩:∃ x,k*W=x:=⟨_,rfl⟩
          obtain ⟨y,hy⟩:∃ y,V+x=y:=⟨_,rfl⟩
          have hkW:x+W≤nW:=by
           have:=Nat.mul_le_mul_right W (show k+1≤n by omega)
           rw [Nat.add_mul,hx,qC.out] at this
           omega
          obtain ⟨x2,hx2⟩:∃ x2,x+W=x2:=⟨_,rfl⟩
          obtain ⟨z,hzz⟩:∃ z,y+W=z:=⟨_,rfl⟩
          have zh:(k:Int)*(W:Int)=(x:Int):=by rw [← hx];simp
          have zi:IntKind.i64.wrap (x:Int)=(x:Int):=by rw [IntKind.wrap_i64];omega
          have em2:((k:Int)+1)*(W:Int)=(x2:Int):=by rw [Int.add_mul,zh];omega
          have zk:IntKind.i64.wrap (x2:Int)=(x2:Int):=by rw [IntKind.wrap_i64];omega
          have em3:IntKind.i64.wrap ((V:Int)+(x:Int))=(y:Int):=by rw [IntKind.wrap_i64];omega
          have em4:IntKind.i64.wrap ((V:Int)+(x2:Int))=(z:Int):=by rw [IntKind.wrap_i64];omega
          have em5:IntKind.i64.wrap ((k:Int)+1)=(k:Int)+1:=by rw [IntKind.wrap_i64];omega
          have hcv:=jL.out y W (by omega)
          have zl:Hid (FK l M W (k+1)=FK l M W k++[BF l y W]):=by show _=_;rw [PH,qB.out,hx,hy]
          have hyW:(y:Int)≤(z:Int):=by omega
          have hyl:(z:Int)≤244:=by omega
          have zm:(z:Int)≤(c:Int):=by omega
          have zn:y≤z:=by omega
          have zo:z≤c:=by omega
          have zq:¬ c=y:=by omega
          have zt:(c==y)=false:=beq_false_of_ne zq
          have hyn:z-y=W:=by omega
          have bg:=Gs.size
          have qI:w.heap.size+1≤w7.heap.size:=by have:=IG.2.1.lt;omega
          clear hx hy hx2 hzz
          have qJ:=qh hcv
          clear hcv hkW
          have hv7:=IG.2.2.2
          have X4:=qh hv7
          have zu:=qh IG
          clear hv7
          refine AJ (T:=fun j=>j==19) (S:=fun w'=>Below w.heap.size w w'∧AP w' g t lf (.slice A6 (k+1) cap6) (.slice Av k cv)) (by kernel_rfl) (⟨Gs.drew,IG.2.1⟩) (fun hHeld=>?_)
          refine qs 0 83 hHeld ?_
          refine qf 1 84 rfl rfl hHeld (by intro w hSw;obtain ⟨x0,x1,x2,x3⟩:=hSw.2.cells;go_simp;(try with_reducible rfl)) ?_
          refine qs 2 85 hHeld ?_
          refine qs 3 86 hHeld ?_
          refine qs 4 87 hHeld ?_
          refine qs 5 88 hHeld ?_
          refine qs 6 89 hHeld ?_
          refine qs 7 90 hHeld ?_
          refine qs 8 91 hHeld ?_
          refine qs 9 92 hHeld ?_
          refine qs 10 93 hHeld ?_
          refine qs 11 94 hHeld ?_
          refine qs 12 95 hHeld ?_
          refine qs 13 96 hHeld ?_
          refine qs 14 97 hHeld ?_
          refine qf 15 98 rfl rfl hHeld (by intro w hSw;have hcv:=qJ.out _ hSw.1;go_simp;(try with_reducible rfl)) ?_
          refine qo 16 fun K hK=>?_
          go_simp
          clear hHeld
          have hHeld:=(show Below w.heap.size w (w7.drew.alloc (.cells #[.string (BJ (BF l y W))] 9))∧AP (w7.drew.alloc (.cells #[.string (BJ (BF l y W))] 9)) g t lf (.slice A6 (k+1) cap6) (.slice Av k cv) from ⟨Gs.drew.alloc bg _,(Below.heap_alloc w7.drew _ _ IG.2.1.lt).trans IG.2.1⟩)
          refine hK.out _ _ (fun _=>hHeld) (fun _=>?_)
          clear hK K
          (try simp only [Act.put,qS])
          refine qo 17 fun K hK=>?_
          refine KY ic rfl _ _ rfl (w.heap.size+1) (.slice Av k cv) k (FK l M W k) (BF l y W) rfl X4.out.drew rfl (by omega) qI ?_
          intro A9 c9 w9 Ig Dp
          have hHeld:=(show Below w.heap.size w w9∧AP w9 g t lf (.slice A6 (k+1) cap6) (.slice Av k cv) from ⟨Gs.drew.grown Dp bg (fun j hj=>by have:=(X4.out.lt j hj).1;omega),(Dp.block g IG.2.1.lt (BC X4.out IG.2.1.h (by decide))).trans IG.2.1⟩)
          refine hK.out _ _ (fun _=>hHeld) (fun _=>?_)
          clear hK K
          (try simp only [Act.put])
          refine qs 18 101 hHeld ?_
          refine qo 19 fun K hK=>?_
          obtain ⟨x0,x1,x2,x3⟩:=hHeld.2.cells;obtain ⟨y0,y1,y2,y3⟩:=hHeld.2.free
          go_simp
          refine hK.out _ _ (fun h=>by cases h) (fun _=>?_)
          clear hK K hHeld
          (try simp only [Act.put,qS])
          refine qd ?_
          have gy:=(zu.out.drewN 1).val Ig Dp
          have Pk:AP w9 w.heap.size 0 false (.slice none 0 0) (.slice none 0 0):=(Dp.block _ WG.out.lt (BC X4.out WG.out.h (by decide))).trans WG.out
          have qK:=Pk.jJ (b:=g) (by omega) 3 (.slice A9 (k+1) c9)
          have Gt:=(Gs.drew.grown Dp bg (fun j hj=>by have:=(X4.out.lt j hj).1;omega)).setCell (p:=⟨g,3,none⟩) (Nat.le_of_lt hlt3) (.slice A9 (k+1) c9)
          have hk10:=gy.1
          clear gy Pk Ig Dp
          go_wp2_with fail
          go_roundw
          case rel=>exact ⟨k+1,A6,A9,cap6,c9,by go_num,by omega,qH,by show _;rw [zl.out,PG,HKK.out];exact hk10,qK,Gt⟩
          case measure=>simp [intOf];omega
  · have hkn:k=n:=by omega
    subst hkn
    have YW:Hid (CK l=0):=by show _=_;rw [jO.out,Nat.sub_self];rfl
    obtain ⟨x0,x1,x2,x3⟩:=HG.out.2.1.cells
    obtain ⟨z0,z1,z2,z3⟩:=(HR.out.put t lf (.slice Ak k ck) (.slice Av k cv)).cells
    obtain ⟨f0,f1,f2,f3⟩:=HR.out.free
    obtain ⟨r0,r1,r2,r3⟩:=HR.out.cells
    go_wp2_with fail
    refine bodyPost_ret (v:=.tuple #[.agg #[.int .i64 t,.bool lf,.slice Ak k ck,.slice Av k cv],.int .i64 0]) (by simp [results,Tryz.results96,go_sem,z0,z1,z2,z3]) rfl ⟨RB.out _ _ ?_ YW.out,?_⟩
    · have hi:=HG.out.is
      exact hi.keep (fun b hb=>⟨by have:=hb.1;omega,by simpa [World.setCell] using hb.2⟩) (fun b o hb=>CZ (by have:=hb.1;omega) (.int .i64 t) (.bool lf) (.slice Ak k ck) (.slice Av k cv))
    · exact C8 HB.out (Nat.le_refl _) (.int .i64 t) (.bool lf) (.slice Ak k ck) (.slice Av k cv)
end
section
open Go.RowKit
attribute [local go_sem] Oper.semAt_some
def WH (x:Nd) (Ak:Option Addr) (nk ck:Nat) (Av:Option Addr) (nv cv:Nat):Value:=.agg #[.int .i64 x.tree,.bool x.leaf,.slice Ak nk ck,.slice Av nv cv]
theorem CW.open_ {w:World} {S:Nat→Prop} {v:Value} {x:Nd} (h:CW w S v x):∃ Ak nk ck Av nv cv,v=WH x Ak nk ck Av nv cv:=by
 obtain ⟨kv,vv,rfl,⟨A,c,rfl,_⟩,⟨A',c',rfl,_⟩⟩:=h
 exact ⟨_,_,_,_,_,_,rfl⟩
theorem RO (w:World) (S:Nat→Prop) (v:Value) (l:List UInt8) (x:Nd) (E:Int) (hx:(if CK l=0 then EH l else Pi)=x) (hE:CK l=E) (hS:∀ b,S b→b<w.heap.size) (h:AU w S v l) (hl:l.length≤140737488355328) :
 Calls Tryz.prog 96 #[v] w fun e w'=>(∃ Ak nk ck Av nv cv,e=.returned (.tuple #[WH x Ak nk ck Av nv cv,.int .i64 E])∧CW w' (Fu w.heap.size w'.heap.size) (WH x Ak nk ck Av nv cv) x)∧Below w.heap.size w w':=by
 refine (Nz w S v l hS h hl).mono ?_
 rintro e w' ⟨⟨v',rfl,hn⟩,hB⟩
 rw [hx] at hn
 obtain ⟨Ak,nk,ck,Av,nv,cv,rfl⟩:=hn.open_
 exact ⟨⟨Ak,nk,ck,Av,nv,cv,by rw [hE],hn⟩,hB⟩
def Kn (w:World) (l:List UInt8) (tree:Int) (e:Ending) (w':World):Prop:=∃ v,e=.returned (.tuple #[v,.int .i64 (TF l tree)])∧CW w' (Fu w.heap.size w'.heap.size) v (if CK l=0 then EH l else Pi)
set_option maxRecDepth 100000 in
theorem UV (w:World) (S:Nat→Prop) (v:Value) (l:List UInt8) (gt:Nat) (tree:Int) (hS:∀ b,S b→b<w.heap.size) (h:AU w S v l) (hl:l.length≤140737488355328) (hgt:gt<w.heap.size) (ht:w.cell? ⟨gt,0,none⟩=some (.int .i64 tree)) :
 Calls Tryz.prog 95 #[v,.pointer (some ⟨gt,0,none⟩)] w fun e w'=>Kn w l tree e w'∧Below w.heap.size w w':=by
 have hr1:AP (w.alloc (.cells #[.int .i64 0,.bool false,.slice none 0 0,.slice none 0 0] 125)) w.heap.size 0 false (.slice none 0 0) (.slice none 0 0):=heap_alloc_new w _
 have hB1:Below w.heap.size w (w.alloc (.cells #[.int .i64 0,.bool false,.slice none 0 0,.slice none 0 0] 125)):=(Below.refl _ _).alloc (Nat.le_refl _) _
 obtain ⟨x,hx⟩:∃ x,(if CK l=0 then EH l else Pi)=x:=⟨_,rfl⟩
 have UW:Hid (CK l=0→x.tree=(EH l).tree):=fun h=>by rw [← hx,if_pos h]
 have UX:Hid (TF l tree=if CK l≠0 then CK l else if tree≠0∧(EH l).tree≠tree then 6 else 0):=rfl
 have nV:Hid (∀ e w' E v,TF l tree=E→e=.returned (.tuple #[v,.int .i64 E])→CW w' (Fu w.heap.size w'.heap.size) v x→Kn w l tree e w'):=fun e w' E v h1 h2 h3=>by
  unfold Kn
  rw [h1,hx]
  exact ⟨v,h2,h3⟩
 obtain ⟨E,qL⟩:∃ E,CK l=E:=⟨_,rfl⟩
 have hrd:=RO (w.alloc (.cells #[.int .i64 0,.bool false,.slice none 0 0,.slice none 0 0] 125)) S v l x E hx qL (fun b hb=>Nat.lt_of_lt_of_le (hS b hb) hB1.size) (h.keep (AB _) (fun _ h=>h) (AR hB1 hS)) hl
 have NI:=qh hrd
 rw [qL] at UW UX
 clear hx qL
 obtain ⟨xt,xl,xk,xv⟩:=x
 dsimp only [WH] at NI UW
 obtain ⟨A,c,rfl,hc,hr⟩:=h
 clear hrd hr
 generalize l.length=ln at *
 go_enter Tryz.func95,Tryz.ntmps95
 go_upto_region 1 with fail
 generalize w.alloc (.cells #[.int .i64 0,.bool false,.slice none 0 0,.slice none 0 0] 125)=w1 at *
 go_upto_region 2 with (go_at_call 96;refine NI.out.mono ?_;rintro e w2 ⟨⟨Ak,nk,ck,Av,nv,cv,rfl,hni⟩,hB2⟩;have Z4:=qh hni;clear hni)
 have hr2:=hr1.below hB2 hr1.lt
 have WI:AP (w2.alloc (.cells #[.int .i64 xt,.bool xl,.slice Ak nk ck,.slice Av nv cv] 125)) w2.heap.size xt xl (.slice Ak nk ck) (.slice Av nv cv):=heap_alloc_new w2 _
 have hB3:Below w2.heap.size w2 (w2.alloc (.cells #[.int .i64 xt,.bool xl,.slice Ak nk ck,.slice Av nv cv] 125)):=(Below.refl _ _).alloc (Nat.le_refl _) _
 have hr3:=hr2.below hB3 hr2.lt
 have hBw:=hB1.trans ((hB2.trans (hB3.mono hB2.size)).mono hB1.size)
 have ht3:=(hBw.cell (p:=⟨gt,0,none⟩) hgt).trans ht
 have EP:Hid (∀ w',Below w2.heap.size w2 w'→CW (((((w'.setCell ⟨w.heap.size,0,none⟩ (.int .i64 xt)).setCell ⟨w.heap.size,1,none⟩ (.bool xl)).setCell ⟨w.heap.size,2,none⟩ (.slice Ak nk ck)).setCell ⟨w.heap.size,3,none⟩ (.slice Av nv cv))) (Fu w.heap.size w'.heap.size) (.agg #[.int .i64 xt,.bool xl,.slice Ak nk ck,.slice Av nv cv]) ⟨xt,xl,xk,xv⟩):=fun w' hB=>by
  refine Z4.out.keep (fun b hb=>⟨by have:=hb.1;have:=hr1.lt;omega,by have:=hb.2;have:=hB.size;omega⟩) (fun b o hb=>?_)
  rw [CZ (by have:=hb.1;have:=hr1.lt;omega) (.int .i64 xt) (.bool xl) (.slice Ak nk ck) (.slice Av nv cv)]
  exact hB.cell (p:=⟨b,o,none⟩) hb.2
 have hlt3:w2.heap.size<(w2.alloc (.cells #[.int .i64 xt,.bool xl,.slice Ak nk ck,.slice Av nv cv] 125)).heap.size:=WI.lt
 generalize w2.alloc (.cells #[.int .i64 xt,.bool xl,.slice Ak nk ck,.slice Av nv cv] 125)=w3 at *
 obtain ⟨x0,x1,x2,x3⟩:=WI.cells
 obtain ⟨r0,r1,r2,r3⟩:=hr3.cells
 obtain ⟨f0,f1,f2,f3⟩:=hr3.free
 obtain ⟨z0,z1,z2,z3⟩:=(hr3.put xt xl (.slice Ak nk ck) (.slice Av nv cv)).cells
 have Ie:=qh (C8 hBw (Nat.le_refl _) (.int .i64 xt) (.bool xl) (.slice Ak nk ck) (.slice Av nv cv))
 have HB3:=qh hB3
 clear ht hB1 hB2 hB3 hBw hr1 hr2 hr3 WI NI
 have fin:∀ E',TF l tree=E'→Kn w l tree (.returned (.tuple #[.agg #[.int .i64 xt,.bool xl,.slice Ak nk ck,.slice Av nv cv],.int .i64 E'])) ((((w3.setCell ⟨w.heap.size,0,none⟩ (.int .i64 xt)).setCell ⟨w.heap.size,1,none⟩ (.bool xl)).setCell ⟨w.heap.size,2,none⟩ (.slice Ak nk ck)).setCell ⟨w.heap.size,3,none⟩ (.slice Av nv cv)):=fun E' h=>nV.out _ _ E' _ h rfl (by
  have:=EP.out w3 HB3.out
  simpa [World.setCell] using this)
 have FIN:=qh fin
 clear fin
 by_cases hE:E=0
 · subst hE
   have hxt:=UW.out rfl
   by_cases h0:tree=0
   · as_aux_lemma =>
     have HF:Hid (TF l tree=0):=by show _=_;rw [UX.out,if_neg (by simp),if_neg (fun h=>h.1 h0)]
     subst h0
     clear hxt
     go_wp2_with fail
     refine bodyPost_ret (v:=.tuple #[.agg #[.int .i64 xt,.bool xl,.slice Ak nk ck,.slice Av nv cv],.int .i64 0]) (by simp [results,Tryz.results95,go_sem,z0,z1,z2,z3]) rfl ⟨FIN.out _ HF.out,Ie.out⟩
   · have d0:((tree:Int) != 0)=true:=by rw [bne_iff_ne];exact h0
     by_cases h1:xt=tree
     · as_aux_lemma =>
       have HF:Hid (TF l tree=0):=by show _=_;rw [UX.out,if_neg (by simp),if_neg (fun h=>h.2 (by rw [← hxt];exact h1))]
       have d1:(xt != tree)=false:=by rw [bne_eq_false_iff_eq];exact h1
       clear hxt h1 h0
       go_wp2_with fail
       refine bodyPost_ret (v:=.tuple #[.agg #[.int .i64 xt,.bool xl,.slice Ak nk ck,.slice Av nv cv],.int .i64 0]) (by simp [results,Tryz.results95,go_sem,z0,z1,z2,z3]) rfl ⟨FIN.out _ HF.out,Ie.out⟩
     · as_aux_lemma =>
       have HF:Hid (TF l tree=6):=by show _=_;rw [UX.out,if_neg (by simp),if_pos ⟨h0,by rw [← hxt];exact h1⟩]
       have d1:(xt != tree)=true:=by rw [bne_iff_ne];exact h1
       clear hxt h1 h0
       go_wp2_with fail
       refine bodyPost_ret (v:=.tuple #[.agg #[.int .i64 xt,.bool xl,.slice Ak nk ck,.slice Av nv cv],.int .i64 6]) (by simp [results,Tryz.results95,go_sem,z0,z1,z2,z3]) rfl ⟨FIN.out _ HF.out,Ie.out⟩
 · as_aux_lemma =>
   have HF:Hid (TF l tree=E):=by show _=_;rw [UX.out,if_pos hE]
   have d0:(E==0)=false:=beq_false_of_ne hE
   clear hE
   go_wp2_with fail
   refine bodyPost_ret (v:=.tuple #[.agg #[.int .i64 xt,.bool xl,.slice Ak nk ck,.slice Av nv cv],.int .i64 E]) (by simp [results,Tryz.results95,go_sem,z0,z1,z2,z3]) rfl ⟨FIN.out _ HF.out,Ie.out⟩
end
end Go.Proofs.YthblbddmcdnllaaGreatDoor
