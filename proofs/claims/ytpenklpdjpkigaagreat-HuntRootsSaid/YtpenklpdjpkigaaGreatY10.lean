/- Part 10 of the proof: WNode4, WBlk1, WRBytes, WRUnp. -/
import Derived.Test.YtpenklpdjpkigaaGreatY9
import Derived.Test.YtpenklpdjpkigaaGreatY3
import Derived.Test.YtpenklpdjpkigaaGreatY4
import Derived.Test.YtpenklpdjpkigaaGreatY2
import Derived.Test.YtpenklpdjpkigaaGreatY5
import Derived.Test.YtpenklpdjpkigaaGreatY8
import Derived.Test.YtpenklpdjpkigaaGreatY6
import Derived.Test.YtpenklpdjpkigaaGreatY1
set_option maxHeartbeats 6400000
set_option linter.unusedVariables false
set_option linter.unusedSimpArgs false
namespace Go.Proofs.YtpenklpdjpkigaaGreat
section
open Go.RowKit
attribute [local go_sem] Oper.semAt_some
def Eu (w:World) (l:List UInt8) (e:Ending) (w':World):Prop:=∃ v,e=.returned (.tuple #[v,.int .i64 (Bl l)])∧Bp w' (C9 w.heap.size w'.heap.size) v (if Bl l=0 then Du l else Mr)
theorem Eu.bad {w w':World} {l:List UInt8} {E:Int} (h:Bl l=E) (hE:E≠0):Eu w l (.returned (.tuple #[.agg #[.int .i64 0,.bool false,.slice none 0 0,.slice none 0 0],.int .i64 E])) w' :=
 ⟨_,by rw [h],by rw [h,if_neg hE];exact Bp.zero⟩
theorem JN {l:List UInt8} (h:Gr l=false):Bl l=7:=by unfold Bl;rw [if_pos h]
theorem Un {l:List UInt8} (h:FZ l=false):Gr l=false:=by unfold Gr;rw [h];rfl
theorem Sl {l:List UInt8} (h:FZ l=true):l.length=244∧AC l 2 2≤BZ (AC l 1 1) (decide (AC l 0 1=1))∧BF (AC l 1 1) (decide (AC l 0 1=1))≠0:=by
 unfold FZ at h
 simp only [Bool.and_eq_true,decide_eq_true_eq] at h
 exact ⟨h.1.1.1.1.1.1.1,h.1.1.1.1.2,h.1.1.1.1.1.2⟩
theorem room_le {t:Int} {lf:Bool} {n:Nat} (h:n≤BZ t lf) (h0:BF t lf≠0):BZ t lf≤18∧BF t lf≤24∧12+BZ t lf*8+BZ t lf*BF t lf≤228∧n*BF t lf≤BZ t lf*BF t lf:=by
 have hm:=Nat.mul_le_mul_right (BF t lf) h
 rcases Fb t lf with ⟨a,b⟩|⟨a,b⟩|⟨a,b⟩|⟨a,b⟩|⟨a,b⟩ <;> (rw [a,b] at hm ⊢;rw [b] at h;rw [a] at h0;omega)
set_option maxRecDepth 100000 in
theorem Sm (w:World) (S:Nat→Prop) (v:Value) (l:List UInt8) (hS:∀ b,S b→b<w.heap.size) (h:AX w S v l) (hl:l.length≤140737488355328) :
 Calls Tryz.prog 140 #[v] w fun e w'=>Eu w l e w'∧Below w.heap.size w w':=by
 have ym:=qh (fun w' (hB:Below w.heap.size w w')=>Zh w' S v l (fun b hb=>Nat.lt_of_lt_of_le (hS b hb) hB.size) (h.keep (AA _) (fun _ h=>h) (AL hB hS)) hl)
 have hB1:Below w.heap.size w (w.alloc (.cells #[.int .i64 0,.bool false,.slice none 0 0,.slice none 0 0] 173)):=(Below.refl _ _).alloc (Nat.le_refl _) _
 have hr1:AU (w.alloc (.cells #[.int .i64 0,.bool false,.slice none 0 0,.slice none 0 0] 173)) w.heap.size 0 false (.slice none 0 0) (.slice none 0 0):=heap_alloc_new w _
 have tF:=qh (ym.out _ hB1)
 obtain ⟨A,c,rfl,hc,hr⟩:=h
 go_enter Tryz.func140,Tryz.ntmps140
 go_upto_region 1 with fail
 generalize w.alloc (.cells #[.int .i64 0,.bool false,.slice none 0 0,.slice none 0 0] 173)=w1 at *
 go_upto_region 2 with (go_at_call 195;refine tF.out.mono ?_;rintro e w2 ⟨⟨t,lf,n,ok,rfl,hok,hsh⟩,hB2⟩;have WX:=qh hok;have HSO:=qh hsh;clear hok hsh)
 have hr2:AU (w2.alloc (.cells #[.int .i64 t,.bool lf,.slice none 0 0,.slice none 0 0] 173)) w.heap.size 0 false (.slice none 0 0) (.slice none 0 0):=(Below.heap_alloc _ _ _ (by have:=hB2.size;have:=hr1.lt;omega)).trans (hr1.below hB2 hr1.lt)
 have hg2:=Br.start w2 (w.heap.size+1) (Nat.le_trans hr1.lt hB2.size) t lf
 have hB3:Below w.heap.size w (w2.alloc (.cells #[.int .i64 t,.bool lf,.slice none 0 0,.slice none 0 0] 173)):=(hB1.trans (hB2.mono hB1.size)).alloc (Nat.le_trans hB1.size hB2.size) _
 have hlt3:w.heap.size<w2.heap.size:=Nat.lt_of_lt_of_le hr1.lt hB2.size
 obtain ⟨g,hg⟩:∃ g,w2.heap.size=g:=⟨_,rfl⟩
 rw [hg] at hg2 hlt3 ⊢
 clear hg tF
 generalize w2.alloc (.cells #[.int .i64 t,.bool lf,.slice none 0 0,.slice none 0 0] 173)=w3 at *
 have HB3:=qh hB3
 clear hB1 hr1 hB2 hB3
 cases ok with
 | false =>
  obtain ⟨z0,z1,z2,z3⟩:=(hr2.put 0 false (.slice none 0 0) (.slice none 0 0)).cells
  obtain ⟨f0,f1,f2,f3⟩:=hr2.free
  obtain ⟨r0,r1,r2,r3⟩:=hr2.cells
  have HE:=qh (JN (Un WX.out.symm))
  go_wp2_with fail
  refine bodyPost_ret (v:=.tuple #[.agg #[.int .i64 0,.bool false,.slice none 0 0,.slice none 0 0],.int .i64 7]) (by simp [results,Tryz.results140,go_sem,z0,z1,z2,z3]) rfl ⟨Eu.bad HE.out (by decide),?_⟩
  exact DD HB3.out (Nat.le_refl _) (.int .i64 0) (.bool false) (.slice none 0 0) (.slice none 0 0)
 | true =>
  obtain ⟨rfl,rfl,rfl⟩:=HSO.out rfl
  obtain ⟨hlen,hnM,hW0⟩:=Sl WX.out.symm
  obtain ⟨AB7,AB8,hroom,hnW⟩:=room_le hnM hW0
  obtain ⟨b,off,rfl,hSb,hcl⟩:=BU hr (by omega)
  rw [hlen] at hc ⊢
  have Zk:Hid (∀ w' a n,Below w.heap.size w w'→a+n≤244→AX w' S (.slice (some ⟨b,off+a,none⟩) n (c-a)) (BN l a n)):=fun w' a n hB ha=>(O4 hr (by omega) (by omega)).keep (AA _) (fun _ h=>h) (AL hB hS)
  have lc:Hid (∀ a n,a+n≤244→∀ w',Below w.heap.size w w'→(convert 22 9 (.slice (some ⟨b,off+a,none⟩) n (c-a))).run Tryz.prog w'=.ok (.string (Am (BN l a n))) w'):=fun a n ha=>YH hS hr (by omega) (by omega)
  have tH:Hid (∀ w' k,Below w.heap.size w w'→12+k*8+8≤244→Calls Tryz.prog 96 #[.slice (some ⟨b,off,none⟩) 244 c,.int .i64 ((12+k*8:Nat):Int),.int .i64 8] w' fun e w''=>e=.returned (if 9223372036854775808≤Dm l k then .tuple #[.int .i64 0,.int .i64 2] else .tuple #[.int .i64 (Dm l k:Nat),.int .i64 0])∧w''=w'):=fun w' k hB hk =>
   OH w' S (.slice (some ⟨b,off,none⟩) 244 c) l (12+k*8) 8 (fun b hb=>Nat.lt_of_lt_of_le (hS b hb) hB.size) ⟨_,c,by rw [hlen],by omega,hr.keep (AA _) (fun _ h=>h) (AL hB hS)⟩ (by unfold Lh;omega) (by omega) (by omega)
  have pz:Hid (∀ w' a n,Below w.heap.size w w'→a+n≤244→Calls Tryz.prog 198 #[.slice (some ⟨b,off+a,none⟩) n (c-a)] w' fun e w''=>e=.returned (.bool (D9 (BN l a n)))∧w''=w'):=fun w' a n hB ha =>
   fI w' S _ _ (fun b hb=>Nat.lt_of_lt_of_le (hS b hb) hB.size) (Zk.out w' a n hB ha) (by rw [Hd (by omega)];omega)
  have PE:Hid (Gr l=(D9 (BN l (12+AC l 2 2*8) (BZ (AC l 1 1) (decide (AC l 0 1=1))*8-AC l 2 2*8)) && D9 (BN l (12+BZ (AC l 1 1) (decide (AC l 0 1=1))*8+AC l 2 2*BF (AC l 1 1) (decide (AC l 0 1=1))) (244-(12+BZ (AC l 1 1) (decide (AC l 0 1=1))*8+AC l 2 2*BF (AC l 1 1) (decide (AC l 0 1=1))))))):=by
   show _=_
   have e:=RL (l:=l) (a:=12+BZ (AC l 1 1) (decide (AC l 0 1=1))*8+AC l 2 2*BF (AC l 1 1) (decide (AC l 0 1=1))) (n:=244-(12+BZ (AC l 1 1) (decide (AC l 0 1=1))*8+AC l 2 2*BF (AC l 1 1) (decide (AC l 0 1=1)))) (by omega)
   unfold Gr
   rw [← WX.out,Bool.true_and,e]
  have ET:Hid (Bl l=if Gr l=false then 7 else IA l (Dy l 0) 0 (AC l 2 2-0)):=rfl
  have Np:Hid (∀ w' v,Bp w' (C9 w.heap.size w'.heap.size) v ⟨AC l 1 1,decide (AC l 0 1=1),Ef l (AC l 2 2),Et l (BZ (AC l 1 1) (decide (AC l 0 1=1))) (BF (AC l 1 1) (decide (AC l 0 1=1))) (AC l 2 2)⟩→Bl l=0→Eu w l (.returned (.tuple #[v,.int .i64 0])) w'):=fun w' v h hE=>⟨v,by rw [hE],by rw [if_pos hE];exact h⟩
  have xO:=qh (fun k (hk:k<AC l 2 2)=>Oq (l:=l) hk)
  have yn:Hid (∀ k,NJ l (BZ (AC l 1 1) (decide (AC l 0 1=1))) (BF (AC l 1 1) (decide (AC l 0 1=1))) k=BN l (12+BZ (AC l 1 1) (decide (AC l 0 1=1))*8+k*BF (AC l 1 1) (decide (AC l 0 1=1))) (BF (AC l 1 1) (decide (AC l 0 1=1)))):=fun k=>rfl
  have HW:=qh (fun w'=>GJ w' (AC l 1 1:Nat) (decide (AC l 0 1=1)))
  have HM:=qh (fun w'=>Ho w' (AC l 1 1:Nat) (decide (AC l 0 1=1)))
  clear hr hcl HSO ym hW0
  generalize decide (AC l 0 1=1)=lf at *
  generalize AC l 1 1=t at *
  generalize BF (t:Int) lf=W at *
  generalize BZ (t:Int) lf=M at *
  generalize AC l 2 2=n at *
  obtain ⟨x0,x1,x2,x3⟩:=hg2.2.1.cells
  go_upto_region 4 with fail
  go_quiet ((first
   | (go_at_call 196;exact Calls.quiet_of_same (HW.out _))
   | (go_at_call 197;exact Calls.quiet_of_same (HM.out _))))
  have hg4:=hg2.drewN nq
  have CL:=qh (Ay HB3.out nq)
  have hr4:=hr2.drewN nq
  generalize w3.drewN nq=w4 at *
  clear x0 x1 x2 x3 hg2 hr2 HB3
  obtain ⟨V,hV⟩:∃ V,12+M*8=V:=⟨_,rfl⟩
  obtain ⟨nW,hnw⟩:∃ x,n*W=x:=⟨_,rfl⟩
  obtain ⟨MW,hmw⟩:∃ x,M*W=x:=⟨_,rfl⟩
  rw [hV] at PE hroom
  rw [hnw] at PE hnW
  rw [hmw] at hroom hnW
  have lg:Hid (∀ k,NJ l M W k=BN l (V+k*W) W):=fun k=>by rw [yn.out,hV]
  have e8:IntKind.i64.wrap (12+(M:Int)*8)=(V:Int):=by rw [IntKind.wrap_i64];omega
  have e8':12+(M:Int)*8=(V:Int):=by omega
  have enw:(n:Int)*(W:Int)=(nW:Int):=by rw [← hnw];simp
  have ewn:IntKind.i64.wrap ((n:Int)*(W:Int))=(nW:Int):=by rw [enw,IntKind.wrap_i64];omega
  have HV:=qh hV
  have Kj:=qh hnw
  have HMW:=qh hmw
  clear hV hnw hmw yn
  obtain ⟨a1,ha1⟩:∃ x,12+n*8=x:=⟨_,rfl⟩
  obtain ⟨a2,ha2⟩:∃ x,V+nW=x:=⟨_,rfl⟩
  have e9:12+(n:Int)*8=(a1:Int):=by omega
  have e9':IntKind.i64.wrap (12+(n:Int)*8)=(a1:Int):=by rw [e9,IntKind.wrap_i64];omega
  have e10:(V:Int)+(nW:Int)=(a2:Int):=by omega
  have AD4:IntKind.i64.wrap ((V:Int)+(nW:Int))=(a2:Int):=by rw [e10,IntKind.wrap_i64];omega
  have hV2:V=12+M*8:=HV.out.symm
  have hVM:M*8-n*8=V-a1:=by omega
  rw [ha1,ha2,hVM] at PE
  have HZ1:=qh (pz.out w4 a1 (V-a1) CL.out (by omega))
  have HZ2:=qh (pz.out w4 a2 (244-a2) CL.out (by omega))
  have AD5:(a1:Int)≤(V:Int):=by omega
  have AD6:(a2:Int)≤244:=by omega
  have AB9:¬ c=a2:=by omega
  have ACA:¬ c=a1:=by omega
  have AD7:(c==a2)=false:=beq_false_of_ne AB9
  have AD8:(c==a1)=false:=beq_false_of_ne ACA
  have hVl:(V:Int)≤244:=by omega
  have hVc:(V:Int)≤(c:Int):=by omega
  have yo:(244:Int)≤(c:Int):=by omega
  clear ha1 ha2 hV2 hVM
  generalize D9 (BN l a1 (V-a1))=z1 at *
  generalize D9 (BN l a2 (244-a2))=z2 at *
  cases z1 with
  | false =>
   have HE:=qh (JN (l:=l) (by rw [PE.out];rfl))
   obtain ⟨z0,z1,z2,z3⟩:=(hr4.put 0 false (.slice none 0 0) (.slice none 0 0)).cells
   obtain ⟨f0,f1,f2,f3⟩:=hr4.free
   obtain ⟨r0,r1,r2,r3⟩:=hr4.cells
   go_wp2_with (go_at_call 198;refine HZ1.out.mono ?_;rintro e w4 ⟨rfl,rfl⟩)
   refine bodyPost_ret (v:=.tuple #[.agg #[.int .i64 0,.bool false,.slice none 0 0,.slice none 0 0],.int .i64 7]) (by simp [results,Tryz.results140,go_sem,z0,z1,z2,z3]) rfl ⟨Eu.bad HE.out (by decide),?_⟩
   exact DD CL.out (Nat.le_refl _) (.int .i64 0) (.bool false) (.slice none 0 0) (.slice none 0 0)
  | true =>
  cases z2 with
  | false =>
   have HE:=qh (JN (l:=l) (by rw [PE.out];rfl))
   obtain ⟨z0,z1,z2,z3⟩:=(hr4.put 0 false (.slice none 0 0) (.slice none 0 0)).cells
   obtain ⟨f0,f1,f2,f3⟩:=hr4.free
   obtain ⟨r0,r1,r2,r3⟩:=hr4.cells
   go_wp2_with (first
    | (go_at_call 198;(with_reducible refine HZ1.out.mono ?_);rintro e w4 ⟨rfl,rfl⟩)
    | (go_at_call 198;(with_reducible refine HZ2.out.mono ?_);rintro e w4 ⟨rfl,rfl⟩))
   refine bodyPost_ret (v:=.tuple #[.agg #[.int .i64 0,.bool false,.slice none 0 0,.slice none 0 0],.int .i64 7]) (by simp [results,Tryz.results140,go_sem,z0,z1,z2,z3]) rfl ⟨Eu.bad HE.out (by decide),?_⟩
   exact DD CL.out (Nat.le_refl _) (.int .i64 0) (.bool false) (.slice none 0 0) (.slice none 0 0)
  | true =>
  have ACB:Hid (Bl l=IA l (Dy l 0) 0 (n-0)):=by
   show _=_
   rw [ET.out,if_neg (by rw [PE.out];decide)]
  clear ET PE
  have HR4:=qh hr4
  have YL:=qh hg4
  clear hr4 hg4
  go_wp2_with (first
   | (go_at_call 198;(with_reducible refine HZ1.out.mono ?_);rintro e w4 ⟨rfl,rfl⟩)
   | (go_at_call 198;(with_reducible refine HZ2.out.mono ?_);rintro e w4 ⟨rfl,rfl⟩))
  go_loopw [56] (fun vi wr=>∃ (k:Nat) (Ak Av:Option Addr) (ck cv:Nat),vi=.int .i64 k∧k≤n∧Hid (Bl l=IA l (Dy l k) k (n-k))∧Hid (Br wr (w.heap.size+1) g t lf (Ef l k) (Et l M W k) Ak Av k ck k cv)∧Hid (AU wr w.heap.size 0 false (.slice none 0 0) (.slice none 0 0))∧Hid (Below w.heap.size w wr)) (fun vi _=>n-(intOf vi).toNat)
  case atStart=>exact ⟨0,none,none,0,0,rfl,by omega,ACB,YL,HR4,CL⟩
  case round =>
  obtain ⟨k,Ak,Av,ck,cv,rfl,hk,WY,HG,HR,HB⟩:=hrel
  by_cases hlt:k<n
  · have Vu:=qh (xO.out k hlt)
    have Uo:=tH.out wr k HB.out (by omega)
    have hr:=HR.out
    obtain ⟨K,hK⟩:∃ K,Dm l k=K:=⟨_,rfl⟩
    rw [hK] at Uo Vu
    have HKEY:Hid (Calls Tryz.prog 199 #[.slice Ak k ck,.int .i64 K] wr fun e w'=>e=.returned (.int .i64 (LF k (Dy l k) K))∧w'=wr):=lV wr Ak k ck (Dy l k) K (by omega) (fun h=>by
     obtain ⟨b,e,hb,q⟩:=HG.out.last h
     rw [Jw h] at q
     exact ⟨b,0,e,q⟩)
    have HKK:=qh hK
    clear hK
    obtain ⟨a3,lh⟩:∃ x,12+k*8=x:=⟨_,rfl⟩
    rw [lh] at Uo
    have e11:12+(k:Int)*8=(a3:Int):=by omega
    have AD9:IntKind.i64.wrap (12+(k:Int)*8)=(a3:Int):=by rw [e11,IntKind.wrap_i64];omega
    have HA3:=qh lh
    clear lh
    by_cases hbig:9223372036854775808≤K
    · as_aux_lemma =>
      rw [if_pos hbig] at Uo
      have PG:=qh Uo
      have HE:Hid (Bl l=2):=by show _=_;rw [WY.out,Vu.out,if_pos (by omega)]
      clear hbig Uo
      obtain ⟨z0,z1,z2,z3⟩:=(hr.put 0 false (.slice none 0 0) (.slice none 0 0)).cells
      obtain ⟨f0,f1,f2,f3⟩:=hr.free
      obtain ⟨r0,r1,r2,r3⟩:=hr.cells
      go_wp2_with (go_at_call 96;refine PG.out.mono ?_;rintro e wr ⟨rfl,rfl⟩)
      refine bodyPost_ret (v:=.tuple #[.agg #[.int .i64 0,.bool false,.slice none 0 0,.slice none 0 0],.int .i64 2]) (by simp [results,Tryz.results140,go_sem,z0,z1,z2,z3]) rfl ⟨Eu.bad HE.out (by decide),?_⟩
      exact DD HB.out (Nat.le_refl _) (.int .i64 0) (.bool false) (.slice none 0 0) (.slice none 0 0)
    · rw [if_neg hbig] at Uo
      have PG:=qh Uo
      clear Uo
      by_cases hmax:281474976710655<K
      · as_aux_lemma =>
        have HE:Hid (Bl l=2):=by show _=_;rw [WY.out,Vu.out,if_pos hmax]
        have HF:Hid (LF k (Dy l k) K=2):=if_pos (.inr (by omega))
        rw [HF.out] at HKEY
        obtain ⟨x0,x1,x2,x3⟩:=HG.out.2.1.cells
        obtain ⟨z0,z1,z2,z3⟩:=(hr.put 0 false (.slice none 0 0) (.slice none 0 0)).cells
        obtain ⟨f0,f1,f2,f3⟩:=hr.free
        obtain ⟨r0,r1,r2,r3⟩:=hr.cells
        go_wp2_with (first
         | (go_at_call 96;refine PG.out.mono ?_;rintro e wr ⟨rfl,rfl⟩)
         | (go_at_call 199;refine HKEY.out.mono ?_;rintro e wr ⟨rfl,rfl⟩))
        refine bodyPost_ret (v:=.tuple #[.agg #[.int .i64 0,.bool false,.slice none 0 0,.slice none 0 0],.int .i64 2]) (by simp [results,Tryz.results140,go_sem,z0,z1,z2,z3]) rfl ⟨Eu.bad HE.out (by decide),?_⟩
        exact DD HB.out (Nat.le_refl _) (.int .i64 0) (.bool false) (.slice none 0 0) (.slice none 0 0)
      · by_cases J5:0<k∧(K:Int)≤Dy l k
        · as_aux_lemma =>
          have HE:Hid (Bl l=8):=by show _=_;rw [WY.out,Vu.out,if_neg hmax,if_pos J5]
          have HF:Hid (LF k (Dy l k) K=8):=by show _=_;unfold LF;rw [if_neg (by omega),if_pos J5]
          rw [HF.out] at HKEY
          clear J5
          obtain ⟨x0,x1,x2,x3⟩:=HG.out.2.1.cells
          obtain ⟨z0,z1,z2,z3⟩:=(hr.put 0 false (.slice none 0 0) (.slice none 0 0)).cells
          obtain ⟨f0,f1,f2,f3⟩:=hr.free
          obtain ⟨r0,r1,r2,r3⟩:=hr.cells
          go_wp2_with (first
           | (go_at_call 96;refine PG.out.mono ?_;rintro e wr ⟨rfl,rfl⟩)
           | (go_at_call 199;refine HKEY.out.mono ?_;rintro e wr ⟨rfl,rfl⟩))
          refine bodyPost_ret (v:=.tuple #[.agg #[.int .i64 0,.bool false,.slice none 0 0,.slice none 0 0],.int .i64 8]) (by simp [results,Tryz.results140,go_sem,z0,z1,z2,z3]) rfl ⟨Eu.bad HE.out (by decide),?_⟩
          exact DD HB.out (Nat.le_refl _) (.int .i64 0) (.bool false) (.slice none 0 0) (.slice none 0 0)
        · have HF:Hid (LF k (Dy l k) K=0):=by show _=_;unfold LF;rw [if_neg (by omega),if_neg J5]
          rw [HF.out] at HKEY
          have tJ:Hid (Bl l=IA l (Dy l (k+1)) (k+1) (n-(k+1))):=by show _=_;rw [WY.out,Vu.out,if_neg hmax,if_neg J5]
          clear J5
          obtain ⟨x0,x1,x2,x3⟩:=HG.out.2.1.cells
          obtain ⟨y0,y1,y2,y3⟩:=HG.out.2.1.free
          have hown:=HG.out.2.2.1
          have hz:w.heap.size+1≤wr.heap.size:=by have:=HG.out.2.1.lt;omega
          go_upto_region 17 with (first
           | (go_at_call 96;refine PG.out.mono ?_;rintro e wr ⟨rfl,rfl⟩)
           | (go_at_call 199;refine HKEY.out.mono ?_;rintro e wr ⟨rfl,rfl⟩)
           | (at_builtin;go_loud (refine Cw Ir rfl _ _ rfl (w.heap.size+1) (.slice Ak k ck) k (Ef l k) (K:Int) rfl hown rfl (by omega) hz ?_);intro A6 cap6 w6 hown6 OJ;have Nq:=HG.out.key hown6 OJ;have YM:=qh Nq.1;obtain ⟨q0,q1,q2,q3⟩:=Nq.2.cells;obtain ⟨p0,p1,p2,p3⟩:=Nq.2.free;clear Nq))
          have EG:=HB.out.grown OJ HB.out.size (fun i hi=>by have:=(hown.lt i hi).1;omega)
          have p8:AU w6 w.heap.size 0 false (.slice none 0 0) (.slice none 0 0):=(OJ.block _ hr.lt (BC hown hr.h (by decide))).trans hr
          have G8:=YM.out
          have Ff:=EG.setCell (p:=⟨g,2,none⟩) (Nat.le_of_lt hlt3) (.slice A6 (k+1) cap6)
          have yt:=p8.Mq (b:=g) (by omega) 2 (.slice A6 (k+1) cap6)
          generalize w6.setCell ⟨g,2,none⟩ (.slice A6 (k+1) cap6)=w7 at *
          have tK:=qh yt
          clear q0 q1 q2 q3 p0 p1 p2 p3 EG p8 yt YM hown6 OJ
          obtain ⟨x,hx⟩:∃ x,k*W=x:=⟨_,rfl⟩
          obtain ⟨y,hy⟩:∃ y,V+x=y:=⟨_,rfl⟩
          have hkW:x+W≤nW:=by
           have:=Nat.mul_le_mul_right W (show k+1≤n by omega)
           rw [Nat.add_mul,hx,Kj.out] at this
           omega
          obtain ⟨x2,hx2⟩:∃ x2,x+W=x2:=⟨_,rfl⟩
          obtain ⟨z,hzz⟩:∃ z,y+W=z:=⟨_,rfl⟩
          have em1:(k:Int)*(W:Int)=(x:Int):=by rw [← hx];simp
          have ACC:IntKind.i64.wrap (x:Int)=(x:Int):=by rw [IntKind.wrap_i64];omega
          have em2:((k:Int)+1)*(W:Int)=(x2:Int):=by rw [Int.add_mul,em1];omega
          have AEA:IntKind.i64.wrap (x2:Int)=(x2:Int):=by rw [IntKind.wrap_i64];omega
          have em3:IntKind.i64.wrap ((V:Int)+(x:Int))=(y:Int):=by rw [IntKind.wrap_i64];omega
          have em4:IntKind.i64.wrap ((V:Int)+(x2:Int))=(z:Int):=by rw [IntKind.wrap_i64];omega
          have em5:IntKind.i64.wrap ((k:Int)+1)=(k:Int)+1:=by rw [IntKind.wrap_i64];omega
          have hcv:=lc.out y W (by omega)
          have HVK:Hid (Et l M W (k+1)=Et l M W k++[BN l y W]):=by show _=_;rw [NM,lg.out,hx,hy]
          have hyW:(y:Int)≤(z:Int):=by omega
          have hyl:(z:Int)≤244:=by omega
          have ACD:(z:Int)≤(c:Int):=by omega
          have ACE:y≤z:=by omega
          have ACF:z≤c:=by omega
          have hyc:¬ c=y:=by omega
          have ACG:(c==y)=false:=beq_false_of_ne hyc
          have hyn:z-y=W:=by omega
          have fM:=Ff.size
          have tL:w.heap.size+1≤w7.heap.size:=by have:=G8.2.1.lt;omega
          clear hx hy hx2 hzz
          have tN:=qh hcv
          clear hcv hkW
          have hv7:=G8.2.2.2
          have Vv:=qh hv7
          have ll:=qh G8
          clear hv7
          refine AF (T:=fun j=>j==19) (S:=fun w'=>Below w.heap.size w w'∧AU w' g t lf (.slice A6 (k+1) cap6) (.slice Av k cv)) (by kernel_rfl) (⟨Ff.drew,G8.2.1⟩) (fun hHeld=>?_)
          refine qs 0 83 hHeld ?_
          refine qf 1 84 rfl rfl hHeld (by intro w hSw;obtain ⟨x0,x1,x2,x3⟩:=hSw.2.cells;go_simp;(try with_reducible rfl)) ?_
          refine qs 2 85 hHeld ?_
          refine qs 3 86 hHeld ?_
          refine qs 4 87 hHeld ?_
          refine qs 5 88 hHeld ?_
          refine qs 6 89 hHeld ?_
          refine qs 7 90 hHeld ?_
          refine qs 8 91 hHeld ?_
          refine qs 9 92 hHeld ?_
          refine qs 10 93 hHeld ?_
          refine qs 11 94 hHeld ?_
          refine qs 12 95 hHeld ?_
          refine qs 13 96 hHeld ?_
          refine qs 14 97 hHeld ?_
          refine qf 15 98 rfl rfl hHeld (by intro w hSw;have hcv:=tN.out _ hSw.1;go_simp;(try with_reducible rfl)) ?_
          refine qo 16 fun K hK=>?_
          go_simp
          clear hHeld
          have hHeld:=(show Below w.heap.size w (w7.drew.alloc (.cells #[.string (Am (BN l y W))] 9))∧AU (w7.drew.alloc (.cells #[.string (Am (BN l y W))] 9)) g t lf (.slice A6 (k+1) cap6) (.slice Av k cv) from ⟨Ff.drew.alloc fM _,(Below.heap_alloc w7.drew _ _ G8.2.1.lt).trans G8.2.1⟩)
          refine hK.out _ _ (fun _=>hHeld) (fun _=>?_)
          clear hK K
          (try simp only [Act.put,qS])
          refine qo 17 fun K hK=>?_
          refine JW pY rfl _ _ rfl (w.heap.size+1) (.slice Av k cv) k (Et l M W k) (BN l y W) rfl Vv.out.drew rfl (by omega) tL ?_
          intro A9 c9 w9 CZ Cu
          have hHeld:=(show Below w.heap.size w w9∧AU w9 g t lf (.slice A6 (k+1) cap6) (.slice Av k cv) from ⟨Ff.drew.grown Cu fM (fun j hj=>by have:=(Vv.out.lt j hj).1;omega),(Cu.block g G8.2.1.lt (BC Vv.out G8.2.1.h (by decide))).trans G8.2.1⟩)
          refine hK.out _ _ (fun _=>hHeld) (fun _=>?_)
          clear hK K
          (try simp only [Act.put])
          refine qs 18 101 hHeld ?_
          refine qo 19 fun K hK=>?_
          obtain ⟨x0,x1,x2,x3⟩:=hHeld.2.cells;obtain ⟨y0,y1,y2,y3⟩:=hHeld.2.free
          go_simp
          refine hK.out _ _ (fun h=>by cases h) (fun _=>?_)
          clear hK K hHeld
          (try simp only [Act.put,qS])
          refine qd ?_
          have fO:=(ll.out.drewN 1).val CZ Cu
          have Ra:AU w9 w.heap.size 0 false (.slice none 0 0) (.slice none 0 0):=(Cu.block _ tK.out.lt (BC Vv.out tK.out.h (by decide))).trans tK.out
          have tO:=Ra.Mq (b:=g) (by omega) 3 (.slice A9 (k+1) c9)
          have I4:=(Ff.drew.grown Cu fM (fun j hj=>by have:=(Vv.out.lt j hj).1;omega)).setCell (p:=⟨g,3,none⟩) (Nat.le_of_lt hlt3) (.slice A9 (k+1) c9)
          have hk10:=fO.1
          clear fO Ra CZ Cu
          go_wp2_with fail
          go_roundw
          case rel=>exact ⟨k+1,A6,A9,cap6,c9,by go_num,by omega,tJ,by show _;rw [HVK.out,NL,HKK.out];exact hk10,tO,I4⟩
          case measure=>simp [intOf];omega
  · have hkn:k=n:=by omega
    subst hkn
    have WT:Hid (Bl l=0):=by show _=_;rw [WY.out,Nat.sub_self];rfl
    obtain ⟨x0,x1,x2,x3⟩:=HG.out.2.1.cells
    obtain ⟨z0,z1,z2,z3⟩:=(HR.out.put t lf (.slice Ak k ck) (.slice Av k cv)).cells
    obtain ⟨f0,f1,f2,f3⟩:=HR.out.free
    obtain ⟨r0,r1,r2,r3⟩:=HR.out.cells
    go_wp2_with fail
    refine bodyPost_ret (v:=.tuple #[.agg #[.int .i64 t,.bool lf,.slice Ak k ck,.slice Av k cv],.int .i64 0]) (by simp [results,Tryz.results140,go_sem,z0,z1,z2,z3]) rfl ⟨Np.out _ _ ?_ WT.out,?_⟩
    · have hi:=HG.out.is
      exact hi.keep (fun b hb=>⟨by have:=hb.1;omega,by simpa [World.setCell] using hb.2⟩) (fun b o hb=>DN (by have:=hb.1;omega) (.int .i64 t) (.bool lf) (.slice Ak k ck) (.slice Av k cv))
    · exact DD HB.out (Nat.le_refl _) (.int .i64 t) (.bool lf) (.slice Ak k ck) (.slice Av k cv)
end
section
open Go.RowKit
attribute [local go_sem] Oper.semAt_some
def fP (x:Nd) (Ak:Option Addr) (nk ck:Nat) (Av:Option Addr) (nv cv:Nat):Value:=.agg #[.int .i64 x.tree,.bool x.leaf,.slice Ak nk ck,.slice Av nv cv]
theorem Bp.open_ {w:World} {S:Nat→Prop} {v:Value} {x:Nd} (h:Bp w S v x):∃ Ak nk ck Av nv cv,v=fP x Ak nk ck Av nv cv:=by
 obtain ⟨kv,vv,rfl,⟨A,c,rfl,_⟩,⟨A',c',rfl,_⟩⟩:=h
 exact ⟨_,_,_,_,_,_,rfl⟩
theorem WZ (w:World) (S:Nat→Prop) (v:Value) (l:List UInt8) (x:Nd) (E:Int) (hx:(if Bl l=0 then Du l else Mr)=x) (hE:Bl l=E) (hS:∀ b,S b→b<w.heap.size) (h:AX w S v l) (hl:l.length≤140737488355328) :
 Calls Tryz.prog 140 #[v] w fun e w'=>(∃ Ak nk ck Av nv cv,e=.returned (.tuple #[fP x Ak nk ck Av nv cv,.int .i64 E])∧Bp w' (C9 w.heap.size w'.heap.size) (fP x Ak nk ck Av nv cv) x)∧Below w.heap.size w w':=by
 refine (Sm w S v l hS h hl).mono ?_
 rintro e w' ⟨⟨v',rfl,hn⟩,hB⟩
 rw [hx] at hn
 obtain ⟨Ak,nk,ck,Av,nv,cv,rfl⟩:=hn.open_
 exact ⟨⟨Ak,nk,ck,Av,nv,cv,by rw [hE],hn⟩,hB⟩
def OL (w:World) (l:List UInt8) (tree:Int) (e:Ending) (w':World):Prop:=∃ v,e=.returned (.tuple #[v,.int .i64 (UR l tree)])∧Bp w' (C9 w.heap.size w'.heap.size) v (if Bl l=0 then Du l else Mr)
set_option maxRecDepth 100000 in
theorem Zl (w:World) (S:Nat→Prop) (v:Value) (l:List UInt8) (gt:Nat) (tree:Int) (hS:∀ b,S b→b<w.heap.size) (h:AX w S v l) (hl:l.length≤140737488355328) (hgt:gt<w.heap.size) (ht:w.cell? ⟨gt,0,none⟩=some (.int .i64 tree)) :
 Calls Tryz.prog 139 #[v,.pointer (some ⟨gt,0,none⟩)] w fun e w'=>OL w l tree e w'∧Below w.heap.size w w':=by
 have hr1:AU (w.alloc (.cells #[.int .i64 0,.bool false,.slice none 0 0,.slice none 0 0] 173)) w.heap.size 0 false (.slice none 0 0) (.slice none 0 0):=heap_alloc_new w _
 have hB1:Below w.heap.size w (w.alloc (.cells #[.int .i64 0,.bool false,.slice none 0 0,.slice none 0 0] 173)):=(Below.refl _ _).alloc (Nat.le_refl _) _
 obtain ⟨x,hx⟩:∃ x,(if Bl l=0 then Du l else Mr)=x:=⟨_,rfl⟩
 have PH:Hid (Bl l=0→x.tree=(Du l).tree):=fun h=>by rw [← hx,if_pos h]
 have Ms:Hid (UR l tree=if Bl l≠0 then Bl l else if tree≠0∧(Du l).tree≠tree then 6 else 0):=rfl
 have HNI:Hid (∀ e w' E v,UR l tree=E→e=.returned (.tuple #[v,.int .i64 E])→Bp w' (C9 w.heap.size w'.heap.size) v x→OL w l tree e w'):=fun e w' E v h1 h2 h3=>by
  unfold OL
  rw [h1,hx]
  exact ⟨v,h2,h3⟩
 obtain ⟨E,xU⟩:∃ E,Bl l=E:=⟨_,rfl⟩
 have hrd:=WZ (w.alloc (.cells #[.int .i64 0,.bool false,.slice none 0 0,.slice none 0 0] 173)) S v l x E hx xU (fun b hb=>Nat.lt_of_lt_of_le (hS b hb) hB1.size) (h.keep (AA _) (fun _ h=>h) (AL hB1 hS)) hl
 have Lc:=qh hrd
 rw [xU] at PH Ms
 clear hx xU
 obtain ⟨xt,xl,xk,xv⟩:=x
 dsimp only [fP] at Lc PH
 obtain ⟨A,c,rfl,hc,hr⟩:=h
 clear hrd hr
 generalize l.length=ln at *
 go_enter Tryz.func139,Tryz.ntmps139
 go_upto_region 1 with fail
 generalize w.alloc (.cells #[.int .i64 0,.bool false,.slice none 0 0,.slice none 0 0] 173)=w1 at *
 go_upto_region 2 with (go_at_call 140;refine Lc.out.mono ?_;rintro e w2 ⟨⟨Ak,nk,ck,Av,nv,cv,rfl,hni⟩,hB2⟩;have YN:=qh hni;clear hni)
 have hr2:=hr1.below hB2 hr1.lt
 have fQ:AU (w2.alloc (.cells #[.int .i64 xt,.bool xl,.slice Ak nk ck,.slice Av nv cv] 173)) w2.heap.size xt xl (.slice Ak nk ck) (.slice Av nv cv):=heap_alloc_new w2 _
 have hB3:Below w2.heap.size w2 (w2.alloc (.cells #[.int .i64 xt,.bool xl,.slice Ak nk ck,.slice Av nv cv] 173)):=(Below.refl _ _).alloc (Nat.le_refl _) _
 have hr3:=hr2.below hB3 hr2.lt
 have hBw:=hB1.trans ((hB2.trans (hB3.mono hB2.size)).mono hB1.size)
 have ht3:=(hBw.cell (p:=⟨gt,0,none⟩) hgt).trans ht
 have ET:Hid (∀ w',Below w2.heap.size w2 w'→Bp (((((w'.setCell ⟨w.heap.size,0,none⟩ (.int .i64 xt)).setCell ⟨w.heap.size,1,none⟩ (.bool xl)).setCell ⟨w.heap.size,2,none⟩ (.slice Ak nk ck)).setCell ⟨w.heap.size,3,none⟩ (.slice Av nv cv))) (C9 w.heap.size w'.heap.size) (.agg #[.int .i64 xt,.bool xl,.slice Ak nk ck,.slice Av nv cv]) ⟨xt,xl,xk,xv⟩):=fun w' hB=>by
  refine YN.out.keep (fun b hb=>⟨by have:=hb.1;have:=hr1.lt;omega,by have:=hb.2;have:=hB.size;omega⟩) (fun b o hb=>?_)
  rw [DN (by have:=hb.1;have:=hr1.lt;omega) (.int .i64 xt) (.bool xl) (.slice Ak nk ck) (.slice Av nv cv)]
  exact hB.cell (p:=⟨b,o,none⟩) hb.2
 have hlt3:w2.heap.size<(w2.alloc (.cells #[.int .i64 xt,.bool xl,.slice Ak nk ck,.slice Av nv cv] 173)).heap.size:=fQ.lt
 generalize w2.alloc (.cells #[.int .i64 xt,.bool xl,.slice Ak nk ck,.slice Av nv cv] 173)=w3 at *
 obtain ⟨x0,x1,x2,x3⟩:=fQ.cells
 obtain ⟨r0,r1,r2,r3⟩:=hr3.cells
 obtain ⟨f0,f1,f2,f3⟩:=hr3.free
 obtain ⟨z0,z1,z2,z3⟩:=(hr3.put xt xl (.slice Ak nk ck) (.slice Av nv cv)).cells
 have I1:=qh (DD hBw (Nat.le_refl _) (.int .i64 xt) (.bool xl) (.slice Ak nk ck) (.slice Av nv cv))
 have HB3:=qh hB3
 clear ht hB1 hB2 hB3 hBw hr1 hr2 hr3 fQ Lc
 have fin:∀ E',UR l tree=E'→OL w l tree (.returned (.tuple #[.agg #[.int .i64 xt,.bool xl,.slice Ak nk ck,.slice Av nv cv],.int .i64 E'])) ((((w3.setCell ⟨w.heap.size,0,none⟩ (.int .i64 xt)).setCell ⟨w.heap.size,1,none⟩ (.bool xl)).setCell ⟨w.heap.size,2,none⟩ (.slice Ak nk ck)).setCell ⟨w.heap.size,3,none⟩ (.slice Av nv cv)):=fun E' h=>HNI.out _ _ E' _ h rfl (by
  have:=ET.out w3 HB3.out
  simpa [World.setCell] using this)
 have FIN:=qh fin
 clear fin
 by_cases hE:E=0
 · subst hE
   have hxt:=PH.out rfl
   by_cases h0:tree=0
   · as_aux_lemma =>
     have HF:Hid (UR l tree=0):=by show _=_;rw [Ms.out,if_neg (by simp),if_neg (fun h=>h.1 h0)]
     subst h0
     clear hxt
     go_wp2_with fail
     refine bodyPost_ret (v:=.tuple #[.agg #[.int .i64 xt,.bool xl,.slice Ak nk ck,.slice Av nv cv],.int .i64 0]) (by simp [results,Tryz.results139,go_sem,z0,z1,z2,z3]) rfl ⟨FIN.out _ HF.out,I1.out⟩
   · have d0:((tree:Int) != 0)=true:=by rw [bne_iff_ne];exact h0
     by_cases h1:xt=tree
     · as_aux_lemma =>
       have HF:Hid (UR l tree=0):=by show _=_;rw [Ms.out,if_neg (by simp),if_neg (fun h=>h.2 (by rw [← hxt];exact h1))]
       have d1:(xt != tree)=false:=by rw [bne_eq_false_iff_eq];exact h1
       clear hxt h1 h0
       go_wp2_with fail
       refine bodyPost_ret (v:=.tuple #[.agg #[.int .i64 xt,.bool xl,.slice Ak nk ck,.slice Av nv cv],.int .i64 0]) (by simp [results,Tryz.results139,go_sem,z0,z1,z2,z3]) rfl ⟨FIN.out _ HF.out,I1.out⟩
     · as_aux_lemma =>
       have HF:Hid (UR l tree=6):=by show _=_;rw [Ms.out,if_neg (by simp),if_pos ⟨h0,by rw [← hxt];exact h1⟩]
       have d1:(xt != tree)=true:=by rw [bne_iff_ne];exact h1
       clear hxt h1 h0
       go_wp2_with fail
       refine bodyPost_ret (v:=.tuple #[.agg #[.int .i64 xt,.bool xl,.slice Ak nk ck,.slice Av nv cv],.int .i64 6]) (by simp [results,Tryz.results139,go_sem,z0,z1,z2,z3]) rfl ⟨FIN.out _ HF.out,I1.out⟩
 · as_aux_lemma =>
   have HF:Hid (UR l tree=E):=by show _=_;rw [Ms.out,if_pos hE]
   have d0:(E==0)=false:=beq_false_of_ne hE
   clear hE
   go_wp2_with fail
   refine bodyPost_ret (v:=.tuple #[.agg #[.int .i64 xt,.bool xl,.slice Ak nk ck,.slice Av nv cv],.int .i64 E]) (by simp [results,Tryz.results139,go_sem,z0,z1,z2,z3]) rfl ⟨FIN.out _ HF.out,I1.out⟩
end
section
open Go.RowKit
attribute [local go_sem] Oper.semAt_some
set_option maxRecDepth 100000 in
theorem PI (u:World) (n w:Nat) (hn:n<9223372036854775808) (hw:w≤1000):Calls Tryz.prog 165 #[.int .i64 n,.int .i64 w] u fun e w'=>(∃ A c,e=.returned (.slice A w c)∧w'.ownsRow u.heap.size 5 1 (.slice A w c) w (AB Au (leB w n)))∧Below u.heap.size u w':=by
 have HQ:Hid (∀ k,n / 256 ^ k<9223372036854775808):=fun k=>Nat.lt_of_le_of_lt (Nat.div_le_self _ _) hn
 have HST:Hid (∀ k,leB (k+1) n=leB k n++[UInt8.ofNat (n / 256 ^ k % 256)]):=fun k=>eZ k n
 have HD:Hid (∀ k,n / 256 ^ (k+1)=n / 256 ^ k / 256):=fun k=>by rw [Nat.pow_succ,Nat.div_div_eq_div_mul]
 have HD0:Hid (n=n / 256 ^ 0):=by show _=_;simp
 go_enter Tryz.func165,Tryz.ntmps165
 go_wp2_with fail
 go_loopw [0,5,6] (fun vn vb vi wr=>∃ (k q:Nat),vi=.int .i64 k∧vn=.int .i64 q∧k≤w∧Hid (q=n / 256 ^ k)∧wr.ownsRow u.heap.size 5 1 vb k (AB Au (leB k n))∧Below u.heap.size u wr) (fun _ _ vi _=>w-(intOf vi).toNat)
 case atStart=>exact ⟨0,n,rfl,rfl,by omega,HD0,World.ownsRow_nil u u.heap.size 5 1,Below.refl _ _⟩
 case round =>
  obtain ⟨k,q,rfl,rfl,hk0,HA,hrow,hB⟩:=hrel
  have hz:=hB.size
  obtain ⟨Ao,co,rfl,hco⟩:=DJ hrow
  by_cases hlt:k<w
  · have hq:=HQ.out k
    rw [← HA.out] at hq
    have HB:Hid (leB (k+1) n=leB k n++[UInt8.ofNat (q % 256)]):=by
     show _=_
     rw [HA.out]
     exact HST.out k
    have HN:Hid (q / 256=n / 256 ^ (k+1)):=by
     show _=_
     rw [HD.out k,← HA.out]
    have HU:Hid (((UInt8.ofNat (q % 256)).toNat:Int)=(q:Int) % 256):=by
     show _=_
     rw [UInt8.toNat_ofNat',Nat.mod_eq_of_lt (show q % 256<2 ^ 8 from Nat.mod_lt _ (by omega))]
     omega
    have hd:((q:Int) / 256)=((q / 256:Nat):Int):=by omega
    have hb:((q:Int) % 256)=(((UInt8.ofNat (q % 256)).toNat:Nat):Int):=HU.out.symm
    generalize UInt8.ofNat (q % 256)=x at *
    generalize hq2:q / 256=q2 at *
    clear hq2
    go_wp2_with (at_builtin;go_loud (refine Cw sO rfl _ _ rfl u.heap.size (.slice Ao k co) k (leB k n) x rfl hrow rfl (by omega) hz ?_);intro A6 cap6 w6 hown hg)
    go_roundw
    case rel=>exact ⟨k+1,q2,by go_num,rfl,by omega,HN,by rw [HB.out];exact hown,hB.grown hg hz (fun i hi=>(hrow.lt i hi).1)⟩
    case measure=>simp [intOf];omega
  · have hkn:k=w:=by omega
    subst hkn
    go_wp2_with fail
    go_ret
    exact ⟨⟨Ao,co,rfl,hrow⟩,hB⟩
end
section
open Go.RowKit
attribute [local go_sem] Oper.semAt_some
set_option maxRecDepth 100000 in
theorem NU (w:World) (S:Nat→Prop) (v vw:Value) (l:List UInt8) (ws:List Nat) (hS:∀ b,S b→b<w.heap.size) (h:AX w S v l) (hw:Aa w S vw (Hm ws)) (hW:∀ x∈ws,Lh x) (ha:Ct ws≤l.length) (hl:l.length≤140737488355328) (hk:ws.length≤1000000) :
 Calls Tryz.prog 88 #[v,vw] w fun e w'=>Iy w l ws e w'∧Below w.heap.size w w':=by
 have HG:=qh (fun w' (hB:Below w.heap.size w w') (a n:Nat) (hn:Lh n) (ha:a+n≤l.length)=>Lx w' S v l a n (fun b hb=>Nat.lt_of_lt_of_le (hS b hb) hB.size) (h.keep (AA _) (fun _ h=>h) (AL hB hS)) hn ha hl)
 obtain ⟨A,c,rfl,hc,hr⟩:=h
 obtain ⟨Aw,cw,rfl,hcw,hrw⟩:=hw
 rw [GI] at hcw ⊢
 have HRW:Hid (∀ w',Below w.heap.size w w'→∀ k,k<ws.length→∃ b off,Aw=some ⟨b,off,none⟩∧w'.cell? ⟨b,off+k,none⟩=some (.int .i64 (nth 0 ws k:Nat))):=fun w' hB k hk=>by
  obtain ⟨b,off,e,hb,h1⟩:=BR hrw (by rw [GI];omega)
  refine ⟨b,off,e,(hB.cell (p:=⟨b,off+k,none⟩) (hS b hb)).trans ?_⟩
  rw [h1 k (by rw [GI];exact hk),RS ws k hk]
 have HIS:Hid (∀ e w',(if FR l 0 ws=true then e=.returned (.tuple #[.slice none 0 0,.int .i64 2]) else ∃ v,e=.returned (.tuple #[v,.int .i64 0])∧Aa w' (C9 w.heap.size w'.heap.size) v (EA l 0 ws))→Iy w l ws e w'):=fun e w' h=>h
 have HWL:Hid (∀ k,k<ws.length→Lh (nth 0 ws k)∧Ct (ws.take k)+nth 0 ws k≤l.length∧nth 0 ws k≤8):=fun k hk=>by
  have h1:=F8 ws k hk
  have h2:=Gt ws (k+1)
  have h3:=ek hW hk
  exact ⟨h3,by omega,by rcases h3 with h|h|h|h <;> omega⟩
 generalize hn:ws.length=n at *
 have HN:=qh hn
 clear hrw hr hW hn
 go_enter Tryz.func88,Tryz.ntmps88
 go_wp2_with fail
 go_loopw [6,7,8] (fun vo va vi wr=>∃ (k a:Nat),vi=.int .i64 k∧va=.int .i64 a∧k≤n∧Hid (a=Ct (ws.take k)∧FR l 0 (ws.take k)=false)∧wr.ownsRow w.heap.size 3 1 vo k (AB encI (EA l 0 (ws.take k)))∧Below w.heap.size w wr) (fun _ _ vi _=>n-(intOf vi).toNat)
 case atStart=>exact ⟨0,0,rfl,rfl,by omega,⟨rfl,rfl⟩,by simpa [EA,AB] using World.ownsRow_nil w w.heap.size 3 1,Below.refl _ _⟩
 case round =>
  obtain ⟨k,a,rfl,rfl,hk0,HA,hrow,hB⟩:=hrel
  have hz:=hB.size
  obtain ⟨Ao,co,rfl,hco⟩:=DJ hrow
  by_cases hlt:k<n
  · obtain ⟨hW1,hs1,h8⟩:=HWL.out k hlt
    obtain ⟨b,off,rfl,q⟩:=HRW.out wr hB k hlt
    have HQ:Hid (∀ w',Below w.heap.size w w'→w'.cell? ⟨b,off+k,none⟩=some (.int .i64 (nth 0 ws k:Nat))):=fun w' hB=>by
     obtain ⟨b',off',e',q'⟩:=HRW.out w' hB k hlt
     injection e' with e'
     injection e' with e1 e2 _
     subst e1 e2
     exact q'
    have HA1:=HA.out.1
    have hg:=HG.out wr hB (Ct (ws.take k)) (nth 0 ws k) hW1 hs1
    have hst:=Q9 l ws k (by rw [HN.out];exact hlt)
    have hbt:=Mj l ws k (by rw [HN.out];exact hlt)
    have hsw:=F8 ws k (by rw [HN.out];exact hlt)
    have QW:=YB (l:=l) (ws:=ws) (k:=k) (by rw [HN.out];exact hlt)
    rw [HA.out.2,Bool.false_or] at hbt
    rw [← HA1] at hg hst hbt hsw hs1 QW
    by_cases hbig:9223372036854775808≤AC l a (nth 0 ws k)
    · rw [if_pos hbig] at hg
      have OI:=qh hg
      have HF:=qh (QW hbig)
      clear hg hst hbt hsw hbig HA1 QW
      generalize nth 0 ws k=x at *
      go_wp2_with (go_at_call 146;refine OI.out.mono ?_;rintro e w3 ⟨rfl,rfl⟩)
      go_ret2
      exact ⟨HIS.out _ _ (by rw [if_pos HF.out];rfl),hB⟩
    · rw [if_neg hbig] at hg
      rw [decide_eq_false hbig] at hbt
      have sS:AC l a (nth 0 ws k)<9223372036854775808:=by omega
      have OI:=qh hg
      have HBT:=qh hbt
      have yf:=qh hsw
      have HST:=qh hst
      clear hg hst hbt hsw hbig HA1 QW
      generalize nth 0 ws k=x at *
      obtain ⟨y,hy⟩:∃ y,AC l a x=y:=⟨_,rfl⟩
      rw [hy] at OI HST sS
      clear hy
      go_wp2_with (first
       | (go_at_call 146;refine OI.out.mono ?_;rintro e w3 ⟨rfl,rfl⟩)
       | (at_builtin;go_loud (refine Cw Ir rfl _ _ rfl w.heap.size (.slice Ao k co) k (EA l 0 (ws.take k)) (y:Int) rfl hrow rfl (by omega) hz ?_);intro A6 cap6 w6 hown hg;have q6:=HQ.out w6 (hB.grown hg hz (fun i hi=>(hrow.lt i hi).1))))
      go_roundw
      case rel=>exact ⟨k+1,a+x,by go_num,by go_num,by omega,⟨yf.out.symm,HBT.out⟩,by rw [HST.out];exact hown,hB.grown hg hz (fun i hi=>(hrow.lt i hi).1)⟩
      case measure=>simp [intOf];omega
  · have hkn:k=n:=by omega
    have HF:Hid (FR l 0 ws=false∧ws.take k=ws):=by
     have e:ws.take k=ws:=List.take_of_length_le (by rw [HN.out];omega)
     refine ⟨?_,e⟩
     have:=HA.out.2
     rwa [e] at this
    clear hkn
    go_wp2_with fail
    go_ret2
    refine ⟨HIS.out _ _ ?_,hB⟩
    rw [if_neg (by rw [HF.out.1];simp)]
    refine ⟨_,rfl,?_⟩
    rw [HF.out.2] at hrow
    exact CF.own (enc:=encI) (d:=(0:Int)) Bh hrow (by omega)
end
end Go.Proofs.YtpenklpdjpkigaaGreat
