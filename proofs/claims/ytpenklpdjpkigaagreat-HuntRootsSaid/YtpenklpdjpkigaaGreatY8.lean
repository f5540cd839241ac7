/- Part 8 of the proof: WSpan2, WRCode1, WZero, WNode2. -/
import Derived.Test.YtpenklpdjpkigaaGreatY7
import Derived.Test.YtpenklpdjpkigaaGreatY1
import Derived.Test.YtpenklpdjpkigaaGreatY5
import Derived.Laws.BitsAllLaws
import Derived.Lib.Hide
import Derived.Deep.QuietTactic
import Derived.BigQuiet
import Derived.Outline
import Derived.Deep.Cut
import Derived.Deep.DeepCutAuto
import Derived.Test.YtpenklpdjpkigaaGreatY6
set_option maxHeartbeats 6400000
set_option linter.unusedVariables false
set_option linter.unusedSimpArgs false
namespace Go.Proofs.YtpenklpdjpkigaaGreat
section
open Go.RowKit
attribute [local go_sem] Oper.semAt_some
set_option maxRecDepth 100000 in
theorem Lv (w:World) (S:Nat→Prop) (lo hi:Int) (vk:Value) (ks:List Int) (hS:∀ b,S b→b<w.heap.size) (h:Aa w S vk ks) (hl:ks.length≤1000000) :
 Calls Tryz.prog 238 #[.agg #[.int .i64 lo,.int .i64 hi],vk] w fun e w'=>e=.returned (.int .i64 (FN lo hi ks))∧Below w.heap.size w w':=by
 obtain ⟨A,c,rfl,hc,hr⟩:=h
 have HC:Hid (0<ks.length→∃ b off,A=some ⟨b,off,none⟩∧b<w.heap.size∧∀ w',Below w.heap.size w w'→∀ k,k<ks.length→w'.cell? ⟨b,off+k,none⟩=some (.int .i64 (nth 0 ks k))):=fun hp=>by
  obtain ⟨b,off,e,hb,h1⟩:=BR hr hp
  exact ⟨b,off,e,hS b hb,fun w' hB k hk=>(hB.cell (p:=⟨b,off+k,none⟩) (hS b hb)).trans (h1 k hk)⟩
 have HF:Hid (FN lo hi ks=if Cn lo hi=false then 1 else if rises ks=false then 8 else if 0<ks.length∧(BP lo hi (nth 0 ks 0)=false∨BP lo hi (nth 0 ks (ks.length-1))=false) then 9 else 0):=rfl
 have Np:=qh (fun i (h:i+1<ks.length) (hn:nth 0 ks (i+1)≤nth 0 ks i)=>dx h hn)
 have lT:=qh (fun h=>(F7 ks).2 h)
 have hB1:Below w.heap.size w (w.alloc (.cells #[.int .i64 lo,.int .i64 hi] 283)):=(Below.refl _ _).alloc (Nat.le_refl _) _
 have hx:=AP.new w #[.int .i64 lo,.int .i64 hi] 283
 have lU:=qh (fun w'=>Qi w' lo hi)
 have fG:=qh (fun w' k=>Uk w' lo hi k)
 clear hr
 generalize hn:ks.length=n at *
 clear hn
 generalize Cn lo hi=rs at *
 go_enter Tryz.func238,Tryz.ntmps238
 go_upto_region 1 with fail
 generalize w.alloc (.cells #[.int .i64 lo,.int .i64 hi] 283)=w1 at *
 have x0:=hx.at 0 _ rfl
 have x1:=hx.at 1 _ rfl
 cases rs with
 | false =>
  have HE:Hid (FN lo hi ks=1):=by show _=_;rw [HF.out,if_pos rfl]
  go_wp2_with (go_at_call 246;refine (lU.out _).mono ?_;rintro e w2 ⟨rfl,hB2⟩)
  go_ret
  exact ⟨by rw [HE.out];rfl,hB1.trans (hB2.mono hB1.size)⟩
 | true =>
  go_upto_region 3 with (go_at_call 246;refine (lU.out _).mono ?_;rintro e w2 ⟨rfl,hB2⟩)
  have hgs:=Nat.lt_of_lt_of_le hx.lt hB2.size
  have hx2:=hx.below hB2 hx.lt
  have Kg:=qh hx2
  have HB2:=qh (hB1.trans (hB2.mono hB1.size))
  clear hx x0 x1 hB1 hB2 hx2
  go_wp2_with fail
  go_loopw [5] (fun vi wr=>∃ i:Nat,vi=.int .i64 i∧1≤i∧(i≤n∨i=1)∧Hid (Lg ks i)∧Hid (Below w2.heap.size w2 wr)) (fun vi _=>n-(intOf vi).toNat)
  case atStart=>exact ⟨1,rfl,by omega,.inr rfl,(fun i hi=>by omega),Below.refl _ _⟩
  case round =>
  obtain ⟨i,rfl,hi1,hi2,HR,HB⟩:=hrel
  by_cases hlt:i<n
  · obtain ⟨b,off,rfl,hb,hq⟩:=HC.out (by omega)
    obtain ⟨j,rfl⟩:∃ j,i=j+1:=⟨i-1,by omega⟩
    have q0:=hq wr (HB2.out.trans (HB.out.mono HB2.out.size)) j (by omega)
    have q1:=hq wr (HB2.out.trans (HB.out.mono HB2.out.size)) (j+1) hlt
    have hno:=Np.out j hlt
    have xP:Hid (nth 0 ks j<nth 0 ks (j+1)→Lg ks (j+1+1)):=fun h m hm=>by
     by_cases hmj:m+1<j+1
     · exact HR.out m hmj
     · obtain rfl:m=j:=by omega
       exact h
    have e1:IntKind.i64.wrap (((j+1:Nat):Int)-1)=(j:Int):=by rw [IntKind.wrap_i64];omega
    have e2:((j+1:Nat):Int)-1=(j:Int):=by omega
    have e3:(j:Int)+1-1=(j:Int):=by omega
    have hbr:b<wr.heap.size:=by have:=HB2.out.size;have:=HB.out.size;omega
    have hjl:(j:Int)<(n:Int):=by omega
    have AD3:(j:Int)+1<(n:Int):=by omega
    generalize nth 0 ks j=p at *
    generalize nth 0 ks (j+1)=q at *
    have AB0:=qh hno
    clear hq hno hi1 hi2
    by_cases hpq:q≤p
    · as_aux_lemma =>
      have HE:Hid (FN lo hi ks=8):=by show _=_;rw [HF.out,if_neg (by simp),if_pos (AB0.out hpq)]
      have hge:decide (p ≥ q)=true:=decide_eq_true hpq
      have yh:decide (q≤p)=true:=decide_eq_true hpq
      clear hpq
      go_wp2_with fail
      go_quiet (fail)
      go_wp2_with fail
      go_ret
      exact ⟨by rw [HE.out];rfl,Ay (HB2.out.trans (HB.out.mono HB2.out.size)) _⟩
    · have hge:decide (p ≥ q)=false:=decide_eq_false hpq
      have yh:decide (q≤p)=false:=decide_eq_false hpq
      have HR2:=qh (xP.out (by omega))
      clear hpq
      go_wp2_with fail
      go_quiet (fail)
      go_wp2_with fail
      go_roundw
      case rel=>exact ⟨j+1+1,by go_num,by omega,.inl (by omega),HR2,Ay HB.out _⟩
      case measure=>simp [intOf];omega
  · have J4:Hid (rises ks=true):=lT.out (fun m hm=>HR.out m (by omega))
    have WT:Hid (FN lo hi ks=if 0<n∧(BP lo hi (nth 0 ks 0)=false∨BP lo hi (nth 0 ks (n-1))=false) then 9 else 0):=by
     show _=_
     rw [HF.out,if_neg (by simp),if_neg (by rw [J4.out];simp)]
    have I1:=qh (HB2.out.trans (HB.out.mono HB2.out.size))
    have hxr:=Kg.out.below HB.out hgs
    have x0:=hxr.at 0 _ rfl
    have x1:=hxr.at 1 _ rfl
    have hgr:w.heap.size<wr.heap.size:=hxr.lt
    clear hxr HF Np lT HR hi1 hi2
    by_cases hn0:0<n
    · obtain ⟨b,off,rfl,hb,hq⟩:=HC.out hn0
      have q0:wr.cell? ⟨b,off,none⟩=some (.int .i64 (nth 0 ks 0)):=hq wr I1.out 0 hn0
      have q1:=hq wr I1.out (n-1) (by omega)
      have hbr:b<wr.heap.size:=by have:=I1.out.size;omega
      have e1:IntKind.i64.wrap ((n:Int)-1)=((n-1:Nat):Int):=by rw [IntKind.wrap_i64];omega
      have e2:(n:Int)-1=((n-1:Nat):Int):=by omega
      have hml:n-1<n:=by omega
      have e4:IntKind.i64.wrap ((n-1:Nat):Int)=((n-1:Nat):Int):=by rw [IntKind.wrap_i64];omega
      have hmz:((n-1:Nat):Int)<(n:Int):=by omega
      have hd:decide (0<n)=true:=decide_eq_true hn0
      have hdz:decide ((0:Int)<(n:Int))=true:=decide_eq_true (by omega)
      generalize n-1=m at *
      generalize nth 0 ks 0=p at *
      generalize nth 0 ks m=q at *
      clear hq
      have HA:=qh (fun w'=>fG.out w' p)
      have HBs:=qh (fun w'=>fG.out w' q)
      generalize BP lo hi p=s1 at *
      generalize BP lo hi q=s2 at *
      go_upto_region 8 with fail
      cases s1 with
      | false =>
       have HE:Hid (FN lo hi ks=9):=by show _=_;rw [WT.out,if_pos ⟨hn0,.inl rfl⟩]
       refine AF (T:=fun _=>false) (S:=fun w'=>Below wr.heap.size wr w') (by kernel_rfl) (Below.refl wr.heap.size wr).drew (fun hHeld=>?_)
       obtain ⟨BM,hw0⟩:∃ x,wr.drew=x:=⟨_,rfl⟩
       rw [hw0] at hHeld ⊢
       have AJ:Below wr.heap.size wr BM:=hHeld
       clear hHeld hw0
       refine qs 0 25 AJ ?_
       refine qs 1 26 AJ ?_
       refine qs 2 27 AJ ?_
       refine qs 3 28 AJ ?_
       refine qf 4 29 rfl rfl AJ (by intro w2' hSw;have x0:=AQ hSw hgr x0;have x1:=AQ hSw hgr x1;go_simp;(try with_reducible rfl)) ?_
       refine qs 5 30 AJ ?_
       refine qs 6 31 AJ ?_
       refine qf 7 32 rfl rfl AJ (by intro w2' hSw;have q0:=AQ hSw hbr q0;go_simp;(try with_reducible rfl)) ?_
       refine qo 8 fun K hK=>?_
       go_simp
       refine (HA.out _).mono ?_
       rintro e Bg ⟨rfl,Co⟩
       have AJ:=AJ.trans (Co.mono AJ.size)
       clear Co
       refine hK.out _ _ (fun _=>AJ) (fun _=>?_)
       clear hK K
       (try simp only [Act.put,qS,qZ,qU])
       refine qs 9 34 AJ ?_
       refine qs 10 35 AJ ?_
       refine AY 11 36 (oi:=_) rfl rfl (by kernel_rfl) (by kernel_rfl) (by kernel_rfl) (by kernel_rfl) (fun _ _ _ h=>h) (by rfl) AJ ?_
       (try simp only [Act.put,qS,qZ,qU])
       refine AY 12 37 (oi:=_) rfl rfl (by kernel_rfl) (by kernel_rfl) (by kernel_rfl) (by kernel_rfl) (fun _ _ _ h=>h) (by rfl) AJ ?_
       (try simp only [Act.put,qS,qZ,qU])
       refine AY 13 38 (oi:=_) rfl rfl (by kernel_rfl) (by kernel_rfl) (by kernel_rfl) (by kernel_rfl) (fun _ _ _ h=>h) (by rfl) AJ ?_
       (try simp only [Act.put,qS,qZ,qU])
       refine AY 14 39 (oi:=_) rfl rfl (by kernel_rfl) (by kernel_rfl) (by kernel_rfl) (by kernel_rfl) (fun _ _ _ h=>h) (by rfl) AJ ?_
       (try simp only [Act.put,qS,qZ,qU])
       refine AY 15 40 (oi:=_) rfl rfl (by kernel_rfl) (by kernel_rfl) (by kernel_rfl) (by kernel_rfl) (fun _ _ _ h=>h) (by rfl) AJ ?_
       (try simp only [Act.put,qS,qZ,qU])
       refine AY 16 41 (oi:=_) rfl rfl (by kernel_rfl) (by kernel_rfl) (by kernel_rfl) (by kernel_rfl) (fun _ _ _ h=>h) (by rfl) AJ ?_
       (try simp only [Act.put,qS,qZ,qU])
       refine AY 17 42 (oi:=_) rfl rfl (by kernel_rfl) (by kernel_rfl) (by kernel_rfl) (by kernel_rfl) (fun _ _ _ h=>h) (by rfl) AJ ?_
       (try simp only [Act.put,qS,qZ,qU])
       refine AY 18 43 (oi:=_) rfl rfl (by kernel_rfl) (by kernel_rfl) (by kernel_rfl) (by kernel_rfl) (fun _ _ _ h=>h) (by rfl) AJ ?_
       (try simp only [Act.put,qS,qZ,qU])
       refine AY 19 44 (oi:=_) rfl rfl (by kernel_rfl) (by kernel_rfl) (by kernel_rfl) (by kernel_rfl) (fun _ _ _ h=>h) (by rfl) AJ ?_
       (try simp only [Act.put,qS,qZ,qU])
       refine qs 20 45 AJ ?_
       refine qs 21 46 AJ ?_
       refine qd ?_
       go_wp2_with fail
       go_ret
       exact ⟨by rw [HE.out];rfl,I1.out.trans (AJ.mono I1.out.size)⟩
      | true =>
       have HE:Hid (FN lo hi ks=if s2=false then 9 else 0):=by
        show _=_
        rw [WT.out]
        cases s2 with
        | false=>rw [if_pos ⟨hn0,.inr rfl⟩];rfl
        | true=>rw [if_neg (by simp)];rfl
       refine AF (T:=fun _=>false) (S:=fun w'=>Below wr.heap.size wr w') (by kernel_rfl) (Below.refl wr.heap.size wr).drew (fun hHeld=>?_)
       obtain ⟨Cr,hw0⟩:∃ x,wr.drew=x:=⟨_,rfl⟩
       rw [hw0] at hHeld ⊢
       have AJ:Below wr.heap.size wr Cr:=hHeld
       clear hHeld hw0
       refine qs 0 25 AJ ?_
       refine qs 1 26 AJ ?_
       refine qs 2 27 AJ ?_
       refine qs 3 28 AJ ?_
       refine qf 4 29 rfl rfl AJ (by intro w2' hSw;have x0:=AQ hSw hgr x0;have x1:=AQ hSw hgr x1;go_simp;(try with_reducible rfl)) ?_
       refine qs 5 30 AJ ?_
       refine qs 6 31 AJ ?_
       refine qf 7 32 rfl rfl AJ (by intro w2' hSw;have q0:=AQ hSw hbr q0;go_simp;(try with_reducible rfl)) ?_
       refine qo 8 fun K hK=>?_
       go_simp
       refine (HA.out _).mono ?_
       rintro e Kh ⟨rfl,Co⟩
       have AJ:=AJ.trans (Co.mono AJ.size)
       clear Co
       refine hK.out _ _ (fun _=>AJ) (fun _=>?_)
       clear hK K
       (try simp only [Act.put,qS,qZ,qU])
       refine qs 9 34 AJ ?_
       refine qs 10 35 AJ ?_
       refine qf 11 36 rfl rfl AJ (by intro w2' hSw;have x0:=AQ hSw hgr x0;have x1:=AQ hSw hgr x1;go_simp;(try with_reducible rfl)) ?_
       refine qs 12 37 AJ ?_
       refine qs 13 38 AJ ?_
       refine qs 14 39 AJ ?_
       refine qs 15 40 AJ ?_
       refine qs 16 41 AJ ?_
       refine qf 17 42 rfl rfl AJ (by intro w2' hSw;have q1:=AQ hSw hbr q1;go_simp;(try with_reducible rfl)) ?_
       refine qo 18 fun K hK=>?_
       go_simp
       refine (HBs.out _).mono ?_
       rintro e GK ⟨rfl,Co⟩
       have AJ:=AJ.trans (Co.mono AJ.size)
       clear Co
       refine hK.out _ _ (fun _=>AJ) (fun _=>?_)
       clear hK K
       (try simp only [Act.put,qS,qZ,qU])
       refine qs 19 44 AJ ?_
       refine qs 20 45 AJ ?_
       refine qs 21 46 AJ ?_
       refine qd ?_
       have HBK:=qh (I1.out.trans (AJ.mono I1.out.size))
       cases s2 with
       | true=>go_wp2_with fail;go_ret;exact ⟨by rw [HE.out];rfl,HBK.out⟩
       | false=>go_wp2_with fail;go_ret;exact ⟨by rw [HE.out];rfl,HBK.out⟩
    · have AB1:n=0:=by omega
      subst AB1
      have HE:Hid (FN lo hi ks=0):=by show _=_;rw [WT.out,if_neg (fun h=>hn0 h.1)]
      clear hn0 WT
      go_wp2_with fail
      go_quiet (fail)
      go_wp2_with fail
      go_ret
      exact ⟨by rw [HE.out];rfl,Ay I1.out _⟩
end
section
open Go.RowKit
attribute [local go_sem] Oper.semAt_some
theorem WU (w:World) (n:Nat) (h:Lh n):Calls Tryz.prog 228 #[.int .i64 n] w fun e w'=>e=.returned (.bool true)∧w'=w:=by
 rcases h with rfl|rfl|rfl|rfl <;>
 · go_enter Tryz.func228,Tryz.ntmps228
   go_wp2
   go_ret
   exact ⟨rfl,rfl⟩
theorem Zc (w:World) (A:Option Addr) (len c a n:Nat) (hn:Lh n) (h:a+n≤len) (hl:len≤140737488355328):Calls Tryz.prog 203 #[.slice A len c,.int .i64 a,.int .i64 n] w fun e w'=>e=.returned (.int .i64 0)∧w'=w:=by
 have HK:=qh (WU w n hn)
 have hw:IntKind.i64.wrap ((len:Int)-(a:Int))=(len:Int)-(a:Int):=by rw [IntKind.wrap_i64];omega
 have h1:¬ (a:Int)<0:=by omega
 have h2:decide ((len:Int)<(a:Int))=false:=decide_eq_false (by omega)
 have h3:decide ((len:Int)-(a:Int)<(n:Int))=false:=decide_eq_false (by omega)
 clear hn
 go_enter Tryz.func203,Tryz.ntmps203
 go_wp2_with (go_at_call 228;refine HK.out.mono ?_;rintro e w3 ⟨rfl,rfl⟩)
 go_ret
 exact ⟨rfl,rfl⟩
theorem fH {l:List UInt8} {a:Nat} (h:a+8≤l.length):9223372036854775808≤AC l a 8↔128≤(nth 0 l (a+7)).toNat:=by
 have e:BN l a 8=BN l a 7++[nth 0 l (a+7)]:=ZB (n:=7) (by omega)
 have h7:(BN l a 7).length=7:=Hd (by omega)
 have hl:=SG (BN l a 7)
 rw [h7] at hl
 have hu:=(nth 0 l (a+7)).toNat_lt
 unfold AC
 rw [e,Ob,h7]
 simp only [EL]
 omega
set_option maxRecDepth 100000 in
theorem Lx (w:World) (S:Nat→Prop) (v:Value) (l:List UInt8) (a n:Nat) (hS:∀ b,S b→b<w.heap.size) (h:AX w S v l) (hn:Lh n) (ha:a+n≤l.length) (hl:l.length≤140737488355328) :
 Calls Tryz.prog 146 #[v,.int .i64 a,.int .i64 n] w fun e w'=>e=.returned (if 9223372036854775808≤AC l a n then .tuple #[.int .i64 0,.int .i64 2] else .tuple #[.int .i64 (AC l a n:Nat),.int .i64 0])∧w'=w:=by
 have kK:n≤8:=by rcases hn with h|h|h|h <;> omega
 have hn1:1≤n:=by rcases hn with h|h|h|h <;> omega
 obtain ⟨A,c,rfl,hc,hr⟩:=h
 have HT:=qh (Zc w A l.length c a n hn ha hl)
 have hcl:=BU hr (by omega)
 have HST:Hid (∀ j,j<n→AC l (a+j) (n-j)=(nth 0 l (a+j)).toNat+256*AC l (a+(j+1)) (n-(j+1))∧AC l (a+(j+1)) (n-(j+1))<72057594037927936):=fun j hj=>⟨RP hj ha,O6 hj kK⟩
 obtain ⟨b,off,rfl,hb,hcl⟩:=hcl
 have GH:=qh hcl
 have htop:n=8→(9223372036854775808≤AC l a n↔128≤(nth 0 l (a+7)).toNat):=fun e=>by subst e;exact fH ha
 have hlow:n≠8→AC l a n<9223372036854775808:=fun e=>by
  have h:=Dk (l:=l) (a:=a) (n:=n)
  have h2:256 ^ n≤256 ^ 7:=Nat.pow_le_pow_right (by omega) (by omega)
  omega
 obtain ⟨R,hR⟩:∃ R,AC l a n=R:=⟨_,rfl⟩
 rw [hR] at htop hlow
 have HR:=qh hR
 rw [hR]
 clear hr hn hcl hR
 generalize hnn:l.length=len at *
 have HN:=qh hnn
 clear hnn
 have hwn:IntKind.i64.wrap ((n:Int)-1)=(n:Int)-1:=by rw [IntKind.wrap_i64];omega
 obtain ⟨X,hX⟩:∃ X:Value,(if 9223372036854775808≤R then Value.tuple #[.int .i64 0,.int .i64 2] else .tuple #[.int .i64 (R:Nat),.int .i64 0])=X:=⟨_,rfl⟩
 rw [hX]
 have HX:=qh hX
 clear hX
 go_enter Tryz.func146,Tryz.ntmps146
 have Vt:Hid (R<9223372036854775808→∀ j,j≤n→AC l (a+j) (n-j)<9223372036854775808):=fun hR j hj=>by
  cases j with
  | zero=>rw [Nat.add_zero,Nat.sub_zero,HR.out];exact hR
  | succ j =>
   have h:=(HST.out j (by omega)).2
   omega
 by_cases hbig:9223372036854775808≤R
 · have h8:n=8:=Classical.byContradiction fun h=>by have:=hlow h;omega
   have ht:=(htop h8).1 hbig
   have sQ:Hid (X=.tuple #[.int .i64 0,.int .i64 2]):=by show _=_;rw [← HX.out,if_pos hbig]
   have c7:=GH.out (a+7) (by omega)
   generalize nth 0 l (a+7)=u at *
   have htz:(128:Int)≤(u.toNat:Int):=by omega
   obtain ⟨x,hx⟩:∃ x,a+7=x:=⟨_,rfl⟩
   have hwx:IntKind.i64.wrap ((a:Int)+7)=(x:Int):=by rw [IntKind.wrap_i64];omega
   have hxl:(x:Int)<(len:Int):=by omega
   rw [hx] at c7
   subst h8
   clear hx htop hlow
   go_wp2_with (go_at_call 203;refine HT.out.mono ?_;rintro e w3 ⟨rfl,rfl⟩)
   go_ret2
   exact ⟨by rw [sQ.out];rfl,rfl⟩
 · have hRl:R<9223372036854775808:=by omega
   have AB2:=qh (Vt.out hRl)
   have sQ:Hid (X=.tuple #[.int .i64 (R:Nat),.int .i64 0]):=by show _=_;rw [← HX.out,if_neg hbig]
   go_upto_region 4 with (go_at_call 203;refine HT.out.mono ?_;rintro e w3 ⟨rfl,rfl⟩)
   go_cut [27] (fun s27 wx=>s27=.bool false∧wx=w3)
   case first =>
    by_cases h8:n=8
    · have ht:¬ 128≤(nth 0 l (a+7)).toNat:=fun h=>hbig ((htop h8).2 h)
      have c7:=GH.out (a+7) (by omega)
      generalize nth 0 l (a+7)=u at *
      have htz:¬ (128:Int)≤(u.toNat:Int):=by omega
      obtain ⟨x,hx⟩:∃ x,a+7=x:=⟨_,rfl⟩
      have hwx:IntKind.i64.wrap ((a:Int)+7)=(x:Int):=by rw [IntKind.wrap_i64];omega
      have hxl:(x:Int)<(len:Int):=by omega
      rw [hx] at c7
      subst h8
      clear hx htop hlow hbig ht
      go_wp2_with fail
      go_meet
      exact ⟨rfl,rfl⟩
    · have h8z:((n:Int)==8)=false:=beq_false_of_ne (by omega)
      clear htop hlow hbig
      go_wp2_with fail
      go_meet
      exact ⟨rfl,rfl⟩
   case rest =>
   obtain ⟨rfl,hwc⟩:=hcut
   have hwc:=hwc.symm
   subst hwc
   clear htop hlow hbig
   go_wp2_with fail
   go_loopw [9,10] (fun vn vi wr=>∃ (j q:Nat),vi=.int .i64 ((j:Int)-1)∧vn=.int .i64 q∧j≤n∧Hid (q=AC l (a+j) (n-j))∧wr=w3) (fun _ vi _=>(intOf vi+1).toNat)
   case atStart=>exact ⟨n,0,rfl,rfl,by omega,by show _=_;rw [Nat.sub_self];simp [AC,BN,EL],rfl⟩
   case round =>
   obtain ⟨j,q,rfl,rfl,hj,HQ,rfl⟩:=hrel
   cases j with
   | zero =>
    have HE:Hid (q=R):=by
     show _=_
     have e:=HQ.out
     rw [Nat.add_zero,Nat.sub_zero,HR.out] at e
     exact e
    go_wp2_with fail
    go_ret2
    exact ⟨by rw [sQ.out,← HE.out];rfl,rfl⟩
   | succ j =>
    rw [show (((j+1:Nat):Int)-1)=(j:Int) by omega]
    obtain ⟨e1,e2⟩:=HST.out j (by omega)
    have hql:q<72057594037927936:=by rw [HQ.out];exact e2
    have c0:=GH.out (a+j) (by omega)
    obtain ⟨u,hu⟩:∃ u,nth 0 l (a+j)=u:=⟨_,rfl⟩
    rw [hu] at c0 e1
    have hul:=u.toNat_lt
    obtain ⟨y,hy⟩:∃ y,q*256+u.toNat=y:=⟨_,rfl⟩
    have HY:Hid (y=AC l (a+j) (n-j)):=by show _=_;rw [e1,← hy,HQ.out];omega
    have hyl:y<9223372036854775808:=by rw [HY.out];exact AB2.out j (by omega)
    have hwm:IntKind.i64.wrap ((q:Int)*256)=(q:Int)*256:=by rw [IntKind.wrap_i64];omega
    have Ki:IntKind.i64.wrap ((q:Int)*256+(u.toNat:Int))=(y:Int):=by rw [IntKind.wrap_i64];omega
    have hwu:IntKind.i64.wrap (u.toNat:Int)=(u.toNat:Int):=by rw [IntKind.wrap_i64];omega
    obtain ⟨x,hx⟩:∃ x,a+j=x:=⟨_,rfl⟩
    have hwx:IntKind.i64.wrap ((a:Int)+(j:Int))=(x:Int):=by rw [IntKind.wrap_i64];omega
    have hxl:(x:Int)<(len:Int):=by omega
    have hwj:IntKind.i64.wrap ((j:Int)-1)=(j:Int)-1:=by rw [IntKind.wrap_i64];omega
    rw [hx] at c0
    clear hx hy hu e1 e2
    go_wp2_with fail
    go_roundw
    case rel=>exact ⟨j,y,rfl,rfl,by omega,HY,trivial⟩
    case measure=>simp [intOf]
end
section
open Go.RowKit
attribute [local go_sem] Oper.semAt_some
theorem Mo (l:List UInt8):D9 l=true↔∀ k,k<l.length→nth 0 l k=0:=by
 unfold D9
 rw [List.all_eq_true]
 constructor
 · intro h k hk
   rw [Ac 0 l k hk]
   have:=h _ (List.getElem_mem hk)
   simpa using this
 · intro h x hx
   obtain ⟨k,hk,rfl⟩:=List.getElem_of_mem hx
   have:=h k hk
   rw [Ac 0 l k hk] at this
   simp [this]
theorem Ul {l:List UInt8} {k:Nat} (hk:k<l.length) (h:nth 0 l k≠0):D9 l=false:=by
 cases hz:D9 l with
 | false=>rfl
 | true=>exact absurd ((Mo l).1 hz k hk) h
theorem pq {u:UInt8} (h:u≠0):¬ (u.toNat:Int)=0:=fun e=>h (by
 have:u.toNat=0:=by omega
 exact UInt8.toNat_inj.1 (by simpa using this))
theorem Zd (w:World) (u:UInt8):Calls Tryz.prog 222 #[.int .u8 (u.toNat:Int)] w fun e w'=>e=.returned (.bool (decide (u≠0)))∧w'=w:=by
 by_cases h:u=0
 · subst h
   go_enter Tryz.func222,Tryz.ntmps222
   go_wp2
   go_ret
   exact ⟨rfl,rfl⟩
 · have hz:=pq h
   have hd:Hid (decide (u≠0)=true):=decide_eq_true h
   go_enter Tryz.func222,Tryz.ntmps222
   go_wp2
   go_ret
   exact ⟨by rw [hd.out];simp;omega,rfl⟩
set_option maxRecDepth 100000 in
theorem Um (w:World) (S:Nat→Prop) (v:Value) (l:List UInt8) (hS:∀ b,S b→b<w.heap.size) (h:AX w S v l) (hl:l.length≤140737488355328) :
 Calls Tryz.prog 235 #[v,.func (.func 222) #[] #[]] w fun e w'=>(∃ r:Int,e=.returned (.int .i64 r)∧decide (0≤r) = !D9 l)∧w'=w:=by
 obtain ⟨A,c,rfl,hc,hr⟩:=h
 have HC:=qh (fun hp=>BU hr hp)
 have yj:=qh (fun k (hk:k<l.length) (h:nth 0 l k≠0)=>Ul hk h)
 have HZY:=qh (fun (h:∀ k,k<l.length→nth 0 l k=0)=>(Mo l).2 h)
 clear hr
 generalize hnn:l.length=n at *
 clear hnn
 go_enter Tryz.func235,Tryz.ntmps235
 go_wp2_with fail
 go_loopw [8] (fun vi wr=>∃ k:Nat,vi=.int .i64 k∧k≤n∧Hid (∀ j,j<k→nth 0 l j=0)∧wr=w) (fun vi _=>n-(intOf vi).toNat)
 case atStart=>exact ⟨0,rfl,by omega,fun j hj=>by omega,rfl⟩
 case round =>
  obtain ⟨k,rfl,hk,HJ,rfl⟩:=hrel
  by_cases hlt:k<n
  · obtain ⟨b,off,rfl,hb,hcl⟩:=HC.out (by omega)
    have c0:=hcl k hlt
    have HZ1:=qh (fun w'=>Zd w' (nth 0 l k))
    by_cases h0:nth 0 l k=0
    · have HJ2:Hid (∀ j,j<k+1→nth 0 l j=0):=fun j hj=>by
        by_cases hjk:j<k
        · exact HJ.out j hjk
        · obtain rfl:j=k:=by omega
          exact h0
      rw [h0] at HZ1 c0
      clear hcl h0
      go_wp2_with (go_at_call 222;refine (HZ1.out _).mono ?_;rintro e w3 ⟨rfl,rfl⟩)
      go_roundw
      case rel=>exact ⟨k+1,by go_num,by omega,HJ2,trivial⟩
      case measure=>simp [intOf];omega
    · have sj:=qh (yj.out k hlt h0)
      have hd:decide (nth 0 l k≠0)=true:=decide_eq_true h0
      rw [hd] at HZ1
      clear hcl h0 hd
      generalize nth 0 l k=u at *
      go_wp2_with (go_at_call 222;refine (HZ1.out _).mono ?_;rintro e w3 ⟨rfl,rfl⟩)
      go_ret
      exact ⟨⟨k,rfl,by rw [sj.out];simp⟩,rfl⟩
  · obtain rfl:k=n:=by omega
    have sj:=qh (HZY.out HJ.out)
    go_wp2_with fail
    go_ret
    exact ⟨⟨-1,rfl,by rw [sj.out];rfl⟩,rfl⟩
theorem fI (w:World) (S:Nat→Prop) (v:Value) (l:List UInt8) (hS:∀ b,S b→b<w.heap.size) (h:AX w S v l) (hl:l.length≤140737488355328) :
 Calls Tryz.prog 198 #[v] w fun e w'=>e=.returned (.bool (D9 l))∧w'=w:=by
 have HI:=qh (Um w S v l hS h hl)
 have HCF:Hid (Calls Tryz.prog 221 #[v,.func (.func 222) #[] #[]] w fun e w'=>e=.returned (.bool (!D9 l))∧w'=w):=by
  obtain ⟨A,c,rfl,hc,hr⟩:=h
  clear hr
  show Calls _ _ _ _ _
  go_enter Tryz.func221,Tryz.ntmps221
  go_wp2_with (go_at_call 235;refine HI.out.mono ?_;rintro e w3 ⟨⟨r,rfl,hr⟩,rfl⟩;have HR:=qh hr;clear hr)
  go_ret
  exact ⟨by rw [← HR.out];rfl,rfl⟩
 obtain ⟨A,c,rfl,hc,hr⟩:=h
 clear hr HI
 generalize D9 l=z at *
 go_enter Tryz.func198,Tryz.ntmps198
 go_wp2_with (go_at_call 221;refine HCF.out.mono ?_;rintro e w3 ⟨rfl,rfl⟩)
 go_ret
 exact ⟨by cases z <;> rfl,rfl⟩
set_option maxRecDepth 100000 in
theorem Ze (w:World) (S:Nat→Prop) (v:Value) (l:List UInt8) (hS:∀ b,S b→b<w.heap.size) (h:AX w S v l) (hl:l.length≤140737488355328) :
 Calls Tryz.prog 103 #[v] w fun e w'=>e=.returned (.bool (D9 l))∧w'=w:=by
 obtain ⟨A,c,rfl,hc,hr⟩:=h
 have HC:=qh (fun hp=>BU hr hp)
 have yj:=qh (fun k (hk:k<l.length) (h:nth 0 l k≠0)=>Ul hk h)
 have HZY:=qh (fun (h:∀ k,k<l.length→nth 0 l k=0)=>(Mo l).2 h)
 clear hr
 generalize hnn:l.length=n at *
 clear hnn
 go_enter Tryz.func103,Tryz.ntmps103
 go_wp2_with fail
 go_loopw [3] (fun vi wr=>∃ k:Nat,vi=.int .i64 k∧k≤n∧Hid (∀ j,j<k→nth 0 l j=0)∧wr=w) (fun vi _=>n-(intOf vi).toNat)
 case atStart=>exact ⟨0,rfl,by omega,fun j hj=>by omega,rfl⟩
 case round =>
  obtain ⟨k,rfl,hk,HJ,rfl⟩:=hrel
  by_cases hlt:k<n
  · obtain ⟨b,off,rfl,hb,hcl⟩:=HC.out (by omega)
    have c0:=hcl k hlt
    by_cases h0:nth 0 l k=0
    · have HJ2:Hid (∀ j,j<k+1→nth 0 l j=0):=fun j hj=>by
        by_cases hjk:j<k
        · exact HJ.out j hjk
        · obtain rfl:j=k:=by omega
          exact h0
      rw [h0] at c0
      clear hcl h0
      go_wp2_with fail
      go_roundw
      case rel=>exact ⟨k+1,by go_num,by omega,HJ2,trivial⟩
      case measure=>simp [intOf];omega
    · have sj:=qh (yj.out k hlt h0)
      have hz:=pq h0
      clear hcl h0
      generalize nth 0 l k=u at *
      go_wp2_with fail
      go_ret
      exact ⟨by rw [sj.out];rfl,rfl⟩
  · obtain rfl:k=n:=by omega
    have sj:=qh (HZY.out HJ.out)
    go_wp2_with fail
    go_ret
    exact ⟨by rw [sj.out];rfl,rfl⟩
end
section
open Go.RowKit
attribute [local go_sem] Oper.semAt_some
def LF (n:Nat) (prev k:Int):Int:=if k<0∨281474976710655<k then 2 else if 0<n∧k≤prev then 8 else 0
theorem lV (w:World) (A:Option Addr) (n c:Nat) (prev k:Int) (hn:n≤1000000) (h:0<n→∃ b off,A=some ⟨b,off,none⟩∧w.cell? ⟨b,off+(n-1),none⟩=some (.int .i64 prev)) :
 Calls Tryz.prog 199 #[.slice A n c,.int .i64 k] w fun e w'=>e=.returned (.int .i64 (LF n prev k))∧w'=w:=by
 by_cases h1:k<0
 · have HK:Hid (LF n prev k=2):=if_pos (.inl h1)
   clear h
   go_enter Tryz.func199,Tryz.ntmps199
   go_wp2
   go_ret
   exact ⟨by rw [HK.out];rfl,rfl⟩
 · by_cases h2:281474976710655<k
   · have HK:Hid (LF n prev k=2):=if_pos (.inr h2)
     clear h
     go_enter Tryz.func199,Tryz.ntmps199
     go_wp2
     go_ret
     exact ⟨by rw [HK.out];rfl,rfl⟩
   · by_cases h3:0<n
     · obtain ⟨b,off,rfl,q⟩:=h h3
       have hd:decide (0<n)=true:=decide_eq_true h3
       have e0:IntKind.i64.wrap ((n:Int)-1)=((n-1:Nat):Int):=by rw [IntKind.wrap_i64];omega
       have hlt:((n-1:Nat):Int)<(n:Int):=by omega
       by_cases h4:k≤prev
       · have HK:Hid (LF n prev k=8):=by show _=_;unfold LF;rw [if_neg (by omega),if_pos ⟨h3,h4⟩]
         generalize n-1=m at *
         have hge:prev ≥ k:=h4
         go_enter Tryz.func199,Tryz.ntmps199
         go_wp2
         go_ret
         exact ⟨by rw [HK.out];rfl,rfl⟩
       · have HK:Hid (LF n prev k=0):=by show _=_;unfold LF;rw [if_neg (by omega),if_neg (by omega)]
         generalize n-1=m at *
         have hge:¬ prev ≥ k:=h4
         go_enter Tryz.func199,Tryz.ntmps199
         go_wp2
         go_ret
         exact ⟨by rw [HK.out];rfl,rfl⟩
     · obtain rfl:n=0:=by omega
       have HK:Hid (LF 0 prev k=0):=by show _=_;unfold LF;rw [if_neg (by omega),if_neg (by omega)]
       clear h h3
       go_enter Tryz.func199,Tryz.ntmps199
       go_wp2
       go_ret
       exact ⟨by rw [HK.out];rfl,rfl⟩
end
end Go.Proofs.YtpenklpdjpkigaaGreat
