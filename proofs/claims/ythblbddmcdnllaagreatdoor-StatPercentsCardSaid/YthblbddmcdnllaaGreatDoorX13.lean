/- A part of the proof: WSpan2, WBytes1, WPack. -/
import Derived.Test.YthblbddmcdnllaaGreatDoorX12
import Derived.Test.YthblbddmcdnllaaGreatDoorY1
import Derived.Test.YthblbddmcdnllaaGreatDoorX8
import Derived.Deep.Onto
import Derived.Deep.Cut
import Derived.Deep.DeepCutAuto
import Derived.Test.YthblbddmcdnllaaGreatDoorX6
set_option maxHeartbeats 6400000
set_option linter.unusedVariables false
set_option linter.unusedSimpArgs false
namespace Go.Proofs.YthblbddmcdnllaaGreatDoor
section
open Go.RowKit
attribute [local go_sem] Oper.semAt_some
set_option maxRecDepth 100000 in
theorem JS (w:World) (S:Nat→Prop) (lo hi:Int) (vk:Value) (ks:List Int) (hS:∀ b,S b→b<w.heap.size) (h:BV w S vk ks) (hl:ks.length≤1000000) :
 Calls Tryz.prog 230 #[.agg #[.int .i64 lo,.int .i64 hi],vk] w fun e w'=>e=.returned (.int .i64 (Eh lo hi ks))∧Below w.heap.size w w':=by
 obtain ⟨A,c,rfl,hc,hr⟩:=h
 have HC:Hid (0<ks.length→∃ b off,A=some ⟨b,off,none⟩∧b<w.heap.size∧∀ w',Below w.heap.size w w'→∀ k,k<ks.length→w'.cell? ⟨b,off+k,none⟩=some (.int .i64 (nth 0 ks k))):=fun hp=>by
  obtain ⟨b,off,e,hb,h1⟩:=Be hr hp
  exact ⟨b,off,e,hS b hb,fun w' hB k hk=>(hB.cell (p:=⟨b,off+k,none⟩) (hS b hb)).trans (h1 k hk)⟩
 have HF:Hid (Eh lo hi ks=if DN lo hi=false then 1 else if rises ks=false then 8 else if 0<ks.length∧(Bg lo hi (nth 0 ks 0)=false∨Bg lo hi (nth 0 ks (ks.length-1))=false) then 9 else 0):=rfl
 have RB:=qh (fun i (h:i+1<ks.length) (hn:nth 0 ks (i+1)≤nth 0 ks i)=>Vp h hn)
 have YU:=qh (fun h=>(Fv ks).2 h)
 have hB1:Below w.heap.size w (w.alloc (.cells #[.int .i64 lo,.int .i64 hi] 332)):=(Below.refl _ _).alloc (Nat.le_refl _) _
 have hx:=AL.new w #[.int .i64 lo,.int .i64 hi] 332
 have jE:=qh (fun w'=>Md w' lo hi)
 have jF:=qh (fun w' k=>Pf w' lo hi k)
 clear hr
 generalize hn:ks.length=n at *
 clear hn
 generalize DN lo hi=rs at *
 go_enter Tryz.func230,Tryz.ntmps230
 go_upto_region 1 with fail
 generalize w.alloc (.cells #[.int .i64 lo,.int .i64 hi] 332)=w1 at *
 have x0:=hx.at 0 _ rfl
 have x1:=hx.at 1 _ rfl
 cases rs with
 | false =>
  have HE:Hid (Eh lo hi ks=1):=by show _=_;rw [HF.out,if_pos rfl]
  go_wp2_with (go_at_call 244;refine (jE.out _).mono ?_;rintro e w2 ⟨rfl,hB2⟩)
  go_ret
  exact ⟨by rw [HE.out];rfl,hB1.trans (hB2.mono hB1.size)⟩
 | true =>
  go_upto_region 3 with (go_at_call 244;refine (jE.out _).mono ?_;rintro e w2 ⟨rfl,hB2⟩)
  have hgs:=Nat.lt_of_lt_of_le hx.lt hB2.size
  have hx2:=hx.below hB2 hx.lt
  have YV:=qh hx2
  have HB2:=qh (hB1.trans (hB2.mono hB1.size))
  clear hx x0 x1 hB1 hB2 hx2
  go_wp2_with fail
  go_loopw [5] (fun vi wr=>∃ i:Nat,vi=.int .i64 i∧1≤i∧(i≤n∨i=1)∧Hid (JG ks i)∧Hid (Below w2.heap.size w2 wr)) (fun vi _=>n-(intOf vi).toNat)
  case atStart=>exact ⟨1,rfl,by omega,.inr rfl,(fun i hi=>by omega),Below.refl _ _⟩
  case round =>
  obtain ⟨i,rfl,hi1,hi2,HR,HB⟩:=hrel
  by_cases hlt:i<n
  · obtain ⟨b,off,rfl,hb,hq⟩:=HC.out (by omega)
    obtain ⟨j,rfl⟩:∃ j,i=j+1:=⟨i-1,by omega⟩
    have q0:=hq wr (HB2.out.trans (HB.out.mono HB2.out.size)) j (by omega)
    have q1:=hq wr (HB2.out.trans (HB.out.mono HB2.out.size)) (j+1) hlt
    have hno:=RB.out j hlt
    have YO:Hid (nth 0 ks j<nth 0 ks (j+1)→JG ks (j+1+1)):=fun h m hm=>by
     by_cases zP:m+1<j+1
     · exact HR.out m zP
     · obtain rfl:m=j:=by omega
       exact h
    have e1:IntKind.i64.wrap (((j+1:Nat):Int)-1)=(j:Int):=by rw [IntKind.wrap_i64];omega
    have e2:((j+1:Nat):Int)-1=(j:Int):=by omega
    have e3:(j:Int)+1-1=(j:Int):=by omega
    have hbr:b<wr.heap.size:=by have:=HB2.out.size;have:=HB.out.size;omega
    have hjl:(j:Int)<(n:Int):=by omega
    have zQ:(j:Int)+1<(n:Int):=by omega
    generalize nth 0 ks j=p at *
    generalize nth 0 ks (j+1)=q at *
    have pV:=qh hno
    clear hq hno hi1 hi2
    by_cases hpq:q≤p
    · as_aux_lemma =>
      have HE:Hid (Eh lo hi ks=8):=by show _=_;rw [HF.out,if_neg (by simp),if_pos (pV.out hpq)]
      have hge:decide (p ≥ q)=true:=decide_eq_true hpq
      have pW:decide (q≤p)=true:=decide_eq_true hpq
      clear hpq
      go_wp2_with fail
      go_quiet (fail)
      go_wp2_with fail
      go_ret
      exact ⟨by rw [HE.out];rfl,AV (HB2.out.trans (HB.out.mono HB2.out.size)) _⟩
    · have hge:decide (p ≥ q)=false:=decide_eq_false hpq
      have pW:decide (q≤p)=false:=decide_eq_false hpq
      have HR2:=qh (YO.out (by omega))
      clear hpq
      go_wp2_with fail
      go_quiet (fail)
      go_wp2_with fail
      go_roundw
      case rel=>exact ⟨j+1+1,by go_num,by omega,.inl (by omega),HR2,AV HB.out _⟩
      case measure=>simp [intOf];omega
  · have Xz:Hid (rises ks=true):=YU.out (fun m hm=>HR.out m (by omega))
    have YW:Hid (Eh lo hi ks=if 0<n∧(Bg lo hi (nth 0 ks 0)=false∨Bg lo hi (nth 0 ks (n-1))=false) then 9 else 0):=by
     show _=_
     rw [HF.out,if_neg (by simp),if_neg (by rw [Xz.out];simp)]
    have Ie:=qh (HB2.out.trans (HB.out.mono HB2.out.size))
    have nT:=YV.out.below HB.out hgs
    have x0:=nT.at 0 _ rfl
    have x1:=nT.at 1 _ rfl
    have hgr:w.heap.size<wr.heap.size:=nT.lt
    clear nT HF RB YU HR hi1 hi2
    by_cases hn0:0<n
    · obtain ⟨b,off,rfl,hb,hq⟩:=HC.out hn0
      have q0:wr.cell? ⟨b,off,none⟩=some (.int .i64 (nth 0 ks 0)):=hq wr Ie.out 0 hn0
      have q1:=hq wr Ie.out (n-1) (by omega)
      have hbr:b<wr.heap.size:=by have:=Ie.out.size;omega
      have e1:IntKind.i64.wrap ((n:Int)-1)=((n-1:Nat):Int):=by rw [IntKind.wrap_i64];omega
      have e2:(n:Int)-1=((n-1:Nat):Int):=by omega
      have zR:n-1<n:=by omega
      have e4:IntKind.i64.wrap ((n-1:Nat):Int)=((n-1:Nat):Int):=by rw [IntKind.wrap_i64];omega
      have hmz:((n-1:Nat):Int)<(n:Int):=by omega
      have hd:decide (0<n)=true:=decide_eq_true hn0
      have hdz:decide ((0:Int)<(n:Int))=true:=decide_eq_true (by omega)
      generalize n-1=m at *
      generalize nth 0 ks 0=p at *
      generalize nth 0 ks m=q at *
      clear hq
      have HA:=qh (fun w'=>jF.out w' p)
      have zS:=qh (fun w'=>jF.out w' q)
      generalize Bg lo hi p=s1 at *
      generalize Bg lo hi q=s2 at *
      go_upto_region 8 with fail
      cases s1 with
      | false =>
       have HE:Hid (Eh lo hi ks=9):=by show _=_;rw [YW.out,if_pos ⟨hn0,.inl rfl⟩]
       refine AJ (T:=fun _=>false) (S:=fun w'=>Below wr.heap.size wr w') (by kernel_rfl) (Below.refl wr.heap.size wr).drew (fun hHeld=>?_)
       obtain ⟨BN,hw0⟩:∃ x,wr.drew=x:=⟨_,rfl⟩
       rw [hw0] at hHeld ⊢
       have AF:Below wr.heap.size wr BN:=hHeld
       clear hHeld hw0
       refine qs 0 25 AF ?_
       refine qs 1 26 AF ?_
       refine qs 2 27 AF ?_
       refine qs 3 28 AF ?_
       refine qf 4 29 rfl rfl AF (by intro w2' hSw;have x0:=AY hSw hgr x0;have x1:=AY hSw hgr x1;go_simp;(try with_reducible rfl)) ?_
       refine qs 5 30 AF ?_
       refine qs 6 31 AF ?_
       refine qf 7 32 rfl rfl AF (by intro w2' hSw;have q0:=AY hSw hbr q0;go_simp;(try with_reducible rfl)) ?_
       refine qo 8 fun K hK=>?_
       go_simp
       refine (HA.out _).mono ?_
       rintro e BP ⟨rfl,CB⟩
       have AF:=AF.trans (CB.mono AF.size)
       clear CB
       refine hK.out _ _ (fun _=>AF) (fun _=>?_)
       clear hK K
       (try simp only [Act.put,qS,qZ,qU])
       refine qs 9 34 AF ?_
       refine qs 10 35 AF ?_
       refine AQ 11 36 (oi:=_) rfl rfl (by kernel_rfl) (by kernel_rfl) (by kernel_rfl) (by kernel_rfl) (fun _ _ _ h=>h) (by rfl) AF ?_
       (try simp only [Act.put,qS,qZ,qU])
       refine AQ 12 37 (oi:=_) rfl rfl (by kernel_rfl) (by kernel_rfl) (by kernel_rfl) (by kernel_rfl) (fun _ _ _ h=>h) (by rfl) AF ?_
       (try simp only [Act.put,qS,qZ,qU])
       refine AQ 13 38 (oi:=_) rfl rfl (by kernel_rfl) (by kernel_rfl) (by kernel_rfl) (by kernel_rfl) (fun _ _ _ h=>h) (by rfl) AF ?_
       (try simp only [Act.put,qS,qZ,qU])
       refine AQ 14 39 (oi:=_) rfl rfl (by kernel_rfl) (by kernel_rfl) (by kernel_rfl) (by kernel_rfl) (fun _ _ _ h=>h) (by rfl) AF ?_
       (try simp only [Act.put,qS,qZ,qU])
       refine AQ 15 40 (oi:=_) rfl rfl (by kernel_rfl) (by kernel_rfl) (by kernel_rfl) (by kernel_rfl) (fun _ _ _ h=>h) (by rfl) AF ?_
       (try simp only [Act.put,qS,qZ,qU])
       refine AQ 16 41 (oi:=_) rfl rfl (by kernel_rfl) (by kernel_rfl) (by kernel_rfl) (by kernel_rfl) (fun _ _ _ h=>h) (by rfl) AF ?_
       (try simp only [Act.put,qS,qZ,qU])
       refine AQ 17 42 (oi:=_) rfl rfl (by kernel_rfl) (by kernel_rfl) (by kernel_rfl) (by kernel_rfl) (fun _ _ _ h=>h) (by rfl) AF ?_
       (try simp only [Act.put,qS,qZ,qU])
       refine AQ 18 43 (oi:=_) rfl rfl (by kernel_rfl) (by kernel_rfl) (by kernel_rfl) (by kernel_rfl) (fun _ _ _ h=>h) (by rfl) AF ?_
       (try simp only [Act.put,qS,qZ,qU])
       refine AQ 19 44 (oi:=_) rfl rfl (by kernel_rfl) (by kernel_rfl) (by kernel_rfl) (by kernel_rfl) (fun _ _ _ h=>h) (by rfl) AF ?_
       (try simp only [Act.put,qS,qZ,qU])
       refine qs 20 45 AF ?_
       refine qs 21 46 AF ?_
       refine qd ?_
       go_wp2_with fail
       go_ret
       exact ⟨by rw [HE.out];rfl,Ie.out.trans (AF.mono Ie.out.size)⟩
      | true =>
       have HE:Hid (Eh lo hi ks=if s2=false then 9 else 0):=by
        show _=_
        rw [YW.out]
        cases s2 with
        | false=>rw [if_pos ⟨hn0,.inr rfl⟩];rfl
        | true=>rw [if_neg (by simp)];rfl
       refine AJ (T:=fun _=>false) (S:=fun w'=>Below wr.heap.size wr w') (by kernel_rfl) (Below.refl wr.heap.size wr).drew (fun hHeld=>?_)
       obtain ⟨Cz,hw0⟩:∃ x,wr.drew=x:=⟨_,rfl⟩
       rw [hw0] at hHeld ⊢
       have AF:Below wr.heap.size wr Cz:=hHeld
       clear hHeld hw0
       refine qs 0 25 AF ?_
       refine qs 1 26 AF ?_
       refine qs 2 27 AF ?_
       refine qs 3 28 AF ?_
       refine qf 4 29 rfl rfl AF (by intro w2' hSw;have x0:=AY hSw hgr x0;have x1:=AY hSw hgr x1;go_simp;(try with_reducible rfl)) ?_
       refine qs 5 30 AF ?_
       refine qs 6 31 AF ?_
       refine qf 7 32 rfl rfl AF (by intro w2' hSw;have q0:=AY hSw hbr q0;go_simp;(try with_reducible rfl)) ?_
       refine qo 8 fun K hK=>?_
       go_simp
       refine (HA.out _).mono ?_
       rintro e Ka ⟨rfl,CB⟩
       have AF:=AF.trans (CB.mono AF.size)
       clear CB
       refine hK.out _ _ (fun _=>AF) (fun _=>?_)
       clear hK K
       (try simp only [Act.put,qS,qZ,qU])
       refine qs 9 34 AF ?_
       refine qs 10 35 AF ?_
       refine qf 11 36 rfl rfl AF (by intro w2' hSw;have x0:=AY hSw hgr x0;have x1:=AY hSw hgr x1;go_simp;(try with_reducible rfl)) ?_
       refine qs 12 37 AF ?_
       refine qs 13 38 AF ?_
       refine qs 14 39 AF ?_
       refine qs 15 40 AF ?_
       refine qs 16 41 AF ?_
       refine qf 17 42 rfl rfl AF (by intro w2' hSw;have q1:=AY hSw hbr q1;go_simp;(try with_reducible rfl)) ?_
       refine qo 18 fun K hK=>?_
       go_simp
       refine (zS.out _).mono ?_
       rintro e Ev ⟨rfl,CB⟩
       have AF:=AF.trans (CB.mono AF.size)
       clear CB
       refine hK.out _ _ (fun _=>AF) (fun _=>?_)
       clear hK K
       (try simp only [Act.put,qS,qZ,qU])
       refine qs 19 44 AF ?_
       refine qs 20 45 AF ?_
       refine qs 21 46 AF ?_
       refine qd ?_
       have wD:=qh (Ie.out.trans (AF.mono Ie.out.size))
       cases s2 with
       | true=>go_wp2_with fail;go_ret;exact ⟨by rw [HE.out];rfl,wD.out⟩
       | false=>go_wp2_with fail;go_ret;exact ⟨by rw [HE.out];rfl,wD.out⟩
    · have pX:n=0:=by omega
      subst pX
      have HE:Hid (Eh lo hi ks=0):=by show _=_;rw [YW.out,if_neg (fun h=>hn0 h.1)]
      clear hn0 YW
      go_wp2_with fail
      go_quiet (fail)
      go_wp2_with fail
      go_ret
      exact ⟨by rw [HE.out];rfl,AV Ie.out _⟩
end
section
open Go.RowKit
attribute [local go_sem] Oper.semAt_some
def Dq (n:Int) (w:Nat):Bool:=decide (0≤n) && (decide (w=8) || decide (n<256 ^ w))
theorem Pm (u:World) (n:Int) (w:Nat) (hw:Nk w):Calls Tryz.prog 122 #[.int .i64 n,.int .i64 w] u fun e w'=>e=.returned (.bool (Dq n w))∧w'=u:=by
 by_cases h0:n<0
 · have HF:Hid (Dq n w=false):=by show _=_;unfold Dq;rw [decide_eq_false (by omega)];rfl
   clear hw
   go_enter Tryz.func122,Tryz.ntmps122
   go_wp2
   go_ret
   exact ⟨by rw [HF.out];rfl,rfl⟩
 · rcases hw with rfl|rfl|rfl|rfl
   · have HF:Hid (Dq n 1=decide (n<256)):=by show _=_;unfold Dq;rw [decide_eq_true (by omega)];simp
     go_enter Tryz.func122,Tryz.ntmps122
     go_wp2
     go_ret
     exact ⟨by rw [HF.out];rfl,rfl⟩
   · have HF:Hid (Dq n 2=decide (n<65536)):=by show _=_;unfold Dq;rw [decide_eq_true (by omega)];simp
     go_enter Tryz.func122,Tryz.ntmps122
     go_wp2
     go_ret
     exact ⟨by rw [HF.out];rfl,rfl⟩
   · have HF:Hid (Dq n 4=decide (n<4294967296)):=by show _=_;unfold Dq;rw [decide_eq_true (by omega)];simp
     go_enter Tryz.func122,Tryz.ntmps122
     go_wp2
     go_ret
     exact ⟨by rw [HF.out];rfl,rfl⟩
   · have HF:Hid (Dq n 8=true):=by show _=_;unfold Dq;rw [decide_eq_true (by omega)];simp
     go_enter Tryz.func122,Tryz.ntmps122
     go_wp2
     go_ret
     exact ⟨by rw [HF.out];rfl,rfl⟩
theorem TM:∀ (w n k:Nat),k<w→nth 0 (leB w n) k=UInt8.ofNat (n / 256 ^ k % 256)
 | w+1,n,0,_=>by rw [leB,FZ,Nat.pow_zero,Nat.div_one]
 | w+1,n,k+1,h=>by rw [leB,Dl,TM w (n / 256) k (by omega),Nat.div_div_eq_div_mul,Nat.pow_succ,Nat.mul_comm 256]
theorem byte_at {n k:Nat} {x:Int} (h:x=((n / 256 ^ k % 256:Nat):Int)):Value.int .u8 x=.int .u8 ((UInt8.ofNat (n / 256 ^ k % 256)).toNat:Int):=by
 rw [h,UInt8.toNat_ofNat',Nat.mod_eq_of_lt (show n / 256 ^ k % 256<2 ^ 8 from Nat.mod_lt _ (by omega))]
theorem UY {u:World} {g w n:Nat} {cs:Array Value} {T:TypeId} (S:Nat→Prop) (hS:S g) (hg:u.heap[g]? = some (.cells cs T (0,0))) (h:∀ k,k<w→cs[k]? = some (.int .u8 ((n / 256 ^ k % 256:Nat):Int))) (hw:w≤8):AU u S (.slice (some ⟨g,0,none⟩) w 8) (leB w n):=by
 refine ⟨_,8,by rw [Br],by rw [Br];exact hw,fun _=>⟨g,0,rfl,hS,fun k hk=>⟨AX (nth 0 (leB w n) k),rfl,rfl,fun j v hj=>?_⟩⟩⟩
 rw [Br] at hk
 rcases j with _|j
 · simp [AX] at hj
   subst hj
   rw [cell_of_row u g _ cs T (0,0) hg,Nat.zero_add,Nat.mul_one,Nat.add_zero,h k hk,TM w n k hk,byte_at rfl]
 · simp [AX] at hj
def N8 (u:World) (l:List UInt8) (w:Nat) (e:Ending) (w':World):Prop:=∃ A c,e=.returned (.slice A w c)∧w'.ownsRow u.heap.size 5 1 (.slice A w c) w (AA AX l)
theorem II (u:World) (w n:Nat) (hw:w≤8) (cs:Array Value) (h:∀ k,k<w→cs[k]? = some (.int .u8 ((n / 256 ^ k % 256:Nat):Int))) :
 Calls Tryz.prog 141 #[.slice (some ⟨u.heap.size,0,none⟩) w 8] (u.alloc (.cells cs 252)) fun e w'=>N8 u (leB w n) w e w'∧Below u.heap.size u w':=by
 have hc:=FL (u.alloc (.cells cs 252)) (fun b=>b=u.heap.size) _ (leB w n) (fun b hb=>by subst hb;simp) (UY (fun b=>b=u.heap.size) rfl (heap_alloc_new u (.cells cs 252)) h hw) (by rw [Br];omega)
 rw [Br] at hc
 refine hc.mono ?_
 rintro e w' ⟨A,c,rfl,hown,hB⟩
 exact ⟨⟨A,c,rfl,hown.mono (by simp)⟩,((Below.refl u.heap.size u).alloc (Nat.le_refl _) _).trans (hB.mono (by simp))⟩
theorem NJ (u:World) (n w:Nat) (hn:n<9223372036854775808) (hw:Nk w):Calls Tryz.prog 123 #[.int .i64 n,.int .i64 w] u fun e w'=>N8 u (leB w n) w e w'∧Below u.heap.size u w':=by
 rcases hw with rfl|rfl|rfl|rfl
 · have HC:=qh (II u 1 n (by omega) #[.int .u8 ((n:Int) % 256),.int .u8 0,.int .u8 0,.int .u8 0,.int .u8 0,.int .u8 0,.int .u8 0,.int .u8 0] (fun k hk=>by
     obtain rfl:k=0:=by omega
     simp))
   go_enter Tryz.func123,Tryz.ntmps123
   go_wp2_with (go_at_call 141;refine HC.out.mono ?_;rintro e w' ⟨⟨A,c,rfl,hown⟩,hB⟩)
   go_ret
   exact ⟨⟨A,c,rfl,hown⟩,hB⟩
 · have HC:=qh (II u 2 n (by omega) #[.int .u8 ((n:Int) % 256),.int .u8 ((n:Int) / 256 % 256),.int .u8 0,.int .u8 0,.int .u8 0,.int .u8 0,.int .u8 0,.int .u8 0] (fun k hk=>by
     rcases (by omega:k=0∨k=1) with rfl|rfl <;> simp))
   go_enter Tryz.func123,Tryz.ntmps123
   go_wp2_with (go_at_call 141;refine HC.out.mono ?_;rintro e w' ⟨⟨A,c,rfl,hown⟩,hB⟩)
   go_ret
   exact ⟨⟨A,c,rfl,hown⟩,hB⟩
 · have HC:=qh (II u 4 n (by omega) #[.int .u8 ((n:Int) % 256),.int .u8 ((n:Int) / 256 % 256),.int .u8 ((n:Int) / 65536 % 256),.int .u8 ((n:Int) / 16777216 % 256),.int .u8 0,.int .u8 0,.int .u8 0,.int .u8 0] (fun k hk=>by
     rcases (by omega:k=0∨k=1∨k=2∨k=3) with rfl|rfl|rfl|rfl <;> simp))
   go_enter Tryz.func123,Tryz.ntmps123
   go_wp2_with (go_at_call 141;refine HC.out.mono ?_;rintro e w' ⟨⟨A,c,rfl,hown⟩,hB⟩)
   go_ret
   exact ⟨⟨A,c,rfl,hown⟩,hB⟩
 · have HC:=qh (II u 8 n (by omega) #[.int .u8 ((n:Int) % 256),.int .u8 ((n:Int) / 256 % 256),.int .u8 ((n:Int) / 65536 % 256),.int .u8 ((n:Int) / 16777216 % 256),.int .u8 ((n:Int) / 4294967296 % 256),.int .u8 ((n:Int) / 1099511627776 % 256),.int .u8 ((n:Int) / 281474976710656 % 256),.int .u8 ((n:Int) / 72057594037927936)] (fun k hk=>by
     have h7:n / 72057594037927936 % 256=n / 72057594037927936:=by omega
     rcases (by omega:k=0∨k=1∨k=2∨k=3∨k=4∨k=5∨k=6∨k=7) with rfl|rfl|rfl|rfl|rfl|rfl|rfl|rfl
     all_goals (first|(rw [show (256:Nat) ^ 7=72057594037927936 from rfl,h7];simp)|simp)))
   go_enter Tryz.func123,Tryz.ntmps123
   go_upto_region 6 with fail
   go_wp2_with fail
   refine wp_loop_rounds 5 ?_
   rw [rounds_succ]
   go_wp2
   rw [rounds_succ]
   go_wp2
   rw [rounds_succ]
   go_wp2
   rw [rounds_succ]
   go_wp2
   rw [rounds_succ]
   go_wp2_with (go_at_call 141;refine HC.out.mono ?_;rintro e w' ⟨⟨A,c,rfl,hown⟩,hB⟩)
   go_ret
   exact ⟨⟨A,c,rfl,hown⟩,hB⟩
end
section
open Go.RowKit
attribute [local go_sem] Oper.semAt_some
abbrev Pn (w:World) (S:Nat→Prop) (v:Value) (l:List (Nat × Int)):Prop:=Bp (Flat MS) 2 (0,0) w S v l
theorem N9 {w:World} {S:Nat→Prop} {A:Option Addr} {l:List (Nat × Int)} (h:Bw (Flat MS) 2 (0,0) w S A l) (hl:0<l.length) :
 ∃ b off,A=some ⟨b,off,none⟩∧S b∧∀ k,k<l.length→w.cell? ⟨b,off+k*2,none⟩=some (.int .i64 ((nth (0,0) l k).1:Nat))∧w.cell? ⟨b,off+k*2+1,none⟩=some (.int .i64 (nth (0,0) l k).2):=by
 obtain ⟨b,off,e,hb,hc⟩:=h hl
 refine ⟨b,off,e,hb,fun k hk=>?_⟩
 obtain ⟨cs,_,hr,h3⟩:=hc k hk
 obtain rfl:cs=_:=hr
 exact ⟨by simpa using h3 0 _ rfl,h3 1 _ rfl⟩
theorem WJ {f:Nat × Int} (h:EG f):Dq f.2 f.1=true:=by
 obtain ⟨_,h0,_,h1⟩:=h
 unfold Dq
 rw [decide_eq_true h0]
 rcases h1 with h1|h1
 · simp [h1]
 · simp [h1]
set_option maxRecDepth 100000 in
theorem Hl (w:World) (S:Nat→Prop) (v:Value) (fs:List (Nat × Int)) (hS:∀ b,S b→b<w.heap.size) (h:Pn w S v fs) (hok:∀ f∈fs,EG f) (hk:fs.length≤100000) :
 Calls Tryz.prog 81 #[v] w fun e w'=>(∃ A c,e=.returned (.tuple #[.slice A (Aj fs).length c,.int .i64 0])∧w'.ownsRow w.heap.size 5 1 (.slice A (Aj fs).length c) (Aj fs).length (AA AX (Aj fs)))∧Below w.heap.size w w':=by
 obtain ⟨A,c,rfl,hc,hr⟩:=h
 have wQ:(Aj fs).length≤8*fs.length:=by
  rw [Dg]
  have:∀ l:List (Nat × Int),(∀ f∈l,EG f)→Cb (l.map (·.1))≤8*l.length:=by
   intro l
   induction l with
   | nil=>intro _;simp [Cb]
   | cons f l ih =>
    intro hh
    have h1:=ih (fun x hx=>hh x (by simp [hx]))
    have h2:=(hh f (by simp)).1
    simp only [List.map_cons,Cb,List.length_cons]
    rcases h2 with h2|h2|h2|h2 <;> omega
  exact this fs hok
 have Ow:=qh wQ
 have HC:Hid (∀ w',Below w.heap.size w w'→∀ k,k<fs.length→∃ b off,A=some ⟨b,off,none⟩∧b<w.heap.size∧w'.cell? ⟨b,off+k*2,none⟩=some (.int .i64 ((nth (0,0) fs k).1:Nat))∧w'.cell? ⟨b,off+k*2+1,none⟩=some (.int .i64 (nth (0,0) fs k).2)):=fun w' hB k hk=>by
  obtain ⟨b,off,e,hb,h1⟩:=N9 hr (by omega)
  obtain ⟨a1,a2⟩:=h1 k hk
  exact ⟨b,off,e,hS b hb,(hB.cell (p:=⟨b,off+k*2,none⟩) (hS b hb)).trans a1,(hB.cell (p:=⟨b,off+k*2+1,none⟩) (hS b hb)).trans a2⟩
 have X0:=qh (fun k (hk:k<fs.length)=>hok _ (Ci (0,0) fs k hk))
 have iA:=qh (fun k (hk:k<fs.length)=>Qx fs k hk)
 have IJ:=qh (fun k=>MR fs k)
 have WK:Hid (∀ k,¬ k<fs.length→fs.take k=fs):=fun k hk=>List.take_of_length_le (by omega)
 clear hr hok wQ
 generalize hn:fs.length=n at *
 clear hn
 go_enter Tryz.func81,Tryz.ntmps81
 go_wp2_with fail
 go_loopw [4,9] (fun vo vi wr=>∃ (k:Nat) (Ao:Option Addr) (co:Nat),vi=.int .i64 k∧vo=.slice Ao (Aj (fs.take k)).length co∧k≤n∧Hid (wr.ownsRow w.heap.size 5 1 (.slice Ao (Aj (fs.take k)).length co) (Aj (fs.take k)).length (AA AX (Aj (fs.take k))))∧Hid (Below w.heap.size w wr)) (fun _ vi _=>n-(intOf vi).toNat)
 case atStart=>exact ⟨0,none,0,rfl,rfl,by omega,World.ownsRow_nil w w.heap.size 5 1,Below.refl _ _⟩
 case round =>
  obtain ⟨k,Ao,co,rfl,rfl,hk0,HR,HB⟩:=hrel
  by_cases hlt:k<n
  · obtain ⟨b,off,rfl,hbw,q0,q1⟩:=HC.out wr HB.out k hlt
    have hf:=X0.out k hlt
    have hpt:=iA.out k hlt
    have hle:=IJ.out (k+1)
    have hpl:=Ow.out
    have hz:=HB.out.size
    have hbr:b<wr.heap.size:=by omega
    have qM:=WJ hf
    obtain ⟨hW,hn0,hn1,_⟩:=hf
    obtain ⟨m,hm⟩:∃ m:Nat,(nth (0,0) fs k).2=m:=⟨(nth (0,0) fs k).2.toNat,by omega⟩
    rw [hm] at q1 qM hn1 hpt
    rw [Int.toNat_natCast] at hpt
    generalize (nth (0,0) fs k).1=x at *
    have iB:x≤8∧0<x:=by rcases hW with h|h|h|h <;> omega
    have HK:=qh (fun w'=>M8 w' x hW)
    have HF:=qh (fun w'=>Pm w' m x hW)
    rw [qM] at HF
    have X5:=qh (fun w'=>NJ w' m x (by omega) hW)
    have jQ:=qh hpt
    have qN:(Aj (fs.take k)).length+x≤8*n:=by rw [hpt,List.length_append,Br] at hle;omega
    have Po:=qh (Br x m)
    obtain ⟨L,hL⟩:∃ L,(Aj (fs.take k)).length=L:=⟨_,rfl⟩
    rw [hL] at qN HR ⊢
    have wR:=qh hL
    clear hpt hle hm hL hW hn0 hn1 qM
    have h2:=heap_alloc_new wr (.cells #[.int .i64 (x:Int),.int .i64 (m:Int)] 168)
    have y0:(wr.alloc (.cells #[.int .i64 (x:Int),.int .i64 (m:Int)] 168)).cell? ⟨wr.heap.size,0,none⟩=some (.int .i64 (x:Int)):=(cell_of_row _ _ 0 _ _ (0,0) h2).trans rfl
    have y1:(wr.alloc (.cells #[.int .i64 (x:Int),.int .i64 (m:Int)] 168)).cell? ⟨wr.heap.size,1,none⟩=some (.int .i64 (m:Int)):=(cell_of_row _ _ 1 _ _ (0,0) h2).trans rfl
    go_upto_region 5 with fail
    have hB2:=HB.out.alloc hz (.cells #[.int .i64 (x:Int),.int .i64 (m:Int)] 168)
    have hr2:=HR.out.alloc (.cells #[.int .i64 (x:Int),.int .i64 (m:Int)] 168)
    clear h2
    generalize wr.alloc (.cells #[.int .i64 (x:Int),.int .i64 (m:Int)] 168)=w2 at *
    generalize wr.heap.size=g2 at *
    have HB2:=qh hB2
    have HR2:=qh hr2
    clear hB2 hr2 HB HR q0 q1
    go_wp2_with (first
     | (go_at_call 121;refine (HK.out _).mono ?_;rintro e w2 ⟨rfl,rfl⟩)
     | (go_at_call 122;refine (HF.out _).mono ?_;rintro e w2 ⟨rfl,rfl⟩)
     | (go_at_call 123;refine (X5.out _).mono ?_;rintro e w3 ⟨⟨A3,c3,rfl,hown3⟩,hB3⟩;obtain ⟨g3,rfl,hg3,hc3,hsrc⟩:=BS hown3 iB.2;have Hm:=qh hsrc;have PZ:=qh (own_below HR2.out hB3 (Nat.le_refl _));have hz3:w.heap.size≤w3.heap.size:=Nat.le_trans HB2.out.size hB3.size;have HB3:=qh (HB2.out.trans (hB3.mono HB2.out.size));clear hown3 hsrc hB3)
     | (at_builtin;go_loud (refine Bl Tryz.underlying82 JL rfl (by omega) (by omega) rfl _ _ rfl w.heap.size (.slice Ao L co) L _ rfl PZ.out ⟨g3,0,none⟩ x c3 (AA AX (leB x m)) rfl (by rw [Ad,Po.out];omega) Hm.out (Cy _) (by omega) hz3 ?_);intro A6 cap6 w6 hown6 N7;have OA:=qh hown6;have iC:=qh N7;clear hown6 N7))
    go_roundw
    case rel =>
     have hlen:(Aj (fs.take (k+1))).length=L+x:=by rw [jQ.out,List.length_append,wR.out,Po.out]
     refine ⟨k+1,A6,cap6,by go_num,by rw [hlen],by omega,?_,HB3.out.grown iC.out hz3 (fun i hi=>(PZ.out.lt i hi).1)⟩
     show World.ownsRow _ _ _ _ _ _ _
     rw [hlen,jQ.out,BK]
     exact OA.out
    case measure=>simp [intOf];omega
  · have hfull:=WK.out k hlt
    rw [hfull] at HR ⊢
    go_wp2_with fail
    go_ret2
    exact ⟨⟨_,_,rfl,HR.out⟩,HB.out⟩
end
end Go.Proofs.YthblbddmcdnllaaGreatDoor
