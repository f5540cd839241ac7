/- Part 6 of the proof: WUnp, WNode1, WRCrc, WContI, WPool1, WRefs, WCloneI, WPool2, WCount. -/
import Derived.Test.YtpenklpdjpkigaaGreatY5
import Derived.Test.YtpenklpdjpkigaaGreatY4
import Derived.Test.YtpenklpdjpkigaaGreatProg
import Derived.Test.YtpenklpdjpkigaaGreatY2
import Derived.Lib.Hide
import Derived.Deep.QuietTactic
import Derived.BigQuiet
import Derived.Outline
import Derived.Laws.BitsAllLaws
import Derived.Test.YtpenklpdjpkigaaGreatY1
set_option maxHeartbeats 6400000
set_option linter.unusedVariables false
set_option linter.unusedSimpArgs false
namespace Go.Proofs.YtpenklpdjpkigaaGreat
section
open Go.RowKit
attribute [local go_sem] Oper.semAt_some
def Hm (ws:List Nat):List Int:=ws.map Int.ofNat
theorem GI (ws:List Nat):(Hm ws).length=ws.length:=by unfold Hm;rw [List.length_map]
theorem RS (ws:List Nat) (k:Nat) (h:k<ws.length):nth 0 (Hm ws) k=((nth 0 ws k:Nat):Int):=by
 rw [Ac 0 _ k (by rw [GI];exact h),Ac 0 ws k h];simp [Hm]
theorem ek {ws:List Nat} (h:∀ x∈ws,Lh x) {k:Nat} (hk:k<ws.length):Lh (nth 0 ws k):=h _ (Bv 0 ws k hk)
def Iy (w:World) (l:List UInt8) (ws:List Nat) (e:Ending) (w':World):Prop :=
 if FR l 0 ws=true then e=.returned (.tuple #[.slice none 0 0,.int .i64 2]) else ∃ v,e=.returned (.tuple #[v,.int .i64 0])∧Aa w' (C9 w.heap.size w'.heap.size) v (EA l 0 ws)
set_option maxRecDepth 100000 in
theorem O7 (w:World) (S:Nat→Prop) (v vw:Value) (l:List UInt8) (ws:List Nat) (hS:∀ b,S b→b<w.heap.size) (h:AX w S v l) (hw:Aa w S vw (Hm ws)) (hW:∀ x∈ws,Lh x) (ha:Ct ws≤l.length) (hl:l.length≤140737488355328) (hk:ws.length≤1000000) :
 Calls Tryz.prog 143 #[v,vw] w fun e w'=>Iy w l ws e w'∧Below w.heap.size w w':=by
 have HG:=qh (fun w' (hB:Below w.heap.size w w') (a n:Nat) (hn:Lh n) (ha:a+n≤l.length)=>OH w' S v l a n (fun b hb=>Nat.lt_of_lt_of_le (hS b hb) hB.size) (h.keep (AA _) (fun _ h=>h) (AL hB hS)) hn ha hl)
 obtain ⟨A,c,rfl,hc,hr⟩:=h
 obtain ⟨Aw,cw,rfl,hcw,hrw⟩:=hw
 rw [GI] at hcw ⊢
 have HRW:Hid (∀ w',Below w.heap.size w w'→∀ k,k<ws.length→∃ b off,Aw=some ⟨b,off,none⟩∧w'.cell? ⟨b,off+k,none⟩=some (.int .i64 (nth 0 ws k:Nat))):=fun w' hB k hk=>by
  obtain ⟨b,off,e,hb,h1⟩:=BR hrw (by rw [GI];omega)
  refine ⟨b,off,e,(hB.cell (p:=⟨b,off+k,none⟩) (hS b hb)).trans ?_⟩
  rw [h1 k (by rw [GI];exact hk),RS ws k hk]
 have HIS:Hid (∀ e w',(if FR l 0 ws=true then e=.returned (.tuple #[.slice none 0 0,.int .i64 2]) else ∃ v,e=.returned (.tuple #[v,.int .i64 0])∧Aa w' (C9 w.heap.size w'.heap.size) v (EA l 0 ws))→Iy w l ws e w'):=fun e w' h=>h
 have HWL:Hid (∀ k,k<ws.length→Lh (nth 0 ws k)∧Ct (ws.take k)+nth 0 ws k≤l.length∧nth 0 ws k≤8):=fun k hk=>by
  have h1:=F8 ws k hk
  have h2:=Gt ws (k+1)
  have h3:=ek hW hk
  exact ⟨h3,by omega,by rcases h3 with h|h|h|h <;> omega⟩
 generalize hn:ws.length=n at *
 have HN:=qh hn
 clear hrw hr hW hn
 go_enter Tryz.func143,Tryz.ntmps143
 go_wp2_with fail
 go_loopw [6,7,14] (fun vo va vi wr=>∃ (k a:Nat),vi=.int .i64 k∧va=.int .i64 a∧k≤n∧Hid (a=Ct (ws.take k)∧FR l 0 (ws.take k)=false)∧wr.ownsRow w.heap.size 3 1 vo k (AB encI (EA l 0 (ws.take k)))∧Below w.heap.size w wr) (fun _ _ vi _=>n-(intOf vi).toNat)
 case atStart=>exact ⟨0,0,rfl,rfl,by omega,⟨rfl,rfl⟩,by simpa [EA,AB] using World.ownsRow_nil w w.heap.size 3 1,Below.refl _ _⟩
 case round =>
  obtain ⟨k,a,rfl,rfl,hk0,HA,hrow,hB⟩:=hrel
  have hz:=hB.size
  obtain ⟨Ao,co,rfl,hco⟩:=DJ hrow
  by_cases hlt:k<n
  · obtain ⟨hW1,hs1,h8⟩:=HWL.out k hlt
    obtain ⟨b,off,rfl,q⟩:=HRW.out wr hB k hlt
    have HA1:=HA.out.1
    have hg:=HG.out wr hB (Ct (ws.take k)) (nth 0 ws k) hW1 hs1
    have hst:=Q9 l ws k (by rw [HN.out];exact hlt)
    have hbt:=Mj l ws k (by rw [HN.out];exact hlt)
    have hsw:=F8 ws k (by rw [HN.out];exact hlt)
    have QW:=YB (l:=l) (ws:=ws) (k:=k) (by rw [HN.out];exact hlt)
    rw [HA.out.2,Bool.false_or] at hbt
    rw [← HA1] at hg hst hbt hsw hs1 QW
    by_cases hbig:9223372036854775808≤AC l a (nth 0 ws k)
    · rw [if_pos hbig] at hg
      have OI:=qh hg
      have HF:=qh (QW hbig)
      clear hg hst hbt hsw hbig HA1 QW
      generalize nth 0 ws k=x at *
      go_wp2_with (go_at_call 96;refine OI.out.mono ?_;rintro e w3 ⟨rfl,rfl⟩)
      go_ret2
      exact ⟨HIS.out _ _ (by rw [if_pos HF.out];rfl),hB⟩
    · rw [if_neg hbig] at hg
      rw [decide_eq_false hbig] at hbt
      have sS:AC l a (nth 0 ws k)<9223372036854775808:=by omega
      have OI:=qh hg
      have HBT:=qh hbt
      have yf:=qh hsw
      have HST:=qh hst
      clear hg hst hbt hsw hbig HA1 QW
      generalize nth 0 ws k=x at *
      obtain ⟨y,hy⟩:∃ y,AC l a x=y:=⟨_,rfl⟩
      rw [hy] at OI HST sS
      clear hy
      go_wp2_with (first
       | (go_at_call 96;refine OI.out.mono ?_;rintro e w3 ⟨rfl,rfl⟩)
       | (at_builtin;go_loud (refine Cw Ir rfl _ _ rfl w.heap.size (.slice Ao k co) k (EA l 0 (ws.take k)) (y:Int) rfl hrow rfl (by omega) hz ?_);intro A6 cap6 w6 hown hg))
      go_roundw
      case rel=>exact ⟨k+1,a+x,by go_num,by go_num,by omega,⟨yf.out.symm,HBT.out⟩,by rw [HST.out];exact hown,hB.grown hg hz (fun i hi=>(hrow.lt i hi).1)⟩
      case measure=>simp [intOf];omega
  · have hkn:k=n:=by omega
    have HF:Hid (FR l 0 ws=false∧ws.take k=ws):=by
     have e:ws.take k=ws:=List.take_of_length_le (by rw [HN.out];omega)
     refine ⟨?_,e⟩
     have:=HA.out.2
     rwa [e] at this
    clear hkn
    go_wp2_with fail
    go_ret2
    refine ⟨HIS.out _ _ ?_,hB⟩
    rw [if_neg (by rw [HF.out.1];simp)]
    refine ⟨_,rfl,?_⟩
    rw [HF.out.2] at hrow
    exact CF.own (enc:=encI) (d:=(0:Int)) Bh hrow (by omega)
end
section
open Go.RowKit
attribute [local go_sem] Oper.semAt_some
theorem O8 {t:Int} (h1:¬ t<1) (h2:¬ 5<t):t=1∨t=2∨t=3∨t=4∨t=5:=by omega
theorem FF {t:Int} {leaf:Bool} (h:t<1∨5<t):BF t leaf=0:=by unfold BF;rw [if_pos h]
theorem RU {t:Int} {leaf:Bool} (h:t<1∨5<t):BZ t leaf=0:=by unfold BZ;rw [if_pos (FF h)]
theorem Fb (t:Int) (leaf:Bool):(BF t leaf=0∧BZ t leaf=0)∨(BF t leaf=4∧BZ t leaf=18)∨(BF t leaf=8∧BZ t leaf=12)∨(BF t leaf=24∧BZ t leaf=6)∨(BF t leaf=16∧BZ t leaf=9):=by
 by_cases h1:t<1
 · exact .inl ⟨FF (.inl h1),RU (.inl h1)⟩
 · by_cases h2:5<t
   · exact .inl ⟨FF (.inr h2),RU (.inr h2)⟩
   · rcases O8 h1 h2 with rfl|rfl|rfl|rfl|rfl <;> cases leaf <;> decide
theorem GJ (w:World) (t:Int) (leaf:Bool):Calls Tryz.prog 196 #[.int .i64 t,.bool leaf] w fun e w'=>e=.returned (.int .i64 (BF t leaf:Nat))∧w'=w:=by
 by_cases h1:t<1
 · have HW:=qh (FF (leaf:=leaf) (.inl h1))
   go_enter Tryz.func196,Tryz.ntmps196
   go_wp2
   go_ret
   exact ⟨by rw [HW.out];rfl,rfl⟩
 · by_cases h2:5<t
   · have HW:=qh (FF (leaf:=leaf) (.inr h2))
     go_enter Tryz.func196,Tryz.ntmps196
     go_wp2
     go_ret
     exact ⟨by rw [HW.out];rfl,rfl⟩
   · rcases O8 h1 h2 with rfl|rfl|rfl|rfl|rfl <;> cases leaf <;>
     (clear h1 h2
      go_enter Tryz.func196,Tryz.ntmps196
      go_wp2
      go_ret
      exact ⟨rfl,rfl⟩)
theorem Ho (w:World) (t:Int) (leaf:Bool):Calls Tryz.prog 197 #[.int .i64 t,.bool leaf] w fun e w'=>e=.returned (.int .i64 (BZ t leaf:Nat))∧w'=w:=by
 have HW:=qh (GJ w t leaf)
 have hc:=Fb t leaf
 generalize BF t leaf=x at *
 generalize BZ t leaf=y at *
 rcases hc with ⟨rfl,rfl⟩|⟨rfl,rfl⟩|⟨rfl,rfl⟩|⟨rfl,rfl⟩|⟨rfl,rfl⟩ <;>
 (go_enter Tryz.func197,Tryz.ntmps197
  go_wp2_with (go_at_call 196;refine HW.out.mono ?_;rintro e w3 ⟨rfl,rfl⟩)
  go_ret
  exact ⟨rfl,rfl⟩)
theorem Jz (w:World) (t:Int) (leaf:Bool):Calls Tryz.prog 242 #[.int .i64 t,.bool leaf] w fun e w'=>e=.returned (.int .i64 (BF t leaf:Nat))∧Below w.heap.size w w':=by
 have hB:∀ o,Below w.heap.size w (w.alloc o):=fun o=>(Below.refl _ _).alloc (Nat.le_refl _) _
 have HB:=qh hB
 clear hB
 by_cases h1:t<1
 · have HW:=qh (FF (leaf:=leaf) (.inl h1))
   go_enter Tryz.func242,Tryz.ntmps242
   go_wp2
   go_ret
   exact ⟨by rw [HW.out];rfl,HB.out _⟩
 · by_cases h2:5<t
   · have HW:=qh (FF (leaf:=leaf) (.inr h2))
     go_enter Tryz.func242,Tryz.ntmps242
     go_wp2
     go_ret
     exact ⟨by rw [HW.out];rfl,HB.out _⟩
   · rcases O8 h1 h2 with rfl|rfl|rfl|rfl|rfl <;> cases leaf <;>
     (clear h1 h2
      go_enter Tryz.func242,Tryz.ntmps242
      go_wp2
      go_ret
      exact ⟨rfl,HB.out _⟩)
theorem RV (w:World) (t:Int) (leaf:Bool):Calls Tryz.prog 243 #[.int .i64 t,.bool leaf] w fun e w'=>e=.returned (.int .i64 (BZ t leaf:Nat))∧Below w.heap.size w w':=by
 have HW:=qh (Jz w t leaf)
 have hc:=Fb t leaf
 generalize BF t leaf=x at *
 generalize BZ t leaf=y at *
 rcases hc with ⟨rfl,rfl⟩|⟨rfl,rfl⟩|⟨rfl,rfl⟩|⟨rfl,rfl⟩|⟨rfl,rfl⟩ <;>
 (go_enter Tryz.func243,Tryz.ntmps243
  go_wp2_with (go_at_call 242;refine HW.out.mono ?_;rintro e w3 ⟨rfl,hB3⟩)
  go_ret
  exact ⟨rfl,hB3⟩)
end
section
open Go.RowKit
attribute [local go_sem] Oper.semAt_some
theorem FP (a b:Nat) (ha:a<9223372036854775808) (hb:b<9223372036854775808):bits .xor .i64 (a:Int) (b:Int)=((a ^^^ b:Nat):Int):=by
 have hx:a ^^^ b<2 ^ 63:=Nat.xor_lt_two_pow (by omega) (by omega)
 show IntKind.i64.wrap ((BitVec.ofInt 64 (a:Int) ^^^ BitVec.ofInt 64 (b:Int)).toNat:Int)=_
 rw [BitVec.toNat_xor,ofInt_u64 a (by omega),ofInt_u64 b (by omega),IntKind.wrap_i64]
 omega
set_option maxRecDepth 100000 in
theorem ZV (w:World) (r:Nat) (hr:r<4294967296):Calls Tryz.prog 230 #[.int .i64 r] w fun e w'=>e=.returned (.int .i64 (Hy 8 r:Nat))∧w'=w:=by
 go_enter Tryz.func230,Tryz.ntmps230
 go_wp2_with fail
 go_loopw [0,3] (fun vr vi wr=>∃ (k q:Nat),vi=.int .i64 k∧vr=.int .i64 q∧k≤8∧q<4294967296∧Hid (Hy (8-k) q=Hy 8 r)∧wr=w) (fun _ vi _=>8-(intOf vi).toNat)
 case atStart=>exact ⟨0,r,rfl,rfl,by omega,hr,rfl,rfl⟩
 case round =>
  obtain ⟨k,q,rfl,rfl,hk,hq,HS,rfl⟩:=hrel
  by_cases sU:k<8
  · have hkz:(k:Int)<8:=by omega
    have hst:8-k=(8-(k+1))+1:=by omega
    have lS:((q:Int) / 2)=((q / 2:Nat):Int):=by omega
    have HX:bits .xor .i64 ((q:Int) / 2) 2197175160=(((q / 2) ^^^ Hf:Nat):Int):=by rw [lS];exact FP (q / 2) Hf (by omega) (by unfold Hf;omega)
    have O9:=qh (V8 hq)
    by_cases ho:q % 2=1
    · have hz:(q:Int) % 2=1:=by omega
      have HB:Hid (Qb q=(q / 2) ^^^ Hf):=by show _=_;unfold Qb;rw [if_pos ho]
      have Ke:=qh hst
      clear hst lS ho
      go_wp2_with fail
      go_roundw
      case rel=>exact ⟨k+1,(q / 2) ^^^ Hf,by go_num,rfl,by omega,by rw [← HB.out];exact O9.out,by show _=_;rw [← HS.out,Ke.out,Hy,HB.out],trivial⟩
      case measure=>simp [intOf];omega
    · have hz:¬ (q:Int) % 2=1:=by omega
      have HB:Hid (Qb q=q / 2):=by show _=_;unfold Qb;rw [if_neg ho]
      have Ke:=qh hst
      have HQD:=qh lS
      clear hst lS ho HX
      go_wp2_with fail
      go_roundw
      case rel=>exact ⟨k+1,q / 2,by go_num,by rw [← HQD.out],by omega,by rw [← HB.out];exact O9.out,by show _=_;rw [← HS.out,Ke.out,Hy,HB.out],trivial⟩
      case measure=>simp [intOf];omega
  · obtain rfl:k=8:=by omega
    have HE:Hid (q=Hy 8 r):=HS.out
    go_wp2_with fail
    go_ret
    exact ⟨by rw [← HE.out];rfl,rfl⟩
theorem Ud {q x k:Nat} {l:List UInt8} (h:IU q (l.drop k)=IU x l) (hk:l.length≤k):q=IU x l:=by
 rw [← h,List.drop_of_length_le hk]
 rfl
set_option maxRecDepth 100000 in
theorem ZW (w:World) (S:Nat→Prop) (v:Value) (s:Nat) (l:List UInt8) (hS:∀ b,S b→b<w.heap.size) (h:AX w S v l) (hs:s<4294967296) (hn:l.length≤140737488355328) :
 Calls Tryz.prog 209 #[.int .i64 s,v] w fun e w'=>e=.returned (.int .i64 ((IU (s ^^^ 4294967295) l ^^^ 4294967295:Nat)))∧w'=w:=by
 obtain ⟨A,c,rfl,hc,hr⟩:=h
 have HC:=qh (fun hp=>BU hr hp)
 have hx0:bits .xor .i64 (s:Int) 4294967295=((s ^^^ 4294967295:Nat):Int):=FP s 4294967295 (by omega) (by omega)
 have h0:s ^^^ 4294967295<4294967296:=Nat.xor_lt_two_pow (n:=32) (by omega) (by omega)
 have hsz:¬ (s:Int)<0:=by omega
 have hsd:decide ((4294967295:Int)<(s:Int))=false:=decide_eq_false (by omega)
 clear hr
 generalize hnn:l.length=n at *
 have HN:=qh hnn
 clear hnn
 obtain ⟨x,hx⟩:∃ x,s ^^^ 4294967295=x:=⟨_,rfl⟩
 rw [hx] at hx0 h0 ⊢
 clear hx
 go_enter Tryz.func209,Tryz.ntmps209
 go_wp2_with fail
 go_loopw [5,6] (fun vr vi wr=>∃ (k q:Nat),vi=.int .i64 k∧vr=.int .i64 q∧k≤n∧q<4294967296∧Hid (IU q (l.drop k)=IU x l)∧wr=w) (fun _ vi _=>n-(intOf vi).toNat)
 case atStart=>exact ⟨0,x,rfl,rfl,by omega,h0,rfl,rfl⟩
 case round =>
  obtain ⟨k,q,rfl,rfl,hk,hq,HS,rfl⟩:=hrel
  clear hx0 hsd
  by_cases hlt:k<n
  · obtain ⟨b,off,rfl,hb,hcl⟩:=HC.out (by omega)
    have c0:=hcl k hlt
    have HD:Hid (l.drop k=nth 0 l k :: l.drop (k+1)):=by
     show _=_
     rw [Ac 0 l k (by rw [HN.out];exact hlt)]
     exact List.drop_eq_getElem_cons _
    clear hcl
    generalize nth 0 l k=u at *
    have hu:=u.toNat_lt
    have hqu:q ^^^ u.toNat<4294967296:=Nat.xor_lt_two_pow (n:=32) (by omega) (by omega)
    have hst:∀ w',Calls Tryz.prog 230 #[.int .i64 (q ^^^ u.toNat:Nat)] w' fun e w''=>e=.returned (.int .i64 (xL (q ^^^ u.toNat):Nat))∧w''=w':=fun w'=>ZV w' (q ^^^ u.toNat) hqu
    have hyl:=sJ hqu
    have hnx:=(RB q u (l.drop (k+1))).symm.trans ((congrArg (IU q) HD.out.symm).trans HS.out)
    generalize xL (q ^^^ u.toNat)=y at *
    have Lp:=qh hnx
    have HST:=qh hst
    clear hst hnx
    have hxu:bits .xor .i64 (q:Int) (u.toNat:Int)=((q ^^^ u.toNat:Nat):Int):=FP q u.toNat (by omega) (by omega)
    clear hqu
    go_wp2_with (go_at_call 230;refine (HST.out _).mono ?_;rintro e w3 ⟨rfl,rfl⟩)
    go_roundw
    case rel=>exact ⟨k+1,y,by clear hxu;go_num,rfl,by clear hxu;omega,hyl,Lp,trivial⟩
    case measure=>(clear hxu;simp [intOf];omega)
  · obtain rfl:k=n:=by omega
    have HE:Hid (q=IU x l):=Ud HS.out (by rw [HN.out];exact Nat.le_refl _)
    have hxe:bits .xor .i64 (q:Int) 4294967295=((q ^^^ 4294967295:Nat):Int):=FP q 4294967295 (by omega) (by omega)
    go_wp2_with fail
    go_ret
    exact ⟨by rw [← HE.out];rfl,rfl⟩
theorem eu (w:World) (S:Nat→Prop) (v:Value) (l:List UInt8) (hS:∀ b,S b→b<w.heap.size) (h:AX w S v l) (hn:l.length≤140737488355328) :
 Calls Tryz.prog 166 #[v] w fun e w'=>e=.returned (.int .i64 (F9 l:Nat))∧w'=w:=by
 have hm:=ZW w S v 0 l hS h (by omega) hn
 rw [Nat.zero_xor] at hm
 have HM:Hid (Calls Tryz.prog 209 #[.int .i64 0,v] w fun e w'=>e=.returned (.int .i64 (F9 l:Nat))∧w'=w):=hm
 clear hm
 obtain ⟨A,c,rfl,hc,hr⟩:=h
 clear hr
 go_enter Tryz.func166,Tryz.ntmps166
 go_wp2_with (go_at_call 209;refine HM.out.mono ?_;rintro e w3 ⟨rfl,rfl⟩)
 go_ret
 exact ⟨rfl,rfl⟩
end
section
open Go.RowKit
attribute [local go_sem] Oper.semAt_some
theorem WM (l:List Int) (x:Int) (h:x∈l):∃ k,k<l.length∧nth 0 l k=x:=by
 obtain ⟨k,hk,e⟩:=List.getElem_of_mem h
 exact ⟨k,hk,by rw [Ac 0 l k hk];exact e⟩
theorem WN (w:World) (S:Nat→Prop) (vk:Value) (ks:List Int) (x:Int) (hS:∀ b,S b→b<w.heap.size) (h:Aa w S vk ks) (hl:ks.length≤1000000) :
 Calls Tryz.prog 245 #[vk,.int .i64 x] w fun e w'=>∃ r:Int,e=.returned (.int .i64 r)∧(0≤r↔x∈ks)∧Below w.heap.size w w':=by
 obtain ⟨A,c,rfl,hc,hr⟩:=h
 have HC:Hid (0<ks.length→∃ b off,A=some ⟨b,off,none⟩∧b<w.heap.size∧∀ w',Below w.heap.size w w'→∀ k,k<ks.length→w'.cell? ⟨b,off+k,none⟩=some (.int .i64 (nth 0 ks k))):=fun hp=>by
  obtain ⟨b,off,e,hb,h1⟩:=BR hr hp
  exact ⟨b,off,e,hS b hb,fun w' hB k hk=>(hB.cell (p:=⟨b,off+k,none⟩) (hS b hb)).trans (h1 k hk)⟩
 have J2:=qh (fun k (hk:k<ks.length) (e:x=nth 0 ks k)=>show x∈ks from e ▸ Bv 0 ks k hk)
 have Np:=qh (fun (h:∀ k,k<ks.length→nth 0 ks k≠x)=>show ¬ x∈ks from fun hm=>by obtain ⟨k,hk,e⟩:=WM ks x hm;exact h k hk e)
 clear hr
 generalize hn:ks.length=n at *
 clear hn
 have hwr:Below w.heap.size w w:=Below.refl _ _
 go_enter Tryz.func245,Tryz.ntmps245
 go_wp2_with fail
 go_loopw [8] (fun vi wr=>∃ i:Nat,vi=.int .i64 i∧i≤n∧Hid (∀ k,k<i→nth 0 ks k≠x)∧Hid (Below w.heap.size w wr)) (fun vi _=>n-(intOf vi).toNat)
 case atStart=>exact ⟨0,rfl,by omega,(fun k hk=>by omega),Below.refl _ _⟩
 case round =>
 obtain ⟨i,rfl,hi,HR,HB⟩:=hrel
 by_cases hlt:i<n
 · obtain ⟨b,off,rfl,hb,hq⟩:=HC.out (by omega)
   have q0:=hq wr HB.out i hlt
   have hin:=J2.out i hlt
   have xP:Hid (nth 0 ks i≠x→∀ k,k<i+1→nth 0 ks k≠x):=fun h k hk=>by
    by_cases hki:k<i
    · exact HR.out k hki
    · obtain rfl:k=i:=by omega
      exact h
   have hil:(i:Int)<(n:Int):=by omega
   generalize nth 0 ks i=p at *
   have HI:=qh hin
   clear hq hin hi
   by_cases hpx:x=p
   · have hd:(x==p)=true:=beq_iff_eq.2 hpx
     have HM:=qh (HI.out hpx)
     clear hpx
     go_wp2
     go_ret
     exact ⟨_,rfl,⟨fun _=>HM.out,fun _=>by omega⟩,HB.out⟩
   · have hd:(x==p)=false:=by simpa using hpx
     have HR2:=qh (xP.out (fun e=>hpx e.symm))
     clear hpx
     go_wp2_with fail
     go_roundw
     case rel=>exact ⟨i+1,by go_num,by omega,HR2,HB⟩
     case measure=>simp [intOf];omega
 · obtain rfl:i=n:=by omega
   have HN:=qh (Np.out (fun k hk=>HR.out k hk))
   go_wp2
   go_ret
   exact ⟨_,rfl,⟨fun h=>by omega,fun h=>(HN.out h).elim⟩,HB.out⟩
theorem Qg (w:World) (S:Nat→Prop) (vk:Value) (ks:List Int) (x:Int) (hS:∀ b,S b→b<w.heap.size) (h:Aa w S vk ks) (hl:ks.length≤1000000) :
 Calls Tryz.prog 237 #[vk,.int .i64 x] w fun e w'=>e=.returned (.bool (decide (x∈ks)))∧Below w.heap.size w w':=by
 have HI:=qh (WN w S vk ks x hS h hl)
 go_enter Tryz.func237,Tryz.ntmps237
 go_wp2_with (go_at_call 245;refine HI.out.mono ?_;rintro e w2 ⟨r,rfl,hr,hB2⟩)
 go_ret
 exact ⟨rfl,hB2⟩
end
section
open Go.RowKit
theorem Fe (w:World) (n lo hi:Int):Calls Tryz.prog 67 #[.int .i64 n,.int .i64 lo,.int .i64 hi] w fun e w'=>e=.returned (.bool (Gz n lo hi))∧w=w':=by
 by_cases h1:lo≤n
 · by_cases h2:n≤hi
   · rw [lD ⟨h1,h2⟩]
     go_enter Tryz.func67,Tryz.ntmps67
     go_wp2
     go_ret
     exact ⟨rfl,rfl⟩
   · rw [dh (fun h=>h2 h.2)]
     go_enter Tryz.func67,Tryz.ntmps67
     go_wp2
     go_ret
     exact ⟨rfl,rfl⟩
 · rw [dh (fun h=>h1 h.1)]
   go_enter Tryz.func67,Tryz.ntmps67
   go_wp2
   go_ret
   exact ⟨rfl,rfl⟩
theorem Ue (w:World) (t:Int):Calls Tryz.prog 108 #[.int .i64 t] w fun e w'=>e=.returned (.bool (!Gz t 0 16777215))∧w=w':=by
 go_enter Tryz.func108,Tryz.ntmps108
 go_wp2_with (go_at_call 67;refine (Fe _ _ _ _).mono ?_;rintro e w' ⟨rfl,rfl⟩)
 go_ret
 exact ⟨rfl,rfl⟩
theorem fA (w:World) (S:Nat→Prop) (v:Value) (l:List Int) (hn:l.length≤140737488355328) (h:Aa w S v l) :
 Calls Tryz.prog 172 #[v,.func (.func 108) #[] #[]] w fun e w'=>∃ i:Int,e=.returned (.int .i64 i)∧decide (0≤i) = !(l.all fun t=>Gz t 0 16777215)∧w=w':=by
 obtain ⟨A,c,rfl,_,hr⟩:=h
 generalize hl0:l.length=n at *
 have hl:=qh hl0
 clear hl0
 go_enter Tryz.func172,Tryz.ntmps172
 go_wp2_with fail
 go_loop [8] (fun i=>∃ k:Nat,k≤n∧i=.int .i64 k∧(l.take k).all (fun t=>Gz t 0 16777215)=true) (fun i=>n-(intOf i).toNat)
 case atStart=>exact ⟨0,by omega,rfl,rfl⟩
 case round =>
  obtain ⟨k,hk,rfl,hA⟩:=hrel
  have HA:=qh hA
  clear hA
  by_cases hlt:k<n
  · obtain ⟨b,off,rfl,hb,hc⟩:=BR hr (by rw [hl.out];omega)
    have c0:=hc k (by rw [hl.out];omega)
    have ht:=qh (DV 0 l k (by rw [hl.out];omega))
    have hm:=qh (Bv 0 l k (by rw [hl.out];omega))
    clear hc
    generalize nth 0 l k=t at *
    by_cases hin:Gz t 0 16777215=true
    · have hb2:(!Gz t 0 16777215)=false:=by simp [hin]
      have HI:=qh hin
      clear hin
      go_wp2_with (go_at_call 108;refine (Ue _ _).mono ?_;rintro e w' ⟨rfl,rfl⟩)
      go_round
      case rel=>exact ⟨k+1,by omega,by go_num,by rw [ht.out,List.all_append,HA.out];simp [HI.out]⟩
      case measure=>simp [intOf];omega
    · have hb2:(!Gz t 0 16777215)=true:=by simpa using hin
      have HI:=qh hin
      clear hin
      go_wp2_with (go_at_call 108;refine (Ue _ _).mono ?_;rintro e w' ⟨rfl,rfl⟩)
      go_ret
      refine ⟨k,rfl,?_,rfl⟩
      have:(l.all fun t=>Gz t 0 16777215)=false:=by
       rw [List.all_eq_false]
       exact ⟨t,hm.out,HI.out⟩
      rw [this]
      simp
  · have hfin:Hid (l.take k=l):=List.take_of_length_le (by rw [hl.out];omega)
    go_wp2
    go_ret
    refine ⟨-1,rfl,?_,rfl⟩
    have:=HA.out
    rw [hfin.out] at this
    rw [this]
    rfl
theorem ZX (w:World) (S:Nat→Prop) (v:Value) (l:List Int) (hn:l.length≤140737488355328) (h:Aa w S v l) :
 Calls Tryz.prog 107 #[v,.func (.func 108) #[] #[]] w fun e w'=>e=.returned (.bool (!(l.all fun t=>Gz t 0 16777215)))∧w=w':=by
 have hi:=qh (fA w S v l hn h)
 obtain ⟨A,c,rfl,_,hr⟩:=h
 go_enter Tryz.func107,Tryz.ntmps107
 go_wp2_with (go_at_call 172;refine hi.out.mono ?_;rintro e w' ⟨i,rfl,hd,rfl⟩;have HD:=qh hd;clear hd)
 go_ret
 exact ⟨UH HD.out,rfl⟩
theorem RX (w:World) (S:Nat→Prop) (v:Value) (tx:Int) (l:List Int) (hn:l.length≤140737488355328) (h:Aa w S v l) :
 Calls Tryz.prog 66 #[.int .i64 tx,v] w fun e w'=>e=.returned (.bool (FW tx l))∧w=w':=by
 have hi:=qh (ZX w S v l hn h)
 obtain ⟨A,c,rfl,_,hr⟩:=h
 by_cases h1:Gz tx 0 2147483647=true
 · have e1:FW tx l = !!(l.all fun t=>Gz t 0 16777215):=by simp [FW,h1]
   rw [e1]
   generalize (l.all fun t=>Gz t 0 16777215)=B at *
   go_enter Tryz.func66,Tryz.ntmps66
   go_wp2_with (first
    | (go_at_call 67;refine (Fe _ _ _ _).mono ?_;rintro e w' ⟨rfl,rfl⟩)
    | (go_at_call 107;refine hi.out.mono ?_;rintro e w' ⟨rfl,rfl⟩))
   go_ret
   exact ⟨UH (by simp),rfl⟩
 · have h1':Gz tx 0 2147483647=false:=by simpa using h1
   have e1:FW tx l=false:=by simp [FW,h1']
   rw [e1]
   clear h1 e1
   go_enter Tryz.func66,Tryz.ntmps66
   go_wp2_with (go_at_call 67;refine (Fe _ _ _ _).mono ?_;rintro e w' ⟨rfl,rfl⟩)
   go_ret
   exact ⟨rfl,rfl⟩
end
section
open Go.RowKit
def bump (l:List Int) (b:Int):List Int:=l.set b.toNat (nth 0 l b.toNat+1)
theorem J3 (l:List Int) (b:Int):(bump l b).length=l.length:=by simp [bump]
def Ls (w:World) (rb base g:Nat) (l:List Int):Prop :=
 ∃ cap,One w rb (.slice (some ⟨g,0,none⟩) l.length cap) 306∧w.ownsRow base 3 1 (.slice (some ⟨g,0,none⟩) l.length cap) l.length (AB encI l)∧base≤g∧g<w.heap.size∧rb≠g
theorem Ls.below {w w':World} {rb base g:Nat} {l:List Int} (h:Ls w rb base g l) (hb:Below w.heap.size w w'):Ls w' rb base g l:=by
 obtain ⟨cap,h1,h2,h3,h4,h5⟩:=h
 exact ⟨cap,h1.below hb h1.lt,h2.kept (row:=none) ⟨hb.os,hb.tape,hb.output,hb.size,fun k hk _=>hb.block k hk⟩ (by simp [Value.ownBlock]),h3,Nat.lt_of_lt_of_le h4 hb.size,h5⟩
theorem Uf (w:World) (rb base g:Nat) (l:List Int) (b:Int) (h:Ls w rb base g l) (hb0:0≤b) (hb1:b<l.length) (_hl:l.length≤65536) (hc:0≤nth 0 l b.toNat∧nth 0 l b.toNat≤1099511627776) :
 Calls Tryz.prog 124 #[.pointer (some ⟨rb,0,none⟩),.int .i64 b] w fun e w'=>e=.returned (.tuple #[.int .i64 (nth 0 l b.toNat+1),.int .i64 0])∧w'=w.setCell ⟨g,b.toNat,none⟩ (.int .i64 (nth 0 l b.toNat+1))∧Ls w' rb base g (bump l b):=by
 obtain ⟨cap,h1,h2,h3,h4,h5⟩:=h
 obtain ⟨k,rfl⟩:=Int.eq_ofNat_of_zero_le hb0
 rw [Int.toNat_natCast] at *
 have hk:k<l.length:=by omega
 have hst:=h2.stored k (.int .i64 (nth 0 l k+1))
 have hset:(AB encI l).set k (.int .i64 (nth 0 l k+1))=AB encI (bump l (k:Int)):=by
  rw [CU,CU,bump,Int.toNat_natCast,List.map_set]
 rw [hset] at hst
 have hcell:w.cell? ⟨g,k,none⟩=some (.int .i64 (nth 0 l k)):=by
  rw [h2.cellAt k (by omega),CU,Ac 0 l k hk]
  simp [hk]
 have hfr:=h2.frozenAt k
 have q0:=h1.cell
 have HS:=qh hst
 have HO:=qh h1
 have hne:¬ rb=g:=h5
 have hc0:=hc.1
 have hc1:=hc.2
 clear hst hset h1 h2 hc hb1
 generalize nth 0 l k=x at *
 generalize hl0:l.length=n at *
 have HL:=qh hl0
 clear hl0
 go_enter Tryz.func124,Tryz.ntmps124
 go_wp2
 go_ret2
 refine ⟨rfl,rfl,cap,?_,?_,h3,by simpa using h4,h5⟩
 · rw [J3,HL.out]
   exact HO.out.far (p:=⟨g,k,none⟩) h5
 · rw [J3,HL.out]
   exact HS.out.1
end
section
open Go.RowKit
theorem RY (w:World) (S:Nat→Prop) (v:Value) (l:List Int) (h:Aa w S v l) (hn:l.length≤5864062014805) :
 Calls Tryz.prog 127 #[v] w fun e w'=>∃ v',e=.returned v'∧Aa w' (C9 w.heap.size w'.heap.size) v' l∧Below w.heap.size w w':=by
 obtain ⟨A,c,rfl,hc,hr⟩:=h
 have heq:=Lib.run_eql_slice_nil (P:=Tryz.prog) w 29 3 A l.length c 0 0 Tryz.underlying29
 cases A with
 | none =>
  have hl:l=[]:=by
   rcases Nat.eq_zero_or_pos l.length with h0|h0
   · exact List.eq_nil_of_length_eq_zero h0
   · obtain ⟨_,_,e,_⟩:=hr h0
     cases e
  subst hl
  simp only [List.length_nil] at heq ⊢
  go_enter Tryz.func127,Tryz.ntmps127
  go_wp2
  go_ret
  exact ⟨_,rfl,CF.F4,Below.refl _ _⟩
 | some a =>
  obtain ⟨xs,hx,hcl⟩:=JH hr
  have hxs:xs=AB encI l:=by
   rw [CU]
   apply List.ext_getElem?
   intro j
   by_cases hj:j<l.length
   · obtain ⟨cs,h1,h2,h3⟩:=hx.2 j hj
     obtain rfl:cs=_:=h2
     have:=h3 0 (by omega)
     simp at this
     rw [this,Ac 0 l j hj];simp [hj]
   · have h1:=hx.1
     rw [List.getElem?_eq_none (by omega),List.getElem?_eq_none (by simp;omega)]
  subst hxs
  go_enter Tryz.func127,Tryz.ntmps127
  go_wp2_with (at_builtin;go_loud (refine CK Tryz.underlying29 Ej rfl (by omega) (by omega) rfl _ _ rfl w.heap.size (.slice (some ⟨w.heap.size,0,none⟩) 0 0) 0 [] rfl (World.ownsRow_made w #[] 0 (Nat.le_refl _) (by simp [maxLen]) rfl) a l.length c (AB encI l) rfl hx.1 (fun j u hu=>by
   have hold:=hcl j u hu
   have hlt:=World.block_lt_of_cell? _ _ hold
   rw [World.cell?_alloc_lt _ _ _ hlt];exact hold) (hx.one (fun _ _ cs x h=>by obtain rfl:cs=_:=h;intro u hu;simp at hu;subst hu;rfl)) (by omega) (by simp) ?_);intro A' cap' w1 hown hg)
  go_ret
  refine ⟨_,rfl,?_,?_⟩
  · have:=CF.own (enc:=encI) (d:=(0:Int)) (l:=l) Bh (by simpa using hown) (by omega)
    exact this
  · exact ((Below.refl _ w).alloc (Nat.le_refl _) _).grown hg (by simp) (fun k hk=>by simp [Value.ownBlock] at hk;omega)
end
section
open Go.RowKit
theorem WO (w:World) (v:Value) (S:Nat→Prop) (d:Dev) (last:Int) (h:yS w S v d) :
 Calls Tryz.prog 69 #[v,.int .i64 last] w fun e w'=>e=.returned (.int .i64 (D6 d last))∧Below w.heap.size w w':=by
 obtain ⟨A,c,rfl,_,_⟩:=h
 have hB1:Below w.heap.size w (w.alloc (.cells #[.int .i64 d.id,.int .i64 d.tx,.int .i64 d.made,.int .i64 d.Bb,.slice A d.maps.length c] 115)):=(Below.refl _ _).alloc (Nat.le_refl _) _
 have hB2:Below w.heap.size w ((w.alloc (.cells #[.int .i64 d.id,.int .i64 d.tx,.int .i64 d.made,.int .i64 d.Bb,.slice A d.maps.length c] 115)).alloc (.cells #[.int .i64 d.made,.int .i64 d.Bb] 3)):=hB1.alloc (by simp) _
 have ht:=RX ((w.alloc (.cells #[.int .i64 d.id,.int .i64 d.tx,.int .i64 d.made,.int .i64 d.Bb,.slice A d.maps.length c] 115)).alloc (.cells #[.int .i64 d.made,.int .i64 d.Bb] 3))
  (Lt (w.heap.size+2)) (.slice (some ⟨w.heap.size+1,0,none⟩) 2 2) d.tx [d.made,d.Bb] (by simp) (CF.block (fun _=>rfl) (heap_alloc2_new w _ _) rfl rfl (by omega) (by simp [Lt]))
 have HT:=qh ht
 clear ht
 by_cases h1:Gz d.id 0 16777215=true
 · by_cases h2:FW d.tx [d.made,d.Bb]=true
   · have hb:V7 d=true:=by simp [V7,h1,h2]
     by_cases h3:d.id≤last
     · have e:D6 d last=8:=by unfold D6;rw [if_neg (by simp [hb]),if_pos h3]
       rw [e]
       clear hb e
       go_enter Tryz.func69,Tryz.ntmps69
       go_wp2_with (first
        | (go_at_call 67;refine (Fe _ _ _ _).mono ?_;rintro e w' ⟨rfl,rfl⟩)
        | (go_at_call 66;refine HT.out.mono ?_;rintro e w' ⟨rfl,rfl⟩))
       go_ret
       exact ⟨rfl,hB2⟩
     · have e:D6 d last=0:=by unfold D6;rw [if_neg (by simp [hb]),if_neg h3]
       rw [e]
       clear hb e
       go_enter Tryz.func69,Tryz.ntmps69
       go_wp2_with (first
        | (go_at_call 67;refine (Fe _ _ _ _).mono ?_;rintro e w' ⟨rfl,rfl⟩)
        | (go_at_call 66;refine HT.out.mono ?_;rintro e w' ⟨rfl,rfl⟩))
       go_ret
       exact ⟨rfl,hB2⟩
   · have h2':FW d.tx [d.made,d.Bb]=false:=by simpa using h2
     have e:D6 d last=2:=by unfold D6;rw [if_pos (by simp [V7,h2'])]
     rw [e]
     clear e h2
     go_enter Tryz.func69,Tryz.ntmps69
     go_wp2_with (first
      | (go_at_call 67;refine (Fe _ _ _ _).mono ?_;rintro e w' ⟨rfl,rfl⟩)
      | (go_at_call 66;refine HT.out.mono ?_;rintro e w' ⟨rfl,rfl⟩))
     go_ret
     exact ⟨rfl,hB2⟩
 · have h1':Gz d.id 0 16777215=false:=by simpa using h1
   have e:D6 d last=2:=by unfold D6;rw [if_pos (by simp [V7,h1'])]
   rw [e]
   clear e h1
   go_enter Tryz.func69,Tryz.ntmps69
   go_wp2_with (go_at_call 67;refine (Fe _ _ _ _).mono ?_;rintro e w' ⟨rfl,rfl⟩)
   go_ret
   exact ⟨rfl,hB1⟩
theorem WP (w:World) (S:Nat→Prop) (v:Value) (l:List Mp) (data:Int) (hS:∀ b,S b→b<w.heap.size) (hn:l.length≤140737488355328) (h:sG w S v l) (h0 : -1099511627776≤data) (h1:data≤1099511627776) :
 Calls Tryz.prog 70 #[v,.int .i64 data] w fun e w'=>e=.returned (.int .i64 (Es data l))∧Below w.heap.size w w':=by
 obtain ⟨A,c,rfl,_,hr⟩:=h
 generalize hl0:l.length=n at *
 have hl:=qh hl0
 clear hl0
 go_enter Tryz.func70,Tryz.ntmps70
 go_wp2_with fail
 go_loopw [5,10] (fun last i wr=>∃ k:Nat,k≤n∧i=.int .i64 k∧last=.int .i64 (NE l k)∧Below w.heap.size w wr∧Jf data l k) (fun _ i _=>n-(intOf i).toNat)
 case atStart=>exact ⟨0,by omega,rfl,rfl,Below.refl _ _,Jf.zero data l⟩
 case round =>
  obtain ⟨k,hk,rfl,rfl,hB,hA⟩:=hrel
  have HA:=qh hA
  clear hA
  by_cases hlt:k<n
  · obtain ⟨b,off,rfl,hb,hc⟩:=OY (hr.keep F5 (fun _ h=>h) (AL hB hS)) (by rw [hl.out];omega)
    obtain ⟨c0,c1,c2⟩:=hc k (by rw [hl.out];omega)
    have hlt':=hlt
    rw [← hl.out] at hlt'
    have HR:=qh (fun hb=>HA.out.range hlt' hb)
    have HO:=qh (fun h1 hb=>HA.out.order hlt' h1 hb)
    have HN:=qh (fun h1 hb=>HA.out.next hlt' h1 hb)
    have HS:=qh (OZ l k)
    have hbs:b<wr.heap.size:=by have:=hS b hb;have:=hB.size;omega
    clear hc
    generalize nth Q8 l k=m at *
    have HB:=hB.alloc hB.size (.cells #[.int .i64 m.v,.int .i64 m.b,.int .i64 m.t] 137)
    by_cases hm:Mi data m=true
    · have h3:Gz m.v 0 281474976710655=true:=by simp [Mi] at hm;exact hm.1
      have h4:Gz m.b 0 (data-1)=true:=by simp [Mi] at hm;exact hm.2.1
      have h5:Gz m.t 0 16777215=true:=by simp [Mi] at hm;exact hm.2.2
      have HM:=qh hm
      clear hm
      by_cases hle:m.v≤NE l k
      · go_wp2_with (go_at_call 67;refine (Fe _ _ _ _).mono ?_;rintro e w' ⟨rfl,rfl⟩)
        go_ret
        exact ⟨JG (HO.out HM.out hle).symm,HB⟩
      · go_wp2_with (go_at_call 67;refine (Fe _ _ _ _).mono ?_;rintro e w' ⟨rfl,rfl⟩)
        go_roundw
        case rel=>exact ⟨k+1,by omega,by go_num,by rw [HS.out],HB,HN.out HM.out (by omega)⟩
        case measure=>simp [intOf];omega
    · have hm':Mi data m=false:=by simpa using hm
      have HM:=qh hm'
      have hor:Gz m.v 0 281474976710655=false∨(Gz m.v 0 281474976710655=true∧Gz m.b 0 (data-1)=false)∨(Gz m.v 0 281474976710655=true∧Gz m.b 0 (data-1)=true∧Gz m.t 0 16777215=false):=by
       unfold Mi at hm'
       cases h3:Gz m.v 0 281474976710655 <;> cases h4:Gz m.b 0 (data-1) <;> cases h5:Gz m.t 0 16777215 <;> simp_all
      clear hm hm'
      rcases hor with h3|⟨h3,h4⟩|⟨h3,h4,h5⟩
      all_goals
       go_wp2_with (go_at_call 67;refine (Fe _ _ _ _).mono ?_;rintro e w' ⟨rfl,rfl⟩)
       go_ret
       exact ⟨JG (HR.out HM.out).symm,HB⟩
  · go_wp2
    go_ret
    exact ⟨JG (HA.out.done (by rw [hl.out];omega)).symm,hB⟩
end
section
open Go.RowKit
theorem ZY (w:World) (S:Nat→Prop) (v:Value) (p:Pool) (hS:∀ b,S b→b<w.heap.size) (h:IP w S v p) (hn:p.Ce.length≤1099511627776) (hc0:p.count≤4611686018427387904) :
 Calls Tryz.prog 68 #[v] w fun e w'=>e=.returned (.int .i64 p.count)∧Below w.heap.size w w':=by
 obtain ⟨A,c,rfl,_,hr⟩:=h
 generalize hl0:p.Ce.length=n at *
 have hl:=qh hl0
 clear hl0
 have hB0:Below w.heap.size w (w.alloc (.cells #[.int .i64 p.tx,.int .i64 p.time,.int .i64 p.unit,.int .i64 p.data,.slice A n c] 45)):=(Below.refl _ _).alloc (Nat.le_refl _) _
 go_enter Tryz.func68,Tryz.ntmps68
 go_wp2_with fail
 go_loopw [3,9] (fun t i wr=>∃ k:Nat,k≤n∧i=.int .i64 k∧t=.int .i64 (Cz (p.Ce.take k))∧Below w.heap.size w wr) (fun _ i _=>n-(intOf i).toNat)
 case atStart=>exact ⟨0,by omega,rfl,rfl,hB0⟩
 case round =>
  obtain ⟨k,hk,rfl,rfl,hB⟩:=hrel
  have hs0:=IQ (p.Ce.take k)
  by_cases hlt:k<n
  · obtain ⟨b,off,rfl,hb,hc⟩:=K5 (hr.keep FM (fun _ h=>h) (AL hB hS)) (by rw [hl.out];omega)
    obtain ⟨c0,c1,c2,c3,A',c',c4,hc',hr'⟩:=hc k (by rw [hl.out];omega)
    have HT:=qh (UJ p.Ce k (by rw [hl.out];omega))
    have hle:=Oa p.Ce (k+1)
    rw [HT.out] at hle
    have hbs:b<wr.heap.size:=by have:=hS b hb;have:=hB.size;omega
    have hs1:Cz (p.Ce.take k)+((nth CX p.Ce k).maps.length:Int)≤4611686018427387904:=Int.le_trans hle hc0
    clear hc hr' hle
    have HB:=hB.alloc hB.size (.cells #[.int .i64 (nth CX p.Ce k).id,.int .i64 (nth CX p.Ce k).tx,.int .i64 (nth CX p.Ce k).made,.int .i64 (nth CX p.Ce k).Bb,.slice A' (nth CX p.Ce k).maps.length c'] 115)
    go_wp2
    go_roundw
    case rel=>exact ⟨k+1,by omega,by go_num,by rw [HT.out],HB⟩
    case measure=>simp [intOf];omega
  · have hfin:Hid (p.Ce.take k=p.Ce):=List.take_of_length_le (by rw [hl.out];omega)
    go_wp2
    go_ret
    exact ⟨JG (by rw [hfin.out];rfl),hB⟩
end
end Go.Proofs.YtpenklpdjpkigaaGreat
