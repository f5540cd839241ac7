/- A part of the proof: WSealW, WNodePut. -/
import Derived.Test.YthblbddmcdnllaaGreatDoorX15
import Derived.Test.YthblbddmcdnllaaGreatDoorX17
import Derived.Test.YthblbddmcdnllaaGreatDoorX5
import Derived.Test.YthblbddmcdnllaaGreatDoorX19
import Derived.Deep.OwnRows
import Derived.Lib.BufferWrite
import Derived.Lib.SlBuf
import Derived.Test.YthblbddmcdnllaaGreatDoorX37
import Derived.Test.YthblbddmcdnllaaGreatDoorY1
import Derived.Deep.Cut
import Derived.Deep.DeepCutAuto
set_option maxHeartbeats 6400000
set_option linter.unusedVariables false
set_option linter.unusedSimpArgs false
namespace Go.Proofs.YthblbddmcdnllaaGreatDoor
section
open Go.RowKit
def Kh:List Value:=List.replicate 256 (Value.int .u8 0)
def GA:List UInt8:=List.replicate 256 0
theorem ZL:Kh=AA AX GA:=by
 unfold Kh GA
 rw [BQ,List.map_replicate]
 rfl
theorem ZM (w:World):(Instr.makeSlice 82 (.int .i64 256) (.int .i64 256)).run Tryz.prog w=.ok (.slice (some ⟨w.heap.size,0,none⟩) 256 256) (w.alloc (.cells Kh.toArray 5)):=by
 have h:=run_make_row' (P:=Tryz.prog) 82 5 (.int .u8 0) 1 Tryz.underlying82 (by kernel_rfl) rfl .i64 .i64 256 (by omega) (by omega) w
 have hmz:(madeCells #[Value.int .u8 0] 256)=Kh.toArray:=by kernel_rfl
 rw [hmz] at h
 exact h
def D6 (kind no:Nat) (inn:List UInt8):Nat→List UInt8
 | 0=>En GA 8 inn
 | 1=>En (En GA 8 inn) 0 (leB 4 no)
 | _=>En (En (En GA 8 inn) 0 (leB 4 no)) 4 (leB 2 kind)
theorem XQ {a b c:List UInt8} (h:b.length=a.length):En (a++c) 0 b=b++c:=by
 unfold En
 rw [List.take_zero,List.nil_append,Nat.zero_add,h,List.drop_left]
theorem ME {a b c d:List UInt8} (h:b.length=c.length):En (a++c++d) a.length b=a++b++d:=by
 have e1:(a++c++d).drop (a.length+b.length)=d:=by
  rw [h,← List.length_append]
  exact List.drop_left
 have e2:(a++c++d).take a.length=a:=by
  rw [List.append_assoc]
  exact List.take_left
 unfold En
 rw [e1,e2,List.append_assoc]
theorem XR (kind no:Nat) (inn:List UInt8) (h:inn.length≤244):D6 kind no inn 2=Dn kind no inn++[0,0,0,0]:=by
 have e0:GA=([0,0,0,0,0,0,0,0]:List UInt8)++List.replicate inn.length 0++(List.replicate (244-inn.length) 0++[0,0,0,0]):=by
  have h1:([0,0,0,0,0,0,0,0]:List UInt8)=List.replicate 8 0:=rfl
  have h2:([0,0,0,0]:List UInt8)=List.replicate 4 0:=rfl
  unfold GA
  rw [h1,h2,List.replicate_append_replicate,List.replicate_append_replicate,List.replicate_append_replicate]
  congr 1
  omega
 show En (En (En GA 8 inn) 0 (leB 4 no)) 4 (leB 2 kind)=_
 have e1:En GA 8 inn=([0,0,0,0,0,0,0,0]:List UInt8)++inn++(List.replicate (244-inn.length) 0++[0,0,0,0]):=by
  rw [e0]
  exact ME (a:=[0,0,0,0,0,0,0,0]) (by rw [List.length_replicate])
 have e2:En (([0,0,0,0,0,0,0,0]:List UInt8)++inn++(List.replicate (244-inn.length) 0++[0,0,0,0])) 0 (leB 4 no)=leB 4 no++([0,0,0,0]++inn++(List.replicate (244-inn.length) 0++[0,0,0,0])) :=
  XQ (a:=[0,0,0,0]) (c:=[0,0,0,0]++inn++(List.replicate (244-inn.length) 0++[0,0,0,0])) (Br 4 no)
 have e3:=ME (a:=leB 4 no) (b:=leB 2 kind) (c:=[0,0]) (d:=[0,0]++inn++(List.replicate (244-inn.length) 0++[0,0,0,0])) (Br 2 kind)
 rw [Br] at e3
 rw [e1,e2]
 have e4:leB 4 no++([0,0,0,0]++inn++(List.replicate (244-inn.length) 0++[0,0,0,0]))=leB 4 no++[0,0]++([0,0]++inn++(List.replicate (244-inn.length) 0++[0,0,0,0])):=by simp
 rw [e4,e3]
 unfold Dn
 simp
theorem Je (kind no:Nat) (inn:List UInt8) (h:inn.length≤244):(Dn kind no inn).length=252:=by
 unfold Dn
 simp only [List.length_append,Br,List.length_replicate,List.length_cons,List.length_nil]
 omega
theorem XT (kind no:Nat) (inn:List UInt8) (h:inn.length≤244):En (D6 kind no inn 2) 252 (leB 4 (Fz (D6 kind no inn 2) kind))=BG kind no inn:=by
 have hl:=Je kind no inn h
 rw [XR kind no inn h]
 unfold Fz BG
 have e1:(Dn kind no inn++[0,0,0,0]).take 252=Dn kind no inn:=by rw [← hl,List.take_left]
 rw [e1]
 have e2:=ME (a:=Dn kind no inn) (b:=leB 4 (GK (Dn kind no inn) ^^^ Gl kind)) (c:=[0,0,0,0]) (d:=[]) (Br 4 _)
 rw [hl,List.append_nil,List.append_nil] at e2
 exact e2
theorem U9 (kind no:Nat) (inn:List UInt8) (h:inn.length≤244) (k:Nat):(D6 kind no inn k).length=256:=by
 have h0:(En GA 8 inn).length=256:=by rw [JU (by unfold GA;rw [List.length_replicate];omega)];unfold GA;rw [List.length_replicate]
 have h1:(En (En GA 8 inn) 0 (leB 4 no)).length=256:=by rw [JU (by rw [Br,h0];omega),h0]
 unfold D6
 split
 · exact h0
 · exact h1
 · rw [JU (by rw [Br,h1];omega),h1]
theorem TR (l:List UInt8) (kind:Int):Fz l kind<4294967296:=by
 unfold Fz
 exact Nat.xor_lt_two_pow (n:=32) (Jy _) (TN kind)
theorem FW {w:World} {base n c:Nat} {A:Option Addr} {l:List UInt8} (h:w.ownsRow base 5 1 (.slice A n c) n (AA AX l)) (hn:n=l.length):AU w (fun b=>b<w.heap.size) (.slice A n c) l:=by
 subst hn
 exact (Bp.own DY h (by omega)).sub (AB _) (fun b hb=>hb.2)
set_option maxRecDepth 100000 in
theorem XU (w:World) (S:Nat→Prop) (v:Value) (inn:List UInt8) (kind no:Nat) (hS:∀ b,S b→b<w.heap.size) (h:AU w S v inn) (hl:inn.length≤244) (hk1:1≤kind) (hk4:kind≤4) (hno:no<14400) :
 Calls Tryz.prog 82 #[.int .i64 kind,.int .i64 no,v] w fun e w'=>(∃ A c,e=.returned (.tuple #[.slice A 256 c,.int .i64 0])∧w'.ownsRow w.heap.size 5 1 (.slice A 256 c) 256 (AA AX (BG kind no inn)))∧Below w.heap.size w w':=by
 have lG:=qh (Ii w kind no)
 rw [decide_eq_true (show EU kind no from ⟨by omega,by omega,by omega,by omega⟩)] at lG
 have Pp:=qh (fun (w':World) (base:Nat) (A:Option Addr) (c:Nat) (l:List UInt8) (a n x:Nat) (ho:w'.ownsRow base 5 1 (.slice A 256 c) 256 (AA AX l)) (hl:l.length=256) (hn:Nk n) (ha:a+n≤256) (hx:x<9223372036854775808) (hf:Dq x n=true)=>Ps w' (fun b=>b<w'.heap.size) (.slice A 256 c) l a n x (fun b hb=>hb) (FW ho hl.symm) hn (by omega) (by omega) hx hf)
 have uJ:=qh (fun (w':World) (base:Nat) (A:Option Addr) (c:Nat) (l:List UInt8) (ho:w'.ownsRow base 5 1 (.slice A 256 c) 256 (AA AX l)) (hl:l.length=256)=>KQ w' (fun b=>b<w'.heap.size) (.slice A 256 c) l kind (fun b hb=>hb) (FW ho hl.symm) hl)
 have HLEN:=qh (U9 kind no inn hl)
 have dL:=qh (XT kind no inn hl)
 have HF4:Hid (Dq no 4=true):=by show _=_;unfold Dq;rw [decide_eq_true (by omega),decide_eq_true (show (no:Int)<256 ^ 4 by omega)];simp
 have uK:Hid (Dq kind 2=true):=by show _=_;unfold Dq;rw [decide_eq_true (by omega),decide_eq_true (show (kind:Int)<256 ^ 2 by omega)];simp
 have HFS:Hid (∀ x:Nat,x<4294967296→Dq x 4=true):=fun x hx=>by unfold Dq;rw [decide_eq_true (by omega),decide_eq_true (show (x:Int)<256 ^ 4 by omega)];simp
 have RB:Hid (no<14400∧kind≤4):=⟨hno,hk4⟩
 have NM:Hid (splice Kh 8 (AA AX inn)=AA AX (D6 kind no inn 0)):=by show _=_;rw [ZL,GR];rfl
 have lH:Hid ((AA AX inn).length=inn.length):=Ad _
 have ww:=qh hl
 obtain ⟨A,c,rfl,hc,hr⟩:=h
 have Hm:Hid (∀ w',Below w.heap.size w w'→0<inn.length→∃ ad,A=some ad∧∀ j u,(AA AX inn)[j]? = some u→w'.cell? (ad.add j)=some u):=fun w' hB h0=>by
  obtain ⟨b,off,e,hb,hcell⟩:=BU (hr.keep (AB _) (fun _ h=>h) (AR hB hS)) h0
  exact ⟨_,e,M7 hcell⟩
 clear hr hS hk1 hk4 hno
 obtain ⟨m,hm⟩:∃ m,inn.length=m:=⟨_,rfl⟩
 have HM:=qh hm
 rw [hm] at lH hl Hm ⊢
 have bX:(m:Int)≤244:=by omega
 have hmg:decide (244<(m:Int))=false:=decide_eq_false (by omega)
 have hmk:=ZM
 go_enter Tryz.func82,Tryz.ntmps82
 go_upto_region 6 with (go_at_call 124;(with_reducible refine lG.out.mono ?_);rintro e w2 ⟨rfl,hw⟩;rw [hw];clear hw w2)
 have hg1:=AL.new w Kh.toArray 5
 have hB1:Below w.heap.size w (w.alloc (.cells Kh.toArray 5)):=(Below.refl _ _).alloc (Nat.le_refl _) _
 have aX:=qh (Hm.out _ hB1)
 generalize w.alloc (.cells Kh.toArray 5)=w1 at *
 obtain ⟨g,hgg⟩:∃ g,w.heap.size=g:=⟨_,rfl⟩
 have ZN:=qh hgg
 rw [hgg] at hg1 ⊢
 have Ns:Hid (w1.heap[g]? = some (.cells Kh.toArray 5 (0,0))):=hg1
 have X7:Hid (w.heap.size≤g):=by show _≤_;have:=ZN.out;omega
 have HB1:=qh hB1
 have aY:Hid (Kh.length=256):=by show _=_;unfold Kh;rw [List.length_replicate]
 clear hg1 hB1 hgg hmk Hm lG
 go_upto_region 7 with ((with_reducible refine wpList_copy_splice ?_ (.tmp 20) (.tmp 21) 82 82 ?_ 5 Tryz.underlying82 Ye (some ⟨g,8,none⟩) A 248 248 m c ?_ ?_ g 8 Kh 5 Ns.out (AA AX inn) ?_ ?_ ?_ (Cy _) w.heap.size w HB1.out X7.out ?_);rfl;rfl;rfl;rfl;(rw [lH.out];exact (Nat.min_eq_left (by omega)).symm);(intro h0;rw [lH.out] at h0;exact ⟨rfl,aX.out h0⟩);(rw [lH.out,aY.out];omega);(intro w2 hg2 hB2;have HG2:=qh hg2.out;have HB2:=qh hB2;clear hB2 hg2))
 rename World=>w2
 rw [NM.out] at HG2
 have V9:Hid (w2.ownsRow w.heap.size 5 1 (.slice (some ⟨g,0,none⟩) 256 256) 256 (AA AX (D6 kind no inn 0))):=⟨by rw [Ad,HLEN.out],.inr ⟨g,256,_,rfl,by have:=ZN.out;omega,HG2.out,Nat.le_refl _,by decide,by rw [List.size_toArray,Ad,HLEN.out],by rw [List.toList_toArray,List.take_of_length_le (by rw [Ad,HLEN.out];decide)]⟩⟩
 have hs2:=HB2.out.size
 clear Ns HG2 NM aX lH aY
 go_upto_region 8 with fail
 have hg3:=AL.new w2 #[.int .i64 0,.int .i64 4,.int .i64 no,.int .i64 4,.int .i64 2,.int .i64 kind] 217
 have hB3:Below w2.heap.size w2 (w2.alloc (.cells #[.int .i64 0,.int .i64 4,.int .i64 no,.int .i64 4,.int .i64 2,.int .i64 kind] 217)):=(Below.refl _ _).alloc (Nat.le_refl _) _
 generalize w2.alloc (.cells #[.int .i64 0,.int .i64 4,.int .i64 no,.int .i64 4,.int .i64 2,.int .i64 kind] 217)=w3 at *
 have HB3:=qh (HB2.out.trans (hB3.mono hs2))
 have PZ:=qh (own_below V9.out hB3 (Nat.le_refl _))
 obtain ⟨g3,lI⟩:∃ g,w2.heap.size=g:=⟨_,rfl⟩
 rw [lI] at hg3 ⊢
 have VA:=qh hg3
 clear hg3 hB3 lI HB2 V9 hs2
 go_wp2_with fail
 go_loopw [8,29] (fun vb vi wr=>∃ (k:Nat) (A:Option Addr) (c:Nat),vb=.slice A 256 c∧vi=.int .i64 k∧k≤2∧Hid (Below w.heap.size w wr)∧Hid (wr.ownsRow w.heap.size 5 1 (.slice A 256 c) 256 (AA AX (D6 kind no inn k)))∧Hid (Below w3.heap.size w3 wr)) (fun _ vi _=>2-(intOf vi).toNat)
 case atStart=>exact ⟨0,_,_,rfl,rfl,by omega,HB3,PZ,Below.refl _ _⟩
 case round =>
  obtain ⟨k,A,c,rfl,rfl,hk,J6,oN,Mk⟩:=hrel
  by_cases h2:k<2
  · rcases (show k=0∨k=1 by omega) with hk0|hk1
    · obtain rfl:k=0:=by omega
      have x0:=(VA.out.below Mk.out VA.out.lt).at 0 _ rfl
      have x1:=(VA.out.below Mk.out VA.out.lt).at 1 _ rfl
      have x2:=(VA.out.below Mk.out VA.out.lt).at 2 _ rfl
      have lJ:=J6.out.size
      have hBx:Below wr.heap.size wr (wr.alloc (.cells #[.int .i64 0,.int .i64 4,.int .i64 no] 217)):=(Below.refl _ _).alloc (Nat.le_refl _) _
      have hbx:=AL.new wr #[.int .i64 0,.int .i64 4,.int .i64 no] 217
      have ZO:=qh hBx
      clear hBx
      go_upto_region 10 with fail
      generalize wr.alloc (.cells #[.int .i64 0,.int .i64 4,.int .i64 no] 217)=w4 at *
      have ZP:Hid (Calls Tryz.prog 125 #[.slice A 256 c,.int .i64 0,.int .i64 4,.int .i64 no] w4 fun e w'=>(∃ A' c',e=.returned (.tuple #[.slice A' 256 c',.int .i64 0])∧w'.ownsRow w4.heap.size 5 1 (.slice A' 256 c') 256 (AA AX (D6 kind no inn 1)))∧Below w4.heap.size w4 w'):=by
       have h9:=Pp.out w4 w.heap.size A c (D6 kind no inn 0) 0 4 no (own_below oN.out ZO.out (Nat.le_refl _)) (HLEN.out _) (.inr (.inr (.inl rfl))) (by omega) (by have:=RB.out;omega) HF4.out
       rw [HLEN.out] at h9
       exact h9
      have y0:=hbx.at 0 _ rfl
      have y1:=hbx.at 1 _ rfl
      have y2:=hbx.at 2 _ rfl
      clear x0 x1 x2 hbx
      go_wp2_with (go_at_call 125;(with_reducible refine ZP.out.mono ?_);rintro e w5 ⟨⟨A5,c5,rfl,IW⟩,BX⟩;have KR:=qh IW;have DT:=qh (ZO.out.trans (BX.mono ZO.out.size));have hs5:=ZO.out.size;clear IW BX)
      have OA:Hid (World.ownsRow _ w.heap.size 5 1 (.slice A5 256 c5) 256 (AA AX (D6 kind no inn 1))):=KR.out.mono (by omega)
      have D8:=qh (J6.out.trans (DT.out.mono lJ))
      have eU:=qh (Mk.out.trans (DT.out.mono Mk.out.size))
      go_roundw
      case rel=>exact ⟨1,A5,c5,rfl,by go_num,by omega,D8,OA,eU⟩
      case measure=>simp [intOf]
    · obtain rfl:k=1:=by omega
      have x0:=(VA.out.below Mk.out VA.out.lt).at 3 _ rfl
      have x1:=(VA.out.below Mk.out VA.out.lt).at 4 _ rfl
      have x2:=(VA.out.below Mk.out VA.out.lt).at 5 _ rfl
      have lJ:=J6.out.size
      have hBx:Below wr.heap.size wr (wr.alloc (.cells #[.int .i64 4,.int .i64 2,.int .i64 kind] 217)):=(Below.refl _ _).alloc (Nat.le_refl _) _
      have hbx:=AL.new wr #[.int .i64 4,.int .i64 2,.int .i64 kind] 217
      have ZO:=qh hBx
      clear hBx
      go_upto_region 10 with fail
      generalize wr.alloc (.cells #[.int .i64 4,.int .i64 2,.int .i64 kind] 217)=w4 at *
      have ZP:Hid (Calls Tryz.prog 125 #[.slice A 256 c,.int .i64 4,.int .i64 2,.int .i64 kind] w4 fun e w'=>(∃ A' c',e=.returned (.tuple #[.slice A' 256 c',.int .i64 0])∧w'.ownsRow w4.heap.size 5 1 (.slice A' 256 c') 256 (AA AX (D6 kind no inn 2)))∧Below w4.heap.size w4 w'):=by
       have h9:=Pp.out w4 w.heap.size A c (D6 kind no inn 1) 4 2 kind (own_below oN.out ZO.out (Nat.le_refl _)) (HLEN.out _) (.inr (.inl rfl)) (by omega) (by have:=RB.out;omega) uK.out
       rw [HLEN.out] at h9
       exact h9
      have y0:=hbx.at 0 _ rfl
      have y1:=hbx.at 1 _ rfl
      have y2:=hbx.at 2 _ rfl
      clear x0 x1 x2 hbx
      go_wp2_with (go_at_call 125;(with_reducible refine ZP.out.mono ?_);rintro e w5 ⟨⟨A5,c5,rfl,IW⟩,BX⟩;have KR:=qh IW;have DT:=qh (ZO.out.trans (BX.mono ZO.out.size));have hs5:=ZO.out.size;clear IW BX)
      have OA:Hid (World.ownsRow _ w.heap.size 5 1 (.slice A5 256 c5) 256 (AA AX (D6 kind no inn 2))):=KR.out.mono (by omega)
      have D8:=qh (J6.out.trans (DT.out.mono lJ))
      have eU:=qh (Mk.out.trans (DT.out.mono Mk.out.size))
      go_roundw
      case rel=>exact ⟨2,A5,c5,rfl,by go_num,by omega,D8,OA,eU⟩
      case measure=>simp [intOf]
  · obtain rfl:k=2:=by omega
    have lJ:=J6.out.size
    have HS2:=qh (uJ.out wr w.heap.size A c (D6 kind no inn 2) oN.out (HLEN.out _))
    have Ke:=qh (TR (D6 kind no inn 2) kind)
    have Tc:Hid (∀ w',Below wr.heap.size wr w'→Calls Tryz.prog 125 #[.slice A 256 c,.int .i64 252,.int .i64 4,.int .i64 (Fz (D6 kind no inn 2) kind:Nat)] w' fun e w''=>(∃ A' c',e=.returned (.tuple #[.slice A' 256 c',.int .i64 0])∧w''.ownsRow w'.heap.size 5 1 (.slice A' 256 c') 256 (AA AX (BG kind no inn)))∧Below w'.heap.size w' w''):=fun w' hB=>by
     have h9:=Pp.out w' w.heap.size A c (D6 kind no inn 2) 252 4 (Fz (D6 kind no inn 2) kind) (own_below oN.out hB (Nat.le_refl _)) (HLEN.out _) (.inr (.inr (.inl rfl))) (by omega) (by have:=Ke.out;omega) (HFS.out _ Ke.out)
     rw [HLEN.out,dL.out] at h9
     exact h9
    generalize Fz (D6 kind no inn 2) kind=sm at *
    go_wp2_with (first|(go_at_call 126;(with_reducible refine HS2.out.mono ?_);rintro e w4 ⟨rfl,hB4⟩;have EQ:=qh hB4;clear hB4)|(go_at_call 125;(with_reducible refine (Tc.out _ EQ.out).mono ?_);rintro e w5 ⟨⟨A5,c5,rfl,IW⟩,BX⟩;have KR:=qh IW;have DT:=qh BX;clear IW BX))
    have hs4:=EQ.out.size
    refine bodyPost_ret (v:=.tuple #[.slice A5 256 c5,.int .i64 0]) (by simp [results,Tryz.results82,go_sem]) rfl ⟨⟨A5,c5,rfl,KR.out.mono (by omega)⟩,J6.out.trans ((EQ.out.trans (DT.out.mono hs4)).mono lJ)⟩
end
section
open Go.RowKit Go.Shelf
theorem VB (w:World):Calls Tryz.prog 188 #[.bool true] w fun e w'=>e=.returned (.int .i64 1)∧w'=w:=Ud w true
def XV (t wd mk:Int):List (Nat × Int):=[(1,1),(1,t),(2,0),(2,wd),(2,mk),(4,0)]
theorem I7 {w:World} {g:Nat} {fs:List (Nat × Int)} {T:TypeId} (h:w.heap[g]? = some (.cells (AA MS fs).toArray T (0,0))) (hl:fs.length≤1000):Pn w (fun b=>b<w.heap.size) (.slice (some ⟨g,0,none⟩) fs.length fs.length) fs:=by
 have hr:w.ownsRow 0 T 2 (.slice (some ⟨g,0,none⟩) fs.length fs.length) fs.length (AA MS fs):=⟨CO Fy fs,.inr ⟨g,fs.length,_,rfl,Nat.zero_le _,h,Nat.le_refl _,by unfold maxLen;omega,by rw [List.size_toArray,CO Fy fs],by rw [List.toList_toArray,List.take_of_length_le (by rw [CO Fy fs];exact Nat.le_refl _)]⟩⟩
 exact (Bp.own Fy hr (by omega)).sub (AB _) (fun b hb=>hb.2)
theorem ZQ:EA=AA AX NP:=by
 unfold EA NP
 rw [BQ,List.map_replicate]
 rfl
set_option maxRecDepth 100000 in
theorem SK (w:World) (t:Int) (h1:1≤t) (h5:t≤5) :
 Calls Tryz.prog 164 #[.agg #[.int .i64 t,.bool true,.slice none 0 0,.slice none 0 0]] w fun e w'=>(∃ A c,e=.returned (.tuple #[.slice A 244 c,.int .i64 0])∧w'.ownsRow w.heap.size 5 1 (.slice A 244 c) 244 (AA AX (Cr t)))∧Below w.heap.size w w':=by
 have iE:=qh (fun w'=>EY w' t true)
 have Yg:=qh (fun w'=>El w' t true)
 have Xz:=qh (fun w'=>OD w' t h1 h5)
 have yD:=qh (Ue h1 h5)
 have Po:=qh (IM t h1 h5)
 have yE:Hid (Cr t=En NP 0 (Aj (GU t))):=rfl
 have RP:Hid ((Aj (GU t)).length=12):=by
  show _=_
  rw [Dg]
  unfold GU
  simp only [List.map_cons,List.map_nil,Cb]
 have uL:Hid (GU t=XV t (Ah t true:Int) (BH t true:Int)):=rfl
 generalize GU t=fs at *
 generalize (Ah t true:Int)=wd at *
 generalize (BH t true:Int)=mk at *
 have hbx:=AL.new w #[.int .i64 t,.bool true,.slice none 0 0,.slice none 0 0] 125
 have hBx:Below w.heap.size w (w.alloc (.cells #[.int .i64 t,.bool true,.slice none 0 0,.slice none 0 0] 125)):=(Below.refl _ _).alloc (Nat.le_refl _) _
 clear h1 h5
 go_enter Tryz.func164,Tryz.ntmps164
 go_upto_region 1 with fail
 generalize w.alloc (.cells #[.int .i64 t,.bool true,.slice none 0 0,.slice none 0 0] 125)=w1 at *
 obtain ⟨g,hg⟩:∃ q,w.heap.size=q:=⟨_,rfl⟩
 have HB1:=qh hBx
 have Pq:=qh hg
 rw [hg] at hbx ⊢
 have DL:=qh hbx
 have x0:w1.cell? ⟨g,0,none⟩=some (.int .i64 t):=hbx.at 0 _ rfl
 have x1:w1.cell? ⟨g,1,none⟩=some (.bool true):=hbx.at 1 _ rfl
 have x2:w1.cell? ⟨g,2,none⟩=some (.slice none 0 0):=hbx.at 2 _ rfl
 have x3:w1.cell? ⟨g,3,none⟩=some (.slice none 0 0):=hbx.at 3 _ rfl
 clear hbx hBx hg
 go_upto_region 3 with (go_at_call 187;(with_reducible refine (Xz.out _).mono ?_);rintro e w2 ⟨rfl,hB2⟩;have VC:=qh (DL.out.below hB2 DL.out.lt);have HB2:=qh (HB1.out.trans (hB2.mono HB1.out.size));clear hB2)
 rename World=>w2
 have x0:w2.cell? ⟨g,0,none⟩=some (.int .i64 t):=VC.out.at 0 _ rfl
 have x1:w2.cell? ⟨g,1,none⟩=some (.bool true):=VC.out.at 1 _ rfl
 have x2:w2.cell? ⟨g,2,none⟩=some (.slice none 0 0):=VC.out.at 2 _ rfl
 have x3:w2.cell? ⟨g,3,none⟩=some (.slice none 0 0):=VC.out.at 3 _ rfl
 clear Xz DL HB1
 go_quiet (first|(go_at_call 97;refine Calls.quiet_of_same (iE.out _))|(go_at_call 53;refine Calls.quiet_of_same (Yg.out _)))
 have OY:Hid (AL (w2.drewN nq) g _ _):=VC.out
 have HB3:Hid (Below w.heap.size w (w2.drewN nq)):=HB2.out.trans ((Touch.drewN (R:=fun _=>False) nq).below (fun x h=>h.elim) HB2.out.size)
 generalize w2.drewN nq=w3 at *
 clear x0 x1 x2 x3 iE Yg VC HB2
 go_upto_region 4 with fail
 have hs3:=HB3.out.size
 have hmk:=OX
 go_cut [6] (fun s6 wx=>∃ g6 c6,s6=.slice (some ⟨g6,0,none⟩) 12 c6∧Hid (Below w3.heap.size w3 wx)∧Hid (wx.ownsRow w3.heap.size 5 1 (.slice (some ⟨g6,0,none⟩) 12 c6) 12 (AA AX (Aj fs))))
 case first =>
  clear hmk
  refine AJ (T:=fun _=>false) (S:=fun w'=>Below w3.heap.size w3 w') (by kernel_rfl) (Below.refl w3.heap.size w3).drew (fun hHeld=>?_)
  obtain ⟨BN,hw0⟩:∃ x,w3.drew=x:=⟨_,rfl⟩
  rw [hw0] at hHeld ⊢
  have AF:Below w3.heap.size w3 BN:=hHeld
  clear hHeld hw0
  refine qs 0 27 AF ?_
  refine qf 1 28 rfl rfl AF (by intro w2' hSw;have x1:=(OY.out.below hSw OY.out.lt).at 1 _ rfl;go_simp;(try with_reducible rfl)) ?_
  refine qs 4 31 AF ?_
  refine qf 5 32 rfl rfl AF (by intro w2' hSw;have x0:=(OY.out.below hSw OY.out.lt).at 0 _ rfl;go_simp;(try with_reducible rfl)) ?_
  refine qs 6 33 AF ?_
  refine qs 7 34 AF ?_
  refine qf 8 35 rfl rfl AF (by intro w2' hSw;have x2:=(OY.out.below hSw OY.out.lt).at 2 _ rfl;go_simp;(try with_reducible rfl)) ?_
  refine qs 9 36 AF ?_
  refine qs 10 37 AF ?_
  refine qs 11 38 AF ?_
  refine qs 12 39 AF ?_
  refine qs 13 40 AF ?_
  refine qs 14 41 AF ?_
  refine qs 15 42 AF ?_
  refine qo 2 fun K hK=>?_
  go_simp
  refine (VB BN).mono ?_
  rintro e BP ⟨rfl,hw⟩
  have AF:Below w3.heap.size w3 BP:=by rw [hw];exact AF
  clear hw
  refine hK.out _ _ (fun _=>AF) (fun Cq=>?_)
  clear hK K Cq
  (try simp only [Act.put,qS,qZ,qU])
  refine qs 3 30 AF ?_
  refine qo 16 fun K hK=>?_
  go_simp
  obtain ⟨Cz,hwn⟩:∃ wx,BP.alloc (.cells #[.int .i64 1,.int .i64 1,.int .i64 1,.int .i64 t,.int .i64 2,.int .i64 0,.int .i64 2,.int .i64 wd,.int .i64 2,.int .i64 mk,.int .i64 4,.int .i64 0] 168)=wx:=⟨_,rfl⟩
  have CB:Below BP.heap.size BP Cz:=by rw [← hwn];exact (Below.refl _ _).alloc (Nat.le_refl _) _
  have b16:Cz.heap[BP.heap.size]? = some (.cells #[.int .i64 1,.int .i64 1,.int .i64 1,.int .i64 t,.int .i64 2,.int .i64 0,.int .i64 2,.int .i64 wd,.int .i64 2,.int .i64 mk,.int .i64 4,.int .i64 0] 168):=by rw [← hwn];exact heap_alloc_new BP _
  have yF:=AF.size
  have AAR:BP.heap.size<Cz.heap.size:=by rw [← hwn];simp
  have AF:=AF.trans (CB.mono AF.size)
  rw [hwn]
  clear hwn CB
  refine hK.out _ _ (fun _=>AF) (fun Cq=>?_)
  clear hK K Cq
  (try simp only [Act.put,qS,qZ,qU])
  refine qo 17 fun K hK=>?_
  have yG:Hid (Calls Tryz.prog 81 #[.slice (some ⟨BP.heap.size,0,none⟩) 6 6] Cz fun e w'=>(∃ A c,e=.returned (.tuple #[.slice A 12 c,.int .i64 0])∧w'.ownsRow (World.heap Cz).size 5 1 (.slice A 12 c) 12 (AA AX (Aj fs)))∧Below (World.heap Cz).size Cz w'):=by
   have h9:=Hl Cz _ (.slice (some ⟨BP.heap.size,0,none⟩) 6 6) fs (fun b hb=>hb) (by rw [uL.out];exact I7 (fs:=XV t wd mk) b16 (by show 6≤1000;decide)) yD.out (by rw [uL.out];show 6≤_;decide)
   rw [RP.out] at h9
   exact h9
  go_simp
  refine yG.out.mono ?_
  rintro e Ka ⟨⟨A6,c6,rfl,aW⟩,CB⟩
  have aW:=aW.mono AF.size
  have AF:=AF.trans (CB.mono AF.size)
  clear CB yG
  refine hK.out _ _ (fun _=>AF) (fun Cq=>?_)
  clear hK K Cq
  (try simp only [Act.put,qS,qZ,qU])
  refine qs 18 26 AF ?_
  refine qs 19 45 AF ?_
  refine qs 20 46 AF ?_
  refine qs 21 6 AF ?_
  refine qs 22 7 AF ?_
  refine qd ?_
  obtain ⟨g6,lF,-,-,-⟩:=BS aW (by omega)
  subst lF
  have OA:=qh aW
  clear aW
  go_wp2_with fail
  go_meet
  exact ⟨g6,c6,rfl,AF,OA⟩
 rename World=>w5
 obtain ⟨g6,c6,h6,DT,KR⟩:=hcut
 obtain rfl:=h6.symm
 clear h6
 have hs5:=DT.out.size
 have ZR:=qh (OY.out.below DT.out OY.out.lt)
 have OZ:=qh (HB3.out.trans (DT.out.mono hs3))
 clear OY yD uL
 go_upto_region 6 with fail
 have IG:=AL.new w5 EA.toArray 5
 have Gs:Below w5.heap.size w5 (w5.alloc (.cells EA.toArray 5)):=(Below.refl _ _).alloc (Nat.le_refl _) _
 generalize w5.alloc (.cells EA.toArray 5)=w7 at *
 obtain ⟨g8,Du⟩:∃ g,w5.heap.size=g:=⟨_,rfl⟩
 have Es:=qh (OZ.out.trans (Gs.mono OZ.out.size))
 have lK:=qh (ZR.out.below Gs ZR.out.lt)
 have Hm:Hid (∀ j u,(AA AX (Aj fs))[j]? = some u→w7.cell? ((⟨g6,0,none⟩:Addr).add j)=some u):=by
  obtain ⟨g9,e9,-,-,Kq⟩:=BS (own_below KR.out Gs (Nat.le_refl _)) (by omega)
  injection e9 with e9
  injection e9 with e9
  subst e9
  exact Kq
 rw [Du] at IG ⊢
 have WN:Hid (w7.heap[g8]? = some (.cells EA.toArray 5 (0,0))):=IG
 have X7:Hid (w.heap.size≤g8):=by show _≤_;have:=OZ.out.size;omega
 have ZN:Hid (g<g8):=by show _<_;have:=ZR.out.lt;omega
 have Ow:Hid ((AA AX (Aj fs)).length=12):=by show _=_;rw [Ad,RP.out]
 have aY:Hid (EA.length=244):=Jd
 have NM:Hid (splice EA 0 (AA AX (Aj fs))=AA AX (Cr t)):=by show _=_;rw [ZQ,GR,yE.out]
 clear IG Gs Du hmk KR DT OZ ZR hs5 hs3 HB3
 go_upto_region 7 with ((with_reducible refine wpList_copy_splice ?_ (.tmp 48) (.tmp 49) 82 82 ?_ 5 Tryz.underlying82 Ye (some ⟨g8,0,none⟩) (some ⟨g6,0,none⟩) 244 244 12 c6 ?_ ?_ g8 0 EA 5 WN.out (AA AX (Aj fs)) ?_ ?_ ?_ (Cy _) g8 w7 (Below.refl _ _) (Nat.le_refl _) ?_);rfl;rfl;rfl;rfl;exact Ow.out;(intro h0;exact ⟨rfl,_,rfl,Hm.out⟩);(rw [Ow.out,aY.out];decide);(intro w8 Du KS;have Hg:=qh Du.out;have Gf:=qh KS;clear KS Du))
 rename World=>w8
 have iB:AL w8 g #[.int .i64 t,.bool true,.slice none 0 0,.slice none 0 0] 125:=lK.out.below Gf.out ZN.out
 have x2:w8.cell? ⟨g,2,none⟩=some (.slice none 0 0):=iB.at 2 _ rfl
 have Rt:Hid (w8.ownsRow w.heap.size 5 1 (.slice (some ⟨g8,0,none⟩) 244 244) 244 (AA AX (Cr t))):=by
  rw [NM.out] at Hg
  exact ⟨by rw [Ad,Po.out],.inr ⟨g8,244,_,rfl,X7.out,Hg.out,Nat.le_refl _,by decide,by rw [List.size_toArray,Ad,Po.out],by rw [List.toList_toArray,List.take_of_length_le (by rw [Ad,Po.out];decide)]⟩⟩
 have eX:Hid (Below w.heap.size w w8):=Es.out.trans (Gf.out.mono X7.out)
 clear iB WN Hg Hm Ow aY NM Es Gf lK RP yE
 go_upto_region 8 with fail
 go_loopw [54] (fun vi wr=>vi=.int .i64 0∧wr=w8) (fun vi _=>1)
 case atStart=>exact ⟨rfl,rfl⟩
 case round =>
  obtain ⟨rfl,hwr⟩:=hrel
  rw [hwr]
  clear hwr wr
  go_wp2_with fail
  refine bodyPost_ret (v:=.tuple #[.slice (some ⟨g8,0,none⟩) 244 244,.int .i64 0]) (by simp [results,Tryz.results164,go_sem]) rfl ⟨⟨_,_,rfl,Rt.out⟩,eX.out⟩
end
end Go.Proofs.YthblbddmcdnllaaGreatDoor
