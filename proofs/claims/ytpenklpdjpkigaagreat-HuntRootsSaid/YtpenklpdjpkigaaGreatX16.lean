/- A part of the proof: WSealW. -/
import Derived.Test.YtpenklpdjpkigaaGreatY14
import Derived.Test.YtpenklpdjpkigaaGreatY16
import Derived.Test.YtpenklpdjpkigaaGreatY2
import Derived.Test.YtpenklpdjpkigaaGreatY4
import Derived.Deep.OwnRows
import Derived.Lib.BufferWrite
import Derived.Lib.SlBuf
import Derived.Test.YtpenklpdjpkigaaGreatY1
set_option maxHeartbeats 6400000
set_option linter.unusedVariables false
set_option linter.unusedSimpArgs false
namespace Go.Proofs.YtpenklpdjpkigaaGreat
section
open Go.RowKit
def N8:List Value:=List.replicate 256 (Value.int .u8 0)
def JD:List UInt8:=List.replicate 256 0
theorem oJ:N8=AB Au JD:=by
 unfold N8 JD
 rw [Bu,List.map_replicate]
 rfl
theorem oK (w:World):(Instr.makeSlice 22 (.int .i64 256) (.int .i64 256)).run Tryz.prog w=.ok (.slice (some ⟨w.heap.size,0,none⟩) 256 256) (w.alloc (.cells N8.toArray 5)):=by
 have h:=run_make_row' (P:=Tryz.prog) 22 5 (.int .u8 0) 1 Tryz.underlying22 (by kernel_rfl) rfl .i64 .i64 256 (by omega) (by omega) w
 have hmz:(madeCells #[Value.int .u8 0] 256)=N8.toArray:=by kernel_rfl
 rw [hmz] at h
 exact h
def FQ (kind no:Nat) (inn:List UInt8):Nat→List UInt8
 | 0=>Gc JD 8 inn
 | 1=>Gc (Gc JD 8 inn) 0 (leB 4 no)
 | _=>Gc (Gc (Gc JD 8 inn) 0 (leB 4 no)) 4 (leB 2 kind)
theorem jG {a b c:List UInt8} (h:b.length=a.length):Gc (a++c) 0 b=b++c:=by
 unfold Gc
 rw [List.take_zero,List.nil_append,Nat.zero_add,h,List.drop_left]
theorem QG {a b c d:List UInt8} (h:b.length=c.length):Gc (a++c++d) a.length b=a++b++d:=by
 have e1:(a++c++d).drop (a.length+b.length)=d:=by
  rw [h,← List.length_append]
  exact List.drop_left
 have e2:(a++c++d).take a.length=a:=by
  rw [List.append_assoc]
  exact List.take_left
 unfold Gc
 rw [e1,e2,List.append_assoc]
theorem jH (kind no:Nat) (inn:List UInt8) (h:inn.length≤244):FQ kind no inn 2=Ex kind no inn++[0,0,0,0]:=by
 have e0:JD=([0,0,0,0,0,0,0,0]:List UInt8)++List.replicate inn.length 0++(List.replicate (244-inn.length) 0++[0,0,0,0]):=by
  have h1:([0,0,0,0,0,0,0,0]:List UInt8)=List.replicate 8 0:=rfl
  have h2:([0,0,0,0]:List UInt8)=List.replicate 4 0:=rfl
  unfold JD
  rw [h1,h2,List.replicate_append_replicate,List.replicate_append_replicate,List.replicate_append_replicate]
  congr 1
  omega
 show Gc (Gc (Gc JD 8 inn) 0 (leB 4 no)) 4 (leB 2 kind)=_
 have e1:Gc JD 8 inn=([0,0,0,0,0,0,0,0]:List UInt8)++inn++(List.replicate (244-inn.length) 0++[0,0,0,0]):=by
  rw [e0]
  exact QG (a:=[0,0,0,0,0,0,0,0]) (by rw [List.length_replicate])
 have e2:Gc (([0,0,0,0,0,0,0,0]:List UInt8)++inn++(List.replicate (244-inn.length) 0++[0,0,0,0])) 0 (leB 4 no)=leB 4 no++([0,0,0,0]++inn++(List.replicate (244-inn.length) 0++[0,0,0,0])) :=
  jG (a:=[0,0,0,0]) (c:=[0,0,0,0]++inn++(List.replicate (244-inn.length) 0++[0,0,0,0])) (CY 4 no)
 have e3:=QG (a:=leB 4 no) (b:=leB 2 kind) (c:=[0,0]) (d:=[0,0]++inn++(List.replicate (244-inn.length) 0++[0,0,0,0])) (CY 2 kind)
 rw [CY] at e3
 rw [e1,e2]
 have e4:leB 4 no++([0,0,0,0]++inn++(List.replicate (244-inn.length) 0++[0,0,0,0]))=leB 4 no++[0,0]++([0,0]++inn++(List.replicate (244-inn.length) 0++[0,0,0,0])):=by simp
 rw [e4,e3]
 unfold Ex
 simp
theorem MN (kind no:Nat) (inn:List UInt8) (h:inn.length≤244):(Ex kind no inn).length=252:=by
 unfold Ex
 simp only [List.length_append,CY,List.length_replicate,List.length_cons,List.length_nil]
 omega
theorem jI (kind no:Nat) (inn:List UInt8) (h:inn.length≤244):Gc (FQ kind no inn 2) 252 (leB 4 (GY (FQ kind no inn 2) kind))=Bq kind no inn:=by
 have hl:=MN kind no inn h
 rw [jH kind no inn h]
 unfold GY Bq
 have e1:(Ex kind no inn++[0,0,0,0]).take 252=Ex kind no inn:=by rw [← hl,List.take_left]
 rw [e1]
 have e2:=QG (a:=Ex kind no inn) (b:=leB 4 (F9 (Ex kind no inn) ^^^ FY kind)) (c:=[0,0,0,0]) (d:=[]) (CY 4 _)
 rw [hl,List.append_nil,List.append_nil] at e2
 exact e2
theorem ay (kind no:Nat) (inn:List UInt8) (h:inn.length≤244) (k:Nat):(FQ kind no inn k).length=256:=by
 have h0:(Gc JD 8 inn).length=256:=by rw [MC (by unfold JD;rw [List.length_replicate];omega)];unfold JD;rw [List.length_replicate]
 have h1:(Gc (Gc JD 8 inn) 0 (leB 4 no)).length=256:=by rw [MC (by rw [CY,h0];omega),h0]
 unfold FQ
 split
 · exact h0
 · exact h1
 · rw [MC (by rw [CY,h1];omega),h1]
theorem OQ (l:List UInt8) (kind:Int):GY l kind<4294967296:=by
 unfold GY
 exact Nat.xor_lt_two_pow (n:=32) (KO _) (YV kind)
theorem Gi {w:World} {base n c:Nat} {A:Option Addr} {l:List UInt8} (h:w.ownsRow base 5 1 (.slice A n c) n (AB Au l)) (hn:n=l.length):AX w (fun b=>b<w.heap.size) (.slice A n c) l:=by
 subst hn
 exact (CF.own D8 h (by omega)).sub (AA _) (fun b hb=>hb.2)
set_option maxRecDepth 100000 in
theorem jJ (w:World) (S:Nat→Prop) (v:Value) (inn:List UInt8) (kind no:Nat) (hS:∀ b,S b→b<w.heap.size) (h:AX w S v inn) (hl:inn.length≤244) (hk1:1≤kind) (hk4:kind≤4) (hno:no<14400) :
 Calls Tryz.prog 136 #[.int .i64 kind,.int .i64 no,v] w fun e w'=>(∃ A c,e=.returned (.tuple #[.slice A 256 c,.int .i64 0])∧w'.ownsRow w.heap.size 5 1 (.slice A 256 c) 256 (AB Au (Bq kind no inn)))∧Below w.heap.size w w':=by
 have kR:=qh (Kv w kind no)
 rw [decide_eq_true (show De kind no from ⟨by omega,by omega,by omega,by omega⟩)] at kR
 have Uw:=qh (fun (w':World) (base:Nat) (A:Option Addr) (c:Nat) (l:List UInt8) (a n x:Nat) (ho:w'.ownsRow base 5 1 (.slice A 256 c) 256 (AB Au l)) (hl:l.length=256) (hn:Lh n) (ha:a+n≤256) (hx:x<9223372036854775808) (hf:Ez x n=true)=>U0 w' (fun b=>b<w'.heap.size) (.slice A 256 c) l a n x (fun b hb=>hb) (Gi ho hl.symm) hn (by omega) (by omega) hx hf)
 have uF:=qh (fun (w':World) (base:Nat) (A:Option Addr) (c:Nat) (l:List UInt8) (ho:w'.ownsRow base 5 1 (.slice A 256 c) 256 (AB Au l)) (hl:l.length=256)=>NY w' (fun b=>b<w'.heap.size) (.slice A 256 c) l kind (fun b hb=>hb) (Gi ho hl.symm) hl)
 have HLEN:=qh (ay kind no inn hl)
 have LH:=qh (jI kind no inn hl)
 have HF4:Hid (Ez no 4=true):=by show _=_;unfold Ez;rw [decide_eq_true (by omega),decide_eq_true (show (no:Int)<256 ^ 4 by omega)];simp
 have tQ:Hid (Ez kind 2=true):=by show _=_;unfold Ez;rw [decide_eq_true (by omega),decide_eq_true (show (kind:Int)<256 ^ 2 by omega)];simp
 have HFS:Hid (∀ x:Nat,x<4294967296→Ez x 4=true):=fun x hx=>by unfold Ez;rw [decide_eq_true (by omega),decide_eq_true (show (x:Int)<256 ^ 4 by omega)];simp
 have Np:Hid (no<14400∧kind≤4):=⟨hno,hk4⟩
 have Ri:Hid (splice N8 8 (AB Au inn)=AB Au (FQ kind no inn 0)):=by show _=_;rw [oJ,JO];rfl
 have HIL:Hid ((AB Au inn).length=inn.length):=BI _
 have dU:=qh hl
 obtain ⟨A,c,rfl,hc,hr⟩:=h
 have Ga:Hid (∀ w',Below w.heap.size w w'→0<inn.length→∃ ad,A=some ad∧∀ j u,(AB Au inn)[j]? = some u→w'.cell? (ad.add j)=some u):=fun w' hB h0=>by
  obtain ⟨b,off,e,hb,hcell⟩:=BU (hr.keep (AA _) (fun _ h=>h) (AL hB hS)) h0
  exact ⟨_,e,RJ hcell⟩
 clear hr hS hk1 hk4 hno
 obtain ⟨m,hm⟩:∃ m,inn.length=m:=⟨_,rfl⟩
 have HM:=qh hm
 rw [hm] at HIL hl Ga ⊢
 have yH:(m:Int)≤244:=by omega
 have hmg:decide (244<(m:Int))=false:=decide_eq_false (by omega)
 have hmk:=oK
 go_enter Tryz.func136,Tryz.ntmps136
 go_upto_region 6 with (go_at_call 153;(with_reducible refine kR.out.mono ?_);rintro e w2 ⟨rfl,hw⟩;rw [hw];clear hw w2)
 have hg1:=AP.new w N8.toArray 5
 have hB1:Below w.heap.size w (w.alloc (.cells N8.toArray 5)):=(Below.refl _ _).alloc (Nat.le_refl _) _
 have rH:=qh (Ga.out _ hB1)
 generalize w.alloc (.cells N8.toArray 5)=w1 at *
 obtain ⟨g,hgg⟩:∃ g,w.heap.size=g:=⟨_,rfl⟩
 have oL:=qh hgg
 rw [hgg] at hg1 ⊢
 have OI:Hid (w1.heap[g]? = some (.cells N8.toArray 5 (0,0))):=hg1
 have kN:Hid (w.heap.size≤g):=by show _≤_;have:=oL.out;omega
 have HB1:=qh hB1
 have rJ:Hid (N8.length=256):=by show _=_;unfold N8;rw [List.length_replicate]
 clear hg1 hB1 hgg hmk Ga kR
 go_upto_region 7 with ((with_reducible refine wpList_copy_splice ?_ (.tmp 20) (.tmp 21) 22 22 ?_ 5 Tryz.underlying22 l9 (some ⟨g,8,none⟩) A 248 248 m c ?_ ?_ g 8 N8 5 OI.out (AB Au inn) ?_ ?_ ?_ (Dr _) w.heap.size w HB1.out kN.out ?_);rfl;rfl;rfl;rfl;(rw [HIL.out];exact (Nat.min_eq_left (by omega)).symm);(intro h0;rw [HIL.out] at h0;exact ⟨rfl,rH.out h0⟩);(rw [HIL.out,rJ.out];omega);(intro w2 hg2 hB2;have HG2:=qh hg2.out;have HB2:=qh hB2;clear hB2 hg2))
 rename World=>w2
 rw [Ri.out] at HG2
 have QX:Hid (w2.ownsRow w.heap.size 5 1 (.slice (some ⟨g,0,none⟩) 256 256) 256 (AB Au (FQ kind no inn 0))):=⟨by rw [BI,HLEN.out],.inr ⟨g,256,_,rfl,by have:=oL.out;omega,HG2.out,Nat.le_refl _,by decide,by rw [List.size_toArray,BI,HLEN.out],by rw [List.toList_toArray,List.take_of_length_le (by rw [BI,HLEN.out];decide)]⟩⟩
 have hs2:=HB2.out.size
 clear OI HG2 Ri rH HIL rJ
 go_upto_region 8 with fail
 have hg3:=AP.new w2 #[.int .i64 0,.int .i64 4,.int .i64 no,.int .i64 4,.int .i64 2,.int .i64 kind] 309
 have hB3:Below w2.heap.size w2 (w2.alloc (.cells #[.int .i64 0,.int .i64 4,.int .i64 no,.int .i64 4,.int .i64 2,.int .i64 kind] 309)):=(Below.refl _ _).alloc (Nat.le_refl _) _
 generalize w2.alloc (.cells #[.int .i64 0,.int .i64 4,.int .i64 no,.int .i64 4,.int .i64 2,.int .i64 kind] 309)=w3 at *
 have HB3:=qh (HB2.out.trans (hB3.mono hs2))
 have YS:=qh (own_below QX.out hB3 (Nat.le_refl _))
 obtain ⟨g3,AAw⟩:∃ g,w2.heap.size=g:=⟨_,rfl⟩
 rw [AAw] at hg3 ⊢
 have OP:=qh hg3
 clear hg3 hB3 AAw HB2 QX hs2
 go_wp2_with fail
 go_loopw [8,29] (fun vb vi wr=>∃ (k:Nat) (A:Option Addr) (c:Nat),vb=.slice A 256 c∧vi=.int .i64 k∧k≤2∧Hid (Below w.heap.size w wr)∧Hid (wr.ownsRow w.heap.size 5 1 (.slice A 256 c) 256 (AB Au (FQ kind no inn k)))∧Hid (Below w3.heap.size w3 wr)) (fun _ vi _=>2-(intOf vi).toNat)
 case atStart=>exact ⟨0,_,_,rfl,rfl,by omega,HB3,YS,Below.refl _ _⟩
 case round =>
  obtain ⟨k,A,c,rfl,rfl,hk,Cy,HOr,Qv⟩:=hrel
  by_cases h2:k<2
  · rcases (show k=0∨k=1 by omega) with hk0|hk1
    · obtain rfl:k=0:=by omega
      have x0:=(OP.out.below Qv.out OP.out.lt).at 0 _ rfl
      have x1:=(OP.out.below Qv.out OP.out.lt).at 1 _ rfl
      have x2:=(OP.out.below Qv.out OP.out.lt).at 2 _ rfl
      have XQ:=Cy.out.size
      have hBx:Below wr.heap.size wr (wr.alloc (.cells #[.int .i64 0,.int .i64 4,.int .i64 no] 309)):=(Below.refl _ _).alloc (Nat.le_refl _) _
      have hbx:=AP.new wr #[.int .i64 0,.int .i64 4,.int .i64 no] 309
      have M7:=qh hBx
      clear hBx
      go_upto_region 10 with fail
      generalize wr.alloc (.cells #[.int .i64 0,.int .i64 4,.int .i64 no] 309)=w4 at *
      have oM:Hid (Calls Tryz.prog 194 #[.slice A 256 c,.int .i64 0,.int .i64 4,.int .i64 no] w4 fun e w'=>(∃ A' c',e=.returned (.tuple #[.slice A' 256 c',.int .i64 0])∧w'.ownsRow w4.heap.size 5 1 (.slice A' 256 c') 256 (AB Au (FQ kind no inn 1)))∧Below w4.heap.size w4 w'):=by
       have h9:=Uw.out w4 w.heap.size A c (FQ kind no inn 0) 0 4 no (own_below HOr.out M7.out (Nat.le_refl _)) (HLEN.out _) (.inr (.inr (.inl rfl))) (by omega) (by have:=Np.out;omega) HF4.out
       rw [HLEN.out] at h9
       exact h9
      have y0:=hbx.at 0 _ rfl
      have y1:=hbx.at 1 _ rfl
      have y2:=hbx.at 2 _ rfl
      clear x0 x1 x2 hbx
      go_wp2_with (go_at_call 194;(with_reducible refine oM.out.mono ?_);rintro e w5 ⟨⟨A5,c5,rfl,Vw⟩,BS⟩;have Jb:=qh Vw;have CE:=qh (M7.out.trans (BS.mono M7.out.size));have hs5:=M7.out.size;clear Vw BS)
      have PM:Hid (World.ownsRow _ w.heap.size 5 1 (.slice A5 256 c5) 256 (AB Au (FQ kind no inn 1))):=Jb.out.mono (by omega)
      have Dz:=qh (Cy.out.trans (CE.out.mono XQ))
      have Xc:=qh (Qv.out.trans (CE.out.mono Qv.out.size))
      go_roundw
      case rel=>exact ⟨1,A5,c5,rfl,by go_num,by omega,Dz,PM,Xc⟩
      case measure=>simp [intOf]
    · obtain rfl:k=1:=by omega
      have x0:=(OP.out.below Qv.out OP.out.lt).at 3 _ rfl
      have x1:=(OP.out.below Qv.out OP.out.lt).at 4 _ rfl
      have x2:=(OP.out.below Qv.out OP.out.lt).at 5 _ rfl
      have XQ:=Cy.out.size
      have hBx:Below wr.heap.size wr (wr.alloc (.cells #[.int .i64 4,.int .i64 2,.int .i64 kind] 309)):=(Below.refl _ _).alloc (Nat.le_refl _) _
      have hbx:=AP.new wr #[.int .i64 4,.int .i64 2,.int .i64 kind] 309
      have M7:=qh hBx
      clear hBx
      go_upto_region 10 with fail
      generalize wr.alloc (.cells #[.int .i64 4,.int .i64 2,.int .i64 kind] 309)=w4 at *
      have oM:Hid (Calls Tryz.prog 194 #[.slice A 256 c,.int .i64 4,.int .i64 2,.int .i64 kind] w4 fun e w'=>(∃ A' c',e=.returned (.tuple #[.slice A' 256 c',.int .i64 0])∧w'.ownsRow w4.heap.size 5 1 (.slice A' 256 c') 256 (AB Au (FQ kind no inn 2)))∧Below w4.heap.size w4 w'):=by
       have h9:=Uw.out w4 w.heap.size A c (FQ kind no inn 1) 4 2 kind (own_below HOr.out M7.out (Nat.le_refl _)) (HLEN.out _) (.inr (.inl rfl)) (by omega) (by have:=Np.out;omega) tQ.out
       rw [HLEN.out] at h9
       exact h9
      have y0:=hbx.at 0 _ rfl
      have y1:=hbx.at 1 _ rfl
      have y2:=hbx.at 2 _ rfl
      clear x0 x1 x2 hbx
      go_wp2_with (go_at_call 194;(with_reducible refine oM.out.mono ?_);rintro e w5 ⟨⟨A5,c5,rfl,Vw⟩,BS⟩;have Jb:=qh Vw;have CE:=qh (M7.out.trans (BS.mono M7.out.size));have hs5:=M7.out.size;clear Vw BS)
      have PM:Hid (World.ownsRow _ w.heap.size 5 1 (.slice A5 256 c5) 256 (AB Au (FQ kind no inn 2))):=Jb.out.mono (by omega)
      have Dz:=qh (Cy.out.trans (CE.out.mono XQ))
      have Xc:=qh (Qv.out.trans (CE.out.mono Qv.out.size))
      go_roundw
      case rel=>exact ⟨2,A5,c5,rfl,by go_num,by omega,Dz,PM,Xc⟩
      case measure=>simp [intOf]
  · obtain rfl:k=2:=by omega
    have XQ:=Cy.out.size
    have HS2:=qh (uF.out wr w.heap.size A c (FQ kind no inn 2) HOr.out (HLEN.out _))
    have Nu:=qh (OQ (FQ kind no inn 2) kind)
    have vQ:Hid (∀ w',Below wr.heap.size wr w'→Calls Tryz.prog 194 #[.slice A 256 c,.int .i64 252,.int .i64 4,.int .i64 (GY (FQ kind no inn 2) kind:Nat)] w' fun e w''=>(∃ A' c',e=.returned (.tuple #[.slice A' 256 c',.int .i64 0])∧w''.ownsRow w'.heap.size 5 1 (.slice A' 256 c') 256 (AB Au (Bq kind no inn)))∧Below w'.heap.size w' w''):=fun w' hB=>by
     have h9:=Uw.out w' w.heap.size A c (FQ kind no inn 2) 252 4 (GY (FQ kind no inn 2) kind) (own_below HOr.out hB (Nat.le_refl _)) (HLEN.out _) (.inr (.inr (.inl rfl))) (by omega) (by have:=Nu.out;omega) (HFS.out _ Nu.out)
     rw [HLEN.out,LH.out] at h9
     exact h9
    generalize GY (FQ kind no inn 2) kind=sm at *
    go_wp2_with (first|(go_at_call 157;(with_reducible refine HS2.out.mono ?_);rintro e w4 ⟨rfl,hB4⟩;have CL:=qh hB4;clear hB4)|(go_at_call 194;(with_reducible refine (vQ.out _ CL.out).mono ?_);rintro e w5 ⟨⟨A5,c5,rfl,Vw⟩,BS⟩;have Jb:=qh Vw;have CE:=qh BS;clear Vw BS))
    have hs4:=CL.out.size
    refine bodyPost_ret (v:=.tuple #[.slice A5 256 c5,.int .i64 0]) (by simp [results,Tryz.results136,go_sem]) rfl ⟨⟨A5,c5,rfl,Jb.out.mono (by omega)⟩,Cy.out.trans ((CL.out.trans (CE.out.mono hs4)).mono XQ)⟩
end
end Go.Proofs.YtpenklpdjpkigaaGreat
