/- A part of the proof: Strs, WElI, NodeR, WCode1, WRCrc. -/
import Derived.Test.YthblbddmcdnllaaGreatDoorX2
import Derived.Test.YthblbddmcdnllaaGreatDoorProg
import Derived.Test.YthblbddmcdnllaaGreatDoorX3
import Derived.Laws.BitsAllLaws
import Derived.Lib.Hide
import Derived.Deep.QuietTactic
import Derived.BigQuiet
import Derived.Outline
import Derived.Test.YthblbddmcdnllaaGreatDoorY1
set_option maxHeartbeats 6400000
set_option linter.unusedVariables false
set_option linter.unusedSimpArgs false
namespace Go.Proofs.YthblbddmcdnllaaGreatDoor
section
open Go.RowKit
def encS (b:List UInt8):List Value:=[.string (BJ b)]
theorem O9 (b:List UInt8):(encS b).length=1:=rfl
theorem Vs (b:List UInt8):∀ x∈encS b,x.oneCell'=true:=by intro x hx;simp [encS] at hx;subst hx;rfl
abbrev Jw (w:World) (S:Nat→Prop) (v:Value) (l:List (List UInt8)):Prop:=Bp (Flat encS) 1 [] w S v l
theorem K9 {w:World} {S:Nat→Prop} {A:Option Addr} {B:List (List UInt8)} (h:Bw (Flat encS) 1 [] w S A B) (hl:0<B.length) :
 ∃ b off,A=some ⟨b,off,none⟩∧S b∧∀ k,k<B.length→w.cell? ⟨b,off+k,none⟩=some (.string (BJ (nth [] B k))):=by
 obtain ⟨b,off,e,hb,hc⟩:=h hl
 refine ⟨b,off,e,hb,fun k hk=>?_⟩
 obtain ⟨cs,_,hr,h3⟩:=hc k hk
 obtain rfl:cs=_:=hr
 have:=h3 0 _ rfl
 simpa using this
end
section
open Go.RowKit
theorem Ha:Elem Tryz.prog 62 3 1 8 encI:=⟨Tryz.underlying62,⟨_,(by kernel_rfl:(Tryz.prog.info? 3).map (fun i=>(i.zero,i.size,i.bytes))=some (some (.int .i64 0),1,8)),rfl⟩,by omega,by omega,Bu,Vn⟩
theorem ic:Elem Tryz.prog 123 9 1 16 encS:=⟨Tryz.underlying123,⟨_,(by kernel_rfl:(Tryz.prog.info? 9).map (fun i=>(i.zero,i.size,i.bytes))=some (some (.string ByteArray.empty),1,16)),rfl⟩,by omega,by omega,O9,Vs⟩
end
section
open Go.RowKit
theorem LQ {w:World} {S:Nat→Prop} {b off c a n:Nat} {l:List UInt8} (h:De w S (some ⟨b,off,none⟩) l) (hc:l.length≤c) (ha:a+n≤l.length):AU w S (.slice (some ⟨b,off+a,none⟩) n (c-a)) (BF l a n):=by
 have hl:(BF l a n).length=n:=Ej ha
 refine ⟨_,c-a,by rw [hl],by rw [hl];omega,?_⟩
 intro hp
 rw [hl] at hp
 have h0:=h.drop (k:=a) (by omega) hc
 rw [if_neg (by omega)] at h0
 have h1:De w S _ ((l.drop a).take n):=Bw.take h0 n
 have e:Option.map (fun x:Addr=>x.add (a*1)) (some ⟨b,off,none⟩)=some ⟨b,off+a,none⟩:=by
  simp only [Option.map_some,add_lit,Nat.mul_one]
 rw [e] at h1
 exact h1 (by rw [show ((l.drop a).take n).length=n from hl];exact hp)
theorem UD {l:List UInt8} {a n:Nat} (h:a+n=l.length):BF l a n=l.drop a:=by
 unfold BF
 exact List.take_of_length_le (by rw [List.length_drop];omega)
theorem TH {w:World} {S:Nat→Prop} {b off c a n:Nat} {l:List UInt8} (hS:∀ b,S b→b<w.heap.size) (h:De w S (some ⟨b,off,none⟩) l) (hc:l.length≤c) (ha:a+n≤l.length) :
 ∀ w',Below w.heap.size w w'→(convert 82 9 (.slice (some ⟨b,off+a,none⟩) n (c-a))).run Tryz.prog w'=.ok (.string (BJ (BF l a n))) w':=fun w' hB=>by
 obtain ⟨A,c',e,hc',hr⟩:=(LQ h hc ha)
 have hl:(BF l a n).length=n:=Ej ha
 have hr2:De w' S A (BF l a n):=hr.keep (AB _) (fun _ h=>h) (AR hB hS)
 have:=K5 (P:=Tryz.prog) (c:=c') 82 5 Tryz.underlying82 Tryz.underlying5 hr2 9 Tryz.underlying9
 rw [e]
 exact this
end
section
open Go.RowKit
attribute [local go_sem] Oper.semAt_some
theorem M8 (w:World) (n:Nat) (h:Nk n):Calls Tryz.prog 121 #[.int .i64 n] w fun e w'=>e=.returned (.bool true)∧w'=w:=by
 rcases h with rfl|rfl|rfl|rfl <;>
 · go_enter Tryz.func121,Tryz.ntmps121
   go_wp2
   go_ret
   exact ⟨rfl,rfl⟩
theorem M9 (w:World) (A:Option Addr) (len c a n:Nat) (hn:Nk n) (h:a+n≤len) (hl:len≤140737488355328):Calls Tryz.prog 149 #[.slice A len c,.int .i64 a,.int .i64 n] w fun e w'=>e=.returned (.int .i64 0)∧w'=w:=by
 have HK:=qh (M8 w n hn)
 have hw:IntKind.i64.wrap ((len:Int)-(a:Int))=(len:Int)-(a:Int):=by rw [IntKind.wrap_i64];omega
 have h1:¬ (a:Int)<0:=by omega
 have h2:decide ((len:Int)<(a:Int))=false:=decide_eq_false (by omega)
 have h3:decide ((len:Int)-(a:Int)<(n:Int))=false:=decide_eq_false (by omega)
 clear hn
 go_enter Tryz.func149,Tryz.ntmps149
 go_wp2_with (go_at_call 121;refine HK.out.mono ?_;rintro e w3 ⟨rfl,rfl⟩)
 go_ret
 exact ⟨rfl,rfl⟩
theorem UF {l:List UInt8} {a n j:Nat} (hj:j<n) (h:a+n≤l.length):AC l (a+j) (n-j)=(nth 0 l (a+j)).toNat+256*AC l (a+(j+1)) (n-(j+1)):=by
 unfold AC
 rw [show n-j=(n-(j+1))+1 by omega,Tu (by omega),Gr]
 rfl
theorem Q8 {l:List UInt8} {a n j:Nat} (hj:j<n) (hn:n≤8):AC l (a+(j+1)) (n-(j+1))<72057594037927936:=by
 have h:=EF (l:=l) (a:=a+(j+1)) (n:=n-(j+1))
 have h2:256 ^ (n-(j+1))≤256 ^ 7:=Nat.pow_le_pow_right (by omega) (by omega)
 omega
set_option maxRecDepth 100000 in
theorem IC (w:World) (S:Nat→Prop) (v:Value) (l:List UInt8) (a n:Nat) (hS:∀ b,S b→b<w.heap.size) (h:AU w S v l) (hn:Nk n) (ha:a+n≤l.length) (hl:l.length≤140737488355328) :
 Calls Tryz.prog 89 #[v,.int .i64 a,.int .i64 n] w fun e w'=>e=.returned (if 9223372036854775808≤AC l a n then .tuple #[.int .i64 0,.int .i64 2] else .tuple #[.int .i64 (AC l a n:Nat),.int .i64 0])∧w'=w:=by
 have zA:n≤8:=by rcases hn with h|h|h|h <;> omega
 have hn1:1≤n:=by rcases hn with h|h|h|h <;> omega
 obtain ⟨A,c,rfl,hc,hr⟩:=h
 have HT:=qh (M9 w A l.length c a n hn ha hl)
 have hcl:=BU hr (by omega)
 have HST:Hid (∀ j,j<n→AC l (a+j) (n-j)=(nth 0 l (a+j)).toNat+256*AC l (a+(j+1)) (n-(j+1))∧AC l (a+(j+1)) (n-(j+1))<72057594037927936):=fun j hj=>⟨UF hj ha,Q8 hj zA⟩
 obtain ⟨b,off,rfl,hb,hcl⟩:=hcl
 have Qk:=qh hcl
 obtain ⟨R,hR⟩:∃ R,AC l a n=R:=⟨_,rfl⟩
 have HR:=qh hR
 rw [hR]
 clear hr hn hcl hR
 generalize hnn:l.length=len at *
 have HN:=qh hnn
 clear hnn
 have hwn:IntKind.i64.wrap ((n:Int)-1)=(n:Int)-1:=by rw [IntKind.wrap_i64];omega
 obtain ⟨X,hX⟩:∃ X:Value,(if 9223372036854775808≤R then Value.tuple #[.int .i64 0,.int .i64 2] else .tuple #[.int .i64 (R:Nat),.int .i64 0])=X:=⟨_,rfl⟩
 rw [hX]
 have HX:=qh hX
 clear hX
 go_enter Tryz.func89,Tryz.ntmps89
 go_wp2_with (go_at_call 149;refine HT.out.mono ?_;rintro e w3 ⟨rfl,rfl⟩)
 go_loopw [9,10] (fun vn vi wr=>∃ (j q:Nat),vi=.int .i64 ((j:Int)-1)∧vn=.int .u64 q∧j≤n∧Hid (q=AC l (a+j) (n-j))∧wr=w3) (fun _ vi _=>(intOf vi+1).toNat)
 case atStart=>exact ⟨n,0,rfl,rfl,by omega,by show _=_;rw [Nat.sub_self];simp [AC,BF,Gr],rfl⟩
 case round =>
  obtain ⟨j,q,rfl,rfl,hj,HQ,rfl⟩:=hrel
  cases j with
  | zero =>
   have HE:Hid (q=R):=by
    show _=_
    have e:=HQ.out
    rw [Nat.add_zero,Nat.sub_zero,HR.out] at e
    exact e
   have hqe:=HE.out
   subst hqe
   by_cases hbig:9223372036854775808≤q
   · have hbz:(9223372036854775808:Int)≤(q:Int):=by omega
     have pJ:Hid (X=.tuple #[.int .i64 0,.int .i64 2]):=by show _=_;rw [← HX.out,if_pos hbig]
     go_wp2_with fail
     go_ret2
     exact ⟨by rw [pJ.out];rfl,rfl⟩
   · have hbz:¬ (9223372036854775808:Int)≤(q:Int):=by omega
     have hwq:IntKind.i64.wrap (q:Int)=(q:Int):=by rw [IntKind.wrap_i64];omega
     have pJ:Hid (X=.tuple #[.int .i64 (q:Nat),.int .i64 0]):=by show _=_;rw [← HX.out,if_neg hbig]
     go_wp2_with fail
     go_ret2
     exact ⟨by rw [pJ.out];rfl,rfl⟩
  | succ j =>
   rw [show (((j+1:Nat):Int)-1)=(j:Int) by omega]
   obtain ⟨e1,e2⟩:=HST.out j (by omega)
   have zB:q<72057594037927936:=by rw [HQ.out];exact e2
   have c0:=Qk.out (a+j) (by omega)
   obtain ⟨u,hu⟩:∃ u,nth 0 l (a+j)=u:=⟨_,rfl⟩
   rw [hu] at c0 e1
   have nR:=u.toNat_lt
   obtain ⟨y,hy⟩:∃ y,q*256+u.toNat=y:=⟨_,rfl⟩
   have HY:Hid (y=AC l (a+j) (n-j)):=by show _=_;rw [e1,← hy,HQ.out];omega
   have hor:bits .or .u64 ((q:Int)*256) (u.toNat:Int)=(y:Int):=by
    have h:=u64_or_nat (q*256) u.toNat (by omega) (by omega)
    rw [nat_join 8 (q*256) u.toNat (by omega) (by omega),hy] at h
    rw [show ((q:Int)*256)=((q*256:Nat):Int) by omega]
    exact h
   have hws:IntKind.u64.wrap ((q:Int)*256)=(q:Int)*256:=by rw [IntKind.wrap_u64];omega
   have zC:IntKind.u64.wrap (u.toNat:Int)=(u.toNat:Int):=by rw [IntKind.wrap_u64];omega
   obtain ⟨x,hx⟩:∃ x,a+j=x:=⟨_,rfl⟩
   have hwx:IntKind.i64.wrap ((a:Int)+(j:Int))=(x:Int):=by rw [IntKind.wrap_i64];omega
   have hxl:(x:Int)<(len:Int):=by omega
   have hwj:IntKind.i64.wrap ((j:Int)-1)=(j:Int)-1:=by rw [IntKind.wrap_i64];omega
   rw [hx] at c0
   clear hx hy hu e1 e2
   go_wp2_with fail
   go_roundw
   case rel=>exact ⟨j,y,rfl,rfl,by clear hor;omega,HY,trivial⟩
   case measure=>(clear hor;simp [intOf])
end
section
open Go.RowKit
attribute [local go_sem] Oper.semAt_some
theorem PR (a b:Nat) (ha:a<9223372036854775808) (hb:b<9223372036854775808):bits .xor .i64 (a:Int) (b:Int)=((a ^^^ b:Nat):Int):=by
 have hx:a ^^^ b<2 ^ 63:=Nat.xor_lt_two_pow (by omega) (by omega)
 show IntKind.i64.wrap ((BitVec.ofInt 64 (a:Int) ^^^ BitVec.ofInt 64 (b:Int)).toNat:Int)=_
 rw [BitVec.toNat_xor,ofInt_u64 a (by omega),ofInt_u64 b (by omega),IntKind.wrap_i64]
 omega
theorem Vy {q x k:Nat} {l:List UInt8} (h:IR q (l.drop k)=IR x l) (hk:l.length≤k):q=IR x l:=by
 rw [← h,List.drop_of_length_le hk]
 rfl
end
end Go.Proofs.YthblbddmcdnllaaGreatDoor
