/- A part of the proof: Cells, Bytes, CodeP, UnpP, CrcP. -/
import Derived.Test.YthblbddmcdnllaaGreatDoorY1
import Derived.Deep.Slices
import Derived.Laws.BytesArg
import Derived.Laws.CopyOwn
set_option maxHeartbeats 6400000
set_option linter.unusedVariables false
set_option linter.unusedSimpArgs false
namespace Go.Proofs.YthblbddmcdnllaaGreatDoor
section
open Go.RowKit
def Kj {α:Type} (R:Xy α) (size:Nat) (d:α) (w:World) (S:Nat→Prop) (l:List α) (xs:List Value):Prop :=
 xs.length=l.length*size∧∀ k,k<l.length→∃ cs,cs.length=size∧R w S cs (nth d l k)∧∀ j,j<size→xs[k*size+j]? = cs[j]?
section
variable {α:Type} {R:Xy α} {size:Nat} {d:α} {w w':World} {S S':Nat→Prop} {l:List α} {xs:List Value}
theorem Kj.one (h:Kj R size d w S l xs) (hone:∀ (w:World) (S:Nat→Prop) cs x,R w S cs x→∀ u∈cs,u.oneCell'=true):∀ u∈xs,u.oneCell'=true:=by
 intro u hu
 obtain ⟨i,hi,rfl⟩:=List.getElem_of_mem hu
 have hlen:=h.1
 have hsz:0<size:=by
  rcases Nat.eq_zero_or_pos size with h0|h0
  · subst h0;omega
  · exact h0
 have hk:i / size<l.length:=by rw [Nat.div_lt_iff_lt_mul hsz];omega
 obtain ⟨cs,h1,h2,h3⟩:=h.2 _ hk
 have h4:=h3 (i % size) (Nat.mod_lt _ hsz)
 rw [Nat.div_add_mod' i size,List.getElem?_eq_getElem hi] at h4
 exact hone _ _ cs _ h2 _ (List.mem_of_getElem? h4.symm)
theorem O7 {b off:Nat} (h:Bw R size d w S (some ⟨b,off,none⟩) l):∃ xs,Kj R size d w S l xs∧∀ j u,xs[j]? = some u→w.cell? ⟨b,off+j,none⟩=some u:=by
 by_cases hl:0<l.length
 · obtain ⟨b',off',e,hb,hc⟩:=h hl
   injection e with e
   injection e with e1 e2
   subst e1 e2
   obtain ⟨css,hcs⟩:=Go.Deep.choose_lt hc
   refine ⟨(List.range (l.length*size)).map fun j=>(css (j / size)).getD (j % size) undef,⟨by simp,fun k hk=>?_⟩,fun j u hu=>?_⟩
   · obtain ⟨h1,h2,h3⟩:=hcs k hk
     refine ⟨css k,h1,h2,fun j hj=>?_⟩
     have hlt:k*size+j<l.length*size:=by
      have:(k+1)*size≤l.length*size:=Nat.mul_le_mul_right _ hk
      rw [Nat.add_mul] at this
      omega
     have e1:(k*size+j) / size=k:=by rw [Nat.mul_comm,Nat.mul_add_div (by omega),Nat.div_eq_of_lt hj];omega
     have e2:(k*size+j) % size=j:=by rw [Nat.mul_comm,Nat.mul_add_mod,Nat.mod_eq_of_lt hj]
     rw [List.getElem?_map,List.getElem?_range hlt]
     simp only [Option.map_some,e1,e2]
     rw [List.getElem?_eq_getElem (by omega)]
     simp [List.getD,h1,hj]
   · have hj:j<l.length*size:=by
       have:=(List.getElem?_eq_some_iff.1 hu).1
       simpa using this
     have hsz:0<size:=by
      rcases Nat.eq_zero_or_pos size with h0|h0
      · subst h0;omega
      · exact h0
     have hk:j / size<l.length:=by rw [Nat.div_lt_iff_lt_mul hsz];omega
     obtain ⟨h1,h2,h3⟩:=hcs _ hk
     have hm:=Nat.mod_lt j hsz
     rw [List.getElem?_map,List.getElem?_range hj] at hu
     simp only [Option.map_some,Option.some.injEq] at hu
     have h4:=h3 (j % size) _ (List.getElem?_eq_getElem (by omega))
     rw [Nat.add_assoc,Nat.div_add_mod' j size] at h4
     rw [h4,← hu]
     simp [List.getD,List.getElem?_eq_getElem (show j % size<(css (j / size)).length by omega)]
 · obtain rfl:l=[]:=List.eq_nil_of_length_eq_zero (by omega)
   exact ⟨[],⟨by simp,fun k hk=>by simp at hk⟩,fun j u hu=>by simp at hu⟩
end
theorem Bl {P:Program} {w:World} {ops:Array Oper} {rest:List Oper} {o:Oper} {a:Act} {Q:Exit→Act→World→Prop} {t e size bytes:Nat} {z:Value}
 (hu:P.underlying t=some (.slice e)) (hinfo:(P.info? e).map (fun i=>(i.zero,i.size,i.bytes))=some (some z,size,bytes)) (hz:z.cells.size=size) (hsz:0<size) (hby:0<bytes)
 (hg:o.guard=none) (s y:Operand) (hop:o.op=Op.call { callee:=Callee.builtin Builtin.append,args:=#[s,y],argTypes:=#[t,t] })
 (base:Nat) (v:Value) (n:Nat) (xs:List Value) (hs:a.eval s=v) (hown:w.ownsRow base e size v n xs) (ad:Addr) (m c:Nat) (news:List Value) (hy:a.eval y=.slice (some ad) m c)
 (hl:news.length=m*size) (hc:∀ j u,news[j]? = some u→w.cell? (ad.add j)=some u) (h1:∀ u∈news,u.oneCell'=true) (hb:(n+m)*bytes≤140737488355328) (hbase:base≤w.heap.size)
 (hK:∀ A cap w',w'.ownsRow base e size (.slice A (n+m) cap) (n+m) (xs++news)→w.grownBy w' v.ownBlock→wpList P ops Q rest (a.put o.dst (.slice A (n+m) cap)) w') :
 wpList P ops Q (o :: rest) a w:=by
 obtain ⟨i0,hi,hz0,hz1,hz2⟩:=info_parts hinfo
 have hm:n+m≤maxLen:=by
  have:=Nat.mul_le_mul_left (n+m) hby
  unfold maxLen;omega
 refine wpList_append_own _ hg s y t hop base e i0 z size bytes hu hi hz0 hz1 hz2 hz hsz v n xs hs hown ad m c news hy hl hc h1 hm hb hbase ?_
 intro v' w1 hown1 hgrow _
 obtain ⟨A,cap,rfl,_⟩:=DK hown1
 exact hK A cap w1 hown1 hgrow
theorem add_lit (b off j:Nat):(⟨b,off,none⟩:Addr).add j=⟨b,off+j,none⟩:=by
 unfold Addr.add
 split
 · rename_i h;subst h;rfl
 · rfl
theorem JH {α:Type} {R:Xy α} {size:Nat} {d:α} {w:World} {S:Nat→Prop} {l:List α} {a:Addr} (h:Bw R size d w S (some a) l):∃ xs,Kj R size d w S l xs∧∀ j u,xs[j]? = some u→w.cell? (a.add j)=some u:=by
 by_cases hl:0<l.length
 · obtain ⟨b,off,e,hb,hc⟩:=h hl
   injection e with e
   subst e
   obtain ⟨xs,h1,h2⟩:=O7 h
   exact ⟨xs,h1,fun j u hu=>by rw [add_lit];exact h2 j u hu⟩
 · obtain rfl:l=[]:=List.eq_nil_of_length_eq_zero (by omega)
   exact ⟨[],⟨by simp,fun k hk=>by simp at hk⟩,fun j u hu=>by simp at hu⟩
end
section
open Go.RowKit
def AX (u:UInt8):List Value:=[.int .u8 (u.toNat:Int)]
theorem DY (u:UInt8):(AX u).length=1:=rfl
abbrev De (w:World) (S:Nat→Prop) (A:Option Addr) (l:List UInt8):Prop:=Bw (Flat AX) 1 (0:UInt8) w S A l
abbrev AU (w:World) (S:Nat→Prop) (v:Value) (l:List UInt8):Prop:=Bp (Flat AX) 1 (0:UInt8) w S v l
theorem BU {w:World} {S:Nat→Prop} {A:Option Addr} {l:List UInt8} (h:De w S A l) (hl:0<l.length) :
 ∃ b off,A=some ⟨b,off,none⟩∧S b∧∀ k,k<l.length→w.cell? ⟨b,off+k,none⟩=some (.int .u8 ((nth 0 l k).toNat:Int)):=by
 obtain ⟨b,off,e,hb,hc⟩:=h hl
 refine ⟨b,off,e,hb,fun k hk=>?_⟩
 obtain ⟨cs,_,hr,h3⟩:=hc k hk
 obtain rfl:cs=_:=hr
 have:=h3 0 _ rfl
 simpa using this
theorem BQ (l:List UInt8):AA AX l=l.map fun u=>Value.int .u8 (u.toNat:Int):=by
 induction l with
 | nil=>rfl
 | cons a l ih=>rw [List.map_cons,← ih];rfl
theorem Ad (l:List UInt8):(AA AX l).length=l.length:=by rw [BQ,List.length_map]
theorem Cy (l:List UInt8):∀ x∈AA AX l,x.oneCell'=true:=by
 intro x hx
 rw [BQ] at hx
 obtain ⟨u,_,rfl⟩:=List.mem_map.1 hx
 rfl
def BJ (l:List UInt8):ByteArray:=⟨l.toArray⟩
theorem IB (l:List UInt8):(BJ l).size=l.length:=by simp [BJ,ByteArray.size]
theorem O8 (l:List UInt8):strOfNums (l.map fun u=>(u.toNat:Int))=BJ l:=by
 unfold strOfNums BJ
 congr 2
 rw [List.map_map]
 conv=>rhs;rw [← List.map_id l]
 apply List.map_congr_left
 intro u _
 simp
theorem K5 {P:Program} {w:World} {S:Nat→Prop} {A:Option Addr} {c:Nat} {l:List UInt8} (src e:TypeId) (hs:P.underlying src=some (.slice e)) (he:P.underlying e=some (.int .u8)) (h:De w S A l) :
 ∀ dst,P.underlying dst=some .string→(convert src dst (.slice A l.length c)).run P w=.ok (.string (BJ l)) w:=by
 intro dst hd
 by_cases hl:0<l.length
 · obtain ⟨b,off,rfl,_,hc⟩:=BU h hl
   rw [← O8]
   refine run_convert_bytes_arg w src e hs he b off l.length c _ (by simp) (fun i hi=>?_) dst hd
   rw [hc i hi,AZ 0 l i hi]
   simp [hi]
 · obtain rfl:l=[]:=List.eq_nil_of_length_eq_zero (by omega)
   cases A with
   | none=>exact run_convert_bytes_nil w src e hs he _ _ dst hd
   | some a =>
    obtain ⟨b,off,q⟩:=a
    have hl:(loadCells ⟨b,off,q⟩ 0).run P w=.ok (([]:List Int).map (Value.int .u8)).toArray w:=by
     simpa using run_loadCells_list (P:=P) w ⟨b,off,q⟩ [] (fun j v hj=>by simp at hj)
    rw [List.length_nil,run_convert_bytes_string w src dst e _ 0 c hs he hd,run_bytesToString w _ 0 c [] hl,foldl_push_bytes]
    rfl
end
section
open Go.RowKit
def Gr:List UInt8→Nat
 | []=>0
 | b :: l=>b.toNat+256*Gr l
def leB:Nat→Nat→List UInt8
 | 0,_=>[]
 | w+1,n=>UInt8.ofNat (n % 256) :: leB w (n / 256)
theorem Br:∀ (w n:Nat),(leB w n).length=w
 | 0,_=>rfl
 | w+1,n=>by rw [leB,List.length_cons,Br w]
theorem Vq:∀ l:List UInt8,Gr l<256 ^ l.length
 | []=>by simp [Gr]
 | b :: l=>by
  have h:=Vq l
  have hb:=b.toNat_lt
  rw [Gr,List.length_cons,Nat.pow_succ]
  omega
theorem TA:∀ (w n:Nat),n<256 ^ w→Gr (leB w n)=n
 | 0,n,h=>by simp at h;simp [leB,Gr,h]
 | w+1,n,h=>by
  have hn:n / 256<256 ^ w:=by
   rw [Nat.div_lt_iff_lt_mul (by omega),← Nat.pow_succ]
   exact h
  rw [leB,Gr,TA w _ hn,UInt8.toNat_ofNat']
  omega
theorem TB:∀ l:List UInt8,leB l.length (Gr l)=l
 | []=>rfl
 | b :: l=>by
  have hb:=b.toNat_lt
  rw [List.length_cons,Gr,leB,show (b.toNat+256*Gr l) / 256=Gr l by omega,TB l,show (b.toNat+256*Gr l) % 256=b.toNat by omega]
  simp
def BF (l:List UInt8) (a n:Nat):List UInt8:=(l.drop a).take n
theorem Ej {l:List UInt8} {a n:Nat} (h:a+n≤l.length):(BF l a n).length=n:=by
 simp [BF];omega
def AC (l:List UInt8) (a n:Nat):Nat:=Gr (BF l a n)
theorem Tu {l:List UInt8} {a n:Nat} (h:a<l.length):BF l a (n+1)=nth 0 l a :: BF l (a+1) n:=by
 unfold BF
 rw [List.drop_eq_getElem_cons h,List.take_succ_cons,AZ 0 l a h]
theorem EF {l:List UInt8} {a n:Nat}:AC l a n<256 ^ n:=by
 have h:=Vq (BF l a n)
 refine Nat.lt_of_lt_of_le h (Nat.pow_le_pow_right (by omega) ?_)
 simp [BF];omega
def DZ (l:List UInt8):Bool:=l.all (·==0)
end
section
open Go.RowKit
def Nk (n:Nat):Prop:=n=1∨n=2∨n=4∨n=8
def Cb:List Nat→Nat
 | []=>0
 | w :: ws=>w+Cb ws
theorem G5 (a b:List Nat):Cb (a++b)=Cb a+Cb b:=by
 induction a with
 | nil=>simp [Cb]
 | cons x l ih=>simp only [List.cons_append,Cb,ih];omega
theorem GI (l:List Nat) (k:Nat):Cb (l.take k)≤Cb l:=by
 have:Cb l=Cb (l.take k)+Cb (l.drop k):=by rw [← G5,List.take_append_drop]
 omega
theorem Fw (l:List Nat) (k:Nat) (h:k<l.length):Cb (l.take (k+1))=Cb (l.take k)+nth 0 l k:=by
 rw [Ck 0 l k h,G5];simp [Cb]
def Df (l:List UInt8):Nat→List Nat→List Int
 | _,[]=>[]
 | a,w :: ws=>(AC l a w:Int) :: Df l (a+w) ws
theorem KL (l:List UInt8):∀ (x y:List Nat) (a:Nat),Df l a (x++y)=Df l a x++Df l (a+Cb x) y
 | [],y,a=>by simp [Df,Cb]
 | w :: ws,y,a=>by simp only [List.cons_append,Df,KL l ws y,Cb,Nat.add_assoc]
theorem Fx (l:List UInt8):∀ (x:List Nat) (a:Nat),(Df l a x).length=x.length
 | [],_=>rfl
 | _ :: ws,a=>by simp [Df,Fx l ws]
theorem Tv (l:List UInt8) (ws:List Nat) (k:Nat) (h:k<ws.length):Df l 0 (ws.take (k+1))=Df l 0 (ws.take k)++[(AC l (Cb (ws.take k)) (nth 0 ws k):Int)]:=by
 rw [Ck 0 ws k h,KL,Nat.zero_add];rfl
def FQ (l:List UInt8):Nat→List Nat→Bool
 | _,[]=>false
 | a,w :: ws=>decide (9223372036854775808≤AC l a w) || FQ l (a+w) ws
theorem G6 (l:List UInt8):∀ (x y:List Nat) (a:Nat),FQ l a (x++y)=(FQ l a x || FQ l (a+Cb x) y)
 | [],y,a=>by simp [FQ,Cb]
 | w :: ws,y,a=>by simp only [List.cons_append,FQ,G6 l ws y,Cb,Nat.add_assoc,Bool.or_assoc]
theorem Mw (l:List UInt8) (ws:List Nat) (k:Nat) (h:k<ws.length):FQ l 0 (ws.take (k+1))=(FQ l 0 (ws.take k) || decide (9223372036854775808≤AC l (Cb (ws.take k)) (nth 0 ws k))):=by
 rw [Ck 0 ws k h,G6,Nat.zero_add];simp [FQ]
theorem YH {l:List UInt8} {ws:List Nat} {k:Nat} (h:k<ws.length) (hb:9223372036854775808≤AC l (Cb (ws.take k)) (nth 0 ws k)):FQ l 0 ws=true:=by
 rw [← List.take_append_drop (k+1) ws,G6,Mw l ws k h,decide_eq_true hb];simp
theorem K6 (l:List UInt8):∀ (ws:List Nat) (a:Nat),(∀ w∈ws,w≤4)→FQ l a ws=false
 | [],_,_=>rfl
 | w :: ws,a,h=>by
  have h1:=EF (l:=l) (a:=a) (n:=w)
  have h2:256 ^ w≤256 ^ 4:=Nat.pow_le_pow_right (by omega) (h w (by simp))
  rw [FQ,K6 l ws _ (fun x hx=>h x (by simp [hx])),decide_eq_false (by omega)];rfl
end
section
open Go.RowKit
def Ia:Nat:=2197175160
def PD (r:Nat):Nat:=if r % 2=1 then (r / 2) ^^^ Ia else r / 2
def GJ:Nat→Nat→Nat
 | 0,r=>r
 | n+1,r=>GJ n (PD r)
def IR (r:Nat):List UInt8→Nat
 | []=>r
 | b :: l=>IR (GJ 8 (r ^^^ b.toNat)) l
def GK (l:List UInt8):Nat:=IR 4294967295 l ^^^ 4294967295
theorem TD:∀ (m n r:Nat),GJ (m+n) r=GJ n (GJ m r)
 | 0,n,r=>by rw [Nat.zero_add];rfl
 | m+1,n,r=>by rw [show m+1+n=(m+n)+1 by omega,GJ,GJ,TD m n]
theorem Vt (a b:Nat):(a ^^^ b) / 2=(a / 2) ^^^ (b / 2):=Nat.xor_div_two
theorem Vu (a b:Nat):(a ^^^ b) % 2=(a % 2+b % 2) % 2:=by
 have h:=Nat.xor_mod_two_eq_one (a:=a) (b:=b)
 have hx:=Nat.mod_two_eq_zero_or_one (a ^^^ b)
 rcases Nat.mod_two_eq_zero_or_one a with ha|ha <;> rcases Nat.mod_two_eq_zero_or_one b with hb|hb <;> rw [ha,hb] at h ⊢ <;> rcases hx with hx|hx <;> rw [hx] at h ⊢ <;> simp at h ⊢
theorem YI (a b:Nat):PD (a ^^^ b)=PD a ^^^ PD b:=by
 unfold PD
 rw [Vt,Vu]
 rcases Nat.mod_two_eq_zero_or_one a with ha|ha <;> rcases Nat.mod_two_eq_zero_or_one b with hb|hb
 · simp [ha,hb]
 · simp only [ha,hb];simp [Nat.xor_assoc]
 · simp only [ha,hb];simp [Nat.xor_assoc,Nat.xor_comm Ia]
 · simp only [ha,hb]
   simp
   rw [Nat.xor_assoc,← Nat.xor_assoc Ia,Nat.xor_comm Ia (b / 2),Nat.xor_assoc (b / 2),Nat.xor_self,Nat.xor_zero]
theorem TE:∀ (n a b:Nat),GJ n (a ^^^ b)=GJ n a ^^^ GJ n b
 | 0,a,b=>rfl
 | n+1,a,b=>by rw [GJ,GJ,GJ,YI,TE n]
theorem JI (k:Nat):PD (2*k)=k:=by
 unfold PD
 rw [if_neg (by omega)]
 omega
theorem YJ (q:Nat):GJ 4 (16*q)=q:=by
 show PD (PD (PD (PD (16*q))))=q
 rw [show 16*q=2*(8*q) by omega,JI,show 8*q=2*(4*q) by omega,JI,show 4*q=2*(2*q) by omega,JI,JI]
theorem YK (r:Nat):r=(16*(r / 16)) ^^^ (r % 16):=by
 have h:16*(r / 16) ^^^ (r % 16)=16*(r / 16)+r % 16:=by
  have e:=Nat.two_pow_add_eq_or_of_lt (i:=4) (b:=r % 16) (by omega) (r / 16)
  have e2:(2 ^ 4*(r / 16)) ^^^ (r % 16)=(2 ^ 4*(r / 16)) ||| (r % 16):=by
   apply Nat.eq_of_testBit_eq
   intro i
   rw [Nat.testBit_xor,Nat.testBit_or]
   by_cases hi:i<4
   · have:(2 ^ 4*(r / 16)).testBit i=false:=by
       rw [Nat.testBit_two_pow_mul]
       simp;omega
     rw [this];simp
   · have:(r % 16).testBit i=false:=Nat.testBit_lt_two_pow (Nat.lt_of_lt_of_le (Nat.mod_lt r (by omega)) (by
       have:2 ^ 4≤2 ^ i:=Nat.pow_le_pow_right (by omega) (by omega)
       simpa using this))
     rw [this];simp
  rw [show (16:Nat)=2 ^ 4 from rfl] at *
  rw [e2,← e]
 rw [h];omega
theorem LA (r:Nat):GJ 4 r=(r / 16) ^^^ GJ 4 (r % 16):=by
 have h:=YK r
 have e:GJ 4 r=GJ 4 ((16*(r / 16)) ^^^ (r % 16)):=by rw [← h]
 rw [e,TE,YJ]
theorem Vv {r:Nat} (h:r<4294967296):PD r<4294967296:=by
 unfold PD Ia
 split
 · exact Nat.xor_lt_two_pow (n:=32) (by omega) (by omega)
 · omega
theorem Nl:∀ (n:Nat) {r:Nat},r<4294967296→GJ n r<4294967296
 | 0,r,h=>h
 | n+1,r,h=>Nl n (Vv h)
theorem Nn:∀ (l:List UInt8) {r:Nat},r<4294967296→IR r l<4294967296
 | [],r,h=>h
 | b :: l,r,h=>Nn l (Nl 8 (Nat.xor_lt_two_pow (n:=32) (by omega) (by have:=b.toNat_lt;omega)))
theorem Jy (l:List UInt8):GK l<4294967296:=Nat.xor_lt_two_pow (n:=32) (Nn l (by omega)) (by omega)
def pG (r:Nat):Nat:=GJ 8 r
theorem bJ (r:Nat):pG r=GJ 8 r:=rfl
theorem Tz (r:Nat) (b:UInt8) (l:List UInt8):IR r (b :: l)=IR (pG (r ^^^ b.toNat)) l:=rfl
end
end Go.Proofs.YthblbddmcdnllaaGreatDoor
