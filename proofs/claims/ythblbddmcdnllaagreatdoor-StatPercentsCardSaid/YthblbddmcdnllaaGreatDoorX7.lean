/- A part of the proof: Val1P, SuperP, TreeP, WPool2. -/
import Derived.Test.YthblbddmcdnllaaGreatDoorX6
import Derived.Test.YthblbddmcdnllaaGreatDoorX5
import Derived.Test.YthblbddmcdnllaaGreatDoorX4
import Derived.Test.YthblbddmcdnllaaGreatDoorY1
set_option maxHeartbeats 6400000
set_option linter.unusedVariables false
set_option linter.unusedSimpArgs false
namespace Go.Proofs.YthblbddmcdnllaaGreatDoor
section
open Go.RowKit
def Fe:List Pt:=[⟨4,1,14399⟩]
def EX:List Pt:=[⟨8,1,14399⟩,⟨4,0,960⟩,⟨4,0,960⟩]
theorem Vw {ps:List Pt} {ns:List Int} (h0:0<ps.length) (hok:∀ p∈ps,Qy p):Fb ps ns=[]↔IZ ps ns=false:=by
 unfold Fb
 cases h:IZ ps ns with
 | false=>simp
 | true =>
  rw [if_pos rfl]
  constructor
  · intro e
    exfalso
    have hl:(Aj (Gj ps ns ps.length)).length=0:=by rw [e];rfl
    rw [Dg,TC ps ns ps.length (Nat.le_refl _)] at hl
    have h1:=GI (Ba ps) 1
    have hw:(Ba ps).take ps.length=Ba ps:=List.take_of_length_le (by unfold Ba;rw [List.length_map];omega)
    rw [hw] at hl
    have h2:=Fw (Ba ps) 0 (by unfold Ba;rw [List.length_map];exact h0)
    rw [List.take_zero,show Cb []=0 from rfl,Nat.zero_add,Nat.zero_add] at h2
    have hp:=hok _ (Ci Ir ps 0 h0)
    have e0:nth 0 (Ba ps) 0=(nth Ir ps 0).w:=by
     rw [AZ 0 _ 0 (by unfold Ba;rw [List.length_map];exact h0),AZ Ir ps 0 h0];simp [Ba]
    rw [e0] at h2
    rcases hp.1 with h|h|h|h <;> omega
  · intro e;cases e
theorem Jz:∀ p∈Fe,Qy p:=by
 intro p hp
 simp [Fe] at hp
 subst hp
 exact ⟨.inr (.inr (.inl rfl)),by decide,by decide,.inr (by decide)⟩
theorem M3:∀ p∈EX,Qy p:=by
 intro p hp
 simp [EX] at hp
 rcases hp with rfl|rfl
 · exact ⟨.inr (.inr (.inr rfl)),by decide,by decide,.inl rfl⟩
 · exact ⟨.inr (.inr (.inl rfl)),by decide,by decide,.inr (by decide)⟩
theorem LB {s:List UInt8} {n:Nat} (h:s.length=n):AC s 0 n=Gr s:=by
 unfold AC BF
 rw [List.drop_zero,List.take_of_length_le (by omega)]
theorem T9 (p:Pt) (hp:Qy p) (hb:p.w≤4∨p.hi<9223372036854775808) (s:List UInt8):Dm [p] s=if s.length≠p.w then ([0],7) else if (Gr s:Int)<p.lo∨p.hi<(Gr s:Int) then ([0],2) else ([(Gr s:Int)],0):=by
 unfold Dm
 have e1:Cb (Ba [p])=p.w:=by simp [Ba,Cb]
 rw [e1]
 by_cases hs:s.length=p.w
 · rw [if_neg (show ¬ s.length≠p.w by omega),if_neg (show ¬ s.length≠p.w by omega)]
   have e2:Df s 0 (Ba [p])=[(Gr s:Int)]:=by
    simp only [Ba,List.map_cons,List.map_nil,Df,LB hs]
   have e3:FQ s 0 (Ba [p])=decide (9223372036854775808≤Gr s):=by
    simp only [Ba,List.map_cons,List.map_nil,FQ,LB hs,Bool.or_false]
   have e4:IZ [p] [(Gr s:Int)]=(decide (p.lo≤(Gr s:Int)) && decide ((Gr s:Int)≤p.hi)):=by
    simp [IZ,MU,nth,List.range_succ]
   have e5:=Vw (ps:=[p]) (ns:=[(Gr s:Int)]) (by simp) (by intro q hq;simp at hq;subst hq;exact hp)
   rw [e4] at e5
   rw [e2,e3]
   by_cases h:(Gr s:Int)<p.lo∨p.hi<(Gr s:Int)
   · rw [if_pos h,if_pos]
     · rfl
     · right
       refine e5.2 ?_
       rcases h with h|h
       · rw [decide_eq_false (by omega)];rfl
       · rw [decide_eq_false (show ¬ (Gr s:Int)≤p.hi by omega),Bool.and_false]
   · rw [if_neg h,if_neg]
     rintro (h1|h1)
     · have:=of_decide_eq_true h1
       have:=hp.2.2.1
       omega
     · have h1:=e5.1 h1
       rw [decide_eq_true (by omega),decide_eq_true (by omega)] at h1
       cases h1
 · rw [if_pos hs,if_pos hs];rfl
theorem Qz (s:List UInt8):Dm Fe s=([(Au s).1],(Au s).2):=by
 unfold Fe Au
 rw [T9 _ (Jz _ (by simp [Fe])) (.inl (by decide))]
 dsimp only
 by_cases h:s.length=4
 · rw [if_neg (show ¬ s.length≠4 by omega),if_neg (show ¬ s.length≠4 by omega)]
   by_cases h2:Gr s<1∨14399<Gr s
   · rw [if_pos h2,if_pos (show (Gr s:Int)<1∨14399<(Gr s:Int) by omega)]
   · rw [if_neg h2,if_neg (show ¬ ((Gr s:Int)<1∨14399<(Gr s:Int)) by omega)]
 · rw [if_pos h,if_pos h]
end
section
open Go.RowKit
structure Kk where
 tx:Int
 time:Int
 unit:Int
 data:Int
 blocks:Int
 top:Int
 Ed:Int
 Ff:Int
 Ic:Int
 Fg:Int
 mover:Int
def LC:Kk:=⟨0,0,0,0,0,0,0,0,0,0,0⟩
def Np (s:Kk):List Int:=[s.tx,s.time,s.unit,s.data,s.blocks,s.top,s.Ed,s.Ff,s.Ic,s.Fg,s.mover]
abbrev Iu (s:Kk):Value:=.agg #[.int .i64 s.tx,.int .i64 s.time,.int .i64 s.unit,.int .i64 s.data,.int .i64 s.blocks,.int .i64 s.top,.int .i64 s.Ed,.int .i64 s.Ff,.int .i64 s.Ic,.int .i64 s.Fg,.int .i64 s.mover]
def Dh (lo hi n:Int):Bool:=decide (lo≤n) && decide (n≤hi)
def CL (s:Kk):Bool :=
 Dh 0 2147483647 s.tx && Dh 0 16777215 s.time && Dh 1 65536 s.unit && Dh 0 65536 s.data && Dh 2 14400 s.blocks &&
 Dh 1 (s.blocks-1) s.top && Dh 1 (s.blocks-1) s.Ed && Dh 1 (s.blocks-1) s.Ff && Dh 1 (s.blocks-1) s.Ic && Dh 1 (s.blocks-1) s.Fg && Dh 1 (s.blocks-1) s.mover
def EI:List UInt8:=[83,67,65,78,84,76,73,78]
def BM (s:Kk):List (Nat × Int):=(4,1) :: (Np s).map fun n=>(4,n)
def Cg (s:Kk):List UInt8:=EI++Aj (BM s)++List.replicate 188 0
def Cw (b:List UInt8):Kk:=⟨AC b 12 4,AC b 16 4,AC b 20 4,AC b 24 4,AC b 28 4,AC b 32 4,AC b 36 4,AC b 40 4,AC b 44 4,AC b 48 4,AC b 52 4⟩
def LD (b:List UInt8):Int:=if b.length=244∧b.take 8=EI∧AC b 8 4=1∧DZ (b.drop 56)=true∧CL (Cw b)=true then 0 else 7
theorem DF (l:List UInt8) (a m n:Nat):BF l a (m+n)=BF l a m++BF l (a+m) n:=by
 unfold BF
 rw [List.take_add,List.drop_drop]
theorem DI (l:List UInt8) (a n:Nat) (h:a+n≤l.length):leB n (AC l a n)=BF l a n:=by
 have:=TB (BF l a n)
 rw [Ej h] at this
 exact this
theorem PE (b:List UInt8) (h:b.length=244):Aj (BM (Cw b))=leB 4 1++BF b 12 44:=by
 have e:BF b 12 44=BF b 12 4++(BF b 16 4++(BF b 20 4++(BF b 24 4++(BF b 28 4++(BF b 32 4++(BF b 36 4++(BF b 40 4++(BF b 44 4++(BF b 48 4++BF b 52 4))))))))):=by
  rw [show (44:Nat)=4+40 from rfl,DF b 12 4 40,show (40:Nat)=4+36 from rfl,DF b 16 4 36,show (36:Nat)=4+32 from rfl,DF b 20 4 32,show (32:Nat)=4+28 from rfl,DF b 24 4 28,show (28:Nat)=4+24 from rfl,DF b 28 4 24,
   show (24:Nat)=4+20 from rfl,DF b 32 4 20,show (20:Nat)=4+16 from rfl,DF b 36 4 16,show (16:Nat)=4+12 from rfl,DF b 40 4 12,show (12:Nat)=4+8 from rfl,DF b 44 4 8,show (8:Nat)=4+4 from rfl,DF b 48 4 4]
 rw [e]
 simp only [BM,Np,Cw,Aj,List.map_cons,List.map_nil,List.flatMap_cons,List.flatMap_nil,Int.toNat_natCast,List.append_nil]
 rw [DI b 12 4 (by omega),DI b 16 4 (by omega),DI b 20 4 (by omega),DI b 24 4 (by omega),DI b 28 4 (by omega),DI b 32 4 (by omega),DI b 36 4 (by omega),DI b 40 4 (by omega),DI b 44 4 (by omega),DI b 48 4 (by omega),DI b 52 4 (by omega)]
 rfl
theorem UA (l:List UInt8):DZ l=true↔l=List.replicate l.length 0:=by
 unfold DZ
 rw [List.all_eq_true,List.eq_replicate_iff]
 simp
theorem M4 (b:List UInt8) (h:b.length=244):Cg (Cw b)=b↔b.take 8=EI∧AC b 8 4=1∧DZ (b.drop 56)=true:=by
 have hb:b=b.take 8++(BF b 8 4++(BF b 12 44++b.drop 56)):=by
  have e1:b.drop 56=BF b 56 188:=by unfold BF;rw [List.take_of_length_le];rw [List.length_drop];omega
  have e2:b.drop 8=BF b 8 236:=by unfold BF;rw [List.take_of_length_le];rw [List.length_drop];omega
  rw [e1,← DF b 12 44 188,← DF b 8 4 232,← e2,List.take_append_drop]
 have e0:Cg (Cw b)=EI++(leB 4 1++(BF b 12 44++List.replicate 188 0)):=by
  unfold Cg
  rw [PE b h]
  simp only [List.append_assoc]
 have hz:(b.drop 56).length=188:=by rw [List.length_drop];omega
 have hc:(BF b 8 4).length=4:=Ej (by omega)
 rw [e0,UA,hz]
 constructor
 · intro hh
   rw [hb] at hh
   have e1:(EI:List UInt8).length=(b.take 8).length:=by rw [List.length_take];simp [EI];omega
   have vZ:((b.take 8++(BF b 8 4++(BF b 12 44++b.drop 56))))=b:=hb.symm
   rw [vZ] at hh
   rw [hb] at hh
   have hh':EI++(leB 4 1++(BF b 12 44++List.replicate 188 0))=b.take 8++(BF b 8 4++(BF b 12 44++b.drop 56)):=by
    rw [vZ] at hh
    rw [hh]
    exact hb
   obtain ⟨p1,p2⟩:=List.append_inj hh' e1
   obtain ⟨p3,p4⟩:=List.append_inj p2 (by rw [Br,hc])
   obtain ⟨p5,p6⟩:=List.append_inj p4 rfl
   refine ⟨p1.symm,?_,p6.symm⟩
   unfold AC
   rw [← p3]
   exact TA 4 1 (by decide)
 · rintro ⟨p1,p2,p3⟩
   have p4:leB 4 1=BF b 8 4:=by rw [← DI b 8 4 (by omega),p2]
   rw [p4,← p1,← p3]
   exact hb.symm
theorem LF (s:Kk):(Cg s).length=244:=by
 unfold Cg
 rw [List.length_append,List.length_append,Dg,List.length_replicate]
 rfl
end
section
open Go.RowKit
theorem YM (tree:Int) (leaf:Bool):BH tree leaf≤18:=by
 unfold BH
 split
 · omega
 · have h:232 / (8+Ah tree leaf)≤20:=by
     unfold Ah at *
     repeat' split
     all_goals simp_all
   omega
theorem PK (l:List UInt8):∀ (n:Nat) (p:Int) (i:Nat),G7 l p i n=0→∀ k,k<n→Cv l (i+k)≤281474976710655∧p<(Cv l (i+k):Int)∧(0<k→Cv l (i+k-1)<Cv l (i+k))
 | 0,_,_,_,k,hk=>by omega
 | n+1,p,i,h,k,hk=>by
  unfold G7 at h
  by_cases h1:281474976710655<Cv l i
  · rw [if_pos h1] at h;cases h
  · rw [if_neg h1] at h
    by_cases h2:(Cv l i:Int)≤p
    · rw [if_pos h2] at h;cases h
    · rw [if_neg h2] at h
      rcases Nat.eq_zero_or_pos k with rfl|hp
      · exact ⟨by simpa using h1,by rw [Nat.add_zero];omega,fun h=>by omega⟩
      · obtain ⟨g1,g2,g3⟩:=PK l n (Cv l i) (i+1) h (k-1) (by omega)
        rw [show i+1+(k-1)=i+k by omega] at g1 g2 g3
        refine ⟨g1,by omega,fun _=>?_⟩
        rcases Nat.eq_zero_or_pos (k-1) with e|e
        · rw [show i+k-1=i by omega];omega
        · exact g3 e
theorem LG (l:List UInt8) (n k:Nat) (h:k<n):nth 0 (EL l n) k=(Cv l k:Int):=by
 rw [AZ 0 _ k (by rw [GM];exact h)]
 simp [EL]
theorem LH {l:List UInt8} (h:CK l=0):(EH l).keys.length≤18∧(EH l).keys.length=(EH l).vals.length:=by
 rw [J2]
 dsimp only
 rw [GM]
 refine ⟨?_,by simp [FK]⟩
 unfold CK at h
 by_cases hf:Ib l=false
 · rw [if_pos hf] at h;cases h
 · rw [Bool.not_eq_false] at hf
   unfold Ib EW at hf
   simp only [Bool.and_eq_true,decide_eq_true_eq] at hf
   have:=hf.1.1.1.1.1.1.2
   exact Nat.le_trans this (YM _ _)
theorem M5 {l:List UInt8} (h:CK l=0):rises (EH l).keys=true∧∀ k∈(EH l).keys,0≤k∧k≤281474976710655:=by
 unfold CK at h
 by_cases hf:Ib l=false
 · rw [if_pos hf] at h;cases h
 rw [if_neg hf] at h
 have hk:=PK l (AC l 2 2) (-1) 0 h
 rw [J2]
 dsimp only
 refine ⟨(Fv _).2 (fun i hi=>?_),fun k hm=>?_⟩
 · rw [GM] at hi
   rw [LG _ _ _ (by omega),LG _ _ _ hi]
   have:=(hk (i+1) hi).2.2 (by omega)
   rw [Nat.zero_add,Nat.add_sub_cancel] at this
   omega
 · unfold EL at hm
   obtain ⟨i,hi,rfl⟩:=List.mem_map.1 hm
   have:=(hk i (List.mem_range.1 hi)).1
   rw [Nat.zero_add] at this
   omega
theorem F3 {bs:List UInt8} {no tree:Int} (h:Al bs no tree=0):CK (AO bs no)=0:=by
 unfold Al at h
 by_cases h1:EJ bs 2 no≠0
 · rw [if_pos h1] at h;exact absurd h h1
 · rw [if_neg h1] at h
   unfold TF at h
   by_cases h2:CK (AO bs no)≠0
   · rw [if_pos h2] at h;exact absurd h h2
   · exact Decidable.not_not.1 h2
theorem Iy {ks:List Int} (h:JG ks ks.length):∀ (d i:Nat),i+d<ks.length→nth 0 ks i≤nth 0 ks (i+d)
 | 0,i,_=>Int.le_refl _
 | d+1,i,hi=>by
  have h1:=Iy h d i (by omega)
  have h2:=h (i+d) (by omega)
  rw [← Nat.add_assoc]
  omega
theorem J3 {lo hi:Int} {ks:List Int} (hr:DN lo hi=true) (hk:rises ks=true):Eh lo hi ks=0↔ks.all (Bg lo hi)=true:=by
 have hm:=(Fv ks).1 hk
 unfold Eh
 rw [if_neg (by rw [hr];simp),if_neg (by rw [hk];simp),List.all_eq_true]
 constructor
 · intro h k nQ
   obtain ⟨i,hil,rfl⟩:=List.getElem_of_mem nQ
   have hn:¬ (0<ks.length∧(Bg lo hi (nth 0 ks 0)=false∨Bg lo hi (nth 0 ks (ks.length-1))=false)):=fun hc=>by rw [if_pos hc] at h;cases h
   have h0:Bg lo hi (nth 0 ks 0)=true:=by
    cases e:Bg lo hi (nth 0 ks 0) with
    | true=>rfl
    | false=>exact (hn ⟨by omega,.inl e⟩).elim
   have h1:Bg lo hi (nth 0 ks (ks.length-1))=true:=by
    cases e:Bg lo hi (nth 0 ks (ks.length-1)) with
    | true=>rfl
    | false=>exact (hn ⟨by omega,.inr e⟩).elim
   have m0:=Iy hm i 0 (by omega)
   have m1:=Iy hm (ks.length-1-i) i (by omega)
   rw [Nat.zero_add] at m0
   rw [show i+(ks.length-1-i)=ks.length-1 by omega] at m1
   rw [AZ 0 ks i hil] at m0 m1
   unfold Bg at *
   simp only [Bool.and_eq_true,decide_eq_true_eq] at *
   omega
 · intro h
   rw [if_neg]
   rintro ⟨h0,h1|h1⟩
   · rw [h _ (Ci 0 ks 0 h0)] at h1;cases h1
   · rw [h _ (Ci 0 ks _ (by omega))] at h1;cases h1
theorem Q5 {lo hi:Int} {ks:List Int} (h:Eh lo hi ks=0):DN lo hi=true∧rises ks=true:=by
 unfold Eh at h
 by_cases h1:DN lo hi=false
 · rw [if_pos h1] at h;cases h
 · rw [if_neg h1] at h
   by_cases h2:rises ks=false
   · rw [if_pos h2] at h;cases h
   · exact ⟨by simpa using h1,by simpa using h2⟩
theorem PL {lo hi:Int} {ks:List Int} (h:Eh lo hi ks=0) (i:Nat) (hi':i<ks.length):DN (nth (0,0) (spansOf hi ks) i).1 (nth (0,0) (spansOf hi ks) i).2=true:=by
 obtain ⟨hr,hk⟩:=Q5 h
 have ha:=(J3 hr hk).1 h
 have hm:=(Fv ks).1 hk
 rw [List.all_eq_true] at ha
 rw [Gy hi ks i hi']
 have h1:=ha _ (Ci 0 ks i hi')
 unfold FJ
 by_cases hc:i+1<ks.length
 · have h2:=ha _ (Ci 0 ks (i+1) hc)
   have h3:=hm i hc
   rw [if_pos hc]
   unfold DN Bg at *
   simp only [Bool.and_eq_true,decide_eq_true_eq] at *
   omega
 · rw [if_neg hc]
   unfold DN Bg at *
   simp only [Bool.and_eq_true,decide_eq_true_eq] at *
   omega
end
section
open Go.RowKit
theorem RD (w:World) (v:Value) (S:Nat→Prop) (d:Dev) (last:Int) (h:iY w S v d) :
 Calls Tryz.prog 30 #[v,.int .i64 last] w fun e w'=>e=.returned (.int .i64 (Cn d last))∧Below w.heap.size w w':=by
 obtain ⟨A,c,rfl,_,_⟩:=h
 have hB1:Below w.heap.size w (w.alloc (.cells #[.int .i64 d.id,.int .i64 d.tx,.int .i64 d.made,.int .i64 d.Bz,.slice A d.maps.length c] 71)):=(Below.refl _ _).alloc (Nat.le_refl _) _
 have hB2:Below w.heap.size w ((w.alloc (.cells #[.int .i64 d.id,.int .i64 d.tx,.int .i64 d.made,.int .i64 d.Bz,.slice A d.maps.length c] 71)).alloc (.cells #[.int .i64 d.made,.int .i64 d.Bz] 3)):=hB1.alloc (by simp) _
 have ht:=NC ((w.alloc (.cells #[.int .i64 d.id,.int .i64 d.tx,.int .i64 d.made,.int .i64 d.Bz,.slice A d.maps.length c] 71)).alloc (.cells #[.int .i64 d.made,.int .i64 d.Bz] 3))
  (Lt (w.heap.size+2)) (.slice (some ⟨w.heap.size+1,0,none⟩) 2 2) d.tx [d.made,d.Bz] (by simp) (Bp.block (fun _=>rfl) (heap_alloc2_new w _ _) rfl rfl (by omega) (by simp [Lt]))
 have HT:=qh ht
 clear ht
 by_cases h1:FC d.id 0 16777215=true
 · by_cases h2:EE d.tx [d.made,d.Bz]=true
   · have hb:Qv d=true:=by simp [Qv,h1,h2]
     by_cases h3:d.id≤last
     · have e:Cn d last=8:=by unfold Cn;rw [if_neg (by simp [hb]),if_pos h3]
       rw [e]
       clear hb e
       go_enter Tryz.func30,Tryz.ntmps30
       go_wp2_with (first
        | (go_at_call 29;refine (EM _ _ _ _).mono ?_;rintro e w' ⟨rfl,rfl⟩)
        | (go_at_call 28;refine HT.out.mono ?_;rintro e w' ⟨rfl,rfl⟩))
       go_ret
       exact ⟨rfl,hB2⟩
     · have e:Cn d last=0:=by unfold Cn;rw [if_neg (by simp [hb]),if_neg h3]
       rw [e]
       clear hb e
       go_enter Tryz.func30,Tryz.ntmps30
       go_wp2_with (first
        | (go_at_call 29;refine (EM _ _ _ _).mono ?_;rintro e w' ⟨rfl,rfl⟩)
        | (go_at_call 28;refine HT.out.mono ?_;rintro e w' ⟨rfl,rfl⟩))
       go_ret
       exact ⟨rfl,hB2⟩
   · have h2':EE d.tx [d.made,d.Bz]=false:=by simpa using h2
     have e:Cn d last=2:=by unfold Cn;rw [if_pos (by simp [Qv,h2'])]
     rw [e]
     clear e h2
     go_enter Tryz.func30,Tryz.ntmps30
     go_wp2_with (first
      | (go_at_call 29;refine (EM _ _ _ _).mono ?_;rintro e w' ⟨rfl,rfl⟩)
      | (go_at_call 28;refine HT.out.mono ?_;rintro e w' ⟨rfl,rfl⟩))
     go_ret
     exact ⟨rfl,hB2⟩
 · have h1':FC d.id 0 16777215=false:=by simpa using h1
   have e:Cn d last=2:=by unfold Cn;rw [if_pos (by simp [Qv,h1'])]
   rw [e]
   clear e h1
   go_enter Tryz.func30,Tryz.ntmps30
   go_wp2_with (go_at_call 29;refine (EM _ _ _ _).mono ?_;rintro e w' ⟨rfl,rfl⟩)
   go_ret
   exact ⟨rfl,hB1⟩
theorem RF (w:World) (S:Nat→Prop) (v:Value) (l:List Mp) (data:Int) (hS:∀ b,S b→b<w.heap.size) (hn:l.length≤140737488355328) (h:bI w S v l) (h0 : -1099511627776≤data) (h1:data≤1099511627776) :
 Calls Tryz.prog 31 #[v,.int .i64 data] w fun e w'=>e=.returned (.int .i64 (Dj data l))∧Below w.heap.size w w':=by
 obtain ⟨A,c,rfl,_,hr⟩:=h
 generalize hl0:l.length=n at *
 have hl:=qh hl0
 clear hl0
 go_enter Tryz.func31,Tryz.ntmps31
 go_wp2_with fail
 go_loopw [5,10] (fun last i wr=>∃ k:Nat,k≤n∧i=.int .i64 k∧last=.int .i64 (KH l k)∧Below w.heap.size w wr∧Gp data l k) (fun _ i _=>n-(intOf i).toNat)
 case atStart=>exact ⟨0,by omega,rfl,rfl,Below.refl _ _,Gp.zero data l⟩
 case round =>
  obtain ⟨k,hk,rfl,rfl,hB,hA⟩:=hrel
  have HA:=qh hA
  clear hA
  by_cases hlt:k<n
  · obtain ⟨b,off,rfl,hb,hc⟩:=Kz (hr.keep ES (fun _ h=>h) (AR hB hS)) (by rw [hl.out];omega)
    obtain ⟨c0,c1,c2⟩:=hc k (by rw [hl.out];omega)
    have hlt':=hlt
    rw [← hl.out] at hlt'
    have HR:=qh (fun hb=>HA.out.range hlt' hb)
    have HO:=qh (fun h1 hb=>HA.out.order hlt' h1 hb)
    have HN:=qh (fun h1 hb=>HA.out.next hlt' h1 hb)
    have HS:=qh (K3 l k)
    have hbs:b<wr.heap.size:=by have:=hS b hb;have:=hB.size;omega
    clear hc
    generalize nth Mv l k=m at *
    have HB:=hB.alloc hB.size (.cells #[.int .i64 m.v,.int .i64 m.b,.int .i64 m.t] 134)
    by_cases hm:Jv data m=true
    · have h3:FC m.v 0 281474976710655=true:=by simp [Jv] at hm;exact hm.1
      have h4:FC m.b 0 (data-1)=true:=by simp [Jv] at hm;exact hm.2.1
      have h5:FC m.t 0 16777215=true:=by simp [Jv] at hm;exact hm.2.2
      have HM:=qh hm
      clear hm
      by_cases hle:m.v≤KH l k
      · go_wp2_with (go_at_call 29;refine (EM _ _ _ _).mono ?_;rintro e w' ⟨rfl,rfl⟩)
        go_ret
        exact ⟨GH (HO.out HM.out hle).symm,HB⟩
      · go_wp2_with (go_at_call 29;refine (EM _ _ _ _).mono ?_;rintro e w' ⟨rfl,rfl⟩)
        go_roundw
        case rel=>exact ⟨k+1,by omega,by go_num,by rw [HS.out],HB,HN.out HM.out (by omega)⟩
        case measure=>simp [intOf];omega
    · have hm':Jv data m=false:=by simpa using hm
      have HM:=qh hm'
      have hor:FC m.v 0 281474976710655=false∨(FC m.v 0 281474976710655=true∧FC m.b 0 (data-1)=false)∨(FC m.v 0 281474976710655=true∧FC m.b 0 (data-1)=true∧FC m.t 0 16777215=false):=by
       unfold Jv at hm'
       cases h3:FC m.v 0 281474976710655 <;> cases h4:FC m.b 0 (data-1) <;> cases h5:FC m.t 0 16777215 <;> simp_all
      clear hm hm'
      rcases hor with h3|⟨h3,h4⟩|⟨h3,h4,h5⟩
      all_goals
       go_wp2_with (go_at_call 29;refine (EM _ _ _ _).mono ?_;rintro e w' ⟨rfl,rfl⟩)
       go_ret
       exact ⟨GH (HR.out HM.out).symm,HB⟩
  · go_wp2
    go_ret
    exact ⟨GH (HA.out.done (by rw [hl.out];omega)).symm,hB⟩
end
end Go.Proofs.YthblbddmcdnllaaGreatDoor
