/- Part 3 of the proof: Val1P, SuperP, NodeAt, WalkP, WalkM, NodeP, TreeP, VisitP. -/
import Derived.Test.YtpenklpdjpkigaaGreatY2
import Derived.Test.YtpenklpdjpkigaaGreatY1
set_option maxHeartbeats 6400000
set_option linter.unusedVariables false
set_option linter.unusedSimpArgs false
namespace Go.Proofs.YtpenklpdjpkigaaGreat
section
open Go.RowKit
def IV:List Pt:=[⟨4,1,14399⟩]
def RD:List Pt:=[⟨8,0,1099511627775⟩]
def Ey:List Pt:=[⟨8,0,16384⟩,⟨8,0,2147483647⟩,⟨4,0,16777215⟩,⟨4,0,16777215⟩]
def Jt:List Pt:=[⟨8,1,14399⟩,⟨4,0,960⟩,⟨4,0,960⟩]
theorem UN {ps:List Pt} {ns:List Int} (h0:0<ps.length) (hok:∀ p∈ps,SK p):IR ps ns=[]↔JX ps ns=false:=by
 unfold IR
 cases h:JX ps ns with
 | false=>simp
 | true =>
  rw [if_pos rfl]
  constructor
  · intro e
    exfalso
    have hl:(BB (JY ps ns ps.length)).length=0:=by rw [e];rfl
    rw [ES,YC ps ns ps.length (Nat.le_refl _)] at hl
    have h1:=Gt (CV ps) 1
    have hw:(CV ps).take ps.length=CV ps:=List.take_of_length_le (by unfold CV;rw [List.length_map];omega)
    rw [hw] at hl
    have h2:=F8 (CV ps) 0 (by unfold CV;rw [List.length_map];exact h0)
    rw [List.take_zero,show Ct []=0 from rfl,Nat.zero_add,Nat.zero_add] at h2
    have hp:=hok _ (Bv K8 ps 0 h0)
    have e0:nth 0 (CV ps) 0=(nth K8 ps 0).w:=by
     rw [Ac 0 _ 0 (by unfold CV;rw [List.length_map];exact h0),Ac K8 ps 0 h0];simp [CV]
    rw [e0] at h2
    rcases hp.1 with h|h|h|h <;> omega
  · intro e;cases e
theorem Mk:∀ p∈IV,SK p:=by
 intro p hp
 simp [IV] at hp
 subst hp
 exact ⟨.inr (.inr (.inl rfl)),by decide,by decide,.inr (by decide)⟩
theorem UO:∀ p∈RD,SK p:=by
 intro p hp
 simp [RD] at hp
 subst hp
 exact ⟨.inr (.inr (.inr rfl)),by decide,by decide,.inl rfl⟩
theorem NK:∀ p∈Ey,SK p:=by
 intro p hp
 simp [Ey] at hp
 rcases hp with rfl|rfl|rfl
 · exact ⟨.inr (.inr (.inr rfl)),by decide,by decide,.inl rfl⟩
 · exact ⟨.inr (.inr (.inr rfl)),by decide,by decide,.inl rfl⟩
 · exact ⟨.inr (.inr (.inl rfl)),by decide,by decide,.inr (by decide)⟩
theorem ZG:∀ p∈Jt,SK p:=by
 intro p hp
 simp [Jt] at hp
 rcases hp with rfl|rfl
 · exact ⟨.inr (.inr (.inr rfl)),by decide,by decide,.inl rfl⟩
 · exact ⟨.inr (.inr (.inl rfl)),by decide,by decide,.inr (by decide)⟩
theorem LA {s:List UInt8} {n:Nat} (h:s.length=n):AC s 0 n=EL s:=by
 unfold AC BN
 rw [List.drop_zero,List.take_of_length_le (by omega)]
theorem RG (p:Pt) (hp:SK p) (hb:p.w≤4∨p.hi<9223372036854775808) (s:List UInt8):FO [p] s=if s.length≠p.w then ([0],7) else if (EL s:Int)<p.lo∨p.hi<(EL s:Int) then ([0],2) else ([(EL s:Int)],0):=by
 unfold FO
 have e1:Ct (CV [p])=p.w:=by simp [CV,Ct]
 rw [e1]
 by_cases hs:s.length=p.w
 · rw [if_neg (show ¬ s.length≠p.w by omega),if_neg (show ¬ s.length≠p.w by omega)]
   have e2:EA s 0 (CV [p])=[(EL s:Int)]:=by
    simp only [CV,List.map_cons,List.map_nil,EA,LA hs]
   have e3:FR s 0 (CV [p])=decide (9223372036854775808≤EL s):=by
    simp only [CV,List.map_cons,List.map_nil,FR,LA hs,Bool.or_false]
   have e4:JX [p] [(EL s:Int)]=(decide (p.lo≤(EL s:Int)) && decide ((EL s:Int)≤p.hi)):=by
    simp [JX,K9,nth,List.range_succ]
   have e5:=UN (ps:=[p]) (ns:=[(EL s:Int)]) (by simp) (by intro q hq;simp at hq;subst hq;exact hp)
   rw [e4] at e5
   rw [e2,e3]
   by_cases h:(EL s:Int)<p.lo∨p.hi<(EL s:Int)
   · rw [if_pos h,if_pos]
     · rfl
     · right
       refine e5.2 ?_
       rcases h with h|h
       · rw [decide_eq_false (by omega)];rfl
       · rw [decide_eq_false (show ¬ (EL s:Int)≤p.hi by omega),Bool.and_false]
   · rw [if_neg h,if_neg]
     rintro (h1|h1)
     · have:=of_decide_eq_true h1
       have:=hp.2.2.1
       omega
     · have h1:=e5.1 h1
       rw [decide_eq_true (by omega),decide_eq_true (by omega)] at h1
       cases h1
 · rw [if_pos hs,if_pos hs];rfl
theorem V9 (s:List UInt8):FO IV s=([(Aj s).1],(Aj s).2):=by
 unfold IV Aj
 rw [RG _ (Mk _ (by simp [IV])) (.inl (by decide))]
 dsimp only
 by_cases h:s.length=4
 · rw [if_neg (show ¬ s.length≠4 by omega),if_neg (show ¬ s.length≠4 by omega)]
   by_cases h2:EL s<1∨14399<EL s
   · rw [if_pos h2,if_pos (show (EL s:Int)<1∨14399<(EL s:Int) by omega)]
   · rw [if_neg h2,if_neg (show ¬ ((EL s:Int)<1∨14399<(EL s:Int)) by omega)]
 · rw [if_pos h,if_pos h]
def WA (s:List UInt8):Int × Int:=if s.length≠8 then (0,7) else if 1099511627775<EL s then (0,2) else (EL s,0)
theorem ZH (s:List UInt8):FO RD s=([(WA s).1],(WA s).2):=by
 unfold RD WA
 rw [RG _ (UO _ (by simp [RD])) (.inr (by decide))]
 dsimp only
 by_cases h:s.length=8
 · rw [if_neg (show ¬ s.length≠8 by omega),if_neg (show ¬ s.length≠8 by omega)]
   by_cases h2:1099511627775<EL s
   · rw [if_pos h2,if_pos (show (EL s:Int)<0∨1099511627775<(EL s:Int) by omega)]
   · rw [if_neg h2,if_neg (show ¬ ((EL s:Int)<0∨1099511627775<(EL s:Int)) by omega)]
 · rw [if_pos h,if_pos h]
theorem eO (s:List UInt8):∃ n:Nat,(WA s).1=n∧n≤1099511627775∧Ed s=(((n / 16777216:Nat):Int),((n % 16777216:Nat):Int),(WA s).2):=by
 unfold WA Ed
 by_cases h:s.length≠8
 · rw [if_pos h,if_pos h];exact ⟨0,rfl,by omega,rfl⟩
 · rw [if_neg h,if_neg h]
   by_cases h2:1099511627775<EL s
   · rw [if_pos h2,if_pos h2];exact ⟨0,rfl,by omega,rfl⟩
   · rw [if_neg h2,if_neg h2];exact ⟨EL s,rfl,by omega,rfl⟩
def xN (d:Dt):List Int:=[d.mapped,d.tx,d.made,d.Bb]
theorem SQ (s:List UInt8):FO Ey s=(xN (CP s).1,(CP s).2):=by
 unfold FO CP
 have e1:Ct (CV Ey)=24:=rfl
 rw [e1]
 by_cases hs:s.length=24
 · rw [if_neg (show ¬ s.length≠24 by omega),if_neg (show ¬ s.length≠24 by omega)]
   have e2:EA s 0 (CV Ey)=[(AC s 0 8:Int),(AC s 8 8:Int),(AC s 16 4:Int),(AC s 20 4:Int)]:=rfl
   have e3:FR s 0 (CV Ey)=(decide (9223372036854775808≤AC s 0 8) || (decide (9223372036854775808≤AC s 8 8) || (decide (9223372036854775808≤AC s 16 4) || (decide (9223372036854775808≤AC s 20 4) || false)))):=rfl
   have e5:=UN (ps:=Ey) (ns:=[(AC s 0 8:Int),(AC s 8 8:Int),(AC s 16 4:Int),(AC s 20 4:Int)]) (by decide) NK
   rw [e2,e3]
   have e4:JX Ey [(AC s 0 8:Int),(AC s 8 8:Int),(AC s 16 4:Int),(AC s 20 4:Int)]=(K9 ⟨8,0,16384⟩ (AC s 0 8) && K9 ⟨8,0,2147483647⟩ (AC s 8 8) && K9 ⟨4,0,16777215⟩ (AC s 16 4) && K9 ⟨4,0,16777215⟩ (AC s 20 4)):=by
    simp [JX,Ey,List.range_succ,nth,Bool.and_assoc]
   rw [e4] at e5
   unfold K9 at e5
   clear e2 e3 e4
   generalize AC s 0 8=a at e5 ⊢
   generalize AC s 8 8=b at e5 ⊢
   generalize AC s 16 4=c at e5 ⊢
   generalize AC s 20 4=d at e5 ⊢
   by_cases h:16384<a∨2147483647<b∨16777215<c∨16777215<d
   · rw [if_pos h,if_pos]
     · rfl
     · right
       refine e5.2 ?_
       rw [← Bool.not_eq_true]
       simp only [Bool.and_eq_true,decide_eq_true_eq]
       omega
   · rw [if_neg h,if_neg]
     · rfl
     · rintro (h1|h1)
       · simp only [Bool.or_eq_true,decide_eq_true_eq,Bool.false_eq_true,or_false] at h1
         omega
       · have h2:=e5.1 h1
         rw [← Bool.not_eq_true] at h2
         simp only [Bool.and_eq_true,decide_eq_true_eq] at h2
         omega
 · rw [if_pos hs,if_pos hs];rfl
end
section
open Go.RowKit
structure Nl where
 tx:Int
 time:Int
 unit:Int
 data:Int
 blocks:Int
 top:Int
 BQ:Int
 FD:Int
 Hg:Int
 FE:Int
 mover:Int
def LB:Nl:=⟨0,0,0,0,0,0,0,0,0,0,0⟩
def SS (s:Nl):List Int:=[s.tx,s.time,s.unit,s.data,s.blocks,s.top,s.BQ,s.FD,s.Hg,s.FE,s.mover]
abbrev IW (s:Nl):Value:=.agg #[.int .i64 s.tx,.int .i64 s.time,.int .i64 s.unit,.int .i64 s.data,.int .i64 s.blocks,.int .i64 s.top,.int .i64 s.BQ,.int .i64 s.FD,.int .i64 s.Hg,.int .i64 s.FE,.int .i64 s.mover]
def Er (lo hi n:Int):Bool:=decide (lo≤n) && decide (n≤hi)
def DX (s:Nl):Bool :=
 Er 0 2147483647 s.tx && Er 0 16777215 s.time && Er 1 65536 s.unit && Er 0 65536 s.data && Er 2 14400 s.blocks &&
 Er 1 (s.blocks-1) s.top && Er 1 (s.blocks-1) s.BQ && Er 1 (s.blocks-1) s.FD && Er 1 (s.blocks-1) s.Hg && Er 1 (s.blocks-1) s.FE && Er 1 (s.blocks-1) s.mover
def Fa:List UInt8:=[83,67,65,78,84,76,73,78]
def CB (s:Nl):List (Nat × Int):=(4,1) :: (SS s).map fun n=>(4,n)
def Dv (s:Nl):List UInt8:=Fa++BB (CB s)++List.replicate 188 0
def EF (b:List UInt8):Nl:=⟨AC b 12 4,AC b 16 4,AC b 20 4,AC b 24 4,AC b 28 4,AC b 32 4,AC b 36 4,AC b 40 4,AC b 44 4,AC b 48 4,AC b 52 4⟩
def Ol (b:List UInt8):Int:=if b.length=244∧b.take 8=Fa∧AC b 8 4=1∧D9 (b.drop 56)=true∧DX (EF b)=true then 0 else 7
theorem EM (l:List UInt8) (a m n:Nat):BN l a (m+n)=BN l a m++BN l (a+m) n:=by
 unfold BN
 rw [List.take_add,List.drop_drop]
theorem EN (l:List UInt8) (a n:Nat) (h:a+n≤l.length):leB n (AC l a n)=BN l a n:=by
 have:=SI (BN l a n)
 rw [Hd h] at this
 exact this
theorem UQ (b:List UInt8) (h:b.length=244):BB (CB (EF b))=leB 4 1++BN b 12 44:=by
 have e:BN b 12 44=BN b 12 4++(BN b 16 4++(BN b 20 4++(BN b 24 4++(BN b 28 4++(BN b 32 4++(BN b 36 4++(BN b 40 4++(BN b 44 4++(BN b 48 4++BN b 52 4))))))))):=by
  rw [show (44:Nat)=4+40 from rfl,EM b 12 4 40,show (40:Nat)=4+36 from rfl,EM b 16 4 36,show (36:Nat)=4+32 from rfl,EM b 20 4 32,show (32:Nat)=4+28 from rfl,EM b 24 4 28,show (28:Nat)=4+24 from rfl,EM b 28 4 24,
   show (24:Nat)=4+20 from rfl,EM b 32 4 20,show (20:Nat)=4+16 from rfl,EM b 36 4 16,show (16:Nat)=4+12 from rfl,EM b 40 4 12,show (12:Nat)=4+8 from rfl,EM b 44 4 8,show (8:Nat)=4+4 from rfl,EM b 48 4 4]
 rw [e]
 simp only [CB,SS,EF,BB,List.map_cons,List.map_nil,List.flatMap_cons,List.flatMap_nil,Int.toNat_natCast,List.append_nil]
 rw [EN b 12 4 (by omega),EN b 16 4 (by omega),EN b 20 4 (by omega),EN b 24 4 (by omega),EN b 28 4 (by omega),EN b 32 4 (by omega),EN b 36 4 (by omega),EN b 40 4 (by omega),EN b 44 4 (by omega),EN b 48 4 (by omega),EN b 52 4 (by omega)]
 rfl
theorem ZI (l:List UInt8):D9 l=true↔l=List.replicate l.length 0:=by
 unfold D9
 rw [List.all_eq_true,List.eq_replicate_iff]
 simp
theorem RH (b:List UInt8) (h:b.length=244):Dv (EF b)=b↔b.take 8=Fa∧AC b 8 4=1∧D9 (b.drop 56)=true:=by
 have hb:b=b.take 8++(BN b 8 4++(BN b 12 44++b.drop 56)):=by
  have e1:b.drop 56=BN b 56 188:=by unfold BN;rw [List.take_of_length_le];rw [List.length_drop];omega
  have e2:b.drop 8=BN b 8 236:=by unfold BN;rw [List.take_of_length_le];rw [List.length_drop];omega
  rw [e1,← EM b 12 44 188,← EM b 8 4 232,← e2,List.take_append_drop]
 have e0:Dv (EF b)=Fa++(leB 4 1++(BN b 12 44++List.replicate 188 0)):=by
  unfold Dv
  rw [UQ b h]
  simp only [List.append_assoc]
 have hz:(b.drop 56).length=188:=by rw [List.length_drop];omega
 have hc:(BN b 8 4).length=4:=Hd (by omega)
 rw [e0,ZI,hz]
 constructor
 · intro hh
   rw [hb] at hh
   have e1:(Fa:List UInt8).length=(b.take 8).length:=by rw [List.length_take];simp [Fa];omega
   have h56:((b.take 8++(BN b 8 4++(BN b 12 44++b.drop 56))))=b:=hb.symm
   rw [h56] at hh
   rw [hb] at hh
   have hh':Fa++(leB 4 1++(BN b 12 44++List.replicate 188 0))=b.take 8++(BN b 8 4++(BN b 12 44++b.drop 56)):=by
    rw [h56] at hh
    rw [hh]
    exact hb
   obtain ⟨p1,p2⟩:=List.append_inj hh' e1
   obtain ⟨p3,p4⟩:=List.append_inj p2 (by rw [CY,hc])
   obtain ⟨p5,p6⟩:=List.append_inj p4 rfl
   refine ⟨p1.symm,?_,p6.symm⟩
   unfold AC
   rw [← p3]
   exact SH 4 1 (by decide)
 · rintro ⟨p1,p2,p3⟩
   have p4:leB 4 1=BN b 8 4:=by rw [← EN b 8 4 (by omega),p2]
   rw [p4,← p1,← p3]
   exact hb.symm
theorem Om (s:Nl):(Dv s).length=244:=by
 unfold Dv
 rw [List.length_append,List.length_append,ES,List.length_replicate]
 rfl
end
section
open Go.RowKit
def DY (bs:List UInt8) (k:Nat):List UInt8:=(bs.drop (k*256)).take 256
def UR (l:List UInt8) (tree:Int):Int:=if Bl l≠0 then Bl l else if tree≠0∧(Du l).tree≠tree then 6 else 0
def GA (bs:List UInt8) (no:Int):Bool:=decide (0≤no) && decide (no<(bs.length:Int) / 256)
def CQ (bs:List UInt8) (kind no:Int):Int:=if GA bs no=false then 3 else DW (DY bs no.toNat) kind no
def Bz (bs:List UInt8) (no:Int):List UInt8:=Dl (DY bs no.toNat)
def AZ (bs:List UInt8) (no tree:Int):Int:=if CQ bs 2 no≠0 then CQ bs 2 no else UR (Bz bs no) tree
def nodeAt (bs:List UInt8) (no:Int):Nd:=Du (Bz bs no)
end
section
open Go.RowKit
structure Kq where
 key:Int
 val:List UInt8
 loc:Int
def ED:Kq:=⟨0,[],0⟩
structure WS where
 AO:List Kq
 AV:List Int
 deep:Int
 looked:Int
 AR:List K6
 Ju:Bool
def OE:WS:=⟨[],[],0,0,[],false⟩
def Ad (st:WS) (f:K6):WS:={ st with AR:=st.AR++[f] }
def Bf (bs:List UInt8) (tree deep:Int) (way:List Int) (no lo hi:Int):Int :=
 if no∈way then 11
 else if 16≤way.length then 10
 else if AZ bs no tree≠0 then AZ bs no tree
 else if (nodeAt bs no).keys.all (BP lo hi)=false then 9
 else if (nodeAt bs no).leaf=true∧deep≠0∧deep≠way.length+1 then 10
 else 0
def BK (n:Nd) (no:Int):List Kq:=(n.keys.zip n.vals).map fun x=>⟨x.1,x.2,no⟩
def Ee (f:Int→Int × Int→WS→WS) (way:List Int) (no:Int):List ((Int × Int) × List UInt8)→WS→WS
 | [],st=>st
 | (x,v) :: r,st =>
  if (if (Aj v).2≠0 then Ad st ⟨way++[no],(Aj v).2⟩ else f (Aj v).1 x st).Ju=true then (if (Aj v).2≠0 then Ad st ⟨way++[no],(Aj v).2⟩ else f (Aj v).1 x st)
  else Ee f way no r (if (Aj v).2≠0 then Ad st ⟨way++[no],(Aj v).2⟩ else f (Aj v).1 x st)
def BV (bs:List UInt8) (tree fuel:Int):Nat→List Int→Int→Int × Int→WS→WS
 | 0,_,_,_,st=>st
 | d+1,way,no,s,st =>
  if fuel≤st.looked then { Ad st ⟨way++[no],12⟩ with Ju:=true }
  else if Bf bs tree st.deep way no s.1 s.2≠0 then Ad { st with looked:=st.looked+1 } ⟨way++[no],Bf bs tree st.deep way no s.1 s.2⟩
  else if (nodeAt bs no).leaf=true then { st with looked:=st.looked+1,AV:=st.AV++[no],deep:=way.length+1,AO:=st.AO++BK (nodeAt bs no) no }
  else Ee (BV bs tree fuel d (way++[no])) way no ((spansOf s.2 (nodeAt bs no).keys).zip (nodeAt bs no).vals) { st with looked:=st.looked+1,AV:=st.AV++[no] }
def Az (bs:List UInt8) (root tree fuel:Int):WS:=BV bs tree fuel 17 [] root (0,281474976710656) OE
end
section
open Go.RowKit
def Cq (e:Kq):List Value:=[.int .i64 e.key,.string (Am e.val),.int .i64 e.loc]
theorem JJ (e:Kq):(Cq e).length=3:=rfl
theorem Oo (e:Kq):∀ x∈Cq e,x.oneCell'=true:=by intro x hx;simp [Cq] at hx;rcases hx with rfl|rfl|rfl <;> rfl
def RW (a:Nat) (ve vb vf vw:Value) (x:Nat):Prop:=x=a∨ve.ownBlock=some x∨vb.ownBlock=some x∨vf.ownBlock=some x∨vw.ownBlock=some x
def JK (w:World) (S:Nat→Prop) (vs:List Value) (l:List K6):Prop:=vs.length=l.length∧∀ k,k<l.length→D7 w S (nth .nilIface vs k) (nth ⟨[],0⟩ l k).blocks (nth ⟨[],0⟩ l k).code
theorem JK.keep {w w':World} {S S':Nat→Prop} {vs:List Value} {l:List K6} (h:JK w S vs l) (hs:∀ b,S b→S' b) (hk:CS S w w'):JK w' S' vs l:=⟨h.1,fun k hk'=>(h.2 k hk').keep hs hk⟩
theorem JK.snoc {w:World} {S:Nat→Prop} {vs:List Value} {l:List K6} {v:Value} {f:K6} (h:JK w S vs l) (hv:D7 w S v f.blocks f.code):JK w S (vs++[v]) (l++[f]):=by
 refine ⟨by simp [h.1],fun k hk=>?_⟩
 rw [List.length_append,List.length_singleton] at hk
 by_cases hlt:k<l.length
 · rw [Gm _ _ _ _ hlt,Gm _ _ _ _ (by rw [h.1];exact hlt)]
   exact h.2 k hlt
 · obtain rfl:k=l.length:=by omega
   have e:=Jo (Value.nilIface) vs [] v
   rw [h.1] at e
   rw [e,Jo]
   exact hv
structure Wk (w:World) (base a:Nat) (img:Nat) (tree fuel:Int) (st:WS) (way:List Int) (Ae:Option Addr) (ce:Nat) (Ab:Option Addr) (cb:Nat) (Af:Option Addr) (cf:Nat) (Aw:Option Addr) (cw:Nat) (vs:List Value):Prop where
 low:base≤a
 box:AP w a #[.slice Ae st.AO.length ce,.slice Ab st.AV.length cb,.int .i64 st.deep,.int .i64 st.looked,.slice Af st.AR.length cf,.pointer (some ⟨img,0,none⟩),.int .i64 tree,.int .i64 fuel,.slice Aw way.length cw,.bool st.Ju] 318
 AO:w.ownsRow base 108 3 (.slice Ae st.AO.length ce) st.AO.length (AB Cq st.AO)
 AV:w.ownsRow base 3 1 (.slice Ab st.AV.length cb) st.AV.length (AB encI st.AV)
 AR:w.ownsRow base 40 1 (.slice Af st.AR.length cf) st.AR.length vs
 ways:w.ownsRow base 3 1 (.slice Aw way.length cw) way.length (AB encI way)
 apart:∀ x,(Value.slice Ab st.AV.length cb).ownBlock=some x→(Value.slice Aw way.length cw).ownBlock≠some x
 errs:JK w (FB w base) vs st.AR
abbrev Gn (a:Nat) (st:WS) (way:List Int) (Ae:Option Addr) (ce:Nat) (Ab:Option Addr) (cb:Nat) (Af:Option Addr) (cf:Nat) (Aw:Option Addr) (cw:Nat):Nat→Prop:=RW a (.slice Ae st.AO.length ce) (.slice Ab st.AV.length cb) (.slice Af st.AR.length cf) (.slice Aw way.length cw)
section
variable {w w':World} {base a img:Nat} {tree fuel:Int} {st:WS} {way:List Int} {Ae Ab Af Aw:Option Addr} {ce cb cf cw:Nat} {vs:List Value}
theorem Wk.cells (h:Wk w base a img tree fuel st way Ae ce Ab cb Af cf Aw cw vs):w.cell? ⟨a,0,none⟩=some (.slice Ae st.AO.length ce)∧w.cell? ⟨a,1,none⟩=some (.slice Ab st.AV.length cb)∧w.cell? ⟨a,2,none⟩=some (.int .i64 st.deep)∧w.cell? ⟨a,3,none⟩=some (.int .i64 st.looked)∧w.cell? ⟨a,4,none⟩=some (.slice Af st.AR.length cf) ∧
 w.cell? ⟨a,5,none⟩=some (.pointer (some ⟨img,0,none⟩))∧w.cell? ⟨a,6,none⟩=some (.int .i64 tree)∧w.cell? ⟨a,7,none⟩=some (.int .i64 fuel)∧w.cell? ⟨a,8,none⟩=some (.slice Aw way.length cw)∧w.cell? ⟨a,9,none⟩=some (.bool st.Ju) :=
 ⟨h.box.at 0 _ rfl,h.box.at 1 _ rfl,h.box.at 2 _ rfl,h.box.at 3 _ rfl,h.box.at 4 _ rfl,h.box.at 5 _ rfl,h.box.at 6 _ rfl,h.box.at 7 _ rfl,h.box.at 8 _ rfl,h.box.at 9 _ rfl⟩
theorem Wk.free (h:Wk w base a img tree fuel st way Ae ce Ab cb Af cf Aw cw vs) (i:Nat):w.frozen? ⟨a,i,none⟩=false:=h.box.free i
theorem Wk.below (h:Wk w base a img tree fuel st way Ae ce Ab cb Af cf Aw cw vs) (hB:Below w.heap.size w w'):Wk w' base a img tree fuel st way Ae ce Ab cb Af cf Aw cw vs:=by
 obtain ⟨k1,k2⟩:=E8 (w:=w) (w':=w') (base:=base) (fun b cs hb=>hB.block b (Array.getElem?_eq_some_iff.1 hb).1)
 exact ⟨h.low,h.box.below hB h.box.lt,own_below h.AO hB (Nat.le_refl _),own_below h.AV hB (Nat.le_refl _),own_below h.AR hB (Nat.le_refl _),own_below h.ways hB (Nat.le_refl _),h.apart,h.errs.keep k1 k2⟩
theorem Wk.WB (h:Wk w base a img tree fuel st way Ae ce Ab cb Af cf Aw cw vs) (i:Nat) (u:Value) (st':WS) (he:st'.AO=st.AO) (hb:st'.AV=st.AV) (hf:st'.AR=st.AR)
 (sK:(#[.slice Ae st.AO.length ce,.slice Ab st.AV.length cb,.int .i64 st.deep,.int .i64 st.looked,.slice Af st.AR.length cf,.pointer (some ⟨img,0,none⟩),.int .i64 tree,.int .i64 fuel,.slice Aw way.length cw,.bool st.Ju]:Array Value).setIfInBounds i u=#[.slice Ae st.AO.length ce,.slice Ab st.AV.length cb,.int .i64 st'.deep,.int .i64 st'.looked,.slice Af st.AR.length cf,.pointer (some ⟨img,0,none⟩),.int .i64 tree,.int .i64 fuel,.slice Aw way.length cw,.bool st'.Ju]) :
 Wk (w.setCell ⟨a,i,none⟩ u) base a img tree fuel st' way Ae ce Ab cb Af cf Aw cw vs:=by
 obtain ⟨k1,k2⟩:=E8 (w:=w) (w':=w.setCell ⟨a,i,none⟩ u) (base:=base) (fun b cs hb=>Below.heap_setCell w ⟨a,i,none⟩ u b (fun e=>by
  have hx:=h.box
  unfold AP at hx
  dsimp only at e
  subst e
  rw [hx] at hb
  injection hb with hb
  injection hb with _ ht
  exact absurd ht (by decide)))
 have hbx:=h.box.set i u
 rw [sK] at hbx
 obtain ⟨e',b',d',l',f',y'⟩:=st'
 dsimp only at he hb hf hbx
 subst he hb hf
 exact ⟨h.low,hbx,Ah (a:=⟨a,i,none⟩) h.AO (BL (g:=a) h.AO h.box (by decide)) u,Ah (a:=⟨a,i,none⟩) h.AV (BL (g:=a) h.AV h.box (by decide)) u,Ah (a:=⟨a,i,none⟩) h.AR (BL (g:=a) h.AR h.box (by decide)) u,Ah (a:=⟨a,i,none⟩) h.ways (BL (g:=a) h.ways h.box (by decide)) u,h.apart,h.errs.keep k1 k2⟩
theorem Lj {e size n:Nat} {v:Value} {xs:List Value} (hr:w.ownsRow base e size v n xs) (hg:w.grownBy w' v.ownBlock) (hne:e≠327):(∀ b,FB w base b→FB w' base b)∧CS (FB w base) w w' :=
 E8 (fun b cs hb=>hg.block b (Array.getElem?_eq_some_iff.1 hb).1 (BC hr hb hne))
theorem Jv {i:Nat} {u:Value} {cs0:Array Value} (hx:AP w a cs0 318):(∀ b,FB w base b→FB (w.setCell ⟨a,i,none⟩ u) base b)∧CS (FB w base) w (w.setCell ⟨a,i,none⟩ u) :=
 E8 (fun b cs hb=>Below.heap_setCell w ⟨a,i,none⟩ u b (fun e=>by
  unfold AP at hx
  dsimp only at e
  subst e
  rw [hx] at hb
  injection hb with hb
  injection hb with _ ht
  exact absurd ht (by decide)))
theorem Wk.flt (h:Wk w base a img tree fuel st way Ae ce Ab cb Af cf Aw cw vs) {v:Value} {f:K6} {A:Option Addr} {c:Nat} (hown:w'.ownsRow base 40 1 (.slice A (st.AR.length+1) c) (st.AR.length+1) (vs++[v])) (hg:w.grownBy w' (Value.slice Af st.AR.length cf).ownBlock) (hv:D7 w (FB w base) v f.blocks f.code) :
 Wk (w'.setCell ⟨a,4,none⟩ (.slice A (st.AR.length+1) c)) base a img tree fuel (Ad st f) way Ae ce Ab cb A c Aw cw (vs++[v]):=by
 have hbx:AP w' a _ 318:=(hg.block a h.box.lt (BC h.AR h.box (by decide))).trans h.box
 have e1:=BH h.AO h.AR (by decide) hg
 have e2:=BH h.AV h.AR (by decide) hg
 have e3:=BH h.ways h.AR (by decide) hg
 obtain ⟨k1,k2⟩:=Lj h.AR hg (by decide)
 obtain ⟨k3,k4⟩:=Jv (base:=base) (i:=4) (u:=.slice A (st.AR.length+1) c) hbx
 have hfl:(Ad st f).AR.length=st.AR.length+1:=by simp [Ad]
 refine ⟨h.low,?_,Ah (a:=⟨a,4,none⟩) e1 (BL (g:=a) e1 hbx (by decide)) _,Ah (a:=⟨a,4,none⟩) e2 (BL (g:=a) e2 hbx (by decide)) _,?_,Ah (a:=⟨a,4,none⟩) e3 (BL (g:=a) e3 hbx (by decide)) _,h.apart,?_⟩
 · have:=hbx.set 4 (.slice A (st.AR.length+1) c)
   rw [hfl]
   exact this
 · rw [hfl]
   exact Ah (a:=⟨a,4,none⟩) hown (BL (g:=a) hown hbx (by decide)) _
 · exact ((h.errs.snoc hv).keep k1 k2).keep k3 k4
theorem Wk.ent (h:Wk w base a img tree fuel st way Ae ce Ab cb Af cf Aw cw vs) {x:Kq} {A:Option Addr} {c:Nat} (hown:w'.ownsRow base 108 3 (.slice A (st.AO.length+1) c) (st.AO.length+1) (AB Cq (st.AO++[x]))) (hg:w.grownBy w' (Value.slice Ae st.AO.length ce).ownBlock) :
 Wk (w'.setCell ⟨a,0,none⟩ (.slice A (st.AO.length+1) c)) base a img tree fuel { st with AO:=st.AO++[x] } way A c Ab cb Af cf Aw cw vs:=by
 have hbx:AP w' a _ 318:=(hg.block a h.box.lt (BC h.AO h.box (by decide))).trans h.box
 have e1:=BH h.AR h.AO (by decide) hg
 have e2:=BH h.AV h.AO (by decide) hg
 have e3:=BH h.ways h.AO (by decide) hg
 obtain ⟨k1,k2⟩:=Lj h.AO hg (by decide)
 obtain ⟨k3,k4⟩:=Jv (base:=base) (i:=0) (u:=.slice A (st.AO.length+1) c) hbx
 have hfl:(st.AO++[x]).length=st.AO.length+1:=by simp
 refine ⟨h.low,?_,?_,Ah (a:=⟨a,0,none⟩) e2 (BL (g:=a) e2 hbx (by decide)) _,Ah (a:=⟨a,0,none⟩) e1 (BL (g:=a) e1 hbx (by decide)) _,Ah (a:=⟨a,0,none⟩) e3 (BL (g:=a) e3 hbx (by decide)) _,h.apart,(h.errs.keep k1 k2).keep k3 k4⟩
 · have:=hbx.set 0 (.slice A (st.AO.length+1) c)
   rw [hfl]
   exact this
 · rw [hfl]
   exact Ah (a:=⟨a,0,none⟩) hown (BL (g:=a) hown hbx (by decide)) _
theorem Wk.blk (h:Wk w base a img tree fuel st way Ae ce Ab cb Af cf Aw cw vs) {x:Int} {A:Option Addr} {c:Nat} (hown:w'.ownsRow base 3 1 (.slice A (st.AV.length+1) c) (st.AV.length+1) (AB encI (st.AV++[x]))) (hg:w.grownBy w' (Value.slice Ab st.AV.length cb).ownBlock)
 (hat:∀ y,(Value.slice A (st.AV.length+1) c).ownBlock=some y→(Value.slice Ab st.AV.length cb).ownBlock=some y∨w.heap.size≤y) :
 Wk (w'.setCell ⟨a,1,none⟩ (.slice A (st.AV.length+1) c)) base a img tree fuel { st with AV:=st.AV++[x] } way Ae ce A c Af cf Aw cw vs:=by
 have hbx:AP w' a _ 318:=(hg.block a h.box.lt (BC h.AV h.box (by decide))).trans h.box
 have e1:=BH h.AR h.AV (by decide) hg
 have e2:=BH h.AO h.AV (by decide) hg
 have e3:w'.ownsRow base 3 1 (.slice Aw way.length cw) way.length (AB encI way):=BG h.ways (Touch.BO (R:=fun x=>(Value.slice Ab st.AV.length cb).ownBlock=some x) hg (fun _ h=>h)) (fun x hx hb=>h.apart x hb hx)
 obtain ⟨k1,k2⟩:=Lj h.AV hg (by decide)
 obtain ⟨k3,k4⟩:=Jv (base:=base) (i:=1) (u:=.slice A (st.AV.length+1) c) hbx
 have hfl:(st.AV++[x]).length=st.AV.length+1:=by simp
 refine ⟨h.low,?_,Ah (a:=⟨a,1,none⟩) e2 (BL (g:=a) e2 hbx (by decide)) _,?_,Ah (a:=⟨a,1,none⟩) e1 (BL (g:=a) e1 hbx (by decide)) _,Ah (a:=⟨a,1,none⟩) e3 (BL (g:=a) e3 hbx (by decide)) _,?_,(h.errs.keep k1 k2).keep k3 k4⟩
 · have:=hbx.set 1 (.slice A (st.AV.length+1) c)
   rw [hfl]
   exact this
 · rw [hfl]
   exact Ah (a:=⟨a,1,none⟩) hown (BL (g:=a) hown hbx (by decide)) _
 · intro y hy hw
   rw [hfl] at hy
   rcases hat y hy with h1|h1
   · exact h.apart y h1 hw
   · have:=(h.ways.lt y hw).2
     omega
theorem Wk.step (h:Wk w base a img tree fuel st way Ae ce Ab cb Af cf Aw cw vs) {x:Int} {A:Option Addr} {c:Nat} (hown:w'.ownsRow base 3 1 (.slice A (way.length+1) c) (way.length+1) (AB encI (way++[x]))) (hg:w.grownBy w' (Value.slice Aw way.length cw).ownBlock)
 (hat:∀ y,(Value.slice A (way.length+1) c).ownBlock=some y→(Value.slice Aw way.length cw).ownBlock=some y∨w.heap.size≤y) :
 Wk (w'.setCell ⟨a,8,none⟩ (.slice A (way.length+1) c)) base a img tree fuel st (way++[x]) Ae ce Ab cb Af cf A c vs:=by
 have hbx:AP w' a _ 318:=(hg.block a h.box.lt (BC h.ways h.box (by decide))).trans h.box
 have e1:=BH h.AR h.ways (by decide) hg
 have e2:=BH h.AO h.ways (by decide) hg
 have e3:w'.ownsRow base 3 1 (.slice Ab st.AV.length cb) st.AV.length (AB encI st.AV):=BG h.AV (Touch.BO (R:=fun x=>(Value.slice Aw way.length cw).ownBlock=some x) hg (fun _ h=>h)) (fun x hx hb=>h.apart x hx hb)
 obtain ⟨k1,k2⟩:=Lj h.ways hg (by decide)
 obtain ⟨k3,k4⟩:=Jv (base:=base) (i:=8) (u:=.slice A (way.length+1) c) hbx
 have hfl:(way++[x]).length=way.length+1:=by simp
 refine ⟨h.low,?_,Ah (a:=⟨a,8,none⟩) e2 (BL (g:=a) e2 hbx (by decide)) _,Ah (a:=⟨a,8,none⟩) e3 (BL (g:=a) e3 hbx (by decide)) _,Ah (a:=⟨a,8,none⟩) e1 (BL (g:=a) e1 hbx (by decide)) _,?_,?_,(h.errs.keep k1 k2).keep k3 k4⟩
 · have:=hbx.set 8 (.slice A (way.length+1) c)
   rw [hfl]
   exact this
 · rw [hfl]
   exact Ah (a:=⟨a,8,none⟩) hown (BL (g:=a) hown hbx (by decide)) _
 · intro y hy hw
   rw [hfl] at hw
   rcases hat y hw with h1|h1
   · exact h.apart y hy h1
   · have:=(h.AV.lt y hy).2
     omega
theorem Wk.turn (h:Wk w base a img tree fuel st way Ae ce Ab cb Af cf Aw cw vs) {way':List Int} {A:Option Addr} {c:Nat} (hown:w.ownsRow base 3 1 (.slice A way'.length c) way'.length (AB encI way')) (hb:(Value.slice A way'.length c).ownBlock=(Value.slice Aw way.length cw).ownBlock) :
 Wk (w.setCell ⟨a,8,none⟩ (.slice A way'.length c)) base a img tree fuel st way' Ae ce Ab cb Af cf A c vs:=by
 obtain ⟨k3,k4⟩:=Jv (base:=base) (i:=8) (u:=.slice A way'.length c) h.box
 refine ⟨h.low,h.box.set 8 (.slice A way'.length c),Ah (a:=⟨a,8,none⟩) h.AO (BL (g:=a) h.AO h.box (by decide)) _,Ah (a:=⟨a,8,none⟩) h.AV (BL (g:=a) h.AV h.box (by decide)) _,Ah (a:=⟨a,8,none⟩) h.AR (BL (g:=a) h.AR h.box (by decide)) _,Ah (a:=⟨a,8,none⟩) hown (BL (g:=a) hown h.box (by decide)) _,?_,h.errs.keep k3 k4⟩
 intro y hy hw
 rw [hb] at hw
 exact h.apart y hy hw
end
end
section
open Go.RowKit
def Dy (l:List UInt8) (k:Nat):Int:=if k=0 then -1 else (Dm l (k-1):Int)
def Ef (l:List UInt8) (k:Nat):List Int:=(List.range k).map fun i=>(Dm l i:Int)
def Et (l:List UInt8) (M W k:Nat):List (List UInt8):=(List.range k).map (NJ l M W)
theorem JL (l:List UInt8) (k:Nat):(Ef l k).length=k:=by simp [Ef]
theorem NL (l:List UInt8) (k:Nat):Ef l (k+1)=Ef l k++[(Dm l k:Int)]:=by simp [Ef,List.range_succ]
theorem NM (l:List UInt8) (M W k:Nat):Et l M W (k+1)=Et l M W k++[NJ l M W k]:=by simp [Et,List.range_succ]
theorem Jw {l:List UInt8} {k:Nat} (h:0<k):nth 0 (Ef l k) (k-1)=Dy l k:=by
 rw [Ac 0 _ (k-1) (by rw [JL];omega)]
 unfold Dy
 rw [if_neg (by omega)]
 simp [Ef]
theorem WC (l:List UInt8) (k:Nat):Dy l (k+1)=(Dm l k:Int):=by unfold Dy;rw [if_neg (by omega),Nat.add_sub_cancel]
theorem Oq {l:List UInt8} {k n:Nat} (h:k<n):IA l (Dy l k) k (n-k)=if 281474976710655<Dm l k then 2 else if 0<k∧(Dm l k:Int)≤Dy l k then 8 else IA l (Dy l (k+1)) (k+1) (n-(k+1)):=by
 obtain ⟨m,hm⟩:∃ m,n-k=m+1:=⟨n-k-1,by omega⟩
 rw [hm,show n-(k+1)=m by omega,WC]
 show (if 281474976710655<Dm l k then 2 else if (Dm l k:Int)≤Dy l k then 8 else IA l (Dm l k) (k+1) m)=_
 by_cases h1:281474976710655<Dm l k
 · rw [if_pos h1,if_pos h1]
 · rw [if_neg h1,if_neg h1]
   by_cases h2:(Dm l k:Int)≤Dy l k
   · have h0:0<k:=by
       rcases Nat.eq_zero_or_pos k with rfl|h0
       · exfalso;unfold Dy at h2;rw [if_pos rfl] at h2;omega
       · exact h0
     rw [if_pos h2,if_pos ⟨h0,h2⟩]
   · rw [if_neg h2,if_neg (fun h=>h2 h.2)]
theorem Ml (l:List UInt8):Du l=⟨AC l 1 1,decide (AC l 0 1=1),Ef l (AC l 2 2),Et l (BZ (AC l 1 1) (decide (AC l 0 1=1))) (BF (AC l 1 1) (decide (AC l 0 1=1))) (AC l 2 2)⟩:=rfl
end
section
open Go.RowKit
theorem lI (tree:Int) (leaf:Bool):BZ tree leaf≤18:=by
 unfold BZ
 split
 · omega
 · have h:232 / (8+BF tree leaf)≤20:=by
     unfold BF at *
     repeat' split
     all_goals simp_all
   omega
theorem UT (l:List UInt8):∀ (n:Nat) (p:Int) (i:Nat),IA l p i n=0→∀ k,k<n→Dm l (i+k)≤281474976710655∧p<(Dm l (i+k):Int)∧(0<k→Dm l (i+k-1)<Dm l (i+k))
 | 0,_,_,_,k,hk=>by omega
 | n+1,p,i,h,k,hk=>by
  unfold IA at h
  by_cases h1:281474976710655<Dm l i
  · rw [if_pos h1] at h;cases h
  · rw [if_neg h1] at h
    by_cases h2:(Dm l i:Int)≤p
    · rw [if_pos h2] at h;cases h
    · rw [if_neg h2] at h
      rcases Nat.eq_zero_or_pos k with rfl|hp
      · exact ⟨by simpa using h1,by rw [Nat.add_zero];omega,fun h=>by omega⟩
      · obtain ⟨g1,g2,g3⟩:=UT l n (Dm l i) (i+1) h (k-1) (by omega)
        rw [show i+1+(k-1)=i+k by omega] at g1 g2 g3
        refine ⟨g1,by omega,fun _=>?_⟩
        rcases Nat.eq_zero_or_pos (k-1) with e|e
        · rw [show i+k-1=i by omega];omega
        · exact g3 e
theorem Ot (l:List UInt8) (n k:Nat) (h:k<n):nth 0 (Ef l n) k=(Dm l k:Int):=by
 rw [Ac 0 _ k (by rw [JL];exact h)]
 simp [Ef]
theorem Hl {l:List UInt8} (h:Bl l=0):(Du l).keys.length≤18∧(Du l).keys.length=(Du l).vals.length:=by
 rw [Ml]
 dsimp only
 rw [JL]
 refine ⟨?_,by simp [Et]⟩
 unfold Bl at h
 by_cases hf:Gr l=false
 · rw [if_pos hf] at h;cases h
 · rw [Bool.not_eq_false] at hf
   unfold Gr FZ at hf
   simp only [Bool.and_eq_true,decide_eq_true_eq] at hf
   have:=hf.1.1.1.1.1.1.2
   exact Nat.le_trans this (lI _ _)
theorem Io {l:List UInt8} (h:Bl l=0):rises (Du l).keys=true∧∀ k∈(Du l).keys,0≤k∧k≤281474976710655:=by
 unfold Bl at h
 by_cases hf:Gr l=false
 · rw [if_pos hf] at h;cases h
 rw [if_neg hf] at h
 have hk:=UT l (AC l 2 2) (-1) 0 h
 rw [Ml]
 dsimp only
 refine ⟨(F7 _).2 (fun i hi=>?_),fun k hm=>?_⟩
 · rw [JL] at hi
   rw [Ot _ _ _ (by omega),Ot _ _ _ hi]
   have:=(hk (i+1) hi).2.2 (by omega)
   rw [Nat.zero_add,Nat.add_sub_cancel] at this
   omega
 · unfold Ef at hm
   obtain ⟨i,hi,rfl⟩:=List.mem_map.1 hm
   have:=(hk i (List.mem_range.1 hi)).1
   rw [Nat.zero_add] at this
   omega
theorem Dg {bs:List UInt8} {no tree:Int} (h:AZ bs no tree=0):Bl (Bz bs no)=0:=by
 unfold AZ at h
 by_cases h1:CQ bs 2 no≠0
 · rw [if_pos h1] at h;exact absurd h h1
 · rw [if_neg h1] at h
   unfold UR at h
   by_cases h2:Bl (Bz bs no)≠0
   · rw [if_pos h2] at h;exact absurd h h2
   · exact Decidable.not_not.1 h2
theorem JM {ks:List Int} (h:Lg ks ks.length):∀ (d i:Nat),i+d<ks.length→nth 0 ks i≤nth 0 ks (i+d)
 | 0,i,_=>Int.le_refl _
 | d+1,i,hi=>by
  have h1:=JM h d i (by omega)
  have h2:=h (i+d) (by omega)
  rw [← Nat.add_assoc]
  omega
theorem Ip {lo hi:Int} {ks:List Int} (hr:Cn lo hi=true) (hk:rises ks=true):FN lo hi ks=0↔ks.all (BP lo hi)=true:=by
 have hm:=(F7 ks).1 hk
 unfold FN
 rw [if_neg (by rw [hr];simp),if_neg (by rw [hk];simp),List.all_eq_true]
 constructor
 · intro h k hkm
   obtain ⟨i,hil,rfl⟩:=List.getElem_of_mem hkm
   have hn:¬ (0<ks.length∧(BP lo hi (nth 0 ks 0)=false∨BP lo hi (nth 0 ks (ks.length-1))=false)):=fun hc=>by rw [if_pos hc] at h;cases h
   have h0:BP lo hi (nth 0 ks 0)=true:=by
    cases e:BP lo hi (nth 0 ks 0) with
    | true=>rfl
    | false=>exact (hn ⟨by omega,.inl e⟩).elim
   have h1:BP lo hi (nth 0 ks (ks.length-1))=true:=by
    cases e:BP lo hi (nth 0 ks (ks.length-1)) with
    | true=>rfl
    | false=>exact (hn ⟨by omega,.inr e⟩).elim
   have m0:=JM hm i 0 (by omega)
   have m1:=JM hm (ks.length-1-i) i (by omega)
   rw [Nat.zero_add] at m0
   rw [show i+(ks.length-1-i)=ks.length-1 by omega] at m1
   rw [Ac 0 ks i hil] at m0 m1
   unfold BP at *
   simp only [Bool.and_eq_true,decide_eq_true_eq] at *
   omega
 · intro h
   rw [if_neg]
   rintro ⟨h0,h1|h1⟩
   · rw [h _ (Bv 0 ks 0 h0)] at h1;cases h1
   · rw [h _ (Bv 0 ks _ (by omega))] at h1;cases h1
theorem Ou {lo hi:Int} {ks:List Int} (h:FN lo hi ks=0):Cn lo hi=true∧rises ks=true:=by
 unfold FN at h
 by_cases h1:Cn lo hi=false
 · rw [if_pos h1] at h;cases h
 · rw [if_neg h1] at h
   by_cases h2:rises ks=false
   · rw [if_pos h2] at h;cases h
   · exact ⟨by simpa using h1,by simpa using h2⟩
theorem NN {lo hi:Int} {ks:List Int} (h:FN lo hi ks=0) (i:Nat) (hi':i<ks.length):Cn (nth (0,0) (spansOf hi ks) i).1 (nth (0,0) (spansOf hi ks) i).2=true:=by
 obtain ⟨hr,hk⟩:=Ou h
 have ha:=(Ip hr hk).1 h
 have hm:=(F7 ks).1 hk
 rw [List.all_eq_true] at ha
 rw [H9 hi ks i hi']
 have h1:=ha _ (Bv 0 ks i hi')
 unfold GX
 by_cases hc:i+1<ks.length
 · have h2:=ha _ (Bv 0 ks (i+1) hc)
   have h3:=hm i hc
   rw [if_pos hc]
   unfold Cn BP at *
   simp only [Bool.and_eq_true,decide_eq_true_eq] at *
   omega
 · rw [if_neg hc]
   unfold Cn BP at *
   simp only [Bool.and_eq_true,decide_eq_true_eq] at *
   omega
end
section
open Go.RowKit
def Ii (st:WS):Nat:=st.AO.length+st.AR.length+st.AV.length
def Bd (fuel k:Int) (st st':WS):Prop:=st.looked≤st'.looked∧(st.looked≤fuel→st'.looked≤fuel)∧(Ii st':Int)≤Ii st+64*(st'.looked-st.looked)+k
theorem Bd.trans {fuel k j:Int} {a b c:WS} (h:Bd fuel k a b) (h2:Bd fuel j b c):Bd fuel (k+j) a c :=
 ⟨Int.le_trans h.1 h2.1,fun e=>h2.2.1 (h.2.1 e),by have:=h.2.2;have:=h2.2.2;omega⟩
theorem Bd.mono {fuel k j:Int} {a b:WS} (h:Bd fuel k a b) (hj:k≤j):Bd fuel j a b:=⟨h.1,h.2.1,by have:=h.2.2;omega⟩
theorem eP (fuel:Int) (st:WS) (f:K6):Bd fuel 1 st (Ad st f):=⟨Int.le_refl _,fun h=>h,by simp [Ii,Ad];omega⟩
theorem YF (fuel:Int) (f:Int→Int × Int→WS→WS) (hf:∀ i s st,Bd fuel 1 st (f i s st)) (way:List Int) (no:Int):∀ (l:List ((Int × Int) × List UInt8)) (st:WS),Bd fuel l.length st (Ee f way no l st)
 | [],st=>⟨Int.le_refl _,fun h=>h,by simp [Ee]⟩
 | (x,v) :: r,st=>by
  have h1:Bd fuel 1 st (if (Aj v).2≠0 then Ad st ⟨way++[no],(Aj v).2⟩ else f (Aj v).1 x st):=by
   split
   · exact eP _ _ _
   · exact hf _ _ _
  unfold Ee
  by_cases h:(if (Aj v).2≠0 then Ad st ⟨way++[no],(Aj v).2⟩ else f (Aj v).1 x st).Ju=true
  · rw [if_pos h]
    exact h1.mono (by simp;omega)
  · rw [if_neg h]
    exact (h1.trans (YF fuel f hf way no r _)).mono (by simp;omega)
theorem GD {bs:List UInt8} {tree deep:Int} {way:List Int} {no lo hi:Int} (h:Bf bs tree deep way no lo hi=0):AZ bs no tree=0∧way.length<16∧(nodeAt bs no).keys.all (BP lo hi)=true:=by
 unfold Bf at h
 by_cases h1:no∈way
 · rw [if_pos h1] at h;cases h
 rw [if_neg h1] at h
 by_cases h2:16≤way.length
 · rw [if_pos h2] at h;cases h
 rw [if_neg h2] at h
 by_cases h3:AZ bs no tree≠0
 · rw [if_pos h3] at h;exact absurd h h3
 rw [if_neg h3] at h
 by_cases h4:(nodeAt bs no).keys.all (BP lo hi)=false
 · rw [if_pos h4] at h;cases h
 exact ⟨Decidable.not_not.1 h3,by omega,by simpa using h4⟩
theorem Ov (bs:List UInt8) (tree fuel:Int):∀ (d:Nat) (way:List Int) (no:Int) (s:Int × Int) (st:WS),Bd fuel 1 st (BV bs tree fuel d way no s st)
 | 0,_,_,_,st=>⟨Int.le_refl _,fun h=>h,by simp [BV];omega⟩
 | d+1,way,no,s,st=>by
  unfold BV
  by_cases h1:fuel≤st.looked
  · rw [if_pos h1]
    exact ⟨Int.le_refl _,fun h=>h,by simp [Ii,Ad];omega⟩
  rw [if_neg h1]
  by_cases h2:Bf bs tree st.deep way no s.1 s.2≠0
  · rw [if_pos h2]
    exact ⟨by simp [Ad];omega,fun _=>by simp [Ad];omega,by simp [Ii,Ad];omega⟩
  rw [if_neg h2]
  obtain ⟨hn,_,_⟩:=GD (Decidable.not_not.1 h2)
  obtain ⟨hf,hl⟩:=Hl (Dg hn)
  have hf:(nodeAt bs no).keys.length≤18:=hf
  have hl:(nodeAt bs no).keys.length=(nodeAt bs no).vals.length:=hl
  by_cases h3:(nodeAt bs no).leaf=true
  · rw [if_pos h3]
    refine ⟨by simp;omega,fun _=>by simp;omega,?_⟩
    have:(BK (nodeAt bs no) no).length≤18:=by simp [BK];omega
    simp [Ii]
    omega
  · rw [if_neg h3]
    have hk:=YF fuel (BV bs tree fuel d (way++[no])) (Ov bs tree fuel d (way++[no])) way no ((spansOf s.2 (nodeAt bs no).keys).zip (nodeAt bs no).vals) { st with looked:=st.looked+1,AV:=st.AV++[no] }
    have hz:(((spansOf s.2 (nodeAt bs no).keys).zip (nodeAt bs no).vals).length:Int)≤18:=by rw [List.length_zip,Dj];omega
    obtain ⟨k1,k2,k3⟩:=hk
    refine ⟨by simp at k1;omega,fun _=>k2 (by simp;omega),?_⟩
    have hw:(Ii { st with looked:=st.looked+1,AV:=st.AV++[no] }:Int)=Ii st+1:=by simp [Ii];omega
    rw [hw] at k3
    dsimp only at k3
    omega
end
end Go.Proofs.YtpenklpdjpkigaaGreat
