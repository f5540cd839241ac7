/- A part of the proof: WCloneY, WImg, WContI, WRefs, WCloneI, WSortZ, WBitsR, WTally, WSpan1. -/
import Derived.Test.YthblbddmcdnllaaGreatDoorProg
import Derived.Test.YthblbddmcdnllaaGreatDoorX2
import Derived.Outline
import Derived.Test.YthblbddmcdnllaaGreatDoorX3
import Derived.Test.YthblbddmcdnllaaGreatDoorY1
import Derived.Lib.Hide
import Derived.Deep.QuietTactic
import Derived.BigQuiet
import Derived.Test.YthblbddmcdnllaaGreatDoorX4
import Derived.Test.YthblbddmcdnllaaGreatDoorX8
import Derived.Deep.CutBlock
import Derived.Laws.BitsAllLaws
import Derived.Test.YthblbddmcdnllaaGreatDoorX1
import Derived.Maps.OwnSet
import Derived.Carry
import Derived.WideLaws
import Derived.Test.YthblbddmcdnllaaGreatDoorX5
import Derived.Deep.Cut
import Derived.Deep.DeepCutAuto
set_option maxHeartbeats 6400000
set_option linter.unusedVariables false
set_option linter.unusedSimpArgs false
namespace Go.Proofs.YthblbddmcdnllaaGreatDoor
section
open Go.RowKit
theorem JL:(Tryz.prog.info? 5).map (fun i=>(i.zero,i.size,i.bytes))=some (some (.int .u8 0),1,1):=by kernel_rfl
theorem FL (w:World) (S:Nat→Prop) (v:Value) (l:List UInt8) (_hS:∀ b,S b→b<w.heap.size) (h:AU w S v l) (hn:l.length≤140737488355328) :
 Calls Tryz.prog 141 #[v] w fun e w'=>∃ A c,e=.returned (.slice A l.length c)∧w'.ownsRow w.heap.size 5 1 (.slice A l.length c) l.length (AA AX l)∧Below w.heap.size w w':=by
 obtain ⟨A,c,rfl,hc,hr⟩:=h
 have heq:=Lib.run_eql_slice_nil (P:=Tryz.prog) w 82 5 A l.length c 0 0 Tryz.underlying82
 cases A with
 | none =>
  have hl:l=[]:=by
   rcases Nat.eq_zero_or_pos l.length with h0|h0
   · exact List.eq_nil_of_length_eq_zero h0
   · obtain ⟨_,_,e,_⟩:=hr h0
     cases e
  subst hl
  simp only [List.length_nil] at heq ⊢
  go_enter Tryz.func141,Tryz.ntmps141
  go_wp2
  go_ret
  exact ⟨none,0,rfl,World.ownsRow_nil _ _ _ _,Below.refl _ _⟩
 | some a =>
  obtain ⟨xs,hx,hcl⟩:=JH hr
  have hxs:xs=AA AX l:=by
   apply List.ext_getElem?
   intro i
   by_cases hi:i<l.length
   · obtain ⟨cs,_,e1,e2⟩:=hx.2 i hi
     obtain rfl:cs=_:=e1
     have:=e2 0 (by omega)
     rw [Nat.mul_one,Nat.add_zero] at this
     rw [this,BQ,List.getElem?_map,List.getElem?_eq_getElem hi,AZ 0 l i hi]
     rfl
   · rw [List.getElem?_eq_none (by rw [hx.1];omega),List.getElem?_eq_none (by rw [Ad];omega)]
  subst hxs
  generalize hln:l.length=n at *
  have Jr:=qh hln
  clear hln
  go_enter Tryz.func141,Tryz.ntmps141
  go_wp2_with (at_builtin;go_loud (refine Bl Tryz.underlying82 JL rfl (by omega) (by omega) rfl _ _ rfl w.heap.size (.slice (some ⟨w.heap.size,0,none⟩) 0 0) 0 [] rfl (World.ownsRow_made w #[] 0 (Nat.le_refl _) (by simp [maxLen]) rfl) a n c (AA AX l) rfl (by rw [Ad,Jr.out];omega) (fun j u hu=>by
   have hold:=hcl j u hu
   have hlt:=World.block_lt_of_cell? _ _ hold
   rw [World.cell?_alloc_lt _ _ _ hlt];exact hold) (Cy l) (by omega) (by simp) ?_);intro A' cap' w1 hown hg)
  go_ret
  have hB:Below w.heap.size w w1:=((Below.refl _ w).alloc (Nat.le_refl _) _).grown hg (by simp) (fun k hk=>by simp [Value.ownBlock] at hk;omega)
  exact ⟨A',cap',by simp,by simpa using hown,hB⟩
theorem LK (w:World):Calls Tryz.prog 141 #[.slice none 0 0] w fun e w'=>e=.returned (.slice none 0 0)∧w=w':=by
 have heq:=Lib.run_eql_slice_nil (P:=Tryz.prog) w 82 5 none 0 0 0 0 Tryz.underlying82
 go_enter Tryz.func141,Tryz.ntmps141
 go_wp2
 go_ret
 exact ⟨rfl,rfl⟩
end
section
open Go.RowKit
def Am (w:World) (S:Nat→Prop) (a:Nat) (bs:List UInt8):Prop:=S a∧∃ A c,w.cell? ⟨a,0,none⟩=some (.slice A bs.length c)∧bs.length≤c∧De w S A bs
def BO (w:World) (base a:Nat) (bs:List UInt8):Prop:=base≤a∧∃ A c,One w a (.slice A bs.length c) 84∧w.ownsRow base 5 1 (.slice A bs.length c) bs.length (AA AX bs)
section
variable {w w':World} {S S':Nat→Prop} {a base B:Nat} {bs:List UInt8}
theorem Am.keep (h:Am w S a bs) (hs:∀ b,S b→S' b) (hk:CU S w w'):Am w' S' a bs:=by
 obtain ⟨h0,A,c,h1,h2,h3⟩:=h
 exact ⟨hs a h0,A,c,(hk a 0 h0).trans h1,h2,h3.keep (AB _) hs hk⟩
theorem Am.below (h:Am w S a bs) (hB:Below B w w') (hs:∀ b,S b→b<B):Am w' S a bs:=h.keep (fun _ h=>h) (AR hB hs)
theorem BO.is (h:BO w base a bs) (hS:∀ b,base≤b→b<w.heap.size→S b):Am w S a bs:=by
 obtain ⟨h0,A,c,h1,h2⟩:=h
 obtain ⟨A',c',e,hc,hr⟩:=Bp.own (d:=(0:UInt8)) DY h2 (by omega)
 injection e with e1 e2 e3
 subst e1 e3
 exact ⟨hS a h0 h1.lt,A,c,h1.cell,hc,hr.keep (AB _) (fun b hb=>hS b hb.1 hb.2) CU.refl⟩
theorem BO.ne {A:Option Addr} {c n g:Nat} {xs:List Value} (h1:One w a (.slice A n c) 84) (h2:w.ownsRow base 5 1 (.slice A n c) n xs) (hg:(Value.slice A n c).ownBlock=some g):g≠a:=by
 rintro rfl
 rcases h2.2 with ⟨hv,_⟩|⟨g',cap,cur,hv,_,hh,_⟩
 · injection hv with e;subst e;simp [Value.ownBlock] at hg
 · rw [hv] at hg
   have:g'=g:=by simpa [Value.ownBlock] using hg
   subst this
   unfold One at h1
   rw [h1] at hh
   injection hh with hh
   injection hh with _ ht
   exact absurd ht (by decide)
theorem BO.low {base':Nat} (h:BO w base a bs) (hb:base'≤base):BO w base' a bs:=by
 obtain ⟨h0,A,c,h1,h2⟩:=h
 refine ⟨by omega,A,c,h1,h2.1,?_⟩
 rcases h2.2 with h0|⟨g,cap,cur,hv,hb',rest⟩
 · exact .inl h0
 · exact .inr ⟨g,cap,cur,hv,by omega,rest⟩
end
theorem CF (w:World) (a:Nat) (A:Option Addr) (n c:Nat) (h:w.cell? ⟨a,0,none⟩=some (.slice A n c)) (_hn:n≤140737488355328) :
 Calls Tryz.prog 33 #[.pointer (some ⟨a,0,none⟩)] w fun e w'=>e=.returned (.int .i64 ((n:Int) / 256))∧w=w':=by
 go_enter Tryz.func33,Tryz.ntmps33
 go_wp2
 go_ret
 exact ⟨rfl,rfl⟩
end
section
open Go.RowKit
attribute [local go_sem] Oper.semAt_some
theorem Q9 (l:List Int) (x:Int) (h:x∈l):∃ k,k<l.length∧nth 0 l k=x:=by
 obtain ⟨k,hk,e⟩:=List.getElem_of_mem h
 exact ⟨k,hk,by rw [AZ 0 l k hk];exact e⟩
theorem RA (w:World) (S:Nat→Prop) (vk:Value) (ks:List Int) (x:Int) (hS:∀ b,S b→b<w.heap.size) (h:BV w S vk ks) (hl:ks.length≤1000000) :
 Calls Tryz.prog 243 #[vk,.int .i64 x] w fun e w'=>∃ r:Int,e=.returned (.int .i64 r)∧(0≤r↔x∈ks)∧Below w.heap.size w w':=by
 obtain ⟨A,c,rfl,hc,hr⟩:=h
 have HC:Hid (0<ks.length→∃ b off,A=some ⟨b,off,none⟩∧b<w.heap.size∧∀ w',Below w.heap.size w w'→∀ k,k<ks.length→w'.cell? ⟨b,off+k,none⟩=some (.int .i64 (nth 0 ks k))):=fun hp=>by
  obtain ⟨b,off,e,hb,h1⟩:=Be hr hp
  exact ⟨b,off,e,hS b hb,fun w' hB k hk=>(hB.cell (p:=⟨b,off+k,none⟩) (hS b hb)).trans (h1 k hk)⟩
 have UH:=qh (fun k (hk:k<ks.length) (e:x=nth 0 ks k)=>show x∈ks from e ▸ Ci 0 ks k hk)
 have RB:=qh (fun (h:∀ k,k<ks.length→nth 0 ks k≠x)=>show ¬ x∈ks from fun hm=>by obtain ⟨k,hk,e⟩:=Q9 ks x hm;exact h k hk e)
 clear hr
 generalize hn:ks.length=n at *
 clear hn
 have hwr:Below w.heap.size w w:=Below.refl _ _
 go_enter Tryz.func243,Tryz.ntmps243
 go_wp2_with fail
 go_loopw [8] (fun vi wr=>∃ i:Nat,vi=.int .i64 i∧i≤n∧Hid (∀ k,k<i→nth 0 ks k≠x)∧Hid (Below w.heap.size w wr)) (fun vi _=>n-(intOf vi).toNat)
 case atStart=>exact ⟨0,rfl,by omega,(fun k hk=>by omega),Below.refl _ _⟩
 case round =>
 obtain ⟨i,rfl,hi,HR,HB⟩:=hrel
 by_cases hlt:i<n
 · obtain ⟨b,off,rfl,hb,hq⟩:=HC.out (by omega)
   have q0:=hq wr HB.out i hlt
   have hin:=UH.out i hlt
   have YO:Hid (nth 0 ks i≠x→∀ k,k<i+1→nth 0 ks k≠x):=fun h k hk=>by
    by_cases hki:k<i
    · exact HR.out k hki
    · obtain rfl:k=i:=by omega
      exact h
   have hil:(i:Int)<(n:Int):=by omega
   generalize nth 0 ks i=p at *
   have HI:=qh hin
   clear hq hin hi
   by_cases hpx:x=p
   · have hd:(x==p)=true:=beq_iff_eq.2 hpx
     have HM:=qh (HI.out hpx)
     clear hpx
     go_wp2
     go_ret
     exact ⟨_,rfl,⟨fun _=>HM.out,fun _=>by omega⟩,HB.out⟩
   · have hd:(x==p)=false:=by simpa using hpx
     have HR2:=qh (YO.out (fun e=>hpx e.symm))
     clear hpx
     go_wp2_with fail
     go_roundw
     case rel=>exact ⟨i+1,by go_num,by omega,HR2,HB⟩
     case measure=>simp [intOf];omega
 · obtain rfl:i=n:=by omega
   have HN:=qh (RB.out (fun k hk=>HR.out k hk))
   go_wp2
   go_ret
   exact ⟨_,rfl,⟨fun h=>by omega,fun h=>(HN.out h).elim⟩,HB.out⟩
theorem MZ (w:World) (S:Nat→Prop) (vk:Value) (ks:List Int) (x:Int) (hS:∀ b,S b→b<w.heap.size) (h:BV w S vk ks) (hl:ks.length≤1000000) :
 Calls Tryz.prog 229 #[vk,.int .i64 x] w fun e w'=>e=.returned (.bool (decide (x∈ks)))∧Below w.heap.size w w':=by
 have HI:=qh (RA w S vk ks x hS h hl)
 go_enter Tryz.func229,Tryz.ntmps229
 go_wp2_with (go_at_call 243;refine HI.out.mono ?_;rintro e w2 ⟨r,rfl,hr,hB2⟩)
 go_ret
 exact ⟨rfl,hB2⟩
end
section
open Go.RowKit
def bump (l:List Int) (b:Int):List Int:=l.set b.toNat (nth 0 l b.toNat+1)
theorem He (l:List Int) (b:Int):(bump l b).length=l.length:=by simp [bump]
def FU (w:World) (rb base g:Nat) (l:List Int):Prop :=
 ∃ cap,One w rb (.slice (some ⟨g,0,none⟩) l.length cap) 192∧w.ownsRow base 3 1 (.slice (some ⟨g,0,none⟩) l.length cap) l.length (AA encI l)∧base≤g∧g<w.heap.size∧rb≠g
theorem FU.below {w w':World} {rb base g:Nat} {l:List Int} (h:FU w rb base g l) (hb:Below w.heap.size w w'):FU w' rb base g l:=by
 obtain ⟨cap,h1,h2,h3,h4,h5⟩:=h
 exact ⟨cap,h1.below hb h1.lt,h2.kept (row:=none) ⟨hb.os,hb.tape,hb.output,hb.size,fun k hk _=>hb.block k hk⟩ (by simp [Value.ownBlock]),h3,Nat.lt_of_lt_of_le h4 hb.size,h5⟩
theorem Hf (w:World) (rb base g:Nat) (l:List Int) (b:Int) (h:FU w rb base g l) (hb0:0≤b) (hb1:b<l.length) (_hl:l.length≤65536) (hc:0≤nth 0 l b.toNat∧nth 0 l b.toNat≤1099511627776) :
 Calls Tryz.prog 49 #[.pointer (some ⟨rb,0,none⟩),.int .i64 b] w fun e w'=>e=.returned (.tuple #[.int .i64 (nth 0 l b.toNat+1),.int .i64 0])∧w'=w.setCell ⟨g,b.toNat,none⟩ (.int .i64 (nth 0 l b.toNat+1))∧FU w' rb base g (bump l b):=by
 obtain ⟨cap,h1,h2,h3,h4,h5⟩:=h
 obtain ⟨k,rfl⟩:=Int.eq_ofNat_of_zero_le hb0
 rw [Int.toNat_natCast] at *
 have hk:k<l.length:=by omega
 have hst:=h2.stored k (.int .i64 (nth 0 l k+1))
 have hset:(AA encI l).set k (.int .i64 (nth 0 l k+1))=AA encI (bump l (k:Int)):=by
  rw [Bq,Bq,bump,Int.toNat_natCast,List.map_set]
 rw [hset] at hst
 have hcell:w.cell? ⟨g,k,none⟩=some (.int .i64 (nth 0 l k)):=by
  rw [h2.cellAt k (by omega),Bq,AZ 0 l k hk]
  simp [hk]
 have hfr:=h2.frozenAt k
 have q0:=h1.cell
 have HS:=qh hst
 have HO:=qh h1
 have hne:¬ rb=g:=h5
 have hc0:=hc.1
 have hc1:=hc.2
 clear hst hset h1 h2 hc hb1
 generalize nth 0 l k=x at *
 generalize hl0:l.length=n at *
 have HL:=qh hl0
 clear hl0
 go_enter Tryz.func49,Tryz.ntmps49
 go_wp2
 go_ret2
 refine ⟨rfl,rfl,cap,?_,?_,h3,by simpa using h4,h5⟩
 · rw [He,HL.out]
   exact HO.out.far (p:=⟨g,k,none⟩) h5
 · rw [He,HL.out]
   exact HS.out.1
end
section
open Go.RowKit
theorem ND (w:World) (S:Nat→Prop) (v:Value) (l:List Int) (h:BV w S v l) (hn:l.length≤5864062014805) :
 Calls Tryz.prog 73 #[v] w fun e w'=>∃ v',e=.returned v'∧BV w' (Fu w.heap.size w'.heap.size) v' l∧Below w.heap.size w w':=by
 obtain ⟨A,c,rfl,hc,hr⟩:=h
 have heq:=Lib.run_eql_slice_nil (P:=Tryz.prog) w 62 3 A l.length c 0 0 Tryz.underlying62
 cases A with
 | none =>
  have hl:l=[]:=by
   rcases Nat.eq_zero_or_pos l.length with h0|h0
   · exact List.eq_nil_of_length_eq_zero h0
   · obtain ⟨_,_,e,_⟩:=hr h0
     cases e
  subst hl
  simp only [List.length_nil] at heq ⊢
  go_enter Tryz.func73,Tryz.ntmps73
  go_wp2
  go_ret
  exact ⟨_,rfl,Bp.DW,Below.refl _ _⟩
 | some a =>
  obtain ⟨xs,hx,hcl⟩:=JH hr
  have hxs:xs=AA encI l:=by
   rw [Bq]
   apply List.ext_getElem?
   intro j
   by_cases hj:j<l.length
   · obtain ⟨cs,h1,h2,h3⟩:=hx.2 j hj
     obtain rfl:cs=_:=h2
     have:=h3 0 (by omega)
     simp at this
     rw [this,AZ 0 l j hj];simp [hj]
   · have h1:=hx.1
     rw [List.getElem?_eq_none (by omega),List.getElem?_eq_none (by simp;omega)]
  subst hxs
  go_enter Tryz.func73,Tryz.ntmps73
  go_wp2_with (at_builtin;go_loud (refine Bl Tryz.underlying62 JM rfl (by omega) (by omega) rfl _ _ rfl w.heap.size (.slice (some ⟨w.heap.size,0,none⟩) 0 0) 0 [] rfl (World.ownsRow_made w #[] 0 (Nat.le_refl _) (by simp [maxLen]) rfl) a l.length c (AA encI l) rfl hx.1 (fun j u hu=>by
   have hold:=hcl j u hu
   have hlt:=World.block_lt_of_cell? _ _ hold
   rw [World.cell?_alloc_lt _ _ _ hlt];exact hold) (hx.one (fun _ _ cs x h=>by obtain rfl:cs=_:=h;intro u hu;simp at hu;subst hu;rfl)) (by omega) (by simp) ?_);intro A' cap' w1 hown hg)
  go_ret
  refine ⟨_,rfl,?_,?_⟩
  · have:=Bp.own (enc:=encI) (d:=(0:Int)) (l:=l) Bu (by simpa using hown) (by omega)
    exact this
  · exact ((Below.refl _ w).alloc (Nat.le_refl _) _).grown hg (by simp) (fun k hk=>by simp [Value.ownBlock] at hk;omega)
end
section
open Go.RowKit
attribute [local go_sem] Oper.semAt_some
set_option maxRecDepth 100000
theorem YS (w:World):Calls Tryz.prog 55 #[.int .u64 0] w fun e w'=>e=.returned (.int .i64 0)∧w'=w:=by
 go_enter Tryz.func55,Tryz.ntmps55
 go_wp2
 go_ret
 exact ⟨by kernel_rfl,rfl⟩
theorem ik (w:World):Calls Tryz.prog 223 #[.int .u64 0] w fun e w'=>e=.returned (.int .i64 0)∧w'=w:=by
 have H:=qh (YS w)
 go_enter Tryz.func223,Tryz.ntmps223
 go_wp2_with (go_at_call 55;(with_reducible refine H.out.mono ?_);rintro e w2 ⟨rfl,hw⟩;rw [hw];clear hw w2)
 go_ret
 exact ⟨rfl,rfl⟩
theorem V8 (w:World):Calls Tryz.prog 232 #[.slice none 0 0,.int .i64 0,.int .i64 0] w fun e w'=>e=.returned (.tuple #[])∧w'=w:=by
 go_enter Tryz.func232,Tryz.ntmps232
 go_wp2
 refine wp_loop_rounds 1 ?_
 rw [rounds_succ]
 go_wp2
 (try simp only [Exit.inBlock,Exit.then])
 exact bodyPost_end (results_none rfl _ _ _) rfl ⟨rfl,rfl⟩
theorem il (w:World) (n:Int):Calls Tryz.prog 222 #[.slice none 0 0,.int .i64 0,.int .i64 0,.int .i64 n] w fun e w'=>e=.returned (.tuple #[])∧w'=w:=by
 have H:=qh (V8 w)
 go_enter Tryz.func222,Tryz.ntmps222
 go_wp2
 refine wp_loop_rounds 1 ?_
 rw [rounds_succ]
 go_wp2_with (go_at_call 232;(with_reducible refine H.out.mono ?_);rintro e w2 ⟨rfl,hw⟩;rw [hw];clear hw w2)
 (try simp only [Exit.inBlock,Exit.then])
 exact bodyPost_ret (results_none rfl _ _ _) rfl ⟨rfl,rfl⟩
theorem bV (w:World):Calls Tryz.prog 209 #[.slice none 0 0] w fun e w'=>e=.returned (.tuple #[])∧w'=w:=by
 have H:=qh (ik w)
 have HP:=qh (il w 0)
 go_enter Tryz.func209,Tryz.ntmps209
 go_wp2_with (first
  | (go_at_call 223;(with_reducible refine H.out.mono ?_);rintro e w2 ⟨rfl,hw⟩;rw [hw];clear hw w2)
  | (go_at_call 222;(with_reducible refine HP.out.mono ?_);rintro e w2 ⟨rfl,hw⟩;rw [hw];clear hw w2))
 (try simp only [Exit.inBlock,Exit.then])
 exact bodyPost_end (results_none rfl _ _ _) rfl ⟨rfl,rfl⟩
theorem UM (w:World):Calls Tryz.prog 210 #[.slice none 0 0] w fun e w'=>e=.returned (.slice none 0 0)∧w'=w:=by
 go_enter Tryz.func210,Tryz.ntmps210
 go_wp2
 go_ret
 exact ⟨rfl,rfl⟩
end
section
open Go.RowKit
def RI (l:List UInt8) (i:Nat):Nat:=(nth 0 l (4+i / 4)).toNat / 4 ^ (i % 4) % 4
def bitsOf (l:List UInt8):List Int:=(List.range (AC l 0 4)).map fun i=>((RI l i:Nat):Int)
theorem JP (a:Nat) (ha:a<256):bits .and .i64 (a:Int) 3=((a % 4:Nat):Int):=by
 unfold bits
 have h1:(BitVec.ofInt 64 (a:Int)).toNat=a:=by rw [BitVec.toNat_ofInt];omega
 have h3:(BitVec.ofInt 64 3).toNat=3:=by decide
 show IntKind.wrap .i64 ((BitVec.ofInt 64 (a:Int) &&& BitVec.ofInt 64 3).toNat:Int)=_
 rw [BitVec.toNat_and,h1,h3,show a &&& 3=a % 4 from Nat.and_two_pow_sub_one_eq_mod a 2,IntKind.wrap_i64]
 omega
set_option maxRecDepth 100000 in
theorem PY (w:World) (S:Nat→Prop) (v:Value) (l:List UInt8) (hS:∀ b,S b→b<w.heap.size) (h:AU w S v l) (hl:l.length=244) (hc:AC l 0 4≤960) (hz:∀ i,i<960→AC l 0 4≤i→RI l i=0) :
 Calls Tryz.prog 181 #[v] w fun e w'=>(∃ A c,e=.returned (.tuple #[.slice A (AC l 0 4) c,.int .i64 0])∧w'.ownsRow w.heap.size 3 1 (.slice A (AC l 0 4) c) (AC l 0 4) (AA encI (bitsOf l)))∧Below w.heap.size w w':=by
 have hget:=IC w S v l 0 4 hS h (.inr (.inr (.inl rfl))) (by omega) (by omega)
 rw [if_neg (by omega)] at hget
 obtain ⟨A,c,rfl,hcc,hr⟩:=h
 obtain ⟨b,off,rfl,hb,iq⟩:=BU hr (by omega)
 rw [hl] at hget
 have HG:Hid (Calls Tryz.prog 89 #[.slice (some ⟨b,off,none⟩) 244 c,.int .i64 0,.int .i64 4] w fun e w'=>e=.returned (.tuple #[.int .i64 (AC l 0 4:Nat),.int .i64 0])∧w'=w):=hget
 clear hget
 have HC:Hid (∀ k,k<244→∀ W,Below w.heap.size w W→W.cell? ⟨b,off+k,none⟩=some (.int .u8 ((nth 0 l k).toNat:Int))):=fun k hk W hB=>AY hB (hS b hb) (iq k (by omega))
 have HZ:=qh hz
 have HN:Hid (∀ i,i<AC l 0 4→(bitsOf l).take (i+1)=(bitsOf l).take i++[((RI l i:Nat):Int)]):=fun i hi=>by
  show _=_
  unfold bitsOf
  rw [← List.map_take,← List.map_take,List.take_range,List.take_range,Nat.min_eq_left (by omega),Nat.min_eq_left (by omega),List.range_succ,List.map_append]
  rfl
 have gX:Hid ((bitsOf l).take (AC l 0 4)=bitsOf l):=List.take_of_length_le (by unfold bitsOf;rw [List.length_map,List.length_range];exact Nat.le_refl _)
 rw [hl]
 clear hr iq hz
 generalize AC l 0 4=n at *
 generalize bitsOf l=bl at *
 go_enter Tryz.func181,Tryz.ntmps181
 go_wp2_with (go_at_call 89;(with_reducible refine HG.out.mono ?_);rintro e w2 ⟨rfl,hw⟩;rw [hw];clear hw w2)
 clear HG
 go_loopw [6,19] (fun vo vi wr=>∃ (i m:Nat) (A:Option Addr) (c:Nat),vi=.int .i64 i∧i≤960∧vo=.slice A m c∧Hid (m=min i n)∧Hid (wr.ownsRow w.heap.size 3 1 (.slice A m c) m (AA encI (bl.take m)))∧Hid (Below w.heap.size w wr)) (fun _ vi _=>960-(intOf vi).toNat)
 case atStart=>exact ⟨0,0,none,0,rfl,by omega,rfl,by show _=_;omega,by show World.ownsRow _ _ _ _ _ _ _;exact World.ownsRow_nil _ _ _ _,Below.refl _ _⟩
 case round =>
  obtain ⟨i,m,A,c5,rfl,hi,rfl,HM,HO,HB⟩:=hrel
  by_cases h9:i=960
  · subst h9
    have iw:m=n:=by have:=HM.out;omega
    subst iw
    have V9:=HO.out
    rw [gX.out] at V9
    have PZ:=qh V9
    clear V9 HO HM
    go_wp2_with fail
    go_ret2
    exact ⟨⟨A,c5,rfl,PZ.out⟩,HB.out⟩
  · have hi9:i<960:=by omega
    obtain ⟨q,r,hr4,nS⟩:∃ q r,r<4∧i=q*4+r:=⟨i / 4,i % 4,Nat.mod_lt _ (by omega),by omega⟩
    have zM:=HC.out (4+q) (by omega) wr HB.out
    obtain ⟨u,hu⟩:∃ u,nth 0 l (4+q)=u:=⟨_,rfl⟩
    rw [hu] at zM
    have nR:=u.toNat_lt
    obtain ⟨d,hdv⟩:∃ d,u.toNat / 4 ^ r % 4=d:=⟨_,rfl⟩
    have HD:Hid (d=u.toNat / 4 ^ r % 4):=hdv.symm
    have Zy:Hid (d=RI l i):=by
     show _=_
     unfold RI
     rw [show i / 4=q by omega,show i % 4=r by omega,hu]
     exact hdv.symm
    have hd4:d<4:=by omega
    clear hdv hu
    rcases (show r=0∨r=1∨r=2∨r=3 by omega) with rfl|rfl|rfl|rfl
    · have hd:bits .and .i64 ((u.toNat:Int)) 3=(d:Int):=by
        have h:=JP (u.toNat / 1) (by omega)
        have e:d=u.toNat / 1 % 4:=HD.out
        rw [← e,Nat.div_one] at h
        exact h
      have hq4:(i:Int) / 4=(q:Int):=by omega
      have Qm:(i:Int) % 4=0:=by omega
      have pR:q<240:=by omega
      clear nS
      go_upto_region 11 with fail
      clear hq4 Qm
      rcases Nat.lt_or_ge i n with hin|hin
      · have bW:Hid (m=i):=by show _=_;have:=HM.out;omega
        obtain rfl:m=i:=bW.out
        go_wp2_with (at_builtin;go_loud (refine BD Ha rfl _ _ rfl w.heap.size (.slice A m c5) m (bl.take m) (d:Int) rfl HO.out rfl (by omega) HB.out.size ?_);intro A8 c8 w8 CQ Du Eu;have IU:=qh CQ;have Hg:=qh Du;clear CQ Du Eu)
        go_roundw
        case rel=>exact ⟨m+1,m+1,A8,c8,by simp,by omega,rfl,by show _=_;omega,by show World.ownsRow _ _ _ _ _ _ _;rw [HN.out m hin,← Zy.out];exact IU.out,by show Below _ _ _;exact HB.out.grown Hg.out HB.out.size (fun k hk=>(HO.out.lt k hk).1)⟩
        case measure=>simp [intOf];omega
      · obtain rfl:d=0:=by rw [Zy.out];exact HZ.out i hi9 hin
        go_wp2_with fail
        go_roundw
        case rel=>exact ⟨i+1,m,A,c5,by simp,by omega,rfl,by show _=_;have:=HM.out;omega,HO,HB⟩
        case measure=>simp [intOf];omega
    · have hd:bits .and .i64 ((u.toNat:Int) / 4) 3=(d:Int):=by
        have h:=JP (u.toNat / 4) (by omega)
        have e:d=u.toNat / 4 % 4:=HD.out
        rw [← e,Int.natCast_ediv] at h
        exact h
      have hq4:(i:Int) / 4=(q:Int):=by omega
      have Qm:(i:Int) % 4=1:=by omega
      have pR:q<240:=by omega
      clear nS
      go_upto_region 11 with fail
      clear hq4 Qm
      rcases Nat.lt_or_ge i n with hin|hin
      · have bW:Hid (m=i):=by show _=_;have:=HM.out;omega
        obtain rfl:m=i:=bW.out
        go_wp2_with (at_builtin;go_loud (refine BD Ha rfl _ _ rfl w.heap.size (.slice A m c5) m (bl.take m) (d:Int) rfl HO.out rfl (by omega) HB.out.size ?_);intro A8 c8 w8 CQ Du Eu;have IU:=qh CQ;have Hg:=qh Du;clear CQ Du Eu)
        go_roundw
        case rel=>exact ⟨m+1,m+1,A8,c8,by simp,by omega,rfl,by show _=_;omega,by show World.ownsRow _ _ _ _ _ _ _;rw [HN.out m hin,← Zy.out];exact IU.out,by show Below _ _ _;exact HB.out.grown Hg.out HB.out.size (fun k hk=>(HO.out.lt k hk).1)⟩
        case measure=>simp [intOf];omega
      · obtain rfl:d=0:=by rw [Zy.out];exact HZ.out i hi9 hin
        go_wp2_with fail
        go_roundw
        case rel=>exact ⟨i+1,m,A,c5,by simp,by omega,rfl,by show _=_;have:=HM.out;omega,HO,HB⟩
        case measure=>simp [intOf];omega
    · have hd:bits .and .i64 ((u.toNat:Int) / 16) 3=(d:Int):=by
        have h:=JP (u.toNat / 16) (by omega)
        have e:d=u.toNat / 16 % 4:=HD.out
        rw [← e,Int.natCast_ediv] at h
        exact h
      have hq4:(i:Int) / 4=(q:Int):=by omega
      have Qm:(i:Int) % 4=2:=by omega
      have pR:q<240:=by omega
      clear nS
      go_upto_region 11 with fail
      clear hq4 Qm
      rcases Nat.lt_or_ge i n with hin|hin
      · have bW:Hid (m=i):=by show _=_;have:=HM.out;omega
        obtain rfl:m=i:=bW.out
        go_wp2_with (at_builtin;go_loud (refine BD Ha rfl _ _ rfl w.heap.size (.slice A m c5) m (bl.take m) (d:Int) rfl HO.out rfl (by omega) HB.out.size ?_);intro A8 c8 w8 CQ Du Eu;have IU:=qh CQ;have Hg:=qh Du;clear CQ Du Eu)
        go_roundw
        case rel=>exact ⟨m+1,m+1,A8,c8,by simp,by omega,rfl,by show _=_;omega,by show World.ownsRow _ _ _ _ _ _ _;rw [HN.out m hin,← Zy.out];exact IU.out,by show Below _ _ _;exact HB.out.grown Hg.out HB.out.size (fun k hk=>(HO.out.lt k hk).1)⟩
        case measure=>simp [intOf];omega
      · obtain rfl:d=0:=by rw [Zy.out];exact HZ.out i hi9 hin
        go_wp2_with fail
        go_roundw
        case rel=>exact ⟨i+1,m,A,c5,by simp,by omega,rfl,by show _=_;have:=HM.out;omega,HO,HB⟩
        case measure=>simp [intOf];omega
    · have hd:bits .and .i64 ((u.toNat:Int) / 64) 3=(d:Int):=by
        have h:=JP (u.toNat / 64) (by omega)
        have e:d=u.toNat / 64 % 4:=HD.out
        rw [← e,Int.natCast_ediv] at h
        exact h
      have hq4:(i:Int) / 4=(q:Int):=by omega
      have Qm:(i:Int) % 4=3:=by omega
      have pR:q<240:=by omega
      clear nS
      go_upto_region 11 with fail
      clear hq4 Qm
      rcases Nat.lt_or_ge i n with hin|hin
      · have bW:Hid (m=i):=by show _=_;have:=HM.out;omega
        obtain rfl:m=i:=bW.out
        go_wp2_with (at_builtin;go_loud (refine BD Ha rfl _ _ rfl w.heap.size (.slice A m c5) m (bl.take m) (d:Int) rfl HO.out rfl (by omega) HB.out.size ?_);intro A8 c8 w8 CQ Du Eu;have IU:=qh CQ;have Hg:=qh Du;clear CQ Du Eu)
        go_roundw
        case rel=>exact ⟨m+1,m+1,A8,c8,by simp,by omega,rfl,by show _=_;omega,by show World.ownsRow _ _ _ _ _ _ _;rw [HN.out m hin,← Zy.out];exact IU.out,by show Below _ _ _;exact HB.out.grown Hg.out HB.out.size (fun k hk=>(HO.out.lt k hk).1)⟩
        case measure=>simp [intOf];omega
      · obtain rfl:d=0:=by rw [Zy.out];exact HZ.out i hi9 hin
        go_wp2_with fail
        go_roundw
        case rel=>exact ⟨i+1,m,A,c5,by simp,by omega,rfl,by show _=_;have:=HM.out;omega,HO,HB⟩
        case measure=>simp [intOf];omega
end
section
open Go.RowKit
attribute [local go_sem] Oper.semAt_some
set_option maxRecDepth 100000
theorem iy (w:World) (A:Option Addr) (c:Nat) :
 Calls Tryz.prog 224 #[.slice A 0 c] w fun e w'=>e=.returned (.tuple #[.slice none 0 0,.map (some w.heap.size),.bool true])∧w'=w.alloc (.map #[] 0):=by
 have hmm:=@run_makeMap Tryz.prog
 go_enter Tryz.func224,Tryz.ntmps224
 go_wp2
 refine wp_loop_rounds 1 ?_
 rw [rounds_succ]
 go_wp2
 exact bodyPost_ret (v:=.tuple #[.slice none 0 0,.map (some w.heap.size),.bool true]) (by simp [results,Tryz.results224,go_sem]) rfl ⟨rfl,rfl⟩
theorem TK (w:World) (n:Nat) (hb:w.heap[n]? = some (.map #[] 0)):(Builtin.len_ #[356] 3 #[.map (some n)]).run Tryz.prog w=.ok (.int .i64 0) w :=
 run_len_map (w:=w) 356 3 n #[] 0 (by kernel_rfl) hb
theorem jA (w:World) (A:Option Addr) (c:Nat) (B:Option Addr) (d:Nat) :
 Calls Tryz.prog 212 #[.slice A 0 c,.slice B 0 d] w fun e w'=>e=.returned (.tuple #[.slice none 0 0,.int .i64 0])∧Below w.heap.size w w':=by
 have HF:=qh (iy w A c)
 have hln:=TK (w.alloc (.map #[] 0)) w.heap.size (heap_alloc_new w _)
 go_enter Tryz.func212,Tryz.ntmps212
 go_wp2_with (go_at_call 224;(with_reducible refine HF.out.mono ?_);rintro e w2 ⟨rfl,hw⟩;rw [hw];clear hw w2)
 refine wp_loop_rounds 1 ?_
 rw [rounds_succ]
 go_wp2
 go_ret2
 exact ⟨rfl,(Below.refl _ _).alloc (Nat.le_refl _) _⟩
theorem jB (w:World) (gl cl gi ci m:Nat) (l:List Int) (hm:l.length=m) (h1:1≤m) (h9:m≤960) (hx:∀ x∈l,0≤x∧x<3) (hgi:gi<w.heap.size) (hgl:gl<w.heap.size) (hc0:w.cell? ⟨gl,0,none⟩=some (.slice (some ⟨gi,0,none⟩) m ci)) (hc:∀ i,i<m→w.cell? ⟨gi,i,none⟩=some (.int .i64 (nth 0 l i))) :
 Calls Tryz.prog 224 #[.slice (some ⟨gl,0,none⟩) 1 cl] w fun e w'=>(∃ A c,e=.returned (.tuple #[.slice A m c,.map (some w.heap.size),.bool true])∧w'.ownsRow (w.heap.size+1) 3 1 (.slice A m c) m (AA encI l))∧w'.heap[w.heap.size]? = some (.map #[] 0)∧Below w.heap.size w w':=by
 have hmm:=@run_makeMap Tryz.prog
 have hB1:Below w.heap.size w (w.alloc (.map #[] 0)):=(Below.refl _ _).alloc (Nat.le_refl _) _
 have hm1:=heap_alloc_new w (.map #[] 0)
 have hz1:(w.alloc (.map #[] 0)).heap.size=w.heap.size+1:=by simp
 have HC:Hid (∀ i,i<m→∀ W,Below w.heap.size w W→W.cell? ⟨gi,i,none⟩=some (.int .i64 (nth 0 l i))):=fun i hi W hB=>AY hB hgi (hc i hi)
 have HX:Hid (∀ i,i<m→0≤nth 0 l i∧nth 0 l i<3):=fun i hi=>hx _ (Ci 0 l i (by omega))
 have gX:Hid (∀ i,i<m→l.take (i+1)=l.take i++[nth 0 l i]):=fun i hi=>Ck 0 l i (by omega)
 have zN:Hid (l.take m=l):=List.take_of_length_le (by omega)
 have x0:=AY hB1 hgl hc0
 have bX:(m:Int)≤960:=by omega
 have hm0:((m:Int)==0)=false:=by rw [beq_eq_false_iff_ne];omega
 have zO:decide (960<(m:Int))=false:=decide_eq_false (by omega)
 obtain ⟨gm,hgm⟩:∃ q,w.heap.size=q:=⟨_,rfl⟩
 clear hc hc0 hx hm
 go_enter Tryz.func224,Tryz.ntmps224
 go_upto_region 3 with fail
 rw [hgm] at hm1 hz1
 generalize w.alloc (.map #[] 0)=w1 at *
 have HB1:=qh hB1
 have jC:=qh hm1
 have HZ1:=qh hz1
 have pU:=qh hgm
 clear hB1 hm1 hz1 hgm
 go_wp2_with fail
 refine wp_loop_rounds 2 ?_
 rw [rounds_succ]
 go_wp2_with fail
 go_loopw [5,44] (fun vo vi wr=>∃ (i:Nat) (A:Option Addr) (c:Nat),vi=.int .i64 i∧i≤m∧vo=.slice A i c∧Hid (wr.ownsRow w1.heap.size 3 1 (.slice A i c) i (AA encI (l.take i)))∧Hid (Below w1.heap.size w1 wr)) (fun _ vi _=>m-(intOf vi).toNat)
 case atStart=>exact ⟨0,none,0,rfl,by omega,rfl,by show World.ownsRow _ _ _ _ _ _ _;exact World.ownsRow_nil _ _ _ _,Below.refl _ _⟩
 case round =>
  obtain ⟨i,A,c,rfl,hi,rfl,HO,HB⟩:=hrel
  rcases Nat.lt_or_ge i m with hlt|hge
  · have c9:=HC.out i hlt wr (HB1.out.trans (HB.out.mono HB1.out.size))
    obtain ⟨z0,z3⟩:=HX.out i hlt
    have HT:=qh (gX.out i hlt)
    generalize nth 0 l i=z at *
    go_wp2_with (at_builtin;go_loud (refine BD Ha rfl _ _ rfl w1.heap.size (.slice A i c) i (l.take i) z rfl HO.out rfl (by omega) HB.out.size ?_);intro A8 c8 w8 CQ Du Eu;have IU:=qh CQ;have Hg:=qh Du;clear CQ Du Eu)
    go_roundw
    case rel=>exact ⟨i+1,A8,c8,by simp,by omega,rfl,by show World.ownsRow _ _ _ _ _ _ _;rw [HT.out];exact IU.out,by show Below _ _ _;exact HB.out.grown Hg.out HB.out.size (fun k hk=>(HO.out.lt k hk).1)⟩
    case measure=>simp [intOf];omega
  · obtain rfl:i=m:=by omega
    go_wp2_with fail
    rw [rounds_succ]
    go_wp2_with fail
    have ho:=HO.out
    rw [zN.out] at ho
    exact bodyPost_ret (v:=.tuple #[.slice A i c,.map (some gm),.bool true]) (by simp [results,Tryz.results224,go_sem]) rfl ⟨⟨A,c,by rw [pU.out],by rw [pU.out,← HZ1.out];exact ho⟩,by rw [pU.out];exact (HB.out.block gm (by rw [HZ1.out];omega)).trans jC.out,HB1.out.trans (HB.out.mono HB1.out.size)⟩
theorem jD (w:World) (gl cl gi ci m:Nat) (l:List Int) (B:Option Addr) (d:Nat) (hm:l.length=m) (h1:1≤m) (h9:m≤960) (hx:∀ x∈l,0≤x∧x<3) (hgi:gi<w.heap.size) (hgl:gl<w.heap.size) (hc0:w.cell? ⟨gl,0,none⟩=some (.slice (some ⟨gi,0,none⟩) m ci)) (hc:∀ i,i<m→w.cell? ⟨gi,i,none⟩=some (.int .i64 (nth 0 l i))) :
 Calls Tryz.prog 212 #[.slice (some ⟨gl,0,none⟩) 1 cl,.slice B 0 d] w fun e w'=>(∃ A c,e=.returned (.tuple #[.slice A m c,.int .i64 0])∧w'.ownsRow (w.heap.size+1) 3 1 (.slice A m c) m (AA encI l))∧Below w.heap.size w w':=by
 have HF:=qh (jB w gl cl gi ci m l hm h1 h9 hx hgi hgl hc0 hc)
 have Jr:=qh (fun w' hb=>TK w' w.heap.size hb)
 clear hc0 hc hx hm
 go_enter Tryz.func212,Tryz.ntmps212
 go_wp2_with (go_at_call 224;(with_reducible refine HF.out.mono ?_);rintro e w2 ⟨⟨A,c,rfl,ho⟩,hm2,hB⟩;have hln:=Jr.out w2 hm2;have HO:=qh ho;clear ho hm2)
 refine wp_loop_rounds 1 ?_
 rw [rounds_succ]
 go_wp2_with fail
 go_ret2
 exact ⟨⟨A,c,rfl,HO.out⟩,hB⟩
end
section
open Go.RowKit
attribute [local go_sem] Oper.semAt_some
theorem KP (w:World):Calls Tryz.prog 207 #[] w fun e w'=>e=.returned (.agg #[.int .i64 0,.int .i64 281474976710656])∧Below w.heap.size w w':=by
 have hB:Below w.heap.size w (w.alloc (.cells #[.int .i64 0,.int .i64 281474976710656] 332)):=(Below.refl _ _).alloc (Nat.le_refl _) _
 have h:=AL.new w #[.int .i64 0,.int .i64 281474976710656] 332
 have z0:=h.at 0 _ rfl
 have z1:=h.at 1 _ rfl
 clear h
 go_enter Tryz.func207,Tryz.ntmps207
 go_wp2
 exact bodyPost_ret (v:=.agg #[.int .i64 0,.int .i64 281474976710656]) (by simp [results,Tryz.results207,go_sem,z0,z1]) rfl ⟨rfl,hB⟩
theorem Md (w:World) (lo hi:Int):Calls Tryz.prog 244 #[.agg #[.int .i64 lo,.int .i64 hi]] w fun e w'=>e=.returned (.bool (DN lo hi))∧Below w.heap.size w w':=by
 have hB:Below w.heap.size w (w.alloc (.cells #[.int .i64 lo,.int .i64 hi] 332)):=(Below.refl _ _).alloc (Nat.le_refl _) _
 have h:=AL.new w #[.int .i64 lo,.int .i64 hi] 332
 have HA:=qh (KP (w.alloc (.cells #[.int .i64 lo,.int .i64 hi] 332)))
 have HR:Hid (DN lo hi=(decide (0≤lo) && decide (lo≤hi) && decide (hi≤281474976710656))):=rfl
 go_enter Tryz.func244,Tryz.ntmps244
 go_upto_region 1 with fail
 generalize w.alloc (.cells #[.int .i64 lo,.int .i64 hi] 332)=w1 at *
 go_upto_region 2 with (go_at_call 207;refine HA.out.mono ?_;rintro e w2 ⟨rfl,hB2⟩)
 have h2:=h.below hB2 h.lt
 have h3:=AL.new w2 #[.int .i64 0,.int .i64 281474976710656] 332
 have h23:AL (w2.alloc (.cells #[.int .i64 0,.int .i64 281474976710656] 332)) w.heap.size #[.int .i64 lo,.int .i64 hi] 332:=(Below.heap_alloc _ _ _ h2.lt).trans h2
 have HB:Hid (Below w.heap.size w (w2.alloc (.cells #[.int .i64 0,.int .i64 281474976710656] 332))):=(hB.trans (hB2.mono hB.size)).alloc (Nat.le_trans hB.size hB2.size) _
 generalize w2.alloc (.cells #[.int .i64 0,.int .i64 281474976710656] 332)=w3 at *
 have x0:=h23.at 0 _ rfl
 have x1:=h23.at 1 _ rfl
 have y0:=h3.at 0 _ rfl
 have y1:=h3.at 1 _ rfl
 clear hB h hB2 h2 h3 h23
 by_cases a:0≤lo
 · by_cases b:lo≤hi
   · by_cases c:hi≤281474976710656
     · have HF:Hid (DN lo hi=true):=by show _=_;rw [HR.out,decide_eq_true a,decide_eq_true b,decide_eq_true c];rfl
       go_wp2
       go_ret
       exact ⟨by rw [HF.out];rfl,HB.out⟩
     · have HF:Hid (DN lo hi=false):=by show _=_;rw [HR.out,decide_eq_true a,decide_eq_true b,decide_eq_false c];rfl
       go_wp2
       go_ret
       exact ⟨by rw [HF.out];rfl,HB.out⟩
   · have HF:Hid (DN lo hi=false):=by show _=_;rw [HR.out,decide_eq_true a,decide_eq_false b];rfl
     go_wp2
     go_ret
     exact ⟨by rw [HF.out];rfl,HB.out⟩
 · have HF:Hid (DN lo hi=false):=by show _=_;rw [HR.out,decide_eq_false a];rfl
   go_wp2
   go_ret
   exact ⟨by rw [HF.out];rfl,HB.out⟩
theorem Pf (w:World) (lo hi k:Int):Calls Tryz.prog 245 #[.agg #[.int .i64 lo,.int .i64 hi],.int .i64 k] w fun e w'=>e=.returned (.bool (Bg lo hi k))∧Below w.heap.size w w':=by
 have HB:Hid (Below w.heap.size w (w.alloc (.cells #[.int .i64 lo,.int .i64 hi] 332))):=(Below.refl _ _).alloc (Nat.le_refl _) _
 have h:=AL.new w #[.int .i64 lo,.int .i64 hi] 332
 have HR:Hid (Bg lo hi k=(decide (lo≤k) && decide (k<hi))):=rfl
 go_enter Tryz.func245,Tryz.ntmps245
 go_upto_region 1 with fail
 generalize w.alloc (.cells #[.int .i64 lo,.int .i64 hi] 332)=w1 at *
 have x0:=h.at 0 _ rfl
 have x1:=h.at 1 _ rfl
 clear h
 by_cases a:lo≤k
 · by_cases b:k<hi
   · have HF:Hid (Bg lo hi k=true):=by show _=_;rw [HR.out,decide_eq_true a,decide_eq_true b];rfl
     go_wp2
     go_ret
     exact ⟨by rw [HF.out];rfl,HB.out⟩
   · have HF:Hid (Bg lo hi k=false):=by show _=_;rw [HR.out,decide_eq_true a,decide_eq_false b];rfl
     go_wp2
     go_ret
     exact ⟨by rw [HF.out];rfl,HB.out⟩
 · have HF:Hid (Bg lo hi k=false):=by show _=_;rw [HR.out,decide_eq_false a];rfl
   go_wp2
   go_ret
   exact ⟨by rw [HF.out];rfl,HB.out⟩
end
end Go.Proofs.YthblbddmcdnllaaGreatDoor
