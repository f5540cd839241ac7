/- A part of the proof: WSpan5, ScanP, RiseP, LoadP, WLoad1, RLoneP, RangeW, PairsP, WPairs, RangeW2. -/
import Derived.Test.YtpenklpdjpkigaaGreatY21
import Derived.Deep.Onto
import Derived.Test.YtpenklpdjpkigaaGreatY3
import Derived.Test.YtpenklpdjpkigaaGreatY4
import Derived.Test.YtpenklpdjpkigaaGreatY1
import Derived.Test.YtpenklpdjpkigaaGreatY14
import Derived.Test.YtpenklpdjpkigaaGreatY5
import Derived.Deep.CutBlock
import Derived.Sort.BigQuietIn
import Derived.Sort.QuietIn
set_option maxHeartbeats 6400000
set_option linter.unusedVariables false
set_option linter.unusedSimpArgs false
namespace Go.Proofs.YtpenklpdjpkigaaGreat
section
open Go.RowKit Go.Shelf
attribute [local go_sem] Oper.semAt_some
theorem aR:(Tryz.prog.info? 283).map (fun i=>(i.zero,i.size,i.bytes))=some (some (.agg #[.int .i64 0,.int .i64 0]),2,16):=by kernel_rfl
theorem aS (n:Nat):(madeCells (Value.agg #[.int .i64 0,.int .i64 0]).cells (n*2)).toList=AB Gf (List.replicate n (0,0)):=by
 apply List.ext_getElem?
 intro i
 by_cases hi:i<n*2
 · have h1:i / 2<(List.replicate n ((0:Int),(0:Int))).length:=by rw [List.length_replicate];omega
   have hn:nth (0,0) (List.replicate n ((0:Int),(0:Int))) (i / 2)=(0,0):=by rw [Ac _ _ _ h1];simp
   have h2:(Gf (nth (0,0) (List.replicate n ((0:Int),(0:Int))) (i / 2)))[i % 2]? = some (.int .i64 0):=by
    rw [hn]
    rcases (by omega:i % 2=0∨i % 2=1) with e|e <;> rw [e] <;> rfl
   have h3:=DK (d:=((0:Int),(0:Int))) I8 (List.replicate n (0,0)) (i / 2) (i % 2) _ h1 h2
   rw [show i / 2*2+i % 2=i by omega] at h3
   rw [h3]
   simp [madeCells,hi,Value.cells]
   rcases (by omega:i % 2=0∨i % 2=1) with e|e <;> simp [e]
 · rw [List.getElem?_eq_none (by simp [madeCells];omega),List.getElem?_eq_none (by rw [Bw I8,List.length_replicate];omega)]
set_option maxRecDepth 100000 in
theorem Qr (w:World) (S:Nat→Prop) (lo hi:Int) (vk:Value) (ks:List Int) (hS:∀ b,S b→b<w.heap.size) (h:Aa w S vk ks) (hl:ks.length≤1000000) (hfit:FN lo hi ks=0) :
 Calls Tryz.prog 226 #[.agg #[.int .i64 lo,.int .i64 hi],vk] w fun e w'=>(∃ v,e=.returned v∧CF (Flat Gf) 2 (0,0) w' (C9 w.heap.size w'.heap.size) v (spansOf hi ks))∧Below w.heap.size w w':=by
 have HF:=qh (fun w' (hB:Below w.heap.size w w')=>Lv w' S lo hi vk ks (fun b hb=>Nat.lt_of_lt_of_le (hS b hb) hB.size) (h.keep (AA _) (fun _ h=>h) (AL hB hS)) hl)
 rw [hfit] at HF
 obtain ⟨A,c,rfl,hc,hr⟩:=h
 have hB1:Below w.heap.size w (w.alloc (.cells #[.int .i64 lo,.int .i64 hi] 283)):=(Below.refl _ _).alloc (Nat.le_refl _) _
 have hx:=AP.new w #[.int .i64 lo,.int .i64 hi] 283
 obtain ⟨i0,hi0,hz0,hz1,hz2⟩:=info_parts aR
 have Ny:=qh (aL hi ks)
 have zg:=qh (fun pre i=>Ph hi ks pre i)
 have HOL:=qh (fun pre=>I9 hi ks pre)
 have HO0:Hid (K3 hi ks []=List.replicate ks.length (0,0)):=rfl
 have HR:Hid (BX (Flat fun n:Int=>[.int .i64 n]) 1 0 w S A ks):=hr
 have f1:Fence.wide.fn 238:=trivial
 have f2:Fence.wide.fn 239:=trivial
 clear hfit hr
 have HST:=qh (fun (w':World) (gs gk:Nat) (hB:Below w.heap.size w w') (hgs:gs<w'.heap.size) (hgk:gk<w'.heap.size) h0 h1=>XE Fence.wide 2 trivial rfl (by omega) gs gk (fun b=>S b∨b=gs∨b=gk) lo hi A c ks w' (fun b hb=>by rcases hb with hb|rfl|rfl;exact Nat.lt_of_lt_of_le (hS b hb) hB.size;exact hgs;exact hgk) hl (.inr (.inl rfl)) (.inr (.inr rfl)) h0 h1 (HR.out.keep (AA _) (fun _ h=>.inl h) (AL hB hS)))
 have hlen:ks.length=ks.length:=rfl
 refine (callsIn_wide (n:=3)).1 ?_
 refine callsIn_of_wp_marks Tryz.func226 rfl trivial ?_ rfl
 simp only [Tryz.ntmps226,List.size_toArray,List.length_cons,List.length_nil,Nat.reduceAdd,Nat.reduceSub,Array.replicate_succ,Array.replicate_zero,List.push_toArray,List.append_toArray,List.nil_append,List.cons_append]
 have HB1:=qh hB1
 have HX:=qh hx
 have x0:=hx.at 0 _ rfl
 have x1:=hx.at 1 _ rfl
 gi_wp2_with (first
  | (gi_at_call 238;refine (callsIn_wide.2 (HF.out _ HB1.out)).mono ?_;rintro e w2 ⟨rfl,hB2⟩;obtain ⟨w3,hrun,r1,r2⟩:=run_make_full (P:=Tryz.prog) w2 w.heap.size 345 283 i0 _ 2 Tryz.underlying345 hi0 hz0 hz1 .i64 .i64 ks.length (by rw [hz2];omega) (by unfold maxLen;omega) (Nat.le_trans hB1.size hB2.size);have hx2:=HX.out.below hB2 HX.out.lt;have hx3:AP w3 w.heap.size #[.int .i64 lo,.int .i64 hi] 283:=(r2.block _ hx2.lt (by simp)).trans hx2;have y0:w3.cell? ⟨w.heap.size,0,none⟩=some (.int .i64 lo):=hx3.at 0 _ rfl;have y1:w3.cell? ⟨w.heap.size,1,none⟩=some (.int .i64 hi):=hx3.at 1 _ rfl;have hlt3:=hx3.lt)
  | (gi_at_call 239;refine (callsIn_wide.2 (mX _ lo hi A _ c)).mono ?_;rintro e w5 ⟨rfl,rfl⟩))
 have b5:=Boxed.new w3 345 (.slice (some ⟨w2.heap.size,0,none⟩) ks.length ks.length)
 obtain ⟨w4,hw4⟩:∃ x,w3.alloc (.cells #[.slice (some ⟨w2.heap.size,0,none⟩) ks.length ks.length] 345)=x:=⟨_,rfl⟩
 have r4:w4.ownsRow w.heap.size 283 2 (.slice (some ⟨w2.heap.size,0,none⟩) ks.length ks.length) ks.length (AB Gf (K3 hi ks [])):=by
  rw [← hw4,HO0.out,← aS]
  exact r1.alloc _
 have uQ:w4.heap.size=w3.heap.size+1:=by rw [← hw4];simp
 have hB4:Below w3.heap.size w3 w4:=by rw [← hw4];exact (Below.refl _ _).alloc (Nat.le_refl _) _
 rw [hw4] at b5 ⊢
 have hs5:=AP.new w4 #[.int .i64 lo,.int .i64 hi] 283
 have Nq:=AP.new (w4.alloc (.cells #[.int .i64 lo,.int .i64 hi] 283)) #[.slice A ks.length c] 29
 have hs6:AP ((w4.alloc (.cells #[.int .i64 lo,.int .i64 hi] 283)).alloc (.cells #[.slice A ks.length c] 29)) w4.heap.size #[.int .i64 lo,.int .i64 hi] 283:=(Below.heap_alloc _ _ _ hs5.lt).trans hs5
 have b6:=(b5.alloc (.cells #[.int .i64 lo,.int .i64 hi] 283)).alloc (.cells #[.slice A ks.length c] 29)
 have r6:=(r4.alloc (.cells #[.int .i64 lo,.int .i64 hi] 283)).alloc (.cells #[.slice A ks.length c] 29)
 have zF:((w4.alloc (.cells #[.int .i64 lo,.int .i64 hi] 283)).alloc (.cells #[.slice A ks.length c] 29)).heap.size=w3.heap.size+3:=by simp [uQ]
 have EG:Below w4.heap.size w4 ((w4.alloc (.cells #[.int .i64 lo,.int .i64 hi] 283)).alloc (.cells #[.slice A ks.length c] 29)):=((Below.refl _ _).alloc (Nat.le_refl _) _).alloc (by simp) _
 rw [World.size_alloc,uQ] at Nq
 rw [uQ] at hs6
 generalize (w4.alloc (.cells #[.int .i64 lo,.int .i64 hi] 283)).alloc (.cells #[.slice A ks.length c] 29)=w6 at *
 have hB3:Below w.heap.size w w3:=(HB1.out.trans (hB2.mono HB1.out.size)).grown r2 (Nat.le_trans HB1.out.size hB2.size) (fun k e=>by cases e)
 have Iz:Below w.heap.size w w6:=(hB3.trans (hB4.mono hB3.size)).trans (EG.mono (by have:=hB3.size;omega))
 have hg2:w2.heap.size<w3.heap.size:=(r1.lt _ rfl).2
 have hw2:w.heap.size≤w2.heap.size:=(r1.lt _ rfl).1
 have hS6:∀ b,(S b∨b=w3.heap.size+1∨b=w3.heap.size+1+1)→b<w6.heap.size:=fun b hb=>by
  rcases hb with hb|rfl|rfl
  · have:=hS b hb;have:=Iz.size;omega
  · omega
  · omega
 have hseq:=HST.out w6 (w3.heap.size+1) (w3.heap.size+1+1) Iz (by omega) (by omega) (hs6.at 1 _ rfl) (Nq.at 0 _ rfl)
 clear hs5 hs6 Nq b5 r4 hw4 hB4 EG hrun y0 y1 x0 x1 hx hx2 hx3
 refine wpIn_rangeFunc_ownH rfl (by omega) (gf:=248) (lb:=#[.pointer (some ⟨w3.heap.size+1,0,none⟩),.pointer (some ⟨w3.heap.size+1+1,0,none⟩)]) rfl trivial (enters_of Tryz.func248 (by kernel_rfl) rfl)
  hseq qL (fun W l o o' hl _ _ _=>qM hS6 W l o' hl) (Below.refl _ _) (fun _=>rfl)
  (fun pre W=>(W.ownsRow w.heap.size 283 2 (.slice (some ⟨w2.heap.size,0,none⟩) ks.length ks.length) ks.length (AB Gf (K3 hi ks (pre.map (·.1))))∧Boxed W w3.heap.size 345 (.slice (some ⟨w2.heap.size,0,none⟩) ks.length ks.length))∧(Below w.heap.size w W∧w6.heap.size≤W.heap.size))
  (fun _ _ _=>False)
  (OwnFrom.and (OwnFrom.and (Own.from (Yb _ _) _) (Own.from (boxed_own _ _ _) _)) (OwnFrom.and (ownFrom_below (Nat.le_refl _) (by have:=Iz.size;omega)) (MH _ _)))
  (fun _ _ _ _ _ hs _ _=>hs)
  ⟨⟨r6,b6⟩,Iz,Nat.le_refl _⟩
  (fun x a2 W=>∃ Bx,AP W Bx #[.int .i64 (nth 0 ks x.1),.int .i64 (GX hi ks x.1)] 283∧a2={ tmps:=#[.agg #[.int .i64 lo,.int .i64 hi],.slice A ks.length c,.pointer (some ⟨w.heap.size,0,none⟩),undef,.slice none 0 0,.pointer (some ⟨w3.heap.size,0,none⟩),.int .i64 (x.1:Int),.pointer (some ⟨Bx,0,none⟩),.agg #[.int .i64 lo,.int .i64 hi],.slice A ks.length c,.int .i64 0,.bool false,.slice A ks.length c,.int .i64 (ks.length:Int),.slice (some ⟨w2.heap.size,0,none⟩) ks.length ks.length,.agg #[.int .i64 lo,.int .i64 hi],.slice A ks.length c,.func (.func 248) #[] #[.pointer (some ⟨w3.heap.size+1,0,none⟩),.pointer (some ⟨w3.heap.size+1+1,0,none⟩)],.int .i64 (x.1:Int),.agg #[.int .i64 (nth 0 ks x.1),.int .i64 (GX hi ks x.1)],undef,undef,undef,undef,undef],defers:=[] })
  (fun x a2 _ X Y row hs hg hr=>by obtain ⟨Bx,h2,h3⟩:=hs;exact ⟨Bx,mY Bx _ _ () X Y row h2 hg (fun r e=>(hr r e).2),h3⟩)
  ?assign ?body ?done ?stop
 case assign =>
  rintro lp pre x W K ⟨⟨VH,hbW⟩,hBW,hWs⟩ hK
  dsimp only [mV]
  have hsz:=hBW.size
  obtain ⟨p,hp⟩:∃ p,nth 0 ks x.1=p:=⟨_,rfl⟩
  obtain ⟨q,hq⟩:∃ q,GX hi ks x.1=q:=⟨_,rfl⟩
  rw [hp,hq]
  rw [hp,hq] at hK
  gi_wp2
  exact hK _ _ ((KeepsOthers.alloc _ _).from _) ⟨EH (fun b hb=>by have:=hS6 b hb;omega) _,by simp⟩ ⟨⟨VH.alloc _,hbW.alloc _⟩,hBW.alloc hsz _,by simp;omega⟩ ⟨W.heap.size,AP.new W _ _,rfl⟩
 case body =>
  rintro lp pre x a2 W hl' ⟨r,hr⟩ ⟨⟨VH,hbW⟩,hBW,hWs⟩ ⟨Bx,hT,rfl⟩ hlt
  have e0:=hbW.cell
  have t0:=hT.at 0 _ rfl
  have t1:=hT.at 1 _ rfl
  have hxl:=x.2
  have hol:=HOL.out (pre.map (·.1))
  obtain ⟨q0,q1⟩:=ACj VH hxl hol
  have z0:=VH.frozenAt (x.1*2)
  have z1:=VH.frozenAt (x.1*2+1)
  have hset:=iB VH (nth 0 ks x.1,GX hi ks x.1) hxl hol
  rw [← zg.out] at hset
  have ACs:=qh hset
  have HRW:=qh VH
  clear hol hset VH
  gi_wp2
  have hne:w3.heap.size≠w2.heap.size:=by omega
  have hnS:¬ (S w2.heap.size∨w2.heap.size=w3.heap.size+1∨w2.heap.size=w3.heap.size+1+1):=by
   rintro (h|h|h)
   · have:=hS _ h;omega
   · omega
   · omega
  refine ⟨((KeepsOthers.setCell _ _ _).trans (KeepsOthers.setCell _ _ _)).from _,⟨(FU hnS _).trans (FU hnS _),((KeepsOthers.setCell _ _ _).trans (KeepsOthers.setCell _ _ _)).size⟩,⟨?_,?_⟩,?_,?_⟩
  · have e:(pre++[x]).map (·.1)=pre.map (·.1)++[x.1]:=by rw [List.map_append];rfl
    have hh:=ACs.out.1
    rw [← e] at hh
    exact hh
  · exact (Below.heap_setCell _ _ _ w3.heap.size hne).trans ((Below.heap_setCell W _ _ w3.heap.size hne).trans hbW)
  · exact (hBW.setCell hw2 _).setCell hw2 _
  · rw [zF] at hWs;exact Nat.le_trans hWs ((KeepsOthers.setCell _ _ _).trans (KeepsOthers.setCell _ _ _)).size
 case done =>
  rintro D xs W hD hxs ⟨⟨VH,hbW⟩,hBW,hWs⟩ hK
  have e0:=hbW.cell
  have HRW:=qh VH
  clear VH
  gi_wp2
  have hsW:=hBW.size
  have hDW:D<W.heap.size:=(Array.getElem?_eq_some_iff.1 hK).1
  refine ⟨by simp,.inl ⟨_,_,rfl,run_takeDeferred hK,?_⟩⟩
  refine ⟨_,results_tmp rfl _ _ _,⟨_,rfl,?_⟩,?_⟩
  · rw [← Ny.out,← hxs]
    exact CF.own (enc:=Gf) (d:=((0,0):Int × Int)) I8 (Yb _ (fun (_:Unit)=>_) () W _ (some D) HRW.out (grownBy_putObj' W D _) (fun r e=>by cases e;exact ⟨_,hK,rfl⟩)) (by omega)
  · exact hBW.grown (grownBy_putObj' W D _) hsW (fun k e=>by cases e;omega)
 case stop =>
  rintro D c pre W _ _ h _
  exact h.elim
end
section
open Go.RowKit
theorem Ye (f:Int→Int × Int→WS→WS) (hf:∀ i s st,(∀ x∈st.AR,x.code≠0)→∀ x∈(f i s st).AR,x.code≠0) (way:List Int) (no:Int):∀ (l:List ((Int × Int) × List UInt8)) (st:WS),(∀ x∈st.AR,x.code≠0)→∀ x∈(Ee f way no l st).AR,x.code≠0
 | [],st,h=>h
 | (y,v) :: r,st,h=>by
  rw [LK]
  have h1:∀ x∈(if (Aj v).2≠0 then Ad st ⟨way++[no],(Aj v).2⟩ else f (Aj v).1 y st).AR,x.code≠0:=by
   split
   · rename_i hc
     intro x hx
     simp only [Ad,List.mem_append,List.mem_singleton] at hx
     rcases hx with hx|rfl
     · exact h x hx
     · exact hc
   · exact hf _ _ _ h
  generalize (if (Aj v).2≠0 then Ad st ⟨way++[no],(Aj v).2⟩ else f (Aj v).1 y st)=st2 at h1 ⊢
  split
  · exact h1
  · exact Ye f hf way no r _ h1
theorem VM (bs:List UInt8) (tree fuel:Int):∀ (d:Nat) (way:List Int) (no:Int) (s:Int × Int) (st:WS),(∀ x∈st.AR,x.code≠0)→∀ x∈(BV bs tree fuel d way no s st).AR,x.code≠0
 | 0,_,_,_,_,h=>h
 | d+1,way,no,s,st,h=>by
  unfold BV
  split
  · intro x hx
    simp only [Ad,List.mem_append,List.mem_singleton] at hx
    rcases hx with hx|rfl
    · exact h x hx
    · show (12:Int)≠0
      decide
  · split
    · rename_i hc
      intro x hx
      simp only [Ad,List.mem_append,List.mem_singleton] at hx
      rcases hx with hx|rfl
      · exact h x hx
      · exact hc
    · split
      · exact h
      · exact Ye _ (VM bs tree fuel d _) _ _ _ _ h
theorem Yf (bs:List UInt8) (root tree fuel:Int):∀ x∈(Az bs root tree fuel).AR,x.code≠0:=VM _ _ _ _ _ _ _ _ (fun x hx=>by cases hx)
def BJ (st:WS):K6:=nth ⟨[],0⟩ st.AR 0
theorem XP {st:WS} (h:∀ x∈st.AR,x.code≠0):(BJ st).code=0↔st.AR=[]:=by
 unfold BJ
 cases hl:st.AR with
 | nil=>simp [nth]
 | cons x r =>
  rw [EP]
  constructor
  · intro e;exact absurd e (h x (by rw [hl];simp))
  · intro e;cases e
theorem nD (bs:List UInt8) (root tree fuel:Int) (h:0≤fuel):(Ii (Az bs root tree fuel):Int)≤64*fuel+1∧0≤(Az bs root tree fuel).looked∧(Az bs root tree fuel).looked≤fuel:=by
 obtain ⟨h1,h2,h3⟩:=Ov bs tree fuel 17 [] root (0,281474976710656) OE
 have h2:=h2 (by simpa [OE] using h)
 have e:Ii OE=0:=rfl
 rw [e] at h3
 simp only [OE] at h1 h3
 unfold Az
 simp only [OE] at h2 ⊢
 exact ⟨by omega,h1,h2⟩
theorem Em (w:World) (g:Nat) (u0 u1 u2 u3 u4:Value):Touch (fun x=>x=g) w (((((w.setCell ⟨g,0,none⟩ u0).setCell ⟨g,1,none⟩ u1).setCell ⟨g,2,none⟩ u2).setCell ⟨g,3,none⟩ u3).setCell ⟨g,4,none⟩ u4) :=
 have k:∀ (w:World) (i:Nat) (u:Value),Touch (fun x=>x=g) w (w.setCell ⟨g,i,none⟩ u):=fun w i u=>Touch.Dc (R:=fun x=>x=g) (p:=⟨g,i,none⟩) rfl
 ((((k _ 0 u0).trans (k _ 1 u1)).trans (k _ 2 u2)).trans (k _ 3 u3)).trans (k _ 4 u4)
def Gq (w0 w:World) (v:Value) (st:WS):Prop :=
 ∃ Ae ce Ab cb Af cf vs,v=.agg #[.slice Ae st.AO.length ce,.slice Ab st.AV.length cb,.int .i64 st.deep,.int .i64 st.looked,.slice Af st.AR.length cf] ∧
  w.ownsRow w0.heap.size 108 3 (.slice Ae st.AO.length ce) st.AO.length (AB Cq st.AO)∧w.ownsRow w0.heap.size 3 1 (.slice Ab st.AV.length cb) st.AV.length (AB encI st.AV) ∧
  w.ownsRow w0.heap.size 40 1 (.slice Af st.AR.length cf) st.AR.length vs∧JK w (FB w w0.heap.size) vs st.AR
theorem Gq.below {w0 w w':World} {v:Value} {st:WS} (h:Gq w0 w v st) (hB:Below w.heap.size w w'):Gq w0 w' v st:=by
 obtain ⟨Ae,ce,Ab,cb,Af,cf,vs,e,h1,h2,h3,h4⟩:=h
 obtain ⟨k1,k2⟩:=E8 (w:=w) (w':=w') (base:=w0.heap.size) (fun b cs hb=>hB.block b (Array.getElem?_eq_some_iff.1 hb).1)
 exact ⟨Ae,ce,Ab,cb,Af,cf,vs,e,own_below h1 hB (Nat.le_refl _),own_below h2 hB (Nat.le_refl _),own_below h3 hB (Nat.le_refl _),h4.keep k1 k2⟩
theorem VN {w w':World} {g base:Nat} (hT:Touch (fun x=>x=g) w w') (hg:g<base):(∀ b,FB w base b→FB w' base b)∧CS (FB w base) w w' :=
 ⟨fun b hb=>⟨hb.1,by obtain ⟨cs,h⟩:=hb.2;exact ⟨cs,(hT.block hb.lt (fun e=>by have:=hb.1;omega)).trans h⟩⟩,Ap hT (fun b hb=>⟨hb.lt,fun e=>by have:=hb.1;omega⟩)⟩
theorem Gq.touch {w0 w w':World} {v:Value} {st:WS} {g:Nat} (h:Gq w0 w v st) (hT:Touch (fun x=>x=g) w w') (hg:g<w0.heap.size):Gq w0 w' v st:=by
 obtain ⟨Ae,ce,Ab,cb,Af,cf,vs,e,h1,h2,h3,h4⟩:=h
 obtain ⟨k1,k2⟩:=VN (base:=w0.heap.size) hT hg
 exact ⟨Ae,ce,Ab,cb,Af,cf,vs,e,BG h1 hT (fun x hx e=>by have:=(h1.lt x hx).1;omega),BG h2 hT (fun x hx e=>by have:=(h2.lt x hx).1;omega),BG h3 hT (fun x hx e=>by have:=(h3.lt x hx).1;omega),h4.keep k1 k2⟩
theorem Gq.base {w0 w1 w:World} {v:Value} {st:WS} (h:Gq w1 w v st) (hb:w0.heap.size≤w1.heap.size):Gq w0 w v st:=by
 obtain ⟨Ae,ce,Ab,cb,Af,cf,vs,e,h1,h2,h3,h4⟩:=h
 exact ⟨Ae,ce,Ab,cb,Af,cf,vs,e,h1.mono hb,h2.mono hb,h3.mono hb,h4.keep (fun b hx=>⟨Nat.le_trans hb hx.1,hx.2⟩) CS.refl⟩
def KW:Value:=.agg #[.slice none 0 0,.slice none 0 0,.int .i64 0,.int .i64 0,.slice none 0 0]
def TP (w0 w:World) (e:Ending) (st:WS):Prop:=∃ v ev,e=.returned (.tuple #[v,ev])∧CJ w (FB w w0.heap.size) ev (BJ st)∧(if (BJ st).code=0 then Gq w0 w v st else v=KW)
end
section
open Go.RowKit
def Ia (lo hi:Int) (l:List Kq):Prop:=(∀ e∈l,lo≤e.key∧e.key<hi∧e.val.length≤24)∧l.Pairwise fun a b=>a.key<b.key
theorem Ia.F4 (lo hi:Int):Ia lo hi []:=⟨(fun e he=>by cases he),List.Pairwise.nil⟩
theorem Ia.app {lo mid ui hi:Int} {a b:List Kq} (ha:Ia lo mid a) (hb:Ia ui hi b) (h1:mid≤ui) (h2:lo≤mid) (h3:ui≤hi):Ia lo hi (a++b):=by
 refine ⟨fun e he=>?_,?_⟩
 · rcases List.mem_append.1 he with h|h
   · obtain ⟨p,q,r⟩:=ha.1 e h;exact ⟨p,by omega,r⟩
   · obtain ⟨p,q,r⟩:=hb.1 e h;exact ⟨by omega,q,r⟩
 · rw [List.pairwise_append]
   refine ⟨ha.2,hb.2,fun x hx y hy=>?_⟩
   have:=(ha.1 x hx).2.1
   have:=(hb.1 y hy).1
   omega
theorem Ia.mono {lo hi lo' hi':Int} {a:List Kq} (h:Ia lo hi a) (h1:lo'≤lo) (h2:hi≤hi'):Ia lo' hi' a :=
 ⟨fun e he=>by obtain ⟨p,q,r⟩:=h.1 e he;exact ⟨by omega,by omega,r⟩,h.2⟩
def SL (hi:Int):Int→List (Int × Int)→Prop
 | lo,[]=>lo≤hi
 | lo,x :: r=>lo≤x.1∧x.1≤x.2∧SL hi x.2 r
theorem SL.le {hi:Int}:∀ {lo:Int} {l:List (Int × Int)},SL hi lo l→lo≤hi
 | _,[],h=>h
 | _,x :: r,⟨h1,h2,h3⟩=>by have:=SL.le h3;omega
theorem Rt (f:Int→Int × Int→WS→WS) (hf:∀ i s st,s.1≤s.2→∃ new,(f i s st).AO=st.AO++new∧Ia s.1 s.2 new) (way:List Int) (no hi:Int):∀ (l:List ((Int × Int) × List UInt8)) (lo:Int) (st:WS),SL hi lo (l.map Prod.fst)→∃ new,(Ee f way no l st).AO=st.AO++new∧Ia lo hi new
 | [],lo,st,h=>⟨[],by simp [Ee],Ia.F4 _ _⟩
 | (y,v) :: r,lo,st,h=>by
  obtain ⟨h1,h2,h3⟩:=h
  dsimp only at h1 h2 h3
  rw [LK]
  have hs:∃ new,(if (Aj v).2≠0 then Ad st ⟨way++[no],(Aj v).2⟩ else f (Aj v).1 y st).AO=st.AO++new∧Ia y.1 y.2 new:=by
   split
   · exact ⟨[],by simp [Ad],Ia.F4 _ _⟩
   · exact hf _ _ _ h2
  generalize (if (Aj v).2≠0 then Ad st ⟨way++[no],(Aj v).2⟩ else f (Aj v).1 y st)=st2 at hs ⊢
  obtain ⟨n1,e1,r1⟩:=hs
  have hle:=SL.le h3
  split
  · exact ⟨n1,e1,r1.mono h1 hle⟩
  · obtain ⟨n2,e2,r2⟩:=Rt f hf way no hi r y.2 st2 h3
    exact ⟨n1++n2,by rw [e2,e1,List.append_assoc],(r1.mono h1 (Int.le_refl _)).app r2 (Int.le_refl _) (by omega) hle⟩
theorem VO (hi:Int):∀ (ks:List Int) (lo:Int),lo≤hi→(∀ k∈ks,lo≤k∧k<hi)→ks.Pairwise (·<·)→SL hi lo (spansOf hi ks)
 | [],lo,h,_,_=>h
 | [k],lo,h,h1,_=>⟨(h1 k (by simp)).1,by have:=(h1 k (by simp)).2;show k≤hi;omega,Int.le_refl _⟩
 | k :: k2 :: ks,lo,h,h1,h2=>by
  have hk:=h1 k (by simp)
  have hk2:=h1 k2 (by simp)
  have h3:=List.pairwise_cons.1 h2
  have h12:k<k2:=h3.1 k2 (by simp)
  refine ⟨hk.1,by show k≤k2;omega,?_⟩
  refine VO hi (k2 :: ks) k2 (by omega) (fun x hx=>?_) h3.2
  rcases List.mem_cons.1 hx with rfl|hx
  · exact ⟨Int.le_refl _,hk2.2⟩
  · have:=(List.pairwise_cons.1 h3.2).1 x hx
    exact ⟨by omega,(h1 x (by simp [hx])).2⟩
theorem Po {ks:List Int} (h:rises ks=true):ks.Pairwise (·<·):=by
 have hr:=(F7 ks).1 h
 rw [List.pairwise_iff_getElem]
 intro i j hi hj hij
 obtain ⟨d,rfl⟩:∃ d,j=i+1+d:=⟨j-(i+1),by omega⟩
 have h1:=hr i (by omega)
 have h2:=JM hr d (i+1) (by omega)
 rw [Ac 0 ks i hi] at h1
 rw [Ac 0 ks (i+1+d) hj] at h2
 omega
theorem aW {bs:List UInt8} {no tree lo hi:Int} (h:AZ bs no tree=0) (ha:(nodeAt bs no).keys.all (BP lo hi)=true):Ia lo hi (BK (nodeAt bs no) no):=by
 obtain ⟨h1,h2⟩:=Io (Dg h)
 have hp:=Po h1
 have hl:=(Hl (Dg h)).2
 have hv:=LJ bs no
 unfold nodeAt at *
 generalize Du (Bz bs no)=n at *
 unfold BK
 have hz:(n.keys.zip n.vals).map Prod.fst=n.keys:=List.map_fst_zip (by omega)
 refine ⟨fun e he=>?_,?_⟩
 · obtain ⟨x,hx,rfl⟩:=List.mem_map.1 he
   obtain ⟨a,b⟩:=x
   obtain ⟨hx1,hx2⟩:=List.of_mem_zip hx
   have:=List.all_eq_true.1 ha a hx1
   simp [BP] at this
   exact ⟨this.1,this.2,hv _ hx2⟩
 · rw [List.pairwise_map]
   rw [← hz,List.pairwise_map] at hp
   exact hp
theorem Pp (bs:List UInt8) (tree fuel:Int):∀ (d:Nat) (way:List Int) (no:Int) (s:Int × Int) (st:WS),s.1≤s.2→∃ new,(BV bs tree fuel d way no s st).AO=st.AO++new∧Ia s.1 s.2 new
 | 0,_,_,_,_,_=>⟨[],by simp [BV],Ia.F4 _ _⟩
 | d+1,way,no,s,st,hs=>by
  unfold BV
  split
  · exact ⟨[],by simp [Ad],Ia.F4 _ _⟩
  · split
    · exact ⟨[],by simp [Ad],Ia.F4 _ _⟩
    · rename_i hE
      obtain ⟨h1,h2,h3⟩:=GD (Decidable.not_not.1 hE)
      split
      · exact ⟨BK (nodeAt bs no) no,rfl,aW h1 h3⟩
      · obtain ⟨k1,k2⟩:=Io (Dg h1)
        have hp:=Po k1
        have hl:(nodeAt bs no).keys.length=(nodeAt bs no).vals.length:=(Hl (Dg h1)).2
        have hz:((spansOf s.2 (nodeAt bs no).keys).zip (nodeAt bs no).vals).map Prod.fst=spansOf s.2 (nodeAt bs no).keys:=List.map_fst_zip (by rw [Dj];omega)
        refine Rt _ (Pp bs tree fuel d _) way no s.2 _ s.1 _ ?_
        rw [hz]
        refine VO s.2 _ s.1 hs (fun k hk=>?_) hp
        have:=List.all_eq_true.1 h3 k hk
        simp [BP] at this
        exact this
theorem GM (bs:List UInt8) (root tree fuel:Int):Ia 0 281474976710656 (Az bs root tree fuel).AO:=by
 obtain ⟨new,h1,h2⟩:=Pp bs tree fuel 17 [] root (0,281474976710656) OE (by decide)
 unfold Az
 rw [h1]
 exact h2
end
section
open Go.RowKit
def uj (data:Int) (e:Kq):Int:=if (Ed e.val).2.2≠0 then (Ed e.val).2.2 else if data≤(Ed e.val).1 then 2 else 0
def mapOf (e:Kq):Mp:=⟨e.key,(Ed e.val).1,(Ed e.val).2.1⟩
def uk (data:Int) (e:Kq):K6:=⟨[e.loc],uj data e⟩
def nG {α:Type} (f:α→K6):List α→K6
 | []=>Qc
 | x :: r=>if (f x).code≠0 then f x else nG f r
theorem Ru {α:Type} (d:α) (f:α→K6):∀ (l:List α),(∀ j,j<l.length→(f (nth d l j)).code=0)→nG f l=Qc
 | [],_=>rfl
 | x :: r,h=>by
  have h0:=h 0 (by simp)
  rw [EP] at h0
  unfold nG
  rw [if_neg (by rw [h0];simp)]
  exact Ru d f r (fun j hj=>by have:=h (j+1) (by simpa using hj);rwa [EQ] at this)
def qQ (bs:List UInt8) (data fuel root:Int):K6:=if (BJ (Az bs root 2 fuel)).code≠0 then BJ (Az bs root 2 fuel) else nG (uk data) (Az bs root 2 fuel).AO
def Gg (bs:List UInt8) (fuel root:Int):List Mp:=(Az bs root 2 fuel).AO.map mapOf
end
section
open Go.RowKit Go.Shelf
attribute [local go_sem] Oper.semAt_some
def LP (w:World) (base:Nat) (v:Value) (f:K6):Prop:=∃ t u,v=.iface t u∧D7 w (FB w base) v f.blocks f.code
theorem LP.of {w:World} {base:Nat} {v:Value} {f:K6} (h:CJ w (FB w base) v f) (hc:f.code≠0):LP w base v f:=by
 unfold CJ at h
 rw [if_neg hc] at h
 obtain ⟨t,u,e,_⟩:=h.form
 exact ⟨t,u,e,h⟩
end
section
open Go.RowKit
end
section
open Go.RowKit Go.Shelf
variable {F:Fence} {n:Nat} {P:Program}
def rC (Wr:World→World→Prop) (B:Nat) (J:Nat→World→Prop):Prop:=AbidesFrom B J∧∀ k W W',J k W→Wr W W'→J k W'
def iw (F:Fence) (n:Nat) (P:Program) (gf:Nat) (lb:Array Value) (encs:Nat→Array Value) (Kp Wr:World→World→Prop) (N:Nat) (w:World):Prop :=
 ∀ (l:Nat) (J Jx:Nat→World→Prop) (W:World),Below w.heap.size w W→rC Wr W.heap.size J→rC Wr W.heap.size Jx →
  (∀ k W1,k<N→J k W1→YieldAt F (n-1) P l (encs k) W1 fun e W'=>(e=.returned (.bool true)∧J (k+1) W'∧Kp W1 W')∨(e=.returned (.bool false)∧Jx (k+1) W'))→J 0 W →
  CallsIn F n P gf (#[.func (.yield l) #[] #[]]++lb) W fun e W'=>(∃ v,e=.returned v)∧(J N W'∨∃ k,k≤N∧Jx k W')
def vH (B:Nat) (Kp:World→World→Prop) (I:Nat→World→Prop) (Ix:Code→Nat→World→Prop) (k:Nat) (W:World):Exit→Act→World→Prop
 | .normal,_,W'=>KeepsFrom B W W'∧Kp W W'∧I (k+1) W'
 | .ret,_,W'=>KeepsFrom B W W'∧Ix .ret (k+1) W'
 | .exit id,_,W'=>KeepsFrom B W W'∧Ix (.exit id) (k+1) W'
 | _,_,_=>False
theorem TT {g:Operand} {ps:Array Tmp} {assign body:Code} {Q:Exit→Act→World→Prop} {a:Act} {w:World}
 (hro:F.round=none) (h1:1≤n) {gf:Nat} {lb:Array Value} (hg:a.eval g=.func (.func gf) #[] lb) (hFg:F.fn gf) (eg:∀ args w,(callFunc gf args).run P w=.ok (.enter gf args) w)
 {encs:Nat→Array Value} {Kp Wr:World→World→Prop} {N:Nat} (hseq:iw F (n-1) P gf lb encs Kp Wr N w)
 (hWr:∀ W W':World,Wr W W'→∀ (k:Nat) (o:Obj),W.heap[k]? = some o→o.isCells=false→W'.heap[k]? = some o)
 (hKt:∀ {A B C:World},Kp A B→Kp B C→Kp A C) (hKb:∀ (W:World) (l:Nat) (o':Obj),w.heap.size≤l→Kp W (W.putObj l o')) (hps:∀ k,(encs k).size=ps.size)
 (I:Nat→World→Prop) (Ix:Code→Nat→World→Prop) (hI:OwnFrom w.heap.size I) (hIx:∀ c,OwnFrom w.heap.size (Ix c)) (nU:∀ k W W',I k W→Wr W W'→I k W') (TU:∀ c k W W',Ix c k W→Wr W W'→Ix c k W') (h0:I 0 w)
 (Ax:Nat→Act→World→Prop) (hAx:∀ k a',OwnFrom w.heap.size (fun (_:Unit) W=>Ax k a' W))
 (hassign:∀ (l k:Nat) (W:World) (K:Act→World→Prop),I k W→(∀ a' W',KeepsFrom w.heap.size W W'→Kp W W'→I k W'→Ax k a' W'→K a' W') →
  assign.wpIn (F.inRound l) (n-1-1) P (Exit.then K (fun _ _ _=>False)) { tmps:=(ps.zip (encs k)).foldl (fun t (p,v)=>t.setIfInBounds p v) a.tmps,defers:=[] } W)
 (hbody:∀ (l k:Nat) (a':Act) (W:World),w.heap.size≤l→(∃ r,W.heap[l]? = some (.loop r))→I k W→Ax k a' W→k<N→body.wpIn (F.inRound l) (n-1-1) P (vH w.heap.size Kp I Ix k W) a' W)
 (hdone:∀ (D:Nat) (W:World),w.heap.size≤D→I N W→W.heap[D]? = some (.deferred (some []))→Q .normal { a with defers:={ target:=.collected D,args:=#[] } :: a.defers } W)
 (hstop:∀ (D:Nat) (c:Code) (k:Nat) (W:World),w.heap.size≤D→k≤N→Ix c k W→W.heap[D]? = some (.deferred (some []))→c.wpIn F n P Q { a with defers:={ target:=.collected D,args:=#[] } :: a.defers } W) :
 (Code.rangeFunc g ps assign body).wpIn F n P Q a w:=by
 refine wpIn_rangeFunc ?_
 intro fn hfn
 rw [hro]
 let rec_:LoopState→Option Code→Loop:=fun st pe=>{ state:=st,pending:=pe,fn,tmps:=a.tmps,params:=ps,assign,body,defers:=w.heap.size }
 obtain ⟨V,hV⟩:∃ V,(w.alloc (.deferred (some []))).alloc (.loop (rec_ .ready none))=V:=⟨_,rfl⟩
 have bL:V.heap[w.heap.size+1]? = some (.loop (rec_ .ready none)):=by
  have h:=World.alloc_heap_new (w.alloc (.deferred (some []))) (.loop (rec_ .ready none))
  rw [World.size_alloc,hV] at h
  exact h
 have bD:V.heap[w.heap.size]? = some (.deferred (some [])):=by
  rw [← hV]
  exact (Below.heap_alloc _ _ _ (by simp)).trans (World.alloc_heap_new w _)
 have hIV:I 0 V:=by rw [← hV];exact hI.alloc _ (hI.alloc _ h0)
 have hBV:Below w.heap.size w V:=by rw [← hV];exact ((Below.refl _ w).alloc (Nat.le_refl _) _).alloc (by simp) _
 have hsV:V.heap.size=w.heap.size+2:=by rw [← hV];simp
 have up:∀ {A:World} {row:Option Nat},(∀ r,row=some r→V.heap.size≤r∧∃ o:Obj,A.heap[r]? = some o∧o.isWalk=true)→∀ r,row=some r→w.heap.size≤r∧∃ o:Obj,A.heap[r]? = some o∧o.isCells=false :=
  fun h r e=>by obtain ⟨q,o,ho,hw⟩:=h r e;exact ⟨by omega,o,ho,Obj.not_cells_of_walk hw⟩
 refine ⟨w.heap.size+1,[{ target:=.collected w.heap.size,args:=#[] }],V,{ target:=.fn (.func gf) lb,args:=#[.func (.yield (w.heap.size+1)) #[] #[]] },V,gf,#[.func (.yield (w.heap.size+1)) #[] #[]]++lb,V,?_,?_,?_,?_,fun _=>h1,?_⟩
 · rw [← hV];exact run_enterLoop_outer _ _ _ _ _
 · simp only [resolve,hg]
   simp [go_sem]
 · intro f' hf'
   simp [Target.leads] at hf'
   subst hf'
   exact hFg
 · simp [invoke,go_sem,eg]
 have keep2:∀ (st:LoopState) (pe:Option Code) (W W':World),Wr W W'→(W.heap[w.heap.size+1]? = some (.loop (rec_ st pe))→W'.heap[w.heap.size+1]? = some (.loop (rec_ st pe)))∧(W.heap[w.heap.size]? = some (.deferred (some []))→W'.heap[w.heap.size]? = some (.deferred (some []))) :=
  fun st pe W W' hw=>⟨fun h=>hWr _ _ hw _ _ h rfl,fun h=>hWr _ _ hw _ _ h rfl⟩
 refine (hseq (w.heap.size+1) (fun k W=>I k W∧W.heap[w.heap.size+1]? = some (.loop (rec_ .ready none))∧W.heap[w.heap.size]? = some (.deferred (some [])))
  (fun k W=>∃ c,Ix c k W∧W.heap[w.heap.size+1]? = some (.loop (rec_ .done (some c)))∧W.heap[w.heap.size]? = some (.deferred (some []))) V hBV
  ⟨fun s A B row ⟨p,q,r⟩ hgr hr=>⟨hI s A B row p hgr (up hr),(grownBy_keeps hgr (fun r e=>(hr r e).2) q rfl).trans q,(grownBy_keeps hgr (fun r e=>(hr r e).2) r rfl).trans r⟩,fun k A B ⟨p,q,r⟩ hw=>⟨nU k A B p hw,(keep2 _ _ A B hw).1 q,(keep2 .ready none A B hw).2 r⟩⟩
  ⟨fun s A B row ⟨c,p,q,r⟩ hgr hr=>⟨c,hIx c s A B row p hgr (up hr),(grownBy_keeps hgr (fun r e=>(hr r e).2) q rfl).trans q,(grownBy_keeps hgr (fun r e=>(hr r e).2) r rfl).trans r⟩,fun k A B ⟨c,p,q,r⟩ hw=>⟨c,TU c k A B p hw,(keep2 _ _ A B hw).1 q,(keep2 .ready none A B hw).2 r⟩⟩
  ?round ⟨hIV,bL,bD⟩).mono ?behind
 case round =>
  rintro k U hk ⟨hi,hl,hd⟩
  have hlt:w.heap.size+1<U.heap.size:=(Array.getElem?_eq_some_iff.1 hl).1
  have hy:=run_yield (P:=P) (args:=encs k) hl (hps k)
  refine ⟨fn,_,assign,body,hy,roundIn_of_wpIn hfn (hassign _ k U _ hi ?_)⟩
  clear hy
  intro a' W hkf hkp hi2 hax
  have hl2:=hkf.same _ _ (by omega) hl rfl
  have hd2:=hkf.same _ _ (Nat.le_refl _) hd rfl
  have hlt2:w.heap.size+1<W.heap.size:=(Array.getElem?_eq_some_iff.1 hl2).1
  refine ⟨_,run_beginRound hl2 rfl,?_⟩
  have hl3:(W.putObj (w.heap.size+1) (.loop { rec_ .ready none with state:=.busy })).heap[w.heap.size+1]? = some (.loop { rec_ .ready none with state:=.busy }):=World.putObj_heap_same hlt2
  have hd3:(W.putObj (w.heap.size+1) (.loop { rec_ .ready none with state:=.busy })).heap[w.heap.size]? = some (.deferred (some [])):=(World.putObj_heap_other (by omega)).trans hd2
  have hkb:Kp W (W.putObj (w.heap.size+1) (.loop { rec_ .ready none with state:=.busy })):=hKb _ _ _ (by omega)
  refine wpIn_mono (hbody _ k a' _ (by omega) ⟨_,hl3⟩ (hI.putObj _ hi2 (by omega) hl2 rfl) ((hAx k a').putObj (s:=()) _ hax (by omega) hl2 rfl) hk) ?_
  have fin:∀ (jump:Option Code) (W3:World),KeepsFrom w.heap.size (W.putObj (w.heap.size+1) (.loop { rec_ .ready none with state:=.busy })) W3 →
   (Instr.endRound (w.heap.size+1) jump).run P W3=.ok (.bool jump.isNone) (W3.putObj (w.heap.size+1) (.loop (rec_ (if jump.isNone then .ready else .done) jump))) ∧
   W3.heap[w.heap.size+1]? = some (.loop { rec_ .ready none with state:=.busy }) ∧
   (W3.putObj (w.heap.size+1) (.loop (rec_ (if jump.isNone then .ready else .done) jump))).heap[w.heap.size+1]? = some (.loop (rec_ (if jump.isNone then .ready else .done) jump)) ∧
   (W3.putObj (w.heap.size+1) (.loop (rec_ (if jump.isNone then .ready else .done) jump))).heap[w.heap.size]? = some (.deferred (some [])):=fun jump W3 hk3=>by
   have h3:=hk3.same _ _ (by omega) hl3 rfl
   exact ⟨run_endRound (P:=P) jump h3,h3,World.putObj_heap_same (Array.getElem?_eq_some_iff.1 h3).1,(World.putObj_heap_other (by omega)).trans (hk3.same _ _ (Nat.le_refl _) hd3 rfl)⟩
  rintro e a3 W3 hp
  cases e with
  | normal =>
   obtain ⟨k3,kp3,i3⟩:=hp
   obtain ⟨hr,h3,h4,h5⟩:=fin none W3 k3
   exact ⟨_,_,hr,.inl ⟨rfl,⟨hI.putObj _ i3 (by omega) h3 rfl,h4,h5⟩,hKt hkp (hKt (hKt hkb kp3) (hKb _ _ _ (by omega)))⟩⟩
  | ret =>
   obtain ⟨k3,i3⟩:=hp
   obtain ⟨hr,h3,h4,h5⟩:=fin (some .ret) W3 k3
   exact ⟨_,_,hr,.inr ⟨rfl,.ret,(hIx _).putObj _ i3 (by omega) h3 rfl,h4,h5⟩⟩
  | exit id =>
   obtain ⟨k3,i3⟩:=hp
   obtain ⟨hr,h3,h4,h5⟩:=fin (some (.exit id)) W3 k3
   exact ⟨_,_,hr,.inr ⟨rfl,.exit id,(hIx _).putObj _ i3 (by omega) h3 rfl,h4,h5⟩⟩
  | goto t=>exact hp.elim
  | panic ch=>exact hp.elim
  | outgrown=>exact hp.elim
 case behind =>
  rintro e W2 ⟨⟨v,rfl⟩,⟨hi,hl,hd⟩|⟨k,hk,c,hi,hl,hd⟩⟩
  · exact ⟨none,_,run_endLoop (P:=P) hl (by simp [rec_]),hdone _ _ (Nat.le_refl _) (hI.putObj _ hi (by omega) hl rfl) ((World.putObj_heap_other (by omega)).trans hd)⟩
  · exact ⟨some c,_,run_endLoop (P:=P) hl (by simp [rec_]),hstop _ c k _ (Nat.le_refl _) hk ((hIx c).putObj _ hi (by omega) hl rfl) ((World.putObj_heap_other (by omega)).trans hd)⟩
end
section
open Go.RowKit
end
section
open Go.RowKit Go.Shelf
attribute [local go_sem] Oper.semAt_some
def N7 (S:Nat→Prop) (W W':World):Prop:=(∀ x,S x→W'.heap[x]? = W.heap[x]?)∧W.heap.size≤W'.heap.size
theorem N7.refl {S:Nat→Prop} {W:World}:N7 S W W:=⟨fun _ _=>rfl,Nat.le_refl _⟩
theorem N7.trans {S:Nat→Prop} {A B C:World} (h:N7 S A B) (k:N7 S B C):N7 S A C:=⟨fun x hx=>(k.1 x hx).trans (h.1 x hx),Nat.le_trans h.2 k.2⟩
theorem N7.box {S:Nat→Prop} {W W':World} {g:Nat} {cs:Array Value} {T:TypeId} (h:N7 S W W') (hg:S g) (hb:AP W g cs T):AP W' g cs T:=(h.1 g hg).trans hb
theorem TV {B:Nat} {J:Nat→World→Prop} (h:AbidesFrom B J) {k:Nat} {W:World} (hj:J k W) (q:Nat):J k (W.drewN q) :=
 h k W (W.drewN q) none hj ⟨rfl,rfl,rfl,Nat.le_refl _,fun _ _ _=>rfl⟩ (fun r e=>by cases e)
end
section
open Go.RowKit Go.Shelf
variable {F:Fence} {n:Nat} {P:Program}
theorem GU {g:Operand} {ps:Array Tmp} {assign body:Code} {Q:Exit→Act→World→Prop} {a:Act} {w:World}
 (hro:F.round=none) (h1:1≤n) {gf:Nat} {lb:Array Value} (hg:a.eval g=.func (.func gf) #[] lb) (hFg:F.fn gf) (eg:∀ args w,(callFunc gf args).run P w=.ok (.enter gf args) w)
 {encs:Nat→Array Value} {Kp Wr:World→World→Prop} {N:Nat} (hseq:iw F (n-1) P gf lb encs Kp Wr N w)
 (hWr:∀ W W':World,Wr W W'→∀ (k:Nat) (o:Obj),W.heap[k]? = some o→o.isCells=false→W'.heap[k]? = some o)
 (hKt:∀ {A B C:World},Kp A B→Kp B C→Kp A C) (hKb:∀ (W:World) (l:Nat) (o':Obj),w.heap.size≤l→Kp W (W.putObj l o')) (hps:∀ k,(encs k).size=ps.size)
 (I:Nat→World→Prop) (Ix:Code→Nat→World→Prop) (hI:OwnFrom w.heap.size I) (hIx:∀ c,OwnFrom w.heap.size (Ix c)) (nU:∀ k W W',I k W→Wr W W'→I k W') (TU:∀ c k W W',Ix c k W→Wr W W'→Ix c k W') (h0:I 0 w)
 (LU:∀ (l k:Nat) (W:World),I k W →
  assign.wpIn (F.inRound l) (n-1-1) P (Exit.then (fun a' W'=>Hid (KeepsFrom w.heap.size W W'∧Kp W W'∧I k W'∧∀ (l:Nat) (W:World),w.heap.size≤l→(∃ r,W.heap[l]? = some (.loop r))→I k W→k<N→body.wpIn (F.inRound l) (n-1-1) P (vH w.heap.size Kp I Ix k W) a' W)) (fun _ _ _=>False))
   { tmps:=(ps.zip (encs k)).foldl (fun t (p,v)=>t.setIfInBounds p v) a.tmps,defers:=[] } W)
 (hdone:∀ (D:Nat) (W:World),w.heap.size≤D→I N W→W.heap[D]? = some (.deferred (some []))→Q .normal { a with defers:={ target:=.collected D,args:=#[] } :: a.defers } W)
 (hstop:∀ (D:Nat) (c:Code) (k:Nat) (W:World),w.heap.size≤D→k≤N→Ix c k W→W.heap[D]? = some (.deferred (some []))→c.wpIn F n P Q { a with defers:={ target:=.collected D,args:=#[] } :: a.defers } W) :
 (Code.rangeFunc g ps assign body).wpIn F n P Q a w :=
 TT hro h1 hg hFg eg hseq hWr hKt hKb hps I Ix hI hIx nU TU h0
  (fun k a' _=>∀ (l:Nat) (W:World),w.heap.size≤l→(∃ r,W.heap[l]? = some (.loop r))→I k W→k<N→body.wpIn (F.inRound l) (n-1-1) P (vH w.heap.size Kp I Ix k W) a' W)
  (fun _ _ _ _ _ _ h _ _=>h)
  (fun l k W K hi hK=>wpIn_mono (LU l k W hi) (fun e a' W' h=>by
   cases e with
   | normal=>exact hK a' W' (Hid.out h).1 (Hid.out h).2.1 (Hid.out h).2.2.1 (Hid.out h).2.2.2
   | _=>exact h))
  (fun l k a' W h1 h2 h3 h4 h5=>h4 l W h1 h2 h3 h5) hdone hstop
def KC (W W':World):Prop:=W.heap.size≤W'.heap.size∧∀ (b:Nat) (cs:Array Value) (T:TypeId),W.heap[b]? = some (Obj.cells cs T (0,0))→W'.heap[b]? = some (Obj.cells cs T (0,0))
theorem KC.box {W W':World} {g:Nat} {cs:Array Value} {T:TypeId} (h:KC W W') (hb:AP W g cs T):AP W' g cs T:=h.2 g cs T hb
theorem KC.grown {W W':World} {row:Option Nat} (hg:W.grownBy W' row) (hr:∀ r,row=some r→∃ o:Obj,W.heap[r]? = some o∧o.isCells=false):KC W W' :=
 ⟨hg.size,fun b cs T hb=>(hg.block b (Array.getElem?_eq_some_iff.1 hb).1 (fun e=>by
  obtain ⟨o,ho,hc⟩:=hr b e.symm
  rw [hb] at ho
  injection ho with ho
  subst ho
  cases hc)).trans hb⟩
end
end Go.Proofs.YtpenklpdjpkigaaGreat
