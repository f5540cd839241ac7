/- A part of the proof: WSpan5, RangeW. -/
import Derived.Test.YthblbddmcdnllaaGreatDoorX25
import Derived.Test.YthblbddmcdnllaaGreatDoorY1
set_option maxHeartbeats 6400000
set_option linter.unusedVariables false
set_option linter.unusedSimpArgs false
namespace Go.Proofs.YthblbddmcdnllaaGreatDoor
section
open Go.RowKit Go.Shelf
attribute [local go_sem] Oper.semAt_some
theorem Uu:(Tryz.prog.info? 332).map (fun i=>(i.zero,i.size,i.bytes))=some (some (.agg #[.int .i64 0,.int .i64 0]),2,16):=by kernel_rfl
theorem Uv (n:Nat):(madeCells (Value.agg #[.int .i64 0,.int .i64 0]).cells (n*2)).toList=AA Ep (List.replicate n (0,0)):=by
 apply List.ext_getElem?
 intro i
 by_cases hi:i<n*2
 · have h1:i / 2<(List.replicate n ((0:Int),(0:Int))).length:=by rw [List.length_replicate];omega
   have hn:nth (0,0) (List.replicate n ((0:Int),(0:Int))) (i / 2)=(0,0):=by rw [AZ _ _ _ h1];simp
   have h2:(Ep (nth (0,0) (List.replicate n ((0:Int),(0:Int))) (i / 2)))[i % 2]? = some (.int .i64 0):=by
    rw [hn]
    rcases (by omega:i % 2=0∨i % 2=1) with e|e <;> rw [e] <;> rfl
   have h3:=Dc (d:=((0:Int),(0:Int))) F7 (List.replicate n (0,0)) (i / 2) (i % 2) _ h1 h2
   rw [show i / 2*2+i % 2=i by omega] at h3
   rw [h3]
   simp [madeCells,hi,Value.cells]
   rcases (by omega:i % 2=0∨i % 2=1) with e|e <;> simp [e]
 · rw [List.getElem?_eq_none (by simp [madeCells];omega),List.getElem?_eq_none (by rw [CO F7,List.length_replicate];omega)]
set_option maxRecDepth 100000 in
theorem Mg (w:World) (S:Nat→Prop) (lo hi:Int) (vk:Value) (ks:List Int) (hS:∀ b,S b→b<w.heap.size) (h:BV w S vk ks) (hl:ks.length≤1000000) (hfit:Eh lo hi ks=0) :
 Calls Tryz.prog 220 #[.agg #[.int .i64 lo,.int .i64 hi],vk] w fun e w'=>(∃ v,e=.returned v∧Bp (Flat Ep) 2 (0,0) w' (Fu w.heap.size w'.heap.size) v (spansOf hi ks))∧Below w.heap.size w w':=by
 have HF:=qh (fun w' (hB:Below w.heap.size w w')=>JS w' S lo hi vk ks (fun b hb=>Nat.lt_of_lt_of_le (hS b hb) hB.size) (h.keep (AB _) (fun _ h=>h) (AR hB hS)) hl)
 rw [hfit] at HF
 obtain ⟨A,c,rfl,hc,hr⟩:=h
 have hB1:Below w.heap.size w (w.alloc (.cells #[.int .i64 lo,.int .i64 hi] 332)):=(Below.refl _ _).alloc (Nat.le_refl _) _
 have hx:=AL.new w #[.int .i64 lo,.int .i64 hi] 332
 obtain ⟨i0,hi0,hz0,hz1,hz2⟩:=info_parts Uu
 have R5:=qh (Un hi ks)
 have jy:=qh (fun pre i=>Lm hi ks pre i)
 have HOL:=qh (fun pre=>F8 hi ks pre)
 have HO0:Hid (Im hi ks []=List.replicate ks.length (0,0)):=rfl
 have HR:Hid (Bw (Flat fun n:Int=>[.int .i64 n]) 1 0 w S A ks):=hr
 have f1:Fence.wide.fn 230:=trivial
 have f2:Fence.wide.fn 231:=trivial
 clear hfit hr
 have HST:=qh (fun (w':World) (gs gk:Nat) (hB:Below w.heap.size w w') (hgs:gs<w'.heap.size) (hgk:gk<w'.heap.size) h0 h1=>Ru Fence.wide 2 trivial rfl (by omega) gs gk (fun b=>S b∨b=gs∨b=gk) lo hi A c ks w' (fun b hb=>by rcases hb with hb|rfl|rfl;exact Nat.lt_of_lt_of_le (hS b hb) hB.size;exact hgs;exact hgk) hl (.inr (.inl rfl)) (.inr (.inr rfl)) h0 h1 (HR.out.keep (AB _) (fun _ h=>.inl h) (AR hB hS)))
 have hlen:ks.length=ks.length:=rfl
 refine (callsIn_wide (n:=3)).1 ?_
 refine callsIn_of_wp_marks Tryz.func220 rfl trivial ?_ rfl
 simp only [Tryz.ntmps220,List.size_toArray,List.length_cons,List.length_nil,Nat.reduceAdd,Nat.reduceSub,Array.replicate_succ,Array.replicate_zero,List.push_toArray,List.append_toArray,List.nil_append,List.cons_append]
 have HB1:=qh hB1
 have HX:=qh hx
 have x0:=hx.at 0 _ rfl
 have x1:=hx.at 1 _ rfl
 gi_wp2_with (first
  | (gi_at_call 230;refine (callsIn_wide.2 (HF.out _ HB1.out)).mono ?_;rintro e w2 ⟨rfl,hB2⟩;obtain ⟨w3,hrun,r1,r2⟩:=run_make_full (P:=Tryz.prog) w2 w.heap.size 351 332 i0 _ 2 Tryz.underlying351 hi0 hz0 hz1 .i64 .i64 ks.length (by rw [hz2];omega) (by unfold maxLen;omega) (Nat.le_trans hB1.size hB2.size);have hx2:=HX.out.below hB2 HX.out.lt;have hx3:AL w3 w.heap.size #[.int .i64 lo,.int .i64 hi] 332:=(r2.block _ hx2.lt (by simp)).trans hx2;have y0:w3.cell? ⟨w.heap.size,0,none⟩=some (.int .i64 lo):=hx3.at 0 _ rfl;have y1:w3.cell? ⟨w.heap.size,1,none⟩=some (.int .i64 hi):=hx3.at 1 _ rfl;have hlt3:=hx3.lt)
  | (gi_at_call 231;refine (callsIn_wide.2 (Yv _ lo hi A _ c)).mono ?_;rintro e w5 ⟨rfl,rfl⟩))
 have b5:=Boxed.new w3 351 (.slice (some ⟨w2.heap.size,0,none⟩) ks.length ks.length)
 obtain ⟨w4,hw4⟩:∃ x,w3.alloc (.cells #[.slice (some ⟨w2.heap.size,0,none⟩) ks.length ks.length] 351)=x:=⟨_,rfl⟩
 have r4:w4.ownsRow w.heap.size 332 2 (.slice (some ⟨w2.heap.size,0,none⟩) ks.length ks.length) ks.length (AA Ep (Im hi ks [])):=by
  rw [← hw4,HO0.out,← Uv]
  exact r1.alloc _
 have dU:w4.heap.size=w3.heap.size+1:=by rw [← hw4];simp
 have hB4:Below w3.heap.size w3 w4:=by rw [← hw4];exact (Below.refl _ _).alloc (Nat.le_refl _) _
 rw [hw4] at b5 ⊢
 have hs5:=AL.new w4 #[.int .i64 lo,.int .i64 hi] 332
 have NH:=AL.new (w4.alloc (.cells #[.int .i64 lo,.int .i64 hi] 332)) #[.slice A ks.length c] 62
 have hs6:AL ((w4.alloc (.cells #[.int .i64 lo,.int .i64 hi] 332)).alloc (.cells #[.slice A ks.length c] 62)) w4.heap.size #[.int .i64 lo,.int .i64 hi] 332:=(Below.heap_alloc _ _ _ hs5.lt).trans hs5
 have b6:=(b5.alloc (.cells #[.int .i64 lo,.int .i64 hi] 332)).alloc (.cells #[.slice A ks.length c] 62)
 have r6:=(r4.alloc (.cells #[.int .i64 lo,.int .i64 hi] 332)).alloc (.cells #[.slice A ks.length c] 62)
 have nY:((w4.alloc (.cells #[.int .i64 lo,.int .i64 hi] 332)).alloc (.cells #[.slice A ks.length c] 62)).heap.size=w3.heap.size+3:=by simp [dU]
 have FP:Below w4.heap.size w4 ((w4.alloc (.cells #[.int .i64 lo,.int .i64 hi] 332)).alloc (.cells #[.slice A ks.length c] 62)):=((Below.refl _ _).alloc (Nat.le_refl _) _).alloc (by simp) _
 rw [World.size_alloc,dU] at NH
 rw [dU] at hs6
 generalize (w4.alloc (.cells #[.int .i64 lo,.int .i64 hi] 332)).alloc (.cells #[.slice A ks.length c] 62)=w6 at *
 have hB3:Below w.heap.size w w3:=(HB1.out.trans (hB2.mono HB1.out.size)).grown r2 (Nat.le_trans HB1.out.size hB2.size) (fun k e=>by cases e)
 have F5:Below w.heap.size w w6:=(hB3.trans (hB4.mono hB3.size)).trans (FP.mono (by have:=hB3.size;omega))
 have hg2:w2.heap.size<w3.heap.size:=(r1.lt _ rfl).2
 have hw2:w.heap.size≤w2.heap.size:=(r1.lt _ rfl).1
 have xM:∀ b,(S b∨b=w3.heap.size+1∨b=w3.heap.size+1+1)→b<w6.heap.size:=fun b hb=>by
  rcases hb with hb|rfl|rfl
  · have:=hS b hb;have:=F5.size;omega
  · omega
  · omega
 have hseq:=HST.out w6 (w3.heap.size+1) (w3.heap.size+1+1) F5 (by omega) (by omega) (hs6.at 1 _ rfl) (NH.at 0 _ rfl)
 clear hs5 hs6 NH b5 r4 hw4 hB4 FP hrun y0 y1 x0 x1 hx hx2 hx3
 refine wpIn_rangeFunc_ownH rfl (by omega) (gf:=246) (lb:=#[.pointer (some ⟨w3.heap.size+1,0,none⟩),.pointer (some ⟨w3.heap.size+1+1,0,none⟩)]) rfl trivial (enters_of Tryz.func246 (by kernel_rfl) rfl)
  hseq aH (fun W l o o' hl _ _ _=>aI xM W l o' hl) (Below.refl _ _) (fun _=>rfl)
  (fun pre W=>(W.ownsRow w.heap.size 332 2 (.slice (some ⟨w2.heap.size,0,none⟩) ks.length ks.length) ks.length (AA Ep (Im hi ks (pre.map (·.1))))∧Boxed W w3.heap.size 351 (.slice (some ⟨w2.heap.size,0,none⟩) ks.length ks.length))∧(Below w.heap.size w W∧w6.heap.size≤W.heap.size))
  (fun _ _ _=>False)
  (OwnFrom.and (OwnFrom.and (Own.from (TT _ _) _) (Own.from (boxed_own _ _ _) _)) (OwnFrom.and (ownFrom_below (Nat.le_refl _) (by have:=F5.size;omega)) (JZ _ _)))
  (fun _ _ _ _ _ hs _ _=>hs)
  ⟨⟨r6,b6⟩,F5,Nat.le_refl _⟩
  (fun x a2 W=>∃ Bx,AL W Bx #[.int .i64 (nth 0 ks x.1),.int .i64 (FJ hi ks x.1)] 332∧a2={ tmps:=#[.agg #[.int .i64 lo,.int .i64 hi],.slice A ks.length c,.pointer (some ⟨w.heap.size,0,none⟩),undef,.slice none 0 0,.pointer (some ⟨w3.heap.size,0,none⟩),.int .i64 (x.1:Int),.pointer (some ⟨Bx,0,none⟩),.agg #[.int .i64 lo,.int .i64 hi],.slice A ks.length c,.int .i64 0,.bool false,.slice A ks.length c,.int .i64 (ks.length:Int),.slice (some ⟨w2.heap.size,0,none⟩) ks.length ks.length,.agg #[.int .i64 lo,.int .i64 hi],.slice A ks.length c,.func (.func 246) #[] #[.pointer (some ⟨w3.heap.size+1,0,none⟩),.pointer (some ⟨w3.heap.size+1+1,0,none⟩)],.int .i64 (x.1:Int),.agg #[.int .i64 (nth 0 ks x.1),.int .i64 (FJ hi ks x.1)],undef,undef,undef,undef,undef],defers:=[] })
  (fun x a2 _ X Y row hs hg hr=>by obtain ⟨Bx,h2,h3⟩:=hs;exact ⟨Bx,Yw Bx _ _ () X Y row h2 hg (fun r e=>(hr r e).2),h3⟩)
  ?assign ?body ?done ?stop
 case assign =>
  rintro lp pre x W K ⟨⟨QG,hbW⟩,hBW,hWs⟩ hK
  dsimp only [Yt]
  have hsz:=hBW.size
  obtain ⟨p,hp⟩:∃ p,nth 0 ks x.1=p:=⟨_,rfl⟩
  obtain ⟨q,hq⟩:∃ q,FJ hi ks x.1=q:=⟨_,rfl⟩
  rw [hp,hq]
  rw [hp,hq] at hK
  gi_wp2
  exact hK _ _ ((KeepsOthers.alloc _ _).from _) ⟨DV (fun b hb=>by have:=xM b hb;omega) _,by simp⟩ ⟨⟨QG.alloc _,hbW.alloc _⟩,hBW.alloc hsz _,by simp;omega⟩ ⟨W.heap.size,AL.new W _ _,rfl⟩
 case body =>
  rintro lp pre x a2 W hl' ⟨r,hr⟩ ⟨⟨QG,hbW⟩,hBW,hWs⟩ ⟨Bx,hT,rfl⟩ hlt
  have e0:=hbW.cell
  have t0:=hT.at 0 _ rfl
  have t1:=hT.at 1 _ rfl
  have hxl:=x.2
  have hol:=HOL.out (pre.map (·.1))
  obtain ⟨q0,q1⟩:=rX QG hxl hol
  have z0:=QG.frozenAt (x.1*2)
  have z1:=QG.frozenAt (x.1*2+1)
  have hset:=Wv QG (nth 0 ks x.1,FJ hi ks x.1) hxl hol
  rw [← jy.out] at hset
  have sU:=qh hset
  have HRW:=qh QG
  clear hol hset QG
  gi_wp2
  have hne:w3.heap.size≠w2.heap.size:=by omega
  have nz:¬ (S w2.heap.size∨w2.heap.size=w3.heap.size+1∨w2.heap.size=w3.heap.size+1+1):=by
   rintro (h|h|h)
   · have:=hS _ h;omega
   · omega
   · omega
  refine ⟨((KeepsOthers.setCell _ _ _).trans (KeepsOthers.setCell _ _ _)).from _,⟨(EC nz _).trans (EC nz _),((KeepsOthers.setCell _ _ _).trans (KeepsOthers.setCell _ _ _)).size⟩,⟨?_,?_⟩,?_,?_⟩
  · have e:(pre++[x]).map (·.1)=pre.map (·.1)++[x.1]:=by rw [List.map_append];rfl
    have hh:=sU.out.1
    rw [← e] at hh
    exact hh
  · exact (Below.heap_setCell _ _ _ w3.heap.size hne).trans ((Below.heap_setCell W _ _ w3.heap.size hne).trans hbW)
  · exact (hBW.setCell hw2 _).setCell hw2 _
  · rw [nY] at hWs;exact Nat.le_trans hWs ((KeepsOthers.setCell _ _ _).trans (KeepsOthers.setCell _ _ _)).size
 case done =>
  rintro D xs W hD hxs ⟨⟨QG,hbW⟩,hBW,hWs⟩ hK
  have e0:=hbW.cell
  have HRW:=qh QG
  clear QG
  gi_wp2
  have rZ:=hBW.size
  have oC:D<W.heap.size:=(Array.getElem?_eq_some_iff.1 hK).1
  refine ⟨by simp,.inl ⟨_,_,rfl,run_takeDeferred hK,?_⟩⟩
  refine ⟨_,results_tmp rfl _ _ _,⟨_,rfl,?_⟩,?_⟩
  · rw [← R5.out,← hxs]
    exact Bp.own (enc:=Ep) (d:=((0,0):Int × Int)) F7 (TT _ (fun (_:Unit)=>_) () W _ (some D) HRW.out (grownBy_putObj' W D _) (fun r e=>by cases e;exact ⟨_,hK,rfl⟩)) (by omega)
  · exact hBW.grown (grownBy_putObj' W D _) rZ (fun k e=>by cases e;omega)
 case stop =>
  rintro D c pre W _ _ h _
  exact h.elim
end
section
open Go.RowKit Go.Shelf
variable {F:Fence} {n:Nat} {P:Program}
def aP (Wr:World→World→Prop) (B:Nat) (J:Nat→World→Prop):Prop:=AbidesFrom B J∧∀ k W W',J k W→Wr W W'→J k W'
def Y5 (F:Fence) (n:Nat) (P:Program) (gf:Nat) (lb:Array Value) (encs:Nat→Array Value) (Kp Wr:World→World→Prop) (N:Nat) (w:World):Prop :=
 ∀ (l:Nat) (J Jx:Nat→World→Prop) (W:World),Below w.heap.size w W→aP Wr W.heap.size J→aP Wr W.heap.size Jx →
  (∀ k W1,k<N→J k W1→YieldAt F (n-1) P l (encs k) W1 fun e W'=>(e=.returned (.bool true)∧J (k+1) W'∧Kp W1 W')∨(e=.returned (.bool false)∧Jx (k+1) W'))→J 0 W →
  CallsIn F n P gf (#[.func (.yield l) #[] #[]]++lb) W fun e W'=>(∃ v,e=.returned v)∧(J N W'∨∃ k,k≤N∧Jx k W')
def eD (B:Nat) (Kp:World→World→Prop) (I:Nat→World→Prop) (Ix:Code→Nat→World→Prop) (k:Nat) (W:World):Exit→Act→World→Prop
 | .normal,_,W'=>KeepsFrom B W W'∧Kp W W'∧I (k+1) W'
 | .ret,_,W'=>KeepsFrom B W W'∧Ix .ret (k+1) W'
 | .exit id,_,W'=>KeepsFrom B W W'∧Ix (.exit id) (k+1) W'
 | _,_,_=>False
theorem OU {g:Operand} {ps:Array Tmp} {assign body:Code} {Q:Exit→Act→World→Prop} {a:Act} {w:World}
 (hro:F.round=none) (h1:1≤n) {gf:Nat} {lb:Array Value} (hg:a.eval g=.func (.func gf) #[] lb) (hFg:F.fn gf) (eg:∀ args w,(callFunc gf args).run P w=.ok (.enter gf args) w)
 {encs:Nat→Array Value} {Kp Wr:World→World→Prop} {N:Nat} (hseq:Y5 F (n-1) P gf lb encs Kp Wr N w)
 (oH:∀ W W':World,Wr W W'→∀ (k:Nat) (o:Obj),W.heap[k]? = some o→o.isCells=false→W'.heap[k]? = some o)
 (hKt:∀ {A B C:World},Kp A B→Kp B C→Kp A C) (hKb:∀ (W:World) (l:Nat) (o':Obj),w.heap.size≤l→Kp W (W.putObj l o')) (hps:∀ k,(encs k).size=ps.size)
 (I:Nat→World→Prop) (Ix:Code→Nat→World→Prop) (hI:OwnFrom w.heap.size I) (hIx:∀ c,OwnFrom w.heap.size (Ix c)) (eF:∀ k W W',I k W→Wr W W'→I k W') (R9:∀ c k W W',Ix c k W→Wr W W'→Ix c k W') (h0:I 0 w)
 (Ax:Nat→Act→World→Prop) (hAx:∀ k a',OwnFrom w.heap.size (fun (_:Unit) W=>Ax k a' W))
 (hassign:∀ (l k:Nat) (W:World) (K:Act→World→Prop),I k W→(∀ a' W',KeepsFrom w.heap.size W W'→Kp W W'→I k W'→Ax k a' W'→K a' W') →
  assign.wpIn (F.inRound l) (n-1-1) P (Exit.then K (fun _ _ _=>False)) { tmps:=(ps.zip (encs k)).foldl (fun t (p,v)=>t.setIfInBounds p v) a.tmps,defers:=[] } W)
 (hbody:∀ (l k:Nat) (a':Act) (W:World),w.heap.size≤l→(∃ r,W.heap[l]? = some (.loop r))→I k W→Ax k a' W→k<N→body.wpIn (F.inRound l) (n-1-1) P (eD w.heap.size Kp I Ix k W) a' W)
 (hdone:∀ (D:Nat) (W:World),w.heap.size≤D→I N W→W.heap[D]? = some (.deferred (some []))→Q .normal { a with defers:={ target:=.collected D,args:=#[] } :: a.defers } W)
 (hstop:∀ (D:Nat) (c:Code) (k:Nat) (W:World),w.heap.size≤D→k≤N→Ix c k W→W.heap[D]? = some (.deferred (some []))→c.wpIn F n P Q { a with defers:={ target:=.collected D,args:=#[] } :: a.defers } W) :
 (Code.rangeFunc g ps assign body).wpIn F n P Q a w:=by
 refine wpIn_rangeFunc ?_
 intro fn hfn
 rw [hro]
 let rec_:LoopState→Option Code→Loop:=fun st pe=>{ state:=st,pending:=pe,fn,tmps:=a.tmps,params:=ps,assign,body,defers:=w.heap.size }
 obtain ⟨V,hV⟩:∃ V,(w.alloc (.deferred (some []))).alloc (.loop (rec_ .ready none))=V:=⟨_,rfl⟩
 have bL:V.heap[w.heap.size+1]? = some (.loop (rec_ .ready none)):=by
  have h:=World.alloc_heap_new (w.alloc (.deferred (some []))) (.loop (rec_ .ready none))
  rw [World.size_alloc,hV] at h
  exact h
 have bD:V.heap[w.heap.size]? = some (.deferred (some [])):=by
  rw [← hV]
  exact (Below.heap_alloc _ _ _ (by simp)).trans (World.alloc_heap_new w _)
 have hIV:I 0 V:=by rw [← hV];exact hI.alloc _ (hI.alloc _ h0)
 have hBV:Below w.heap.size w V:=by rw [← hV];exact ((Below.refl _ w).alloc (Nat.le_refl _) _).alloc (by simp) _
 have hsV:V.heap.size=w.heap.size+2:=by rw [← hV];simp
 have up:∀ {A:World} {row:Option Nat},(∀ r,row=some r→V.heap.size≤r∧∃ o:Obj,A.heap[r]? = some o∧o.isWalk=true)→∀ r,row=some r→w.heap.size≤r∧∃ o:Obj,A.heap[r]? = some o∧o.isCells=false :=
  fun h r e=>by obtain ⟨q,o,ho,hw⟩:=h r e;exact ⟨by omega,o,ho,Obj.not_cells_of_walk hw⟩
 refine ⟨w.heap.size+1,[{ target:=.collected w.heap.size,args:=#[] }],V,{ target:=.fn (.func gf) lb,args:=#[.func (.yield (w.heap.size+1)) #[] #[]] },V,gf,#[.func (.yield (w.heap.size+1)) #[] #[]]++lb,V,?_,?_,?_,?_,fun _=>h1,?_⟩
 · rw [← hV];exact run_enterLoop_outer _ _ _ _ _
 · simp only [resolve,hg]
   simp [go_sem]
 · intro f' hf'
   simp [Target.leads] at hf'
   subst hf'
   exact hFg
 · simp [invoke,go_sem,eg]
 have keep2:∀ (st:LoopState) (pe:Option Code) (W W':World),Wr W W'→(W.heap[w.heap.size+1]? = some (.loop (rec_ st pe))→W'.heap[w.heap.size+1]? = some (.loop (rec_ st pe)))∧(W.heap[w.heap.size]? = some (.deferred (some []))→W'.heap[w.heap.size]? = some (.deferred (some []))) :=
  fun st pe W W' hw=>⟨fun h=>oH _ _ hw _ _ h rfl,fun h=>oH _ _ hw _ _ h rfl⟩
 refine (hseq (w.heap.size+1) (fun k W=>I k W∧W.heap[w.heap.size+1]? = some (.loop (rec_ .ready none))∧W.heap[w.heap.size]? = some (.deferred (some [])))
  (fun k W=>∃ c,Ix c k W∧W.heap[w.heap.size+1]? = some (.loop (rec_ .done (some c)))∧W.heap[w.heap.size]? = some (.deferred (some []))) V hBV
  ⟨fun s A B row ⟨p,q,r⟩ hgr hr=>⟨hI s A B row p hgr (up hr),(grownBy_keeps hgr (fun r e=>(hr r e).2) q rfl).trans q,(grownBy_keeps hgr (fun r e=>(hr r e).2) r rfl).trans r⟩,fun k A B ⟨p,q,r⟩ hw=>⟨eF k A B p hw,(keep2 _ _ A B hw).1 q,(keep2 .ready none A B hw).2 r⟩⟩
  ⟨fun s A B row ⟨c,p,q,r⟩ hgr hr=>⟨c,hIx c s A B row p hgr (up hr),(grownBy_keeps hgr (fun r e=>(hr r e).2) q rfl).trans q,(grownBy_keeps hgr (fun r e=>(hr r e).2) r rfl).trans r⟩,fun k A B ⟨c,p,q,r⟩ hw=>⟨c,R9 c k A B p hw,(keep2 _ _ A B hw).1 q,(keep2 .ready none A B hw).2 r⟩⟩
  ?round ⟨hIV,bL,bD⟩).mono ?behind
 case round =>
  rintro k U hk ⟨hi,hl,hd⟩
  have hlt:w.heap.size+1<U.heap.size:=(Array.getElem?_eq_some_iff.1 hl).1
  have hy:=run_yield (P:=P) (args:=encs k) hl (hps k)
  refine ⟨fn,_,assign,body,hy,roundIn_of_wpIn hfn (hassign _ k U _ hi ?_)⟩
  clear hy
  intro a' W xe hkp hi2 hax
  have hl2:=xe.same _ _ (by omega) hl rfl
  have hd2:=xe.same _ _ (Nat.le_refl _) hd rfl
  have hlt2:w.heap.size+1<W.heap.size:=(Array.getElem?_eq_some_iff.1 hl2).1
  refine ⟨_,run_beginRound hl2 rfl,?_⟩
  have hl3:(W.putObj (w.heap.size+1) (.loop { rec_ .ready none with state:=.busy })).heap[w.heap.size+1]? = some (.loop { rec_ .ready none with state:=.busy }):=World.putObj_heap_same hlt2
  have hd3:(W.putObj (w.heap.size+1) (.loop { rec_ .ready none with state:=.busy })).heap[w.heap.size]? = some (.deferred (some [])):=(World.putObj_heap_other (by omega)).trans hd2
  have hkb:Kp W (W.putObj (w.heap.size+1) (.loop { rec_ .ready none with state:=.busy })):=hKb _ _ _ (by omega)
  refine wpIn_mono (hbody _ k a' _ (by omega) ⟨_,hl3⟩ (hI.putObj _ hi2 (by omega) hl2 rfl) ((hAx k a').putObj (s:=()) _ hax (by omega) hl2 rfl) hk) ?_
  have fin:∀ (jump:Option Code) (W3:World),KeepsFrom w.heap.size (W.putObj (w.heap.size+1) (.loop { rec_ .ready none with state:=.busy })) W3 →
   (Instr.endRound (w.heap.size+1) jump).run P W3=.ok (.bool jump.isNone) (W3.putObj (w.heap.size+1) (.loop (rec_ (if jump.isNone then .ready else .done) jump))) ∧
   W3.heap[w.heap.size+1]? = some (.loop { rec_ .ready none with state:=.busy }) ∧
   (W3.putObj (w.heap.size+1) (.loop (rec_ (if jump.isNone then .ready else .done) jump))).heap[w.heap.size+1]? = some (.loop (rec_ (if jump.isNone then .ready else .done) jump)) ∧
   (W3.putObj (w.heap.size+1) (.loop (rec_ (if jump.isNone then .ready else .done) jump))).heap[w.heap.size]? = some (.deferred (some [])):=fun jump W3 hk3=>by
   have h3:=hk3.same _ _ (by omega) hl3 rfl
   exact ⟨run_endRound (P:=P) jump h3,h3,World.putObj_heap_same (Array.getElem?_eq_some_iff.1 h3).1,(World.putObj_heap_other (by omega)).trans (hk3.same _ _ (Nat.le_refl _) hd3 rfl)⟩
  rintro e a3 W3 hp
  cases e with
  | normal =>
   obtain ⟨k3,kp3,i3⟩:=hp
   obtain ⟨hr,h3,h4,h5⟩:=fin none W3 k3
   exact ⟨_,_,hr,.inl ⟨rfl,⟨hI.putObj _ i3 (by omega) h3 rfl,h4,h5⟩,hKt hkp (hKt (hKt hkb kp3) (hKb _ _ _ (by omega)))⟩⟩
  | ret =>
   obtain ⟨k3,i3⟩:=hp
   obtain ⟨hr,h3,h4,h5⟩:=fin (some .ret) W3 k3
   exact ⟨_,_,hr,.inr ⟨rfl,.ret,(hIx _).putObj _ i3 (by omega) h3 rfl,h4,h5⟩⟩
  | exit id =>
   obtain ⟨k3,i3⟩:=hp
   obtain ⟨hr,h3,h4,h5⟩:=fin (some (.exit id)) W3 k3
   exact ⟨_,_,hr,.inr ⟨rfl,.exit id,(hIx _).putObj _ i3 (by omega) h3 rfl,h4,h5⟩⟩
  | goto t=>exact hp.elim
  | panic ch=>exact hp.elim
  | outgrown=>exact hp.elim
 case behind =>
  rintro e W2 ⟨⟨v,rfl⟩,⟨hi,hl,hd⟩|⟨k,hk,c,hi,hl,hd⟩⟩
  · exact ⟨none,_,run_endLoop (P:=P) hl (by simp [rec_]),hdone _ _ (Nat.le_refl _) (hI.putObj _ hi (by omega) hl rfl) ((World.putObj_heap_other (by omega)).trans hd)⟩
  · exact ⟨some c,_,run_endLoop (P:=P) hl (by simp [rec_]),hstop _ c k _ (Nat.le_refl _) hk ((hIx c).putObj _ hi (by omega) hl rfl) ((World.putObj_heap_other (by omega)).trans hd)⟩
end
end Go.Proofs.YthblbddmcdnllaaGreatDoor
