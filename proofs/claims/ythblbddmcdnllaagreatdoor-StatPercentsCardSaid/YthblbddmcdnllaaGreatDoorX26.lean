/- A part of the proof: WNote. -/
import Derived.Test.YthblbddmcdnllaaGreatDoorX25
import Derived.Test.YthblbddmcdnllaaGreatDoorX19
import Derived.Test.YthblbddmcdnllaaGreatDoorX6
import Derived.Test.YthblbddmcdnllaaGreatDoorX4
import Derived.Test.YthblbddmcdnllaaGreatDoorY1
set_option maxHeartbeats 6400000
set_option linter.unusedVariables false
set_option linter.unusedSimpArgs false
namespace Go.Proofs.YthblbddmcdnllaaGreatDoor
section
open Go.RowKit Go.Shelf
attribute [local go_sem] Oper.semAt_some
theorem Wk.rY {w w':World} {base a img:Nat} {tree fuel:Int} {st:WS} {way:List Int} {Ae Ab Af Aw:Option Addr} {ce cb cf cw:Nat} {vs:List Value} (h:Wk w base a img tree fuel st way Ae ce Ab cb Af cf Aw cw vs) {row:Option Nat} (hg:w.grownBy w' row) (hr:∀ r,row=some r→∃ o:Obj,w.heap[r]? = some o∧o.isCells=false):Wk w' base a img tree fuel st way Ae ce Ab cb Af cf Aw cw vs:=by
 have key:∀ b cs (T:TypeId) fr,w.heap[b]? = some (Obj.cells cs T fr)→some b≠row:=fun b cs T fr hb e=>by
  obtain ⟨o,ho,hc⟩:=hr b e.symm
  rw [hb] at ho
  cases ho
  cases hc
 have kr:∀ {e size n:Nat} {v:Value} {xs:List Value},w.ownsRow base e size v n xs→w'.ownsRow base e size v n xs:=fun {e size n v xs} h1=>by
  refine h1.kept hg ?_
  rcases h1.2 with ⟨hv,_⟩|⟨g',cap',cur,hv,_,hgb,_⟩
  · left;rw [hv];rfl
  · right;rw [hv];exact key g' _ _ _ hgb
 obtain ⟨k1,k2⟩:=Ec (w:=w) (w':=w') (base:=base) (fun b cs hb=>hg.block b (Array.getElem?_eq_some_iff.1 hb).1 (key b _ _ _ hb))
 exact ⟨h.low,(hg.block a h.box.lt (key a _ _ _ h.box)).trans h.box,kr h.BA,kr h.Aa,kr h.Ag,kr h.ways,h.apart,h.errs.keep k1 k2⟩
theorem Uq {β:Type} {base:Nat} (f:β→List Int) (c:Int) (v:Value):Own (fun s W=>Cu W (FB W base) v (f s) c):=fun s X Y row hs hg hrow=>by
 obtain ⟨k1,k2⟩:=Ec (w:=X) (w':=Y) (base:=base) (fun b cs hb=>hg.block b (Array.getElem?_eq_some_iff.1 hb).1 (fun e=>by
  obtain ⟨o,ho,hc⟩:=hrow b e.symm
  rw [hb] at ho;cases ho;cases hc))
 exact hs.keep k1 k2
def Fp (way:List Int) (bs:List Int) (pre:List Nat):List Int:=pre.foldl (fun l i=>nth 0 way i :: l) bs
theorem KT (way bs:List Int) (pre:List Nat) (i:Nat):Fp way bs (pre++[i])=nth 0 way i :: Fp way bs pre:=by simp [Fp]
theorem KV (way bs:List Int):∀ k,k≤way.length→Fp way bs (Bj way.length k)=way.drop (way.length-k)++bs
 | 0,_=>by simp [Fp,Bj]
 | k+1,h=>by
  rw [FV,KT,KV way bs k (by omega),show way.length-(k+1)=way.length-1-k by omega,Ef 0 way (way.length-1-k) (by omega),show way.length-1-k+1=way.length-k by omega]
  rfl
theorem Rx (way bs:List Int):Fp way bs (Bj way.length way.length)=way++bs:=by rw [KV way bs _ (Nat.le_refl _),Nat.sub_self,List.drop_zero]
theorem Ww:(Tryz.prog.info? 27).map (fun i=>(i.zero,i.size,i.bytes))=some (some .nilIface,1,16):=by kernel_rfl
def Hu (a:Nat) (st:WS) (Af:Option Addr) (cf:Nat) (x:Nat):Prop:=x=a∨(Value.slice Af st.Ag.length cf).ownBlock=some x
theorem Hu.all {a:Nat} {st:WS} {way:List Int} {Ae Ab Af Aw:Option Addr} {ce cb cf cw x:Nat} (h:Hu a st Af cf x):Et a st way Ae ce Ab cb Af cf Aw cw x:=h.elim .inl (fun h=>.inr (.inr (.inr (.inl h))))
def dO (w:World) (base a img:Nat) (tree fuel:Int) (st:WS) (way:List Int) (Ae Ab Af Aw:Option Addr) (ce cb cf cw:Nat) (vs:List Value) (bs:List Int) (c:Int) (e:Ending) (w':World):Prop :=
 (∃ r,e=.returned r)∧∃ Af' cf' v',Wk w' base a img tree fuel (Ay st ⟨bs,c⟩) way Ae ce Ab cb Af' cf' Aw cw (vs++[v'])∧Touch (Hu a st Af cf) w w'∧(∀ y,(Value.slice Af' (st.Ag.length+1) cf').ownBlock=some y→(Value.slice Af st.Ag.length cf).ownBlock=some y∨w.heap.size≤y)
set_option maxRecDepth 100000 in
theorem Lp (w:World) (base a img:Nat) (tree fuel:Int) (st:WS) (way:List Int) (Ae Ab Af Aw:Option Addr) (ce cb cf cw:Nat) (vs:List Value) (v:Value) (bs:List Int) (c:Int)
 (h:Wk w base a img tree fuel st way Ae ce Ab cb Af cf Aw cw vs) (hv:Cu w (FB w base) v bs c) (hbase:base≤w.heap.size) (hn:way.length≤1000) (hf:st.Ag.length≤1000000000) :
 Calls Tryz.prog 217 #[.pointer (some ⟨a,0,none⟩),v] w fun e w'=>dO w base a img tree fuel st way Ae Ab Af Aw ce cb cf cw vs (way++bs) c e w':=by
 have hc:=h.cells.2.2.2.2.2.2.2.2.1
 have halt:=h.box.lt
 have H:=qh h
 have hrow:Bw (Flat fun n:Int=>[.int .i64 n]) 1 0 w (fun b=>(Value.slice Aw way.length cw).ownBlock=some b) Aw way:=fun hp=>by
  obtain ⟨g,cap,e1,hb,hg,hcap⟩:=Eg h.ways hp
  injection e1 with e1 e2 e3
  subst e1 e3
  refine ⟨g,0,rfl,rfl,fun k hk=>⟨[.int .i64 (nth 0 way k)],rfl,rfl,fun j u hu=>?_⟩⟩
  rcases j with _|j
  · simp at hu
    subst hu
    have h2:=Dc (enc:=encI) (d:=(0:Int)) Bu way k 0 (.int .i64 (nth 0 way k)) hk rfl
    rw [← h2,Nat.zero_add]
    exact h.ways.cellAt _ (by omega)
  · simp at hu
 have hSw:∀ b,(Value.slice Aw way.length cw).ownBlock=some b→b<w.heap.size:=fun b hb=>(h.ways.lt b hb).2
 have hwl:∀ x∈[way.length],x=x:=fun _ _=>rfl
 obtain ⟨ty,u,rfl,hty⟩:=hv.form
 have HR:=qh hrow
 have HV:=qh hv
 have f1:Fence.wide.fn 228:=trivial
 refine (callsIn_wide (n:=3)).1 ?_
 refine callsIn_of_wp_marks Tryz.func217 rfl trivial ?_ rfl
 simp only [Tryz.ntmps217,List.size_toArray,List.length_cons,List.length_nil,Nat.reduceAdd,Nat.reduceSub,Array.replicate_succ,Array.replicate_zero,List.push_toArray,List.append_toArray,List.nil_append,List.cons_append]
 gi_wp2_with (gi_at_call 228;refine (callsIn_wide.2 (Yy _ _ _ _)).mono ?_;rintro e w2 ⟨rfl,rfl⟩)
 have b1:=Boxed.new w 27 (.iface ty u)
 have hB1:Below w.heap.size w (w.alloc (.cells #[.iface ty u] 27)):=(Below.refl _ _).alloc (Nat.le_refl _) _
 have hz1:(w.alloc (.cells #[.iface ty u] 27)).heap.size=w.heap.size+1:=by simp
 generalize w.alloc (.cells #[.iface ty u] 27)=w1 at *
 have hk2:=AL.new w1 #[.slice Aw way.length cw] 62
 have b2:=b1.alloc (.cells #[.slice Aw way.length cw] 62)
 have hB2:=hB1.alloc (by omega) (.cells #[.slice Aw way.length cw] 62)
 have hz2:(w1.alloc (.cells #[.slice Aw way.length cw] 62)).heap.size=w.heap.size+2:=by simp [hz1]
 rw [hz1] at hk2
 generalize w1.alloc (.cells #[.slice Aw way.length cw] 62)=w2 at *
 have hS2:∀ b,((Value.slice Aw way.length cw).ownBlock=some b∨b=w.heap.size+1)→b<w2.heap.size:=fun b hb=>by
  rcases hb with hb|rfl
  · have:=hSw b hb;omega
  · omega
 have he2:Cu w2 (FB w2 base) (.iface ty u) bs c:=by
  obtain ⟨k1,k2⟩:=Ec (w:=w) (w':=w2) (base:=base) (fun b cs hb=>hB2.block b (Array.getElem?_eq_some_iff.1 hb).1)
  exact HV.out.keep k1 k2
 have hseq:=Rw Fence.wide 2 trivial rfl (by omega) (w.heap.size+1) (fun b=>(Value.slice Aw way.length cw).ownBlock=some b∨b=w.heap.size+1) Aw cw way w2 hS2 (by omega) (.inr rfl) (hk2.at 0 _ rfl) (HR.out.keep (AB _) (fun _ h=>.inl h) (AR hB2 hSw))
 clear hk2 hB1 b1 hrow hwl hv
 refine wpIn_rangeFunc_ownH rfl (by omega) (gf:=242) (lb:=#[.pointer (some ⟨w.heap.size+1,0,none⟩)]) rfl trivial (enters_of Tryz.func242 (by kernel_rfl) rfl)
  hseq aH (fun W l o o' hl _ _ _=>aI hS2 W l o' hl) (Below.refl _ _) (fun _=>rfl)
  (fun pre W=>(∃ v',Boxed W w.heap.size 27 v'∧Cu W (FB W base) v' (Fp way bs (pre.map (·.1))) c)∧(Below w.heap.size w W∧w2.heap.size≤W.heap.size))
  (fun _ _ _=>False)
  (OwnFrom.and (fun s W W' row hs hg hr=>by obtain ⟨v',h1,h2⟩:=hs;exact ⟨v',boxed_own w.heap.size 27 (fun (_:Unit)=>v') () W W' row h1 hg (fun r e=>(hr r e).2),Uq (fun (_:Unit)=>Fp way bs (s.map (·.1))) c v' () W W' row h2 hg (fun r e=>(hr r e).2)⟩) (OwnFrom.and (ownFrom_below (Nat.le_refl _) (by omega)) (JZ _ _)))
  (fun _ _ _ _ _ hs _ _=>hs)
  ⟨⟨_,b2,he2⟩,hB2,Nat.le_refl _⟩
  (fun x a2 W=>a2={ tmps:=#[.pointer (some ⟨a,0,none⟩),.iface ty u,undef,.pointer (some ⟨w.heap.size,0,none⟩),undef,.int .i64 (nth 0 way x.1),.pointer (some ⟨a,0,none⟩),.pointer (some ⟨a,0,none⟩),.pointer (some ⟨a,8,none⟩),.slice Aw way.length cw,.func (.func 242) #[] #[.pointer (some ⟨w.heap.size+1,0,none⟩)],.int .i64 (x.1:Int),.int .i64 (nth 0 way x.1),undef,undef,undef,undef,undef,undef,undef,undef,undef,undef,undef,undef,undef,undef,undef],defers:=[] })
  (fun x a2 _ X Y row hs hg hr=>hs)
  ?assign ?body ?done ?stop
 case assign =>
  rintro lp pre x W K ⟨⟨v',h1,h2⟩,hBW,hWs⟩ hK
  dsimp only [Yx]
  obtain ⟨p,hp⟩:∃ p,nth 0 way x.1=p:=⟨_,rfl⟩
  rw [hp]
  rw [hp] at hK
  gi_wp2
  exact hK _ _ (KeepsOthers.refl W |>.from _) ⟨CU.refl,Nat.le_refl _⟩ ⟨⟨v',h1,h2⟩,hBW,hWs⟩ rfl
 case body =>
  rintro lp pre x a2 W hl' ⟨r,hr⟩ ⟨⟨v',h1,h2⟩,hBW,hWs⟩ rfl hlt
  obtain ⟨ty',u',rfl,_⟩:=h2.form
  have e0:=h1.cell
  have HE:=qh h2
  have HB:=qh h1
  have iH:w.heap.size<W.heap.size:=by omega
  have f4:Fence.wide.fn 43:=trivial
  clear h2 h1
  generalize hp:nth 0 way x.1=p at *
  have HP:=qh hp
  clear hp
  have z0:W.frozen? ⟨w.heap.size,0,none⟩=false:=HB.out.frozen
  gi_wp2_with (gi_at_call 43;refine (CallsIn.inRound lp (callsIn_wide.2 (Cc W p ty' u'))).mono ?_;rintro e w5 ⟨rfl,rfl⟩)
  have nz:¬ ((Value.slice Aw way.length cw).ownBlock=some w.heap.size∨w.heap.size=w.heap.size+1):=by
   rintro (h|h)
   · have:=hSw _ h;omega
   · omega
  have hsz:(W.setCell ⟨w.heap.size,0,none⟩ (.iface 184 (.pointer (some ⟨W.heap.size,0,none⟩)))).heap.size=W.heap.size:=by simp [World.setCell]
  obtain ⟨k1,k2⟩:=Ec (w:=W) (w':=W.setCell ⟨w.heap.size,0,none⟩ (.iface 184 (.pointer (some ⟨W.heap.size,0,none⟩)))) (base:=base) (fun b cs hb=>Below.heap_setCell W ⟨w.heap.size,0,none⟩ _ b (fun e=>by
   dsimp only at e
   subst e
   have hx:=HB.out
   unfold Boxed at hx
   rw [hx] at hb
   injection hb with hb
   injection hb with _ ht
   exact absurd ht (by decide)))
  have hE2:=HE.out.keep k1 k2
  have iL:=hE2.wrap (fun b hb=>hb.lt) p (FB ((W.setCell ⟨w.heap.size,0,none⟩ (.iface 184 (.pointer (some ⟨W.heap.size,0,none⟩)))).alloc (.cells #[.int .i64 p,.iface ty' u'] 186)) base) (fun b hb=>⟨hb.1,by obtain ⟨cs,h⟩:=hb.2;exact ⟨cs,(Below.heap_alloc _ _ _ hb.lt).trans h⟩⟩) ⟨by rw [hsz];omega,_,heap_alloc_new _ _⟩ 186
  rw [hsz] at iL
  refine ⟨((KeepsOthers.setCell _ _ _).trans (KeepsOthers.alloc _ _)).from _,⟨(EC nz _).trans (DV (fun b hb=>by rw [hsz];have:=hS2 b hb;omega) _),((KeepsOthers.setCell _ _ _).trans (KeepsOthers.alloc _ _)).size⟩,⟨_,(HB.out.set _).alloc _,?_⟩,?_,?_⟩
  · have e:(pre++[x]).map (·.1)=pre.map (·.1)++[x.1]:=by rw [List.map_append];rfl
    rw [show Fp way bs ((pre++[x]).map (·.1))=p :: Fp way bs (pre.map (·.1)) by rw [e,KT,HP.out]]
    exact iL
  · exact (hBW.setCell (Nat.le_refl _) _).alloc (by rw [hsz];omega) _
  · rw [World.size_alloc,hsz];omega
 case done =>
  rintro D xs W hD hxs ⟨⟨v',h1,h2⟩,hBW,hWs⟩ hK
  rw [hxs,Rx] at h2
  obtain ⟨ty',u',rfl,_⟩:=h2.form
  have OJ:=H.out.below hBW
  have e0:=h1.cell
  obtain ⟨y0,y1,y2,y3,y4,y5,y6,y7,y8,y9⟩:=OJ.cells
  have z4:=OJ.free 4
  gi_wp2_with fail
  refine wpIn_wide.2 (Tq ?_)
  have ji:a≠w.heap.size:=by omega
  have hfl:∀ y,(Value.slice Af st.Ag.length cf).ownBlock=some y→y<w.heap.size:=fun y hy=>(H.out.Ag.lt y hy).2
  have rZ:=hBW.size
  have hbW:base≤W.heap.size:=by omega
  have Ry:Wk (W.drew.alloc (.cells #[.iface ty' u'] 27)) base a img tree fuel st way Ae ce Ab cb Af cf Aw cw vs:=(OJ.below (w':=W.drew) ⟨rfl,rfl,rfl,Nat.le_refl _,fun _ _=>rfl⟩).below ((Below.refl _ _).alloc (Nat.le_refl _) _)
  have jk:some a≠(Value.slice Af st.Ag.length cf).ownBlock:=BC Ry.Ag Ry.box (by decide)
  have rq:some w.heap.size≠(Value.slice Af st.Ag.length cf).ownBlock:=fun e=>absurd (hfl _ e.symm) (Nat.lt_irrefl _)
  have xD:Cu (W.drew.alloc (.cells #[.iface ty' u'] 27)) (FB (W.drew.alloc (.cells #[.iface ty' u'] 27)) base) (.iface ty' u') (way++bs) c:=by
   obtain ⟨k1,k2⟩:=Ec (w:=W) (w':=W.drew.alloc (.cells #[.iface ty' u'] 27)) (base:=base) (fun b cs hb=>Below.heap_alloc W.drew _ b (Array.getElem?_eq_some_iff.1 hb).1)
   exact h2.keep k1 k2
  have HW:=qh OJ
  have HW1:=qh Ry
  have HE:=qh xD
  have xE:=OJ.Ag
  have HFK:=qh xE
  have ru:w.heap.size<W.heap.size:=by omega
  have xF:a<W.heap.size:=by omega
  have HB:=qh h1
  have hz1:(W.drew.alloc (.cells #[.iface ty' u'] 27)).heap.size=W.heap.size+1:=by simp
  have hlt1:a<(W.drew.alloc (.cells #[.iface ty' u'] 27)).heap.size:=by omega
  have hlt2:w.heap.size<(W.drew.alloc (.cells #[.iface ty' u'] 27)).heap.size:=by omega
  clear hz1
  clear xE h2 Ry xD h1 OJ
  refine AJ (T:=fun j=>j==12) (S:=fun w'=>w'.cell? ⟨a,4,none⟩=some (.slice Af st.Ag.length cf)∧w'.cell? ⟨w.heap.size,0,none⟩=some (.iface ty' u')∧w'.frozen? ⟨a,4,none⟩=false) (by kernel_rfl) (⟨y4,e0,z4⟩) (fun hHeld=>?_)
  refine qs 0 16 hHeld ?_
  refine qs 1 17 hHeld ?_
  refine qs 2 18 hHeld ?_
  refine qs 3 19 hHeld ?_
  refine qs 4 20 hHeld ?_
  refine qf 5 21 rfl rfl hHeld (by intro w hSw;have y4:=hSw.1;go_simp;(try with_reducible rfl)) ?_
  refine qf 6 22 rfl rfl hHeld (by intro w hSw;have e0:=hSw.2.1;go_simp;(try with_reducible rfl)) ?_
  refine qo 7 fun K hK=>?_
  go_simp
  clear hHeld
  have hHeld:=(show World.cell? (W.drew.alloc (.cells #[.iface ty' u'] 27)) ⟨a,4,none⟩=some (.slice Af st.Ag.length cf)∧World.cell? (W.drew.alloc (.cells #[.iface ty' u'] 27)) ⟨w.heap.size,0,none⟩=some (.iface ty' u')∧World.frozen? (W.drew.alloc (.cells #[.iface ty' u'] 27)) ⟨a,4,none⟩=false from ⟨(World.cell?_of_block (a:=⟨a,4,none⟩) (Below.heap_alloc W.drew _ a xF)).trans y4,(World.cell?_of_block (a:=⟨w.heap.size,0,none⟩) (Below.heap_alloc W.drew _ w.heap.size ru)).trans e0,(World.frozen?_of_block (a:=⟨a,4,none⟩) (Below.heap_alloc W.drew _ a xF)).trans z4⟩)
  refine hK.out _ _ (fun _=>hHeld) (fun _=>?_)
  clear hK K
  (try simp only [Act.put,qS])
  refine qo 8 fun K hK=>?_
  refine Co Tryz.underlying273 Ww rfl (by omega) (by omega) rfl _ _ rfl base (.slice Af st.Ag.length cf) st.Ag.length vs rfl (HFK.out.drew.alloc _) (some ⟨W.heap.size,0,none⟩) 1 1 [.iface ty' u'] rfl rfl (fun d hd=>by cases hd;exact Cm W.drew [.iface ty' u'] 27) (by intro x hx;simp at hx;subst hx;rfl) (by omega) (by simp;omega) (by intro h;cases h) ?_
  intro A9 c9 w9 Ig Dp Pw
  have hHeld:=(show World.cell? w9 ⟨a,4,none⟩=some (.slice Af st.Ag.length cf)∧World.cell? w9 ⟨w.heap.size,0,none⟩=some (.iface ty' u')∧World.frozen? w9 ⟨a,4,none⟩=false from ⟨(Dp.cell_far ⟨a,4,none⟩ hlt1 jk).trans hHeld.1,(Dp.cell_far ⟨w.heap.size,0,none⟩ hlt2 rq).trans hHeld.2.1,(Dp.frozen_far ⟨a,4,none⟩ hlt1 jk).trans hHeld.2.2⟩)
  refine hK.out _ _ (fun _=>hHeld) (fun _=>?_)
  clear hK K
  (try simp only [Act.put])
  refine qo 9 fun K hK=>?_
  go_simp
  refine hK.out _ _ (fun _=>hHeld) (fun _=>?_)
  clear hK K
  (try simp only [Act.put,qS])
  refine qo 10 fun K hK=>?_
  go_simp
  refine hK.out _ _ (fun _=>hHeld) (fun _=>?_)
  clear hK K
  (try simp only [Act.put,qS])
  refine qs 11 27 hHeld ?_
  refine qo 12 fun K hK=>?_
  go_simp
  refine hK.out _ _ (fun h=>by cases h) (fun _=>?_)
  clear hK K hHeld
  (try simp only [Act.put,qS])
  refine qd ?_
  have Dp:World.grownBy (W.drew.alloc (.cells #[.iface ty' u'] 27)) w9 (Value.slice Af st.Ag.length cf).ownBlock:=Dp
  have dP:=HW1.out.yo (f:=⟨way++bs,c⟩) Ig Dp HE.out
  clear hHeld
  have oC:D<W.heap.size:=(Array.getElem?_eq_some_iff.1 hK).1
  have hDa:D≠a:=by omega
  have hK9:w9.heap[D]? = some (.deferred (some [])):=(Dp.block D (by show D<_;simp;omega) (fun e=>by have:=hfl D e.symm;omega)).trans ((Below.heap_alloc W.drew _ D oC).trans hK)
  have jl:(w9.setCell ⟨a,4,none⟩ (.slice A9 (st.Ag.length+1) c9)).heap[D]? = some (.deferred (some [])):=(Below.heap_setCell w9 ⟨a,4,none⟩ _ D hDa).trans hK9
  have t1:Touch (Hu a st Af cf) w W:=Touch.of_below hBW
  have t2:Touch (Hu a st Af cf) W (W.drew.alloc (.cells #[.iface ty' u'] 27)):=Touch.drew.trans (Touch.alloc _)
  have t3:Touch (Hu a st Af cf) (W.drew.alloc (.cells #[.iface ty' u'] 27)) w9:=Touch.CV Dp (fun x hx=>.inr hx)
  have t4:Touch (Hu a st Af cf) w9 (w9.setCell ⟨a,4,none⟩ (.slice A9 (st.Ag.length+1) c9)):=Touch.BZ (.inl rfl)
  refine ⟨by simp,.inl ⟨_,_,rfl,run_takeDeferred jl,?_⟩⟩
  refine ⟨_,results_none rfl _ _ _,⟨_,rfl⟩,A9,c9,_,dP.rY (grownBy_putObj' _ D _) (fun r e=>by cases e;exact ⟨_,jl,rfl⟩),(((t1.trans t2).trans t3).trans t4).trans' (Touch.CV (R:=fun x=>x=D) (grownBy_putObj' _ D _) (fun x e=>by cases e;rfl)) (fun x e=>.inr (by omega)),fun y hy=>?_⟩
  rcases Pw y hy with h|h
  · exact .inl h
  · right
    rw [h]
    show w.heap.size≤(W.drew.alloc (.cells #[.iface ty' u'] 27)).heap.size
    omega
 case stop =>
  rintro D c pre W _ _ h _
  exact h.elim
end
end Go.Proofs.YthblbddmcdnllaaGreatDoor
