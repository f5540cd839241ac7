/- A part of the proof: WSplit. -/
import Derived.Test.YtpenklpdjpkigaaGreatX11
import Derived.Test.YtpenklpdjpkigaaGreatY6
import Derived.Test.YtpenklpdjpkigaaGreatX12
import Derived.Test.YtpenklpdjpkigaaGreatY1
import Derived.Test.YtpenklpdjpkigaaGreatY2
set_option maxHeartbeats 6400000
set_option linter.unusedVariables false
set_option linter.unusedSimpArgs false
namespace Go.Proofs.YtpenklpdjpkigaaGreat
section
open Go.RowKit Go.Shelf
attribute [local go_sem] Oper.semAt_some
theorem QC (w:World) (g m c:Nat) (l:List Int) (hl:l.length=m) (h1:1≤m) (hm:m≤1000) (hc:∀ j u,(AB encI l)[j]? = some u→w.cell? ((⟨g,0,none⟩:Addr).add j)=some u) :
 Calls Tryz.prog 127 #[.slice (some ⟨g,0,none⟩) m c] w fun e w'=>(∃ g' c',e=.returned (.slice (some ⟨g',0,none⟩) m c')∧w'.ownsRow w.heap.size 3 1 (.slice (some ⟨g',0,none⟩) m c') m (AB encI l))∧Below w.heap.size w w':=by
 have heq:=Lib.run_eql_slice_nil (P:=Tryz.prog) w 29 3 (some ⟨g,0,none⟩) m c 0 0 Tryz.underlying29
 have hlen:(AB encI l).length=m*1:=by rw [Bw Bh,hl]
 go_enter Tryz.func127,Tryz.ntmps127
 go_wp2_with (at_builtin;go_loud (refine CK Tryz.underlying29 Ej rfl (by omega) (by omega) rfl _ _ rfl w.heap.size (.slice (some ⟨w.heap.size,0,none⟩) 0 0) 0 [] rfl (World.ownsRow_made w #[] 0 (Nat.le_refl _) (by simp [maxLen]) rfl) ⟨g,0,none⟩ m c (AB encI l) rfl hlen (fun j u hu=>by
  have hold:=hc j u hu
  have hlt:=World.block_lt_of_cell? _ _ hold
  rw [World.cell?_alloc_lt _ _ _ hlt];exact hold) (fun u hu=>by rw [CU] at hu;obtain ⟨x,_,rfl⟩:=List.mem_map.1 hu;rfl) (by omega) (by simp) ?_);intro A' cap' w1 hown hg)
 rw [Nat.zero_add,List.nil_append] at hown
 obtain ⟨g',hA',-,-,-⟩:=CG hown (by omega)
 subst hA'
 refine bodyPost_ret (v:=.slice (some ⟨g',0,none⟩) m cap') (by simp [results,Tryz.results127,go_sem]) rfl ⟨⟨g',cap',rfl,hown⟩,?_⟩
 exact ((Below.refl _ w).alloc (Nat.le_refl _) _).grown hg (by simp) (fun k hk=>by simp [Value.ownBlock] at hk;omega)
theorem Kl {F:Fence} {nF:Nat} {w:World} {ops:Array Oper} {rest:List Oper} {o:Oper} {a:Act} {Q:Exit→Act→World→Prop} (hg:o.guard=none) (s y:Operand) (hop:o.op=Op.call { callee:=Callee.builtin Builtin.append,args:=#[s,y],argTypes:=#[29,29] })
 (base:Nat) (v:Value) (k:Nat) (l:List Int) (x:Int) (hs:a.eval s=v) (hown:w.ownsRow base 3 1 v k (AB encI l)) (sz:Nat) (hwz:w.heap.size=sz) (hy:a.eval y=.slice (some ⟨sz,0,none⟩) 1 1) (hk:k≤1000000) (hbase:base≤w.heap.size)
 (hK:∀ A c w',w'.ownsRow base 3 1 (.slice A (k+1) c) (k+1) (AB encI (l++[x]))→w.grownBy w' v.ownBlock→wpListIn F nF Tryz.prog ops Q rest (a.put o.dst (.slice A (k+1) c)) w') :
 wpListIn F nF Tryz.prog ops Q (o :: rest) a (w.alloc (.cells #[.int .i64 x] 3)):=by
 subst hwz
 have hB:Below w.heap.size w (w.alloc (.cells #[.int .i64 x] 3)):=(Below.refl _ _).alloc (Nat.le_refl _) _
 obtain ⟨i0,hi,hz0,hz1,hz2⟩:=info_parts Ej
 refine wpListIn_append_own_at _ hg s y 29 hop base 3 i0 _ 1 8 Tryz.underlying29 hi hz0 hz1 hz2 rfl (by omega) v k (AB encI l) hs (hown.alloc _) ⟨w.heap.size,0,none⟩ 1 1 [.int .i64 x] hy (by rfl) (Cm w [.int .i64 x] _) (fun u hu=>by simp at hu;subst hu;rfl) (by unfold maxLen;omega) (by omega) (by simp;omega) ?_
 intro v' w' h2 h3 h4 h5
 obtain ⟨A,cap,rfl,_⟩:=DJ h2
 refine hK A cap w' ?_ (Ij h3)
 rw [Ba]
 exact h2
def Vd (l:List Int) (base g9:Nat) (k:Nat) (W:World):Prop :=
 (k=0∧AP W g9 #[.slice none 0 0] 225)∨(k=1∧∃ gr cr gi ci,AP W g9 #[.slice (some ⟨gr,0,none⟩) 1 cr] 225∧W.ownsRow base 29 1 (.slice (some ⟨gr,0,none⟩) 1 cr) 1 [.slice (some ⟨gi,0,none⟩) l.length ci]∧W.ownsRow base 3 1 (.slice (some ⟨gi,0,none⟩) l.length ci) l.length (AB encI l))
theorem jC {w:World} {g:Nat} {u0:Value} {e:TypeId} (h:w.heap[g]? = some (.cells #[u0] e (0,0))):∀ j u,[u0][j]? = some u→w.cell? ((⟨g,0,none⟩:Addr).add j)=some u:=fun j u hu=>by
 obtain ⟨hj,rfl⟩:=List.getElem?_eq_some_iff.1 hu
 obtain rfl:j=0:=by simpa using hj
 exact AP.at h 0 _ rfl
theorem av {l:List Int} {k base g9 gi ci c8:Nat} {A8:Option Addr} {U V:World} (hk:l.length=k) (hX:AP U g9 #[.slice none 0 0] 225) (hB:Below U.heap.size U V) (hb:base≤U.heap.size) (kY:V.ownsRow U.heap.size 29 1 (.slice A8 1 c8) 1 [.slice (some ⟨gi,0,none⟩) k ci]) (hoi:V.ownsRow U.heap.size 3 1 (.slice (some ⟨gi,0,none⟩) k ci) k (AB encI l)) :
 Vd l base g9 1 (V.setCell ⟨g9,0,none⟩ (.slice A8 1 c8))∧Touch (fun x=>x=g9) U (V.setCell ⟨g9,0,none⟩ (.slice A8 1 c8)):=by
 have hT:Touch (fun x=>x=g9) V (V.setCell ⟨g9,0,none⟩ (.slice A8 1 c8)):=Touch.Dc (R:=fun x=>x=g9) (p:=⟨g9,0,none⟩) rfl
 have hlt:=hX.lt
 subst hk
 obtain ⟨gr,hA,-,-,-⟩:=CG kY (by omega)
 subst hA
 refine ⟨.inr ⟨rfl,gr,c8,gi,ci,(hX.below hB hlt).set 0 _,(BG kY hT (fun x hx e=>?_)).mono hb,(BG hoi hT (fun x hx e=>?_)).mono hb⟩,(Touch.of_below hB).trans hT⟩
 · have:=(kY.lt x hx).1;have e:x=g9:=e;omega
 · have:=(hoi.lt x hx).1;have e:x=g9:=e;omega
theorem KC.own {W W':World} {base e size:Nat} {v:Value} {n:Nat} {xs:List Value} (h:KC W W') (ho:W.ownsRow base e size v n xs):W'.ownsRow base e size v n xs:=by
 refine ⟨ho.1,?_⟩
 rcases ho.2 with h0|⟨g,cap,cur,hv,hb,hg,rest⟩
 · exact .inl h0
 · exact .inr ⟨g,cap,cur,hv,hb,h.2 _ _ _ hg,rest⟩
theorem Vd.kc {l:List Int} {base g9 k:Nat} {W W':World} (h:Vd l base g9 k W) (hk:KC W W'):Vd l base g9 k W':=by
 rcases h with ⟨e,hb⟩|⟨e,gr,cr,gi,ci,hb,h1,h2⟩
 · exact .inl ⟨e,hk.box hb⟩
 · exact .inr ⟨e,gr,cr,gi,ci,hk.box hb,hk.own h1,hk.own h2⟩
def Yt (w:World) (l:List Int) (e:Ending) (w':World):Prop:=∃ gr cr gi ci,e=.returned (.tuple #[.slice (some ⟨gr,0,none⟩) 1 cr,.slice none 0 0,.int .i64 0])∧w'.ownsRow w.heap.size 29 1 (.slice (some ⟨gr,0,none⟩) 1 cr) 1 [.slice (some ⟨gi,0,none⟩) l.length ci]∧w'.ownsRow w.heap.size 3 1 (.slice (some ⟨gi,0,none⟩) l.length ci) l.length (AB encI l)
set_option maxRecDepth 100000 in
theorem jD (w:World) (g off m c:Nat) (l:List Int) (hl:l.length=m) (h1:1≤m) (hm:m<960) (hg:g<w.heap.size) (hf:∀ i,i<m→w.cell? ⟨g,off+i,none⟩=some (.int .i64 (nth 0 l i))) (h3:∀ x∈l,0≤x∧x<3) :
 Calls Tryz.prog 115 #[.slice (some ⟨g,off,none⟩) m c] w fun e w'=>Yt w l e w'∧Below w.heap.size w w':=by
 have HC:Hid (∀ i,i<m→∀ W,Below w.heap.size w W→W.cell? ⟨g,off+i,none⟩=some (.int .i64 (nth 0 l i))):=fun i hi W hB=>AQ hB hg (hf i hi)
 have HX:Hid (∀ i,i<m→0≤nth 0 l i∧nth 0 l i<3):=fun i hi=>h3 _ (Bv 0 l i (by omega))
 have HL:=qh hl
 have Ic:Hid (∀ i,i<m→l.take (i+1)=l.take i++[nth 0 l i]):=fun i hi=>DV 0 l i (by omega)
 have yH:(m:Int)<960:=by omega
 clear hf h3 hl hg
 have f1:Fence.wide.fn 177:=trivial
 refine (callsIn_wide (n:=3)).1 ?_
 refine callsIn_of_wp_marks Tryz.func115 rfl trivial ?_ rfl
 simp only [Tryz.ntmps115,List.size_toArray,List.length_cons,List.length_nil,Nat.reduceAdd,Nat.reduceSub,Array.replicate_succ,Array.replicate_zero,List.push_toArray,List.append_toArray,List.nil_append,List.cons_append]
 gi_upto_region 6 with fail
 gi_loopw [5,6,16] (fun v5 v6 vi wr=>∃ k:Nat,k≤m∧vi=.int .i64 k∧v6=.slice none 0 0∧Hid (wr.ownsRow w.heap.size 3 1 v5 k (AB encI (l.take k)))∧Hid (Below w.heap.size w wr)) (fun _ _ vi _=>m-(intOf vi).toNat)
 case atStart=>exact ⟨0,Nat.zero_le _,rfl,rfl,World.ownsRow_nil _ _ _ _,Below.refl _ _⟩
 case round =>
  obtain ⟨k,hk,rfl,rfl,HO,HB⟩:=hrel
  obtain ⟨A5,c5,rfl,hc5⟩:=DJ HO.out
  by_cases hlt:k<m
  · have hil:(k:Int)<(m:Int):=by omega
    have x0:=HC.out k hlt wr HB.out
    obtain ⟨y0,y1⟩:=HX.out k hlt
    have HT:=qh (Ic.out k hlt)
    have HK9:Hid (k≤1000000):=by show _≤_;omega
    generalize nth 0 l k=y at *
    have hmn:min y 3=y:=by omega
    have hnl:¬ (3:Int)≤y:=by omega
    gi_wp2_with (gi_at_builtin;go_loud (refine Kl rfl _ _ rfl w.heap.size (.slice A5 k c5) k (l.take k) y rfl HO.out wr.heap.size rfl rfl HK9.out HB.out.size ?_);intro A6 c6 w6 hown6 OJ;have PM:=qh hown6;have Dz:Hid (Below w.heap.size w w6):=HB.out.grown OJ HB.out.size (fun q e=>(HO.out.lt q e).1);clear hown6 OJ)
    go_roundw
    case rel=>exact ⟨k+1,by omega,by go_num,rfl,by rw [HT.out];exact PM,Dz⟩
    case measure=>simp [intOf];omega
  · obtain rfl:k=m:=by omega
    have Jb:Hid (wr.ownsRow w.heap.size 3 1 (.slice A5 k c5) k (AB encI l)):=by
     have h:=HO.out
     rw [show l.take k=l from List.take_of_length_le (by rw [HL.out];exact Nat.le_refl _)] at h
     exact h
    obtain ⟨g5,hA5,hg5,-,hs5⟩:=CG Jb.out (by omega)
    subst hA5
    have yJ:=qh hs5
    have Us:=qh hg5
    clear hs5 hg5 HO HC HX Ic
    gi_upto_region 15 with fail
    have I6:=AP.new wr #[.slice none 0 0] 225
    have Mg:Below wr.heap.size wr (wr.alloc (.cells #[.slice none 0 0] 225)):=(Below.refl _ _).alloc (Nat.le_refl _) _
    generalize wr.alloc (.cells #[.slice none 0 0] 225)=w9 at *
    have vI:Hid (Below w.heap.size w w9):=HB.out.trans (Mg.mono HB.out.size)
    have HS9:Hid (∀ j u,(AB encI l)[j]? = some u→w9.cell? ((⟨g5,0,none⟩:Addr).add j)=some u):=fun j u hu=>by
     have h:=yJ.out j u hu
     rw [add_lit] at h ⊢
     exact AQ Mg Us.out h
    have rF:g5<w9.heap.size:=Nat.lt_of_lt_of_le Us.out Mg.size
    have ET:Hid (g5≠wr.heap.size):=fun e=>by have:=Us.out;omega
    obtain ⟨g9,Cu⟩:∃ q,wr.heap.size=q:=⟨_,rfl⟩
    rw [Cu] at I6 ET ⊢
    have mg:Hid (w.heap.size≤g9):=by rw [← Cu];exact HB.out.size
    have Rq:=qh I6
    have AAo:=qh rF
    clear I6 Mg Cu rF yJ Us HB
    obtain ⟨ka,kb,kB,kz⟩:=AP.two w9 #[.slice (some ⟨g5,0,none⟩) k c5] #[.int .i64 960] 29 3
    gi_upto_region 16 with (gi_at_call 177;refine (callsIn_wide.2 (VY w9 (some ⟨g5,0,none⟩) k c5)).mono ?_;rintro e CW ⟨rfl,hw⟩;rw [hw];clear hw CW)
    generalize (w9.alloc (.cells #[.slice (some ⟨g5,0,none⟩) k c5] 29)).alloc (.cells #[.int .i64 960] 3)=CW at *
    have oC:=qh (XX 2 (by omega) w9.heap.size (w9.heap.size+1) g5 k c5 CW h1 hm hc5 ka kb)
    have AAp:=Rq.out.below kB Rq.out.lt
    have kV:=Rq.out.lt
    have UC:Hid (∀ (W:World) (q:Nat) (o':Obj),CW.heap.size≤q→N7 (fun x=>x=w9.heap.size∨x=w9.heap.size+1) W (W.putObj q o')):=fun W q o' hq=>⟨fun x hx=>World.putObj_heap_other (by rcases hx with rfl|rfl <;> omega),by simp [World.putObj]⟩
    have ADQ:Hid (∀ j u,(AB encI l)[j]? = some u→CW.cell? ((⟨g5,0,none⟩:Addr).add j)=some u):=fun j u hu=>by
     have h:=HS9.out j u hu
     rw [add_lit] at h ⊢
     exact AQ kB AAo.out h
    have Fy:Hid (Below w.heap.size w CW):=vI.out.trans (kB.mono vI.out.size)
    have XO:=qh AAp
    have HZ:Hid (CW.heap.size=w9.heap.size+2∧g9<w9.heap.size):=⟨kz,kV⟩
    clear ka kb kB kz AAp kV HS9 vI Rq
    refine GU rfl (by omega) (gf:=215) (lb:=#[.pointer (some ⟨w9.heap.size,0,none⟩),.pointer (some ⟨w9.heap.size+1,0,none⟩)]) rfl trivial (enters_of Tryz.func215 (by kernel_rfl) rfl) oC.out (fun _ _ h=>h.elim) (fun h q=>h.trans q) UC.out (fun _=>rfl)
     (fun q W=>Touch (fun b=>b=g9∨CW.heap.size≤b) CW W∧Vd l CW.heap.size g9 q W) (fun _ _ _=>False) ?hI ?hIx ?nU ?TU ?h0 ?LU ?hdone ?hstop
    case hI =>
     rintro q W W' row ⟨hT,hst⟩ hg2 hr
     exact ⟨hT.trans (Touch.BO hg2 (fun x e=>.inr (hr x e).1)),hst.kc (KC.grown hg2 (fun r e=>(hr r e).2))⟩
    case hIx=>intro cc q W W' row h;exact h.elim
    case nU=>rintro q W W' h hw;exact hw.elim
    case TU=>intro cc q W W' h;exact h.elim
    case h0=>exact ⟨Touch.refl,.inl ⟨rfl,XO.out⟩⟩
    case LU =>
     rintro lp q W ⟨hT,hst⟩
     have HT:=qh hT
     have HST:=qh hst
     have vJ:Hid (N7 (fun x=>x=w9.heap.size∨x=w9.heap.size+1) W W):=N7.refl
     clear hT hst
     dsimp only
     gi_wp2
     refine ⟨(KeepsOthers.refl _).from _,vJ.out,⟨HT.out,HST.out⟩,?_⟩
     rintro l2 U hl2 ⟨r,hr⟩ ⟨VL,Ke⟩ hkN
     obtain rfl:q=0:=by omega
     have hbU:AP U g9 #[.slice none 0 0] 225:=by
      rcases Ke with ⟨-,h⟩|⟨h,-⟩
      · exact h
      · cases h
     have oD:=qh hbU
     have HTU:=qh VL
     have Ry:Hid (∀ W',Below U.heap.size U W'→∀ j u,(AB encI l)[j]? = some u→W'.cell? ((⟨g5,0,none⟩:Addr).add j)=some u):=fun W' hB j u hu=>by
      have h:=ADQ.out j u hu
      rw [add_lit] at h ⊢
      have hz:=HZ.out.1
      have h5:=AAo.out
      have hu:=VL.size
      exact AQ hB (by omega) ((World.cell?_of_block (a:=⟨g5,0+j,none⟩) (VL.block (by show g5<_;omega) (fun e=>by rcases e with e|e;exact ET.out e;have e:CW.heap.size≤g5:=e;omega))).trans h)
     have HK1:Hid (k≤1000∧1≤k):=⟨by omega,h1⟩
     have info_p:(Tryz.prog.info? 29).map (fun i=>(i.zero,i.size,i.bytes))=some (some (.slice none 0 0),1,24):=by kernel_rfl
     have HIP:=qh info_p
     clear hbU VL Ke hkN hr info_p yH h1 hm
     gi_upto_region 17 with fail
     refine Lf (T:=fun j=>j==5) (S:=fun w'=>Below U.heap.size U w') (by kernel_rfl) (Below.refl U.heap.size U).drew (fun hHeld=>?_)
     obtain ⟨BM,hw0⟩:∃ x,U.drew=x:=⟨_,rfl⟩
     rw [hw0] at hHeld ⊢
     have AJ:Below U.heap.size U BM:=hHeld
     clear hHeld hw0
     refine qf 0 45 rfl rfl AJ (by intro w2' hSw;have x9:=(oD.out.below hSw oD.out.lt).at 0 _ rfl;go_simp;(try with_reducible rfl)) ?_
     refine qs 1 46 AJ ?_
     refine qo 2 fun K hK=>?_
     go_simp
     refine (QC BM g5 k k l HL.out HK1.out.2 HK1.out.1 (Ry.out BM AJ)).mono ?_
     rintro e Bg ⟨⟨gi,ci,rfl,ho⟩,Co⟩
     have ho:=ho.mono AJ.size
     have AJ:=AJ.trans (Co.mono AJ.size)
     clear Co
     refine hK.out _ _ (fun _=>AJ) (fun Ji=>?_)
     clear hK K Ji
     (try simp only [Act.put,qS,qZ,qU])
     refine qo 3 fun K hK=>?_
     go_simp
     obtain ⟨Cr,hwn⟩:∃ wx,Bg.alloc (.cells #[.slice (some ⟨gi,0,none⟩) k ci] 29)=wx:=⟨_,rfl⟩
     have Co:Below Bg.heap.size Bg Cr:=by rw [← hwn];exact (Below.refl _ _).alloc (Nat.le_refl _) _
     have b3:Cr.heap[Bg.heap.size]? = some (.cells #[.slice (some ⟨gi,0,none⟩) k ci] 29):=by rw [← hwn];exact heap_alloc_new Bg _
     have AEm:=AJ.size
     have hz3:Bg.heap.size<Cr.heap.size:=by rw [← hwn];simp
     have AJ:=AJ.trans (Co.mono AJ.size)
     rw [hwn]
     have ho:=own_below ho Co (Nat.le_refl _)
     clear hwn Co
     refine hK.out _ _ (fun _=>AJ) (fun Ji=>?_)
     clear hK K Ji
     (try simp only [Act.put,qS,qZ,qU])
     refine qo 4 fun K hK=>?_
     refine BD Tryz.underlying225 HIP.out rfl (by omega) (by omega) rfl _ _ rfl U.heap.size (.slice none 0 0) 0 [] rfl (World.ownsRow_nil _ _ _ _) (some ⟨Bg.heap.size,0,none⟩) 1 1 [.slice (some ⟨gi,0,none⟩) k ci] rfl rfl (fun d hd=>by cases hd;exact jC b3) (fun u hu=>by simp at hu;subst hu;rfl) (by omega) AJ.size (by intro h;cases h) ?_
     intro A8 c8 Kh kY E5 Fx
     have KE:Below U.heap.size U Kh:=AJ.grown E5 AJ.size (fun k e=>by cases e)
     have hoi:=own_below ho ((Below.refl _ _).grown E5 (Nat.le_refl _) (fun k e=>by cases e)) (Nat.le_refl _)
     have AJ:=KE
     have Ie:=qh kY
     have HOI:=qh hoi
     have x9:=(oD.out.below AJ oD.out.lt).at 0 _ rfl
     have f9:=(oD.out.below AJ oD.out.lt).free 0
     have AEn:=(oD.out.below AJ oD.out.lt).lt
     clear kY hoi E5 Fx ho KE
     refine hK.out _ _ (fun _=>AJ) (fun Ji=>?_)
     clear hK K Ji
     (try simp only [Act.put,qS,qZ,qU])
     refine qo 5 fun K hK=>?_
     go_simp
     refine hK.out _ _ (fun h=>by cases h) (fun Ji=>?_)
     clear hK K Ji
     (try simp only [Act.put,qS,qZ,qU])
     refine qd ?_
     refine dZ ?_
     gi_wp2_with fail
     obtain ⟨hsp,QY⟩:=av (base:=CW.heap.size) HL.out oD.out AJ HTU.out.size Ie.out HOI.out
     have hz:=HZ.out
     have hu:=HTU.out.size
     exact ⟨⟨QY.size,fun b o hb ho hnc=>(QY.block (Array.getElem?_eq_some_iff.1 ho).1 (fun e=>by have e:b=g9:=e;omega)).trans ho⟩,⟨fun x hx=>QY.block (by rcases hx with rfl|rfl <;> omega) (fun e=>by have e:x=g9:=e;rcases hx with rfl|rfl <;> omega),QY.size⟩,HTU.out.trans (QY.weak (fun b e=>.inl e)),hsp⟩
    case hdone =>
     rintro D W hD ⟨hT,hst⟩ hK
     rcases hst with ⟨h,-⟩|⟨-,gr,cr,gi,ci,I6,hr1,hr2⟩
     · cases h
     have hkc:KC W (W.putObj D (.deferred none)):=KC.grown (grownBy_putObj' W D _) (fun r e=>by cases e;exact ⟨_,hK,rfl⟩)
     have hz:=HZ.out
     have vG:=mg.out
     have hBW:Below w.heap.size w W:=Fy.out.trans (hT.below (base:=w.heap.size) (fun x hx=>by rcases hx with hx|hx <;> omega) Fy.out.size)
     have HR:Hid (w.heap.size≤D∧W.heap[D]? = some (.deferred (some []))∧W.heap.size=W.heap.size):=⟨by omega,hK,rfl⟩
     have HF:Hid (Yt w l (.returned (.tuple #[.slice (some ⟨gr,0,none⟩) 1 cr,.slice none 0 0,.int .i64 0])) (W.putObj D (.deferred none))∧Below w.heap.size w (W.putObj D (.deferred none))):=⟨⟨gr,cr,gi,ci,rfl,(hkc.own hr1).mono (by omega),(hkc.own hr2).mono (by omega)⟩,hBW.grown (grownBy_putObj' W D _) hBW.size (fun q e=>by cases e;omega)⟩
     have q9:=I6.at 0 _ rfl
     clear hT hr1 hr2 hkc hBW hz vG I6 hD hK yH h1 hm
     gi_wp2
     refine rE (v:=.tuple #[.slice (some ⟨gr,0,none⟩) 1 cr,.slice none 0 0,.int .i64 0]) HR.out.2.1 (by simp [results,Tryz.results115,go_sem]) rfl HF.out
    case hstop=>rintro D cc q W hD hq h;exact h.elim
end
end Go.Proofs.YtpenklpdjpkigaaGreat
