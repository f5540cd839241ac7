/- A part of the proof: WSplit. -/
import Derived.Test.YthblbddmcdnllaaGreatDoorX30
import Derived.Test.YthblbddmcdnllaaGreatDoorX12
import Derived.Test.YthblbddmcdnllaaGreatDoorX33
import Derived.Test.YthblbddmcdnllaaGreatDoorY1
import Derived.Test.YthblbddmcdnllaaGreatDoorX4
set_option maxHeartbeats 6400000
set_option linter.unusedVariables false
set_option linter.unusedSimpArgs false
namespace Go.Proofs.YthblbddmcdnllaaGreatDoor
section
open Go.RowKit Go.Shelf
attribute [local go_sem] Oper.semAt_some
theorem L9 (w:World) (g m c:Nat) (l:List Int) (hl:l.length=m) (h1:1≤m) (hm:m≤1000) (hc:∀ j u,(AA encI l)[j]? = some u→w.cell? ((⟨g,0,none⟩:Addr).add j)=some u) :
 Calls Tryz.prog 73 #[.slice (some ⟨g,0,none⟩) m c] w fun e w'=>(∃ g' c',e=.returned (.slice (some ⟨g',0,none⟩) m c')∧w'.ownsRow w.heap.size 3 1 (.slice (some ⟨g',0,none⟩) m c') m (AA encI l))∧Below w.heap.size w w':=by
 have heq:=Lib.run_eql_slice_nil (P:=Tryz.prog) w 62 3 (some ⟨g,0,none⟩) m c 0 0 Tryz.underlying62
 have hlen:(AA encI l).length=m*1:=by rw [CO Bu,hl]
 go_enter Tryz.func73,Tryz.ntmps73
 go_wp2_with (at_builtin;go_loud (refine Bl Tryz.underlying62 JM rfl (by omega) (by omega) rfl _ _ rfl w.heap.size (.slice (some ⟨w.heap.size,0,none⟩) 0 0) 0 [] rfl (World.ownsRow_made w #[] 0 (Nat.le_refl _) (by simp [maxLen]) rfl) ⟨g,0,none⟩ m c (AA encI l) rfl hlen (fun j u hu=>by
  have hold:=hc j u hu
  have hlt:=World.block_lt_of_cell? _ _ hold
  rw [World.cell?_alloc_lt _ _ _ hlt];exact hold) (fun u hu=>by rw [Bq] at hu;obtain ⟨x,_,rfl⟩:=List.mem_map.1 hu;rfl) (by omega) (by simp) ?_);intro A' cap' w1 hown hg)
 rw [Nat.zero_add,List.nil_append] at hown
 obtain ⟨g',hA',-,-,-⟩:=BS hown (by omega)
 subst hA'
 refine bodyPost_ret (v:=.slice (some ⟨g',0,none⟩) m cap') (by simp [results,Tryz.results73,go_sem]) rfl ⟨⟨g',cap',rfl,hown⟩,?_⟩
 exact ((Below.refl _ w).alloc (Nat.le_refl _) _).grown hg (by simp) (fun k hk=>by simp [Value.ownBlock] at hk;omega)
theorem IX {F:Fence} {nF:Nat} {w:World} {ops:Array Oper} {rest:List Oper} {o:Oper} {a:Act} {Q:Exit→Act→World→Prop} (hg:o.guard=none) (s y:Operand) (hop:o.op=Op.call { callee:=Callee.builtin Builtin.append,args:=#[s,y],argTypes:=#[62,62] })
 (base:Nat) (v:Value) (k:Nat) (l:List Int) (x:Int) (hs:a.eval s=v) (hown:w.ownsRow base 3 1 v k (AA encI l)) (sz:Nat) (hwz:w.heap.size=sz) (hy:a.eval y=.slice (some ⟨sz,0,none⟩) 1 1) (hk:k≤1000000) (hbase:base≤w.heap.size)
 (hK:∀ A c w',w'.ownsRow base 3 1 (.slice A (k+1) c) (k+1) (AA encI (l++[x]))→w.grownBy w' v.ownBlock→wpListIn F nF Tryz.prog ops Q rest (a.put o.dst (.slice A (k+1) c)) w') :
 wpListIn F nF Tryz.prog ops Q (o :: rest) a (w.alloc (.cells #[.int .i64 x] 3)):=by
 subst hwz
 have hB:Below w.heap.size w (w.alloc (.cells #[.int .i64 x] 3)):=(Below.refl _ _).alloc (Nat.le_refl _) _
 obtain ⟨i0,hi,hz0,hz1,hz2⟩:=info_parts JM
 refine wpListIn_append_own_at _ hg s y 62 hop base 3 i0 _ 1 8 Tryz.underlying62 hi hz0 hz1 hz2 rfl (by omega) v k (AA encI l) hs (hown.alloc _) ⟨w.heap.size,0,none⟩ 1 1 [.int .i64 x] hy (by rfl) (Cm w [.int .i64 x] _) (fun u hu=>by simp at hu;subst hu;rfl) (by unfold maxLen;omega) (by omega) (by simp;omega) ?_
 intro v' w' h2 h3 h4 h5
 obtain ⟨A,cap,rfl,_⟩:=DK h2
 refine hK A cap w' ?_ (Dx h3)
 rw [BK]
 exact h2
def QV (l:List Int) (base g9:Nat) (k:Nat) (W:World):Prop :=
 (k=0∧AL W g9 #[.slice none 0 0] 148)∨(k=1∧∃ gr cr gi ci,AL W g9 #[.slice (some ⟨gr,0,none⟩) 1 cr] 148∧W.ownsRow base 62 1 (.slice (some ⟨gr,0,none⟩) 1 cr) 1 [.slice (some ⟨gi,0,none⟩) l.length ci]∧W.ownsRow base 3 1 (.slice (some ⟨gi,0,none⟩) l.length ci) l.length (AA encI l))
theorem XN {w:World} {g:Nat} {u0:Value} {e:TypeId} (h:w.heap[g]? = some (.cells #[u0] e (0,0))):∀ j u,[u0][j]? = some u→w.cell? ((⟨g,0,none⟩:Addr).add j)=some u:=fun j u hu=>by
 obtain ⟨hj,rfl⟩:=List.getElem?_eq_some_iff.1 hu
 obtain rfl:j=0:=by simpa using hj
 exact AL.at h 0 _ rfl
theorem U7 {l:List Int} {k base g9 gi ci c8:Nat} {A8:Option Addr} {U V:World} (hk:l.length=k) (hX:AL U g9 #[.slice none 0 0] 148) (hB:Below U.heap.size U V) (hb:base≤U.heap.size) (Td:V.ownsRow U.heap.size 62 1 (.slice A8 1 c8) 1 [.slice (some ⟨gi,0,none⟩) k ci]) (hoi:V.ownsRow U.heap.size 3 1 (.slice (some ⟨gi,0,none⟩) k ci) k (AA encI l)) :
 QV l base g9 1 (V.setCell ⟨g9,0,none⟩ (.slice A8 1 c8))∧Touch (fun x=>x=g9) U (V.setCell ⟨g9,0,none⟩ (.slice A8 1 c8)):=by
 have hT:Touch (fun x=>x=g9) V (V.setCell ⟨g9,0,none⟩ (.slice A8 1 c8)):=Touch.BZ (R:=fun x=>x=g9) (p:=⟨g9,0,none⟩) rfl
 have hlt:=hX.lt
 subst hk
 obtain ⟨gr,hA,-,-,-⟩:=BS Td (by omega)
 subst hA
 refine ⟨.inr ⟨rfl,gr,c8,gi,ci,(hX.below hB hlt).set 0 _,(BB Td hT (fun x hx e=>?_)).mono hb,(BB hoi hT (fun x hx e=>?_)).mono hb⟩,(Touch.of_below hB).trans hT⟩
 · have:=(Td.lt x hx).1;have e:x=g9:=e;omega
 · have:=(hoi.lt x hx).1;have e:x=g9:=e;omega
theorem KC.own {W W':World} {base e size:Nat} {v:Value} {n:Nat} {xs:List Value} (h:KC W W') (ho:W.ownsRow base e size v n xs):W'.ownsRow base e size v n xs:=by
 refine ⟨ho.1,?_⟩
 rcases ho.2 with h0|⟨g,cap,cur,hv,hb,hg,rest⟩
 · exact .inl h0
 · exact .inr ⟨g,cap,cur,hv,hb,h.2 _ _ _ hg,rest⟩
theorem QV.kc {l:List Int} {base g9 k:Nat} {W W':World} (h:QV l base g9 k W) (hk:KC W W'):QV l base g9 k W':=by
 rcases h with ⟨e,hb⟩|⟨e,gr,cr,gi,ci,hb,h1,h2⟩
 · exact .inl ⟨e,hk.box hb⟩
 · exact .inr ⟨e,gr,cr,gi,ci,hk.box hb,hk.own h1,hk.own h2⟩
def Te (w:World) (l:List Int) (e:Ending) (w':World):Prop:=∃ gr cr gi ci,e=.returned (.tuple #[.slice (some ⟨gr,0,none⟩) 1 cr,.slice none 0 0,.int .i64 0])∧w'.ownsRow w.heap.size 62 1 (.slice (some ⟨gr,0,none⟩) 1 cr) 1 [.slice (some ⟨gi,0,none⟩) l.length ci]∧w'.ownsRow w.heap.size 3 1 (.slice (some ⟨gi,0,none⟩) l.length ci) l.length (AA encI l)
set_option maxRecDepth 100000 in
theorem XO (w:World) (g off m c:Nat) (l:List Int) (hl:l.length=m) (h1:1≤m) (hm:m<960) (hg:g<w.heap.size) (hf:∀ i,i<m→w.cell? ⟨g,off+i,none⟩=some (.int .i64 (nth 0 l i))) (h3:∀ x∈l,0≤x∧x<3) :
 Calls Tryz.prog 64 #[.slice (some ⟨g,off,none⟩) m c] w fun e w'=>Te w l e w'∧Below w.heap.size w w':=by
 have HC:Hid (∀ i,i<m→∀ W,Below w.heap.size w W→W.cell? ⟨g,off+i,none⟩=some (.int .i64 (nth 0 l i))):=fun i hi W hB=>AY hB hg (hf i hi)
 have HX:Hid (∀ i,i<m→0≤nth 0 l i∧nth 0 l i<3):=fun i hi=>h3 _ (Ci 0 l i (by omega))
 have HL:=qh hl
 have gX:Hid (∀ i,i<m→l.take (i+1)=l.take i++[nth 0 l i]):=fun i hi=>Ck 0 l i (by omega)
 have bX:(m:Int)<960:=by omega
 clear hf h3 hl hg
 have f1:Fence.wide.fn 109:=trivial
 refine (callsIn_wide (n:=3)).1 ?_
 refine callsIn_of_wp_marks Tryz.func64 rfl trivial ?_ rfl
 simp only [Tryz.ntmps64,List.size_toArray,List.length_cons,List.length_nil,Nat.reduceAdd,Nat.reduceSub,Array.replicate_succ,Array.replicate_zero,List.push_toArray,List.append_toArray,List.nil_append,List.cons_append]
 gi_upto_region 6 with fail
 gi_loopw [5,6,16] (fun v5 v6 vi wr=>∃ k:Nat,k≤m∧vi=.int .i64 k∧v6=.slice none 0 0∧Hid (wr.ownsRow w.heap.size 3 1 v5 k (AA encI (l.take k)))∧Hid (Below w.heap.size w wr)) (fun _ _ vi _=>m-(intOf vi).toNat)
 case atStart=>exact ⟨0,Nat.zero_le _,rfl,rfl,World.ownsRow_nil _ _ _ _,Below.refl _ _⟩
 case round =>
  obtain ⟨k,hk,rfl,rfl,HO,HB⟩:=hrel
  obtain ⟨A5,c5,rfl,uF⟩:=DK HO.out
  by_cases hlt:k<m
  · have hil:(k:Int)<(m:Int):=by omega
    have x0:=HC.out k hlt wr HB.out
    obtain ⟨y0,y1⟩:=HX.out k hlt
    have HT:=qh (gX.out k hlt)
    have oF:Hid (k≤1000000):=by show _≤_;omega
    generalize nth 0 l k=y at *
    have iw:min y 3=y:=by omega
    have hnl:¬ (3:Int)≤y:=by omega
    gi_wp2_with (gi_at_builtin;go_loud (refine IX rfl _ _ rfl w.heap.size (.slice A5 k c5) k (l.take k) y rfl HO.out wr.heap.size rfl rfl oF.out HB.out.size ?_);intro A6 c6 w6 hown6 N7;have OA:=qh hown6;have D8:Hid (Below w.heap.size w w6):=HB.out.grown N7 HB.out.size (fun q e=>(HO.out.lt q e).1);clear hown6 N7)
    go_roundw
    case rel=>exact ⟨k+1,by omega,by go_num,rfl,by rw [HT.out];exact OA,D8⟩
    case measure=>simp [intOf];omega
  · obtain rfl:k=m:=by omega
    have KR:Hid (wr.ownsRow w.heap.size 3 1 (.slice A5 k c5) k (AA encI l)):=by
     have h:=HO.out
     rw [show l.take k=l from List.take_of_length_le (by rw [HL.out];exact Nat.le_refl _)] at h
     exact h
    obtain ⟨g5,qa,hg5,-,hs5⟩:=BS KR.out (by omega)
    subst qa
    have aB:=qh hs5
    have XB:=qh hg5
    clear hs5 hg5 HO HC HX gX
    gi_upto_region 15 with fail
    have Ey:=AL.new wr #[.slice none 0 0] 148
    have Kr:Below wr.heap.size wr (wr.alloc (.cells #[.slice none 0 0] 148)):=(Below.refl _ _).alloc (Nat.le_refl _) _
    generalize wr.alloc (.cells #[.slice none 0 0] 148)=w9 at *
    have eQ:Hid (Below w.heap.size w w9):=HB.out.trans (Kr.mono HB.out.size)
    have aU:Hid (∀ j u,(AA encI l)[j]? = some u→w9.cell? ((⟨g5,0,none⟩:Addr).add j)=some u):=fun j u hu=>by
     have h:=aB.out j u hu
     rw [add_lit] at h ⊢
     exact AY Kr XB.out h
    have aV:g5<w9.heap.size:=Nat.lt_of_lt_of_le XB.out Kr.size
    have EP:Hid (g5≠wr.heap.size):=fun e=>by have:=XB.out;omega
    obtain ⟨g9,Dp⟩:∃ q,wr.heap.size=q:=⟨_,rfl⟩
    rw [Dp] at Ey EP ⊢
    have dS:Hid (w.heap.size≤g9):=by rw [← Dp];exact HB.out.size
    have NW:=qh Ey
    have kg:=qh aV
    clear Ey Kr Dp aV aB XB HB
    obtain ⟨ka,kb,kB,kz⟩:=AL.two w9 #[.slice (some ⟨g5,0,none⟩) k c5] #[.int .i64 960] 62 3
    gi_upto_region 16 with (gi_at_call 109;refine (callsIn_wide.2 (QM w9 (some ⟨g5,0,none⟩) k c5)).mono ?_;rintro e D9 ⟨rfl,hw⟩;rw [hw];clear hw D9)
    generalize (w9.alloc (.cells #[.slice (some ⟨g5,0,none⟩) k c5] 62)).alloc (.cells #[.int .i64 960] 3)=D9 at *
    have ko:=qh (SB 2 (by omega) w9.heap.size (w9.heap.size+1) g5 k c5 D9 h1 hm uF ka kb)
    have kw:=NW.out.below kB NW.out.lt
    have Kq:=NW.out.lt
    have bN:Hid (∀ (W:World) (q:Nat) (o':Obj),D9.heap.size≤q→Ox (fun x=>x=w9.heap.size∨x=w9.heap.size+1) W (W.putObj q o')):=fun W q o' hq=>⟨fun x hx=>World.putObj_heap_other (by rcases hx with rfl|rfl <;> omega),by simp [World.putObj]⟩
    have XP:Hid (∀ j u,(AA encI l)[j]? = some u→D9.cell? ((⟨g5,0,none⟩:Addr).add j)=some u):=fun j u hu=>by
     have h:=aU.out j u hu
     rw [add_lit] at h ⊢
     exact AY kB kg.out h
    have Hw:Hid (Below w.heap.size w D9):=eQ.out.trans (kB.mono eQ.out.size)
    have R7:=qh kw
    have HZ:Hid (D9.heap.size=w9.heap.size+2∧g9<w9.heap.size):=⟨kz,Kq⟩
    clear ka kb kB kz kw Kq aU eQ NW
    refine Io rfl (by omega) (gf:=160) (lb:=#[.pointer (some ⟨w9.heap.size,0,none⟩),.pointer (some ⟨w9.heap.size+1,0,none⟩)]) rfl trivial (enters_of Tryz.func160 (by kernel_rfl) rfl) ko.out (fun _ _ h=>h.elim) (fun h q=>h.trans q) bN.out (fun _=>rfl)
     (fun q W=>Touch (fun b=>b=g9∨D9.heap.size≤b) D9 W∧QV l D9.heap.size g9 q W) (fun _ _ _=>False) ?hI ?hIx ?eF ?R9 ?h0 ?Lv ?hdone ?hstop
    case hI =>
     rintro q W W' row ⟨hT,hst⟩ hg2 hr
     exact ⟨hT.trans (Touch.CV hg2 (fun x e=>.inr (hr x e).1)),hst.kc (KC.grown hg2 (fun r e=>(hr r e).2))⟩
    case hIx=>intro cc q W W' row h;exact h.elim
    case eF=>rintro q W W' h hw;exact hw.elim
    case R9=>intro cc q W W' h;exact h.elim
    case h0=>exact ⟨Touch.refl,.inl ⟨rfl,R7.out⟩⟩
    case Lv =>
     rintro lp q W ⟨hT,hst⟩
     have HT:=qh hT
     have HST:=qh hst
     have uG:Hid (Ox (fun x=>x=w9.heap.size∨x=w9.heap.size+1) W W):=Ox.refl
     clear hT hst
     dsimp only
     gi_wp2
     refine ⟨(KeepsOthers.refl _).from _,uG.out,⟨HT.out,HST.out⟩,?_⟩
     rintro l2 U hl2 ⟨r,hr⟩ ⟨Ko,ky⟩ hkN
     obtain rfl:q=0:=by omega
     have yB:AL U g9 #[.slice none 0 0] 148:=by
      rcases ky with ⟨-,h⟩|⟨h,-⟩
      · exact h
      · cases h
     have ZH:=qh yB
     have uH:=qh Ko
     have ZI:Hid (∀ W',Below U.heap.size U W'→∀ j u,(AA encI l)[j]? = some u→W'.cell? ((⟨g5,0,none⟩:Addr).add j)=some u):=fun W' hB j u hu=>by
      have h:=XP.out j u hu
      rw [add_lit] at h ⊢
      have hz:=HZ.out.1
      have h5:=kg.out
      have hu:=Ko.size
      exact AY hB (by omega) ((World.cell?_of_block (a:=⟨g5,0+j,none⟩) (Ko.block (by show g5<_;omega) (fun e=>by rcases e with e|e;exact EP.out e;have e:D9.heap.size≤g5:=e;omega))).trans h)
     have eG:Hid (k≤1000∧1≤k):=⟨by omega,h1⟩
     have info_p:(Tryz.prog.info? 62).map (fun i=>(i.zero,i.size,i.bytes))=some (some (.slice none 0 0),1,24):=by kernel_rfl
     have HIP:=qh info_p
     clear yB Ko ky hkN hr info_p bX h1 hm
     gi_upto_region 17 with fail
     refine JF (T:=fun j=>j==5) (S:=fun w'=>Below U.heap.size U w') (by kernel_rfl) (Below.refl U.heap.size U).drew (fun hHeld=>?_)
     obtain ⟨BN,hw0⟩:∃ x,U.drew=x:=⟨_,rfl⟩
     rw [hw0] at hHeld ⊢
     have AF:Below U.heap.size U BN:=hHeld
     clear hHeld hw0
     refine qf 0 45 rfl rfl AF (by intro w2' hSw;have x9:=(ZH.out.below hSw ZH.out.lt).at 0 _ rfl;go_simp;(try with_reducible rfl)) ?_
     refine qs 1 46 AF ?_
     refine qo 2 fun K hK=>?_
     go_simp
     refine (L9 BN g5 k k l HL.out eG.out.2 eG.out.1 (ZI.out BN AF)).mono ?_
     rintro e BP ⟨⟨gi,ci,rfl,ho⟩,CB⟩
     have ho:=ho.mono AF.size
     have AF:=AF.trans (CB.mono AF.size)
     clear CB
     refine hK.out _ _ (fun _=>AF) (fun Cq=>?_)
     clear hK K Cq
     (try simp only [Act.put,qS,qZ,qU])
     refine qo 3 fun K hK=>?_
     go_simp
     obtain ⟨Cz,hwn⟩:∃ wx,BP.alloc (.cells #[.slice (some ⟨gi,0,none⟩) k ci] 62)=wx:=⟨_,rfl⟩
     have CB:Below BP.heap.size BP Cz:=by rw [← hwn];exact (Below.refl _ _).alloc (Nat.le_refl _) _
     have b3:Cz.heap[BP.heap.size]? = some (.cells #[.slice (some ⟨gi,0,none⟩) k ci] 62):=by rw [← hwn];exact heap_alloc_new BP _
     have AAP:=AF.size
     have hz3:BP.heap.size<Cz.heap.size:=by rw [← hwn];simp
     have AF:=AF.trans (CB.mono AF.size)
     rw [hwn]
     have ho:=own_below ho CB (Nat.le_refl _)
     clear hwn CB
     refine hK.out _ _ (fun _=>AF) (fun Cq=>?_)
     clear hK K Cq
     (try simp only [Act.put,qS,qZ,qU])
     refine qo 4 fun K hK=>?_
     refine Co Tryz.underlying148 HIP.out rfl (by omega) (by omega) rfl _ _ rfl U.heap.size (.slice none 0 0) 0 [] rfl (World.ownsRow_nil _ _ _ _) (some ⟨BP.heap.size,0,none⟩) 1 1 [.slice (some ⟨gi,0,none⟩) k ci] rfl rfl (fun d hd=>by cases hd;exact XN b3) (fun u hu=>by simp at hu;subst hu;rfl) (by omega) AF.size (by intro h;cases h) ?_
     intro A8 c8 Ka Td Du Eu
     have KS:Below U.heap.size U Ka:=AF.grown Du AF.size (fun k e=>by cases e)
     have hoi:=own_below ho ((Below.refl _ _).grown Du (Nat.le_refl _) (fun k e=>by cases e)) (Nat.le_refl _)
     have AF:=KS
     have IU:=qh Td
     have oM:=qh hoi
     have x9:=(ZH.out.below AF ZH.out.lt).at 0 _ rfl
     have f9:=(ZH.out.below AF ZH.out.lt).free 0
     have AAQ:=(ZH.out.below AF ZH.out.lt).lt
     clear Td hoi Du Eu ho KS
     refine hK.out _ _ (fun _=>AF) (fun Cq=>?_)
     clear hK K Cq
     (try simp only [Act.put,qS,qZ,qU])
     refine qo 5 fun K hK=>?_
     go_simp
     refine hK.out _ _ (fun h=>by cases h) (fun Cq=>?_)
     clear hK K Cq
     (try simp only [Act.put,qS,qZ,qU])
     refine qd ?_
     refine Vk ?_
     gi_wp2_with fail
     obtain ⟨hsp,OP⟩:=U7 (base:=D9.heap.size) HL.out ZH.out AF uH.out.size IU.out oM.out
     have hz:=HZ.out
     have hu:=uH.out.size
     exact ⟨⟨OP.size,fun b o hb ho hnc=>(OP.block (Array.getElem?_eq_some_iff.1 ho).1 (fun e=>by have e:b=g9:=e;omega)).trans ho⟩,⟨fun x hx=>OP.block (by rcases hx with rfl|rfl <;> omega) (fun e=>by have e:x=g9:=e;rcases hx with rfl|rfl <;> omega),OP.size⟩,uH.out.trans (OP.weak (fun b e=>.inl e)),hsp⟩
    case hdone =>
     rintro D W hD ⟨hT,hst⟩ hK
     rcases hst with ⟨h,-⟩|⟨-,gr,cr,gi,ci,Ey,hr1,hr2⟩
     · cases h
     have hkc:KC W (W.putObj D (.deferred none)):=KC.grown (grownBy_putObj' W D _) (fun r e=>by cases e;exact ⟨_,hK,rfl⟩)
     have hz:=HZ.out
     have hw9:=dS.out
     have hBW:Below w.heap.size w W:=Hw.out.trans (hT.below (base:=w.heap.size) (fun x hx=>by rcases hx with hx|hx <;> omega) Hw.out.size)
     have HR:Hid (w.heap.size≤D∧W.heap[D]? = some (.deferred (some []))∧W.heap.size=W.heap.size):=⟨by omega,hK,rfl⟩
     have HF:Hid (Te w l (.returned (.tuple #[.slice (some ⟨gr,0,none⟩) 1 cr,.slice none 0 0,.int .i64 0])) (W.putObj D (.deferred none))∧Below w.heap.size w (W.putObj D (.deferred none))):=⟨⟨gr,cr,gi,ci,rfl,(hkc.own hr1).mono (by omega),(hkc.own hr2).mono (by omega)⟩,hBW.grown (grownBy_putObj' W D _) hBW.size (fun q e=>by cases e;omega)⟩
     have q9:=Ey.at 0 _ rfl
     clear hT hr1 hr2 hkc hBW hz hw9 Ey hD hK bX h1 hm
     gi_wp2
     refine aT (v:=.tuple #[.slice (some ⟨gr,0,none⟩) 1 cr,.slice none 0 0,.int .i64 0]) HR.out.2.1 (by simp [results,Tryz.results64,go_sem]) rfl HF.out
    case hstop=>rintro D cc q W hD hq h;exact h.elim
end
end Go.Proofs.YthblbddmcdnllaaGreatDoor
