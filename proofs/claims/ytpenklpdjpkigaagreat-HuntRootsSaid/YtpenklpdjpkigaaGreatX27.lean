/- A part of the proof: WBuild2, WBuild3. -/
import Derived.Test.YtpenklpdjpkigaaGreatX17
import Derived.Test.YtpenklpdjpkigaaGreatY14
import Derived.Test.YtpenklpdjpkigaaGreatX26
import Derived.Test.YtpenklpdjpkigaaGreatY2
import Derived.Test.YtpenklpdjpkigaaGreatY1
set_option maxHeartbeats 6400000
set_option linter.unusedVariables false
set_option linter.unusedSimpArgs false
namespace Go.Proofs.YtpenklpdjpkigaaGreat
section
open Go.RowKit Go.Shelf
theorem bR:(Tryz.prog.info? 108).map (fun i=>(i.zero,i.size,i.bytes))=some (some (.agg #[.int .i64 0,.string ByteArray.empty,.int .i64 0]),3,32):=by kernel_rfl
def Y2 (e:Int × ByteArray × Int):List Value:=[.int .i64 e.1,.string e.2.1,.int .i64 e.2.2]
theorem bS (e:Int × ByteArray × Int):(Y2 e).length=3:=rfl
theorem bT:∀ (e:Int × ByteArray × Int),∀ u∈Y2 e,u.oneCell'=true:=by
 intro e u hu
 simp only [Y2,List.mem_cons,List.not_mem_nil,or_false] at hu
 rcases hu with rfl|rfl|rfl <;> rfl
theorem ADX:Elem Tryz.prog 104 108 3 32 Y2:=⟨Tryz.underlying104,⟨_,bR,rfl⟩,by omega,by omega,bS,bT⟩
theorem C8 {w w':World} {base a img:Nat} {bs:List UInt8} (h:Bo w base img bs) (hB:Below w.heap.size w w'):∀ x,Cg w' a img x→Cg w a img x:=by
 obtain ⟨A,c,h1,h2⟩:=h.QM
 intro x hx
 rcases hx with hx|⟨v,hv,hx⟩
 · exact .inl hx
 · rw [AQ hB h2 h1] at hv
   exact .inr ⟨_,h1,by injection hv with hv;rw [hv];exact hx⟩
def Xo (w:World) (base a img gl n c k:Nat) (bs:List UInt8) (t:Int) (vu:Value) (w':World):Prop:=∃ gu cu,vu=.slice (some ⟨gu,0,none⟩) 1 cu∧w.heap.size≤gu∧w'.cell? ⟨gu,2,none⟩=some (.int .i64 ((k+1:Nat):Int))∧Bn w' base a img gl n c (k+1) (Jm bs ((k+1:Nat):Int) (Bq 2 (k+1) (EB t)))∧Touch (Cg w a img) w w'
set_option maxRecDepth 100000 in
theorem vX (w:World) (base a img gl n c k:Nat) (bs:List UInt8) (t:Int) (h1:1≤t) (h5:t≤5) (h:Bn w base a img gl n c k bs) (hk:k<n) (hn:n≤14000) (hj:(k+1)*256+256≤bs.length) (hbl:bs.length≤3686400) (hb:base≤w.heap.size) :
 Calls Tryz.prog 185 #[.pointer (some ⟨a,0,none⟩),.int .i64 t,.bool true,.slice none 0 0] w fun e w'=>∃ vu,e=.returned (.tuple #[vu,.nilIface])∧Xo w base a img gl n c k bs t vu w':=by
 have tu:=qh (fun w'=>Ho w' t true)
 have dR:=qh (fun w'=>sizes0 w' t h1 h5)
 have HNP:=qh (fun w'=>Xd w' t h1 h5)
 have HLL:=qh (KU t h1 h5)
 have yA:=qh (fun (w':World) (b0:Nat) (A:Option Addr) (cc:Nat) (ho:w'.ownsRow b0 5 1 (.slice A 244 cc) 244 (AB Au (EB t))) (hs:Bn w' base a img gl n c k bs)=>show Calls Tryz.prog 131 #[.pointer (some ⟨a,0,none⟩),.int .i64 2,.slice A 244 cc] w' (fun e w''=>e=.returned (.tuple #[.int .i64 ((k+1:Nat):Int),.nilIface])∧Bn w'' base a img gl n c (k+1) (Jm bs ((k+1:Nat):Int) (Bq 2 (k+1) (EB t)))∧Touch (Cg w' a img) w' w'') from jS w' (fun b=>b<w'.heap.size∧b≠a) base a img gl n c k bs 2 (.slice A 244 cc) (EB t) (fun b hb=>hb.1) (fun hb=>hb.2 rfl) hs hk hn (by
  have hl:=KU t h1 h5
  have hq:w'.ownsRow b0 5 1 (.slice A (EB t).length cc) (EB t).length (AB Au (EB t)):=by rw [hl];exact ho
  have h9:AX w' (fun b=>(Value.slice A (EB t).length cc).ownBlock=some b∧b<w'.heap.size) (.slice A (EB t).length cc) (EB t):=by
   rcases hq.2 with ⟨e,h0⟩|⟨g',cap,cur,e,hb',hg,rest⟩
   · rw [hl] at h0;omega
   · have h8:=CF.own (enc:=Au) (size:=1) (d:=(0:UInt8)) D8 hq (by omega)
     obtain ⟨A',c',e',hc',hr'⟩:=h8
     injection e' with e1 e2 e3
     injection e with f1 f2 f3
     subst e1 e3
     refine ⟨_,_,rfl,hc',fun h0=>?_⟩
     obtain ⟨b,off,eb,hb2,hcell⟩:=hr' h0
     rw [f1] at eb
     injection eb with eb
     injection eb with eb1 eb2
     subst eb1 eb2
     exact ⟨_,_,f1,⟨by rw [f1];rfl,hb2.2⟩,hcell⟩
  rw [hl] at h9
  exact h9.sub (AA _) (fun b hb=>⟨hb.2,fun e=>by
   subst e
   have h7:w'.heap[b]? = some _:=hs.1
   rw [hl] at hq
   exact BC hq h7 (by decide) hb.1.symm⟩)) (by rw [KU t h1 h5];exact Nat.le_refl _) (by omega) (by omega) hj hbl)
 have HVR:=qh (fun w'=>Zz w' ((k+1:Nat):Int))
 have HST:=qh h
 have QZ:=qh h.2.1
 have IG:=qh hb
 unfold Xo
 clear h h1 h5 hk hn hj hbl hb
 obtain ⟨no,hno⟩:∃ x,k+1=x:=⟨_,rfl⟩
 rw [hno] at yA HVR ⊢
 clear hno
 generalize (BZ t true:Int)=mk at *
 go_enter Tryz.func185,Tryz.ntmps185
 go_wp2_with (first
  | (go_at_call 197;(with_reducible refine (tu.out _).mono ?_);rintro e w2 ⟨rfl,hw⟩;rw [hw];clear hw w2)
  | (go_at_call 218;(with_reducible refine (dR.out _).mono ?_);rintro e w2 ⟨⟨gs,rfl,hgs,hc⟩,hB⟩;have HC:=qh hc;have HB:=qh hB;clear hc hB hgs))
 rename World=>w2
 have KF:=qh (HST.out.below HB.out)
 have hs2:=HB.out.size
 go_loopw [3,10,28] (fun vl vu vi wr=>∃ i:Nat,vi=.int .i64 i∧i≤1∧vl=.slice none 0 0∧Hid (i=0→vu=.slice none 0 0∧w2=wr)∧Hid (i=1→∃ gu cu,vu=.slice (some ⟨gu,0,none⟩) 1 cu∧w.heap.size≤gu∧wr.cell? ⟨gu,2,none⟩=some (.int .i64 (no:Int))∧Bn wr base a img gl n c no (Jm bs (no:Int) (Bq 2 no (EB t)))∧Touch (Cg w a img) w wr)) (fun _ _ vi _=>1-(intOf vi).toNat)
 case atStart=>exact ⟨0,rfl,by omega,rfl,fun _=>⟨rfl,rfl⟩,fun h=>by omega⟩
 case round =>
  obtain ⟨i,rfl,hi,rfl,H0,H1⟩:=hrel
  rcases (show i=0∨i=1 by omega) with hi0|hi1
  · obtain rfl:=hi0
    obtain ⟨rfl,rfl⟩:=H0.out rfl
    clear H0 H1
    have x0:=HC.out
    go_upto_region 6 with fail
    have hbx:=AP.new w2 #[.int .i64 t,.bool true,.slice none 0 0,.slice none 0 0] 173
    have hBx:Below w2.heap.size w2 (w2.alloc (.cells #[.int .i64 t,.bool true,.slice none 0 0,.slice none 0 0] 173)):=(Below.refl _ _).alloc (Nat.le_refl _) _
    generalize w2.alloc (.cells #[.int .i64 t,.bool true,.slice none 0 0,.slice none 0 0] 173)=w3 at *
    have HB3:=qh (HB.out.trans (hBx.mono hs2))
    have Qz:=qh (KF.out.below hBx)
    have hs3:=HB3.out.size
    obtain ⟨g3,hg3⟩:∃ q,w2.heap.size=q:=⟨_,rfl⟩
    rw [hg3] at hbx ⊢
    have x0:w3.cell? ⟨g3,0,none⟩=some (.int .i64 t):=hbx.at 0 _ rfl
    have x1:w3.cell? ⟨g3,1,none⟩=some (.bool true):=hbx.at 1 _ rfl
    have x2:w3.cell? ⟨g3,2,none⟩=some (.slice none 0 0):=hbx.at 2 _ rfl
    have x3:w3.cell? ⟨g3,3,none⟩=some (.slice none 0 0):=hbx.at 3 _ rfl
    clear hbx hBx hg3 HC KF HST HB hs2 dR tu
    go_wp2_with fail
    go_loopw [39] (fun vi wr=>vi=.int .i64 0∧wr=w3) (fun vi _=>1)
    case atStart=>exact ⟨rfl,rfl⟩
    case round =>
     obtain ⟨rfl,hwr⟩:=hrel
     rw [hwr]
     clear hwr wr
     go_upto_region 20 with (first
      | (go_at_call 219;(with_reducible refine (HNP.out _).mono ?_);rintro e w4 ⟨⟨A4,c4,rfl,oW⟩,hB4⟩;have dW:=qh oW;have CL:=qh hB4;clear oW hB4)
      | (go_at_call 131;(with_reducible refine (yA.out _ _ A4 c4 dW.out (Qz.out.below CL.out)).mono ?_);rintro e w5 ⟨rfl,ha5,Ja⟩;have HA5:=qh ha5;have JA:=qh Ja;clear ha5 Ja)
      | (go_at_call 113;(with_reducible refine (HVR.out _).mono ?_);rintro e w6 ⟨rfl,EG⟩;have Dz:=qh EG;clear EG))
     generalize Am (IR IV [(no:Int)])=sx at *
     have hby:=AP.new w6 #[.int .i64 0,.string sx,.int .i64 no] 108
     have vY:Below w6.heap.size w6 (w6.alloc (.cells #[.int .i64 0,.string sx,.int .i64 no] 108)):=(Below.refl _ _).alloc (Nat.le_refl _) _
     generalize w6.alloc (.cells #[.int .i64 0,.string sx,.int .i64 no] 108)=w7 at *
     have hs4:=CL.out.size
     have hs5:=JA.out.size
     have hs6:=Dz.out.size
     have Ew:=qh (Dz.out.trans (vY.mono hs6))
     have HA7:=qh (HA5.out.below Ew.out)
     have hs7:=Ew.out.size
     obtain ⟨g7,G8⟩:∃ q,w6.heap.size=q:=⟨_,rfl⟩
     rw [G8] at hby ⊢
     have y0:w7.cell? ⟨g7,0,none⟩=some (.int .i64 0):=hby.at 0 _ rfl
     have y1:w7.cell? ⟨g7,1,none⟩=some (.string sx):=hby.at 1 _ rfl
     have y2:w7.cell? ⟨g7,2,none⟩=some (.int .i64 no):=hby.at 2 _ rfl
     clear hby vY G8 dW
     go_wp2_with (at_builtin;go_loud (refine BA ADX rfl _ _ rfl w.heap.size (.slice none 0 0) 0 [] (0,sx,(no:Int)) rfl (World.ownsRow_nil _ _ _ _) rfl (by omega) (by omega) ?_);intro A8 c8 w8 DI E5 Fx;have Ie:=qh DI;have Gl:=qh E5;clear DI E5 Fx)
     have KE:Below w7.heap.size w7 w8:=(Touch.BO (R:=fun _=>False) Gl.out (fun x hx=>by simp [Value.ownBlock] at hx)).below (fun x h=>h.elim) (Nat.le_refl _)
     obtain ⟨gu,hgu,hgl,-,hsu⟩:=CG Ie.out (by omega)
     subst hgu
     have HU:Hid (0+1=1→∃ gu' cu,(Value.slice (some ⟨gu,0,none⟩) (0+1) c8)=.slice (some ⟨gu',0,none⟩) 1 cu∧w.heap.size≤gu'∧w8.cell? ⟨gu',2,none⟩=some (.int .i64 (no:Int))∧Bn w8 base a img gl n c no (Jm bs (no:Int) (Bq 2 no (EB t)))∧Touch (Cg w a img) w w8):=fun _=>by
      refine ⟨gu,c8,rfl,?_,?_,HA7.out.below KE,?_⟩
      · exact (Ie.out.lt gu rfl).1
      · have:=hsu 2 (.int .i64 (no:Int)) rfl
        rwa [add_lit,Nat.zero_add] at this
      · have t4:Touch (Cg w a img) w _:=Touch.of_below (HB3.out.trans (CL.out.mono hs3))
        have t5:=t4.trans (JA.out.weak (C8 QZ.out (HB3.out.trans (CL.out.mono hs3))))
        exact (t5.trans (Touch.of_below Ew.out)).trans (Touch.of_below KE)
     clear KE hsu hgl Ie Gl y0 y1 y2
     go_roundw
     case rel=>exact ⟨1,by go_num,by omega,rfl,(fun h=>by omega),HU⟩
     case measure=>simp [intOf]
  · obtain rfl:=hi1
    obtain ⟨gu,cu,rfl,hgu,rO,hal,hT⟩:=H1.out rfl
    have HF:Hid (w.heap.size≤gu∧wr.cell? ⟨gu,2,none⟩=some (.int .i64 (no:Int))∧Bn wr base a img gl n c no (Jm bs (no:Int) (Bq 2 no (EB t)))∧Touch (Cg w a img) w wr):=⟨hgu,rO,hal,hT⟩
    clear H0 H1 hgu rO hal hT
    go_wp2_with fail
    refine bodyPost_ret (v:=.tuple #[.slice (some ⟨gu,0,none⟩) 1 cu,.nilIface]) (by simp [results,Tryz.results185,go_sem]) rfl ⟨_,rfl,gu,cu,rfl,HF.out⟩
end
section
open Go.RowKit Go.Shelf
theorem Bn.touch {w w':World} {base a img gl n c k g:Nat} {bs:List UInt8} {cs:Array Value} {T:TypeId} (h:Bn w base a img gl n c k bs) (hT:Touch (fun x=>x=g) w w') (hg:AP w g cs T) (h1:T≠162) (h2:T≠48) (h3:T≠5) (h4:T≠3):Bn w' base a img gl n c k bs:=by
 obtain ⟨p1,⟨q0,A,cc,q1,q2⟩,p3,p4,p5⟩:=h
 have hne:∀ {b:Nat} {cs':Array Value} {T':TypeId},w.heap[b]? = some (.cells cs' T' (0,0))→T≠T'→b≠g:=fun hb ht e=>by
  subst e
  unfold AP at hg
  rw [hb] at hg
  injection hg with hg
  injection hg with _ hg
  exact ht hg.symm
 have p1':w.heap[a]? = some (.cells _ _ (0,0)):=p1
 have q1':w.heap[img]? = some (.cells _ _ (0,0)):=q1
 refine ⟨(hT.block (AP.lt p1) (hne p1' h1)).trans p1,⟨q0,A,cc,(hT.block (Array.getElem?_eq_some_iff.1 q1').1 (hne q1' h2)).trans q1,BG q2 hT (fun x hx e=>BC q2 hg (fun e=>h3 e.symm) (by rw [← e];exact hx.symm))⟩,BG p3 hT (fun x hx e=>BC p3 hg (fun e=>h4 e.symm) (by rw [← e];exact hx.symm)),p4,p5⟩
theorem Dp {w:World} {base a img gl n c k g:Nat} {bs:List UInt8} {cs:Array Value} {T:TypeId} (h:Bn w base a img gl n c k bs) (hg:AP w g cs T) (h1:T≠162) (h3:T≠5):¬ Cg w a img g:=by
 rintro (rfl|hx)
 · have p1:w.heap[g]? = some _:=h.1
   unfold AP at hg
   rw [p1] at hg
   injection hg with hg
   injection hg with _ hg
   exact h1 hg.symm
 · obtain ⟨cs',hx,-⟩:=JR h.2.1 g hx
   unfold AP at hg
   rw [hx] at hg
   injection hg with hg
   injection hg with _ hg
   exact h3 hg.symm
set_option maxRecDepth 100000 in
theorem oZ (w:World) (base a img gl n c k:Nat) (bs:List UInt8) (t:Int) (g3 g4 g8:Nat) (h1:1≤t) (h5:t≤5) (h:Bn w base a img gl n c k bs) (hk:k<n) (hn:n≤14000) (hj:(k+1)*256+256≤bs.length) (hbl:bs.length≤3686400) (hb:base≤w.heap.size) (b3:AP w g3 #[.pointer (some ⟨a,0,none⟩)] 93) (b4:AP w g4 #[.int .i64 t] 3) (b8:AP w g8 #[.nilIface] 40) :
 Calls Tryz.prog 184 #[.bool true,.slice none 0 0,.pointer (some ⟨g3,0,none⟩),.pointer (some ⟨g4,0,none⟩),.pointer (some ⟨g8,0,none⟩)] w fun e w'=>(∃ gu cu,e=.returned (.slice (some ⟨gu,0,none⟩) 1 cu)∧w'.cell? ⟨gu,2,none⟩=some (.int .i64 ((k+1:Nat):Int)))∧w'.cell? ⟨g8,0,none⟩=some .nilIface∧Bn w' base a img gl n c (k+1) (Jm bs ((k+1:Nat):Int) (Bq 2 (k+1) (EB t)))∧Touch (fun x=>Cg w a img x∨x=g8) w w':=by
 have qB:=qh (vX w base a img gl n c k bs t h1 h5 h hk hn hj hbl hb)
 unfold Xo at qB
 have qb:=qh (Dp h b8 (by decide) (by decide))
 have x3:=b3.at 0 _ rfl
 have x4:=b4.at 0 _ rfl
 have KZ:=qh b8
 clear h1 h5 h hk hn hj hbl hb b3 b4 b8
 obtain ⟨no,hno⟩:∃ x,k+1=x:=⟨_,rfl⟩
 rw [hno] at qB ⊢
 clear hno
 go_enter Tryz.func184,Tryz.ntmps184
 go_upto_region 2 with (go_at_call 185;(with_reducible refine qB.out.mono ?_);rintro e w2 ⟨vu,rfl,gu,cu,rfl,hgu,rO,ha,hT⟩;have HU:=qh (And.intro hgu rO);have HA:=qh ha;have HT:=qh hT;clear hgu rO ha hT)
 rename World=>w2
 have hb2:AP w2 g8 #[.nilIface] 40:=(HT.out.block KZ.out.lt qb.out).trans KZ.out
 have y0:w2.cell? ⟨g8,0,none⟩=some .nilIface:=hb2.at 0 _ rfl
 have f0:=hb2.free 0
 have hlt:=hb2.lt
 have HB2:=qh hb2
 have Gl:=qh KZ.out.lt
 clear hb2
 go_wp2_with fail
 have QY:Touch (fun x=>x=g8) w2 (w2.setCell ⟨g8,0,none⟩ .nilIface):=Touch.Dc (R:=fun x=>x=g8) (p:=⟨g8,0,none⟩) rfl
 have I6:AP (w2.setCell ⟨g8,0,none⟩ .nilIface) g8 #[.nilIface] 40:=HB2.out.set 0 _
 refine bodyPost_ret (v:=.slice (some ⟨gu,0,none⟩) 1 cu) (by simp [results,Tryz.results184,go_sem]) rfl ⟨⟨gu,cu,rfl,?_⟩,I6.at 0 _ rfl,HA.out.touch QY HB2.out (by decide) (by decide) (by decide) (by decide),(HT.out.weak (fun x hx=>.inl hx)).trans (QY.weak (fun x hx=>.inr hx))⟩
 exact (World.cell?_of_block (a:=⟨gu,2,none⟩) (QY.block (World.block_lt_of_cell? _ _ HU.out.2) (fun e=>by have h8:=Gl.out;have h9:=HU.out.1;have e':gu=g8:=e;omega))).trans HU.out.2
set_option maxRecDepth 100000 in
theorem rP (w:World) (base a img gl n c k:Nat) (bs:List UInt8) (t:Int) (h1:1≤t) (h5:t≤5) (h:Bn w base a img gl n c k bs) (hk:k<n) (hc:n≤c) (hn:n≤14000) (hj:(k+1)*256+256≤bs.length) (hbl:bs.length≤3686400) (hb:base≤w.heap.size) :
 Calls Tryz.prog 121 #[.pointer (some ⟨a,0,none⟩),.int .i64 t,.slice none 0 0] w fun e w'=>e=.returned (.tuple #[.int .i64 ((k+1:Nat):Int),.nilIface])∧Bn w' base a img gl n c (k+1) (Jm bs ((k+1:Nat):Int) (Bq 2 (k+1) (EB t)))∧Touch (Cg w a img) w w':=by
 have Xp:=qh (fun w' (hs:Bn w' base a img gl n c k bs)=>MS w' a img n c _ _ hs.1)
 have J4:=qh (fun w'=>right0 w' t h1 h5)
 have TD:=qh (fun w'=>nodes0 w' t h1 h5)
 have JZ:=qh (fun w' (hs:Bn w' base a img gl n c k bs)=>Xm w' a img n c gl k hs.1 (by omega) hc (by omega))
 have PH:=qh (fun w' g3 g4 g8 (hs:Bn w' base a img gl n c k bs) (hb:base≤w'.heap.size)=>oZ w' base a img gl n c k bs t g3 g4 g8 h1 h5 hs hk hn hj hbl hb)
 have HST:=qh h
 have IG:=qh hb
 have hnk:¬ ((n-k:Nat):Int)<1:=by omega
 have O9:=qh (decide_eq_false hnk)
 clear h1 h5 h hk hc hn hj hbl hb hnk
 obtain ⟨no,hno⟩:∃ x,k+1=x:=⟨_,rfl⟩
 rw [hno] at PH ⊢
 clear hno
 obtain ⟨lf,hlf⟩:∃ x,((n-k:Nat):Int)=x:=⟨_,rfl⟩
 rw [hlf] at JZ O9
 clear hlf
 obtain ⟨ka,kb,kB,kz⟩:=AP.two w #[.pointer (some ⟨a,0,none⟩)] #[.int .i64 t] 93 3
 go_enter Tryz.func121,Tryz.ntmps121
 go_upto_region 1 with fail
 generalize (w.alloc (.cells #[.pointer (some ⟨a,0,none⟩)] 93)).alloc (.cells #[.int .i64 t] 3)=w1 at *
 have jA:=qh ka
 have bU:=qh kb
 have HB1:=qh kB
 have I5:=qh (HST.out.below kB)
 obtain ⟨g4,hg4⟩:∃ q,w.heap.size+1=q:=⟨_,rfl⟩
 rw [hg4] at kb bU ⊢
 obtain ⟨g3,hg3⟩:∃ q,w.heap.size=q:=⟨_,rfl⟩
 have OP:=qh hg3
 rw [hg3] at ka jA ⊢
 have x3:w1.cell? ⟨g3,0,none⟩=some (.pointer (some ⟨a,0,none⟩)):=ka.at 0 _ rfl
 have x4:w1.cell? ⟨g4,0,none⟩=some (.int .i64 t):=kb.at 0 _ rfl
 clear ka kb kB kz hg3 hg4
 go_upto_region 5 with (first
  | (go_at_call 72;(with_reducible refine (Xp.out _ I5.out).mono ?_);rintro e w2 ⟨rfl,hw⟩;rw [hw];clear hw w2)
  | (go_at_call 183;(with_reducible refine (J4.out _).mono ?_);rintro e w2 ⟨rfl,hB⟩;have HB2:=qh hB;clear hB))
 rename World=>w2
 have jT:=qh (jA.out.below HB2.out jA.out.lt)
 have Tk:=qh (bU.out.below HB2.out bU.out.lt)
 have KF:=qh (I5.out.below HB2.out)
 clear x3 x4 jA bU
 go_cut [22] (fun s22 wx=>s22=.bool false∧Hid (Below w2.heap.size w2 wx))
 case first =>
  refine AF (T:=fun _=>false) (S:=fun w'=>Below w2.heap.size w2 w') (by kernel_rfl) (Below.refl w2.heap.size w2).drew (fun hHeld=>?_)
  obtain ⟨BM,hw0⟩:∃ x,w2.drew=x:=⟨_,rfl⟩
  rw [hw0] at hHeld ⊢
  have AJ:Below w2.heap.size w2 BM:=hHeld
  clear hHeld hw0
  refine qf 0 23 rfl rfl AJ (by intro w2' hSw;have x3:=(jT.out.below hSw jT.out.lt).at 0 _ rfl;go_simp;(try with_reducible rfl)) ?_
  refine qf 2 25 rfl rfl AJ (by intro w2' hSw;have x4:=(Tk.out.below hSw Tk.out.lt).at 0 _ rfl;go_simp;(try with_reducible rfl)) ?_
  refine qs 3 26 AJ ?_
  refine qs 4 27 AJ ?_
  refine qo 1 fun K hK=>?_
  go_simp
  refine (JZ.out BM (KF.out.below AJ)).mono ?_
  rintro e Bg ⟨rfl,Co⟩
  have AJ:=AJ.trans (Co.mono AJ.size)
  clear Co
  refine hK.out _ _ (fun _=>AJ) (fun Ji=>?_)
  clear hK K Ji
  (try simp only [Act.put,qS,qZ,qU])
  refine qo 5 fun K hK=>?_
  go_simp
  refine (TD.out Bg).mono ?_
  rintro e Cr ⟨rfl,Co⟩
  have AJ:=AJ.trans (Co.mono AJ.size)
  clear Co
  refine hK.out _ _ (fun _=>AJ) (fun Ji=>?_)
  clear hK K Ji
  (try simp only [Act.put,qS,qZ,qU])
  refine qs 6 29 AJ ?_
  refine qs 7 22 AJ ?_
  refine qd ?_
  have hlt:=O9.out
  go_wp2_with fail
  go_meet
  exact ⟨by rw [hlt],AJ⟩
 rename World=>w3
 obtain ⟨h22,HB3⟩:=hcut
 obtain rfl:=h22.symm
 clear h22
 go_upto_region 8 with fail
 have hb8:=AP.new w3 #[.nilIface] 40
 have KE:Below w3.heap.size w3 (w3.alloc (.cells #[.nilIface] 40)):=(Below.refl _ _).alloc (Nat.le_refl _) _
 generalize w3.alloc (.cells #[.nilIface] 40)=w4 at *
 have hs1:=HB1.out.size
 have hs2:=HB2.out.size
 have hs3:=HB3.out.size
 have M9:=qh (HB3.out.trans (KE.mono hs3))
 have ADY:=qh (jT.out.below M9.out jT.out.lt)
 have Tm:=qh (Tk.out.below M9.out Tk.out.lt)
 have ADZ:=qh (KF.out.below M9.out)
 have CL:=qh ((HB1.out.trans (HB2.out.mono hs1)).trans (M9.out.mono (by omega)))
 have bV:Hid (w.heap.size≤w3.heap.size):=by show _≤_;omega
 obtain ⟨g8,E5⟩:∃ q,w3.heap.size=q:=⟨_,rfl⟩
 rw [E5] at hb8 bV ⊢
 have ADa:=qh (PH.out w4 g3 g4 g8 ADZ.out (by have:=IG.out;have:=CL.out.size;omega) ADY.out Tm.out hb8)
 clear hb8 KE E5 jT Tk KF HB3 M9 PH Xp J4 TD JZ hs1 hs2 hs3
 go_wp2_with (go_at_call 184;(with_reducible refine ADa.out.mono ?_);rintro e w5 ⟨⟨gu,cu,rfl,rO⟩,hc8,ha5,Ja⟩;have HCU:=qh rO;have HC8:=qh hc8;have HA5:=qh ha5;have JA:=qh Ja;clear rO hc8 ha5 Ja)
 rename World=>w5
 have y8:=HC8.out
 have yu:=HCU.out
 go_loopw [10] (fun vu wr=>vu=.slice (some ⟨gu,0,none⟩) 1 cu∧wr=w5) (fun vu _=>1)
 case atStart=>exact ⟨rfl,rfl⟩
 case round =>
  obtain ⟨rfl,hwr⟩:=hrel
  rw [hwr]
  clear hwr wr
  go_wp2_with fail
  refine bodyPost_ret (v:=.tuple #[.int .i64 no,.nilIface]) (by simp [results,Tryz.results121,go_sem]) rfl ⟨rfl,HA5.out,?_⟩
  refine (Touch.of_below CL.out).trans' JA.out (fun x hx=>?_)
  rcases hx with hx|hx
  · exact .inl (C8 HST.out.2.1 CL.out x hx)
  · exact .inr (by rw [hx];exact bV.out)
end
end Go.Proofs.YtpenklpdjpkigaaGreat
