/- A part of the proof: WLay1, WLay2, WBits1, WBits2, WBitsPut. -/
import Derived.Test.YtpenklpdjpkigaaGreatX27
import Derived.Test.YtpenklpdjpkigaaGreatX17
import Derived.RegionTactic
import Derived.BigRegion
import Derived.Test.YtpenklpdjpkigaaGreatY1
set_option maxHeartbeats 6400000
set_option linter.unusedVariables false
set_option linter.unusedSimpArgs false
namespace Go.Proofs.YtpenklpdjpkigaaGreat
section
open Go.RowKit Go.Shelf
theorem MU (bs:List UInt8) (k:Int) (b:List UInt8):(Jm bs k b).length=bs.length:=by
 unfold Jm
 split
 · rename_i h
   simp only [List.length_append,List.length_take,List.length_drop]
   omega
 · rfl
theorem Tn (w:World):Calls Tryz.prog 40 #[.nilIface] w fun e w'=>e=.returned (.tuple #[])∧w'=w:=by
 go_enter Tryz.func40,Tryz.ntmps40
 go_wp2
 (try simp only [Exit.inBlock,Exit.then])
 first
  | (refine bodyPost_ret (results_none rfl _ _ _) rfl ⟨rfl,rfl⟩)
  | (refine bodyPost_end (results_none rfl _ _ _) rfl ⟨rfl,rfl⟩)
def Dq (bs:List UInt8) (k:Nat) (t:Int):List UInt8:=Jm bs ((k+1:Nat):Int) (Bq 2 (k+1) (EB t))
theorem Dh (bs:List UInt8) (k:Nat) (t:Int):(Dq bs k t).length=bs.length:=MU _ _ _
set_option maxRecDepth 100000 in
theorem Vg (w:World) (base a img gl n c k:Nat) (bs:List UInt8) (t:Int) (h1:1≤t) (h5:t≤5) (h:Bn w base a img gl n c k bs) (hk:k<n) (hc:n≤c) (hn:n≤14000) (hj:(k+1)*256+256≤bs.length) (hbl:bs.length≤3686400) (hb:base≤w.heap.size) :
 Calls Tryz.prog 111 #[.agg #[.pointer (some ⟨a,0,none⟩)],.int .i64 t,.slice none 0 0] w fun e w'=>e=.returned (.int .i64 ((k+1:Nat):Int))∧Bn w' base a img gl n c (k+1) (Dq bs k t)∧Touch (Cg w a img) w w':=by
 have hB1:Below w.heap.size w (w.alloc (.cells #[.pointer (some ⟨a,0,none⟩)] 98)):=(Below.refl _ _).alloc (Nat.le_refl _) _
 have hbx:=AP.new w #[.pointer (some ⟨a,0,none⟩)] 98
 have PH:=qh (fun w' (hB:Below w.heap.size w w')=>rP w' base a img gl n c k bs t h1 h5 (h.below hB) hk hc hn hj hbl (by have:=hB.size;omega))
 have rQ:=qh (fun w'=>Tn w')
 have QZ:=qh h.2.1
 unfold Dq
 clear h1 h5 h hk hc hn hj hbl hb
 obtain ⟨no,hno⟩:∃ x,k+1=x:=⟨_,rfl⟩
 rw [hno] at PH ⊢
 clear hno
 go_enter Tryz.func111,Tryz.ntmps111
 go_upto_region 1 with fail
 generalize w.alloc (.cells #[.pointer (some ⟨a,0,none⟩)] 98)=w1 at *
 have x0:w1.cell? ⟨w.heap.size,0,none⟩=some (.pointer (some ⟨a,0,none⟩)):=hbx.at 0 _ rfl
 have HB1:=qh hB1
 have ADb:=qh (PH.out w1 hB1)
 clear hbx hB1
 go_wp2_with (first
  | (go_at_call 121;(with_reducible refine ADb.out.mono ?_);rintro e w2 ⟨rfl,ha,hT⟩;have HA:=qh ha;have HT:=qh hT;clear ha hT)
  | (go_at_call 40;(with_reducible refine (rQ.out _).mono ?_);rintro e w3 ⟨rfl,hw⟩;rw [hw];clear hw w3))
 refine bodyPost_ret (v:=.int .i64 no) (by simp [results,Tryz.results111,go_sem]) rfl ⟨rfl,HA.out,(Touch.of_below HB1.out).trans (HT.out.weak (C8 QZ.out HB1.out))⟩
theorem GN {w w':World} {base a img:Nat} {bs:List UInt8} (h:Bo w base img bs) (hT:Touch (Cg w a img) w w') (hc:img≠a):∀ x,Cg w' a img x→Cg w a img x:=by
 obtain ⟨A,c,h1,h2⟩:=h.QM
 have hni:¬ Cg w a img img:=by
  rintro (e|hx)
  · exact hc e
  · obtain ⟨cs,hx,-⟩:=JR h img hx
    obtain ⟨h0,A',c',q1,q2⟩:=h
    have q1':w.heap[img]? = some _:=q1
    rw [hx] at q1'
    injection q1' with q1'
    injection q1' with _ q1'
    exact absurd q1' (by decide)
 intro x hx
 rcases hx with hx|⟨v,hv,hx⟩
 · exact .inl hx
 · rw [(World.cell?_of_block (a:=⟨img,0,none⟩) (hT.block h2 hni)).trans h1] at hv
   exact .inr ⟨_,h1,by injection hv with hv;rw [hv];exact hx⟩
theorem Bn.Y3 {w:World} {base a img gl n c k:Nat} {bs:List UInt8} (h:Bn w base a img gl n c k bs):img≠a:=fun e=>by
 obtain ⟨p1,⟨q0,A,cc,q1,q2⟩,-⟩:=h
 subst e
 have r1:w.heap[img]? = some _:=p1
 have r2:w.heap[img]? = some _:=q1
 rw [r1] at r2
 injection r2 with r2
 injection r2 with _ r2
 exact absurd r2 (by decide)
set_option maxRecDepth 100000 in
theorem jU (w:World) (base a img gl n c k:Nat) (bs:List UInt8) (h:Bn w base a img gl n c k bs) (hk:k+1<n) (hc:n≤c) (hn:n≤14000) (hj:(k+2)*256+256≤bs.length) (hbl:bs.length≤3686400) (hb:base≤w.heap.size) :
 Calls Tryz.prog 73 #[.agg #[.pointer (some ⟨a,0,none⟩)],.slice none 0 0] w fun e w'=>e=.returned (.tuple #[.int .i64 ((k+1:Nat):Int),.int .i64 ((k+2:Nat):Int)])∧Bn w' base a img gl n c (k+2) (Dq (Dq bs k 1) (k+1) 3)∧Touch (Cg w a img) w w':=by
 have hB1:Below w.heap.size w (w.alloc (.cells #[.pointer (some ⟨a,0,none⟩)] 98)):=(Below.refl _ _).alloc (Nat.le_refl _) _
 have hbx:=AP.new w #[.pointer (some ⟨a,0,none⟩)] 98
 have HT1:=qh (Vg _ base a img gl n c k bs 1 (by omega) (by omega) (h.below hB1) (by omega) hc hn (by omega) hbl (by have:=hB1.size;omega))
 have HT2:=qh (fun w' (hs:Bn w' base a img gl n c (k+1) (Dq bs k 1)) (hb:base≤w'.heap.size)=>Vg w' base a img gl n c (k+1) (Dq bs k 1) 3 (by omega) (by omega) hs hk hc hn (by rw [Dh];omega) (by rw [Dh];exact hbl) hb)
 have QZ:=qh h.2.1
 have ET:=qh h.Y3
 have HH:=qh h
 have IG:=qh hb
 clear h hk hc hn hj hbl hb
 obtain ⟨n1,hn1⟩:∃ x,k+1=x:=⟨_,rfl⟩
 obtain ⟨n2,hn2⟩:∃ x,n1+1=x:=⟨_,rfl⟩
 have fQ:k+2=n2:=by omega
 rw [hn1] at HT1 HT2
 rw [hn2] at HT2
 rw [fQ,hn1]
 clear hn1 hn2 fQ
 go_enter Tryz.func73,Tryz.ntmps73
 go_upto_region 1 with fail
 generalize w.alloc (.cells #[.pointer (some ⟨a,0,none⟩)] 98)=w1 at *
 have HB1:=qh hB1
 have HX:=qh hbx
 clear hB1 hbx
 go_wp2_with fail
 have I5:=qh (HH.out.below HB1.out)
 have Lp:=qh (Dp I5.out HX.out (by decide) (by decide))
 go_loopw [6,7,15] (fun v6 v7 vi wr=>v6=.slice none 0 0∧v7=.slice none 0 0∧vi=.int .i64 0∧wr=w1) (fun _ _ vi _=>1)
 case atStart=>exact ⟨rfl,rfl,rfl,rfl⟩
 case round =>
  obtain ⟨rfl,rfl,rfl,hwr⟩:=hrel
  rw [hwr]
  clear hwr wr
  have x0:w1.cell? ⟨w.heap.size,0,none⟩=some (.pointer (some ⟨a,0,none⟩)):=HX.out.at 0 _ rfl
  go_upto_region 11 with (go_at_call 111;(with_reducible refine HT1.out.mono ?_);rintro e w2 ⟨rfl,ha,hT⟩;have HA:=qh ha;have HT:=qh hT;clear ha hT)
  rename World=>w2
  have hx2:AP w2 w.heap.size #[.pointer (some ⟨a,0,none⟩)] 98:=(HT.out.block HX.out.lt Lp.out).trans HX.out
  have x2:w2.cell? ⟨w.heap.size,0,none⟩=some (.pointer (some ⟨a,0,none⟩)):=hx2.at 0 _ rfl
  clear hx2
  have HT3:=qh (HT2.out w2 HA.out (by have:=IG.out;have:=HB1.out.size;have:=HT.out.size;omega))
  clear x0 HT1 HT2
  go_wp2_with (go_at_call 111;(with_reducible refine HT3.out.mono ?_);rintro e w3 ⟨rfl,ha,hT⟩;have HA3:=qh ha;have mE:=qh hT;clear ha hT)
  have t1:Touch (Cg w a img) w w2:=(Touch.of_below HB1.out).trans (HT.out.weak (C8 QZ.out HB1.out))
  refine bodyPost_ret (v:=.tuple #[.int .i64 n1,.int .i64 n2]) (by simp [results,Tryz.results73,go_sem]) rfl ⟨rfl,HA3.out,t1.trans (mE.out.weak (GN QZ.out t1 ET.out))⟩
end
section
open Go.RowKit Go.Shelf
theorem vZ (w:World):(Instr.makeSlice 29 (.int .i64 8) (.int .i64 8)).run Tryz.prog w=.ok (.slice (some ⟨w.heap.size,0,none⟩) 8 8) (w.alloc (.cells #[.int .i64 0,.int .i64 0,.int .i64 0,.int .i64 0,.int .i64 0,.int .i64 0,.int .i64 0,.int .i64 0] 3)):=by
 have h:=run_make_row' (P:=Tryz.prog) 29 3 (.int .i64 0) 8 Tryz.underlying29 (by kernel_rfl) rfl .i64 .i64 8 (by omega) (by omega) w
 have hmz:(madeCells #[Value.int .i64 0] 8)=#[.int .i64 0,.int .i64 0,.int .i64 0,.int .i64 0,.int .i64 0,.int .i64 0,.int .i64 0,.int .i64 0]:=by kernel_rfl
 rw [hmz] at h
 exact h
def Ea (i:Nat):List Int:=List.replicate i 1++List.replicate (8-i) 0
def IL (i:Nat):Array Value:=((Ea i).map fun x=>Value.int .i64 x).toArray
theorem bW:IL 0=#[.int .i64 0,.int .i64 0,.int .i64 0,.int .i64 0,.int .i64 0,.int .i64 0,.int .i64 0,.int .i64 0]:=rfl
theorem jV {i:Nat} (h:i<8):(IL i).setIfInBounds i (.int .i64 1)=IL (i+1):=by
 rcases (show i=0∨i=1∨i=2∨i=3∨i=4∨i=5∨i=6∨i=7 by omega) with rfl|rfl|rfl|rfl|rfl|rfl|rfl|rfl <;> rfl
theorem og {i:Nat} (h:i<8):(IL i)[i]? = some (.int .i64 0):=by
 rcases (show i=0∨i=1∨i=2∨i=3∨i=4∨i=5∨i=6∨i=7 by omega) with rfl|rfl|rfl|rfl|rfl|rfl|rfl|rfl <;> rfl
set_option maxRecDepth 100000 in
theorem bX (w:World) (base a img gl n c k:Nat) (bs:List UInt8) (h:Bn w base a img gl n c k bs) (hl:bs.length=2048) (hk:k≤7) :
 Calls Tryz.prog 77 #[.agg #[.pointer (some ⟨a,0,none⟩)]] w fun e w'=>(∃ g,e=.returned (.slice (some ⟨g,0,none⟩) 8 8)∧w.heap.size≤g∧AP w' g (IL (k+1)) 3)∧Below w.heap.size w w':=by
 have hB1:Below w.heap.size w (w.alloc (.cells #[.pointer (some ⟨a,0,none⟩)] 98)):=(Below.refl _ _).alloc (Nat.le_refl _) _
 have hbx:=AP.new w #[.pointer (some ⟨a,0,none⟩)] 98
 have Xp:=qh (fun w' (hs:Bn w' base a img gl n c k bs)=>MS w' a img n c _ _ hs.1)
 have p9:=qh (fun w' (hs:Bn w' base a img gl n c k bs)=>vU w' a img n c _ _ hs.1)
 have IX:Hid (∀ w',Bn w' base a img gl n c k bs→Calls Tryz.prog 42 #[.pointer (some ⟨img,0,none⟩)] w' fun e w''=>e=.returned (.int .i64 8)∧w''=w'):=fun w' hs=>by
  obtain ⟨A,cc,h1,-⟩:=hs.2.1.QM
  have h9:=CR w' img A bs.length cc h1 (by rw [hl];decide)
  rw [hl] at h9
  refine h9.mono ?_
  rintro e w2 ⟨rfl,hw⟩
  exact ⟨rfl,hw.symm⟩
 have HST:=qh h
 have hk1:(k:Int)+1≤8:=by omega
 clear h hl
 go_enter Tryz.func77,Tryz.ntmps77
 go_upto_region 1 with fail
 generalize w.alloc (.cells #[.pointer (some ⟨a,0,none⟩)] 98)=w1 at *
 have HB1:=qh hB1
 have HX:=qh hbx
 have x0:w1.cell? ⟨w.heap.size,0,none⟩=some (.pointer (some ⟨a,0,none⟩)):=hbx.at 0 _ rfl
 have I5:=qh (HST.out.below HB1.out)
 have hmk:=vZ w1
 clear hB1 hbx
 go_upto_region 2 with (first
  | (go_at_call 72;(with_reducible refine (Xp.out _ I5.out).mono ?_);rintro e w2 ⟨rfl,hw⟩;rw [hw];clear hw w2)
  | (go_at_call 42;(with_reducible refine (IX.out _ I5.out).mono ?_);rintro e w2 ⟨rfl,hw⟩;rw [hw];clear hw w2))
 have hby:=AP.new w1 #[.int .i64 0,.int .i64 0,.int .i64 0,.int .i64 0,.int .i64 0,.int .i64 0,.int .i64 0,.int .i64 0] 3
 have vY:Below w1.heap.size w1 (w1.alloc (.cells #[.int .i64 0,.int .i64 0,.int .i64 0,.int .i64 0,.int .i64 0,.int .i64 0,.int .i64 0,.int .i64 0] 3)):=(Below.refl _ _).alloc (Nat.le_refl _) _
 generalize w1.alloc (.cells #[.int .i64 0,.int .i64 0,.int .i64 0,.int .i64 0,.int .i64 0,.int .i64 0,.int .i64 0,.int .i64 0] 3)=w2 at *
 rw [← bW] at hby
 have hs1:=HB1.out.size
 have HB2:=qh (HB1.out.trans (vY.mono hs1))
 have KF:=qh (I5.out.below vY)
 have hx2:AP w2 w.heap.size #[.pointer (some ⟨a,0,none⟩)] 98:=HX.out.below vY HX.out.lt
 have x2:w2.cell? ⟨w.heap.size,0,none⟩=some (.pointer (some ⟨a,0,none⟩)):=hx2.at 0 _ rfl
 have Ux:Hid (w.heap.size≤w1.heap.size):=hs1
 obtain ⟨g,hg⟩:∃ q,w1.heap.size=q:=⟨_,rfl⟩
 rw [hg] at hby Ux ⊢
 have We:=qh hby
 clear x0 hmk hby vY hg hx2 HX Xp IX I5 HST
 go_wp2_with (go_at_call 132;(with_reducible refine (p9.out _ KF.out).mono ?_);rintro e w3 ⟨rfl,hw⟩;rw [hw];clear hw w3)
 go_loopw [14] (fun vi wr=>∃ i:Nat,vi=.int .i64 i∧i≤k+1∧Hid (Below w.heap.size w wr)∧Hid (AP wr g (IL i) 3)) (fun vi _=>k+1-(intOf vi).toNat)
 case atStart=>exact ⟨0,rfl,by omega,HB2,We⟩
 case round =>
  obtain ⟨i,rfl,hi,Cy,HXr⟩:=hrel
  by_cases hlt:i<k+1
  · have hil:(i:Int)<(k:Int)+1:=by omega
    have hi8:(i:Int)<8:=by omega
    have HI8:Hid (i<8):=by show _<_;omega
    have z0:wr.cell? ⟨g,i,none⟩=some (.int .i64 0):=HXr.out.at i _ (og HI8.out)
    have f0:=HXr.out.free i
    have hgl:=HXr.out.lt
    go_wp2_with fail
    have Rq:Hid (AP (wr.setCell ⟨g,i,none⟩ (.int .i64 1)) g (IL (i+1)) 3):=by
     have:=HXr.out.set i (.int .i64 1)
     rw [jV HI8.out] at this
     exact this
    have TK:Hid (Below w.heap.size w (wr.setCell ⟨g,i,none⟩ (.int .i64 1))):=Cy.out.trans ((Touch.Dc (R:=fun x=>x=g) (p:=⟨g,i,none⟩) rfl).below (fun x e=>by rw [e];exact Ux.out) Cy.out.size)
    clear z0 f0 hgl
    go_roundw
    case rel=>exact ⟨i+1,by go_num,by omega,TK,Rq⟩
    case measure=>simp [intOf];omega
  · obtain rfl:i=k+1:=by omega
    go_wp2_with fail
    refine bodyPost_ret (v:=.slice (some ⟨g,0,none⟩) 8 8) (by simp [results,Tryz.results77,go_sem]) rfl ⟨⟨g,rfl,Ux.out,HXr.out⟩,Cy.out⟩
end
section
open Go.RowKit Go.Shelf
set_option maxRecDepth 100000 in
theorem bY (w:World) (g off n c:Nat) (f:Nat→Int) (hf:∀ i,i<n→w.cell? ⟨g,off+i,none⟩=some (.int .i64 (f i))∧f i≠0) (hn:n≤1000000) :
 Calls Tryz.prog 181 #[.slice (some ⟨g,off,none⟩) n c] w fun e w'=>e=.returned (.tuple #[.int .i64 0,.int .i64 n])∧w'=w:=by
 have HF:=qh hf
 clear hf
 go_enter Tryz.func181,Tryz.ntmps181
 go_wp2_with fail
 go_loopw [4,5,12] (fun v4 v5 vi wr=>(∃ i:Nat,vi=.int .i64 i∧i≤n∧v4=.int .i64 0∧v5=.int .i64 n)∧wr=w) (fun _ _ vi _=>n-(intOf vi).toNat)
 case atStart=>exact ⟨⟨0,rfl,Nat.zero_le _,rfl,rfl⟩,rfl⟩
 case round =>
  obtain ⟨⟨i,rfl,hi,rfl,rfl⟩,hwr⟩:=hrel
  rw [hwr]
  clear hwr wr
  by_cases hlt:i<n
  · have hil:(i:Int)<(n:Int):=by omega
    obtain ⟨x0,hne⟩:=HF.out i hlt
    obtain ⟨u,hu⟩:∃ u,f i=u:=⟨_,rfl⟩
    rw [hu] at x0 hne
    have hnb:(u != 0)=true:=by rw [bne_iff_ne];exact hne
    clear hne hu
    go_wp2_with fail
    go_roundw
    case rel=>exact ⟨⟨i+1,by go_num,by omega,rfl,rfl⟩,by trivial⟩
    case measure=>simp [intOf];omega
  · obtain rfl:i=n:=by omega
    go_wp2_with fail
    refine bodyPost_ret (v:=.tuple #[.int .i64 0,.int .i64 i]) (by simp [results,Tryz.results181,go_sem]) rfl ⟨rfl,rfl⟩
theorem jW (w:World):Calls Tryz.prog 126 #[.int .i64 8] w fun e w'=>e=.returned (.int .i64 1)∧w'=w:=by
 go_enter Tryz.func126,Tryz.ntmps126
 go_wp2
 go_ret
 exact ⟨rfl,rfl⟩
theorem jX (w:World):Calls Tryz.prog 126 #[.int .i64 0] w fun e w'=>e=.returned (.int .i64 0)∧w'=w:=by
 go_enter Tryz.func126,Tryz.ntmps126
 go_wp2
 go_ret
 exact ⟨rfl,rfl⟩
end
section
open Go.RowKit Go.Shelf
theorem jY (w:World):Calls Tryz.prog 217 #[.int .i64 1] w fun e w'=>e=.returned (.bool false)∧w'=w:=by
 go_enter Tryz.func217,Tryz.ntmps217
 go_wp2
 go_ret
 exact ⟨rfl,rfl⟩
set_option maxRecDepth 100000 in
theorem Xq (w:World) (g off n c:Nat) (hf:∀ i,i<n→w.cell? ⟨g,off+i,none⟩=some (.int .i64 1)) (hn:n≤1000000) :
 Calls Tryz.prog 172 #[.slice (some ⟨g,off,none⟩) n c,.func (.func 217) #[] #[]] w fun e w'=>e=.returned (.int .i64 (-1))∧w'=w:=by
 have HF:=qh hf
 have HA:=qh (fun w=>jY w)
 clear hf
 go_enter Tryz.func172,Tryz.ntmps172
 go_wp2_with fail
 go_loopw [8] (fun vi wr=>(∃ k:Nat,vi=.int .i64 k∧k≤n)∧wr=w) (fun vi _=>n-(intOf vi).toNat)
 case atStart=>exact ⟨⟨0,rfl,by omega⟩,rfl⟩
 case round =>
  obtain ⟨⟨k,rfl,hk⟩,hwr⟩:=hrel
  rw [hwr]
  clear hwr wr
  by_cases hlt:k<n
  · have hil:(k:Int)<(n:Int):=by omega
    have c0:=HF.out k hlt
    go_wp2_with (go_at_call 217;(with_reducible refine (HA.out _).mono ?_);rintro e w3 ⟨rfl,hw⟩;rw [hw];clear hw w3)
    go_roundw
    case rel=>exact ⟨⟨k+1,by go_num,by omega⟩,by trivial⟩
    case measure=>simp [intOf];omega
  · obtain rfl:k=n:=by omega
    go_wp2_with fail
    go_ret
    exact ⟨rfl,rfl⟩
theorem jZ (w:World) (g off n c:Nat) (hf:∀ i,i<n→w.cell? ⟨g,off+i,none⟩=some (.int .i64 1)) (hn:n≤1000000) :
 Calls Tryz.prog 107 #[.slice (some ⟨g,off,none⟩) n c,.func (.func 217) #[] #[]] w fun e w'=>e=.returned (.bool false)∧w'=w:=by
 have HI:=qh (Xq w g off n c hf hn)
 clear hf hn
 go_enter Tryz.func107,Tryz.ntmps107
 go_wp2_with (go_at_call 172;(with_reducible refine HI.out.mono ?_);rintro e w3 ⟨rfl,hw⟩;rw [hw];clear hw w3)
 go_ret
 exact ⟨rfl,rfl⟩
end
section
open Go.RowKit Go.Shelf
def Fq:List UInt8:=[8,0,0,0,85,85]++List.replicate 238 0
def Df (x y:Int):List Value:=[.int .u8 8,.int .u8 0,.int .u8 0,.int .u8 0,.int .u8 x,.int .u8 y]++List.replicate 238 (Value.int .u8 0)
theorem bZ:Df 85 85=AB Au Fq:=by kernel_rfl
theorem ja:splice FT 0 (AB Au (BB [(4,8)]))=Df 0 0:=by kernel_rfl
theorem AA3 (x y z:Int):((Df x y).toArray).setIfInBounds 4 (.int .u8 z)=(Df z y).toArray:=by rw [List.setIfInBounds_toArray];rfl
theorem AA4 (x y z:Int):((Df x y).toArray).setIfInBounds 5 (.int .u8 z)=(Df x z).toArray:=by rw [List.setIfInBounds_toArray];rfl
theorem ADc (x y:Int):((Df x y).toArray)[4]? = some (.int .u8 x):=by rw [List.getElem?_toArray];rfl
theorem ADd (x y:Int):((Df x y).toArray)[5]? = some (.int .u8 y):=by rw [List.getElem?_toArray];rfl
def bx (i:Nat):Int:=match i with|0=>0|1=>1|2=>5|3=>21|_=>85
def NA (i:Nat):Int:=match i with|0=>0|1=>0|2=>0|3=>0|4=>0|5=>1|6=>5|7=>21|_=>85
theorem bf:∀ f∈([(4,8)]:List (Nat × Int)),FX f:=by
 intro f hf
 simp only [List.mem_cons,List.not_mem_nil,or_false] at hf
 subst hf
 exact ⟨.inr (.inr (.inl rfl)),by decide,by decide,.inr (by decide)⟩
theorem oh (w:World):Calls Tryz.prog 135 #[.slice (some ⟨w.heap.size,0,none⟩) 1 1] (w.alloc (.cells #[.int .i64 4,.int .i64 8] 249)) fun e w'=>(∃ A c,e=.returned (.tuple #[.slice A 4 c,.int .i64 0])∧w'.ownsRow w.heap.size 5 1 (.slice A 4 c) 4 (AB Au (BB [(4,8)])))∧Below w.heap.size w w':=by
 have b16:=heap_alloc_new w (.cells #[.int .i64 4,.int .i64 8] 249)
 have h9:=J6 (w.alloc (.cells #[.int .i64 4,.int .i64 8] 249)) _ (.slice (some ⟨w.heap.size,0,none⟩) 1 1) [(4,8)] (fun b hb=>hb) (LV (fs:=[(4,8)]) b16 (by decide)) bf (by decide)
 refine h9.mono ?_
 rintro e w' ⟨⟨A,c,rfl,ho⟩,hB⟩
 have hB1:Below w.heap.size w (w.alloc (.cells #[.int .i64 4,.int .i64 8] 249)):=(Below.refl _ _).alloc (Nat.le_refl _) _
 exact ⟨⟨A,c,rfl,ho.mono hB1.size⟩,hB1.trans (hB.mono hB1.size)⟩
set_option maxRecDepth 100000 in
theorem jb (w:World) (g c:Nat) (hg:g<w.heap.size) (hf:∀ i,i<8→w.cell? ⟨g,i,none⟩=some (.int .i64 1)) :
 Calls Tryz.prog 180 #[.slice (some ⟨g,0,none⟩) 8 c] w fun e w'=>(∃ A c,e=.returned (.tuple #[.slice A 244 c,.int .i64 0])∧w'.ownsRow w.heap.size 5 1 (.slice A 244 c) 244 (AB Au Fq))∧Below w.heap.size w w':=by
 have xV:Hid (Calls Tryz.prog 107 #[.slice (some ⟨g,0,none⟩) 8 c,.func (.func 217) #[] #[]] w fun e w'=>e=.returned (.bool false)∧w'=w):=jZ w g 0 8 c (fun i hi=>by rw [Nat.zero_add];exact hf i hi) (by decide)
 have Wl:=qh (oh w)
 have rR:Hid (∀ w',Below w.heap.size w w'→∀ i,i<8→w'.cell? ⟨g,i,none⟩=some (.int .i64 1)):=fun w' hB i hi=>AQ hB hg (hf i hi)
 clear hf hg
 go_enter Tryz.func180,Tryz.ntmps180
 go_upto_region 4 with (first
  | (go_at_call 107;(with_reducible refine xV.out.mono ?_);rintro e w2 ⟨rfl,hw⟩;rw [hw];clear hw w2)
  | (go_at_call 135;(with_reducible refine Wl.out.mono ?_);rintro e w2 ⟨⟨A4,c4,rfl,oW⟩,hB2⟩;obtain ⟨g6,hA6,-,-,-⟩:=CG oW (by omega);subst hA6;have dW:=qh oW;have HB2:=qh hB2;clear oW hB2))
 rename World=>w2
 have hmk:=TZ w2
 clear xV Wl
 go_upto_region 5 with fail
 have G8:=AP.new w2 FT.toArray 5
 have Ff:Below w2.heap.size w2 (w2.alloc (.cells FT.toArray 5)):=(Below.refl _ _).alloc (Nat.le_refl _) _
 generalize w2.alloc (.cells FT.toArray 5)=w7 at *
 obtain ⟨g8,E5⟩:∃ g,w2.heap.size=g:=⟨_,rfl⟩
 have Ew:=qh (HB2.out.trans (Ff.mono HB2.out.size))
 have Ga:Hid (∀ j u,(AB Au (BB [(4,8)]))[j]? = some u→w7.cell? ((⟨g6,0,none⟩:Addr).add j)=some u):=by
  obtain ⟨g9,e9,-,-,kV⟩:=CG (own_below dW.out Ff (Nat.le_refl _)) (by omega)
  injection e9 with e9
  injection e9 with e9
  subst e9
  exact kV
 rw [E5] at G8 ⊢
 have gF:Hid (w7.heap[g8]? = some (.cells FT.toArray 5 (0,0))):=G8
 have kN:Hid (w.heap.size≤g8):=by show _≤_;have:=HB2.out.size;omega
 have Jn:Hid ((AB Au (BB [(4,8)])).length=4):=by show _=_;rfl
 have rJ:Hid (FT.length=244):=MM
 have Ri:Hid (splice FT 0 (AB Au (BB [(4,8)]))=Df 0 0):=ja
 have HON:=qh (Dr (BB [(4,8)]))
 generalize AB Au (BB [(4,8)])=pk at *
 clear G8 Ff E5 hmk HB2
 go_upto_region 6 with ((with_reducible refine wpList_copy_splice ?_ (.tmp 25) (.tmp 26) 22 22 ?_ 5 Tryz.underlying22 l9 (some ⟨g8,0,none⟩) (some ⟨g6,0,none⟩) 244 244 4 c4 ?_ ?_ g8 0 FT 5 gF.out pk ?_ ?_ ?_ ?_ g8 w7 (Below.refl _ _) (Nat.le_refl _) ?_);rfl;rfl;rfl;rfl;exact Jn.out;(intro h0;exact ⟨rfl,_,rfl,Ga.out⟩);(rw [Jn.out,rJ.out];decide);exact HON.out;(intro w8 E5 KE;have Gl:=qh E5.out;have KZ:=qh KE;clear KE E5))
 rename World=>w8
 have yC:Hid (AP w8 g8 (Df 0 0).toArray 5):=by
  have h:=Gl.out
  rw [Ri.out] at h
  exact h
 have vR:Hid (Below w.heap.size w w8):=Ew.out.trans (KZ.out.mono kN.out)
 clear gF Gl Ga Jn rJ Ri Ew KZ HON dW
 go_upto_region 7 with fail
 go_loopw [30] (fun vi wr=>∃ i:Nat,vi=.int .i64 i∧i≤8∧Hid (Below w.heap.size w wr)∧Hid (AP wr g8 (Df (bx i) (NA i)).toArray 5)) (fun vi _=>8-(intOf vi).toNat)
 case atStart=>exact ⟨0,rfl,by omega,vR,yC⟩
 case round =>
  obtain ⟨i,rfl,hi,HB,HX⟩:=hrel
  have z4:wr.cell? ⟨g8,4,none⟩=some (.int .u8 (bx i)):=HX.out.at 4 _ (ADc _ _)
  have z5:wr.cell? ⟨g8,5,none⟩=some (.int .u8 (NA i)):=HX.out.at 5 _ (ADd _ _)
  have f4:=HX.out.free 4
  have f5:=HX.out.free 5
  have hlt:=HX.out.lt
  have oM:Hid (∀ u,AP (wr.setCell ⟨g8,4,none⟩ (.int .u8 u)) g8 (Df u (NA i)).toArray 5):=fun u=>by have h:=HX.out.set 4 (.int .u8 u);rw [AA3] at h;exact h
  have vQ:Hid (∀ u,AP (wr.setCell ⟨g8,5,none⟩ (.int .u8 u)) g8 (Df (bx i) u).toArray 5):=fun u=>by have h:=HX.out.set 5 (.int .u8 u);rw [AA4] at h;exact h
  have dX:Hid (∀ o u,Below w.heap.size w (wr.setCell ⟨g8,o,none⟩ u)):=fun o u=>HB.out.trans ((Touch.Dc (R:=fun x=>x=g8) (p:=⟨g8,o,none⟩) rfl).below (fun x e=>by rw [e];exact kN.out) HB.out.size)
  rcases (show i=0∨i=1∨i=2∨i=3∨i=4∨i=5∨i=6∨i=7∨i=8 by omega) with rfl|rfl|rfl|rfl|rfl|rfl|rfl|rfl|rfl
  · have x0:=rR.out wr HB.out 0 (by decide)
    rw [show ((0:Nat):Int)=0 from rfl]
    go_upto_region 9 with fail
    go_region
    obtain ⟨V,hV⟩:∃ V,(wr.setCell ⟨g8,4,none⟩ (.int .u8 (bits BinOp.or .u8 (bx 0) 1))).drew=V:=⟨_,rfl⟩
    have Xr:Hid (Below w.heap.size w V):=by rw [← hV];exact (dX.out _ _).drew
    have M3:Hid (AP V g8 (Df (bx 1) (NA 1)).toArray 5):=by
     rw [← hV,show bits BinOp.or .u8 (bx 0) 1=bx 1 from by decide]
     exact oM.out (bx 1)
    rw [hV]
    clear hV z4 z5 f4 f5 hlt x0
    go_wp2_with fail
    go_roundw
    case rel=>exact ⟨1,rfl,by omega,Xr,M3⟩
    case measure=>simp [intOf]
  · have x0:=rR.out wr HB.out 1 (by decide)
    rw [show ((1:Nat):Int)=1 from rfl]
    go_upto_region 9 with fail
    go_region
    obtain ⟨V,hV⟩:∃ V,(wr.setCell ⟨g8,4,none⟩ (.int .u8 (bits BinOp.or .u8 (bx 1) 4))).drew=V:=⟨_,rfl⟩
    have Xr:Hid (Below w.heap.size w V):=by rw [← hV];exact (dX.out _ _).drew
    have M3:Hid (AP V g8 (Df (bx 2) (NA 2)).toArray 5):=by
     rw [← hV,show bits BinOp.or .u8 (bx 1) 4=bx 2 from by decide]
     exact oM.out (bx 2)
    rw [hV]
    clear hV z4 z5 f4 f5 hlt x0
    go_wp2_with fail
    go_roundw
    case rel=>exact ⟨2,rfl,by omega,Xr,M3⟩
    case measure=>simp [intOf]
  · have x0:=rR.out wr HB.out 2 (by decide)
    rw [show ((2:Nat):Int)=2 from rfl]
    go_upto_region 9 with fail
    go_region
    obtain ⟨V,hV⟩:∃ V,(wr.setCell ⟨g8,4,none⟩ (.int .u8 (bits BinOp.or .u8 (bx 2) 16))).drew=V:=⟨_,rfl⟩
    have Xr:Hid (Below w.heap.size w V):=by rw [← hV];exact (dX.out _ _).drew
    have M3:Hid (AP V g8 (Df (bx 3) (NA 3)).toArray 5):=by
     rw [← hV,show bits BinOp.or .u8 (bx 2) 16=bx 3 from by decide]
     exact oM.out (bx 3)
    rw [hV]
    clear hV z4 z5 f4 f5 hlt x0
    go_wp2_with fail
    go_roundw
    case rel=>exact ⟨3,rfl,by omega,Xr,M3⟩
    case measure=>simp [intOf]
  · have x0:=rR.out wr HB.out 3 (by decide)
    rw [show ((3:Nat):Int)=3 from rfl]
    go_upto_region 9 with fail
    go_region
    obtain ⟨V,hV⟩:∃ V,(wr.setCell ⟨g8,4,none⟩ (.int .u8 (bits BinOp.or .u8 (bx 3) 64))).drew=V:=⟨_,rfl⟩
    have Xr:Hid (Below w.heap.size w V):=by rw [← hV];exact (dX.out _ _).drew
    have M3:Hid (AP V g8 (Df (bx 4) (NA 4)).toArray 5):=by
     rw [← hV,show bits BinOp.or .u8 (bx 3) 64=bx 4 from by decide]
     exact oM.out (bx 4)
    rw [hV]
    clear hV z4 z5 f4 f5 hlt x0
    go_wp2_with fail
    go_roundw
    case rel=>exact ⟨4,rfl,by omega,Xr,M3⟩
    case measure=>simp [intOf]
  · have x0:=rR.out wr HB.out 4 (by decide)
    rw [show ((4:Nat):Int)=4 from rfl]
    go_upto_region 9 with fail
    go_region
    obtain ⟨V,hV⟩:∃ V,(wr.setCell ⟨g8,5,none⟩ (.int .u8 (bits BinOp.or .u8 (NA 4) 1))).drew=V:=⟨_,rfl⟩
    have Xr:Hid (Below w.heap.size w V):=by rw [← hV];exact (dX.out _ _).drew
    have M3:Hid (AP V g8 (Df (bx 5) (NA 5)).toArray 5):=by
     rw [← hV,show bits BinOp.or .u8 (NA 4) 1=NA 5 from by decide]
     exact vQ.out (NA 5)
    rw [hV]
    clear hV z4 z5 f4 f5 hlt x0
    go_wp2_with fail
    go_roundw
    case rel=>exact ⟨5,rfl,by omega,Xr,M3⟩
    case measure=>simp [intOf]
  · have x0:=rR.out wr HB.out 5 (by decide)
    rw [show ((5:Nat):Int)=5 from rfl]
    go_upto_region 9 with fail
    go_region
    obtain ⟨V,hV⟩:∃ V,(wr.setCell ⟨g8,5,none⟩ (.int .u8 (bits BinOp.or .u8 (NA 5) 4))).drew=V:=⟨_,rfl⟩
    have Xr:Hid (Below w.heap.size w V):=by rw [← hV];exact (dX.out _ _).drew
    have M3:Hid (AP V g8 (Df (bx 6) (NA 6)).toArray 5):=by
     rw [← hV,show bits BinOp.or .u8 (NA 5) 4=NA 6 from by decide]
     exact vQ.out (NA 6)
    rw [hV]
    clear hV z4 z5 f4 f5 hlt x0
    go_wp2_with fail
    go_roundw
    case rel=>exact ⟨6,rfl,by omega,Xr,M3⟩
    case measure=>simp [intOf]
  · have x0:=rR.out wr HB.out 6 (by decide)
    rw [show ((6:Nat):Int)=6 from rfl]
    go_upto_region 9 with fail
    go_region
    obtain ⟨V,hV⟩:∃ V,(wr.setCell ⟨g8,5,none⟩ (.int .u8 (bits BinOp.or .u8 (NA 6) 16))).drew=V:=⟨_,rfl⟩
    have Xr:Hid (Below w.heap.size w V):=by rw [← hV];exact (dX.out _ _).drew
    have M3:Hid (AP V g8 (Df (bx 7) (NA 7)).toArray 5):=by
     rw [← hV,show bits BinOp.or .u8 (NA 6) 16=NA 7 from by decide]
     exact vQ.out (NA 7)
    rw [hV]
    clear hV z4 z5 f4 f5 hlt x0
    go_wp2_with fail
    go_roundw
    case rel=>exact ⟨7,rfl,by omega,Xr,M3⟩
    case measure=>simp [intOf]
  · have x0:=rR.out wr HB.out 7 (by decide)
    rw [show ((7:Nat):Int)=7 from rfl]
    go_upto_region 9 with fail
    go_region
    obtain ⟨V,hV⟩:∃ V,(wr.setCell ⟨g8,5,none⟩ (.int .u8 (bits BinOp.or .u8 (NA 7) 64))).drew=V:=⟨_,rfl⟩
    have Xr:Hid (Below w.heap.size w V):=by rw [← hV];exact (dX.out _ _).drew
    have M3:Hid (AP V g8 (Df (bx 8) (NA 8)).toArray 5):=by
     rw [← hV,show bits BinOp.or .u8 (NA 7) 64=NA 8 from by decide]
     exact vQ.out (NA 8)
    rw [hV]
    clear hV z4 z5 f4 f5 hlt x0
    go_wp2_with fail
    go_roundw
    case rel=>exact ⟨8,rfl,by omega,Xr,M3⟩
    case measure=>simp [intOf]
  · have HR8:Hid (wr.ownsRow w.heap.size 5 1 (.slice (some ⟨g8,0,none⟩) 244 244) 244 (AB Au Fq)):=by
      have h:AP wr g8 (Df 85 85).toArray 5:=HX.out
      rw [bZ] at h
      exact ⟨rfl,.inr ⟨g8,244,_,rfl,kN.out,h,Nat.le_refl _,by decide,rfl,rfl⟩⟩
    clear z4 z5 f4 f5 hlt oM vQ dX
    rw [show ((8:Nat):Int)=8 from rfl]
    go_wp2_with fail
    refine bodyPost_ret (v:=.tuple #[.slice (some ⟨g8,0,none⟩) 244 244,.int .i64 0]) (by simp [results,Tryz.results180,go_sem]) rfl ⟨⟨_,_,rfl,HR8.out⟩,HB.out⟩
end
end Go.Proofs.YtpenklpdjpkigaaGreat
