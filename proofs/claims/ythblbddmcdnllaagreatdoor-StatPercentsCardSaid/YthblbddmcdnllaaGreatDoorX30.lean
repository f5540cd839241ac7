/- A part of the proof: VisitM, WLeaf, ScanP, RiseP, LoadP, WLoad1, RScanM, RScanQ, RLoneP, PairsP, WPairs, WChunk. -/
import Derived.Test.YthblbddmcdnllaaGreatDoorX26
import Derived.Test.YthblbddmcdnllaaGreatDoorX29
import Derived.Test.YthblbddmcdnllaaGreatDoorX25
import Derived.Test.YthblbddmcdnllaaGreatDoorX8
import Derived.Deep.Onto
import Derived.Test.YthblbddmcdnllaaGreatDoorX7
import Derived.Test.YthblbddmcdnllaaGreatDoorX15
import Derived.Test.YthblbddmcdnllaaGreatDoorX1
import Derived.Test.YthblbddmcdnllaaGreatDoorX6
import Derived.Deep.CutBlock
import Derived.Test.YthblbddmcdnllaaGreatDoorY1
import Derived.Test.YthblbddmcdnllaaGreatDoorX4
import Derived.Test.YthblbddmcdnllaaGreatDoorX28
import Derived.Sort.BigQuietIn
import Derived.Sort.QuietIn
set_option maxHeartbeats 6400000
set_option linter.unusedVariables false
set_option linter.unusedSimpArgs false
namespace Go.Proofs.YthblbddmcdnllaaGreatDoor
section
open Go.RowKit
def After (w w':World) (base a img:Nat) (tree fuel:Int) (st st':WS) (way:List Int) (Ae Ab Af Aw:Option Addr) (ce cb cf cw:Nat):Prop :=
 ∃ Ae' ce' Ab' cb' Af' cf' Aw' cw' vs',Wk w' base a img tree fuel st' way Ae' ce' Ab' cb' Af' cf' Aw' cw' vs'∧Touch (Et a st way Ae ce Ab cb Af cf Aw cw) w w'∧∀ x,Et a st' way Ae' ce' Ab' cb' Af' cf' Aw' cw' x→Et a st way Ae ce Ab cb Af cf Aw cw x∨w.heap.size≤x
section
variable {w w' w'':World} {base a img:Nat} {tree fuel:Int} {st st' st'':WS} {way:List Int} {Ae Ab Af Aw Ae' Ab' Af' Aw':Option Addr} {ce cb cf cw ce' cb' cf' cw':Nat}
theorem After.Wx (ht:Touch (Et a st way Ae ce Ab cb Af cf Aw cw) w w') (hx:∀ x,Et a st' way Ae' ce' Ab' cb' Af' cf' Aw' cw' x→Et a st way Ae ce Ab cb Af cf Aw cw x∨w.heap.size≤x)
 (h:After w' w'' base a img tree fuel st' st'' way Ae' Ab' Af' Aw' ce' cb' cf' cw'):After w w'' base a img tree fuel st st'' way Ae Ab Af Aw ce cb cf cw:=by
 obtain ⟨E,cE,B,cB,F,cF,W,cW,vs,h1,h2,h3⟩:=h
 refine ⟨E,cE,B,cB,F,cF,W,cW,vs,h1,ht.trans' h2 hx,fun x hxx=>?_⟩
 rcases h3 x hxx with h|h
 · exact hx x h
 · exact .inr (Nat.le_trans ht.size h)
theorem After.jm {vs:List Value} (h:Wk w base a img tree fuel st way Ae ce Ab cb Af cf Aw cw vs):After w w base a img tree fuel st st way Ae Ab Af Aw ce cb cf cw :=
 ⟨_,_,_,_,_,_,_,_,_,h,Touch.refl,fun _ h=>.inl h⟩
theorem After.keeps {x y z:Nat} (h:After w.drew w' base a img tree fuel st st' way Ae Ab Af Aw ce cb cf cw) (hn:∀ b,(b=x∨b=y∨b=z)→¬ Et a st way Ae ce Ab cb Af cf Aw cw b) (hx:x<w.heap.size) (hy:y<w.heap.size) (hz:z<w.heap.size) :
 ∀ b o,(b=x∨b=y∨b=z)→w'.cell? ⟨b,o,none⟩=w.cell? ⟨b,o,none⟩:=fun b o hb=>by
 obtain ⟨_,_,_,_,_,_,_,_,_,_,hT,_⟩:=h
 exact Ap (S:=fun b=>b=x∨b=y∨b=z) hT (fun b hb=>⟨by rcases hb with rfl|rfl|rfl <;> assumption,hn b hb⟩) b o hb
theorem Wk.oD {vs:List Value} (h:Wk w base a img tree fuel st way Ae ce Ab cb Af cf Aw cw vs):∀ x,Et a st way Ae ce Ab cb Af cf Aw cw x→x<w.heap.size:=by
 rintro x (rfl|e|e|e|e)
 · exact h.box.lt
 · exact (h.BA.lt x e).2
 · exact (h.Aa.lt x e).2
 · exact (h.Ag.lt x e).2
 · exact (h.ways.lt x e).2
end
theorem width_le (tree:Int) (leaf:Bool):Ah tree leaf≤24:=by
 unfold Ah
 repeat' split
 all_goals omega
theorem Rz (bs:List UInt8) (no:Int):∀ v∈(nodeAt bs no).vals,v.length≤24:=by
 unfold nodeAt
 rw [J2]
 intro v hv
 simp only [FK,List.mem_map] at hv
 obtain ⟨k,_,rfl⟩:=hv
 have:=width_le (AC (AO bs no) 1 1) (decide (AC (AO bs no) 0 1=1))
 simp only [M0,BF,List.length_take,List.length_drop]
 omega
theorem Lr (f:Int→Int × Int→WS→WS) (way:List Int) (no:Int) (x:Int × Int) (v:List UInt8) (r:List ((Int × Int) × List UInt8)) (st:WS):EK f way no ((x,v) :: r) st =
 if (if (Au v).2≠0 then Ay st ⟨way++[no],(Au v).2⟩ else f (Au v).1 x st).UB=true then (if (Au v).2≠0 then Ay st ⟨way++[no],(Au v).2⟩ else f (Au v).1 x st)
 else EK f way no r (if (Au v).2≠0 then Ay st ⟨way++[no],(Au v).2⟩ else f (Au v).1 x st):=rfl
theorem QB {w:World} {S:Nat→Prop} {A:Option Addr} {l:List (Int × Int)} (h:Bw (Flat Ep) 2 (0,0) w S A l) (hl:0<l.length) :
 ∃ b off,A=some ⟨b,off,none⟩∧S b∧∀ k,k<l.length→w.cell? ⟨b,off+k*2,none⟩=some (.int .i64 (nth (0,0) l k).1)∧w.cell? ⟨b,off+k*2+1,none⟩=some (.int .i64 (nth (0,0) l k).2):=by
 obtain ⟨b,off,e,hb,hc⟩:=h hl
 refine ⟨b,off,e,hb,fun k hk=>?_⟩
 obtain ⟨cs,_,hr,h3⟩:=hc k hk
 obtain rfl:cs=_:=hr
 exact ⟨by simpa using h3 0 _ rfl,by simpa using h3 1 _ rfl⟩
end
section
open Go.RowKit Go.Shelf
attribute [local go_sem] Oper.semAt_some
theorem Ja (n:Nd) (no:Int) (h:n.keys.length=n.vals.length):(Bh n no).length=n.keys.length:=by simp [Bh,h]
theorem OL (n:Nd) (no:Int) (h:n.keys.length=n.vals.length) (i:Nat) (hi:i<n.keys.length):(Bh n no)[i]? = some ⟨nth 0 n.keys i,nth [] n.vals i,no⟩:=by
 have h1:i<n.vals.length:=by omega
 unfold Bh
 rw [List.getElem?_map,List.getElem?_eq_getElem (by simp;omega),List.getElem_zip,AZ 0 _ _ hi,AZ [] _ _ h1]
 rfl
theorem Mf (n:Nd) (no:Int) (h:n.keys.length=n.vals.length) (i:Nat) (hi:i<n.keys.length):(Bh n no).take (i+1)=(Bh n no).take i++[⟨nth 0 n.keys i,nth [] n.vals i,no⟩]:=by
 rw [List.take_add_one,OL n no h i hi];rfl
theorem XD:(Tryz.prog.info? 144).map (fun i=>(i.zero,i.size,i.bytes))=some (some (.agg #[.int .i64 0,.string (BJ []),.int .i64 0]),3,32):=by kernel_rfl
def OM (w0 w:World) (base a img:Nat) (tree fuel:Int) (st st':WS) (way:List Int) (Ae Ab Af Aw:Option Addr) (ce cb cf cw:Nat) (vs:List Value):Prop :=
 ∃ Ae' ce',Wk w base a img tree fuel st' way Ae' ce' Ab cb Af cf Aw cw vs∧Touch (Et a st way Ae ce Ab cb Af cf Aw cw) w0 w∧(∀ y,(Value.slice Ae' st'.BA.length ce').ownBlock=some y→(Value.slice Ae st.BA.length ce).ownBlock=some y∨w0.heap.size≤y)
set_option maxRecDepth 100000 in
theorem XE (w:World) (base a img:Nat) (tree fuel:Int) (st:WS) (way:List Int) (Ae Ab Af Aw:Option Addr) (ce cb cf cw:Nat) (vs:List Value) (S:Nat→Prop) (no t:Int) (lf:Bool) (vk vv:Value) (n:Nd)
 (h:Wk w base a img tree fuel st way Ae ce Ab cb Af cf Aw cw vs) (hS:∀ b,S b→b<w.heap.size∧¬ Et a st way Ae ce Ab cb Af cf Aw cw b) (hk:BV w S vk n.keys) (hv:Jw w S vv n.vals) (hlen:n.keys.length=n.vals.length)
 (hbase:base≤w.heap.size) (hn:way.length≤1000) (hf:st.BA.length≤1000000000) (hkl:n.keys.length≤1000) :
 Calls Tryz.prog 219 #[.pointer (some ⟨a,0,none⟩),.int .i64 no,.agg #[.int .i64 t,.bool lf,vk,vv]] w fun e w' =>
  (∃ r,e=.returned r)∧OM w w' base a img tree fuel st { st with deep:=way.length+1,BA:=st.BA++Bh n no } way Ae Ab Af Aw ce cb cf cw vs:=by
 have HL:=qh (Mf n no hlen)
 have Qq:Hid ((Bh n no).take n.keys.length=Bh n no):=List.take_of_length_le (by rw [Ja n no hlen];exact Nat.le_refl _)
 have Jr:Hid (∀ i,i≤n.keys.length→((Bh n no).take i).length=i):=fun i hi=>by rw [List.length_take,Ja n no hlen];omega
 obtain ⟨Ak,ck,rfl,hck,xK⟩:=hk
 obtain ⟨Av,cv,rfl,hcv,xL⟩:=hv
 have XF:Hid (0<n.keys.length→∃ b off,Ak=some ⟨b,off,none⟩∧b<w.heap.size∧∀ w',Touch (Et a st way Ae ce Ab cb Af cf Aw cw) w w'→∀ k,k<n.keys.length→w'.cell? ⟨b,off+k,none⟩=some (.int .i64 (nth 0 n.keys k))):=fun hp=>by
  obtain ⟨b,off,e,hb,h1⟩:=Be xK hp
  exact ⟨b,off,e,(hS b hb).1,fun w' hT k hk=>(Ap hT hS b (off+k) hb).trans (h1 k hk)⟩
 have jL:Hid (0<n.vals.length→∃ b off,Av=some ⟨b,off,none⟩∧b<w.heap.size∧¬ Et a st way Ae ce Ab cb Af cf Aw cw b∧∀ w',Touch (Et a st way Ae ce Ab cb Af cf Aw cw) w w'→∀ k,k<n.vals.length→w'.cell? ⟨b,off+k,none⟩=some (.string (BJ (nth [] n.vals k)))):=fun hp=>by
  obtain ⟨b,off,e,hb,h1⟩:=K9 xL hp
  exact ⟨b,off,e,(hS b hb).1,(hS b hb).2,fun w' hT k hk=>(Ap hT hS b (off+k) hb).trans (h1 k hk)⟩
 have halt:=h.box.lt
 have hx:=AL.new w #[.int .i64 t,.bool lf,.slice Ak n.keys.length ck,.slice Av n.vals.length cv] 125
 have h1:=h.below ((Below.refl _ w).alloc (Nat.le_refl _) (.cells #[.int .i64 t,.bool lf,.slice Ak n.keys.length ck,.slice Av n.vals.length cv] 125))
 have t1:Touch (Et a st way Ae ce Ab cb Af cf Aw cw) w (w.alloc (.cells #[.int .i64 t,.bool lf,.slice Ak n.keys.length ck,.slice Av n.vals.length cv] 125)):=Touch.alloc _
 rw [← hlen] at *
 generalize hm:n.keys.length=m at *
 clear hm xK xL hlen
 go_enter Tryz.func219,Tryz.ntmps219
 go_upto_region 1 with fail
 generalize w.alloc (.cells #[.int .i64 t,.bool lf,.slice Ak m ck,.slice Av m cv] 125)=w1 at *
 obtain ⟨y0,y1,y2,y3,y4,y5,y6,y7,y8,y9⟩:=h1.cells
 have z2:=h1.free 2
 have e1:IntKind.i64.wrap ((way.length:Int)+1)=(way.length:Int)+1:=by rw [IntKind.wrap_i64];omega
 have H1:=qh (h1.YL 2 (.int .i64 ((way.length:Int)+1)) { st with deep:=(way.length:Int)+1 } rfl rfl rfl rfl)
 have HX:=qh (hx.far (b:=a) (by omega) 2 (.int .i64 ((way.length:Int)+1)))
 have HT:=qh (t1.trans (Touch.BZ (R:=Et a st way Ae ce Ab cb Af cf Aw cw) (p:=⟨a,2,none⟩) (u:=.int .i64 ((way.length:Int)+1)) (.inl rfl)))
 clear h h1 hx t1 hck hcv
 go_upto_region 2 with fail
 generalize w1.setCell ⟨a,2,none⟩ (.int .i64 ((way.length:Int)+1))=w2 at *
 clear y0 y1 y2 y3 y4 y5 y6 y7 y8 y9 z2 e1
 have x2:=HX.out.at 2 _ rfl
 go_wp2_with fail
 go_loopw [21] (fun vi wr=>∃ i:Nat,vi=.int .i64 i∧i≤m∧Hid (OM w wr base a img tree fuel st { st with deep:=(way.length:Int)+1,BA:=st.BA++(Bh n no).take i } way Ae Ab Af Aw ce cb cf cw vs)∧Hid (AL wr w.heap.size #[.int .i64 t,.bool lf,.slice Ak m ck,.slice Av m cv] 125)) (fun vi _=>m-(intOf vi).toNat)
 case atStart=>exact ⟨0,rfl,Nat.zero_le _,qh ⟨Ae,ce,by rw [List.take_zero,List.append_nil];exact H1.out,HT.out,fun y hy=>.inl (by simpa using hy)⟩,HX⟩
 case round =>
 obtain ⟨i,rfl,hi,HR,HB⟩:=hrel
 by_cases hlt:i<m
 · obtain ⟨b,off,rfl,hb,hq⟩:=XF.out (by omega)
   obtain ⟨b2,OO,rfl,hb2,sN,hq2⟩:=jL.out (by omega)
   have q1':=hq2
   have jw:=HL.out i hlt
   have htl:=Jr.out i hi
   have MO:Hid (∀ w',OM w w' base a img tree fuel st { st with deep:=(way.length:Int)+1,BA:=(st.BA++(Bh n no).take i)++[⟨nth 0 n.keys i,nth [] n.vals i,no⟩] } way Ae Ab Af Aw ce cb cf cw vs→OM w w' base a img tree fuel st { st with deep:=(way.length:Int)+1,BA:=st.BA++(Bh n no).take (i+1) } way Ae Ab Af Aw ce cb cf cw vs):=fun w' h=>by
    rw [jw,← List.append_assoc];exact h
   have sO:(st.BA++(Bh n no).take i).length≤1000001000:=by rw [List.length_append,htl];omega
   obtain ⟨es,hes⟩:∃ es,st.BA++(Bh n no).take i=es:=⟨_,rfl⟩
   rw [hes] at HR MO sO
   clear hes htl jw q1'
   obtain ⟨Ae',ce',OJ,hT,hat⟩:=HR.out
   have q0:=hq wr hT i hlt
   have q1:=hq2 wr hT i hlt
   have HRR:=qh OJ
   have bz:=qh hT
   have HAT:=qh hat
   have x2:=HB.out.at 2 _ rfl
   have x3:=HB.out.at 3 _ rfl
   obtain ⟨y0,-⟩:=OJ.cells
   have z0:=OJ.free 0
   dsimp only at y0
   have hil:(i:Int)<(m:Int):=by omega
   have hsz:=hT.size
   have hgw:w.heap.size<wr.heap.size:=HB.out.lt
   have haw:a<wr.heap.size:=by omega
   have sP:b2<wr.heap.size:=by omega
   have Bt:wr.ownsRow base 144 3 (.slice Ae' es.length ce') es.length (AA G8 es):=OJ.BA
   have hfa:some a≠(Value.slice Ae' es.length ce').ownBlock:=BC Bt OJ.box (by decide)
   have hfg:some w.heap.size≠(Value.slice Ae' es.length ce').ownBlock:=BC Bt HB.out (by decide)
   have hfb:some b2≠(Value.slice Ae' es.length ce').ownBlock:=fun e=>(hat b2 e.symm).elim (fun h=>sN (.inr (.inl h))) (fun h=>absurd h (by omega))
   have iJ:=qh Bt
   clear hq hq2 OJ hT hat Bt
   generalize nth 0 n.keys i=p at *
   generalize nth [] n.vals i=q at *
   have hz1:(wr.drew.alloc (.cells #[.int .i64 p,.string (BJ q),.int .i64 no] 144)).heap.size=wr.heap.size+1:=by simp
   have hlt1:a<(wr.drew.alloc (.cells #[.int .i64 p,.string (BJ q),.int .i64 no] 144)).heap.size:=by omega
   have hlt2:w.heap.size<(wr.drew.alloc (.cells #[.int .i64 p,.string (BJ q),.int .i64 no] 144)).heap.size:=by omega
   have hlt3:b2<(wr.drew.alloc (.cells #[.int .i64 p,.string (BJ q),.int .i64 no] 144)).heap.size:=by omega
   clear hz1
   go_upto_region 5 with fail
   refine AJ (T:=fun j=>j==19) (S:=fun w'=>w'.cell? ⟨a,0,none⟩=some (.slice Ae' es.length ce')∧w'.cell? ⟨w.heap.size,3,none⟩=some (.slice (some ⟨b2,OO,none⟩) m cv)∧w'.cell? ⟨b2,OO+i,none⟩=some (.string (BJ q))∧w'.frozen? ⟨a,0,none⟩=false) (by kernel_rfl) (⟨y0,x3,q1,z0⟩) (fun hHeld=>?_)
   refine qs 0 26 hHeld ?_
   refine qs 1 27 hHeld ?_
   refine qs 2 28 hHeld ?_
   refine qs 3 29 hHeld ?_
   refine qs 4 30 hHeld ?_
   refine qf 5 31 rfl rfl hHeld (by intro w hSw;have y0:=hSw.1;go_simp;(try with_reducible rfl)) ?_
   refine qs 6 32 hHeld ?_
   refine qs 7 33 hHeld ?_
   refine qf 8 34 rfl rfl hHeld (by intro w hSw;have x3:=hSw.2.1;go_simp;(try with_reducible rfl)) ?_
   refine qs 9 35 hHeld ?_
   refine qs 10 36 hHeld ?_
   refine qf 11 37 rfl rfl hHeld (by intro w hSw;have q1:=hSw.2.2.1;go_simp;(try with_reducible rfl)) ?_
   refine qs 12 38 hHeld ?_
   refine qs 13 39 hHeld ?_
   refine qo 14 fun K hK=>?_
   go_simp
   clear hHeld
   have hHeld:=(show World.cell? (wr.drew.alloc (.cells #[.int .i64 p,.string (BJ q),.int .i64 no] 144)) ⟨a,0,none⟩=some (.slice Ae' es.length ce')∧World.cell? (wr.drew.alloc (.cells #[.int .i64 p,.string (BJ q),.int .i64 no] 144)) ⟨w.heap.size,3,none⟩=some (.slice (some ⟨b2,OO,none⟩) m cv)∧World.cell? (wr.drew.alloc (.cells #[.int .i64 p,.string (BJ q),.int .i64 no] 144)) ⟨b2,OO+i,none⟩=some (.string (BJ q))∧World.frozen? (wr.drew.alloc (.cells #[.int .i64 p,.string (BJ q),.int .i64 no] 144)) ⟨a,0,none⟩=false from ⟨(World.cell?_of_block (a:=⟨a,0,none⟩) (Below.heap_alloc wr.drew _ a haw)).trans y0,(World.cell?_of_block (a:=⟨w.heap.size,3,none⟩) (Below.heap_alloc wr.drew _ w.heap.size hgw)).trans x3,(World.cell?_of_block (a:=⟨b2,OO+i,none⟩) (Below.heap_alloc wr.drew _ b2 sP)).trans q1,(World.frozen?_of_block (a:=⟨a,0,none⟩) (Below.heap_alloc wr.drew _ a haw)).trans z0⟩)
   refine hK.out _ _ (fun _=>hHeld) (fun _=>?_)
   clear hK K
   (try simp only [Act.put,qS])
   refine qo 15 fun K hK=>?_
   refine Co Tryz.underlying139 XD rfl (by omega) (by omega) rfl _ _ rfl base (.slice Ae' es.length ce') es.length (AA G8 es) rfl (iJ.out.drew.alloc _) (some ⟨wr.heap.size,0,none⟩) 1 1 [.int .i64 p,.string (BJ q),.int .i64 no] rfl rfl (fun d hd=>by cases hd;exact Cm wr.drew [.int .i64 p,.string (BJ q),.int .i64 no] 144) (Q0 ⟨p,q,no⟩) (by omega) (by simp;omega) (by intro h;cases h) ?_
   intro A9 c9 w9 Ig Dp Pw
   have hHeld:=(show World.cell? w9 ⟨a,0,none⟩=some (.slice Ae' es.length ce')∧World.cell? w9 ⟨w.heap.size,3,none⟩=some (.slice (some ⟨b2,OO,none⟩) m cv)∧World.cell? w9 ⟨b2,OO+i,none⟩=some (.string (BJ q))∧World.frozen? w9 ⟨a,0,none⟩=false from ⟨(Dp.cell_far ⟨a,0,none⟩ hlt1 hfa).trans hHeld.1,(Dp.cell_far ⟨w.heap.size,3,none⟩ hlt2 hfg).trans hHeld.2.1,(Dp.cell_far ⟨b2,OO+i,none⟩ hlt3 hfb).trans hHeld.2.2.1,(Dp.frozen_far ⟨a,0,none⟩ hlt1 hfa).trans hHeld.2.2.2⟩)
   refine hK.out _ _ (fun _=>hHeld) (fun _=>?_)
   clear hK K
   (try simp only [Act.put])
   refine qo 16 fun K hK=>?_
   go_simp
   refine hK.out _ _ (fun _=>hHeld) (fun _=>?_)
   clear hK K
   (try simp only [Act.put,qS])
   refine qo 17 fun K hK=>?_
   go_simp
   refine hK.out _ _ (fun _=>hHeld) (fun _=>?_)
   clear hK K
   (try simp only [Act.put,qS])
   refine qs 18 44 hHeld ?_
   refine qo 19 fun K hK=>?_
   go_simp
   refine hK.out _ _ (fun h=>by cases h) (fun _=>?_)
   clear hK K hHeld
   (try simp only [Act.put,qS])
   refine qd ?_
   have Dp:World.grownBy (wr.drew.alloc (.cells #[.int .i64 p,.string (BJ q),.int .i64 no] 144)) w9 (Value.slice Ae' es.length ce').ownBlock:=Dp
   have Ry:=(HRR.out.below (w':=wr.drew) ⟨rfl,rfl,rfl,Nat.le_refl _,fun _ _=>rfl⟩).below ((Below.refl _ _).alloc (Nat.le_refl _) (.cells #[.int .i64 p,.string (BJ q),.int .i64 no] 144))
   have sQ:=qh (Ry.yt (x:=⟨p,q,no⟩) (A:=A9) (c:=c9) (w':=w9) (by show w9.ownsRow base 144 3 (.slice A9 (es.length+1) c9) (es.length+1) (AA G8 (es++[⟨p,q,no⟩]));rw [BK];exact Ig) Dp)
   have Ey:AL w9 w.heap.size #[.int .i64 t,.bool lf,.slice (some ⟨b,off,none⟩) m ck,.slice (some ⟨b2,OO,none⟩) m cv] 125:=(Dp.block w.heap.size hlt2 hfg).trans ((Below.heap_alloc wr.drew _ w.heap.size hgw).trans HB.out)
   have Jb:=qh (Ey.far (b:=a) (by omega) 0 (.slice A9 (es.length+1) c9))
   have X9:Hid (Touch (Et a st way Ae ce Ab cb Af cf Aw cw) w (w9.setCell ⟨a,0,none⟩ (.slice A9 (es.length+1) c9))):=by
    have t2:Touch (Et a st way Ae ce Ab cb Af cf Aw cw) wr (wr.drew.alloc (.cells #[.int .i64 p,.string (BJ q),.int .i64 no] 144)):=Touch.drew.trans (Touch.alloc _)
    have t3:Touch (fun x=>(Value.slice Ae' es.length ce').ownBlock=some x) (wr.drew.alloc (.cells #[.int .i64 p,.string (BJ q),.int .i64 no] 144)) w9:=Touch.CV Dp (fun x hx=>hx)
    exact ((bz.out.trans t2).trans' t3 (fun x hx=>(HAT.out x hx).elim (fun h=>.inl (.inr (.inl h))) .inr)).trans (Touch.BZ (.inl rfl))
   have sS:Hid (∀ y,(Value.slice A9 (es.length+1) c9).ownBlock=some y→(Value.slice Ae st.BA.length ce).ownBlock=some y∨w.heap.size≤y):=fun y hy=>by
    rcases Pw y hy with h|h
    · exact HAT.out y h
    · right;rw [h];exact Nat.le_of_lt hlt2
   clear Ey Dp Ry hHeld Pw Ig
   go_wp2_with fail
   go_roundw
   case rel=>exact ⟨i+1,by go_num,by omega,qh (MO.out _ ⟨A9,c9,sQ.out,X9.out,fun y hy=>sS.out y (by rw [List.length_append,List.length_singleton] at hy;exact hy)⟩),Jb⟩
   case measure=>simp [intOf];omega
 · obtain rfl:i=m:=by omega
   have LX:=qh HR.out
   rw [Qq.out] at LX
   go_wp2_with fail
   (try simp only [Exit.inBlock,Exit.then])
   exact ⟨rfl,_,results_none rfl _ _ _,⟨_,rfl⟩,LX.out⟩
end
section
open Go.RowKit
theorem TW (f:Int→Int × Int→WS→WS) (hf:∀ i s st,(∀ x∈st.Ag,x.code≠0)→∀ x∈(f i s st).Ag,x.code≠0) (way:List Int) (no:Int):∀ (l:List ((Int × Int) × List UInt8)) (st:WS),(∀ x∈st.Ag,x.code≠0)→∀ x∈(EK f way no l st).Ag,x.code≠0
 | [],st,h=>h
 | (y,v) :: r,st,h=>by
  rw [Lr]
  have h1:∀ x∈(if (Au v).2≠0 then Ay st ⟨way++[no],(Au v).2⟩ else f (Au v).1 y st).Ag,x.code≠0:=by
   split
   · rename_i hc
     intro x hx
     simp only [Ay,List.mem_append,List.mem_singleton] at hx
     rcases hx with hx|rfl
     · exact h x hx
     · exact hc
   · exact hf _ _ _ h
  generalize (if (Au v).2≠0 then Ay st ⟨way++[no],(Au v).2⟩ else f (Au v).1 y st)=st2 at h1 ⊢
  split
  · exact h1
  · exact TW f hf way no r _ h1
theorem QJ (bs:List UInt8) (tree fuel:Int):∀ (d:Nat) (way:List Int) (no:Int) (s:Int × Int) (st:WS),(∀ x∈st.Ag,x.code≠0)→∀ x∈(BR bs tree fuel d way no s st).Ag,x.code≠0
 | 0,_,_,_,_,h=>h
 | d+1,way,no,s,st,h=>by
  unfold BR
  split
  · intro x hx
    simp only [Ay,List.mem_append,List.mem_singleton] at hx
    rcases hx with hx|rfl
    · exact h x hx
    · show (12:Int)≠0
      decide
  · split
    · rename_i hc
      intro x hx
      simp only [Ay,List.mem_append,List.mem_singleton] at hx
      rcases hx with hx|rfl
      · exact h x hx
      · exact hc
    · split
      · exact h
      · exact TW _ (QJ bs tree fuel d _) _ _ _ _ h
theorem Y3 (bs:List UInt8) (root tree fuel:Int):∀ x∈(JJ bs root tree fuel).Ag,x.code≠0:=QJ _ _ _ _ _ _ _ _ (fun x hx=>by cases hx)
def J8 (st:WS):Tt:=nth ⟨[],0⟩ st.Ag 0
theorem I6 (w:World) (g:Nat) (u0 u1 u2 u3 u4:Value):Touch (fun x=>x=g) w (((((w.setCell ⟨g,0,none⟩ u0).setCell ⟨g,1,none⟩ u1).setCell ⟨g,2,none⟩ u2).setCell ⟨g,3,none⟩ u3).setCell ⟨g,4,none⟩ u4) :=
 have k:∀ (w:World) (i:Nat) (u:Value),Touch (fun x=>x=g) w (w.setCell ⟨g,i,none⟩ u):=fun w i u=>Touch.BZ (R:=fun x=>x=g) (p:=⟨g,i,none⟩) rfl
 ((((k _ 0 u0).trans (k _ 1 u1)).trans (k _ 2 u2)).trans (k _ 3 u3)).trans (k _ 4 u4)
def Ex (w0 w:World) (v:Value) (st:WS):Prop :=
 ∃ Ae ce Ab cb Af cf vs,v=.agg #[.slice Ae st.BA.length ce,.slice Ab st.Aa.length cb,.int .i64 st.deep,.int .i64 st.looked,.slice Af st.Ag.length cf] ∧
  w.ownsRow w0.heap.size 144 3 (.slice Ae st.BA.length ce) st.BA.length (AA G8 st.BA)∧w.ownsRow w0.heap.size 3 1 (.slice Ab st.Aa.length cb) st.Aa.length (AA encI st.Aa) ∧
  w.ownsRow w0.heap.size 27 1 (.slice Af st.Ag.length cf) st.Ag.length vs∧GL w (FB w w0.heap.size) vs st.Ag
theorem Ex.below {w0 w w':World} {v:Value} {st:WS} (h:Ex w0 w v st) (hB:Below w.heap.size w w'):Ex w0 w' v st:=by
 obtain ⟨Ae,ce,Ab,cb,Af,cf,vs,e,h1,h2,h3,h4⟩:=h
 obtain ⟨k1,k2⟩:=Ec (w:=w) (w':=w') (base:=w0.heap.size) (fun b cs hb=>hB.block b (Array.getElem?_eq_some_iff.1 hb).1)
 exact ⟨Ae,ce,Ab,cb,Af,cf,vs,e,own_below h1 hB (Nat.le_refl _),own_below h2 hB (Nat.le_refl _),own_below h3 hB (Nat.le_refl _),h4.keep k1 k2⟩
theorem QK {w w':World} {g base:Nat} (hT:Touch (fun x=>x=g) w w') (hg:g<base):(∀ b,FB w base b→FB w' base b)∧CU (FB w base) w w' :=
 ⟨fun b hb=>⟨hb.1,by obtain ⟨cs,h⟩:=hb.2;exact ⟨cs,(hT.block hb.lt (fun e=>by have:=hb.1;omega)).trans h⟩⟩,Ap hT (fun b hb=>⟨hb.lt,fun e=>by have:=hb.1;omega⟩)⟩
theorem Ex.touch {w0 w w':World} {v:Value} {st:WS} {g:Nat} (h:Ex w0 w v st) (hT:Touch (fun x=>x=g) w w') (hg:g<w0.heap.size):Ex w0 w' v st:=by
 obtain ⟨Ae,ce,Ab,cb,Af,cf,vs,e,h1,h2,h3,h4⟩:=h
 obtain ⟨k1,k2⟩:=QK (base:=w0.heap.size) hT hg
 exact ⟨Ae,ce,Ab,cb,Af,cf,vs,e,BB h1 hT (fun x hx e=>by have:=(h1.lt x hx).1;omega),BB h2 hT (fun x hx e=>by have:=(h2.lt x hx).1;omega),BB h3 hT (fun x hx e=>by have:=(h3.lt x hx).1;omega),h4.keep k1 k2⟩
theorem Ex.base {w0 w1 w:World} {v:Value} {st:WS} (h:Ex w1 w v st) (hb:w0.heap.size≤w1.heap.size):Ex w0 w v st:=by
 obtain ⟨Ae,ce,Ab,cb,Af,cf,vs,e,h1,h2,h3,h4⟩:=h
 exact ⟨Ae,ce,Ab,cb,Af,cf,vs,e,h1.mono hb,h2.mono hb,h3.mono hb,h4.keep (fun b hx=>⟨Nat.le_trans hb hx.1,hx.2⟩) CU.refl⟩
def OT:Value:=.agg #[.slice none 0 0,.slice none 0 0,.int .i64 0,.int .i64 0,.slice none 0 0]
def Y4 (w0 w:World) (e:Ending) (st:WS):Prop:=∃ v ev,e=.returned (.tuple #[v,ev])∧Bf w (FB w w0.heap.size) ev (J8 st)∧(if (J8 st).code=0 then Ex w0 w v st else v=OT)
end
section
open Go.RowKit
end
section
open Go.RowKit
end
section
open Go.RowKit Go.Shelf
attribute [local go_sem] Oper.semAt_some
end
section
open Go.RowKit
section
variable {w wr w' wF:World} {g:Nat} {bs:List UInt8} {tree fuel:Int} {F st st':WS} {A2:Option Addr} {m c2:Nat} {r:List yw} {Ae Ab Af Ae' Ab' Af':Option Addr} {ce cb cf ce' cb' cf':Nat} {xs xs':List Value}
end
end
section
open Go.RowKit
end
section
open Go.RowKit
end
section
open Go.RowKit
end
section
open Go.RowKit Go.Shelf
attribute [local go_sem] Oper.semAt_some
def Ox (S:Nat→Prop) (W W':World):Prop:=(∀ x,S x→W'.heap[x]? = W.heap[x]?)∧W.heap.size≤W'.heap.size
theorem Ox.refl {S:Nat→Prop} {W:World}:Ox S W W:=⟨fun _ _=>rfl,Nat.le_refl _⟩
theorem Ox.trans {S:Nat→Prop} {A B C:World} (h:Ox S A B) (k:Ox S B C):Ox S A C:=⟨fun x hx=>(k.1 x hx).trans (h.1 x hx),Nat.le_trans h.2 k.2⟩
theorem Ox.box {S:Nat→Prop} {W W':World} {g:Nat} {cs:Array Value} {T:TypeId} (h:Ox S W W') (hg:S g) (hb:AL W g cs T):AL W' g cs T:=(h.1 g hg).trans hb
theorem OV {B:Nat} {J:Nat→World→Prop} (h:AbidesFrom B J) {k:Nat} {W:World} (hj:J k W) (q:Nat):J k (W.drewN q) :=
 h k W (W.drewN q) none hj ⟨rfl,rfl,rfl,Nat.le_refl _,fun _ _ _=>rfl⟩ (fun r e=>by cases e)
end
section
open Go.RowKit Go.Shelf
attribute [local go_sem] Oper.semAt_some
theorem QM (w:World) (A:Option Addr) (n c:Nat):Calls Tryz.prog 109 #[.slice A n c,.int .i64 960] w fun e w' =>
 e=.returned (.func (.func 160) #[] #[.pointer (some ⟨w.heap.size,0,none⟩),.pointer (some ⟨w.heap.size+1,0,none⟩)])∧w'=(w.alloc (.cells #[.slice A n c] 62)).alloc (.cells #[.int .i64 960] 3):=by
 go_enter Tryz.func109,Tryz.ntmps109
 go_wp2
 go_ret
 exact ⟨rfl,rfl⟩
def xf (W W':World):Prop:=False
set_option maxRecDepth 100000 in
theorem SA (n:Nat) (hn:1≤n) (gA gB c:Nat) (A:Option Addr) (w:World) (hA:AL w gA #[.slice A 0 c] 62) :
 Y5 Fence.wide n Tryz.prog 160 #[.pointer (some ⟨gA,0,none⟩),.pointer (some ⟨gB,0,none⟩)] (fun _=>#[.slice none 0 0]) (Ox fun x=>x=gA∨x=gB) xf 0 w:=by
 intro lp J Jx W hBW hJ hJx hY hj0
 have x0:=(hA.below hBW hA.lt).at 0 _ rfl
 have tZ:=qh hj0
 clear hY hJ hJx hA hBW hj0
 refine callsIn_of_wp Tryz.func160 rfl trivial ?_ rfl
 simp only [Tryz.ntmps160,List.size_toArray,List.length_cons,List.length_nil,Nat.reduceAdd,Nat.reduceSub,Array.replicate_succ,Array.replicate_zero,List.push_toArray,List.append_toArray,List.nil_append,List.cons_append]
 gi_wp2
 gi_loopw [4] (fun vi wr=>vi=.int .i64 0∧wr=W) (fun _ _=>1)
 case atStart=>exact ⟨rfl,rfl⟩
 case round =>
  obtain ⟨rfl,hwr⟩:=hrel
  rw [hwr]
  clear hwr wr
  gi_wp2
  refine bodyPost_end (results_none rfl _ _ _) rfl ?_
  exact ⟨⟨_,rfl⟩,.inl tZ.out⟩
set_option maxRecDepth 100000 in
theorem SB (n:Nat) (hn:1≤n) (gA gB g m c:Nat) (w:World) (h1:1≤m) (hm:m<960) (hmc:m≤c) (hA:AL w gA #[.slice (some ⟨g,0,none⟩) m c] 62) (hB:AL w gB #[.int .i64 960] 3) :
 Y5 Fence.wide n Tryz.prog 160 #[.pointer (some ⟨gA,0,none⟩),.pointer (some ⟨gB,0,none⟩)] (fun _=>#[.slice (some ⟨g,0,none⟩) m m]) (Ox fun x=>x=gA∨x=gB) xf 1 w:=by
 intro lp J Jx W hBW hJ hJx hY hj0
 have HY:=qh hY
 have HSJ:=qh hJ
 have tZ:=qh hj0
 have tq:=qh (hA.below hBW hA.lt)
 have HB0:=qh (hB.below hBW hB.lt)
 have bX:(m:Int)<960:=by omega
 have hm1:(0:Int)<(m:Int):=by omega
 have AAM:(m:Int)≤(c:Int):=by omega
 have hmin:min (960:Int) (m:Int)=(m:Int):=by omega
 have aK:¬ (960:Int)<(m:Int):=by omega
 have hd9:decide ((960:Int)<(m:Int))=false:=decide_eq_false aK
 clear hY hJ hJx hA hB hBW hj0 h1 hm hmc aK
 refine callsIn_of_wp Tryz.func160 rfl trivial ?_ rfl
 simp only [Tryz.ntmps160,List.size_toArray,List.length_cons,List.length_nil,Nat.reduceAdd,Nat.reduceSub,Array.replicate_succ,Array.replicate_zero,List.push_toArray,List.append_toArray,List.nil_append,List.cons_append]
 gi_wp2
 gi_loopw [4] (fun vi wr=>(vi=.int .i64 0∧wr=W)∨(vi=.int .i64 960∧Hid (J 1 wr)∧Hid (Ox (fun x=>x=gA∨x=gB) W wr))) (fun vi _=>1-(intOf vi).toNat)
 case atStart=>exact .inl ⟨rfl,rfl⟩
 case round =>
  rcases hrel with ⟨rfl,hwr⟩|⟨rfl,tu,eG⟩
  · rw [hwr]
    clear hwr wr
    have a0:=tq.out.at 0 _ rfl
    have b0:=HB0.out.at 0 _ rfl
    gi_wp2
    gi_quiet (fail)
    have HJ2:=qh (OV HSJ.out.1 tZ.out nq)
    have TY:Hid (Ox (fun x=>x=gA∨x=gB) W (W.drewN nq)):=⟨fun _ _=>rfl,Nat.le_refl _⟩
    have HA2:Hid (AL (W.drewN nq) gA #[.slice (some ⟨g,0,none⟩) m c] 62):=tq.out
    have HB2:Hid (AL (W.drewN nq) gB #[.int .i64 960] 3):=HB0.out
    generalize W.drewN nq=W2 at *
    have a2:=HA2.out.at 0 _ rfl
    have b2:=HB2.out.at 0 _ rfl
    obtain ⟨fn,tmps,assign,body,hy,hR⟩:=HY.out 0 _ (by decide) HJ2.out
    clear a0 b0
    gi_wp2
    refine hR.mono ?_
    rintro e W3 (⟨rfl,hJ3,hk3⟩|⟨rfl,hJx3⟩)
    · have HJ3:=qh hJ3
      have XJ:=qh (TY.out.trans hk3)
      have HB3:=qh (hk3.box (.inr rfl) HB2.out)
      have b3:=HB3.out.at 0 _ rfl
      clear hy hR hJ3 hk3 a2 b2
      gi_wp2
      go_roundw
      case rel=>exact .inr ⟨rfl,HJ3,XJ⟩
      case measure=>simp [intOf]
    · have Ve:=qh hJx3
      clear hy hR hJx3 a2 b2
      gi_wp2
      refine bodyPost_ret (results_none rfl _ _ _) rfl ?_
      exact ⟨⟨_,rfl⟩,.inr ⟨1,Nat.le_refl _,Ve.out⟩⟩
  · have a0:=(eG.out.box (.inl rfl) tq.out).at 0 _ rfl
    gi_wp2
    refine bodyPost_end (results_none rfl _ _ _) rfl ?_
    exact ⟨⟨_,rfl⟩,.inl tu.out⟩
end
end Go.Proofs.YthblbddmcdnllaaGreatDoor
