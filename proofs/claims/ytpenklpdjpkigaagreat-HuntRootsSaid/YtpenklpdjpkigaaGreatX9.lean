/- A part of the proof: WLeaf, WPoolRefs. -/
import Derived.Test.YtpenklpdjpkigaaGreatY21
import Derived.Test.YtpenklpdjpkigaaGreatY2
import Derived.Test.YtpenklpdjpkigaaGreatY4
import Derived.Test.YtpenklpdjpkigaaGreatY7
import Derived.Test.YtpenklpdjpkigaaGreatX8
import Derived.RangeFuncBox
import Derived.Test.YtpenklpdjpkigaaGreatY1
set_option maxHeartbeats 6400000
set_option linter.unusedVariables false
set_option linter.unusedSimpArgs false
namespace Go.Proofs.YtpenklpdjpkigaaGreat
section
open Go.RowKit Go.Shelf
attribute [local go_sem] Oper.semAt_some
theorem Fj (n:Nd) (no:Int) (h:n.keys.length=n.vals.length):(BK n no).length=n.keys.length:=by simp [BK,h]
theorem TI (n:Nd) (no:Int) (h:n.keys.length=n.vals.length) (i:Nat) (hi:i<n.keys.length):(BK n no)[i]? = some ⟨nth 0 n.keys i,nth [] n.vals i,no⟩:=by
 have h1:i<n.vals.length:=by omega
 unfold BK
 rw [List.getElem?_map,List.getElem?_eq_getElem (by simp;omega),List.getElem_zip,Ac 0 _ _ hi,Ac [] _ _ h1]
 rfl
theorem K4 (n:Nd) (no:Int) (h:n.keys.length=n.vals.length) (i:Nat) (hi:i<n.keys.length):(BK n no).take (i+1)=(BK n no).take i++[⟨nth 0 n.keys i,nth [] n.vals i,no⟩]:=by
 rw [List.take_add_one,TI n no h i hi];rfl
theorem VG:(Tryz.prog.info? 108).map (fun i=>(i.zero,i.size,i.bytes))=some (some (.agg #[.int .i64 0,.string (Am []),.int .i64 0]),3,32):=by kernel_rfl
def TJ (w0 w:World) (base a img:Nat) (tree fuel:Int) (st st':WS) (way:List Int) (Ae Ab Af Aw:Option Addr) (ce cb cf cw:Nat) (vs:List Value):Prop :=
 ∃ Ae' ce',Wk w base a img tree fuel st' way Ae' ce' Ab cb Af cf Aw cw vs∧Touch (Gn a st way Ae ce Ab cb Af cf Aw cw) w0 w∧(∀ y,(Value.slice Ae' st'.AO.length ce').ownBlock=some y→(Value.slice Ae st.AO.length ce).ownBlock=some y∨w0.heap.size≤y)
set_option maxRecDepth 100000 in
theorem iL (w:World) (base a img:Nat) (tree fuel:Int) (st:WS) (way:List Int) (Ae Ab Af Aw:Option Addr) (ce cb cf cw:Nat) (vs:List Value) (S:Nat→Prop) (no t:Int) (lf:Bool) (vk vv:Value) (n:Nd)
 (h:Wk w base a img tree fuel st way Ae ce Ab cb Af cf Aw cw vs) (hS:∀ b,S b→b<w.heap.size∧¬ Gn a st way Ae ce Ab cb Af cf Aw cw b) (hk:Aa w S vk n.keys) (hv:Js w S vv n.vals) (hlen:n.keys.length=n.vals.length)
 (hbase:base≤w.heap.size) (hn:way.length≤1000) (hf:st.AO.length≤1000000000) (hkl:n.keys.length≤1000) :
 Calls Tryz.prog 225 #[.pointer (some ⟨a,0,none⟩),.int .i64 no,.agg #[.int .i64 t,.bool lf,vk,vv]] w fun e w' =>
  (∃ r,e=.returned r)∧TJ w w' base a img tree fuel st { st with deep:=way.length+1,AO:=st.AO++BK n no } way Ae Ab Af Aw ce cb cf cw vs:=by
 have HL:=qh (K4 n no hlen)
 have yA:Hid ((BK n no).take n.keys.length=BK n no):=List.take_of_length_le (by rw [Fj n no hlen];exact Nat.le_refl _)
 have eT:Hid (∀ i,i≤n.keys.length→((BK n no).take i).length=i):=fun i hi=>by rw [List.length_take,Fj n no hlen];omega
 obtain ⟨Ak,ck,rfl,hck,hrk⟩:=hk
 obtain ⟨Av,cv,rfl,hcv,hrv⟩:=hv
 have aQ:Hid (0<n.keys.length→∃ b off,Ak=some ⟨b,off,none⟩∧b<w.heap.size∧∀ w',Touch (Gn a st way Ae ce Ab cb Af cf Aw cw) w w'→∀ k,k<n.keys.length→w'.cell? ⟨b,off+k,none⟩=some (.int .i64 (nth 0 n.keys k))):=fun hp=>by
  obtain ⟨b,off,e,hb,h1⟩:=BR hrk hp
  exact ⟨b,off,e,(hS b hb).1,fun w' hT k hk=>(Ap hT hS b (off+k) hb).trans (h1 k hk)⟩
 have lc:Hid (0<n.vals.length→∃ b off,Av=some ⟨b,off,none⟩∧b<w.heap.size∧¬ Gn a st way Ae ce Ab cb Af cf Aw cw b∧∀ w',Touch (Gn a st way Ae ce Ab cb Af cf Aw cw) w w'→∀ k,k<n.vals.length→w'.cell? ⟨b,off+k,none⟩=some (.string (Am (nth [] n.vals k)))):=fun hp=>by
  obtain ⟨b,off,e,hb,h1⟩:=He hrv hp
  exact ⟨b,off,e,(hS b hb).1,(hS b hb).2,fun w' hT k hk=>(Ap hT hS b (off+k) hb).trans (h1 k hk)⟩
 have halt:=h.box.lt
 have hx:=AP.new w #[.int .i64 t,.bool lf,.slice Ak n.keys.length ck,.slice Av n.vals.length cv] 173
 have h1:=h.below ((Below.refl _ w).alloc (Nat.le_refl _) (.cells #[.int .i64 t,.bool lf,.slice Ak n.keys.length ck,.slice Av n.vals.length cv] 173))
 have t1:Touch (Gn a st way Ae ce Ab cb Af cf Aw cw) w (w.alloc (.cells #[.int .i64 t,.bool lf,.slice Ak n.keys.length ck,.slice Av n.vals.length cv] 173)):=Touch.alloc _
 rw [← hlen] at *
 generalize hm:n.keys.length=m at *
 clear hm hrk hrv hlen
 go_enter Tryz.func225,Tryz.ntmps225
 go_upto_region 1 with fail
 generalize w.alloc (.cells #[.int .i64 t,.bool lf,.slice Ak m ck,.slice Av m cv] 173)=w1 at *
 obtain ⟨y0,y1,y2,y3,y4,y5,y6,y7,y8,y9⟩:=h1.cells
 have z2:=h1.free 2
 have e1:IntKind.i64.wrap ((way.length:Int)+1)=(way.length:Int)+1:=by rw [IntKind.wrap_i64];omega
 have H1:=qh (h1.WB 2 (.int .i64 ((way.length:Int)+1)) { st with deep:=(way.length:Int)+1 } rfl rfl rfl rfl)
 have HX:=qh (hx.far (b:=a) (by omega) 2 (.int .i64 ((way.length:Int)+1)))
 have HT:=qh (t1.trans (Touch.Dc (R:=Gn a st way Ae ce Ab cb Af cf Aw cw) (p:=⟨a,2,none⟩) (u:=.int .i64 ((way.length:Int)+1)) (.inl rfl)))
 clear h h1 hx t1 hck hcv
 go_upto_region 2 with fail
 generalize w1.setCell ⟨a,2,none⟩ (.int .i64 ((way.length:Int)+1))=w2 at *
 clear y0 y1 y2 y3 y4 y5 y6 y7 y8 y9 z2 e1
 have x2:=HX.out.at 2 _ rfl
 go_wp2_with fail
 go_loopw [21] (fun vi wr=>∃ i:Nat,vi=.int .i64 i∧i≤m∧Hid (TJ w wr base a img tree fuel st { st with deep:=(way.length:Int)+1,AO:=st.AO++(BK n no).take i } way Ae Ab Af Aw ce cb cf cw vs)∧Hid (AP wr w.heap.size #[.int .i64 t,.bool lf,.slice Ak m ck,.slice Av m cv] 173)) (fun vi _=>m-(intOf vi).toNat)
 case atStart=>exact ⟨0,rfl,Nat.zero_le _,qh ⟨Ae,ce,by rw [List.take_zero,List.append_nil];exact H1.out,HT.out,fun y hy=>.inl (by simpa using hy)⟩,HX⟩
 case round =>
 obtain ⟨i,rfl,hi,HR,HB⟩:=hrel
 by_cases hlt:i<m
 · obtain ⟨b,off,rfl,hb,hq⟩:=aQ.out (by omega)
   obtain ⟨b2,KD,rfl,hb2,uO,hq2⟩:=lc.out (by omega)
   have q1':=hq2
   have iM:=HL.out i hlt
   have htl:=eT.out i hi
   have Lp:Hid (∀ w',TJ w w' base a img tree fuel st { st with deep:=(way.length:Int)+1,AO:=(st.AO++(BK n no).take i)++[⟨nth 0 n.keys i,nth [] n.vals i,no⟩] } way Ae Ab Af Aw ce cb cf cw vs→TJ w w' base a img tree fuel st { st with deep:=(way.length:Int)+1,AO:=st.AO++(BK n no).take (i+1) } way Ae Ab Af Aw ce cb cf cw vs):=fun w' h=>by
    rw [iM,← List.append_assoc];exact h
   have uP:(st.AO++(BK n no).take i).length≤1000001000:=by rw [List.length_append,htl];omega
   obtain ⟨es,hes⟩:∃ es,st.AO++(BK n no).take i=es:=⟨_,rfl⟩
   rw [hes] at HR Lp uP
   clear hes htl iM q1'
   obtain ⟨Ae',ce',TG,hT,hat⟩:=HR.out
   have q0:=hq wr hT i hlt
   have q1:=hq2 wr hT i hlt
   have HRR:=qh TG
   have mE:=qh hT
   have HAT:=qh hat
   have x2:=HB.out.at 2 _ rfl
   have x3:=HB.out.at 3 _ rfl
   obtain ⟨y0,-⟩:=TG.cells
   have z0:=TG.free 0
   dsimp only at y0
   have hil:(i:Int)<(m:Int):=by omega
   have hsz:=hT.size
   have hgw:w.heap.size<wr.heap.size:=HB.out.lt
   have haw:a<wr.heap.size:=by omega
   have fU:b2<wr.heap.size:=by omega
   have Ci:wr.ownsRow base 108 3 (.slice Ae' es.length ce') es.length (AB Cq es):=TG.AO
   have hfa:some a≠(Value.slice Ae' es.length ce').ownBlock:=BC Ci TG.box (by decide)
   have hfg:some w.heap.size≠(Value.slice Ae' es.length ce').ownBlock:=BC Ci HB.out (by decide)
   have dN:some b2≠(Value.slice Ae' es.length ce').ownBlock:=fun e=>(hat b2 e.symm).elim (fun h=>uO (.inr (.inl h))) (fun h=>absurd h (by omega))
   have HRE:=qh Ci
   clear hq hq2 TG hT hat Ci
   generalize nth 0 n.keys i=p at *
   generalize nth [] n.vals i=q at *
   have hz1:(wr.drew.alloc (.cells #[.int .i64 p,.string (Am q),.int .i64 no] 108)).heap.size=wr.heap.size+1:=by simp
   have hlt1:a<(wr.drew.alloc (.cells #[.int .i64 p,.string (Am q),.int .i64 no] 108)).heap.size:=by omega
   have hlt2:w.heap.size<(wr.drew.alloc (.cells #[.int .i64 p,.string (Am q),.int .i64 no] 108)).heap.size:=by omega
   have hlt3:b2<(wr.drew.alloc (.cells #[.int .i64 p,.string (Am q),.int .i64 no] 108)).heap.size:=by omega
   clear hz1
   go_upto_region 5 with fail
   refine AF (T:=fun j=>j==19) (S:=fun w'=>w'.cell? ⟨a,0,none⟩=some (.slice Ae' es.length ce')∧w'.cell? ⟨w.heap.size,3,none⟩=some (.slice (some ⟨b2,KD,none⟩) m cv)∧w'.cell? ⟨b2,KD+i,none⟩=some (.string (Am q))∧w'.frozen? ⟨a,0,none⟩=false) (by kernel_rfl) (⟨y0,x3,q1,z0⟩) (fun hHeld=>?_)
   refine qs 0 26 hHeld ?_
   refine qs 1 27 hHeld ?_
   refine qs 2 28 hHeld ?_
   refine qs 3 29 hHeld ?_
   refine qs 4 30 hHeld ?_
   refine qf 5 31 rfl rfl hHeld (by intro w hSw;have y0:=hSw.1;go_simp;(try with_reducible rfl)) ?_
   refine qs 6 32 hHeld ?_
   refine qs 7 33 hHeld ?_
   refine qf 8 34 rfl rfl hHeld (by intro w hSw;have x3:=hSw.2.1;go_simp;(try with_reducible rfl)) ?_
   refine qs 9 35 hHeld ?_
   refine qs 10 36 hHeld ?_
   refine qf 11 37 rfl rfl hHeld (by intro w hSw;have q1:=hSw.2.2.1;go_simp;(try with_reducible rfl)) ?_
   refine qs 12 38 hHeld ?_
   refine qs 13 39 hHeld ?_
   refine qo 14 fun K hK=>?_
   go_simp
   clear hHeld
   have hHeld:=(show World.cell? (wr.drew.alloc (.cells #[.int .i64 p,.string (Am q),.int .i64 no] 108)) ⟨a,0,none⟩=some (.slice Ae' es.length ce')∧World.cell? (wr.drew.alloc (.cells #[.int .i64 p,.string (Am q),.int .i64 no] 108)) ⟨w.heap.size,3,none⟩=some (.slice (some ⟨b2,KD,none⟩) m cv)∧World.cell? (wr.drew.alloc (.cells #[.int .i64 p,.string (Am q),.int .i64 no] 108)) ⟨b2,KD+i,none⟩=some (.string (Am q))∧World.frozen? (wr.drew.alloc (.cells #[.int .i64 p,.string (Am q),.int .i64 no] 108)) ⟨a,0,none⟩=false from ⟨(World.cell?_of_block (a:=⟨a,0,none⟩) (Below.heap_alloc wr.drew _ a haw)).trans y0,(World.cell?_of_block (a:=⟨w.heap.size,3,none⟩) (Below.heap_alloc wr.drew _ w.heap.size hgw)).trans x3,(World.cell?_of_block (a:=⟨b2,KD+i,none⟩) (Below.heap_alloc wr.drew _ b2 fU)).trans q1,(World.frozen?_of_block (a:=⟨a,0,none⟩) (Below.heap_alloc wr.drew _ a haw)).trans z0⟩)
   refine hK.out _ _ (fun _=>hHeld) (fun _=>?_)
   clear hK K
   (try simp only [Act.put,qS])
   refine qo 15 fun K hK=>?_
   refine BD Tryz.underlying104 VG rfl (by omega) (by omega) rfl _ _ rfl base (.slice Ae' es.length ce') es.length (AB Cq es) rfl (HRE.out.drew.alloc _) (some ⟨wr.heap.size,0,none⟩) 1 1 [.int .i64 p,.string (Am q),.int .i64 no] rfl rfl (fun d hd=>by cases hd;exact Cm wr.drew [.int .i64 p,.string (Am q),.int .i64 no] 108) (Oo ⟨p,q,no⟩) (by omega) (by simp;omega) (by intro h;cases h) ?_
   intro A9 c9 w9 CZ Cu Fh
   have hHeld:=(show World.cell? w9 ⟨a,0,none⟩=some (.slice Ae' es.length ce')∧World.cell? w9 ⟨w.heap.size,3,none⟩=some (.slice (some ⟨b2,KD,none⟩) m cv)∧World.cell? w9 ⟨b2,KD+i,none⟩=some (.string (Am q))∧World.frozen? w9 ⟨a,0,none⟩=false from ⟨(Cu.cell_far ⟨a,0,none⟩ hlt1 hfa).trans hHeld.1,(Cu.cell_far ⟨w.heap.size,3,none⟩ hlt2 hfg).trans hHeld.2.1,(Cu.cell_far ⟨b2,KD+i,none⟩ hlt3 dN).trans hHeld.2.2.1,(Cu.frozen_far ⟨a,0,none⟩ hlt1 hfa).trans hHeld.2.2.2⟩)
   refine hK.out _ _ (fun _=>hHeld) (fun _=>?_)
   clear hK K
   (try simp only [Act.put])
   refine qo 16 fun K hK=>?_
   go_simp
   refine hK.out _ _ (fun _=>hHeld) (fun _=>?_)
   clear hK K
   (try simp only [Act.put,qS])
   refine qo 17 fun K hK=>?_
   go_simp
   refine hK.out _ _ (fun _=>hHeld) (fun _=>?_)
   clear hK K
   (try simp only [Act.put,qS])
   refine qs 18 44 hHeld ?_
   refine qo 19 fun K hK=>?_
   go_simp
   refine hK.out _ _ (fun h=>by cases h) (fun _=>?_)
   clear hK K hHeld
   (try simp only [Act.put,qS])
   refine qd ?_
   have Cu:World.grownBy (wr.drew.alloc (.cells #[.int .i64 p,.string (Am q),.int .i64 no] 108)) w9 (Value.slice Ae' es.length ce').ownBlock:=Cu
   have XI:=(HRR.out.below (w':=wr.drew) ⟨rfl,rfl,rfl,Nat.le_refl _,fun _ _=>rfl⟩).below ((Below.refl _ _).alloc (Nat.le_refl _) (.cells #[.int .i64 p,.string (Am q),.int .i64 no] 108))
   have ACq:=qh (XI.ent (x:=⟨p,q,no⟩) (A:=A9) (c:=c9) (w':=w9) (by show w9.ownsRow base 108 3 (.slice A9 (es.length+1) c9) (es.length+1) (AB Cq (es++[⟨p,q,no⟩]));rw [Ba];exact CZ) Cu)
   have I6:AP w9 w.heap.size #[.int .i64 t,.bool lf,.slice (some ⟨b,off,none⟩) m ck,.slice (some ⟨b2,KD,none⟩) m cv] 173:=(Cu.block w.heap.size hlt2 hfg).trans ((Below.heap_alloc wr.drew _ w.heap.size hgw).trans HB.out)
   have TK:=qh (I6.far (b:=a) (by omega) 0 (.slice A9 (es.length+1) c9))
   have kU:Hid (Touch (Gn a st way Ae ce Ab cb Af cf Aw cw) w (w9.setCell ⟨a,0,none⟩ (.slice A9 (es.length+1) c9))):=by
    have t2:Touch (Gn a st way Ae ce Ab cb Af cf Aw cw) wr (wr.drew.alloc (.cells #[.int .i64 p,.string (Am q),.int .i64 no] 108)):=Touch.drew.trans (Touch.alloc _)
    have t3:Touch (fun x=>(Value.slice Ae' es.length ce').ownBlock=some x) (wr.drew.alloc (.cells #[.int .i64 p,.string (Am q),.int .i64 no] 108)) w9:=Touch.BO Cu (fun x hx=>hx)
    exact ((mE.out.trans t2).trans' t3 (fun x hx=>(HAT.out x hx).elim (fun h=>.inl (.inr (.inl h))) .inr)).trans (Touch.Dc (.inl rfl))
   have ACr:Hid (∀ y,(Value.slice A9 (es.length+1) c9).ownBlock=some y→(Value.slice Ae st.AO.length ce).ownBlock=some y∨w.heap.size≤y):=fun y hy=>by
    rcases Fh y hy with h|h
    · exact HAT.out y h
    · right;rw [h];exact Nat.le_of_lt hlt2
   clear I6 Cu XI hHeld Fh CZ
   go_wp2_with fail
   go_roundw
   case rel=>exact ⟨i+1,by go_num,by omega,qh (Lp.out _ ⟨A9,c9,ACq.out,kU.out,fun y hy=>ACr.out y (by rw [List.length_append,List.length_singleton] at hy;exact hy)⟩),TK⟩
   case measure=>simp [intOf];omega
 · obtain rfl:i=m:=by omega
   have L6:=qh HR.out
   rw [yA.out] at L6
   go_wp2_with fail
   (try simp only [Exit.inBlock,Exit.then])
   exact ⟨rfl,_,results_none rfl _ _ _,⟨_,rfl⟩,L6.out⟩
end
section
open Go.RowKit Go.Shelf
attribute [local go_sem] Oper.semAt_some
def Gs (l:List Int) (ms:List (Nat × Mp)):List Int:=ms.foldl (fun l x=>bump l x.2.b) l
def refsOf (p:Pool):List Int:=Gs (List.replicate p.data.toNat 0) (pairs p.Ce)
def MK (p:Pool):List Int:=if Da p=0 then refsOf p else []
theorem XZ (l:List Int) (ms:List (Nat × Mp)) (x:Nat × Mp):Gs l (ms++[x])=bump (Gs l ms) x.2.b:=by simp [Gs]
theorem ML (l:List Int) (ms:List (Nat × Mp)):(Gs l ms).length=l.length:=by
 induction ms generalizing l with
 | nil=>rfl
 | cons x ms ih=>
   have:Gs l (x :: ms)=Gs (bump l x.2.b) ms:=rfl
   rw [this,ih,J3]
theorem nu (l:List Int) (i j:Nat) (u:Int):nth 0 (l.set i u) j=if i=j∧i<l.length then u else nth 0 l j:=by
 unfold nth
 simp only [List.getD,List.getElem?_set]
 by_cases h:i=j
 · subst h
   by_cases hi:i<l.length
   · simp [hi]
   · simp [hi]
 · simp [h]
theorem Vb:∀ (ms:List (Nat × Mp)) (l:List Int) (c:Nat),(∀ j,0≤nth 0 l j∧nth 0 l j≤c)→∀ j,0≤nth 0 (Gs l ms) j∧nth 0 (Gs l ms) j≤((c+ms.length:Nat):Int):=by
 intro ms
 induction ms with
 | nil=>intro l c h j;exact h j
 | cons x ms ih =>
  intro l c h j
  have:=ih (bump l x.2.b) (c+1) (fun j=>by
   unfold bump
   rw [nu]
   split
   · have:=h x.2.b.toNat;omega
   · have:=h j;omega) j
  have e:Gs l (x :: ms)=Gs (bump l x.2.b) ms:=rfl
  rw [e]
  simp only [List.length_cons]
  omega
theorem Qs (n j:Nat):nth 0 (List.replicate n (0:Int)) j=0:=by
 unfold nth
 by_cases h:j<n <;> simp [List.getD,h]
theorem TW (n:Nat) (ms:List (Nat × Mp)) (j:Nat):0≤nth 0 (Gs (List.replicate n 0) ms) j∧nth 0 (Gs (List.replicate n 0) ms) j≤ms.length:=by
 have:=Vb ms (List.replicate n 0) 0 (fun j=>by rw [Qs];simp) j
 simpa using this
theorem Qt {data:Int}:∀ (l:List Mp) (last:Int),Ec data last l=0→∀ m∈l,Mi data m=true:=by
 intro l
 induction l with
 | nil=>intro _ _ m hm;cases hm
 | cons x l ih =>
  intro last h m hm
  simp only [Ec] at h
  by_cases h1:Mi data x=false
  · rw [if_pos h1] at h;cases h
  · rw [if_neg h1] at h
    by_cases h2:x.v≤last
    · rw [if_pos h2] at h;cases h
    · rw [if_neg h2] at h
      rcases List.mem_cons.1 hm with rfl|hm
      · simpa using h1
      · exact ih _ h m hm
theorem Xa {data:Int}:∀ (l:List Dev) (last:Int),EY data last l=0→∀ d∈l,Es data d.maps=0∧V7 d=true:=by
 intro l
 induction l with
 | nil=>intro _ _ m hm;cases hm
 | cons x l ih =>
  intro last h d hd
  simp only [EY] at h
  by_cases h1:D6 x last≠0
  · rw [if_pos h1] at h;exact absurd h h1
  · rw [if_neg h1] at h
    by_cases h2:Es data x.maps≠0
    · rw [if_pos h2] at h;exact absurd h h2
    · rw [if_neg h2] at h
      rcases List.mem_cons.1 hd with rfl|hd
      · refine ⟨by simpa using h2,?_⟩
        cases hb:V7 d with
        | true=>rfl
        | false=>exact absurd (by unfold D6;rw [if_pos hb];simp) h1
      · exact ih _ h d hd
theorem Ib {p:Pool} (h:Da p=0):Km p=true∧NF p=true∧EY p.data (-1) p.Ce=0:=by
 unfold Da at h
 by_cases h1:Km p=false
 · rw [if_pos h1] at h;cases h
 · rw [if_neg h1] at h
   by_cases h2:NF p=false
   · rw [if_pos h2] at h;cases h
   · rw [if_neg h2] at h
     exact ⟨by simpa using h1,by simpa using h2,h⟩
theorem Qu {x:Nat × Mp}:∀ {l:List Dev} {i:Nat},x∈DT i l→∃ d∈l,x.2∈d.maps:=by
 intro l
 induction l with
 | nil=>intro i h;cases h
 | cons d l ih =>
  intro i h
  rcases List.mem_append.1 h with h|h
  · obtain ⟨m,hm,rfl⟩:=List.mem_map.1 h
    exact ⟨d,by simp,hm⟩
  · obtain ⟨d',h1,h2⟩:=ih h
    exact ⟨d',by simp [h1],h2⟩
theorem M6:∀ (l:List Dev) (i:Nat),((DT i l).length:Int)=Cz l:=by
 intro l
 induction l with
 | nil=>intro i;rfl
 | cons d l ih=>intro i;simp only [DT,List.length_append,List.length_map,Cz];have:=ih (i+1);omega
theorem ny {p:Pool} (h:Da p=0):∀ x∈pairs p.Ce,0≤x.2.b∧x.2.b<p.data:=by
 intro x hx
 obtain ⟨d,hd,hm⟩:=Qu hx
 have h1:=(Xa _ _ (Ib h).2.2 d hd).1
 have h2:=Qt _ _ h1 _ hm
 simp only [Mi,Bool.and_eq_true] at h2
 have:=SE.1 h2.2.1
 omega
theorem au {p:Pool} (h:Da p=0):(pairs p.Ce).length≤16384:=by
 have h1:=M6 p.Ce 0
 have h2:=(Ib h).2.1
 simp only [NF,decide_eq_true_eq] at h2
 unfold Pool.count at h2
 unfold pairs
 omega
theorem Rx {β:Type} (rb base g:Nat) (f:β→List Int):Own (fun s W=>Ls W rb base g (f s)):=by
 rintro s X Y row ⟨cap,h1,h2,h3,h4,h5⟩ hg hrow
 have hn1:some rb≠row:=fun e=>by obtain ⟨o,ho,hc⟩:=hrow rb e.symm;rw [show X.heap[rb]? = _ from h1] at ho;cases ho;cases hc
 have hn2:some g≠row:=fun e=>by
  obtain ⟨o,ho,hc⟩:=hrow g e.symm
  rcases h2.2 with ⟨hv,_⟩|⟨g',cap',cur,hv,_,hgb,_⟩
  · simp at hv
  · simp at hv
    rw [← hv.1] at hgb
    rw [hgb] at ho;cases ho;cases hc
 exact ⟨cap,h1.grown hg hn1,h2.kept hg (.inr (by simp [Value.ownBlock];exact hn2)),h3,Nat.lt_of_lt_of_le h4 hg.size,h5⟩
set_option maxRecDepth 100000 in
theorem jB (w:World) (S:Nat→Prop) (v:Value) (p:Pool) (hS:∀ b,S b→b<w.heap.size) (h:IP w S v p) (hok:p.ok) :
 Calls Tryz.prog 75 #[v] w fun e w'=>∃ v',e=.returned v'∧Aa w' (C9 w.heap.size w'.heap.size) v' (MK p)∧Below w.heap.size w w':=by
 have hp0:=h
 obtain ⟨A,c,rfl,hc,hr⟩:=h
 have hck:=fun w2 (hB:Below w.heap.size w w2)=>RZ w2 S _ p (fun b hb=>Nat.lt_of_lt_of_le (hS b hb) hB.size) (hp0.below hB hS) hok
 have aQ:=qh hck
 have hw1:Below w.heap.size w (w.alloc (.cells #[.int .i64 p.tx,.int .i64 p.time,.int .i64 p.unit,.int .i64 p.data,.slice A p.Ce.length c] 45)):=(Below.refl _ _).alloc (Nat.le_refl _) _
 by_cases hz:Da p=0
 · have e:MK p=refsOf p:=by unfold MK;rw [if_pos hz]
   rw [e]
   have hzb:(Da p != 0)=false:=by simp [hz]
   obtain ⟨q1,q2,_⟩:=Ib hz
   have hdat:0≤p.data∧p.data≤65536:=by simp [Km] at q1;exact SE.1 q1.2.2
   have hnd:p.Ce.length≤4096:=by simp [NF] at q2;exact q2.1
   have hpb:=ny hz
   have hpf:=au hz
   have HZ:=qh hz
   clear hz e q1 q2 hck
   obtain ⟨dn,hdn⟩:=Int.eq_ofNat_of_zero_le hdat.1
   have zJ:=qh hdn
   have hN:=fun w=>Uh w dn (by omega)
   rw [← hdn] at hN
   have HN:=qh hN
   clear hN
   have AAm:dn≤65536:=by omega
   have f1:Fence.wide.fn 36:=trivial
   have f2:Fence.wide.fn 122:=trivial
   have f3:Fence.wide.fn 123:=trivial
   clear hdn
   refine (callsIn_wide (n:=3)).1 ?_
   refine callsIn_of_wp_marks Tryz.func75 rfl trivial ?_ rfl
   simp only [Tryz.ntmps75,List.size_toArray,List.length_cons,List.length_nil,Nat.reduceAdd,Nat.reduceSub,Array.replicate_succ,Array.replicate_zero,List.push_toArray,List.append_toArray,List.nil_append,List.cons_append]
   gi_wp2_with (first
    | (gi_at_call 36;refine (callsIn_wide.2 (aQ.out _ hw1)).mono ?_;rintro e w2 ⟨rfl,hB2⟩;have hsz2:=hB2.size;have hB2':=hw1.trans (hB2.mono (by simp));have hp2:=(Qd.new w p A p.Ce.length c).below hB2 (by simp);obtain ⟨x0,x1,x2,x3,x4⟩:=hp2.cells;simp only [World.size_alloc] at hsz2)
    | (gi_at_call 122;refine (callsIn_wide.2 (HN.out _)).mono ?_;rintro e w3 ⟨rb,g,rfl,qi,AEl,hB3⟩;have zk:=hB3.size;have hp3:=hp2.below hB3 (by omega);clear x0 x1 x2 x3 x4;obtain ⟨x0,x1,x2,x3,x4⟩:=hp3.cells;have hlt3:w.heap.size<w3.heap.size:=by omega)
    | (gi_at_call 123;refine (callsIn_wide.2 (nY _ _ _ _ _)).mono ?_;rintro e w4 ⟨rfl,rfl⟩))
   have q1:=(Boxed.new w3 235 (.pointer (some ⟨rb,0,none⟩))).alloc (.cells #[.int .i64 p.tx,.int .i64 p.time,.int .i64 p.unit,.int .i64 p.data,.slice A p.Ce.length c] 45)
   have q2:=Qd.new (w3.alloc (.cells #[.pointer (some ⟨rb,0,none⟩)] 235)) p A p.Ce.length c
   have q3:Below w3.heap.size w3 ((w3.alloc (.cells #[.pointer (some ⟨rb,0,none⟩)] 235)).alloc (.cells #[.int .i64 p.tx,.int .i64 p.time,.int .i64 p.unit,.int .i64 p.data,.slice A p.Ce.length c] 45)):=((Below.refl _ w3).alloc (Nat.le_refl _) _).alloc (by simp) _
   have q4:((w3.alloc (.cells #[.pointer (some ⟨rb,0,none⟩)] 235)).alloc (.cells #[.int .i64 p.tx,.int .i64 p.time,.int .i64 p.unit,.int .i64 p.data,.slice A p.Ce.length c] 45)).heap.size=w3.heap.size+2:=by simp
   generalize (w3.alloc (.cells #[.pointer (some ⟨rb,0,none⟩)] 235)).alloc (.cells #[.int .i64 p.tx,.int .i64 p.time,.int .i64 p.unit,.int .i64 p.data,.slice A p.Ce.length c] 45)=w4 at *
   simp only [World.size_alloc] at q2
   have hB4:Below w.heap.size w w4:=(hB2'.trans (hB3.mono (by omega))).trans (q3.mono (by omega))
   have hR4:=qi.below q3
   have hS4:∀ b,S b→b<w4.heap.size:=fun b hb=>by have:=hS b hb;omega
   have hrg:g<w3.heap.size:=by obtain ⟨_,_,_,_,h,_⟩:=qi;exact h
   have hg2:w2.heap.size≤g:=by obtain ⟨_,_,_,h,_⟩:=qi;exact h
   clear x0 x1 x2 x3 x4 qi hp3 hp2
   refine wpIn_rangeFunc_ownH rfl (by omega) (gf:=186) (lb:=#[.pointer (some ⟨w3.heap.size+1,0,none⟩)]) rfl trivial (enters_of Tryz.func186 (by kernel_rfl) rfl)
    (XY Fence.wide 2 trivial rfl (by omega) (w3.heap.size+1) S A c p.Ce (fun x=>0≤x.2.b∧x.2.b<p.data) hpb w4 hS4 (by omega) (fun k hk=>by have:=(hok.dev hk).2.2.2.2.2;omega) (by omega) q2.cells.2.2.2.2 (hr.keep FM (fun _ h=>h) (AL hB4 hS)))
    AAk (fun W l o o' hl _ _ _=>AAl hS4 W l o' hl) (Below.refl _ _) (fun _=>rfl)
    (fun pre W=>(Ls W rb w2.heap.size g (Gs (List.replicate dn 0) (pre.map (·.1)))∧Boxed W w3.heap.size 235 (.pointer (some ⟨rb,0,none⟩)))∧Below w.heap.size w W)
    (fun _ _ _=>False)
    (OwnFrom.and (OwnFrom.and (Own.from (Rx _ _ _ _) _) (Own.from (boxed_own _ _ _) _)) (ownFrom_below (Nat.le_refl _) (by omega)))
    (fun _ _ _ _ _ hs _ _=>hs)
    ⟨⟨hR4,q1⟩,hB4⟩
    (fun x a' W=>∃ Bx,rD W Bx x.1.2∧a'={ tmps:=#[.agg #[.int .i64 p.tx,.int .i64 p.time,.int .i64 p.unit,.int .i64 p.data,.slice A p.Ce.length c],.pointer (some ⟨w.heap.size,0,none⟩),.slice none 0 0,.pointer (some ⟨w3.heap.size,0,none⟩),.int .i64 0,undef,.pointer (some ⟨Bx,0,none⟩),.agg #[.int .i64 p.tx,.int .i64 p.time,.int .i64 p.unit,.int .i64 p.data,.slice A p.Ce.length c],.int .i64 (Da p),.bool false,.tuple #[.pointer (some ⟨rb,0,none⟩),.int .i64 0],.pointer (some ⟨w.heap.size,3,none⟩),.int .i64 p.data,.tuple #[.pointer (some ⟨rb,0,none⟩),.int .i64 0],.pointer (some ⟨rb,0,none⟩),.int .i64 0,.agg #[.int .i64 p.tx,.int .i64 p.time,.int .i64 p.unit,.int .i64 p.data,.slice A p.Ce.length c],.func (.func 186) #[] #[.pointer (some ⟨w3.heap.size+1,0,none⟩)],.int .i64 x.1.1,.agg #[.int .i64 x.1.2.v,.int .i64 x.1.2.b,.int .i64 x.1.2.t],undef,undef,undef,undef,undef,undef],defers:=[] })
    (fun x a' _ X Y row hs hg hr=>by obtain ⟨Bx,h2,h3⟩:=hs;exact ⟨Bx,nZ Bx x.1.2 () X Y row h2 hg (fun r e=>(hr r e).2),h3⟩)
    ?assign ?body ?done ?stop
   case assign =>
    rintro l pre x W K ⟨⟨VH,hbW⟩,hBW⟩ hK
    dsimp only [nX]
    have hsz:=hBW.size
    gi_wp2
    exact hK _ _ ((KeepsOthers.alloc _ _).from _) ⟨EH (fun b hb=>by have:=hS b hb;omega) _,by simp⟩ ⟨⟨Rx rb w2.heap.size g (fun (_:Unit)=>_) () _ _ none VH (World.grownBy_alloc _ _ _) (fun r e=>by cases e),hbW.alloc _⟩,hBW.alloc hsz _⟩ ⟨W.heap.size,rD.new W x.1.2,rfl⟩
   case body =>
    rintro l pre x a' W hl ⟨r,hr⟩ ⟨⟨VH,hbW⟩,hBW⟩ ⟨Bx,hT,rfl⟩ hlt
    have e0:=hbW.cell
    obtain ⟨t0,t1,t2⟩:=hT.cell
    have hln:(Gs (List.replicate dn 0) (pre.map (·.1))).length=dn:=by rw [ML,List.length_replicate]
    have hcb:=TW dn (pre.map (·.1)) x.1.2.b.toNat
    rw [List.length_map] at hcb
    have hx1:=x.2.1
    have hx2:=x.2.2
    have hAdd:=Uf W rb w2.heap.size g _ x.1.2.b VH hx1 (by rw [hln,← zJ.out];exact hx2) (by rw [hln];exact AAm) ⟨hcb.1,by omega⟩
    have ADP:=qh hAdd
    clear hAdd hcb hln
    have f4:Fence.wide.fn 124:=trivial
    gi_wp2_with (gi_at_call 124;refine (CallsIn.inRound l (callsIn_wide.2 ADP.out)).mono ?_;rintro e w5 ⟨rfl,rfl,hR5⟩)
    have hgl:w.heap.size≤g:=by omega
    have hne:w3.heap.size≠g:=by omega
    refine ⟨(KeepsOthers.setCell _ _ _).from _,⟨FU (fun hs=>by have:=hS _ hs;simp only at this;omega) _,(KeepsOthers.setCell _ _ _).size⟩,⟨?_,?_⟩,?_⟩
    · rw [List.map_append,List.map_cons,List.map_nil,XZ];exact hR5
    · exact (Below.heap_setCell W _ _ w3.heap.size hne).trans hbW
    · exact hBW.setCell hgl _
   case done =>
    rintro D xs W hD hxs ⟨⟨VH,hbW⟩,hBW⟩ hK
    have e0:=hbW.cell
    have hLs:=Sg W rb w2.heap.size g _ VH (by rw [ML,List.length_replicate];exact AAm)
    have HLS:=qh hLs
    clear hLs
    have f4:Fence.wide.fn 125:=trivial
    gi_wp2_with (gi_at_call 125;refine (callsIn_wide.2 HLS.out).mono ?_;rintro e w5 ⟨v',rfl,hv5,BS⟩)
    have hsW:=hBW.size
    have hDW:D<W.heap.size:=(Array.getElem?_eq_some_iff.1 hK).1
    have hK5:w5.heap[D]? = some (.deferred (some [])):=(BS.block D hDW).trans hK
    refine ⟨by simp,.inl ⟨_,_,rfl,run_takeDeferred hK5,?_⟩⟩
    refine ⟨_,results_tmp rfl _ _ _,_,rfl,?_,?_⟩
    · have e:Gs (List.replicate dn 0) (xs.map (·.1))=refsOf p:=by rw [hxs];unfold refsOf;rw [zJ.out,Int.toNat_natCast]
      rw [e] at hv5
      refine hv5.keep (AA _) (fun b hb=>⟨by have:=hb.1;omega,Nat.lt_of_lt_of_le hb.2 (grownBy_putObj' w5 D _).size⟩) (Va (fun b hb=>by have:=hb.1;omega) _)
    · exact (hBW.trans (BS.mono (by omega))).grown (grownBy_putObj' w5 D _) (by have:=BS.size;omega) (fun k e=>by cases e;omega)
   case stop =>
    rintro D c pre W _ _ h _
    exact h.elim
 · have e:MK p=[]:=by unfold MK;rw [if_neg hz]
   rw [e]
   have hzb:(Da p != 0)=true:=by simp [hz]
   clear hz e hck
   go_enter Tryz.func75,Tryz.ntmps75
   go_wp2_with (go_at_call 36;refine (aQ.out _ hw1).mono ?_;rintro e w2 ⟨rfl,hB2⟩)
   go_ret
   exact ⟨_,rfl,CF.F4,hw1.trans (hB2.mono (by simp))⟩
end
end Go.Proofs.YtpenklpdjpkigaaGreat
