/- Part 5 of the proof: RWalkM, WRef3, WRef3B, WElB, CloneA, CloneB, OpenB, ByteBlk, WRef3C, WErr, WFault, WCode1. -/
import Derived.Test.YtpenklpdjpkigaaGreatY4
import Derived.Test.YtpenklpdjpkigaaGreatY3
import Derived.Test.YtpenklpdjpkigaaGreatY2
import Derived.Deep.RegionLaw
import Derived.Deep.AppendLies
import Derived.Lib.AppendStr
import Derived.Test.YtpenklpdjpkigaaGreatProg
import Derived.Test.YtpenklpdjpkigaaGreatY1
import Derived.Lib.ConvBytes
import Derived.RegionTactic
import Derived.ChangeAlike
import Derived.LaidEql
import Derived.Stop.Asserts
import Derived.RowKitTokens
import Derived.Lib.Hide
import Derived.WideLaws
import Derived.Laws.BitsAllLaws
import Derived.Deep.QuietTactic
import Derived.BigQuiet
import Derived.Outline
set_option maxHeartbeats 6400000
set_option linter.unusedVariables false
set_option linter.unusedSimpArgs false
namespace Go.Proofs.YtpenklpdjpkigaaGreat
section
open Go.RowKit
def ZQ:QV K6:=fun w S cs f=>∃ A c,cs=[.slice A f.blocks.length c,.int .i64 f.code]∧Aa w S (.slice A f.blocks.length c) f.blocks
theorem DF:Stable ZQ:=fun _ _ _ _ _ _ hs hk ⟨A,c,e,h⟩=>⟨A,c,e,h.keep (AA _) hs hk⟩
def Vs:QV NP:=fun w S cs v=>∃ A c,cs=[.int .i64 v.no,.int .i64 v.lo,.int .i64 v.hi,.slice A v.way.length c,.int .i64 v.fault]∧Aa w S (.slice A v.way.length c) v.way
theorem Ei:Stable Vs:=fun _ _ _ _ _ _ hs hk ⟨A,c,e,h⟩=>⟨A,c,e,h.keep (AA _) hs hk⟩
theorem SX (w:World) (S:Nat→Prop) (cs:List Value) (v:NP) (h:Vs w S cs v):∀ u∈cs,u.oneCell'=true:=by
 obtain ⟨A,c,rfl,_⟩:=h
 intro u hu
 simp at hu
 rcases hu with rfl|rfl|rfl|rfl|rfl <;> rfl
theorem Bj.F4 {α:Type} {R:QV α} {size:Nat} {d:α} {w:World} {S:Nat→Prop}:Bj R size d w S [] []:=⟨by simp,fun k hk=>by simp at hk⟩
theorem Bj.WH {α:Type} {R:QV α} {size:Nat} {d:α} {w:World} {S:Nat→Prop} {l r:List α} {xs ys:List Value} (h:Bj R size d w S l xs) (k:Bj R size d w S r ys):Bj R size d w S (l++r) (xs++ys):=by
 refine ⟨by rw [List.length_append,List.length_append,h.1,k.1,Nat.add_mul],fun i hi=>?_⟩
 rw [List.length_append] at hi
 by_cases hlt:i<l.length
 · obtain ⟨cs,h1,h2,h3⟩:=h.2 i hlt
   refine ⟨cs,h1,by rw [Gm _ _ _ _ hlt];exact h2,fun j hj=>?_⟩
   have:i*size+j<xs.length:=by
    rw [h.1]
    have:(i+1)*size≤l.length*size:=Nat.mul_le_mul_right _ hlt
    rw [Nat.add_mul] at this
    omega
   rw [List.getElem?_append_left this,h3 j hj]
 · obtain ⟨m,rfl⟩:∃ m,i=l.length+m:=⟨i-l.length,by omega⟩
   obtain ⟨cs,h1,h2,h3⟩:=k.2 m (by omega)
   refine ⟨cs,h1,?_,fun j hj=>?_⟩
   · have e:nth d (l++r) (l.length+m)=nth d r m:=by
       rw [Ac d _ _ (by rw [List.length_append];omega),Ac d _ _ (by omega)]
       simp [List.getElem_append_right]
     rw [e]
     exact h2
   · rw [Nat.add_mul,Nat.add_assoc,← h.1,List.getElem?_append_right (by omega),Nat.add_sub_cancel_left,h3 j hj]
theorem Bj.single {α:Type} {R:QV α} {size:Nat} {d:α} {w:World} {S:Nat→Prop} {x:α} {cs:List Value} (hl:cs.length=size) (h:R w S cs x):Bj R size d w S [x] cs :=
 ⟨by simp [hl],fun k hk=>by
  obtain rfl:k=0:=by simp at hk;omega
  exact ⟨cs,hl,h,fun j hj=>by simp⟩⟩
def RR (g:Nat) (ve vb vf:Value) (x:Nat):Prop:=x=g∨ve.ownBlock=some x∨vb.ownBlock=some x∨vf.ownBlock=some x
def Im (w:World) (base g:Nat) (ve vb vf:Value) (b:Nat):Prop:=base≤b∧b<w.heap.size∧¬ RR g ve vb vf b
structure RQ (w:World) (base g:Nat) (st:WS) (Ae:Option Addr) (ce:Nat) (Ab:Option Addr) (cb:Nat) (Af:Option Addr) (cf:Nat) (xs:List Value):Prop where
 low:base≤g
 box:AP w g #[.slice Ae st.AO.length ce,.slice Ab st.AV.length cb,.int .i64 st.deep,.int .i64 st.looked,.slice Af st.AR.length cf] 145
 AO:w.ownsRow base 108 3 (.slice Ae st.AO.length ce) st.AO.length (AB Cq st.AO)
 AV:w.ownsRow base 3 1 (.slice Ab st.AV.length cb) st.AV.length (AB encI st.AV)
 AR:w.ownsRow base 78 2 (.slice Af st.AR.length cf) st.AR.length xs
 errs:Bj ZQ 2 Qc w (Im w base g (.slice Ae st.AO.length ce) (.slice Ab st.AV.length cb) (.slice Af st.AR.length cf)) st.AR xs
abbrev Fw (g:Nat) (st:WS) (Ae:Option Addr) (ce:Nat) (Ab:Option Addr) (cb:Nat) (Af:Option Addr) (cf:Nat):Nat→Prop:=RR g (.slice Ae st.AO.length ce) (.slice Ab st.AV.length cb) (.slice Af st.AR.length cf)
abbrev Hz (w:World) (base g:Nat) (st:WS) (Ae:Option Addr) (ce:Nat) (Ab:Option Addr) (cb:Nat) (Af:Option Addr) (cf:Nat):Nat→Prop:=Im w base g (.slice Ae st.AO.length ce) (.slice Ab st.AV.length cb) (.slice Af st.AR.length cf)
section
variable {w w':World} {base g:Nat} {st st':WS} {Ae Ab Af Ae' Ab' Af':Option Addr} {ce cb cf ce' cb' cf':Nat} {xs xs':List Value}
theorem IC {ve vb vf ve' vb' vf':Value} (hT:Touch (RR g ve vb vf) w w') (hr:∀ x,RR g ve' vb' vf' x→RR g ve vb vf x∨w.heap.size≤x):(∀ b,Im w base g ve vb vf b→Im w' base g ve' vb' vf' b)∧CS (Im w base g ve vb vf) w w' :=
 ⟨fun b hb=>⟨hb.1,Nat.lt_of_lt_of_le hb.2.1 hT.size,fun h=>(hr b h).elim hb.2.2 (fun h=>by have:=hb.2.1;omega)⟩,Ap hT (fun b hb=>⟨hb.2.1,hb.2.2⟩)⟩
theorem RQ.cells (h:RQ w base g st Ae ce Ab cb Af cf xs):w.cell? ⟨g,0,none⟩=some (.slice Ae st.AO.length ce)∧w.cell? ⟨g,1,none⟩=some (.slice Ab st.AV.length cb)∧w.cell? ⟨g,2,none⟩=some (.int .i64 st.deep)∧w.cell? ⟨g,3,none⟩=some (.int .i64 st.looked)∧w.cell? ⟨g,4,none⟩=some (.slice Af st.AR.length cf) :=
 ⟨h.box.at 0 _ rfl,h.box.at 1 _ rfl,h.box.at 2 _ rfl,h.box.at 3 _ rfl,h.box.at 4 _ rfl⟩
theorem RQ.ZR (h:RQ w base g st Ae ce Ab cb Af cf xs):∀ x,Fw g st Ae ce Ab cb Af cf x→base≤x∧x<w.heap.size:=by
 rintro x (rfl|e|e|e)
 · exact ⟨h.low,h.box.lt⟩
 · exact h.AO.lt x e
 · exact h.AV.lt x e
 · exact h.AR.lt x e
theorem RQ.below (h:RQ w base g st Ae ce Ab cb Af cf xs) (hB:Below w.heap.size w w'):RQ w' base g st Ae ce Ab cb Af cf xs:=by
 obtain ⟨k1,k2⟩:=IC (base:=base) (g:=g) (ve:=.slice Ae st.AO.length ce) (vb:=.slice Ab st.AV.length cb) (vf:=.slice Af st.AR.length cf) (Touch.of_below hB) (fun x h=>.inl h)
 exact ⟨h.low,h.box.below hB h.box.lt,own_below h.AO hB (Nat.le_refl _),own_below h.AV hB (Nat.le_refl _),own_below h.AR hB (Nat.le_refl _),h.errs.keep DF k1 k2⟩
theorem RQ.WB (h:RQ w base g st Ae ce Ab cb Af cf xs) (i:Nat) (u:Value) (st':WS) (he:st'.AO=st.AO) (hb:st'.AV=st.AV) (hf:st'.AR=st.AR)
 (sK:(#[.slice Ae st.AO.length ce,.slice Ab st.AV.length cb,.int .i64 st.deep,.int .i64 st.looked,.slice Af st.AR.length cf]:Array Value).setIfInBounds i u=#[.slice Ae st.AO.length ce,.slice Ab st.AV.length cb,.int .i64 st'.deep,.int .i64 st'.looked,.slice Af st.AR.length cf]) :
 RQ (w.setCell ⟨g,i,none⟩ u) base g st' Ae ce Ab cb Af cf xs:=by
 have hbx:=h.box.set i u
 rw [sK] at hbx
 obtain ⟨k1,k2⟩:=IC (base:=base) (g:=g) (ve:=.slice Ae st.AO.length ce) (vb:=.slice Ab st.AV.length cb) (vf:=.slice Af st.AR.length cf) (Touch.Dc (R:=RR g (.slice Ae st.AO.length ce) (.slice Ab st.AV.length cb) (.slice Af st.AR.length cf)) (w:=w) (p:=⟨g,i,none⟩) (u:=u) (.inl rfl)) (fun x h=>.inl h)
 obtain ⟨e',b',d',l',f',y'⟩:=st'
 dsimp only at he hb hf hbx
 subst he hb hf
 exact ⟨h.low,hbx,Ah (a:=⟨g,i,none⟩) h.AO (BL (g:=g) h.AO h.box (by decide)) u,Ah (a:=⟨g,i,none⟩) h.AV (BL (g:=g) h.AV h.box (by decide)) u,Ah (a:=⟨g,i,none⟩) h.AR (BL (g:=g) h.AR h.box (by decide)) u,h.errs.keep DF k1 k2⟩
theorem RQ.flt (h:RQ w base g st Ae ce Ab cb Af cf xs) {f:K6} {cs:List Value} {A:Option Addr} {c:Nat} (hl:cs.length=2) (hown:w'.ownsRow base 78 2 (.slice A (st.AR.length+1) c) (st.AR.length+1) (xs++cs)) (hg:w.grownBy w' (Value.slice Af st.AR.length cf).ownBlock)
 (hat:∀ y,(Value.slice A (st.AR.length+1) c).ownBlock=some y→(Value.slice Af st.AR.length cf).ownBlock=some y∨w.heap.size≤y) (hv:ZQ w (Hz w base g st Ae ce Ab cb Af cf) cs f) :
 RQ (w'.setCell ⟨g,4,none⟩ (.slice A (st.AR.length+1) c)) base g (Ad st f) Ae ce Ab cb A c (xs++cs)∧Touch (Fw g st Ae ce Ab cb Af cf) w (w'.setCell ⟨g,4,none⟩ (.slice A (st.AR.length+1) c))∧∀ x,Fw g (Ad st f) Ae ce Ab cb A c x→Fw g st Ae ce Ab cb Af cf x∨w.heap.size≤x:=by
 have hbx:AP w' g _ 145:=(hg.block g h.box.lt (BC h.AR h.box (by decide))).trans h.box
 have e1:=BH h.AO h.AR (by decide) hg
 have e2:=BH h.AV h.AR (by decide) hg
 have hfl:(Ad st f).AR.length=st.AR.length+1:=by simp [Ad]
 have hT:Touch (Fw g st Ae ce Ab cb Af cf) w (w'.setCell ⟨g,4,none⟩ (.slice A (st.AR.length+1) c)):=(Touch.BO hg (fun x hx=>.inr (.inr (.inr hx)))).trans (Touch.Dc (.inl rfl))
 have hR:∀ x,Fw g (Ad st f) Ae ce Ab cb A c x→Fw g st Ae ce Ab cb Af cf x∨w.heap.size≤x:=fun x hx=>by
  rcases hx with h|h|h|h
  · exact .inl (.inl h)
  · exact .inl (.inr (.inl h))
  · exact .inl (.inr (.inr (.inl h)))
  · rw [hfl] at h
    exact (hat x h).imp (fun h=>.inr (.inr (.inr h))) id
 obtain ⟨k1,k2⟩:=IC (base:=base) hT hR
 refine ⟨⟨h.low,?_,Ah (a:=⟨g,4,none⟩) e1 (BL (g:=g) e1 hbx (by decide)) _,Ah (a:=⟨g,4,none⟩) e2 (BL (g:=g) e2 hbx (by decide)) _,?_,?_⟩,hT,hR⟩
 · have:=hbx.set 4 (.slice A (st.AR.length+1) c)
   rw [hfl]
   exact this
 · rw [hfl]
   exact Ah (a:=⟨g,4,none⟩) hown (BL (g:=g) hown hbx (by decide)) _
 · exact (h.errs.WH (Bj.single hl hv)).keep DF k1 k2
theorem RQ.blk (h:RQ w base g st Ae ce Ab cb Af cf xs) {x:Int} {A:Option Addr} {c:Nat} (hown:w'.ownsRow base 3 1 (.slice A (st.AV.length+1) c) (st.AV.length+1) (AB encI (st.AV++[x]))) (hg:w.grownBy w' (Value.slice Ab st.AV.length cb).ownBlock)
 (hat:∀ y,(Value.slice A (st.AV.length+1) c).ownBlock=some y→(Value.slice Ab st.AV.length cb).ownBlock=some y∨w.heap.size≤y) :
 RQ (w'.setCell ⟨g,1,none⟩ (.slice A (st.AV.length+1) c)) base g { st with AV:=st.AV++[x] } Ae ce A c Af cf xs∧Touch (Fw g st Ae ce Ab cb Af cf) w (w'.setCell ⟨g,1,none⟩ (.slice A (st.AV.length+1) c))∧∀ y,Fw g { st with AV:=st.AV++[x] } Ae ce A c Af cf y→Fw g st Ae ce Ab cb Af cf y∨w.heap.size≤y:=by
 have hbx:AP w' g _ 145:=(hg.block g h.box.lt (BC h.AV h.box (by decide))).trans h.box
 have e1:=BH h.AO h.AV (by decide) hg
 have e2:=BH h.AR h.AV (by decide) hg
 have hfl:(st.AV++[x]).length=st.AV.length+1:=by simp
 have hT:Touch (Fw g st Ae ce Ab cb Af cf) w (w'.setCell ⟨g,1,none⟩ (.slice A (st.AV.length+1) c)):=(Touch.BO hg (fun x hx=>.inr (.inr (.inl hx)))).trans (Touch.Dc (.inl rfl))
 have hR:∀ y,Fw g { st with AV:=st.AV++[x] } Ae ce A c Af cf y→Fw g st Ae ce Ab cb Af cf y∨w.heap.size≤y:=fun y hx=>by
  rcases hx with h|h|h|h
  · exact .inl (.inl h)
  · exact .inl (.inr (.inl h))
  · dsimp only at h
    rw [hfl] at h
    exact (hat y h).imp (fun h=>.inr (.inr (.inl h))) id
  · exact .inl (.inr (.inr (.inr h)))
 obtain ⟨k1,k2⟩:=IC (base:=base) hT hR
 refine ⟨⟨h.low,?_,Ah (a:=⟨g,1,none⟩) e1 (BL (g:=g) e1 hbx (by decide)) _,?_,Ah (a:=⟨g,1,none⟩) e2 (BL (g:=g) e2 hbx (by decide)) _,h.errs.keep DF k1 k2⟩,hT,hR⟩
 · have:=hbx.set 1 (.slice A (st.AV.length+1) c)
   rw [hfl]
   exact this
 · rw [hfl]
   exact Ah (a:=⟨g,1,none⟩) hown (BL (g:=g) hown hbx (by decide)) _
theorem RQ.ent (h:RQ w base g st Ae ce Ab cb Af cf xs) {x:Kq} {A:Option Addr} {c:Nat} (hown:w'.ownsRow base 108 3 (.slice A (st.AO.length+1) c) (st.AO.length+1) (AB Cq (st.AO++[x]))) (hg:w.grownBy w' (Value.slice Ae st.AO.length ce).ownBlock)
 (hat:∀ y,(Value.slice A (st.AO.length+1) c).ownBlock=some y→(Value.slice Ae st.AO.length ce).ownBlock=some y∨w.heap.size≤y) :
 RQ (w'.setCell ⟨g,0,none⟩ (.slice A (st.AO.length+1) c)) base g { st with AO:=st.AO++[x] } A c Ab cb Af cf xs∧Touch (Fw g st Ae ce Ab cb Af cf) w (w'.setCell ⟨g,0,none⟩ (.slice A (st.AO.length+1) c))∧∀ y,Fw g { st with AO:=st.AO++[x] } A c Ab cb Af cf y→Fw g st Ae ce Ab cb Af cf y∨w.heap.size≤y:=by
 have hbx:AP w' g _ 145:=(hg.block g h.box.lt (BC h.AO h.box (by decide))).trans h.box
 have e1:=BH h.AV h.AO (by decide) hg
 have e2:=BH h.AR h.AO (by decide) hg
 have hfl:(st.AO++[x]).length=st.AO.length+1:=by simp
 have hT:Touch (Fw g st Ae ce Ab cb Af cf) w (w'.setCell ⟨g,0,none⟩ (.slice A (st.AO.length+1) c)):=(Touch.BO hg (fun x hx=>.inr (.inl hx))).trans (Touch.Dc (.inl rfl))
 have hR:∀ y,Fw g { st with AO:=st.AO++[x] } A c Ab cb Af cf y→Fw g st Ae ce Ab cb Af cf y∨w.heap.size≤y:=fun y hx=>by
  rcases hx with h|h|h|h
  · exact .inl (.inl h)
  · dsimp only at h
    rw [hfl] at h
    exact (hat y h).imp (fun h=>.inr (.inl h)) id
  · exact .inl (.inr (.inr (.inl h)))
  · exact .inl (.inr (.inr (.inr h)))
 obtain ⟨k1,k2⟩:=IC (base:=base) hT hR
 refine ⟨⟨h.low,?_,?_,Ah (a:=⟨g,0,none⟩) e1 (BL (g:=g) e1 hbx (by decide)) _,Ah (a:=⟨g,0,none⟩) e2 (BL (g:=g) e2 hbx (by decide)) _,h.errs.keep DF k1 k2⟩,hT,hR⟩
 · have:=hbx.set 0 (.slice A (st.AO.length+1) c)
   rw [hfl]
   exact this
 · rw [hfl]
   exact Ah (a:=⟨g,0,none⟩) hown (BL (g:=g) hown hbx (by decide)) _
end
end
section
open Go.RowKit
attribute [local go_sem] Oper.semAt_some
theorem eU:(Tryz.prog.info? 9).map (fun i=>(i.zero,i.size,i.bytes))=some (some (.string ByteArray.empty),1,16):=by kernel_rfl
def EJ (w:World) (base a:Nat) (B:List (List UInt8)):Prop:=base≤a∧∃ A c,One w a (.slice A B.length c) 51∧w.ownsRow base 9 1 (.slice A B.length c) B.length (AB encS B)
def chunk (bs:List UInt8) (n:Nat):List (List UInt8):=(List.range n).map (IB bs)
theorem G7 (bs:List UInt8) (n:Nat):(chunk bs n).length=n:=by simp [chunk]
theorem WI (bs:List UInt8) (n:Nat):chunk bs (n+1)=chunk bs n++[IB bs n]:=by simp [chunk,List.range_succ]
section
variable {w w':World} {base a B:Nat} {L:List (List UInt8)}
theorem EJ.lt (h:EJ w base a L):a<w.heap.size:=by obtain ⟨_,A,c,h1,_⟩:=h;exact h1.lt
theorem EJ.below (h:EJ w base a L) (hB:Below B w w') (hb:w.heap.size≤B):EJ w' base a L:=by
 have hlt:=h.lt
 obtain ⟨h0,A,c,h1,h2⟩:=h
 refine ⟨h0,A,c,h1.below hB (by omega),h2.1,?_⟩
 rcases h2.2 with h0|⟨g,cap,cur,hv,hb',hg,rest⟩
 · exact .inl h0
 · exact .inr ⟨g,cap,cur,hv,hb',(hB.block g (by have:=(Array.getElem?_eq_some_iff.1 hg).1;omega)).trans hg,rest⟩
theorem EJ.ne {A:Option Addr} {c n g:Nat} {xs:List Value} (h1:One w a (.slice A n c) 51) (h2:w.ownsRow base 9 1 (.slice A n c) n xs) (hg:(Value.slice A n c).ownBlock=some g):g≠a:=by
 rintro rfl
 rcases h2.2 with ⟨hv,_⟩|⟨g',cap,cur,hv,_,hh,_⟩
 · injection hv with e;subst e;simp [Value.ownBlock] at hg
 · rw [hv] at hg
   have:g'=g:=by simpa [Value.ownBlock] using hg
   subst this
   unfold One at h1
   rw [h1] at hh
   injection hh with hh
   injection hh with _ ht
   exact absurd ht (by decide)
end
set_option maxRecDepth 100000 in
theorem Ua {w w7:World} {o:Obj} {base a gg cap c:Nat} {A:Option Addr} {L:List (List UInt8)} {b:List UInt8} (h0:base≤a) (h1:One w a (.slice A L.length c) 51) (h2:w.ownsRow base 9 1 (.slice A L.length c) L.length (AB encS L)) (hgrow:(w.alloc o).drew.grownBy w7 (Value.slice A L.length c).ownBlock) (hat:(Value.slice A L.length c).ownBlock=some gg∨gg=w.heap.size+1)
 (hown:w7.ownsRow base 9 1 (.slice (some ⟨gg,0,none⟩) (L.length+1) cap) (L.length+1) (AB encS L++[.string (Am b)])) :
 EJ (w7.setCell ⟨a,0,none⟩ (.slice (some ⟨gg,0,none⟩) (L.length+1) cap)) base a (L++[b]):=by
 have hna:(Value.slice A L.length c).ownBlock≠some a:=fun e=>EJ.ne h1 h2 e rfl
 have hlt:=h1.lt
 have hgg:gg≠a:=by
  rcases hat with h|h
  · exact EJ.ne h1 h2 h
  · omega
 have h7:One w7 a (.slice A L.length c) 51:=(hgrow.block a (by simp;omega) (Ne.symm hna)).trans ((Below.heap_alloc w o a hlt).trans h1)
 refine ⟨h0,some ⟨gg,0,none⟩,cap,?_,?_⟩
 · rw [List.length_append,List.length_singleton]
   exact h7.Dc
 · rw [List.length_append,List.length_singleton,Ba,KN]
   exact hown.kept (row:=some a) ⟨rfl,rfl,rfl,by simp [World.setCell],fun k _ hne=>Below.heap_setCell w7 ⟨a,0,none⟩ _ k (fun e=>hne (by rw [e]))⟩ (.inr (by simp [Value.ownBlock];exact hgg))
set_option maxRecDepth 100000 in
theorem WJ (w:World) (S:Nat→Prop) (v:Value) (l:List UInt8) (hS:∀ b,S b→b<w.heap.size) (h:AX w S v l) (hn:l.length≤140737488355328) :
 Calls Tryz.prog 7 #[v] w fun e w'=>∃ a,e=.returned (.pointer (some ⟨a,0,none⟩))∧EJ w' w.heap.size a (chunk l (Bc l.length))∧Below w.heap.size w w':=by
 obtain ⟨A,c,rfl,hc,hr⟩:=h
 have hk1:Below w.heap.size w (w.alloc (.cells #[.slice none 0 0] 51)):=(Below.refl _ _).alloc (Nat.le_refl _) _
 have hor:EJ (w.alloc (.cells #[.slice none 0 0] 51)) w.heap.size w.heap.size (chunk l 0):=⟨Nat.le_refl _,none,0,One.new w _ _,World.ownsRow_nil _ _ _ _⟩
 have HR:=qh hr
 have hbl:=LC l.length
 clear hr
 generalize hnn:l.length=n at *
 have HN:=qh hnn
 have SY:=qh (show Bc n=min (n / 256) 14400 from rfl)
 clear hnn
 generalize Bc n=nb at *
 go_enter Tryz.func7,Tryz.ntmps7
 go_wp2_with fail
 go_loopw [0] (fun t wr=>∃ (k:Nat) (A':Option Addr) (c' m:Nat),t=.slice A' m c'∧k≤nb∧m=n-k*256∧m≤c'∧Cx w S A' (l.drop (k*256))∧EJ wr w.heap.size w.heap.size (chunk l k)∧Below w.heap.size w wr) (fun t _=>match t with|.slice _ m _=>m|_=>0)
 case atStart=>exact ⟨0,A,c,n,rfl,by omega,by omega,hc,by simpa using HR.out,hor,hk1⟩
 case round =>
  clear hor hk1
  obtain ⟨k,A',c',m,rfl,hk,hm,hmc,hrow,hor,hB⟩:=hrel
  have lL:=G7 l k
  have hoo:=hor
  obtain ⟨h0,Al,cl,h1,h2⟩:=hor
  rw [lL] at h1
  have hce:=h1.cell
  have hdl:(l.drop (k*256)).length=m:=by rw [List.length_drop,HN.out];omega
  have WK:=qh hdl
  have HM:=qh hm
  clear hm hdl h0
  by_cases hge:256≤m∧k<14400
  · obtain ⟨hg1,hg2⟩:=hge
    obtain ⟨b,off,rfl,hSb,_⟩:=BU hrow (by rw [WK.out];omega)
    have hsub:Cx wr.drew S (some ⟨b,off,none⟩) (IB l k):=(BX.take hrow 256).keep (AA _) (fun _ h=>h) (AL hB.drew hS)
    have yV:(IB l k).length=256:=by unfold IB;rw [List.length_take,WK.out];omega
    have hcv:=JI (c:=c') 22 5 Tryz.underlying22 Tryz.underlying5 hsub 9 Tryz.underlying9
    rw [yV] at hcv
    have hnext:=BX.drop (k:=256) hrow (by rw [WK.out];omega) (by rw [WK.out];exact hmc)
    rw [List.drop_drop,show k*256+256=(k+1)*256 by omega] at hnext
    have Lp:=qh hnext
    have hgr:=fun (w7:World) (o:Obj) (gg cap:Nat)=>Ua (w:=wr) (w7:=w7) (o:=o) (base:=w.heap.size) (a:=w.heap.size) (gg:=gg) (cap:=cap) (c:=cl) (A:=Al) (L:=chunk l k) (b:=IB l k) (Nat.le_refl _) (by rw [lL];exact h1) h2
    rw [lL] at hgr h2
    rw [← WI] at hgr
    have HGR:=qh hgr
    have HH2:=qh h2
    have hfz:=h1.free
    have hal:=h1.lt
    have hzz:=hB.size
    have hna:(Value.slice Al k cl).ownBlock≠some w.heap.size:=fun e=>EJ.ne h1 h2 e rfl
    obtain ⟨i0,hi0,hz0,hz1,hz2⟩:=info_parts eU
    have i1:(256:Int)≤(c':Int):=by omega
    have i2:(256:Int)≤(m:Int):=by omega
    clear hsub hnext hgr h2 hrow hoo lL yV
    generalize Am (IB l k)=sb at *
    have HCA:=qh (fun o=>(Below.cell (p:=⟨w.heap.size,0,none⟩) (((Below.refl wr.heap.size wr).alloc (Nat.le_refl _) o).drew) hal).trans hce)
    have HFA:=qh (fun o=>(Below.frozen (p:=⟨w.heap.size,0,none⟩) (((Below.refl wr.heap.size wr).alloc (Nat.le_refl _) o).drew) hal).trans hfz)
    go_wp2_with fail
    go_region_law
     ((refine step_append_lies _ (by rfl) _ _ _ (by rfl) w.heap.size 9 i0 _ 1 16 Tryz.underlying49 hi0 hz0 hz1 hz2 rfl (by omega) (.slice Al k cl) k (AB encS (chunk l k)) (by rfl) ((HH2.out.alloc _).drew) ⟨wr.heap.size,0,none⟩ 1 1 [.string sb] (by rfl) (by rfl) (World.news_of_block (cs:=#[.string sb]) (t:=9) (fr:=(0,0)) (heap_alloc_new wr _)) (by simp [Value.oneCell']) (by omega) (by unfold maxLen;omega) (by omega) (by simp;omega) (wr.heap.size+1) (by simp) ?_;intro gg cap w7 hown1 hgrow hat hlt;have yX:=(hgrow.cell_far ⟨w.heap.size,0,none⟩ (by simp;omega) (Ne.symm hna)).trans (HCA.out _);have ABz:=(hgrow.frozen_far ⟨w.heap.size,0,none⟩ (by simp;omega) (Ne.symm hna)).trans (HFA.out _)))
    all_goals (
     have hnew:=HGR.out w7 _ gg cap hgrow hat hown1
     have hbel:Below w.heap.size w (w7.setCell ⟨w.heap.size,0,none⟩ (.slice (some ⟨gg,0,none⟩) (k+1) cap)):=(((hB.alloc hzz (.cells #[.string sb] 9)).drew).grown hgrow (by simp;omega) (fun i hi=>(HH2.out.lt i hi).1)).setCell (p:=⟨w.heap.size,0,none⟩) (Nat.le_refl _) _
     have lM:=qh hnew
     have yY:=qh hbel
     have hk':k+1≤nb:=by
      have h3:=HM.out
      have h4:=SY.out
      omega
     clear hnew hbel hcv hown1 hgrow yX ABz hce h1 hfz
     have hnx:=Lp.out
     by_cases hcc:c'=256
     · have hm2:m=256:=by omega
       rw [if_pos hcc] at hnx
       have sN:=qh hnx
       subst hm2
       subst hcc
       clear hnx
       go_wp2_with fail
       go_roundw
       case rel=>exact ⟨k+1,some ⟨b,off,none⟩,0,0,rfl,hk',by have:=HM.out;omega,by omega,sN.out,lM.out,yY.out⟩
       case measure=>simp <;> omega
     · rw [if_neg hcc] at hnx
       have sN:=qh hnx
       clear hnx
       go_wp2_with fail
       go_roundw
       case rel=>exact ⟨k+1,some ⟨b,off+256,none⟩,c'-256,m-256,rfl,hk',by have:=HM.out;omega,by omega,sN.out,lM.out,yY.out⟩
       case measure=>simp <;> omega)
  · have hke:k=nb:=by
      have h3:=HM.out
      have h4:=SY.out
      omega
    have xO:=qh hke
    have HOO:=qh hoo
    clear hke hoo h2 hrow
    by_cases hg1:256≤m
    · have hg2:¬ k<14400:=by omega
      clear hge
      go_wp2_with fail
      go_ret
      exact ⟨_,rfl,by rw [← xO.out];exact HOO.out,hB⟩
    · clear hge
      go_wp2_with fail
      go_ret
      exact ⟨_,rfl,by rw [← xO.out];exact HOO.out,hB⟩
end
section
open Go.RowKit
attribute [local go_sem] Oper.semAt_some
def O5 (w:World) (S:Nat→Prop) (a:Nat) (B:List (List UInt8)):Prop:=S a∧∃ A c,w.cell? ⟨a,0,none⟩=some (.slice A B.length c)∧B.length≤c∧BX (Flat encS) 1 [] w S A B
section
variable {w w':World} {S S':Nat→Prop} {a base:Nat} {B:List (List UInt8)}
theorem O5.keep (h:O5 w S a B) (hs:∀ b,S b→S' b) (hk:CS S w w'):O5 w' S' a B:=by
 obtain ⟨h0,A,c,h1,h2,h3⟩:=h
 exact ⟨hs a h0,A,c,(hk a 0 h0).trans h1,h2,h3.keep (AA _) hs hk⟩
theorem EJ.is (h:EJ w base a B) (hS:∀ b,base≤b→b<w.heap.size→S b):O5 w S a B:=by
 obtain ⟨h0,A,c,h1,h2⟩:=h
 obtain ⟨A',c',e,hc,hr⟩:=CF.own (d:=([]:List UInt8)) Oh h2 (by omega)
 injection e with e1 e2 e3
 subst e1 e3
 exact ⟨hS a h0 h1.lt,A,c,h1.cell,hc,hr.keep (AA _) (fun b hb=>hS b hb.1 hb.2) CS.refl⟩
end
theorem Qe (l:List UInt8):Lib.strCells (Am l)=AB Au l:=by rw [Bu];rfl
end
section
open Go.RowKit
theorem sO:Elem Tryz.prog 22 5 1 1 Au:=⟨Tryz.underlying22,⟨_,(by kernel_rfl:(Tryz.prog.info? 5).map (fun i=>(i.zero,i.size,i.bytes))=some (some (.int .u8 0),1,1)),rfl⟩,by omega,by omega,D8,eB⟩
def eX (w:World) (A:Option Addr) (n c:Nat) (b:List UInt8):Prop:=∀ w',Below w.heap.size w w'→(convert 22 9 (.slice A n c)).run Tryz.prog w'=.ok (.string (Am b)) w'
theorem eY {w:World} {S:Nat→Prop} {A:Option Addr} {n c:Nat} {b:List UInt8} (hS:∀ b,S b→b<w.heap.size) (hn:b.length=n) (h:Cx w S A b):eX w A n c b:=fun w' hB=>by
 subst hn
 exact JI (c:=c) 22 5 Tryz.underlying22 Tryz.underlying5 (h.keep (AA _) (fun _ h=>h) (AL hB hS)) 9 Tryz.underlying9
theorem NR {w:World} {base n c:Nat} {A:Option Addr} {b:List UInt8} (h:w.ownsRow base 5 1 (.slice A n c) n (AB Au b)):eX w A n c b:=by
 obtain ⟨A',c',e,hc,hr⟩:=CF.own (d:=(0:UInt8)) D8 h (by omega)
 injection e with e1 e2 e3
 subst e1 e3
 exact eY (fun b hb=>hb.2) e2.symm hr
theorem ZT {w:World} {S:Nat→Prop} {b off:Nat} {l:List UInt8} (h:Cx w S (some ⟨b,off,none⟩) l):∀ j u,(AB Au l)[j]? = some u→w.cell? ((⟨b,off,none⟩:Addr).add j)=some u:=fun j u hu=>by
 have hj:j<l.length:=by
  have:=(List.getElem?_eq_some_iff.1 hu).1
  rwa [BI] at this
 obtain ⟨b',off',e,_,hc⟩:=BU h (by omega)
 injection e with e
 injection e with e1 e2 _
 subst e1 e2
 rw [Bu,List.getElem?_map,List.getElem?_eq_getElem hj] at hu
 injection hu with hu
 rw [add_lit,hc j hj,Ac 0 l j hj,← hu]
theorem Iu (l:List UInt8):(Am l).toList=l:=by unfold Am;rw [ByteArray.toList_mk]
theorem eZ (k n:Nat):leB (k+1) n=leB k n++[UInt8.ofNat (n / 256 ^ k % 256)]:=by
 rw [Oc 1 k n]
 rfl
end
section
open Go.RowKit
theorem Ej:(Tryz.prog.info? 3).map (fun i=>(i.zero,i.size,i.bytes))=some (some (.int .i64 0),1,8):=by kernel_rfl
def Or_ (S:Nat→Prop) (B B':Nat):Nat→Prop:=fun b=>S b∨(B≤b∧b<B')
end
section
open Go.RowKit
end
section
open Go.RowKit
theorem lN:Oz Tryz.prog 22 (RSl (Flat Au) 1 (0:UInt8)) (fun l=>(∀ a∈l,True)∧l.length*1≤reachBytes):=UV Tryz.underlying22 Tryz.underlying5 (by kernel_rfl) (by kernel_rfl)
end
section
open Go.RowKit
def E9 (w:World) (g:Nat) (b:List UInt8):Prop:=∃ (cs:Array Value) (zs:List Value),w.heap[g]? = some (.cells cs 5 (cs.size,cs.size+1))∧cs.toList=AB Au b++zs
section
variable {w w':World} {g:Nat} {b:List UInt8}
theorem E9.lt (h:E9 w g b):g<w.heap.size:=by obtain ⟨cs,zs,h1,_⟩:=h;exact (Array.getElem?_eq_some_iff.1 h1).1
theorem E9.cell (h:E9 w g b) {k:Nat} (hk:k<b.length):w.cell? ⟨g,k,none⟩=some (.int .u8 ((nth 0 b k).toNat:Int)):=by
 obtain ⟨cs,zs,h1,h2⟩:=h
 rw [cell_of_row w g k cs _ _ h1,← Array.getElem?_toList,h2,List.getElem?_append_left (by rw [BI];exact hk),Bu,List.getElem?_map,List.getElem?_eq_getElem hk,Ac 0 b k hk]
 rfl
theorem E9.isl (h:E9 w g b) {S:Nat→Prop} {c:Nat} (hS:S g) (hc:b.length≤c):AX w S (.slice (some ⟨g,0,none⟩) b.length c) b :=
 ⟨_,c,rfl,hc,fun _=>⟨g,0,rfl,hS,fun k hk=>⟨Au (nth 0 b k),rfl,rfl,fun j u hu=>by
  rcases j with _|j
  · simp [Au] at hu
    subst hu
    simpa using h.cell hk
  · simp [Au] at hu⟩⟩⟩
theorem E9.below {B:Nat} (h:E9 w g b) (hB:Below B w w') (hg:g<B):E9 w' g b:=by
 obtain ⟨cs,zs,h1,h2⟩:=h
 exact ⟨cs,zs,(hB.block g hg).trans h1,h2⟩
end
theorem IE (w:World) (b:List UInt8):E9 (Lib.bytesWorld w 5 (Am b)) w.heap.size b:=by
 refine ⟨Lib.bytesCells w 5 (Am b),List.replicate (grownCap w (Am b).size 0 5-(Am b).size) (.int .u8 0),Lib.bytesWorld_at_new w _ _,?_⟩
 unfold Lib.bytesCells
 rw [Bu]
 simp [Am]
theorem bytesWorld_below (w:World) (b:List UInt8):Below w.heap.size w (Lib.bytesWorld w 5 (Am b)):=⟨rfl,rfl,rfl,by rw [Lib.bytesWorld_size];omega,fun j hj=>Lib.bytesWorld_at_old w _ _ j hj⟩
theorem Sa (w:World) (l:List UInt8):(convert 9 22 (.string (Am l))).run Tryz.prog w=.ok (.slice (some ⟨w.heap.size,0,none⟩) l.length (grownCap w l.length 0 5)) (Lib.bytesWorld w 5 (Am l)):=by
 have h:=Lib.run_convert_string_bytes (P:=Tryz.prog) w 9 22 5 (Am l) (u:=.string) Tryz.underlying9 Tryz.underlying22 Tryz.underlying5
 rw [ER] at h
 exact h
end
section
open Go.RowKit
attribute [local go_sem] Oper.semAt_some
set_option maxRecDepth 100000 in
theorem Ub (w:World) (S:Nat→Prop) (a k:Nat) (B:List (List UInt8)) (h:O5 w S a B) (hk:k<B.length) (yZ:(nth [] B k).length=256) :
 Calls Tryz.prog 101 #[.pointer (some ⟨a,0,none⟩),.int .i64 k] w fun e w'=>∃ c,e=.returned (.tuple #[.slice (some ⟨w.heap.size,0,none⟩) 256 c,.int .i64 0])∧256≤c∧E9 w' w.heap.size (nth [] B k)∧Below w.heap.size w w':=by
 obtain ⟨h0,A,c,h1,h2,h3⟩:=h
 obtain ⟨b,off,rfl,hSb,hcl⟩:=He h3 (by omega)
 have q:=hcl k hk
 have hcv:=Lib.run_convert_string_bytes (P:=Tryz.prog) w 9 22 5 (Am (nth [] B k)) (u:=.string) Tryz.underlying9 Tryz.underlying22 Tryz.underlying5
 have hsz:(Am (nth [] B k)).size=256:=by rw [ER,yZ]
 rw [hsz] at hcv
 have hb:=IE w (nth [] B k)
 have hB:=bytesWorld_below w (nth [] B k)
 have hcap:256≤grownCap w 256 0 5:=grownCap_ge w 256 0 5
 clear hcl h3 hsz yZ
 generalize nth [] B k=y at *
 generalize Lib.bytesWorld w 5 (Am y)=w1 at *
 generalize Am y=sy at *
 generalize B.length=n at *
 generalize grownCap w 256 0 5=cc at *
 go_enter Tryz.func101,Tryz.ntmps101
 go_wp2_with fail
 go_ret2
 exact ⟨cc,rfl,hcap,hb,hB⟩
theorem Sb (w:World) (a n c:Nat) (A:Option Addr) (k:Int) (h:w.cell? ⟨a,0,none⟩=some (.slice A n c)) (hk:¬ (0≤k∧k<n)) :
 Calls Tryz.prog 101 #[.pointer (some ⟨a,0,none⟩),.int .i64 k] w fun e w'=>e=.returned (.tuple #[.slice none 0 0,.int .i64 3])∧w=w':=by
 by_cases h0:k<0
 · clear hk
   go_enter Tryz.func101,Tryz.ntmps101
   go_wp2_with fail
   go_ret2
   exact ⟨rfl,rfl⟩
 · have h1:(n:Int)≤k:=by omega
   have hd0:decide (k<0)=false:=by simp;omega
   clear hk
   go_enter Tryz.func101,Tryz.ntmps101
   go_wp2_with fail
   go_ret2
   exact ⟨rfl,rfl⟩
end
section
open Go.RowKit Go.Extern.Stop Go.Stop Go.Extern
attribute [local go_sem] Oper.semAt_some
theorem Lr {P:Program} (w:World) (d:Nat) {ti tn:TypeId} {ms:Array (String × TypeId)} {i:TypeInfo} {k:IntKind} (a b:Int)
 (hi:P.underlying ti=some (.interface ms)) (hn:P.underlying tn=some (.int k)) (hinfo:P.info? tn=some i) (hcomp:i.comparable=true) :
 (Op.equalIn (d+2) ti (.iface tn (.int k a)) (.iface tn (.int k b))).run P w=.ok (a==b) w:=by
 simp [Op.equalIn,run_underlying hi,run_underlying hn,typeInfo,hinfo,hcomp]
theorem Qf {P:Program} (w:World) {ti tn:TypeId} {ms:Array (String × TypeId)} {i:TypeInfo} {k:IntKind} (a b:Int)
 (hi:P.underlying ti=some (.interface ms)) (hn:P.underlying tn=some (.int k)) (hinfo:P.info? tn=some i) (hcomp:i.comparable=true) :
 (binOp .eql ti (.iface tn (.int k a)) (.iface tn (.int k b))).run P w=.ok (.bool (a==b)) w:=by
 simp only [binOp]
 simp [Op.equal,Op.maxDepth,Lr w 9998 a b hi hn hinfo hcomp]
theorem ed (v:Value) (w:World):(Extern.ReflectliteType.typeOf #[.iface 88 v]).run Tryz.prog w=.ok (.iface 349 (.agg #[Go.typeHandle Tryz.prog 88])) w:=by kernel_rfl
theorem Sc (w : World) : ((Extern.ReflectliteType.method fun t => do Extern.Rtype.noPackHeld "Comparable" t; (fun a => Value.bool a.comparable) <$> typeInfo t) #[.agg #[Go.typeHandle Tryz.prog 88]]).run Tryz.prog w = .ok (.bool true) w := by kernel_rfl
theorem LD (x : Nat) (v : Value) (w : World) : (Go.method (x + 1) 349 v "Comparable").run Tryz.prog w = .ok (272, v) w := by kernel_rfl
theorem sP:(Tryz.prog.info? 88).map (·.comparable)=some true:=by kernel_rfl
theorem yc (v:Value) (xT:TypeId) (w:World):(Instr.typeAssert (.iface 88 v) xT 351 true).run Tryz.prog w=.ok (.tuple #[.nilIface,.bool false]) w:=run_typeAssert_lacksB Tryz.underlying351 (by kernel_rfl) (by kernel_rfl) v xT w
theorem ZU (v:Value) (xT:TypeId) (w:World):(Instr.typeAssert (.iface 88 v) xT 354 true).run Tryz.prog w=.ok (.tuple #[.nilIface,.bool false]) w:=run_typeAssert_lacksB Tryz.underlying354 (by kernel_rfl) (by kernel_rfl) v xT w
theorem WL (v:Value) (xT:TypeId) (w:World):(Instr.typeAssert (.iface 88 v) xT 356 true).run Tryz.prog w=.ok (.tuple #[.nilIface,.bool false]) w:=run_typeAssert_lacksB Tryz.underlying356 (by kernel_rfl) (by kernel_rfl) v xT w
set_option maxRecDepth 100000 in
theorem Uc (w:World) (k:Int):Calls Tryz.prog 150 #[.iface 88 (.int .i64 k),.iface 88 (.int .i64 0)] w fun e w'=>e=.returned (.bool (k==0))∧w'=w:=by
 obtain ⟨i,hi,hcmp⟩:=Option.map_eq_some_iff.1 sP
 have h8:=@run_callFunc_extern Tryz.prog 204 _ Extern.ReflectliteType.typeOf Tryz.func204 (by kernel_rfl) (by kernel_rfl) (by kernel_rfl) (by kernel_rfl)
 have h32 := @run_callFunc_extern Tryz.prog 272 _ (Extern.ReflectliteType.method fun t => do Extern.Rtype.noPackHeld "Comparable" t; pure (.bool (← typeInfo t).comparable)) Tryz.func272 (by kernel_rfl) (by kernel_rfl) (by kernel_rfl) (by kernel_rfl)
 have tT:=ed
 have cT:=Sc
 have mR:=LD
 have nE:=yc
 have uE:=ZU
 have vE:=WL
 have heq:=Qf (P:=Tryz.prog) w k 0 Tryz.underlying40 Tryz.underlying88 hi hcmp
 by_cases hk:k=0
 · subst hk
   go_enter Tryz.func150,Tryz.ntmps150
   go_wp2
   refine wp_loop_rounds 1 ?_
   rw [rounds_succ]
   go_wp2
   go_ret
   exact ⟨rfl,rfl⟩
 · have hkb:(k==0)=false:=beq_false_of_ne hk
   rw [hkb] at heq
   have UC:=qh hkb
   clear hk hkb
   go_enter Tryz.func150,Tryz.ntmps150
   go_wp2
   refine wp_loop_rounds 1 ?_
   rw [rounds_succ]
   go_wp2
   go_ret
   exact ⟨by rw [UC.out];rfl,rfl⟩
end
section
open Go.RowKit
attribute [local go_sem] Oper.semAt_some
theorem Dn (w:World) (b:Int) (t:TypeId) (u:Value):Calls Tryz.prog 151 #[.int .i64 b,.iface t u] w fun e w'=>e=.returned (.iface 325 (.pointer (some ⟨w.heap.size,0,none⟩)))∧w'=w.alloc (.cells #[.int .i64 b,.iface t u] 327):=by
 go_enter Tryz.func151,Tryz.ntmps151
 go_wp2
 go_ret
 exact ⟨rfl,rfl⟩
theorem NS (w:World) (b:Int) (v:Value) (T:TypeId):(w.alloc (.cells #[.int .i64 b,v] T)).cell? ⟨w.heap.size,0,none⟩=some (.int .i64 b)∧(w.alloc (.cells #[.int .i64 b,v] T)).cell? ⟨w.heap.size,1,none⟩=some v:=by
 have h:=heap_alloc_new w (.cells #[.int .i64 b,v] T)
 exact ⟨(cell_of_row _ _ 0 _ _ (0,0) h).trans rfl,(cell_of_row _ _ 1 _ _ (0,0) h).trans rfl⟩
theorem D7.wrap {w:World} {S:Nat→Prop} {v:Value} {bs:List Int} {c:Int} (h:D7 w S v bs c) (hS:∀ b,S b→b<w.heap.size) (b:Int) (S':Nat→Prop) (hs:∀ b,S b→S' b) (hn:S' w.heap.size) (T:TypeId) :
 D7 (w.alloc (.cells #[.int .i64 b,v] T)) S' (.iface 325 (.pointer (some ⟨w.heap.size,0,none⟩))) (b :: bs) c :=
 ⟨w.heap.size,v,rfl,hn,(NS w b v T).1,(NS w b v T).2,h.keep hs (EH hS _)⟩
theorem Iw (w:World) (no k:Int) (hk:k≠0):Calls Tryz.prog 92 #[.int .i64 no,.iface 88 (.int .i64 k)] w fun e w'=>e=.returned (.iface 325 (.pointer (some ⟨w.heap.size,0,none⟩)))∧w'=w.alloc (.cells #[.int .i64 no,.iface 88 (.int .i64 k)] 327):=by
 have HI:=Uc w k
 rw [beq_false_of_ne hk] at HI
 have HI2:=qh HI
 have HA:=qh (Dn w no 88 (.int .i64 k))
 clear HI hk
 go_enter Tryz.func92,Tryz.ntmps92
 go_wp2_with (first
  | (go_at_call 150;refine HI2.out.mono ?_;rintro e w' ⟨rfl,rfl⟩)
  | (go_at_call 151;refine HA.out.mono ?_;rintro e w' ⟨rfl,rfl⟩))
 go_ret
 exact ⟨rfl,rfl⟩
theorem lQ (w:World) (no:Int):Calls Tryz.prog 92 #[.int .i64 no,.iface 88 (.int .i64 0)] w fun e w'=>e=.returned .nilIface∧w'=w:=by
 have HI:=Uc w 0
 have HI2:=qh HI
 clear HI
 go_enter Tryz.func92,Tryz.ntmps92
 go_wp2_with (go_at_call 150;refine HI2.out.mono ?_;rintro e w' ⟨rfl,rfl⟩)
 go_ret
 exact ⟨rfl,rfl⟩
theorem Sd (w:World) (no k:Int) (hk:k≠0) (S:Nat→Prop) (hn:S w.heap.size):CJ (w.alloc (.cells #[.int .i64 no,.iface 88 (.int .i64 k)] 327)) S (.iface 325 (.pointer (some ⟨w.heap.size,0,none⟩))) ⟨[no],k⟩:=by
 unfold CJ
 rw [if_neg hk]
 exact D7.wrap (S:=fun _=>False) (v:=.iface 88 (.int .i64 k)) (bs:=[]) (show _=_ from rfl) (fun _ h=>h.elim) no S (fun _ h=>h.elim) hn _
end
section
open Go.RowKit
attribute [local go_sem] Oper.semAt_some
theorem RN (w:World) (n:Nat) (h:Lh n):Calls Tryz.prog 191 #[.int .i64 n] w fun e w'=>e=.returned (.bool true)∧w'=w:=by
 rcases h with rfl|rfl|rfl|rfl <;>
 · go_enter Tryz.func191,Tryz.ntmps191
   go_wp2
   go_ret
   exact ⟨rfl,rfl⟩
theorem RO (w:World) (A:Option Addr) (len c a n:Nat) (hn:Lh n) (h:a+n≤len) (hl:len≤140737488355328):Calls Tryz.prog 161 #[.slice A len c,.int .i64 a,.int .i64 n] w fun e w'=>e=.returned (.int .i64 0)∧w'=w:=by
 have HK:=qh (RN w n hn)
 have hw:IntKind.i64.wrap ((len:Int)-(a:Int))=(len:Int)-(a:Int):=by rw [IntKind.wrap_i64];omega
 have h1:¬ (a:Int)<0:=by omega
 have h2:decide ((len:Int)<(a:Int))=false:=decide_eq_false (by omega)
 have h3:decide ((len:Int)-(a:Int)<(n:Int))=false:=decide_eq_false (by omega)
 clear hn
 go_enter Tryz.func161,Tryz.ntmps161
 go_wp2_with (go_at_call 191;refine HK.out.mono ?_;rintro e w3 ⟨rfl,rfl⟩)
 go_ret
 exact ⟨rfl,rfl⟩
theorem RP {l:List UInt8} {a n j:Nat} (hj:j<n) (h:a+n≤l.length):AC l (a+j) (n-j)=(nth 0 l (a+j)).toNat+256*AC l (a+(j+1)) (n-(j+1)):=by
 unfold AC
 rw [show n-j=(n-(j+1))+1 by omega,G6 (by omega),EL]
 rfl
theorem O6 {l:List UInt8} {a n j:Nat} (hj:j<n) (hn:n≤8):AC l (a+(j+1)) (n-(j+1))<72057594037927936:=by
 have h:=Dk (l:=l) (a:=a+(j+1)) (n:=n-(j+1))
 have h2:256 ^ (n-(j+1))≤256 ^ 7:=Nat.pow_le_pow_right (by omega) (by omega)
 omega
set_option maxRecDepth 100000 in
theorem OH (w:World) (S:Nat→Prop) (v:Value) (l:List UInt8) (a n:Nat) (hS:∀ b,S b→b<w.heap.size) (h:AX w S v l) (hn:Lh n) (ha:a+n≤l.length) (hl:l.length≤140737488355328) :
 Calls Tryz.prog 96 #[v,.int .i64 a,.int .i64 n] w fun e w'=>e=.returned (if 9223372036854775808≤AC l a n then .tuple #[.int .i64 0,.int .i64 2] else .tuple #[.int .i64 (AC l a n:Nat),.int .i64 0])∧w'=w:=by
 have kK:n≤8:=by rcases hn with h|h|h|h <;> omega
 have hn1:1≤n:=by rcases hn with h|h|h|h <;> omega
 obtain ⟨A,c,rfl,hc,hr⟩:=h
 have HT:=qh (RO w A l.length c a n hn ha hl)
 have hcl:=BU hr (by omega)
 have HST:Hid (∀ j,j<n→AC l (a+j) (n-j)=(nth 0 l (a+j)).toNat+256*AC l (a+(j+1)) (n-(j+1))∧AC l (a+(j+1)) (n-(j+1))<72057594037927936):=fun j hj=>⟨RP hj ha,O6 hj kK⟩
 obtain ⟨b,off,rfl,hb,hcl⟩:=hcl
 have GH:=qh hcl
 obtain ⟨R,hR⟩:∃ R,AC l a n=R:=⟨_,rfl⟩
 have HR:=qh hR
 rw [hR]
 clear hr hn hcl hR
 generalize hnn:l.length=len at *
 have HN:=qh hnn
 clear hnn
 have hwn:IntKind.i64.wrap ((n:Int)-1)=(n:Int)-1:=by rw [IntKind.wrap_i64];omega
 obtain ⟨X,hX⟩:∃ X:Value,(if 9223372036854775808≤R then Value.tuple #[.int .i64 0,.int .i64 2] else .tuple #[.int .i64 (R:Nat),.int .i64 0])=X:=⟨_,rfl⟩
 rw [hX]
 have HX:=qh hX
 clear hX
 go_enter Tryz.func96,Tryz.ntmps96
 go_wp2_with (go_at_call 161;refine HT.out.mono ?_;rintro e w3 ⟨rfl,rfl⟩)
 go_loopw [9,10] (fun vn vi wr=>∃ (j q:Nat),vi=.int .i64 ((j:Int)-1)∧vn=.int .u64 q∧j≤n∧Hid (q=AC l (a+j) (n-j))∧wr=w3) (fun _ vi _=>(intOf vi+1).toNat)
 case atStart=>exact ⟨n,0,rfl,rfl,by omega,by show _=_;rw [Nat.sub_self];simp [AC,BN,EL],rfl⟩
 case round =>
  obtain ⟨j,q,rfl,rfl,hj,HQ,rfl⟩:=hrel
  cases j with
  | zero =>
   have HE:Hid (q=R):=by
    show _=_
    have e:=HQ.out
    rw [Nat.add_zero,Nat.sub_zero,HR.out] at e
    exact e
   have hqe:=HE.out
   subst hqe
   by_cases hbig:9223372036854775808≤q
   · have hbz:(9223372036854775808:Int)≤(q:Int):=by omega
     have sQ:Hid (X=.tuple #[.int .i64 0,.int .i64 2]):=by show _=_;rw [← HX.out,if_pos hbig]
     go_wp2_with fail
     go_ret2
     exact ⟨by rw [sQ.out];rfl,rfl⟩
   · have hbz:¬ (9223372036854775808:Int)≤(q:Int):=by omega
     have hwq:IntKind.i64.wrap (q:Int)=(q:Int):=by rw [IntKind.wrap_i64];omega
     have sQ:Hid (X=.tuple #[.int .i64 (q:Nat),.int .i64 0]):=by show _=_;rw [← HX.out,if_neg hbig]
     go_wp2_with fail
     go_ret2
     exact ⟨by rw [sQ.out];rfl,rfl⟩
  | succ j =>
   rw [show (((j+1:Nat):Int)-1)=(j:Int) by omega]
   obtain ⟨e1,e2⟩:=HST.out j (by omega)
   have hql:q<72057594037927936:=by rw [HQ.out];exact e2
   have c0:=GH.out (a+j) (by omega)
   obtain ⟨u,hu⟩:∃ u,nth 0 l (a+j)=u:=⟨_,rfl⟩
   rw [hu] at c0 e1
   have hul:=u.toNat_lt
   obtain ⟨y,hy⟩:∃ y,q*256+u.toNat=y:=⟨_,rfl⟩
   have HY:Hid (y=AC l (a+j) (n-j)):=by show _=_;rw [e1,← hy,HQ.out];omega
   have hor:bits .or .u64 ((q:Int)*256) (u.toNat:Int)=(y:Int):=by
    have h:=u64_or_nat (q*256) u.toNat (by omega) (by omega)
    rw [nat_join 8 (q*256) u.toNat (by omega) (by omega),hy] at h
    rw [show ((q:Int)*256)=((q*256:Nat):Int) by omega]
    exact h
   have hws:IntKind.u64.wrap ((q:Int)*256)=(q:Int)*256:=by rw [IntKind.wrap_u64];omega
   have hwu:IntKind.u64.wrap (u.toNat:Int)=(u.toNat:Int):=by rw [IntKind.wrap_u64];omega
   obtain ⟨x,hx⟩:∃ x,a+j=x:=⟨_,rfl⟩
   have hwx:IntKind.i64.wrap ((a:Int)+(j:Int))=(x:Int):=by rw [IntKind.wrap_i64];omega
   have hxl:(x:Int)<(len:Int):=by omega
   have hwj:IntKind.i64.wrap ((j:Int)-1)=(j:Int)-1:=by rw [IntKind.wrap_i64];omega
   rw [hx] at c0
   clear hx hy hu e1 e2
   go_wp2_with fail
   go_roundw
   case rel=>exact ⟨j,y,rfl,rfl,by clear hor;omega,HY,trivial⟩
   case measure=>(clear hor;simp [intOf])
end
end Go.Proofs.YtpenklpdjpkigaaGreat
