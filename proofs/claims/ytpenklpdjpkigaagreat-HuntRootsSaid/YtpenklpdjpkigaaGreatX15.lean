/- A part of the proof: WSplit0, WLoadZ. -/
import Derived.Test.YtpenklpdjpkigaaGreatX14
import Derived.Test.YtpenklpdjpkigaaGreatX11
import Derived.Test.YtpenklpdjpkigaaGreatX12
import Derived.Test.YtpenklpdjpkigaaGreatX7
import Derived.Test.YtpenklpdjpkigaaGreatY1
set_option maxHeartbeats 6400000
set_option linter.unusedVariables false
set_option linter.unusedSimpArgs false
namespace Go.Proofs.YtpenklpdjpkigaaGreat
section
open Go.RowKit Go.Shelf
attribute [local go_sem] Oper.semAt_some
set_option maxRecDepth 100000 in
theorem vK (w:World) (A:Option Addr) (c:Nat) :
 Calls Tryz.prog 115 #[.slice A 0 c] w fun e w'=>e=.returned (.tuple #[.slice none 0 0,.slice none 0 0,.int .i64 0])∧Below w.heap.size w w':=by
 have f1:Fence.wide.fn 177:=trivial
 refine (callsIn_wide (n:=3)).1 ?_
 refine callsIn_of_wp_marks Tryz.func115 rfl trivial ?_ rfl
 simp only [Tryz.ntmps115,List.size_toArray,List.length_cons,List.length_nil,Nat.reduceAdd,Nat.reduceSub,Array.replicate_succ,Array.replicate_zero,List.push_toArray,List.append_toArray,List.nil_append,List.cons_append]
 gi_upto_region 6 with fail
 gi_loopw [5,6,16] (fun v5 v6 vi wr=>vi=.int .i64 0∧v5=.slice none 0 0∧v6=.slice none 0 0∧wr=w) (fun _ _ vi _=>1)
 case atStart=>exact ⟨rfl,rfl,rfl,rfl⟩
 case round =>
  obtain ⟨rfl,rfl,rfl,hwr⟩:=hrel
  rw [hwr]
  clear hwr wr
  gi_upto_region 15 with fail
  have I6:=AP.new w #[.slice none 0 0] 225
  have Mg:Below w.heap.size w (w.alloc (.cells #[.slice none 0 0] 225)):=(Below.refl _ _).alloc (Nat.le_refl _) _
  generalize w.alloc (.cells #[.slice none 0 0] 225)=w9 at *
  obtain ⟨g9,Cu⟩:∃ q,w.heap.size=q:=⟨_,rfl⟩
  have TK:=qh Mg
  have UD:=qh Cu
  rw [Cu] at I6 ⊢
  have Rq:=qh I6
  clear I6 Mg Cu
  obtain ⟨ka,kb,kB,kz⟩:=AP.two w9 #[.slice none 0 0] #[.int .i64 960] 29 3
  gi_upto_region 16 with (gi_at_call 177;refine (callsIn_wide.2 (VY w9 none 0 0)).mono ?_;rintro e CW ⟨rfl,hw⟩;rw [hw];clear hw CW)
  generalize (w9.alloc (.cells #[.slice none 0 0] 29)).alloc (.cells #[.int .i64 960] 3)=CW at *
  have oC:=qh (XW 2 (by omega) w9.heap.size (w9.heap.size+1) 0 none CW ka)
  have XO:=qh (Rq.out.below kB Rq.out.lt)
  have HZ:Hid (CW.heap.size=w9.heap.size+2∧g9<w9.heap.size):=⟨kz,Rq.out.lt⟩
  have UC:Hid (∀ (W:World) (q:Nat) (o':Obj),CW.heap.size≤q→N7 (fun x=>x=w9.heap.size∨x=w9.heap.size+1) W (W.putObj q o')):=fun W q o' hq=>⟨fun x hx=>World.putObj_heap_other (by rcases hx with rfl|rfl <;> omega),by simp [World.putObj]⟩
  have Fy:Hid (Below w.heap.size w CW):=TK.out.trans (kB.mono TK.out.size)
  clear ka kb kB kz Rq
  refine GU rfl (by omega) (gf:=215) (lb:=#[.pointer (some ⟨w9.heap.size,0,none⟩),.pointer (some ⟨w9.heap.size+1,0,none⟩)]) rfl trivial (enters_of Tryz.func215 (by kernel_rfl) rfl) oC.out (fun _ _ h=>h.elim) (fun h q=>h.trans q) UC.out (fun _=>rfl)
   (fun q W=>AP W g9 #[.slice none 0 0] 225∧Below CW.heap.size CW W) (fun _ _ _=>False) ?hI ?hIx ?nU ?TU ?h0 ?LU ?hdone ?hstop
  case hI =>
   rintro q W W' row ⟨hb,hB⟩ hg2 hr
   exact ⟨(KC.grown hg2 (fun r e=>(hr r e).2)).box hb,ownFrom_below (n₀:=CW.heap.size) (Nat.le_refl _) (Nat.le_refl _) q W W' row hB hg2 hr⟩
  case hIx=>intro cc q W W' row h;exact h.elim
  case nU=>rintro q W W' h hw;exact hw.elim
  case TU=>intro cc q W W' h;exact h.elim
  case h0=>exact ⟨XO.out,Below.refl _ _⟩
  case LU =>
   rintro lp q W ⟨hb,hB⟩
   have DU:=qh hb
   have IG:=qh hB
   have vJ:Hid (N7 (fun x=>x=w9.heap.size∨x=w9.heap.size+1) W W):=N7.refl
   clear hb hB
   dsimp only
   gi_wp2
   refine ⟨(KeepsOthers.refl _).from _,vJ.out,⟨DU.out,IG.out⟩,?_⟩
   rintro l2 U hl2 hr VL hkN
   omega
  case hdone =>
   rintro D W hD ⟨I6,hB⟩ hK
   have q9:=I6.at 0 _ rfl
   have hz:=HZ.out
   have hg:=UD.out
   have hBW:Below w.heap.size w W:=Fy.out.trans (hB.mono Fy.out.size)
   have HK:=qh hK
   have HF:Hid (Below w.heap.size w (W.putObj D (.deferred none))):=hBW.grown (grownBy_putObj' W D _) hBW.size (fun q e=>by cases e;omega)
   clear hB hBW hz hg I6 hD hK
   gi_wp2
   refine rE (v:=.tuple #[.slice none 0 0,.slice none 0 0,.int .i64 0]) HK.out (by simp [results,Tryz.results115,go_sem]) rfl ⟨rfl,HF.out⟩
  case hstop=>rintro D cc q W hD hq h;exact h.elim
end
section
open Go.RowKit Go.Shelf
attribute [local go_sem] Oper.semAt_some
set_option maxRecDepth 100000 in
theorem QD (n:Nat) (hn:1≤n) (gA gB ca cb:Nat) (A B:Option Addr) (w:World) (hA:AP w gA #[.slice A 0 ca] 104) (hB:AP w gB #[.slice B 0 cb] 104) :
 iw Fence.wide n Tryz.prog 162 #[.pointer (some ⟨gA,0,none⟩),.pointer (some ⟨gB,0,none⟩)] (fun _=>#[.pointer none,.pointer none]) (N7 fun x=>x=gA∨x=gB) NoW 0 w:=by
 intro lp J Jx W hBW hJ hJx hY hj0
 have x0:=(hA.below hBW hA.lt).at 0 _ rfl
 have x1:=(hB.below hBW hB.lt).at 0 _ rfl
 have HJ0:=qh hj0
 clear hY hJ hJx hA hB hBW hj0
 refine callsIn_of_wp Tryz.func162 rfl trivial ?_ rfl
 simp only [Tryz.ntmps162,List.size_toArray,List.length_cons,List.length_nil,Nat.reduceAdd,Nat.reduceSub,Array.replicate_succ,Array.replicate_zero,List.push_toArray,List.append_toArray,List.nil_append,List.cons_append]
 gi_wp2
 gi_loopw [4,5] (fun _ _ wr=>wr=W) (fun _ _ _=>1)
 case atStart=>exact rfl
 case round =>
  obtain rfl:=hrel
  gi_wp2
  refine bodyPost_end (results_none rfl _ _ _) rfl ?_
  exact ⟨⟨_,rfl⟩,.inl HJ0.out⟩
theorem Rz (w:World) (A B:Option Addr) (ca cb:Nat):Calls Tryz.prog 99 #[.slice A 0 ca,.slice B 0 cb] w fun e w' =>
 e=.returned (.func (.func 162) #[] #[.pointer (some ⟨w.heap.size,0,none⟩),.pointer (some ⟨w.heap.size+1,0,none⟩)])∧w'=(w.alloc (.cells #[.slice A 0 ca] 104)).alloc (.cells #[.slice B 0 cb] 104):=by
 go_enter Tryz.func99,Tryz.ntmps99
 go_wp2
 go_ret
 exact ⟨by simp,rfl⟩
theorem jE (w:World) (S:Nat→Prop) (img:Nat) (bs:List UInt8) (root tree fuel:Int) (hS:∀ b,S b→b<w.heap.size) (h:Cj w S img bs) (hl:bs.length≤140737488355328) (hf:fuel≤9999999) (hc:(BJ (Az bs root tree fuel)).code=0) (hn:(Az bs root tree fuel).AO.length=0) :
 Calls Tryz.prog 81 #[.pointer (some ⟨img,0,none⟩),.int .i64 root,.int .i64 tree,.int .i64 fuel] w fun e w'=>(∃ Ae ce Ab nb cb dp lk Af nf cf,e=.returned (.tuple #[.agg #[.slice Ae 0 ce,.slice Ab nb cb,.int .i64 dp,.int .i64 lk,.slice Af nf cf],.nilIface]))∧Below w.heap.size w w':=by
 refine (M4 w S img bs root tree fuel hS h hl hf).mono ?_
 rintro e w' ⟨TY,hB⟩
 obtain ⟨Ae,ne,ce,Ab,nb,cb,dp,lk,Af,nf,cf,ev,rfl,hv⟩:=FI.of (w0:=w) TY (Nat.le_refl _)
 have hie:=hv.1
 unfold CJ at hie
 rw [if_pos hc] at hie
 have hne:=(hv.2.1 hc).1
 rw [hn] at hne
 exact ⟨⟨Ae,ce,Ab,nb,cb,dp,lk,Af,nf,cf,by rw [hie,hne]⟩,hB⟩
set_option maxRecDepth 100000 in
theorem vL (w:World) (S:Nat→Prop) (img:Nat) (bs:List UInt8) (top BQ data fuel:Int) (hS:∀ b,S b→b<w.heap.size) (h:Cj w S img bs) (hl:bs.length≤140737488355328) (hf:fuel≤9999999) (hc1:(BJ (Az bs BQ 3 fuel)).code=0) (hn1:(Az bs BQ 3 fuel).AO.length=0) (hc2:(BJ (Az bs top 1 fuel)).code=0) (hn2:(Az bs top 1 fuel).AO.length=0) :
 Calls Tryz.prog 55 #[.pointer (some ⟨img,0,none⟩),.int .i64 top,.int .i64 BQ,.int .i64 data,.int .i64 fuel] w fun e w'=>e=.returned (.tuple #[.slice none 0 0,.nilIface])∧Below w.heap.size w w':=by
 have HW1:=qh (fun w' (hB:Below w.heap.size w w')=>jE w' S img bs BQ 3 fuel (fun b hb=>Nat.lt_of_lt_of_le (hS b hb) hB.size) (h.below hB hS) hl hf hc1 hn1)
 have HW2:=qh (fun w' (hB:Below w.heap.size w w')=>jE w' S img bs top 1 fuel (fun b hb=>Nat.lt_of_lt_of_le (hS b hb) hB.size) (h.below hB hS) hl hf hc2 hn2)
 clear hS h hl hf hc1 hn1 hc2 hn2
 have f1:Fence.wide.fn 81:=trivial
 have f3:Fence.wide.fn 99:=trivial
 refine (callsIn_wide (n:=4)).1 ?_
 refine callsIn_of_wp_marks Tryz.func55 rfl trivial ?_ rfl
 simp only [Tryz.ntmps55,List.size_toArray,List.length_cons,List.length_nil,Nat.reduceAdd,Nat.reduceSub,Array.replicate_succ,Array.replicate_zero,List.push_toArray,List.append_toArray,List.nil_append,List.cons_append]
 obtain ⟨k6,k7,k10,kB,kz⟩:=AP.three w #[.int .i64 top] #[.int .i64 BQ] #[.slice none 0 0] 3 3 43
 have k11:=AP.new (((w.alloc (.cells #[.int .i64 top] 3)).alloc (.cells #[.int .i64 BQ] 3)).alloc (.cells #[.slice none 0 0] 43)) #[.nilIface] 40
 rw [kz] at k11
 have b6:=k6.Mm (.cells #[.nilIface] 40)
 have b7:=k7.Mm (.cells #[.nilIface] 40)
 have b10:=k10.Mm (.cells #[.nilIface] 40)
 have hB4:=kB.trans (((Below.refl _ _).alloc (Nat.le_refl _) (.cells #[.nilIface] 40)).mono kB.size)
 gi_upto_region 1 with fail
 generalize (((w.alloc (.cells #[.int .i64 top] 3)).alloc (.cells #[.int .i64 BQ] 3)).alloc (.cells #[.slice none 0 0] 43)).alloc (.cells #[.nilIface] 40)=w4 at *
 obtain ⟨g10,vM⟩:∃ q,w.heap.size+1+1=q:=⟨_,rfl⟩
 obtain ⟨g11,vN⟩:∃ q,w.heap.size+3=q:=⟨_,rfl⟩
 have AAq:w.heap.size+1+1+1=g11:=by omega
 rw [vM] at b10
 rw [vN] at k11
 try rw [AAq]
 try rw [vN]
 try rw [vM]
 have HG:Hid (g10≠g11∧w.heap.size≤g10∧w.heap.size≤g11∧g10<w4.heap.size∧g11<w4.heap.size):=⟨by omega,by omega,by omega,b10.lt,k11.lt⟩
 have Xb:Hid (∀ W',Below w4.heap.size w4 W'→(AP W' w.heap.size #[.int .i64 top] 3∧AP W' (w.heap.size+1) #[.int .i64 BQ] 3∧AP W' g10 #[.slice none 0 0] 43∧AP W' g11 #[.nilIface] 40)∧Below w.heap.size w W') :=
  fun W' hB=>⟨⟨b6.below hB b6.lt,b7.below hB b7.lt,b10.below hB b10.lt,k11.below hB k11.lt⟩,hB4.trans (hB.mono hB4.size)⟩
 have AAr:=qh (HW1.out w4 hB4)
 have x7:=b7.at 0 _ rfl
 clear k6 k7 k10 kB kz b6 b7 b10 k11 hB4 vM vN AAq HW1
 gi_upto_region 2 with (gi_at_call 81;refine (callsIn_wide.2 AAr.out).mono ?_;rintro e w5 ⟨⟨Ae1,oF,Ab1,nb1,cb1,dp1,lk1,Af1,nf1,cf1,rfl⟩,BS⟩)
 have hq:=AP.new w5 #[.slice Ae1 0 oF,.slice Ab1 nb1 cb1,.int .i64 dp1,.int .i64 lk1,.slice Af1 nf1 cf1] 178
 have EG:Below w4.heap.size w4 (w5.alloc (.cells #[.slice Ae1 0 oF,.slice Ab1 nb1 cb1,.int .i64 dp1,.int .i64 lk1,.slice Af1 nf1 cf1] 178)):=BS.alloc BS.size _
 generalize w5.alloc (.cells #[.slice Ae1 0 oF,.slice Ab1 nb1 cb1,.int .i64 dp1,.int .i64 lk1,.slice Af1 nf1 cf1] 178)=w6 at *
 obtain ⟨q1,hq1⟩:∃ q,w5.heap.size=q:=⟨_,rfl⟩
 rw [hq1] at hq ⊢
 have yz:=qh hq
 have Dz:=qh EG
 clear x7 hq BS EG hq1 AAr
 have AAs:=qh (HW2.out w6 (Xb.out w6 Dz.out).2)
 have x6:=(Xb.out w6 Dz.out).1.1.at 0 _ rfl
 gi_upto_region 5 with (gi_at_call 81;refine (callsIn_wide.2 AAs.out).mono ?_;rintro e w7 ⟨⟨Ae2,oG,Ab2,nb2,cb2,dp2,lk2,Af2,nf2,cf2,rfl⟩,Ff⟩)
 have hq:=AP.new w7 #[.slice Ae2 0 oG,.slice Ab2 nb2 cb2,.int .i64 dp2,.int .i64 lk2,.slice Af2 nf2 cf2] 178
 have KE:Below w6.heap.size w6 (w7.alloc (.cells #[.slice Ae2 0 oG,.slice Ab2 nb2 cb2,.int .i64 dp2,.int .i64 lk2,.slice Af2 nf2 cf2] 178)):=Ff.alloc Ff.size _
 generalize w7.alloc (.cells #[.slice Ae2 0 oG,.slice Ab2 nb2 cb2,.int .i64 dp2,.int .i64 lk2,.slice Af2 nf2 cf2] 178)=w8 at *
 obtain ⟨q2,hq2⟩:∃ q,w7.heap.size=q:=⟨_,rfl⟩
 rw [hq2] at hq ⊢
 have lm:=qh hq
 have oH:=qh (yz.out.below KE yz.out.lt)
 have KZ:=qh (Dz.out.trans (KE.mono Dz.out.size))
 clear x6 hq Ff KE hq2 AAs HW2 yz Dz
 have e1:=oH.out.at 0 _ rfl
 have e2:=lm.out.at 0 _ rfl
 gi_upto_region 10 with (gi_at_call 99;refine (callsIn_wide.2 (Rz _ _ _ _ _)).mono ?_;rintro e w9 ⟨rfl,hw⟩;rw [hw];clear hw w9)
 clear e1 e2
 obtain ⟨ka,kb,kB,kz⟩:=AP.two w8 #[.slice Ae1 0 oF] #[.slice Ae2 0 oG] 104 104
 generalize (w8.alloc (.cells #[.slice Ae1 0 oF] 104)).alloc (.cells #[.slice Ae2 0 oG] 104)=CW at *
 have oC:=qh (QD 3 (by omega) w8.heap.size (w8.heap.size+1) oF oG Ae1 Ae2 CW ka kb)
 have UC:Hid (∀ (W:World) (q:Nat) (o':Obj),CW.heap.size≤q→N7 (fun x=>x=w8.heap.size∨x=w8.heap.size+1) W (W.putObj q o')):=fun W q o' hq=>⟨fun x hx=>World.putObj_heap_other (by rcases hx with rfl|rfl <;> omega),by simp [World.putObj]⟩
 have HK:=qh kB
 clear ka kb kB kz
 refine GU rfl (by omega) (gf:=162) (lb:=#[.pointer (some ⟨w8.heap.size,0,none⟩),.pointer (some ⟨w8.heap.size+1,0,none⟩)]) rfl trivial (enters_of Tryz.func162 (by kernel_rfl) rfl) oC.out (fun _ _ h=>h.elim) (fun h q=>h.trans q) UC.out (fun _=>rfl)
  (fun q W=>Below CW.heap.size CW W) (fun _ _ _=>False) ?hI ?hIx ?nU ?TU ?h0 ?LU ?hdone ?hstop
 case hI=>exact fun q W W' row hB hg2 hr=>ownFrom_below (n₀:=CW.heap.size) (Nat.le_refl _) (Nat.le_refl _) q W W' row hB hg2 hr
 case hIx=>intro cc q W W' row h;exact h.elim
 case nU=>rintro q W W' h hw;exact hw.elim
 case TU=>intro cc q W W' h;exact h.elim
 case h0=>exact Below.refl _ _
 case hstop=>rintro D cc q W hD hq h;exact h.elim
 case LU =>
  rintro lp q W hB
  have IG:=qh hB
  have vJ:Hid (N7 (fun x=>x=w8.heap.size∨x=w8.heap.size+1) W W):=N7.refl
  clear hB
  dsimp only
  gi_wp2
  refine ⟨(KeepsOthers.refl _).from _,vJ.out,IG.out,?_⟩
  rintro l2 U hl2 hr VL hkN
  omega
 case hdone =>
 rintro D W hD hB hK
 have kL:Hid (Below w4.heap.size w4 W):=KZ.out.trans ((HK.out.trans (hB.mono HK.out.size)).mono KZ.out.size)
 have jF:Hid (Below w8.heap.size w8 W):=HK.out.trans (hB.mono HK.out.size)
 have HDK:=qh (And.intro hD hK)
 have HD4:Hid (w4.heap.size≤D):=by show _≤_;have:=KZ.out.size;have:=HK.out.size;omega
 clear hB hD hK oC UC HK
 gi_upto_region 18 with fail
 obtain ⟨r1,r2,r3,rB,rz⟩:=AP.three W #[.pointer (some ⟨img,0,none⟩),.int .i64 data,.int .i64 fuel,.int .i64 0] #[.pointer (some ⟨W.heap.size,0,none⟩)] #[.slice none 0 0] 211 209 43
 generalize ((W.alloc (.cells #[.pointer (some ⟨img,0,none⟩),.int .i64 data,.int .i64 fuel,.int .i64 0] 211)).alloc (.cells #[.pointer (some ⟨W.heap.size,0,none⟩)] 209)).alloc (.cells #[.slice none 0 0] 43)=IY at *
 have HR3:=qh r3
 have HR:=qh rB
 have AAt:=qh (oH.out.below (jF.out.trans (rB.mono jF.out.size)) oH.out.lt)
 have AAu:=qh (lm.out.below (jF.out.trans (rB.mono jF.out.size)) lm.out.lt)
 have e1:=AAt.out.at 0 _ rfl
 have e2:=AAu.out.at 0 _ rfl
 obtain ⟨g18,vO⟩:∃ q,W.heap.size+1+1=q:=⟨_,rfl⟩
 rw [vO] at HR3
 try rw [vO]
 clear r1 r2 r3 rB rz vO oH lm
 gi_upto_region 19 with (gi_at_call 99;refine (callsIn_wide.2 (Rz _ _ _ _ _)).mono ?_;rintro e qz ⟨rfl,hw⟩;rw [hw];clear hw qz)
 clear e1 e2
 obtain ⟨ka,kb,kB,kz⟩:=AP.two IY #[.slice Ae1 0 oF] #[.slice Ae2 0 oG] 104 104
 generalize (IY.alloc (.cells #[.slice Ae1 0 oF] 104)).alloc (.cells #[.slice Ae2 0 oG] 104)=Yr at *
 have oC:=qh (QD 3 (by omega) IY.heap.size (IY.heap.size+1) oF oG Ae1 Ae2 Yr ka kb)
 have UC:Hid (∀ (W:World) (q:Nat) (o':Obj),Yr.heap.size≤q→N7 (fun x=>x=IY.heap.size∨x=IY.heap.size+1) W (W.putObj q o')):=fun W q o' hq=>⟨fun x hx=>World.putObj_heap_other (by rcases hx with rfl|rfl <;> omega),by simp [World.putObj]⟩
 have HK:=qh kB
 clear ka kb kB kz
 refine GU rfl (by omega) (gf:=162) (lb:=#[.pointer (some ⟨IY.heap.size,0,none⟩),.pointer (some ⟨IY.heap.size+1,0,none⟩)]) rfl trivial (enters_of Tryz.func162 (by kernel_rfl) rfl) oC.out (fun _ _ h=>h.elim) (fun h q=>h.trans q) UC.out (fun _=>rfl)
  (fun q W=>Below Yr.heap.size Yr W) (fun _ _ _=>False) ?iI ?iIx ?iIw ?iIxw ?i0 ?iround ?idone ?istop
 case iI=>exact fun q W W' row hB hg2 hr=>ownFrom_below (n₀:=Yr.heap.size) (Nat.le_refl _) (Nat.le_refl _) q W W' row hB hg2 hr
 case iIx=>intro cc q W W' row h;exact h.elim
 case iIw=>rintro q W W' h hw;exact hw.elim
 case iIxw=>intro cc q W W' h;exact h.elim
 case i0=>exact Below.refl _ _
 case istop=>rintro D cc q W hD hq h;exact h.elim
 case iround =>
  rintro lp q W hB
  have IG:=qh hB
  have vJ:Hid (N7 (fun x=>x=IY.heap.size∨x=IY.heap.size+1) W W):=N7.refl
  clear hB
  dsimp only
  gi_wp2
  refine ⟨(KeepsOthers.refl _).from _,vJ.out,IG.out,?_⟩
  rintro l2 U hl2 hr VL hkN
  omega
 case idone =>
 rintro E U hE hB hKE
 have LQ:Below IY.heap.size IY U:=HK.out.trans (hB.mono HK.out.size)
 have hBU:Below w4.heap.size w4 U:=kL.out.trans ((HR.out.trans (LQ.mono HR.out.size)).mono kL.out.size)
 have hUD:U.heap[D]? = some (.deferred (some [])):=by
  have hl:=(Array.getElem?_eq_some_iff.1 HDK.out.2).1
  exact ((LQ.block D (Nat.lt_of_lt_of_le hl HR.out.size)).trans (HR.out.block D hl)).trans HDK.out.2
 have hDE:D≠E:=by
  have hl:=(Array.getElem?_eq_some_iff.1 HDK.out.2).1
  have:=HR.out.size
  have:=HK.out.size
  omega
 have iK:w4.heap.size≤E:=by
  have:=kL.out.size
  have:=HR.out.size
  have:=HK.out.size
  omega
 obtain ⟨⟨b6,b7,b10,b11⟩,hBw⟩:=Xb.out U hBU
 have x18:=(HR3.out.below LQ HR3.out.lt).at 0 _ rfl
 have Yu:=b10.at 0 _ rfl
 have x11:=b11.at 0 _ rfl
 have kZ:=b10.free 0
 have z11:=b11.free 0
 have l10:=b10.lt
 have l11:=b11.lt
 have hg:=HG.out.1
 have DU:=qh (And.intro b10 b11)
 have HDU:=qh (And.intro hUD hKE)
 have EK:=qh (And.intro hDE iK)
 have I1:=qh hBw
 have HDK:=qh HDK.out.1
 clear b6 b7 b10 b11 hBw hB hE hKE LQ hBU hUD hDE iK oC UC HK HR HR3 jF kL
 gi_wp2
 obtain ⟨w9,ew,c10,c11,QY,q10,q11⟩:=nz DU.out.1 DU.out.2 hg (.slice none 0 0) .nilIface
 rw [ew]
 have hgg:=HG.out
 have hd4:=HD4.out
 have he4:=EK.out.2
 have hE9:w9.heap[E]? = some (.deferred (some [])):=(QY.block (Array.getElem?_eq_some_iff.1 HDU.out.2).1 (by omega)).trans HDU.out.2
 have hD9:w9.heap[D]? = some (.deferred (some [])):=(QY.block (Array.getElem?_eq_some_iff.1 HDU.out.1).1 (by omega)).trans HDU.out.1
 have kk:=KC.grown (grownBy_putObj' w9 E (.deferred none)) (fun r e=>by cases e;exact ⟨_,hE9,rfl⟩)
 have ADR:(w9.putObj E (.deferred none)).heap[D]? = some (.deferred (some [])):=(World.putObj_heap_other EK.out.1).trans hD9
 have kk2:=KC.grown (grownBy_putObj' (w9.putObj E (.deferred none)) D (.deferred none)) (fun r e=>by cases e;exact ⟨_,ADR,rfl⟩)
 have r1:=(kk2.box (kk.box q10)).at 0 _ rfl
 have r2:=(kk2.box (kk.box q11)).at 0 _ rfl
 have Mg:Below w.heap.size w w9:=I1.out.trans ((QY.weak (R':=fun x=>w.heap.size≤x) (fun x e=>by rcases e with e|e <;> omega)).below (fun x h=>h) I1.out.size)
 refine AAn (v:=.tuple #[.slice none 0 0,.nilIface]) EK.out.1 hD9 hE9 (by simp [results,Tryz.results55,go_sem,r1,r2]) rfl ⟨rfl,(Mg.grown (grownBy_putObj' w9 E _) (by have:=Mg.size;omega) (fun k e=>by cases e;have:=I1.out.size;omega)).grown (grownBy_putObj' _ D _) (by have:=Mg.size;simp [World.putObj];omega) (fun k e=>by cases e;omega)⟩
end
end Go.Proofs.YtpenklpdjpkigaaGreat
