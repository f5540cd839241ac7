/- A part of the proof: WBuild1, WBlkS1, WBlkW, WImgNew. -/
import Derived.Test.YthblbddmcdnllaaGreatDoorX16
import Derived.Test.YthblbddmcdnllaaGreatDoorX38
import Derived.Test.YthblbddmcdnllaaGreatDoorX37
import Derived.Test.YthblbddmcdnllaaGreatDoorX19
import Derived.Test.YthblbddmcdnllaaGreatDoorX6
import Derived.Deep.QuietTactic
import Derived.BigQuiet
import Derived.Outline
import Derived.Laws.OwnMore
import Derived.Test.YthblbddmcdnllaaGreatDoorY1
set_option maxHeartbeats 6400000
set_option linter.unusedVariables false
set_option linter.unusedSimpArgs false
namespace Go.Proofs.YthblbddmcdnllaaGreatDoor
section
open Go.RowKit
set_option maxRecDepth 100000 in
theorem eY (w:World) (t:Int) (h1:1≤t) (h5:t≤5):Calls Tryz.prog 115 #[.int .i64 t,.slice none 0 0] w fun e w'=>e=.returned (.bool true)∧Below w.heap.size w w':=by
 have iE:=qh (fun w'=>EY w' t true)
 have oO:=qh (fun w'=>GV w' t h1 h5)
 have hw0:¬ (Ah t true:Int)=0:=by
  rcases NA (t:=t) (by omega) (by omega) with rfl|rfl|rfl|rfl|rfl <;> decide
 generalize (Ah t true:Int)=wd at *
 have hwb:(wd==0)=false:=by rw [beq_eq_false_iff_ne];exact hw0
 clear h1 h5 hw0
 go_enter Tryz.func115,Tryz.ntmps115
 go_wp2_with (first
  | (go_at_call 97;(with_reducible refine (iE.out _).mono ?_);rintro e w2 ⟨rfl,hw⟩;rw [hw];clear hw w2)
  | (go_at_call 66;(with_reducible refine (oO.out _).mono ?_);rintro e w2 ⟨rfl,hB⟩;have HB:=qh hB;clear hB))
 rename World=>w2
 go_loopw [22] (fun vi wr=>vi=.int .i64 0∧wr=w2) (fun vi _=>1)
 case atStart=>exact ⟨rfl,rfl⟩
 case round =>
  obtain ⟨rfl,hwr⟩:=hrel
  rw [hwr]
  clear hwr wr
  go_wp2_with fail
  refine bodyPost_ret (v:=.bool true) (by simp [results,Tryz.results115,go_sem]) rfl ⟨rfl,HB.out⟩
end
section
open Go.RowKit Go.Shelf
attribute [local go_sem] Oper.semAt_some
def Dt (n:Nat) (l:List UInt8):Int:=if LD l≠0 then LD l else if (n:Int)<(Cw l).blocks then 2 else 0
theorem I8 (l:List UInt8):(LD l=0∧Ch l=(Cw l,0))∨(LD l=7∧Ch l=(LC,7)):=by
 unfold Ch LD
 split
 · exact .inl ⟨rfl,rfl⟩
 · exact .inr ⟨rfl,rfl⟩
set_option maxRecDepth 100000 in
theorem SV (w:World) (S:Nat→Prop) (v:Value) (l:List UInt8) (gm a n c:Nat) (A:Option Addr) (hS:∀ b,S b→b<w.heap.size) (h:AU w S v l) (hl:l.length≤140737488355328) (hgm:gm<w.heap.size) (hm:w.cell? ⟨gm,0,none⟩=some (.pointer (some ⟨a,0,none⟩))) (ha:a<w.heap.size) (hi:w.cell? ⟨a,0,none⟩=some (.slice A n c)) (hn:n≤140737488355328) :
 Calls Tryz.prog 45 #[v,.pointer (some ⟨gm,0,none⟩)] w fun e w'=>e=.returned (.tuple #[Iu (Ch l).1,.int .i64 (Dt (n / 256) l)])∧Below w.heap.size w w':=by
 have hr1:=AL.new w EB 59
 have hB1:Below w.heap.size w (w.alloc (.cells EB 59)):=(Below.refl _ _).alloc (Nat.le_refl _) _
 have NI:=qh (Ml (w.alloc (.cells EB 59)) S v l (fun b hb=>Nat.lt_of_lt_of_le (hS b hb) hB1.size) (h.keep (AB _) (fun _ h=>h) (AR hB1 hS)) hl)
 have hIB:Hid (∀ w',Below w.heap.size w w'→w'.cell? ⟨gm,0,none⟩=some (.pointer (some ⟨a,0,none⟩))∧Calls Tryz.prog 33 #[.pointer (some ⟨a,0,none⟩)] w' fun e w''=>e=.returned (.int .i64 ((n / 256:Nat):Int))∧w''=w'):=fun w' hB=>⟨AY hB hgm hm,by
  have:=CF w' a A n c (AY hB ha hi) hn
  rw [show ((n:Int) / 256)=((n / 256:Nat):Int) from by omega] at this
  exact this.mono fun e w'' ⟨h1,h2⟩=>⟨h1,h2.symm⟩⟩
 have HE:Hid (Dt (n / 256) l=if (Ch l).2≠0 then 7 else if ((n / 256:Nat):Int)<(Cw l).blocks then 2 else 0):=by
  show _=_
  unfold Dt
  rcases I8 l with ⟨h1,h2⟩|⟨h1,h2⟩ <;> rw [h1,h2] <;> simp
 have HC:=qh (I8 l)
 obtain ⟨⟨s,E⟩,hs⟩:∃ x,Ch l=x:=⟨_,rfl⟩
 have iR:=qh hs
 rw [hs] at NI HE ⊢
 have Zx:Hid ((E=0∧s=Cw l)∨(E=7∧s=LC)):=by
  rcases HC.out with ⟨_,h2⟩|⟨_,h2⟩
  · rw [hs] at h2;injection h2 with h3 h4;exact .inl ⟨h4,h3⟩
  · rw [hs] at h2;injection h2 with h3 h4;exact .inr ⟨h4,h3⟩
 obtain ⟨A5,c5,rfl,uF,Qm⟩:=h
 clear hs Qm uF hm hi HC hS hl
 generalize l.length=ln at *
 go_enter Tryz.func45,Tryz.ntmps45
 go_upto_region 1 with fail
 generalize w.alloc (.cells EB 59)=w1 at *
 have HB1:=qh hB1
 have HR1:=qh hr1
 clear hB1 hr1
 dsimp only at NI
 go_upto_region 2 with (go_at_call 46;(with_reducible refine NI.out.mono ?_);rintro e w2 ⟨rfl,hB2⟩;have HB2:=qh hB2;clear hB2)
 have hb3:=AL.new w2 (E5 s) 59
 have hB3:Below w2.heap.size w2 (w2.alloc (.cells (E5 s) 59)):=(Below.refl _ _).alloc (Nat.le_refl _) _
 generalize w2.alloc (.cells (E5 s) 59)=w3 at *
 have HR3:=qh (((HR1.out.below HB2.out HR1.out.lt).below hB3 (by have:=HB2.out.size;have:=HR1.out.lt;omega)))
 have Ie:=qh (HB1.out.trans ((HB2.out.trans (hB3.mono HB2.out.size)).mono HB1.out.size))
 obtain ⟨m3,hib⟩:=hIB.out w3 Ie.out
 have HIB:=qh hib
 have x0:=hb3.at 0 _ rfl
 have x1:=hb3.at 1 _ rfl
 have x2:=hb3.at 2 _ rfl
 have x3:=hb3.at 3 _ rfl
 have x4:=hb3.at 4 _ rfl
 have x5:=hb3.at 5 _ rfl
 have x6:=hb3.at 6 _ rfl
 have x7:=hb3.at 7 _ rfl
 have x8:=hb3.at 8 _ rfl
 have x9:=hb3.at 9 _ rfl
 have OH:=hb3.at 10 _ rfl
 have y0:=HR3.out.at 0 _ rfl
 have y1:=HR3.out.at 1 _ rfl
 have y2:=HR3.out.at 2 _ rfl
 have y3:=HR3.out.at 3 _ rfl
 have y4:=HR3.out.at 4 _ rfl
 have y5:=HR3.out.at 5 _ rfl
 have y6:=HR3.out.at 6 _ rfl
 have y7:=HR3.out.at 7 _ rfl
 have y8:=HR3.out.at 8 _ rfl
 have y9:=HR3.out.at 9 _ rfl
 have YB:=HR3.out.at 10 _ rfl
 have z0:=HR3.out.free 0
 have z1:=HR3.out.free 1
 have z2:=HR3.out.free 2
 have z3:=HR3.out.free 3
 have z4:=HR3.out.free 4
 have z5:=HR3.out.free 5
 have z6:=HR3.out.free 6
 have z7:=HR3.out.free 7
 have z8:=HR3.out.free 8
 have z9:=HR3.out.free 9
 have YC:=HR3.out.free 10
 have Me:Hid (∀ m,∃ w8,((((((((((((w3.drewN m).setCell ⟨w.heap.size,0,none⟩ (.int .i64 s.tx)).setCell ⟨w.heap.size,1,none⟩ (.int .i64 s.time)).setCell ⟨w.heap.size,2,none⟩ (.int .i64 s.unit)).setCell ⟨w.heap.size,3,none⟩ (.int .i64 s.data)).setCell ⟨w.heap.size,4,none⟩ (.int .i64 s.blocks)).setCell ⟨w.heap.size,5,none⟩ (.int .i64 s.top)).setCell ⟨w.heap.size,6,none⟩ (.int .i64 s.Ed)).setCell ⟨w.heap.size,7,none⟩ (.int .i64 s.Ff)).setCell ⟨w.heap.size,8,none⟩ (.int .i64 s.Ic)).setCell ⟨w.heap.size,9,none⟩ (.int .i64 s.Fg)).setCell ⟨w.heap.size,10,none⟩ (.int .i64 s.mover))=w8∧AL w8 w.heap.size (E5 s) 59∧Touch (fun x=>x=w.heap.size) (w3.drewN m) w8):=fun m=>E9 (w:=w3.drewN m) HR3.out s
 have hsz:w.heap.size≤w3.heap.size:=Ie.out.size
 have yL:Hid (∀ m,Calls Tryz.prog 33 #[.pointer (some ⟨a,0,none⟩)] (w3.drewN m) fun e w''=>e=.returned (.int .i64 ((n / 256:Nat):Int))∧w''=w3.drewN m):=fun m=>(hIB.out (w3.drewN m) (AV Ie.out m)).2
 clear NI hIB hib hb3 hB3 HB2 HIB
 by_cases hE:E=0
 · subst hE
   by_cases hb:((n / 256:Nat):Int)<s.blocks
   · have HF:Hid (Dt (n / 256) l=2):=by
       show _=_
       rw [HE.out,if_neg (by simp)]
       rcases Zx.out with ⟨_,h⟩|⟨h,_⟩
       · rw [← h,if_pos hb]
       · cases h
     have d1:decide (((n / 256:Nat):Int)<s.blocks)=true:=decide_eq_true hb
     go_upto_region 2 with fail
     go_quiet ((go_at_call 33;exact Calls.quiet_of_same (yL.out _)))
     go_wp2_with fail
     obtain ⟨w8,ew,hbx,htx⟩:=Me.out _
     rw [ew]
     have r0:=hbx.at 0 _ rfl
     have r1:=hbx.at 1 _ rfl
     have r2:=hbx.at 2 _ rfl
     have r3:=hbx.at 3 _ rfl
     have r4:=hbx.at 4 _ rfl
     have r5:=hbx.at 5 _ rfl
     have r6:=hbx.at 6 _ rfl
     have r7:=hbx.at 7 _ rfl
     have r8:=hbx.at 8 _ rfl
     have r9:=hbx.at 9 _ rfl
     have Kt:=hbx.at 10 _ rfl
     exact bodyPost_ret (v:=.tuple #[.agg #[.int .i64 s.tx,.int .i64 s.time,.int .i64 s.unit,.int .i64 s.data,.int .i64 s.blocks,.int .i64 s.top,.int .i64 s.Ed,.int .i64 s.Ff,.int .i64 s.Ic,.int .i64 s.Fg,.int .i64 s.mover],.int .i64 2]) (by simp [results,Tryz.results45,go_sem,r0,r1,r2,r3,r4,r5,r6,r7,r8,r9,Kt]) rfl ⟨by rw [HF.out],Ie.out.trans (((Touch.drewN (R:=fun x=>x=w.heap.size) _).trans htx).below (fun x h=>by omega) hsz)⟩
   · have HF:Hid (Dt (n / 256) l=0):=by
       show _=_
       rw [HE.out,if_neg (by simp)]
       rcases Zx.out with ⟨_,h⟩|⟨h,_⟩
       · rw [← h,if_neg hb]
       · cases h
     have d1:decide (((n / 256:Nat):Int)<s.blocks)=false:=decide_eq_false hb
     go_upto_region 2 with fail
     go_quiet ((go_at_call 33;exact Calls.quiet_of_same (yL.out _)))
     go_wp2_with fail
     obtain ⟨w8,ew,hbx,htx⟩:=Me.out _
     rw [ew]
     have r0:=hbx.at 0 _ rfl
     have r1:=hbx.at 1 _ rfl
     have r2:=hbx.at 2 _ rfl
     have r3:=hbx.at 3 _ rfl
     have r4:=hbx.at 4 _ rfl
     have r5:=hbx.at 5 _ rfl
     have r6:=hbx.at 6 _ rfl
     have r7:=hbx.at 7 _ rfl
     have r8:=hbx.at 8 _ rfl
     have r9:=hbx.at 9 _ rfl
     have Kt:=hbx.at 10 _ rfl
     exact bodyPost_ret (v:=.tuple #[.agg #[.int .i64 s.tx,.int .i64 s.time,.int .i64 s.unit,.int .i64 s.data,.int .i64 s.blocks,.int .i64 s.top,.int .i64 s.Ed,.int .i64 s.Ff,.int .i64 s.Ic,.int .i64 s.Fg,.int .i64 s.mover],.int .i64 0]) (by simp [results,Tryz.results45,go_sem,r0,r1,r2,r3,r4,r5,r6,r7,r8,r9,Kt]) rfl ⟨by rw [HF.out],Ie.out.trans (((Touch.drewN (R:=fun x=>x=w.heap.size) _).trans htx).below (fun x h=>by omega) hsz)⟩
 · have hE7:E=7:=by
     rcases Zx.out with ⟨h,_⟩|⟨h,_⟩
     · exact absurd h hE
     · exact h
   subst hE7
   have HF:Hid (Dt (n / 256) l=7):=by
    show _=_
    rw [HE.out,if_pos (by simp)]
   go_upto_region 2 with fail
   go_quiet (fail)
   go_wp2_with fail
   obtain ⟨w8,ew,hbx,htx⟩:=Me.out _
   rw [ew]
   have r0:=hbx.at 0 _ rfl
   have r1:=hbx.at 1 _ rfl
   have r2:=hbx.at 2 _ rfl
   have r3:=hbx.at 3 _ rfl
   have r4:=hbx.at 4 _ rfl
   have r5:=hbx.at 5 _ rfl
   have r6:=hbx.at 6 _ rfl
   have r7:=hbx.at 7 _ rfl
   have r8:=hbx.at 8 _ rfl
   have r9:=hbx.at 9 _ rfl
   have Kt:=hbx.at 10 _ rfl
   exact bodyPost_ret (v:=.tuple #[.agg #[.int .i64 s.tx,.int .i64 s.time,.int .i64 s.unit,.int .i64 s.data,.int .i64 s.blocks,.int .i64 s.top,.int .i64 s.Ed,.int .i64 s.Ff,.int .i64 s.Ic,.int .i64 s.Fg,.int .i64 s.mover],.int .i64 7]) (by simp [results,Tryz.results45,go_sem,r0,r1,r2,r3,r4,r5,r6,r7,r8,r9,Kt]) rfl ⟨by rw [HF.out],Ie.out.trans (((Touch.drewN (R:=fun x=>x=w.heap.size) _).trans htx).below (fun x h=>by omega) hsz)⟩
end
section
open Go.RowKit
theorem VG (w:World) (S:Nat→Prop) (base a:Nat) (bs:List UInt8) (j:Nat) (vb:Value) (b:List UInt8) (h:BO w base a bs) (hn:bs.length≤140737488355328) (hb:AU w S vb b) (hbl:b.length=256) (hj:j*256+256≤bs.length) :
 Calls Tryz.prog 83 #[.pointer (some ⟨a,0,none⟩),.int .i64 j,vb] w fun e w'=>e=.returned (.int .i64 0)∧BO w' base a (Gv bs j b)∧Km w w' a:=by
 have hown:=h
 have hk:hasB bs.length (j:Int):=⟨by omega,by omega⟩
 obtain ⟨h0,A,c,h1,h2⟩:=h
 obtain ⟨Ab,cb,rfl,hcb,hrb⟩:=hb
 obtain ⟨g,cap,hv,hg1,hg2,hnc⟩:=Eg h2 (by omega)
 injection hv with hv1 hv2 hv3
 subst hv1 hv3
 have hne:=BO.ne h1 h2 rfl
 have LM:=qh (PN w a g 0 bs.length c j h1.cell hnc hn hj)
 have hwr:Gv bs j b=bs.take (j*256)++b++bs.drop (j*256+256):=by unfold Gv;rw [if_pos ⟨hk,hbl⟩,Int.toNat_natCast]
 obtain ⟨gb,ob,rfl,hSb,hcl⟩:=BU hrb (by omega)
 obtain ⟨cur,WR,hcs,hsp⟩:=Q7 h2
 have hnew:=hsp (j*256) (AA AX b) (by rw [Ad];omega)
 have hfl:(AA AX bs).take (j*256)++(AA AX b++(AA AX bs).drop (j*256+(AA AX b).length))=AA AX (Gv bs j b):=by
  rw [hwr,Ad,hbl]
  simp only [BQ,List.map_append,List.map_take,List.map_drop,List.append_assoc]
 have hwl:(Gv bs j b).length=bs.length:=by rw [hwr];simp only [List.length_append,List.length_take,List.length_drop];omega
 rw [hfl] at hnew
 have h1':One (w.setRow g (cur.toList.take (j*256)++(AA AX b++cur.toList.drop (j*256+(AA AX b).length))).toArray) a (.slice (some ⟨g,0,none⟩) bs.length c) 84:=(setRow_other w g a _ (fun e=>hne e.symm)).trans h1
 have hfin:BO (w.setRow g (cur.toList.take (j*256)++(AA AX b++cur.toList.drop (j*256+(AA AX b).length))).toArray) base a (Gv bs j b):=⟨h0,_,c,by rw [hwl];exact h1',by rw [hwl];exact hnew⟩
 have yM:Km w (w.setRow g (cur.toList.take (j*256)++(AA AX b++cur.toList.drop (j*256+(AA AX b).length))).toArray) a:=⟨some g,fun v hv=>by rw [h1.cell] at hv;injection hv with hv;rw [← hv];rfl,LP w g _,by simp⟩
 have LX:=qh hfin
 have bz:=qh yM
 have Hm:=qh (fun k hk=>hcl k hk)
 have bu:=qh WR
 have hbb:((b.length:Int) != 256)=false:=by rw [hbl];rfl
 have AAU:((b.length:Int)==256)=true:=by rw [hbl];rfl
 have lT:=qh hbl
 clear hfin yM hcl WR h1' hwl hfl hnew hsp hwr hrb h1 h2 hown hbl hne hSb
 go_enter Tryz.func83,Tryz.ntmps83
 go_wp2_with (first
  | (go_at_call 127;refine LM.out.mono ?_;rintro e w' ⟨rfl,rfl⟩)
  | ((with_reducible refine wpList_copy_own rfl _ _ _ _ rfl 5 Tryz.underlying82 YN g (j*256) 256 256 ⟨gb,ob,none⟩ b.length cb ?_ ?_ cur 5 bu.out (AA AX b) ?_ (M7 Hm.out) ?_ (Cy b) ?_);exact rfl;exact rfl;(rw [Ad,lT.out];rfl);(rw [Ad,lT.out];omega)))
 go_ret
 exact ⟨rfl,LX.out,bz.out⟩
def VH (w:World) (a:Nat) (x:Nat):Prop:=∃ v,w.cell? ⟨a,0,none⟩=some v∧v.ownBlock=some x
theorem BO.below' {w w':World} {base a:Nat} {bs:List UInt8} (h:BO w base a bs) (hB:Below w.heap.size w w'):BO w' base a bs:=by
 obtain ⟨h0,A,c,h1,h2⟩:=h
 exact ⟨h0,A,c,(hB.block a (Array.getElem?_eq_some_iff.1 h1).1).trans h1,own_below h2 hB (Nat.le_refl _)⟩
theorem BO.MG {w:World} {base a:Nat} {bs:List UInt8} (h:BO w base a bs):∃ A c,w.cell? ⟨a,0,none⟩=some (.slice A bs.length c)∧a<w.heap.size:=by
 obtain ⟨h0,A,c,h1,h2⟩:=h
 exact ⟨A,c,h1.cell,(Array.getElem?_eq_some_iff.1 h1).1⟩
theorem Km.touch {w w':World} {a:Nat} {v:Value} (h:Km w w' a) (hv:w.cell? ⟨a,0,none⟩=some v):Touch (VH w a) w w':=by
 obtain ⟨row,h1,h2,h3⟩:=h
 exact Touch.CV h2 (fun x hx=>⟨v,hv,by rw [h1 v hv];exact hx⟩)
set_option maxRecDepth 100000 in
theorem H8 (w:World) (S:Nat→Prop) (base img:Nat) (bs:List UInt8) (no kind:Nat) (v:Value) (inn:List UInt8) (hS:∀ b,S b→b<w.heap.size) (h:BO w base img bs) (hn:bs.length≤140737488355328) (hb:AU w S v inn) (hl:inn.length≤244) (hk1:1≤kind) (hk4:kind≤4) (hno:no<14400) (hj:no*256+256≤bs.length) :
 Calls Tryz.prog 41 #[.pointer (some ⟨img,0,none⟩),.int .i64 no,.int .i64 kind,v] w fun e w'=>e=.returned .nilIface∧BO w' base img (Gv bs no (BG kind no inn))∧Touch (VH w img) w w':=by
 have HSE:=qh (XU w S v inn kind no hS hb hl hk1 hk4 hno)
 have Ke:Hid ((BG kind no inn).length=256):=by
  show _=_
  unfold BG
  rw [List.length_append,Br,Je kind no inn hl]
 have HWR:=qh (fun (w':World) (b0:Nat) (A:Option Addr) (c:Nat) (ho:BO w' base img bs) (hr:w'.ownsRow b0 5 1 (.slice A 256 c) 256 (AA AX (BG kind no inn)))=>VG w' _ base img bs no (.slice A 256 c) (BG kind no inn) ho hn (FW hr Ke.out.symm) Ke.out hj)
 have oJ:=qh (fun w'=>YP w' (no:Int))
 have HOW:=qh h
 obtain ⟨A0,c0,hc0,Yb⟩:=h.MG
 have eu:=qh hc0
 have Uh:=qh Yb
 clear hS hb hl hk1 hk4 hno hj h hc0 Yb
 generalize BG kind no inn=sb at *
 go_enter Tryz.func41,Tryz.ntmps41
 go_wp2_with (first
  | (go_at_call 82;(with_reducible refine HSE.out.mono ?_);rintro e w2 ⟨⟨A2,c2,rfl,ho2⟩,hB2⟩;have V9:=qh ho2;have HB2:=qh hB2;clear ho2 hB2)
  | (go_at_call 83;(with_reducible refine (HWR.out _ _ A2 c2 (HOW.out.below' HB2.out) V9.out).mono ?_);rintro e w3 ⟨rfl,ho3,ht3⟩;have PZ:=qh ho3;have HT3:=qh ht3;clear ho3 ht3)
  | (go_at_call 84;(with_reducible refine (oJ.out _).mono ?_);rintro e w4 ⟨rfl,hw⟩;rw [hw];clear hw w4))
 go_ret
 have hc2:World.cell? _ ⟨img,0,none⟩=some _:=AY HB2.out Uh.out eu.out
 refine ⟨rfl,PZ.out,(Touch.of_below HB2.out).trans ((HT3.out.touch hc2).weak (fun x hx=>?_))⟩
 obtain ⟨v,hv,hx⟩:=hx
 rw [hc2] at hv
 injection hv with hv
 exact ⟨_,eu.out,by rw [hv];exact hx⟩
end
section
open Go.RowKit
def KX:List Value:=List.replicate 2048 (Value.int .u8 0)
def EO:List UInt8:=List.replicate 2048 0
theorem Xk:KX=AA AX EO:=by
 unfold KX EO
 rw [BQ,List.map_replicate]
 rfl
theorem Db:EO.length=2048:=by unfold EO;rw [List.length_replicate]
theorem Xl (w:World):(Instr.makeSlice 82 (.int .i64 2048) (.int .i64 2048)).run Tryz.prog w=.ok (.slice (some ⟨w.heap.size,0,none⟩) 2048 2048) (w.alloc (.cells KX.toArray 5)):=by
 have h:=run_make_row' (P:=Tryz.prog) 82 5 (.int .u8 0) 1 Tryz.underlying82 (by kernel_rfl) rfl .i64 .i64 2048 (by omega) (by omega) w
 have hmz:(madeCells #[Value.int .u8 0] 2048)=KX.toArray:=by
  rw [← Array.toArray_toList (xs:=madeCells #[Value.int .u8 0] 2048),toList_madeCells_one]
  rfl
 rw [hmz] at h
 exact h
set_option maxRecDepth 100000 in
theorem Ze (w:World):Calls Tryz.prog 13 #[.int .i64 8] w fun e w'=>(∃ a,e=.returned (.tuple #[.pointer (some ⟨a,0,none⟩),.int .i64 0])∧BO w' w.heap.size a EO)∧Below w.heap.size w w':=by
 have hmk:=Xl w
 obtain ⟨ka,kb,kB,kz⟩:=AL.two w KX.toArray #[.slice (some ⟨w.heap.size,0,none⟩) 2048 2048] 5 84
 have HA:=qh ka
 have HB:=qh kb
 have HK:=qh kB
 clear ka kb kB kz
 go_enter Tryz.func13,Tryz.ntmps13
 go_wp2_with fail
 refine bodyPost_ret (v:=.tuple #[.pointer (some ⟨w.heap.size+1,0,none⟩),.int .i64 0]) (by simp [results,Tryz.results13,go_sem]) rfl ⟨⟨_,rfl,Nat.le_succ _,some ⟨w.heap.size,0,none⟩,2048,by rw [Db];exact HB.out,?_⟩,HK.out⟩
 rw [Db,← Xk]
 exact ⟨by unfold KX;rw [List.length_replicate],.inr ⟨w.heap.size,2048,_,rfl,Nat.le_refl _,HA.out,Nat.le_refl _,by decide,by unfold KX;rw [List.size_toArray,List.length_replicate],by rw [List.toList_toArray,List.take_of_length_le (by unfold KX;rw [List.length_replicate];decide)]⟩⟩
end
end Go.Proofs.YthblbddmcdnllaaGreatDoor
