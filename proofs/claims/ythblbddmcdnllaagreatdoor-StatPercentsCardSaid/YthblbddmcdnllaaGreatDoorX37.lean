/- A part of the proof: WSuper4, WSuper5, WSuper6. -/
import Derived.Test.YthblbddmcdnllaaGreatDoorX14
import Derived.Test.YthblbddmcdnllaaGreatDoorX15
import Derived.Deep.OwnRows
import Derived.Lib.BufferWrite
import Derived.Lib.SlBuf
import Derived.Test.YthblbddmcdnllaaGreatDoorX8
import Derived.Test.YthblbddmcdnllaaGreatDoorX9
import Derived.Test.YthblbddmcdnllaaGreatDoorY1
set_option maxHeartbeats 6400000
set_option linter.unusedVariables false
set_option linter.unusedSimpArgs false
namespace Go.Proofs.YthblbddmcdnllaaGreatDoor
section
open Go.RowKit Go.Shelf
attribute [local go_sem] Oper.semAt_some
def FO (w:World) (s:Kk) (e:Ending) (w':World):Prop :=
 if CL s=true then ∃ g,e=.returned (.tuple #[.slice (some ⟨g,0,none⟩) 244 244,.int .i64 0])∧w.heap.size≤g∧w'.heap[g]? = some (.cells (AA AX (Cg s)).toArray 5 (0,0)) else e=.returned (.tuple #[.slice none 0 0,.int .i64 1])
theorem U8 {lo hi n:Int}:Dh lo hi n=true↔lo≤n∧n≤hi:=by simp [Dh]
theorem MB {s:Kk} (h:CL s=true):∀ f∈BM s,EG f:=by
 unfold CL at h
 simp only [Bool.and_eq_true,U8] at h
 obtain ⟨⟨⟨⟨⟨⟨⟨⟨⟨⟨h0,h1⟩,h2⟩,h3⟩,h4⟩,h5⟩,h6⟩,h7⟩,h8⟩,h9⟩,h10⟩:=h
 have k:∀ n:Int,0≤n→n<4294967296→EG (4,n):=fun n a b=>⟨.inr (.inr (.inl rfl)),a,by show n<_;omega,.inr (by show n<256 ^ 4;omega)⟩
 intro f hf
 simp only [BM,Np,List.map_cons,List.map_nil,List.mem_cons,List.not_mem_nil,or_false] at hf
 rcases hf with rfl|rfl|rfl|rfl|rfl|rfl|rfl|rfl|rfl|rfl|rfl|rfl <;> exact k _ (by omega) (by omega)
theorem lC:(Tryz.prog.info? 5).map (·.size)=some 1:=by kernel_rfl
def EA:List Value:=List.replicate 244 (Value.int .u8 0)
theorem Jd:EA.length=244:=by unfold EA;rw [List.length_replicate]
theorem OX (w:World):(Instr.makeSlice 82 (.int .i64 244) (.int .i64 244)).run Tryz.prog w=.ok (.slice (some ⟨w.heap.size,0,none⟩) 244 244) (w.alloc (.cells EA.toArray 5)):=by
 have h:=run_make_row' (P:=Tryz.prog) 82 5 (.int .u8 0) 1 Tryz.underlying82 (by kernel_rfl) rfl .i64 .i64 244 (by omega) (by omega) w
 have hmz:(madeCells #[Value.int .u8 0] 244)=EA.toArray:=by kernel_rfl
 rw [hmz] at h
 exact h
set_option maxRecDepth 100000 in
theorem MC (w:World) (s:Kk) (hn0 : -4611686018427387904≤s.blocks) (hn1:s.blocks≤4611686018427387904) :
 Calls Tryz.prog 40 #[Iu s] w fun e w'=>FO w s e w'∧Below w.heap.size w w':=by
 have Ui:=qh (fun w'=>JR w' s hn0 hn1)
 have hb:=AL.new w (E5 s) 59
 have hB1:Below w.heap.size w (w.alloc (.cells (E5 s) 59)):=(Below.refl _ _).alloc (Nat.le_refl _) _
 have hcs:∀ w',Below (w.alloc (.cells (E5 s) 59)).heap.size (w.alloc (.cells (E5 s) 59)) w'→AL w' w.heap.size (E5 s) 59:=fun w' h=>hb.below h hb.lt
 have cZ:=qh hcs
 have HB1:=qh hB1
 have x0:=hb.at 0 _ rfl
 have x1:=hb.at 1 _ rfl
 have x2:=hb.at 2 _ rfl
 have x3:=hb.at 3 _ rfl
 have x4:=hb.at 4 _ rfl
 have x5:=hb.at 5 _ rfl
 have x6:=hb.at 6 _ rfl
 have x7:=hb.at 7 _ rfl
 have x8:=hb.at 8 _ rfl
 have x9:=hb.at 9 _ rfl
 have OH:=hb.at 10 _ rfl
 clear hcs hB1
 go_enter Tryz.func40,Tryz.ntmps40
 go_upto_region 1 with fail
 generalize w.alloc (.cells (E5 s) 59)=w1 at *
 have hlt1:=hb.lt
 clear hb
 by_cases hr:CL s=true
 · have HR:=qh hr
   have ZJ:Hid (∀ w',Calls Tryz.prog 47 #[Iu s] w' fun e w''=>e=.returned (.bool true)∧Below w'.heap.size w' w''):=fun w'=>by
    have:=Ui.out w'
    rw [hr] at this
    exact this
   clear hr Ui
   go_upto_region 4 with (go_at_call 47;(with_reducible refine (ZJ.out _).mono ?_);rintro e w2 ⟨rfl,hB2⟩;have HB2:=qh hB2;clear hB2)
   clear x0 x1 x2 x3 x4 x5 x6 x7 x8 x9 OH ZJ
   have tY:=HB2.out.size
   have hb2:=cZ.out w2 HB2.out
   obtain ⟨hf,hl,hB4,dU⟩:=AL.two w2 #[.int .i64 4,.int .i64 1] #[.slice (some ⟨w2.heap.size,0,none⟩) 1 1] 168 169
   have hb4:=hb2.below hB4 hb2.lt
   generalize (w2.alloc (.cells #[.int .i64 4,.int .i64 1] 168)).alloc (.cells #[.slice (some ⟨w2.heap.size,0,none⟩) 1 1] 169)=w4 at *
   have yC:Pv w4 w2.heap.size (w2.heap.size+1) ((BM s).take 1):=by
    refine ⟨some ⟨w2.heap.size,0,none⟩,1,hl,⟨rfl,.inr ⟨w2.heap.size,1,_,rfl,Nat.le_refl _,hf,Nat.le_refl _,by unfold maxLen;omega,rfl,rfl⟩⟩⟩
   have lD:Hid (Calls Tryz.prog 79 #[.pointer (some ⟨w.heap.size,0,none⟩),.func (.func 80) #[] #[.pointer (some ⟨w2.heap.size+1,0,none⟩)]] w4 fun e w'=>e=.returned (.tuple #[])∧Pv w' w2.heap.size (w2.heap.size+1) (BM s)∧Below w2.heap.size w2 w') :=
    (LW w4 80 w.heap.size #[.pointer (some ⟨w2.heap.size+1,0,none⟩)] s.blocks _ Px hn0 hn1 (Yi w4 w2.heap.size w.heap.size (w2.heap.size+1) s (by omega) hB4.size) ⟨hb4,yC,Touch.refl⟩).mono fun e w' ⟨h1,h2,h3,h4⟩ =>
     ⟨h1,h3,hB4.trans ((h4.weak (R':=fun y=>w2.heap.size≤y) (fun y e=>by rcases e with e|e <;> omega)).below (fun x h=>h) hB4.size)⟩
   clear hf hl hB4 dU hb4 yC hb2
   go_upto_region 5 with (go_at_call 79;(with_reducible refine lD.out.mono ?_);rintro e w5 ⟨rfl,⟨A5,c5,hl5,IW⟩,BX⟩;have KR:=qh IW;have DT:=qh BX;have l5:=hl5.cell;clear hl5 IW BX)
   have hfl:(BM s).length=12:=rfl
   rw [hfl] at l5
   have RP:Hid (Calls Tryz.prog 81 #[.slice A5 12 c5] w5 fun e w'=>(∃ A c,e=.returned (.tuple #[.slice A 48 c,.int .i64 0])∧w'.ownsRow w5.heap.size 5 1 (.slice A 48 c) 48 (AA AX (Aj (BM s))))∧Below w5.heap.size w5 w'):=by
    have hp:(Aj (BM s)).length=48:=by rw [Dg];rfl
    have:=Hl w5 (Fu w2.heap.size w5.heap.size) (.slice A5 12 c5) (BM s) (fun b hb=>hb.2) (Bp.own (enc:=MS) (d:=((0:Nat),(0:Int))) Fy (by have:=KR.out;rw [hfl] at this;exact this) (by omega)) (MB HR.out) (by rw [hfl];omega)
    rw [hp] at this
    exact this
   clear hfl lD
   go_upto_region 6 with (go_at_call 81;(with_reducible refine RP.out.mono ?_);rintro e w6 ⟨⟨A6,c6,rfl,aW⟩,FP⟩;have OA:=qh aW;have D8:=qh FP;clear aW FP)
   clear l5 RP
   obtain ⟨g6,lF,N7,hc6,hs6⟩:=BS OA.out (by omega)
   subst lF
   have HS6:=qh hs6
   clear hs6
   have hsz:=D8.out.size
   have hsz5:=DT.out.size
   have hmk:=OX
   go_upto_region 7 with fail
   have IG:=AL.new w6 EA.toArray 5
   have Gs:Below w6.heap.size w6 (w6.alloc (.cells EA.toArray 5)):=(Below.refl _ _).alloc (Nat.le_refl _) _
   generalize w6.alloc (.cells EA.toArray 5)=w7 at *
   obtain ⟨g,hgg⟩:∃ g,w6.heap.size=g:=⟨_,rfl⟩
   rw [hgg] at IG ⊢
   have uI:Hid (∃ w8,(Builtin.copy_ #[82,9] 3 #[.slice (some ⟨g,0,none⟩) 244 244,.string ⟨#[83,67,65,78,84,76,73,78]⟩]).run Tryz.prog w7=.ok (.int .i64 8) w8∧w8.heap[g]? = some (.cells (AA AX EI++EA.drop 8).toArray 5 (0,0))∧Below g w7 w8):=by
    have h:=Lib.run_copy_row_string (P:=Tryz.prog) w7 82 9 3 5 g 0 244 244 ⟨#[83,67,65,78,84,76,73,78]⟩ _ 5 Tryz.underlying82 (by kernel_rfl) IG (by decide) (by rw [List.size_toArray,Jd];decide)
    refine ⟨_,h,?_,below_setRow (Below.refl _ _) (Nat.le_refl _) _⟩
    exact (setRow_heap w7 g _ _ 5 (0,0) IG).trans rfl
   obtain ⟨w8,hcp,Du,KS⟩:=uI.out
   have uI:=qh hcp
   have Hg:=qh Du
   have Gf:Hid (Below w5.heap.size w5 w8):=D8.out.trans (Gs.trans (KS.mono (by omega)) |>.mono hsz)
   have ZK:=Gf.out.size
   have Hm:Hid (∀ j u,(AA AX (Aj (BM s)))[j]? = some u→w8.cell? ((⟨g6,0,none⟩:Addr).add j)=some u):=fun j u hu=>by
    have h1:=HS6.out j u hu
    rw [add_lit] at h1 ⊢
    exact ((Gs.trans (KS.mono (by omega))).cell (p:=⟨g6,0+j,none⟩) N7).trans h1
   have Ow:Hid ((AA AX (Aj (BM s))).length=48):=by show _=_;rw [Ad,Dg];rfl
   have LX:Hid (splice (AA AX EI++EA.drop 8) 8 (AA AX (Aj (BM s)))=AA AX (Cg s)):=by
    have hz:(EA.drop 8).drop 48=AA AX (List.replicate 188 0):=by
     rw [List.drop_drop]
     unfold EA
     rw [List.drop_replicate,BQ,List.map_replicate]
     rfl
    show _=_
    unfold splice Cg
    rw [Ow.out,BK,BK,← hz,show (AA AX EI++EA.drop 8).take 8=AA AX EI from List.take_left' rfl,show (8+48:Nat)=(AA AX EI).length+48 from rfl,List.drop_append,List.append_assoc,List.drop_of_length_le (by omega),Nat.add_sub_cancel_left,List.nil_append]
   clear IG Gs hcp Du KS
   go_wp2_with (first
    | ((with_reducible refine Lib.wpList_copy_run w7 ?_ (.tmp 22) (.const (.string ⟨#[83,67,65,78,84,76,73,78]⟩)) 82 9 ?_ _ _ ?_ ?_ uI.out ?_);rfl;rfl;rfl;rfl)
    | ((with_reducible refine wpList_copy_splice ?_ (.tmp 24) (.tmp 25) 82 82 ?_ 5 Tryz.underlying82 lC (some ⟨g,8,none⟩) (some ⟨g6,0,none⟩) 236 236 48 c6 ?_ ?_ g 8 (AA AX EI++EA.drop 8) 5 Hg.out (AA AX (Aj (BM s))) ?_ ?_ ?_ (Cy _) g w8 (Below.refl _ _) (Nat.le_refl _) ?_);rfl;rfl;rfl;rfl;exact Ow.out;(intro _;exact ⟨rfl,_,rfl,Hm.out⟩);(rw [Ow.out,List.length_append,List.length_drop,Jd];decide);(intro w9 Dp Kr;have Jb:=qh Kr;clear Kr)))
   refine bodyPost_ret (v:=.tuple #[.slice (some ⟨g,0,none⟩) 244 244,.int .i64 0]) (by simp [results,Tryz.results40,go_sem]) rfl ⟨?_,?_⟩
   · unfold FO
     rw [if_pos HR.out]
     refine ⟨g,rfl,by have:=HB1.out.size;omega,?_⟩
     rw [← LX.out]
     exact Dp.out
   · exact HB1.out.trans (HB2.out.trans (DT.out.trans ((Gf.out.trans (Jb.out.mono (by omega))).mono (by omega)) |>.mono (by omega)) |>.mono HB1.out.size)
 · have HN:=qh hr
   have hrf:CL s=false:=by simpa using hr
   have ZJ:Hid (∀ w',Calls Tryz.prog 47 #[Iu s] w' fun e w''=>e=.returned (.bool false)∧Below w'.heap.size w' w''):=fun w'=>by
    have:=Ui.out w'
    rw [hrf] at this
    exact this
   clear hr Ui hrf
   go_wp2_with (go_at_call 47;(with_reducible refine (ZJ.out _).mono ?_);rintro e w2 ⟨rfl,hB2⟩;have HB2:=qh hB2;clear hB2)
   refine bodyPost_ret (v:=.tuple #[.slice none 0 0,.int .i64 1]) (by simp [results,Tryz.results40,go_sem]) rfl ⟨?_,HB1.out.trans (HB2.out.mono HB1.out.size)⟩
   unfold FO
   rw [if_neg HN.out]
end
section
open Go.RowKit Go.Shelf
attribute [local go_sem] Oper.semAt_some
def E8 (b:List UInt8):Nat→Array Value
 | 0=>E5 LC
 | k+1=>(E8 b k).setIfInBounds k (.int .i64 (AC b (12+4*k) 4:Nat))
theorem QW (b:List UInt8):E8 b 11=E5 (Cw b):=by simp [E8,Cw,LC]
theorem Jf (b:List UInt8):∀ k,(E8 b k).size=11
 | 0=>rfl
 | k+1=>by rw [E8,Array.size_setIfInBounds,Jf b k]
theorem Jg (b:List UInt8):∀ k,(E8 b (5+k))[4]? = some (.int .i64 (AC b 28 4:Nat))
 | 0=>rfl
 | k+1=>by
  rw [show 5+(k+1)=(5+k)+1 from rfl,E8,Array.getElem?_setIfInBounds_ne (by omega)]
  exact Jg b k
theorem SL (b:List UInt8) (k:Nat) (h:k<11):∃ v,(E8 b k)[k]? = some v:=⟨_,Array.getElem?_eq_getElem (by rw [Jf];exact h)⟩
set_option maxRecDepth 100000 in
theorem VD (w:World) (S:Nat→Prop) (a k ib ab:Nat) (v:Value) (bs:List UInt8) (at_:Nat) (lo hi:Int) (cs:Array Value) (T:TypeId) (u:Value) (hx:AL w a cs T) (hk:cs[k]? = some u) (hi0:One w ib v 82) (ha0:One w ab (.int .i64 at_) 3) (hT:a≠ab) (hS:∀ b,S b→b<w.heap.size) (h:AU w S v bs) (ha:at_+4≤bs.length) (hl:bs.length≤1000) :
 Calls Tryz.prog 88 #[.pointer (some ⟨a,k,none⟩),.int .i64 lo,.int .i64 hi,.pointer (some ⟨ib,0,none⟩),.pointer (some ⟨ab,0,none⟩)] w fun e w'=>e=.returned (.tuple #[])∧w'=(w.setCell ⟨a,k,none⟩ (.int .i64 (AC bs at_ 4:Nat))).setCell ⟨ab,0,none⟩ (.int .i64 ((at_+4:Nat):Int)):=by
 have HG:Hid (Calls Tryz.prog 89 #[v,.int .i64 at_,.int .i64 4] w fun e w'=>e=.returned (.tuple #[.int .i64 (AC bs at_ 4:Nat),.int .i64 0])∧w'=w):=by
  have:=IC w S v bs at_ 4 hS h (.inr (.inr (.inl rfl))) ha (by omega)
  rw [if_neg (by have:=EF (l:=bs) (a:=at_) (n:=4);omega)] at this
  exact this
 have x0:=hx.at k _ hk
 have x1:=hx.free k
 have i0:=hi0.cell
 have a0:=ha0.cell
 have a1:=ha0.free
 have a2:(w.setCell ⟨a,k,none⟩ (.int .i64 (AC bs at_ 4:Nat))).cell? ⟨ab,0,none⟩=some (.int .i64 at_):=(ha0.far (p:=⟨a,k,none⟩) (fun e=>hT e.symm)).cell
 have a3:(w.setCell ⟨a,k,none⟩ (.int .i64 (AC bs at_ 4:Nat))).frozen? ⟨ab,0,none⟩=false:=(ha0.far (p:=⟨a,k,none⟩) (fun e=>hT e.symm)).free
 have jc:Hid (((at_:Int)+4)=((at_+4:Nat):Int)):=by show _=_;push_cast;rfl
 clear hx hi0 ha0 hk h hS
 have hb:at_≤1000:=by omega
 clear ha hl
 go_enter Tryz.func88,Tryz.ntmps88
 go_wp2_with (go_at_call 89;(with_reducible refine HG.out.mono ?_);rintro e w5 ⟨rfl,rfl⟩)
 (try simp only [Exit.inBlock,Exit.then])
 refine bodyPost_end (results_none rfl _ _ _) rfl ?_
 exact ⟨rfl,by rw [jc.out]⟩
theorem Oa:∀ args w,(callFunc 88 args).run Tryz.prog w=.ok (.enter 88 args) w:=enters_of Tryz.func88 (by kernel_rfl) rfl
theorem XW (w0:World) (S:Nat→Prop) (g ib ab:Nat) (v:Value) (bs:List UInt8) (h1:g≠ab) (h2:ib≠g) (h3:ib≠ab) (hS:∀ b,S b→b<w0.heap.size∧b≠g∧b≠ab) (h:AU w0 S v bs) (hl:bs.length=244):Nv 88 g #[.pointer (some ⟨ib,0,none⟩),.pointer (some ⟨ab,0,none⟩)] (AC bs 28 4:Nat) fun k w=>AL w g (E8 bs k) 59∧One w ib v 82∧One w ab (.int .i64 ((12+4*k:Nat):Int)) 3∧Touch (fun y=>y=g∨y=ab) w0 w where
 al:=fun k w o ⟨h1,h2,h3,h4⟩=>⟨(Below.heap_alloc w o g h1.lt).trans h1,h2.alloc o,h3.alloc o,h4.trans (Touch.alloc o)⟩
 dr:=fun k w ⟨h1,h2,h3,h4⟩=>⟨h1,h2,h3,h4.trans Touch.drew⟩
 at4:=fun k w hk h=>by
  obtain ⟨j,rfl⟩:∃ j,k=5+j:=⟨k-5,by omega⟩
  exact h.1.at 4 _ (Jg bs j)
 go:=fun k lo hi hs w ⟨p1,p2,p3,p4⟩=>by
  obtain ⟨hk,rfl,rfl⟩:=Nw hs
  obtain ⟨u,hu⟩:=SL bs k hk
  have hkp:AU w S v bs:=h.keep (AB _) (fun _ h=>h) (Ap p4 (fun b hb=>⟨(hS b hb).1,fun e=>by rcases e with e|e;exact (hS b hb).2.1 e;exact (hS b hb).2.2 e⟩))
  refine (VD w S g k ib ab v bs (12+4*k) _ _ _ _ u p1 hu p2 p3 h1 (fun b hb=>by have:=(hS b hb).1;have:=p4.size;omega) hkp (by omega) (by omega)).mono ?_
  rintro e w' ⟨rfl,rfl⟩
  refine ⟨rfl,⟨(p1.set k _).far (fun e=>h1 e.symm) 0 _,(p2.far (p:=⟨g,k,none⟩) h2).far (p:=⟨ab,0,none⟩) h3,?_,?_⟩,fun ga d hd=>?_⟩
  · exact (p3.far (p:=⟨g,k,none⟩) (fun e=>h1 e.symm)).BZ
  · exact (p4.trans (Touch.BZ (R:=fun y=>y=g∨y=ab) (p:=⟨g,k,none⟩) (.inl rfl))).trans (Touch.BZ (R:=fun y=>y=g∨y=ab) (p:=⟨ab,0,none⟩) (.inr rfl))
  · refine (hd.far (fun e=>?_) k _).far (fun e=>?_) 0 _
    · subst e
      unfold AL at p1 hd
      rw [p1] at hd
      injection hd with hd
      injection hd with _ h4
      exact absurd h4 (by decide)
    · subst e
      unfold One at p3
      unfold AL at hd
      rw [p3] at hd
      injection hd with hd
      injection hd with _ h4
      exact absurd h4 (by decide)
end
section
open Go.RowKit Go.Shelf
attribute [local go_sem] Oper.semAt_some
abbrev EB:Array Value:=#[.int .i64 0,.int .i64 0,.int .i64 0,.int .i64 0,.int .i64 0,.int .i64 0,.int .i64 0,.int .i64 0,.int .i64 0,.int .i64 0,.int .i64 0]
def Ch (b:List UInt8):Kk × Int:=if LD b=0 then (Cw b,0) else (LC,7)
theorem VE {b:List UInt8} (h:b.length=244) (hr:CL (Cw b)=false):Ch b=(LC,7):=by
 unfold Ch LD
 rw [if_neg (by rw [hr];simp)]
theorem SN {b:List UInt8} (h:b.length≠244):Ch b=(LC,7):=by
 unfold Ch LD
 rw [if_neg (by simp [h])]
theorem VF {b:List UInt8} (h:b.length=244) (hne:Cg (Cw b)≠b):Ch b=(LC,7):=by
 unfold Ch LD
 have:¬ (b.length=244∧b.take 8=EI∧AC b 8 4=1∧DZ (b.drop 56)=true∧CL (Cw b)=true):=fun ⟨_,h1,h2,h3,_⟩=>hne ((M4 b h).2 ⟨h1,h2,h3⟩)
 rw [if_neg this]
 try rfl
theorem SQ {b:List UInt8} (h:b.length=244) (hr:CL (Cw b)=true) (he:Cg (Cw b)=b):Ch b=(Cw b,0):=by
 obtain ⟨h1,h2,h3⟩:=(M4 b h).1 he
 have hE:LD b=0:=by
  unfold LD
  rw [if_pos ⟨h,h1,h2,h3,hr⟩]
 unfold Ch
 rw [hE]
 rfl
theorem Er (w:World) (g:Nat) (u0 u1 u2 u3 u4 u5 u6 u7 u8 u9 yH:Value):Touch (fun x=>x=g) w (((((((((((w.setCell ⟨g,0,none⟩ u0).setCell ⟨g,1,none⟩ u1).setCell ⟨g,2,none⟩ u2).setCell ⟨g,3,none⟩ u3).setCell ⟨g,4,none⟩ u4).setCell ⟨g,5,none⟩ u5).setCell ⟨g,6,none⟩ u6).setCell ⟨g,7,none⟩ u7).setCell ⟨g,8,none⟩ u8).setCell ⟨g,9,none⟩ u9).setCell ⟨g,10,none⟩ yH) :=
 have k:∀ (w:World) (i:Nat) (u:Value),Touch (fun x=>x=g) w (w.setCell ⟨g,i,none⟩ u):=fun w i u=>Touch.BZ (R:=fun x=>x=g) (p:=⟨g,i,none⟩) rfl
 ((((((((((k _ 0 u0).trans (k _ 1 u1)).trans (k _ 2 u2)).trans (k _ 3 u3)).trans (k _ 4 u4)).trans (k _ 5 u5)).trans (k _ 6 u6)).trans (k _ 7 u7)).trans (k _ 8 u8)).trans (k _ 9 u9)).trans (k _ 10 yH)
theorem E9 {w:World} {g:Nat} {T:TypeId} (h:AL w g EB T) (s:Kk):∃ w',(((((((((((w.setCell ⟨g,0,none⟩ (.int .i64 s.tx)).setCell ⟨g,1,none⟩ (.int .i64 s.time)).setCell ⟨g,2,none⟩ (.int .i64 s.unit)).setCell ⟨g,3,none⟩ (.int .i64 s.data)).setCell ⟨g,4,none⟩ (.int .i64 s.blocks)).setCell ⟨g,5,none⟩ (.int .i64 s.top)).setCell ⟨g,6,none⟩ (.int .i64 s.Ed)).setCell ⟨g,7,none⟩ (.int .i64 s.Ff)).setCell ⟨g,8,none⟩ (.int .i64 s.Ic)).setCell ⟨g,9,none⟩ (.int .i64 s.Fg)).setCell ⟨g,10,none⟩ (.int .i64 s.mover))=w'∧AL w' g (E5 s) T∧Touch (fun x=>x=g) w w':=by
 have h1:=((((h.set 0 (.int .i64 s.tx)).set 1 (.int .i64 s.time)).set 2 (.int .i64 s.unit)).set 3 (.int .i64 s.data)).set 4 (.int .i64 s.blocks)
 simp only [List.setIfInBounds_toArray,List.set_cons_zero,List.set_cons_succ] at h1
 have h2:=(((((h1.set 5 (.int .i64 s.top)).set 6 (.int .i64 s.Ed)).set 7 (.int .i64 s.Ff)).set 8 (.int .i64 s.Ic)).set 9 (.int .i64 s.Fg)).set 10 (.int .i64 s.mover)
 simp only [List.setIfInBounds_toArray,List.set_cons_zero,List.set_cons_succ] at h2
 exact ⟨_,rfl,h2,Er _ _ _ _ _ _ _ _ _ _ _ _ _⟩
theorem Ea {w:World} {g:Nat} {T:TypeId} (h:AL w g EB T):∃ w',(((((((((((w.setCell ⟨g,0,none⟩ (.int .i64 0)).setCell ⟨g,1,none⟩ (.int .i64 0)).setCell ⟨g,2,none⟩ (.int .i64 0)).setCell ⟨g,3,none⟩ (.int .i64 0)).setCell ⟨g,4,none⟩ (.int .i64 0)).setCell ⟨g,5,none⟩ (.int .i64 0)).setCell ⟨g,6,none⟩ (.int .i64 0)).setCell ⟨g,7,none⟩ (.int .i64 0)).setCell ⟨g,8,none⟩ (.int .i64 0)).setCell ⟨g,9,none⟩ (.int .i64 0)).setCell ⟨g,10,none⟩ (.int .i64 0))=w'∧AL w' g EB T∧Touch (fun x=>x=g) w w':=by
 have h1:=((((h.set 0 (.int .i64 0)).set 1 (.int .i64 0)).set 2 (.int .i64 0)).set 3 (.int .i64 0)).set 4 (.int .i64 0)
 simp only [List.setIfInBounds_toArray,List.set_cons_zero,List.set_cons_succ] at h1
 have h2:=(((((h1.set 5 (.int .i64 0)).set 6 (.int .i64 0)).set 7 (.int .i64 0)).set 8 (.int .i64 0)).set 9 (.int .i64 0)).set 10 (.int .i64 0)
 simp only [List.setIfInBounds_toArray,List.set_cons_zero,List.set_cons_succ] at h2
 exact ⟨_,rfl,h2,Er _ _ _ _ _ _ _ _ _ _ _ _ _⟩
set_option maxRecDepth 100000 in
theorem Ml (w:World) (S:Nat→Prop) (v:Value) (bs:List UInt8) (hS:∀ b,S b→b<w.heap.size) (h:AU w S v bs) (hl:bs.length≤140737488355328) :
 Calls Tryz.prog 46 #[v] w fun e w'=>e=.returned (.tuple #[Iu (Ch bs).1,.int .i64 (Ch bs).2])∧Below w.heap.size w w':=by
 obtain ⟨A,c,rfl,hc,hr⟩:=h
 have hi:=One.new w (.slice A bs.length c) 82
 obtain ⟨h1,h2,hB2,hz2⟩:=AL.two (w.alloc (.cells #[.slice A bs.length c] 82)) (EB) (EB) 59 59
 have hs1:(w.alloc (.cells #[.slice A bs.length c] 82)).heap.size=w.heap.size+1:=World.size_alloc _ _
 rw [hs1] at h1 h2 hB2 hz2
 have hi2:=hi.below hB2 (by omega)
 have hB1:Below w.heap.size w (((w.alloc (.cells #[.slice A bs.length c] 82)).alloc (.cells (EB) 59)).alloc (.cells (EB) 59)):=((Below.refl _ _).alloc (Nat.le_refl _) _).trans (hB2.mono (by omega))
 have i0:=hi2.cell
 go_enter Tryz.func46,Tryz.ntmps46
 go_upto_region 2 with fail
 generalize ((w.alloc (.cells #[.slice A bs.length c] 82)).alloc (.cells (EB) 59)).alloc (.cells (EB) 59)=w2 at *
 obtain ⟨g,hg⟩:∃ g,w.heap.size=g:=⟨_,rfl⟩
 have hS2:∀ b,S b→b<g:=fun b hb=>by have:=hS b hb;omega
 rw [hg] at h1 h2 hi2 i0 hB1 ⊢
 have HG:=qh hg
 have HB1:=qh hB1
 have HR:Hid (AU w2 S (.slice A bs.length c) bs):=⟨A,c,rfl,hc,hr.keep (AB _) (fun _ h=>h) (AR hB1 hS2)⟩
 clear hi hB2 hz2 hs1 hg hB1 hr hS
 have H1:=qh h1
 have H2:=qh h2
 have HI:=qh hi2
 have hgz:g+1+1<w2.heap.size:=h2.lt
 by_cases hlen:bs.length=244
 · have HL:=qh hlen
   rw [hlen] at i0 HI HR ⊢
   clear hlen hl h1 h2 hi2 hc
   have ha:=One.new w2 (.int .i64 12) 3
   have hB3:Below w2.heap.size w2 (w2.alloc (.cells #[.int .i64 12] 3)):=(Below.refl _ _).alloc (Nat.le_refl _) _
   go_upto_region 5 with fail
   generalize w2.alloc (.cells #[.int .i64 12] 3)=w3 at *
   obtain ⟨ab,hab⟩:∃ x,w2.heap.size=x:=⟨_,rfl⟩
   rw [hab] at ha hB3 hgz ⊢
   have uM:Hid (AU w3 S (.slice A 244 c) bs):=HR.out.keep (AB _) (fun _ h=>h) (AR hB3 (fun b hb=>by have:=hS2 b hb;omega))
   have iQ:=H1.out.below hB3 (by omega)
   have h23:=H2.out.below hB3 (by omega)
   have hi3:=HI.out.below hB3 (by omega)
   have lD:Hid (Calls Tryz.prog 79 #[.pointer (some ⟨g+1+1,0,none⟩),.func (.func 88) #[] #[.pointer (some ⟨g,0,none⟩),.pointer (some ⟨ab,0,none⟩)]] w3 fun e w'=>e=.returned (.tuple #[])∧AL w' (g+1+1) (E5 (Cw bs)) 59∧One w' g (.slice A 244 c) 82∧AL w' (g+1) (EB) 59∧Below (g+1+1) w3 w'∧AU w' S (.slice A 244 c) bs):=by
    have hbd:=EF (l:=bs) (a:=28) (n:=4)
    refine (LW w3 88 (g+1+1) #[.pointer (some ⟨g,0,none⟩),.pointer (some ⟨ab,0,none⟩)] (AC bs 28 4:Nat) _ Oa (by omega) (by omega) (XW w3 S (g+1+1) g ab (.slice A 244 c) bs (by omega) (by omega) (by omega) (fun b hb=>by have:=hS2 b hb;have:=hB3.size;omega) uM.out HL.out) ⟨h23,hi3,ha,Touch.refl⟩).mono ?_
    rintro e w' ⟨he,p1,p2,p3,p4⟩
    rw [QW] at p1
    have hsz:=hB3.size
    exact ⟨he,p1,p2,(p4.block iQ.lt (by rintro (e|e) <;> omega)).trans iQ,(p4.weak (R':=fun y=>g+1+1≤y) (fun y e=>by rcases e with e|e <;> omega)).below (fun x h=>h) (by omega),uM.out.keep (AB _) (fun _ h=>h) (Ap p4 (fun b hb=>⟨by have:=hS2 b hb;omega,by have:=hS2 b hb;rintro (e|e) <;> omega⟩))⟩
   have HB3:=qh hB3
   clear ha hB3 iQ h23 hi3 uM HR H1 H2 HI i0
   go_upto_region 6 with (go_at_call 79;(with_reducible refine lD.out.mono ?_);rintro e w5 ⟨rfl,yI,hi5,yJ,BX,Qm⟩;have H2:=qh yI;have HI:=qh hi5;have H1:=qh yJ;have DT:=qh BX;have HR:=qh Qm;clear yI hi5 yJ BX Qm)
   clear lD
   have x0:=H2.out.at 0 _ rfl
   have x1:=H2.out.at 1 _ rfl
   have x2:=H2.out.at 2 _ rfl
   have x3:=H2.out.at 3 _ rfl
   have x4:=H2.out.at 4 _ rfl
   have x5:=H2.out.at 5 _ rfl
   have x6:=H2.out.at 6 _ rfl
   have x7:=H2.out.at 7 _ rfl
   have x8:=H2.out.at 8 _ rfl
   have x9:=H2.out.at 9 _ rfl
   have OH:=H2.out.at 10 _ rfl
   have aZ:Hid (Calls Tryz.prog 40 #[Iu (Cw bs)] w5 fun e w'=>FO w5 (Cw bs) e w'∧Below w5.heap.size w5 w'):=MC w5 (Cw bs) (by show _≤((AC bs 28 4:Nat):Int);omega) (by have:=EF (l:=bs) (a:=28) (n:=4);show ((AC bs 28 4:Nat):Int)≤_;omega)
   have uN:=H2.out.lt
   have HZ:Hid (Below g w w5):=HB1.out.trans ((HB3.out.mono (by omega)).trans (DT.out.mono (by omega)))
   have aa:Hid (∀ w',Below w5.heap.size w5 w'→(∀ i u,(E5 (Cw bs))[i]? = some u→w'.cell? ⟨g+1+1,i,none⟩=some u)∧AL w' (g+1) (EB) 59∧w'.cell? ⟨g,0,none⟩=some (.slice A 244 c)∧AU w' S (.slice A 244 c) bs):=fun w' hB =>
    ⟨fun i u hu=>(H2.out.below hB uN).at i u hu,H1.out.below hB H1.out.lt,AY hB HI.out.lt HI.out.cell,HR.out.keep (AB _) (fun _ h=>h) (AR hB (fun b hb=>by have:=hS2 b hb;omega))⟩
   obtain ⟨s,hs⟩:∃ s,Cw bs=s:=⟨_,rfl⟩
   rw [hs] at x0 x1 x2 x3 x4 x5 x6 x7 x8 x9 OH aZ aa
   have iR:=qh hs
   clear hs H1 H2 HI HR
   by_cases hr:CL s=true
   · have lL:Hid (Calls Tryz.prog 40 #[Iu s] w5 fun e w'=>∃ q,(e=.returned (.tuple #[.slice (some ⟨q,0,none⟩) 244 244,.int .i64 0])∧w5.heap.size≤q∧w'.heap[q]? = some (.cells (AA AX (Cg s)).toArray 5 (0,0)))∧Below w5.heap.size w5 w'):=aZ.out.mono fun e w' ⟨h1,h2⟩=>by
       unfold FO at h1
       rw [if_pos hr] at h1
       obtain ⟨q,h1⟩:=h1
       exact ⟨q,h1,h2⟩
     have jE:=qh hr
     clear hr aZ
     go_upto_region 7 with (go_at_call 40;(with_reducible refine lL.out.mono ?_);rintro e w6 ⟨q,⟨rfl,hq,hqc⟩,FP⟩;have HQ:=qh hqc;have D8:=qh FP;clear hqc FP)
     clear x0 x1 x2 x3 x4 x5 x6 x7 x8 x9 OH lL
     obtain ⟨l6,b6,i6,r6⟩:=aa.out w6 D8.out
     have yK:=qh l6
     have lM:=qh b6
     have zB:q<w6.heap.size:=(Array.getElem?_eq_some_iff.1 HQ.out).1
     have oP:Hid (Calls Tryz.prog 90 #[.slice (some ⟨q,0,none⟩) 244 244,.slice A 244 c] w6 fun e w'=>e=.returned (.bool (decide (Cg s=bs)))∧Below w6.heap.size w6 w') :=
      RH w6 (fun b=>S b∨b=q) _ _ (Cg s) bs (Bp.block DY HQ.out (by simp) (LF s).symm (Nat.le_refl _) (.inr rfl)) (r6.sub (AB _) (fun b hb=>.inl hb)) (by rw [LF];omega) (by rw [HL.out];omega)
     clear l6 b6 r6
     by_cases he:Cg s=bs
     · rw [decide_eq_true he] at oP
       have hres:Ch bs=(s,0):=by
        rw [← iR.out] at he jE ⊢
        exact SQ HL.out jE.out he
       have SS:=qh hres
       clear he hres
       go_upto_region 9 with (go_at_call 90;(with_reducible refine oP.out.mono ?_);rintro e w7 ⟨rfl,Gs⟩;have Es:=qh Gs;clear Gs)
       obtain ⟨l7,b7,i7,r7⟩:=aa.out w7 (D8.out.trans (Es.out.mono D8.out.size))
       have x0:=l7 0 _ rfl
       have x1:=l7 1 _ rfl
       have x2:=l7 2 _ rfl
       have x3:=l7 3 _ rfl
       have x4:=l7 4 _ rfl
       have x5:=l7 5 _ rfl
       have x6:=l7 6 _ rfl
       have x7:=l7 7 _ rfl
       have x8:=l7 8 _ rfl
       have x9:=l7 9 _ rfl
       have OH:=l7 10 _ rfl
       have y0:=b7.at 0 _ rfl
       have y1:=b7.at 1 _ rfl
       have y2:=b7.at 2 _ rfl
       have y3:=b7.at 3 _ rfl
       have y4:=b7.at 4 _ rfl
       have y5:=b7.at 5 _ rfl
       have y6:=b7.at 6 _ rfl
       have y7:=b7.at 7 _ rfl
       have y8:=b7.at 8 _ rfl
       have y9:=b7.at 9 _ rfl
       have YB:=b7.at 10 _ rfl
       have z0:=b7.free 0
       have z1:=b7.free 1
       have z2:=b7.free 2
       have z3:=b7.free 3
       have z4:=b7.free 4
       have z5:=b7.free 5
       have z6:=b7.free 6
       have z7:=b7.free 7
       have z8:=b7.free 8
       have z9:=b7.free 9
       have YC:=b7.free 10
       obtain ⟨w8,ew,hbx,htx⟩:=E9 b7 s
       have ZT:=qh ew
       have DL:=qh hbx
       have ZU:=qh htx
       clear ew hbx htx
       have lN:=(D8.out.trans (Es.out.mono D8.out.size)).size
       have uO:=qh (D8.out.trans (Es.out.mono D8.out.size))
       clear l7 b7 i7 r7 aa yK lM
       go_wp2_with fail
       rw [ZT.out]
       have r0:=DL.out.at 0 _ rfl
       have r1:=DL.out.at 1 _ rfl
       have r2:=DL.out.at 2 _ rfl
       have r3:=DL.out.at 3 _ rfl
       have r4:=DL.out.at 4 _ rfl
       have r5:=DL.out.at 5 _ rfl
       have r6:=DL.out.at 6 _ rfl
       have r7:=DL.out.at 7 _ rfl
       have r8:=DL.out.at 8 _ rfl
       have r9:=DL.out.at 9 _ rfl
       have Kt:=DL.out.at 10 _ rfl
       exact bodyPost_ret (v:=.tuple #[Iu s,.int .i64 0]) (by simp [results,Tryz.results46,go_sem,r0,r1,r2,r3,r4,r5,r6,r7,r8,r9,Kt]) rfl ⟨by rw [SS.out],by rw [HG.out];exact HZ.out.trans ((uO.out.mono (by omega)).trans ((ZU.out.weak (R':=fun y=>g≤y) (fun y e=>by omega)).below (fun x h=>h) (by omega)))⟩
     · rw [decide_eq_false he] at oP
       have hres:Ch bs=(LC,7):=VF HL.out (by rw [iR.out];exact he)
       have SS:=qh hres
       clear he hres
       go_upto_region 8 with (go_at_call 90;(with_reducible refine oP.out.mono ?_);rintro e w7 ⟨rfl,Gs⟩;have Es:=qh Gs;clear Gs)
       obtain ⟨l7,b7,i7,r7⟩:=aa.out w7 (D8.out.trans (Es.out.mono D8.out.size))
       have y0:=b7.at 0 _ rfl
       have y1:=b7.at 1 _ rfl
       have y2:=b7.at 2 _ rfl
       have y3:=b7.at 3 _ rfl
       have y4:=b7.at 4 _ rfl
       have y5:=b7.at 5 _ rfl
       have y6:=b7.at 6 _ rfl
       have y7:=b7.at 7 _ rfl
       have y8:=b7.at 8 _ rfl
       have y9:=b7.at 9 _ rfl
       have YB:=b7.at 10 _ rfl
       have z0:=b7.free 0
       have z1:=b7.free 1
       have z2:=b7.free 2
       have z3:=b7.free 3
       have z4:=b7.free 4
       have z5:=b7.free 5
       have z6:=b7.free 6
       have z7:=b7.free 7
       have z8:=b7.free 8
       have z9:=b7.free 9
       have YC:=b7.free 10
       obtain ⟨w8,ew,hbx,htx⟩:=Ea b7
       have ZT:=qh ew
       have DL:=qh hbx
       have ZU:=qh htx
       clear ew hbx htx
       have lN:=(D8.out.trans (Es.out.mono D8.out.size)).size
       have uO:=qh (D8.out.trans (Es.out.mono D8.out.size))
       clear l7 b7 i7 r7 aa yK lM
       go_wp2_with fail
       rw [ZT.out]
       have r0:=DL.out.at 0 _ rfl
       have r1:=DL.out.at 1 _ rfl
       have r2:=DL.out.at 2 _ rfl
       have r3:=DL.out.at 3 _ rfl
       have r4:=DL.out.at 4 _ rfl
       have r5:=DL.out.at 5 _ rfl
       have r6:=DL.out.at 6 _ rfl
       have r7:=DL.out.at 7 _ rfl
       have r8:=DL.out.at 8 _ rfl
       have r9:=DL.out.at 9 _ rfl
       have Kt:=DL.out.at 10 _ rfl
       exact bodyPost_ret (v:=.tuple #[.agg #[.int .i64 0,.int .i64 0,.int .i64 0,.int .i64 0,.int .i64 0,.int .i64 0,.int .i64 0,.int .i64 0,.int .i64 0,.int .i64 0,.int .i64 0],.int .i64 7]) (by simp [results,Tryz.results46,go_sem,r0,r1,r2,r3,r4,r5,r6,r7,r8,r9,Kt]) rfl ⟨by rw [SS.out];rfl,by rw [HG.out];exact HZ.out.trans ((uO.out.mono (by omega)).trans ((ZU.out.weak (R':=fun y=>g≤y) (fun y e=>by omega)).below (fun x h=>h) (by omega)))⟩
   · have hrf:CL s=false:=by simpa using hr
     have lL:Hid (Calls Tryz.prog 40 #[Iu s] w5 fun e w'=>e=.returned (.tuple #[.slice none 0 0,.int .i64 1])∧Below w5.heap.size w5 w'):=aZ.out.mono fun e w' ⟨h1,h2⟩=>by
      unfold FO at h1
      rw [if_neg hr] at h1
      exact ⟨h1,h2⟩
     have hres:Ch bs=(LC,7):=VE HL.out (by rw [iR.out];exact hrf)
     have SS:=qh hres
     clear hr hrf hres aZ
     go_upto_region 8 with (go_at_call 40;(with_reducible refine lL.out.mono ?_);rintro e w7 ⟨rfl,Gs⟩;have Es:=qh Gs;clear Gs)
     obtain ⟨l7,b7,i7,r7⟩:=aa.out w7 Es.out
     clear x0 x1 x2 x3 x4 x5 x6 x7 x8 x9 OH
     have y0:=b7.at 0 _ rfl
     have y1:=b7.at 1 _ rfl
     have y2:=b7.at 2 _ rfl
     have y3:=b7.at 3 _ rfl
     have y4:=b7.at 4 _ rfl
     have y5:=b7.at 5 _ rfl
     have y6:=b7.at 6 _ rfl
     have y7:=b7.at 7 _ rfl
     have y8:=b7.at 8 _ rfl
     have y9:=b7.at 9 _ rfl
     have YB:=b7.at 10 _ rfl
     have z0:=b7.free 0
     have z1:=b7.free 1
     have z2:=b7.free 2
     have z3:=b7.free 3
     have z4:=b7.free 4
     have z5:=b7.free 5
     have z6:=b7.free 6
     have z7:=b7.free 7
     have z8:=b7.free 8
     have z9:=b7.free 9
     have YC:=b7.free 10
     obtain ⟨w8,ew,hbx,htx⟩:=Ea b7
     have ZT:=qh ew
     have DL:=qh hbx
     have ZU:=qh htx
     clear ew hbx htx
     have lN:=Es.out.size
     clear l7 b7 i7 r7 aa lL
     go_wp2_with fail
     rw [ZT.out]
     have r0:=DL.out.at 0 _ rfl
     have r1:=DL.out.at 1 _ rfl
     have r2:=DL.out.at 2 _ rfl
     have r3:=DL.out.at 3 _ rfl
     have r4:=DL.out.at 4 _ rfl
     have r5:=DL.out.at 5 _ rfl
     have r6:=DL.out.at 6 _ rfl
     have r7:=DL.out.at 7 _ rfl
     have r8:=DL.out.at 8 _ rfl
     have r9:=DL.out.at 9 _ rfl
     have Kt:=DL.out.at 10 _ rfl
     exact bodyPost_ret (v:=.tuple #[.agg #[.int .i64 0,.int .i64 0,.int .i64 0,.int .i64 0,.int .i64 0,.int .i64 0,.int .i64 0,.int .i64 0,.int .i64 0,.int .i64 0,.int .i64 0],.int .i64 7]) (by simp [results,Tryz.results46,go_sem,r0,r1,r2,r3,r4,r5,r6,r7,r8,r9,Kt]) rfl ⟨by rw [SS.out];rfl,by rw [HG.out];exact HZ.out.trans ((Es.out.mono (by omega)).trans ((ZU.out.weak (R':=fun y=>g≤y) (fun y e=>by omega)).below (fun x h=>h) (by omega)))⟩
 · have hn:((bs.length:Int) != 244)=true:=by rw [bne_iff_ne];omega
   have hn2:((bs.length:Int)==244)=false:=by rw [beq_eq_false_iff_ne];omega
   have SS:=qh (SN hlen)
   clear hlen HR
   generalize bs.length=n at *
   have y0:=h1.at 0 _ rfl
   have y1:=h1.at 1 _ rfl
   have y2:=h1.at 2 _ rfl
   have y3:=h1.at 3 _ rfl
   have y4:=h1.at 4 _ rfl
   have y5:=h1.at 5 _ rfl
   have y6:=h1.at 6 _ rfl
   have y7:=h1.at 7 _ rfl
   have y8:=h1.at 8 _ rfl
   have y9:=h1.at 9 _ rfl
   have YB:=h1.at 10 _ rfl
   have z0:=h1.free 0
   have z1:=h1.free 1
   have z2:=h1.free 2
   have z3:=h1.free 3
   have z4:=h1.free 4
   have z5:=h1.free 5
   have z6:=h1.free 6
   have z7:=h1.free 7
   have z8:=h1.free 8
   have z9:=h1.free 9
   have YC:=h1.free 10
   have x0:=h2.at 0 _ rfl
   have x1:=h2.at 1 _ rfl
   have x2:=h2.at 2 _ rfl
   have x3:=h2.at 3 _ rfl
   have x4:=h2.at 4 _ rfl
   have x5:=h2.at 5 _ rfl
   have x6:=h2.at 6 _ rfl
   have x7:=h2.at 7 _ rfl
   have x8:=h2.at 8 _ rfl
   have x9:=h2.at 9 _ rfl
   have OH:=h2.at 10 _ rfl
   obtain ⟨w8,ew,hbx,htx⟩:=Ea h1
   have ZT:=qh ew
   have DL:=qh hbx
   have ZU:=qh htx
   clear ew hbx htx
   clear h1 h2 hi2 hc hl HI H1 H2
   go_wp2_with fail
   rw [ZT.out]
   have r0:=DL.out.at 0 _ rfl
   have r1:=DL.out.at 1 _ rfl
   have r2:=DL.out.at 2 _ rfl
   have r3:=DL.out.at 3 _ rfl
   have r4:=DL.out.at 4 _ rfl
   have r5:=DL.out.at 5 _ rfl
   have r6:=DL.out.at 6 _ rfl
   have r7:=DL.out.at 7 _ rfl
   have r8:=DL.out.at 8 _ rfl
   have r9:=DL.out.at 9 _ rfl
   have Kt:=DL.out.at 10 _ rfl
   exact bodyPost_ret (v:=.tuple #[.agg #[.int .i64 0,.int .i64 0,.int .i64 0,.int .i64 0,.int .i64 0,.int .i64 0,.int .i64 0,.int .i64 0,.int .i64 0,.int .i64 0,.int .i64 0],.int .i64 7]) (by simp [results,Tryz.results46,go_sem,r0,r1,r2,r3,r4,r5,r6,r7,r8,r9,Kt]) rfl ⟨by rw [SS.out];rfl,by rw [HG.out];exact HB1.out.trans ((ZU.out.weak (R':=fun y=>g≤y) (fun y e=>by omega)).below (fun x h=>h) (by omega))⟩
end
end Go.Proofs.YthblbddmcdnllaaGreatDoor
