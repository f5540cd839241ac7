/- A part of the proof: WSuper4, WNodePut, WBuild1, WSuper5, WBlkW, WImgNew. -/
import Derived.Test.YtpenklpdjpkigaaGreatY15
import Derived.Test.YtpenklpdjpkigaaGreatY4
import Derived.Deep.OwnRows
import Derived.Lib.BufferWrite
import Derived.Lib.SlBuf
import Derived.Test.YtpenklpdjpkigaaGreatX16
import Derived.Test.YtpenklpdjpkigaaGreatY1
import Derived.Deep.Cut
import Derived.Deep.DeepCutAuto
import Derived.Test.YtpenklpdjpkigaaGreatY5
import Derived.Test.YtpenklpdjpkigaaGreatY7
import Derived.Laws.OwnMore
set_option maxHeartbeats 6400000
set_option linter.unusedVariables false
set_option linter.unusedSimpArgs false
namespace Go.Proofs.YtpenklpdjpkigaaGreat
section
open Go.RowKit Go.Shelf
attribute [local go_sem] Oper.semAt_some
def Hu (w:World) (s:Nl) (e:Ending) (w':World):Prop :=
 if DX s=true then ∃ g,e=.returned (.tuple #[.slice (some ⟨g,0,none⟩) 244 244,.int .i64 0])∧w.heap.size≤g∧w'.heap[g]? = some (.cells (AB Au (Dv s)).toArray 5 (0,0)) else e=.returned (.tuple #[.slice none 0 0,.int .i64 1])
theorem ax {lo hi n:Int}:Er lo hi n=true↔lo≤n∧n≤hi:=by simp [Er]
theorem QE {s:Nl} (h:DX s=true):∀ f∈CB s,FX f:=by
 unfold DX at h
 simp only [Bool.and_eq_true,ax] at h
 obtain ⟨⟨⟨⟨⟨⟨⟨⟨⟨⟨h0,h1⟩,h2⟩,h3⟩,h4⟩,h5⟩,h6⟩,h7⟩,h8⟩,h9⟩,h10⟩:=h
 have k:∀ n:Int,0≤n→n<4294967296→FX (4,n):=fun n a b=>⟨.inr (.inr (.inl rfl)),a,by show n<_;omega,.inr (by show n<256 ^ 4;omega)⟩
 intro f hf
 simp only [CB,SS,List.map_cons,List.map_nil,List.mem_cons,List.not_mem_nil,or_false] at hf
 rcases hf with rfl|rfl|rfl|rfl|rfl|rfl|rfl|rfl|rfl|rfl|rfl|rfl <;> exact k _ (by omega) (by omega)
theorem AAv:(Tryz.prog.info? 5).map (·.size)=some 1:=by kernel_rfl
def FT:List Value:=List.replicate 244 (Value.int .u8 0)
theorem MM:FT.length=244:=by unfold FT;rw [List.length_replicate]
theorem TZ (w:World):(Instr.makeSlice 22 (.int .i64 244) (.int .i64 244)).run Tryz.prog w=.ok (.slice (some ⟨w.heap.size,0,none⟩) 244 244) (w.alloc (.cells FT.toArray 5)):=by
 have h:=run_make_row' (P:=Tryz.prog) 22 5 (.int .u8 0) 1 Tryz.underlying22 (by kernel_rfl) rfl .i64 .i64 244 (by omega) (by omega) w
 have hmz:(madeCells #[Value.int .u8 0] 244)=FT.toArray:=by kernel_rfl
 rw [hmz] at h
 exact h
set_option maxRecDepth 100000 in
theorem QF (w:World) (s:Nl) (hn0 : -4611686018427387904≤s.blocks) (hn1:s.blocks≤4611686018427387904) :
 Calls Tryz.prog 78 #[IW s] w fun e w'=>Hu w s e w'∧Below w.heap.size w w':=by
 have kQ:=qh (fun w'=>Sk w' s hn0 hn1)
 have hb:=AP.new w (Gu s) 69
 have hB1:Below w.heap.size w (w.alloc (.cells (Gu s) 69)):=(Below.refl _ _).alloc (Nat.le_refl _) _
 have hcs:∀ w',Below (w.alloc (.cells (Gu s) 69)).heap.size (w.alloc (.cells (Gu s) 69)) w'→AP w' w.heap.size (Gu s) 69:=fun w' h=>hb.below h hb.lt
 have uB:=qh hcs
 have HB1:=qh hB1
 have x0:=hb.at 0 _ rfl
 have x1:=hb.at 1 _ rfl
 have x2:=hb.at 2 _ rfl
 have x3:=hb.at 3 _ rfl
 have x4:=hb.at 4 _ rfl
 have x5:=hb.at 5 _ rfl
 have x6:=hb.at 6 _ rfl
 have x7:=hb.at 7 _ rfl
 have x8:=hb.at 8 _ rfl
 have x9:=hb.at 9 _ rfl
 have Yu:=hb.at 10 _ rfl
 clear hcs hB1
 go_enter Tryz.func78,Tryz.ntmps78
 go_upto_region 1 with fail
 generalize w.alloc (.cells (Gu s) 69)=w1 at *
 have hlt1:=hb.lt
 clear hb
 by_cases hr:DX s=true
 · have HR:=qh hr
   have oI:Hid (∀ w',Calls Tryz.prog 133 #[IW s] w' fun e w''=>e=.returned (.bool true)∧Below w'.heap.size w' w''):=fun w'=>by
    have:=kQ.out w'
    rw [hr] at this
    exact this
   clear hr kQ
   go_upto_region 4 with (go_at_call 133;(with_reducible refine (oI.out _).mono ?_);rintro e w2 ⟨rfl,hB2⟩;have HB2:=qh hB2;clear hB2)
   clear x0 x1 x2 x3 x4 x5 x6 x7 x8 x9 Yu oI
   have AC6:=HB2.out.size
   have hb2:=uB.out w2 HB2.out
   obtain ⟨hf,hl,hB4,uQ⟩:=AP.two w2 #[.int .i64 4,.int .i64 1] #[.slice (some ⟨w2.heap.size,0,none⟩) 1 1] 249 250
   have hb4:=hb2.below hB4 hb2.lt
   generalize (w2.alloc (.cells #[.int .i64 4,.int .i64 1] 249)).alloc (.cells #[.slice (some ⟨w2.heap.size,0,none⟩) 1 1] 250)=w4 at *
   have hF4:U1 w4 w2.heap.size (w2.heap.size+1) ((CB s).take 1):=by
    refine ⟨some ⟨w2.heap.size,0,none⟩,1,hl,⟨rfl,.inr ⟨w2.heap.size,1,_,rfl,Nat.le_refl _,hf,Nat.le_refl _,by unfold maxLen;omega,rfl,rfl⟩⟩⟩
   have HEA:Hid (Calls Tryz.prog 94 #[.pointer (some ⟨w.heap.size,0,none⟩),.func (.func 134) #[] #[.pointer (some ⟨w2.heap.size+1,0,none⟩)]] w4 fun e w'=>e=.returned (.tuple #[])∧U1 w' w2.heap.size (w2.heap.size+1) (CB s)∧Below w2.heap.size w2 w') :=
    (PD w4 134 w.heap.size #[.pointer (some ⟨w2.heap.size+1,0,none⟩)] s.blocks _ U2 hn0 hn1 (mF w4 w2.heap.size w.heap.size (w2.heap.size+1) s (by omega) hB4.size) ⟨hb4,hF4,Touch.refl⟩).mono fun e w' ⟨h1,h2,h3,h4⟩ =>
     ⟨h1,h3,hB4.trans ((h4.weak (R':=fun y=>w2.heap.size≤y) (fun y e=>by rcases e with e|e <;> omega)).below (fun x h=>h) hB4.size)⟩
   clear hf hl hB4 uQ hb4 hF4 hb2
   go_upto_region 5 with (go_at_call 94;(with_reducible refine HEA.out.mono ?_);rintro e w5 ⟨rfl,⟨A5,c5,hl5,Vw⟩,BS⟩;have Jb:=qh Vw;have CE:=qh BS;have l5:=hl5.cell;clear hl5 Vw BS)
   have hfl:(CB s).length=12:=rfl
   rw [hfl] at l5
   have Wl:Hid (Calls Tryz.prog 135 #[.slice A5 12 c5] w5 fun e w'=>(∃ A c,e=.returned (.tuple #[.slice A 48 c,.int .i64 0])∧w'.ownsRow w5.heap.size 5 1 (.slice A 48 c) 48 (AB Au (BB (CB s))))∧Below w5.heap.size w5 w'):=by
    have hp:(BB (CB s)).length=48:=by rw [ES];rfl
    have:=J6 w5 (C9 w2.heap.size w5.heap.size) (.slice A5 12 c5) (CB s) (fun b hb=>hb.2) (CF.own (enc:=Qa) (d:=((0:Nat),(0:Int))) Il (by have:=Jb.out;rw [hfl] at this;exact this) (by omega)) (QE HR.out) (by rw [hfl];omega)
    rw [hp] at this
    exact this
   clear hfl HEA
   go_upto_region 6 with (go_at_call 135;(with_reducible refine Wl.out.mono ?_);rintro e w6 ⟨⟨A6,c6,rfl,rG⟩,EG⟩;have PM:=qh rG;have Dz:=qh EG;clear rG EG)
   clear l5 Wl
   obtain ⟨g6,hA6,OJ,hc6,hs6⟩:=CG PM.out (by omega)
   subst hA6
   have HS6:=qh hs6
   clear hs6
   have hsz:=Dz.out.size
   have hsz5:=CE.out.size
   have hmk:=TZ
   go_upto_region 7 with fail
   have G8:=AP.new w6 FT.toArray 5
   have Ff:Below w6.heap.size w6 (w6.alloc (.cells FT.toArray 5)):=(Below.refl _ _).alloc (Nat.le_refl _) _
   generalize w6.alloc (.cells FT.toArray 5)=w7 at *
   obtain ⟨g,hgg⟩:∃ g,w6.heap.size=g:=⟨_,rfl⟩
   rw [hgg] at G8 ⊢
   have HCP:Hid (∃ w8,(Builtin.copy_ #[22,9] 3 #[.slice (some ⟨g,0,none⟩) 244 244,.string ⟨#[83,67,65,78,84,76,73,78]⟩]).run Tryz.prog w7=.ok (.int .i64 8) w8∧w8.heap[g]? = some (.cells (AB Au Fa++FT.drop 8).toArray 5 (0,0))∧Below g w7 w8):=by
    have h:=Lib.run_copy_row_string (P:=Tryz.prog) w7 22 9 3 5 g 0 244 244 ⟨#[83,67,65,78,84,76,73,78]⟩ _ 5 Tryz.underlying22 (by kernel_rfl) G8 (by decide) (by rw [List.size_toArray,MM];decide)
    refine ⟨_,h,?_,below_setRow (Below.refl _ _) (Nat.le_refl _) _⟩
    exact (setRow_heap w7 g _ _ 5 (0,0) G8).trans rfl
   obtain ⟨w8,hcp,E5,KE⟩:=HCP.out
   have HCP:=qh hcp
   have Gl:=qh E5
   have KZ:Hid (Below w5.heap.size w5 w8):=Dz.out.trans (Ff.trans (KE.mono (by omega)) |>.mono hsz)
   have vP:=KZ.out.size
   have Ga:Hid (∀ j u,(AB Au (BB (CB s)))[j]? = some u→w8.cell? ((⟨g6,0,none⟩:Addr).add j)=some u):=fun j u hu=>by
    have h1:=HS6.out j u hu
    rw [add_lit] at h1 ⊢
    exact ((Ff.trans (KE.mono (by omega))).cell (p:=⟨g6,0+j,none⟩) OJ).trans h1
   have Jn:Hid ((AB Au (BB (CB s))).length=48):=by show _=_;rw [BI,ES];rfl
   have L6:Hid (splice (AB Au Fa++FT.drop 8) 8 (AB Au (BB (CB s)))=AB Au (Dv s)):=by
    have hz:(FT.drop 8).drop 48=AB Au (List.replicate 188 0):=by
     rw [List.drop_drop]
     unfold FT
     rw [List.drop_replicate,Bu,List.map_replicate]
     rfl
    show _=_
    unfold splice Dv
    rw [Jn.out,Ba,Ba,← hz,show (AB Au Fa++FT.drop 8).take 8=AB Au Fa from List.take_left' rfl,show (8+48:Nat)=(AB Au Fa).length+48 from rfl,List.drop_append,List.append_assoc,List.drop_of_length_le (by omega),Nat.add_sub_cancel_left,List.nil_append]
   clear G8 Ff hcp E5 KE
   go_wp2_with (first
    | ((with_reducible refine Lib.wpList_copy_run w7 ?_ (.tmp 22) (.const (.string ⟨#[83,67,65,78,84,76,73,78]⟩)) 22 9 ?_ _ _ ?_ ?_ HCP.out ?_);rfl;rfl;rfl;rfl)
    | ((with_reducible refine wpList_copy_splice ?_ (.tmp 24) (.tmp 25) 22 22 ?_ 5 Tryz.underlying22 AAv (some ⟨g,8,none⟩) (some ⟨g6,0,none⟩) 236 236 48 c6 ?_ ?_ g 8 (AB Au Fa++FT.drop 8) 5 Gl.out (AB Au (BB (CB s))) ?_ ?_ ?_ (Dr _) g w8 (Below.refl _ _) (Nat.le_refl _) ?_);rfl;rfl;rfl;rfl;exact Jn.out;(intro _;exact ⟨rfl,_,rfl,Ga.out⟩);(rw [Jn.out,List.length_append,List.length_drop,MM];decide);(intro w9 Cu Mg;have TK:=qh Mg;clear Mg)))
   refine bodyPost_ret (v:=.tuple #[.slice (some ⟨g,0,none⟩) 244 244,.int .i64 0]) (by simp [results,Tryz.results78,go_sem]) rfl ⟨?_,?_⟩
   · unfold Hu
     rw [if_pos HR.out]
     refine ⟨g,rfl,by have:=HB1.out.size;omega,?_⟩
     rw [← L6.out]
     exact Cu.out
   · exact HB1.out.trans (HB2.out.trans (CE.out.trans ((KZ.out.trans (TK.out.mono (by omega))).mono (by omega)) |>.mono (by omega)) |>.mono HB1.out.size)
 · have HN:=qh hr
   have hrf:DX s=false:=by simpa using hr
   have oI:Hid (∀ w',Calls Tryz.prog 133 #[IW s] w' fun e w''=>e=.returned (.bool false)∧Below w'.heap.size w' w''):=fun w'=>by
    have:=kQ.out w'
    rw [hrf] at this
    exact this
   clear hr kQ hrf
   go_wp2_with (go_at_call 133;(with_reducible refine (oI.out _).mono ?_);rintro e w2 ⟨rfl,hB2⟩;have HB2:=qh hB2;clear hB2)
   refine bodyPost_ret (v:=.tuple #[.slice none 0 0,.int .i64 1]) (by simp [results,Tryz.results78,go_sem]) rfl ⟨?_,HB1.out.trans (HB2.out.mono HB1.out.size)⟩
   unfold Hu
   rw [if_neg HN.out]
end
section
open Go.RowKit Go.Shelf
theorem az (w:World):Calls Tryz.prog 234 #[.bool true] w fun e w'=>e=.returned (.int .i64 1)∧w'=w:=Z4 w true
def jK (t wd mk:Int):List (Nat × Int):=[(1,1),(1,t),(2,0),(2,wd),(2,mk),(4,0)]
theorem LV {w:World} {g:Nat} {fs:List (Nat × Int)} {T:TypeId} (h:w.heap[g]? = some (.cells (AB Qa fs).toArray T (0,0))) (hl:fs.length≤1000):Uu w (fun b=>b<w.heap.size) (.slice (some ⟨g,0,none⟩) fs.length fs.length) fs:=by
 have hr:w.ownsRow 0 T 2 (.slice (some ⟨g,0,none⟩) fs.length fs.length) fs.length (AB Qa fs):=⟨Bw Il fs,.inr ⟨g,fs.length,_,rfl,Nat.zero_le _,h,Nat.le_refl _,by unfold maxLen;omega,by rw [List.size_toArray,Bw Il fs],by rw [List.toList_toArray,List.take_of_length_le (by rw [Bw Il fs];exact Nat.le_refl _)]⟩⟩
 exact (CF.own Il hr (by omega)).sub (AA _) (fun b hb=>hb.2)
theorem oN:FT=AB Au Rk:=by
 unfold FT Rk
 rw [Bu,List.map_replicate]
 rfl
set_option maxRecDepth 100000 in
theorem Xd (w:World) (t:Int) (h1:1≤t) (h5:t≤5) :
 Calls Tryz.prog 219 #[.agg #[.int .i64 t,.bool true,.slice none 0 0,.slice none 0 0]] w fun e w'=>(∃ A c,e=.returned (.tuple #[.slice A 244 c,.int .i64 0])∧w'.ownsRow w.heap.size 5 1 (.slice A 244 c) 244 (AB Au (EB t)))∧Below w.heap.size w w':=by
 have xf:=qh (fun w'=>GJ w' t true)
 have tu:=qh (fun w'=>Ho w' t true)
 have J4:=qh (fun w'=>Sz w' t h1 h5)
 have HFO:=qh (Z5 h1 h5)
 have Uv:=qh (KU t h1 h5)
 have zK:Hid (EB t=Gc Rk 0 (BB (JP t))):=rfl
 have Wl:Hid ((BB (JP t)).length=12):=by
  show _=_
  rw [ES]
  unfold JP
  simp only [List.map_cons,List.map_nil,Ct]
 have HFD:Hid (JP t=jK t (BF t true:Int) (BZ t true:Int)):=rfl
 generalize JP t=fs at *
 generalize (BF t true:Int)=wd at *
 generalize (BZ t true:Int)=mk at *
 have hbx:=AP.new w #[.int .i64 t,.bool true,.slice none 0 0,.slice none 0 0] 173
 have hBx:Below w.heap.size w (w.alloc (.cells #[.int .i64 t,.bool true,.slice none 0 0,.slice none 0 0] 173)):=(Below.refl _ _).alloc (Nat.le_refl _) _
 clear h1 h5
 go_enter Tryz.func219,Tryz.ntmps219
 go_upto_region 1 with fail
 generalize w.alloc (.cells #[.int .i64 t,.bool true,.slice none 0 0,.slice none 0 0] 173)=w1 at *
 obtain ⟨g,hg⟩:∃ q,w.heap.size=q:=⟨_,rfl⟩
 have HB1:=qh hBx
 have Ux:=qh hg
 rw [hg] at hbx ⊢
 have DU:=qh hbx
 have x0:w1.cell? ⟨g,0,none⟩=some (.int .i64 t):=hbx.at 0 _ rfl
 have x1:w1.cell? ⟨g,1,none⟩=some (.bool true):=hbx.at 1 _ rfl
 have x2:w1.cell? ⟨g,2,none⟩=some (.slice none 0 0):=hbx.at 2 _ rfl
 have x3:w1.cell? ⟨g,3,none⟩=some (.slice none 0 0):=hbx.at 3 _ rfl
 clear hbx hBx hg
 go_upto_region 3 with (go_at_call 233;(with_reducible refine (J4.out _).mono ?_);rintro e w2 ⟨rfl,hB2⟩;have bA:=qh (DU.out.below hB2 DU.out.lt);have HB2:=qh (HB1.out.trans (hB2.mono HB1.out.size));clear hB2)
 rename World=>w2
 have x0:w2.cell? ⟨g,0,none⟩=some (.int .i64 t):=bA.out.at 0 _ rfl
 have x1:w2.cell? ⟨g,1,none⟩=some (.bool true):=bA.out.at 1 _ rfl
 have x2:w2.cell? ⟨g,2,none⟩=some (.slice none 0 0):=bA.out.at 2 _ rfl
 have x3:w2.cell? ⟨g,3,none⟩=some (.slice none 0 0):=bA.out.at 3 _ rfl
 clear J4 DU HB1
 go_quiet (first|(go_at_call 196;refine Calls.quiet_of_same (xf.out _))|(go_at_call 197;refine Calls.quiet_of_same (tu.out _)))
 have Ta:Hid (AP (w2.drewN nq) g _ _):=bA.out
 have HB3:Hid (Below w.heap.size w (w2.drewN nq)):=HB2.out.trans ((Touch.drewN (R:=fun _=>False) nq).below (fun x h=>h.elim) HB2.out.size)
 generalize w2.drewN nq=w3 at *
 clear x0 x1 x2 x3 xf tu bA HB2
 go_upto_region 4 with fail
 have hs3:=HB3.out.size
 have hmk:=TZ
 go_cut [6] (fun s6 wx=>∃ g6 c6,s6=.slice (some ⟨g6,0,none⟩) 12 c6∧Hid (Below w3.heap.size w3 wx)∧Hid (wx.ownsRow w3.heap.size 5 1 (.slice (some ⟨g6,0,none⟩) 12 c6) 12 (AB Au (BB fs))))
 case first =>
  clear hmk
  refine AF (T:=fun _=>false) (S:=fun w'=>Below w3.heap.size w3 w') (by kernel_rfl) (Below.refl w3.heap.size w3).drew (fun hHeld=>?_)
  obtain ⟨BM,hw0⟩:∃ x,w3.drew=x:=⟨_,rfl⟩
  rw [hw0] at hHeld ⊢
  have AJ:Below w3.heap.size w3 BM:=hHeld
  clear hHeld hw0
  refine qs 0 27 AJ ?_
  refine qf 1 28 rfl rfl AJ (by intro w2' hSw;have x1:=(Ta.out.below hSw Ta.out.lt).at 1 _ rfl;go_simp;(try with_reducible rfl)) ?_
  refine qs 4 31 AJ ?_
  refine qf 5 32 rfl rfl AJ (by intro w2' hSw;have x0:=(Ta.out.below hSw Ta.out.lt).at 0 _ rfl;go_simp;(try with_reducible rfl)) ?_
  refine qs 6 33 AJ ?_
  refine qs 7 34 AJ ?_
  refine qf 8 35 rfl rfl AJ (by intro w2' hSw;have x2:=(Ta.out.below hSw Ta.out.lt).at 2 _ rfl;go_simp;(try with_reducible rfl)) ?_
  refine qs 9 36 AJ ?_
  refine qs 10 37 AJ ?_
  refine qs 11 38 AJ ?_
  refine qs 12 39 AJ ?_
  refine qs 13 40 AJ ?_
  refine qs 14 41 AJ ?_
  refine qs 15 42 AJ ?_
  refine qo 2 fun K hK=>?_
  go_simp
  refine (az BM).mono ?_
  rintro e Bg ⟨rfl,hw⟩
  have AJ:Below w3.heap.size w3 Bg:=by rw [hw];exact AJ
  clear hw
  refine hK.out _ _ (fun _=>AJ) (fun Ji=>?_)
  clear hK K Ji
  (try simp only [Act.put,qS,qZ,qU])
  refine qs 3 30 AJ ?_
  refine qo 16 fun K hK=>?_
  go_simp
  obtain ⟨Cr,hwn⟩:∃ wx,Bg.alloc (.cells #[.int .i64 1,.int .i64 1,.int .i64 1,.int .i64 t,.int .i64 2,.int .i64 0,.int .i64 2,.int .i64 wd,.int .i64 2,.int .i64 mk,.int .i64 4,.int .i64 0] 249)=wx:=⟨_,rfl⟩
  have Co:Below Bg.heap.size Bg Cr:=by rw [← hwn];exact (Below.refl _ _).alloc (Nat.le_refl _) _
  have b16:Cr.heap[Bg.heap.size]? = some (.cells #[.int .i64 1,.int .i64 1,.int .i64 1,.int .i64 t,.int .i64 2,.int .i64 0,.int .i64 2,.int .i64 wd,.int .i64 2,.int .i64 mk,.int .i64 4,.int .i64 0] 249):=by rw [← hwn];exact heap_alloc_new Bg _
  have AD1:=AJ.size
  have AEo:Bg.heap.size<Cr.heap.size:=by rw [← hwn];simp
  have AJ:=AJ.trans (Co.mono AJ.size)
  rw [hwn]
  clear hwn Co
  refine hK.out _ _ (fun _=>AJ) (fun Ji=>?_)
  clear hK K Ji
  (try simp only [Act.put,qS,qZ,qU])
  refine qo 17 fun K hK=>?_
  have HPA:Hid (Calls Tryz.prog 135 #[.slice (some ⟨Bg.heap.size,0,none⟩) 6 6] Cr fun e w'=>(∃ A c,e=.returned (.tuple #[.slice A 12 c,.int .i64 0])∧w'.ownsRow (World.heap Cr).size 5 1 (.slice A 12 c) 12 (AB Au (BB fs)))∧Below (World.heap Cr).size Cr w'):=by
   have h9:=J6 Cr _ (.slice (some ⟨Bg.heap.size,0,none⟩) 6 6) fs (fun b hb=>hb) (by rw [HFD.out];exact LV (fs:=jK t wd mk) b16 (by show 6≤1000;decide)) HFO.out (by rw [HFD.out];show 6≤_;decide)
   rw [Wl.out] at h9
   exact h9
  go_simp
  refine HPA.out.mono ?_
  rintro e Kh ⟨⟨A6,c6,rfl,rG⟩,Co⟩
  have rG:=rG.mono AJ.size
  have AJ:=AJ.trans (Co.mono AJ.size)
  clear Co HPA
  refine hK.out _ _ (fun _=>AJ) (fun Ji=>?_)
  clear hK K Ji
  (try simp only [Act.put,qS,qZ,qU])
  refine qs 18 26 AJ ?_
  refine qs 19 45 AJ ?_
  refine qs 20 46 AJ ?_
  refine qs 21 6 AJ ?_
  refine qs 22 7 AJ ?_
  refine qd ?_
  obtain ⟨g6,hA6,-,-,-⟩:=CG rG (by omega)
  subst hA6
  have PM:=qh rG
  clear rG
  go_wp2_with fail
  go_meet
  exact ⟨g6,c6,rfl,AJ,PM⟩
 rename World=>w5
 obtain ⟨g6,c6,h6,CE,Jb⟩:=hcut
 obtain rfl:=h6.symm
 clear h6
 have hs5:=CE.out.size
 have QH:=qh (Ta.out.below CE.out Ta.out.lt)
 have Tc:=qh (HB3.out.trans (CE.out.mono hs3))
 clear Ta HFO HFD
 go_upto_region 6 with fail
 have G8:=AP.new w5 FT.toArray 5
 have Ff:Below w5.heap.size w5 (w5.alloc (.cells FT.toArray 5)):=(Below.refl _ _).alloc (Nat.le_refl _) _
 generalize w5.alloc (.cells FT.toArray 5)=w7 at *
 obtain ⟨g8,E5⟩:∃ g,w5.heap.size=g:=⟨_,rfl⟩
 have Ew:=qh (Tc.out.trans (Ff.mono Tc.out.size))
 have AAx:=qh (QH.out.below Ff QH.out.lt)
 have Ga:Hid (∀ j u,(AB Au (BB fs))[j]? = some u→w7.cell? ((⟨g6,0,none⟩:Addr).add j)=some u):=by
  obtain ⟨g9,e9,-,-,kV⟩:=CG (own_below Jb.out Ff (Nat.le_refl _)) (by omega)
  injection e9 with e9
  injection e9 with e9
  subst e9
  exact kV
 rw [E5] at G8 ⊢
 have gF:Hid (w7.heap[g8]? = some (.cells FT.toArray 5 (0,0))):=G8
 have kN:Hid (w.heap.size≤g8):=by show _≤_;have:=Tc.out.size;omega
 have oL:Hid (g<g8):=by show _<_;have:=QH.out.lt;omega
 have Jn:Hid ((AB Au (BB fs)).length=12):=by show _=_;rw [BI,Wl.out]
 have rJ:Hid (FT.length=244):=MM
 have Ri:Hid (splice FT 0 (AB Au (BB fs))=AB Au (EB t)):=by show _=_;rw [oN,JO,zK.out]
 clear G8 Ff E5 hmk Jb CE Tc QH hs5 hs3 HB3
 go_upto_region 7 with ((with_reducible refine wpList_copy_splice ?_ (.tmp 48) (.tmp 49) 22 22 ?_ 5 Tryz.underlying22 l9 (some ⟨g8,0,none⟩) (some ⟨g6,0,none⟩) 244 244 12 c6 ?_ ?_ g8 0 FT 5 gF.out (AB Au (BB fs)) ?_ ?_ ?_ (Dr _) g8 w7 (Below.refl _ _) (Nat.le_refl _) ?_);rfl;rfl;rfl;rfl;exact Jn.out;(intro h0;exact ⟨rfl,_,rfl,Ga.out⟩);(rw [Jn.out,rJ.out];decide);(intro w8 E5 KE;have Gl:=qh E5.out;have KZ:=qh KE;clear KE E5))
 rename World=>w8
 have xc:AP w8 g #[.int .i64 t,.bool true,.slice none 0 0,.slice none 0 0] 173:=AAx.out.below KZ.out oL.out
 have x2:w8.cell? ⟨g,2,none⟩=some (.slice none 0 0):=xc.at 2 _ rfl
 have HR8:Hid (w8.ownsRow w.heap.size 5 1 (.slice (some ⟨g8,0,none⟩) 244 244) 244 (AB Au (EB t))):=by
  rw [Ri.out] at Gl
  exact ⟨by rw [BI,Uv.out],.inr ⟨g8,244,_,rfl,kN.out,Gl.out,Nat.le_refl _,by decide,by rw [List.size_toArray,BI,Uv.out],by rw [List.toList_toArray,List.take_of_length_le (by rw [BI,Uv.out];decide)]⟩⟩
 have vR:Hid (Below w.heap.size w w8):=Ew.out.trans (KZ.out.mono kN.out)
 clear xc gF Gl Ga Jn rJ Ri Ew KZ AAx Wl zK
 go_upto_region 8 with fail
 go_loopw [54] (fun vi wr=>vi=.int .i64 0∧wr=w8) (fun vi _=>1)
 case atStart=>exact ⟨rfl,rfl⟩
 case round =>
  obtain ⟨rfl,hwr⟩:=hrel
  rw [hwr]
  clear hwr wr
  go_wp2_with fail
  refine bodyPost_ret (v:=.tuple #[.slice (some ⟨g8,0,none⟩) 244 244,.int .i64 0]) (by simp [results,Tryz.results219,go_sem]) rfl ⟨⟨_,_,rfl,HR8.out⟩,vR.out⟩
end
section
open Go.RowKit
set_option maxRecDepth 100000 in
theorem right0 (w:World) (t:Int) (h1:1≤t) (h5:t≤5):Calls Tryz.prog 183 #[.int .i64 t,.slice none 0 0] w fun e w'=>e=.returned (.bool true)∧Below w.heap.size w w':=by
 have xf:=qh (fun w'=>GJ w' t true)
 have TD:=qh (fun w'=>nodes0 w' t h1 h5)
 have hw0:¬ (BF t true:Int)=0:=by
  rcases O8 (t:=t) (by omega) (by omega) with rfl|rfl|rfl|rfl|rfl <;> decide
 generalize (BF t true:Int)=wd at *
 have hwb:(wd==0)=false:=by rw [beq_eq_false_iff_ne];exact hw0
 clear h1 h5 hw0
 go_enter Tryz.func183,Tryz.ntmps183
 go_wp2_with (first
  | (go_at_call 196;(with_reducible refine (xf.out _).mono ?_);rintro e w2 ⟨rfl,hw⟩;rw [hw];clear hw w2)
  | (go_at_call 117;(with_reducible refine (TD.out _).mono ?_);rintro e w2 ⟨rfl,hB⟩;have HB:=qh hB;clear hB))
 rename World=>w2
 go_loopw [22] (fun vi wr=>vi=.int .i64 0∧wr=w2) (fun vi _=>1)
 case atStart=>exact ⟨rfl,rfl⟩
 case round =>
  obtain ⟨rfl,hwr⟩:=hrel
  rw [hwr]
  clear hwr wr
  go_wp2_with fail
  refine bodyPost_ret (v:=.bool true) (by simp [results,Tryz.results183,go_sem]) rfl ⟨rfl,HB.out⟩
end
section
open Go.RowKit Go.Shelf
attribute [local go_sem] Oper.semAt_some
def Gx (b:List UInt8):Nat→Array Value
 | 0=>Gu LB
 | k+1=>(Gx b k).setIfInBounds k (.int .i64 (AC b (12+4*k) 4:Nat))
theorem Ve (b:List UInt8):Gx b 11=Gu (EF b):=by simp [Gx,EF,LB]
theorem MO (b:List UInt8):∀ k,(Gx b k).size=11
 | 0=>rfl
 | k+1=>by rw [Gx,Array.size_setIfInBounds,MO b k]
theorem MP (b:List UInt8):∀ k,(Gx b (5+k))[4]? = some (.int .i64 (AC b 28 4:Nat))
 | 0=>rfl
 | k+1=>by
  rw [show 5+(k+1)=(5+k)+1 from rfl,Gx,Array.getElem?_setIfInBounds_ne (by omega)]
  exact MP b k
theorem Xe (b:List UInt8) (k:Nat) (h:k<11):∃ v,(Gx b k)[k]? = some v:=⟨_,Array.getElem?_eq_getElem (by rw [MO];exact h)⟩
set_option maxRecDepth 100000 in
theorem bB (w:World) (S:Nat→Prop) (a k ib ab:Nat) (v:Value) (bs:List UInt8) (at_:Nat) (lo hi:Int) (cs:Array Value) (T:TypeId) (u:Value) (hx:AP w a cs T) (hk:cs[k]? = some u) (hi0:One w ib v 22) (ha0:One w ab (.int .i64 at_) 3) (hT:a≠ab) (hS:∀ b,S b→b<w.heap.size) (h:AX w S v bs) (ha:at_+4≤bs.length) (hl:bs.length≤1000) :
 Calls Tryz.prog 95 #[.pointer (some ⟨a,k,none⟩),.int .i64 lo,.int .i64 hi,.pointer (some ⟨ib,0,none⟩),.pointer (some ⟨ab,0,none⟩)] w fun e w'=>e=.returned (.tuple #[])∧w'=(w.setCell ⟨a,k,none⟩ (.int .i64 (AC bs at_ 4:Nat))).setCell ⟨ab,0,none⟩ (.int .i64 ((at_+4:Nat):Int)):=by
 have HG:Hid (Calls Tryz.prog 96 #[v,.int .i64 at_,.int .i64 4] w fun e w'=>e=.returned (.tuple #[.int .i64 (AC bs at_ 4:Nat),.int .i64 0])∧w'=w):=by
  have:=OH w S v bs at_ 4 hS h (.inr (.inr (.inl rfl))) ha (by omega)
  rw [if_neg (by have:=Dk (l:=bs) (a:=at_) (n:=4);omega)] at this
  exact this
 have x0:=hx.at k _ hk
 have x1:=hx.free k
 have i0:=hi0.cell
 have a0:=ha0.cell
 have a1:=ha0.free
 have a2:(w.setCell ⟨a,k,none⟩ (.int .i64 (AC bs at_ 4:Nat))).cell? ⟨ab,0,none⟩=some (.int .i64 at_):=(ha0.far (p:=⟨a,k,none⟩) (fun e=>hT e.symm)).cell
 have a3:(w.setCell ⟨a,k,none⟩ (.int .i64 (AC bs at_ 4:Nat))).frozen? ⟨ab,0,none⟩=false:=(ha0.far (p:=⟨a,k,none⟩) (fun e=>hT e.symm)).free
 have HW4:Hid (((at_:Int)+4)=((at_+4:Nat):Int)):=by show _=_;push_cast;rfl
 clear hx hi0 ha0 hk h hS
 have hb:at_≤1000:=by omega
 clear ha hl
 go_enter Tryz.func95,Tryz.ntmps95
 go_wp2_with (go_at_call 96;(with_reducible refine HG.out.mono ?_);rintro e w5 ⟨rfl,rfl⟩)
 (try simp only [Exit.inBlock,Exit.then])
 refine bodyPost_end (results_none rfl _ _ _) rfl ?_
 exact ⟨rfl,by rw [HW4.out]⟩
theorem Td:∀ args w,(callFunc 95 args).run Tryz.prog w=.ok (.enter 95 args) w:=enters_of Tryz.func95 (by kernel_rfl) rfl
theorem jL (w0:World) (S:Nat→Prop) (g ib ab:Nat) (v:Value) (bs:List UInt8) (h1:g≠ab) (h2:ib≠g) (h3:ib≠ab) (hS:∀ b,S b→b<w0.heap.size∧b≠g∧b≠ab) (h:AX w0 S v bs) (hl:bs.length=244):Si 95 g #[.pointer (some ⟨ib,0,none⟩),.pointer (some ⟨ab,0,none⟩)] (AC bs 28 4:Nat) fun k w=>AP w g (Gx bs k) 69∧One w ib v 22∧One w ab (.int .i64 ((12+4*k:Nat):Int)) 3∧Touch (fun y=>y=g∨y=ab) w0 w where
 al:=fun k w o ⟨h1,h2,h3,h4⟩=>⟨(Below.heap_alloc w o g h1.lt).trans h1,h2.alloc o,h3.alloc o,h4.trans (Touch.alloc o)⟩
 dr:=fun k w ⟨h1,h2,h3,h4⟩=>⟨h1,h2,h3,h4.trans Touch.drew⟩
 at4:=fun k w hk h=>by
  obtain ⟨j,rfl⟩:∃ j,k=5+j:=⟨k-5,by omega⟩
  exact h.1.at 4 _ (MP bs j)
 go:=fun k lo hi hs w ⟨p1,p2,p3,p4⟩=>by
  obtain ⟨hk,rfl,rfl⟩:=Sj hs
  obtain ⟨u,hu⟩:=Xe bs k hk
  have hkp:AX w S v bs:=h.keep (AA _) (fun _ h=>h) (Ap p4 (fun b hb=>⟨(hS b hb).1,fun e=>by rcases e with e|e;exact (hS b hb).2.1 e;exact (hS b hb).2.2 e⟩))
  refine (bB w S g k ib ab v bs (12+4*k) _ _ _ _ u p1 hu p2 p3 h1 (fun b hb=>by have:=(hS b hb).1;have:=p4.size;omega) hkp (by omega) (by omega)).mono ?_
  rintro e w' ⟨rfl,rfl⟩
  refine ⟨rfl,⟨(p1.set k _).far (fun e=>h1 e.symm) 0 _,(p2.far (p:=⟨g,k,none⟩) h2).far (p:=⟨ab,0,none⟩) h3,?_,?_⟩,fun ga d hd=>?_⟩
  · exact (p3.far (p:=⟨g,k,none⟩) (fun e=>h1 e.symm)).Dc
  · exact (p4.trans (Touch.Dc (R:=fun y=>y=g∨y=ab) (p:=⟨g,k,none⟩) (.inl rfl))).trans (Touch.Dc (R:=fun y=>y=g∨y=ab) (p:=⟨ab,0,none⟩) (.inr rfl))
  · refine (hd.far (fun e=>?_) k _).far (fun e=>?_) 0 _
    · subst e
      unfold AP at p1 hd
      rw [p1] at hd
      injection hd with hd
      injection hd with _ h4
      exact absurd h4 (by decide)
    · subst e
      unfold One at p3
      unfold AP at hd
      rw [p3] at hd
      injection hd with hd
      injection hd with _ h4
      exact absurd h4 (by decide)
end
section
open Go.RowKit
theorem bP (w:World) (S:Nat→Prop) (base a:Nat) (bs:List UInt8) (j:Nat) (vb:Value) (b:List UInt8) (h:Bo w base a bs) (hn:bs.length≤140737488355328) (hb:AX w S vb b) (hbl:b.length=256) (hj:j*256+256≤bs.length) :
 Calls Tryz.prog 137 #[.pointer (some ⟨a,0,none⟩),.int .i64 j,vb] w fun e w'=>e=.returned (.int .i64 0)∧Bo w' base a (Jm bs j b)∧OG w w' a:=by
 have hown:=h
 have hk:hasB bs.length (j:Int):=⟨by omega,by omega⟩
 obtain ⟨h0,A,c,h1,h2⟩:=h
 obtain ⟨Ab,cb,rfl,hcb,hrb⟩:=hb
 obtain ⟨g,cap,hv,hg1,hg2,hnc⟩:=FV h2 (by omega)
 injection hv with hv1 hv2 hv3
 subst hv1 hv3
 have hne:=Bo.ne h1 h2 rfl
 have IX:=qh (UY w a g 0 bs.length c j h1.cell hnc hn hj)
 have hwr:Jm bs j b=bs.take (j*256)++b++bs.drop (j*256+256):=by unfold Jm;rw [if_pos ⟨hk,hbl⟩,Int.toNat_natCast]
 obtain ⟨gb,ob,rfl,hSb,hcl⟩:=BU hrb (by omega)
 obtain ⟨cur,gI,hcs,hsp⟩:=WG h2
 have hnew:=hsp (j*256) (AB Au b) (by rw [BI];omega)
 have hfl:(AB Au bs).take (j*256)++(AB Au b++(AB Au bs).drop (j*256+(AB Au b).length))=AB Au (Jm bs j b):=by
  rw [hwr,BI,hbl]
  simp only [Bu,List.map_append,List.map_take,List.map_drop,List.append_assoc]
 have hwl:(Jm bs j b).length=bs.length:=by rw [hwr];simp only [List.length_append,List.length_take,List.length_drop];omega
 rw [hfl] at hnew
 have h1':One (w.setRow g (cur.toList.take (j*256)++(AB Au b++cur.toList.drop (j*256+(AB Au b).length))).toArray) a (.slice (some ⟨g,0,none⟩) bs.length c) 48:=(setRow_other w g a _ (fun e=>hne e.symm)).trans h1
 have hfin:Bo (w.setRow g (cur.toList.take (j*256)++(AB Au b++cur.toList.drop (j*256+(AB Au b).length))).toArray) base a (Jm bs j b):=⟨h0,_,c,by rw [hwl];exact h1',by rw [hwl];exact hnew⟩
 have htt:OG w (w.setRow g (cur.toList.take (j*256)++(AB Au b++cur.toList.drop (j*256+(AB Au b).length))).toArray) a:=⟨some g,fun v hv=>by rw [h1.cell] at hv;injection hv with hv;rw [← hv];rfl,O3 w g _,by simp⟩
 have L6:=qh hfin
 have mE:=qh htt
 have Ga:=qh (fun k hk=>hcl k hk)
 have tZ:=qh gI
 have hbb:((b.length:Int) != 256)=false:=by rw [hbl];rfl
 have AEr:((b.length:Int)==256)=true:=by rw [hbl];rfl
 have AA2:=qh hbl
 clear hfin htt hcl gI h1' hwl hfl hnew hsp hwr hrb h1 h2 hown hbl hne hSb
 go_enter Tryz.func137,Tryz.ntmps137
 go_wp2_with (first
  | (go_at_call 149;refine IX.out.mono ?_;rintro e w' ⟨rfl,rfl⟩)
  | ((with_reducible refine wpList_copy_own rfl _ _ _ _ rfl 5 Tryz.underlying22 lK g (j*256) 256 256 ⟨gb,ob,none⟩ b.length cb ?_ ?_ cur 5 tZ.out (AB Au b) ?_ (RJ Ga.out) ?_ (Dr b) ?_);exact rfl;exact rfl;(rw [BI,AA2.out];rfl);(rw [BI,AA2.out];omega)))
 go_ret
 exact ⟨rfl,L6.out,mE.out⟩
def bQ (w:World) (a:Nat) (x:Nat):Prop:=∃ v,w.cell? ⟨a,0,none⟩=some v∧v.ownBlock=some x
theorem Bo.below' {w w':World} {base a:Nat} {bs:List UInt8} (h:Bo w base a bs) (hB:Below w.heap.size w w'):Bo w' base a bs:=by
 obtain ⟨h0,A,c,h1,h2⟩:=h
 exact ⟨h0,A,c,(hB.block a (Array.getElem?_eq_some_iff.1 h1).1).trans h1,own_below h2 hB (Nat.le_refl _)⟩
theorem Bo.QM {w:World} {base a:Nat} {bs:List UInt8} (h:Bo w base a bs):∃ A c,w.cell? ⟨a,0,none⟩=some (.slice A bs.length c)∧a<w.heap.size:=by
 obtain ⟨h0,A,c,h1,h2⟩:=h
 exact ⟨A,c,h1.cell,(Array.getElem?_eq_some_iff.1 h1).1⟩
theorem OG.touch {w w':World} {a:Nat} {v:Value} (h:OG w w' a) (hv:w.cell? ⟨a,0,none⟩=some v):Touch (bQ w a) w w':=by
 obtain ⟨row,h1,h2,h3⟩:=h
 exact Touch.BO h2 (fun x hx=>⟨v,hv,by rw [h1 v hv];exact hx⟩)
set_option maxRecDepth 100000 in
theorem KJ (w:World) (S:Nat→Prop) (base img:Nat) (bs:List UInt8) (no kind:Nat) (v:Value) (inn:List UInt8) (hS:∀ b,S b→b<w.heap.size) (h:Bo w base img bs) (hn:bs.length≤140737488355328) (hb:AX w S v inn) (hl:inn.length≤244) (hk1:1≤kind) (hk4:kind≤4) (hno:no<14400) (hj:no*256+256≤bs.length) :
 Calls Tryz.prog 79 #[.pointer (some ⟨img,0,none⟩),.int .i64 no,.int .i64 kind,v] w fun e w'=>e=.returned .nilIface∧Bo w' base img (Jm bs no (Bq kind no inn))∧Touch (bQ w img) w w':=by
 have HSE:=qh (jJ w S v inn kind no hS hb hl hk1 hk4 hno)
 have Nu:Hid ((Bq kind no inn).length=256):=by
  show _=_
  unfold Bq
  rw [List.length_append,CY,MN kind no inn hl]
 have HWR:=qh (fun (w':World) (b0:Nat) (A:Option Addr) (c:Nat) (ho:Bo w' base img bs) (hr:w'.ownsRow b0 5 1 (.slice A 256 c) 256 (AB Au (Bq kind no inn)))=>bP w' _ base img bs no (.slice A 256 c) (Bq kind no inn) ho hn (Gi hr Nu.out.symm) Nu.out hj)
 have HTO:=qh (fun w'=>lQ w' (no:Int))
 have HOW:=qh h
 obtain ⟨A0,c0,hc0,WW⟩:=h.QM
 have xZ:=qh hc0
 have O9:=qh WW
 clear hS hb hl hk1 hk4 hno hj h hc0 WW
 generalize Bq kind no inn=sb at *
 go_enter Tryz.func79,Tryz.ntmps79
 go_wp2_with (first
  | (go_at_call 136;(with_reducible refine HSE.out.mono ?_);rintro e w2 ⟨⟨A2,c2,rfl,ho2⟩,hB2⟩;have QX:=qh ho2;have HB2:=qh hB2;clear ho2 hB2)
  | (go_at_call 137;(with_reducible refine (HWR.out _ _ A2 c2 (HOW.out.below' HB2.out) QX.out).mono ?_);rintro e w3 ⟨rfl,ho3,ht3⟩;have YS:=qh ho3;have HT3:=qh ht3;clear ho3 ht3)
  | (go_at_call 92;(with_reducible refine (HTO.out _).mono ?_);rintro e w4 ⟨rfl,hw⟩;rw [hw];clear hw w4))
 go_ret
 have hc2:World.cell? _ ⟨img,0,none⟩=some _:=AQ HB2.out O9.out xZ.out
 refine ⟨rfl,YS.out,(Touch.of_below HB2.out).trans ((HT3.out.touch hc2).weak (fun x hx=>?_))⟩
 obtain ⟨v,hv,hx⟩:=hx
 rw [hc2] at hv
 injection hv with hv
 exact ⟨_,xZ.out,by rw [hv];exact hx⟩
end
section
open Go.RowKit
def Ni:List Value:=List.replicate 2048 (Value.int .u8 0)
def Fs:List UInt8:=List.replicate 2048 0
theorem jg:Ni=AB Au Fs:=by
 unfold Ni Fs
 rw [Bu,List.map_replicate]
 rfl
theorem En:Fs.length=2048:=by unfold Fs;rw [List.length_replicate]
theorem jh (w:World):(Instr.makeSlice 22 (.int .i64 2048) (.int .i64 2048)).run Tryz.prog w=.ok (.slice (some ⟨w.heap.size,0,none⟩) 2048 2048) (w.alloc (.cells Ni.toArray 5)):=by
 have h:=run_make_row' (P:=Tryz.prog) 22 5 (.int .u8 0) 1 Tryz.underlying22 (by kernel_rfl) rfl .i64 .i64 2048 (by omega) (by omega) w
 have hmz:(madeCells #[Value.int .u8 0] 2048)=Ni.toArray:=by
  rw [← Array.toArray_toList (xs:=madeCells #[Value.int .u8 0] 2048),toList_madeCells_one]
  rfl
 rw [hmz] at h
 exact h
set_option maxRecDepth 100000 in
theorem oz (w:World):Calls Tryz.prog 37 #[.int .i64 8] w fun e w'=>(∃ a,e=.returned (.tuple #[.pointer (some ⟨a,0,none⟩),.int .i64 0])∧Bo w' w.heap.size a Fs)∧Below w.heap.size w w':=by
 have hmk:=jh w
 obtain ⟨ka,kb,kB,kz⟩:=AP.two w Ni.toArray #[.slice (some ⟨w.heap.size,0,none⟩) 2048 2048] 5 48
 have HA:=qh ka
 have HB:=qh kb
 have HK:=qh kB
 clear ka kb kB kz
 go_enter Tryz.func37,Tryz.ntmps37
 go_wp2_with fail
 refine bodyPost_ret (v:=.tuple #[.pointer (some ⟨w.heap.size+1,0,none⟩),.int .i64 0]) (by simp [results,Tryz.results37,go_sem]) rfl ⟨⟨_,rfl,Nat.le_succ _,some ⟨w.heap.size,0,none⟩,2048,by rw [En];exact HB.out,?_⟩,HK.out⟩
 rw [En,← jg]
 exact ⟨by unfold Ni;rw [List.length_replicate],.inr ⟨w.heap.size,2048,_,rfl,Nat.le_refl _,HA.out,Nat.le_refl _,by decide,by unfold Ni;rw [List.size_toArray,List.length_replicate],by rw [List.toList_toArray,List.take_of_length_le (by unfold Ni;rw [List.length_replicate];decide)]⟩⟩
end
end Go.Proofs.YtpenklpdjpkigaaGreat
