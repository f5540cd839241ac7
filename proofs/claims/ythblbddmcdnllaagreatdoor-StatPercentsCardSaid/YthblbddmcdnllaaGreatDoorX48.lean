/- A part of the proof: WCheck2, WCheck3, WCheck4. -/
import Derived.Test.YthblbddmcdnllaaGreatDoorX45
import Derived.Test.YthblbddmcdnllaaGreatDoorX18
import Derived.Laws.Rows
import Derived.Laws.Tables
import Derived.Test.YthblbddmcdnllaaGreatDoorY1
set_option maxHeartbeats 6400000
set_option linter.unusedVariables false
set_option linter.unusedSimpArgs false
namespace Go.Proofs.YthblbddmcdnllaaGreatDoor
section
open Go.RowKit
attribute [local go_sem] Oper.semAt_some
section
variable {w:World} {S:Nat→Prop} {a gm gu gf:Nat} {bs:List UInt8} {fuel:Int}
set_option maxRecDepth 100000 in
theorem gU (m:Value) (hf:AL w gf (fB 1 (.slice none 0 0) m) 102) :
 Calls Tryz.prog 137 #[.pointer (some ⟨gf,0,none⟩)] w fun e w'=>e=.returned (.slice none 0 0)∧Below w.heap.size w w':=by
 have HF:=qh hf
 have iJ:=qh (fun w'=>Xo w')
 have vP:=qh (fun w' A B c d=>Zo w' 6 A B c d)
 unfold D7 at iJ
 have s11:w.cell? ⟨gf,11,none⟩=some (.int .i64 0):=hf.at 11 _ rfl
 have s12:w.cell? ⟨gf,12,none⟩=some (.int .i64 0):=hf.at 12 _ rfl
 have s13:w.cell? ⟨gf,13,none⟩=some (.int .i64 1):=hf.at 13 _ rfl
 have oo:w.cell? ⟨gf,14,none⟩=some (.int .i64 0):=hf.at 14 _ rfl
 have s15:w.cell? ⟨gf,15,none⟩=some (.slice none 0 0):=hf.at 15 _ rfl
 have s16:w.cell? ⟨gf,16,none⟩=some (.slice none 0 0):=hf.at 16 _ rfl
 clear hf
 have hk0:=(Below.refl w.heap.size w).drew
 go_enter Tryz.func137,Tryz.ntmps137
 go_upto_region 1 with fail
 go_region_held3 (fun w'=>w'.cell? ⟨gf,11,none⟩=some (.int .i64 0)∧w'.cell? ⟨gf,12,none⟩=some (.int .i64 0)∧w'.cell? ⟨gf,13,none⟩=some (.int .i64 1)∧w'.cell? ⟨gf,14,none⟩=some (.int .i64 0)∧w'.cell? ⟨gf,15,none⟩=some (.slice none 0 0)∧w'.cell? ⟨gf,16,none⟩=some (.slice none 0 0)) (go_keep)
  (first
   | (go_at_call 138;have _:=hk2;refine (vP.out _ _ _ _ _).mono ?_;rintro e w3 ⟨rfl,hB3⟩;have hk3:=hk2.trans (hB3.mono hk2.size);have hf3:=HF.out.below hk3 HF.out.lt;clear s11 s12 s13 oo s15 s16;have s11:w3.cell? ⟨gf,11,none⟩=some (.int .i64 0):=hf3.at 11 _ rfl;have s12:w3.cell? ⟨gf,12,none⟩=some (.int .i64 0):=hf3.at 12 _ rfl;have s13:w3.cell? ⟨gf,13,none⟩=some (.int .i64 1):=hf3.at 13 _ rfl;have oo:w3.cell? ⟨gf,14,none⟩=some (.int .i64 0):=hf3.at 14 _ rfl;have s15:w3.cell? ⟨gf,15,none⟩=some (.slice none 0 0):=hf3.at 15 _ rfl;have s16:w3.cell? ⟨gf,16,none⟩=some (.slice none 0 0):=hf3.at 16 _ rfl)
   | (go_at_call 37;refine (iJ.out _).mono ?_;rintro e w2 ⟨⟨A,c,rfl⟩,hB⟩;have hk2:=hk0.trans (hB.mono hk0.size);have hf2:=HF.out.below hk2 HF.out.lt;clear s11 s12 s13 oo s15 s16;have s11:w2.cell? ⟨gf,11,none⟩=some (.int .i64 0):=hf2.at 11 _ rfl;have s12:w2.cell? ⟨gf,12,none⟩=some (.int .i64 0):=hf2.at 12 _ rfl;have s13:w2.cell? ⟨gf,13,none⟩=some (.int .i64 1):=hf2.at 13 _ rfl;have oo:w2.cell? ⟨gf,14,none⟩=some (.int .i64 0):=hf2.at 14 _ rfl;have s15:w2.cell? ⟨gf,15,none⟩=some (.slice none 0 0):=hf2.at 15 _ rfl;have s16:w2.cell? ⟨gf,16,none⟩=some (.slice none 0 0):=hf2.at 16 _ rfl))
 go_wp2_with fail
 go_ret
 exact ⟨rfl,hk3⟩
set_option maxRecDepth 100000 in
theorem Ou {A:Option Addr} {c base:Nat} (hS:∀ b,S b→b<w.heap.size) (h:Am w S a bs) (ok:ER bs fuel) (hf:AL w gf (fB 1 (.slice none 0 0) (.slice A 8 c)) 102) (ho:w.ownsRow base 3 1 (.slice A 8 c) 8 (AA encI (Dr 6))) :
 Calls Tryz.prog 140 #[.pointer (some ⟨a,0,none⟩),.pointer (some ⟨gf,0,none⟩)] w fun e w'=>e=.returned (.slice none 0 0)∧Below w.heap.size w w':=by
 have HC:Hid (Calls Tryz.prog 20 #[.pointer (some ⟨a,0,none⟩),.agg #[.int .i64 0,.int .i64 0,.int .i64 1,.int .i64 0,.int .i64 8,.int .i64 1,.int .i64 2,.int .i64 3,.int .i64 4,.int .i64 7,.int .i64 5]] w fun e w'=>(∃ v,e=.returned (.tuple #[v,.nilIface])∧BV w' (Fu w.heap.size w'.heap.size) v (Dr 6))∧Below w.heap.size w w'):=Wq w S a bs hS h ok.len ok.img
 obtain ⟨gc,hA,hgc,-,hs⟩:=BS ho (by omega)
 subst hA
 have HS:=qh hs
 have HF:=qh hf
 have Zq:=qh hgc
 have s0:w.cell? ⟨gf,0,none⟩=some (.int .i64 0):=hf.at 0 _ rfl
 have s1:w.cell? ⟨gf,1,none⟩=some (.int .i64 0):=hf.at 1 _ rfl
 have s2:w.cell? ⟨gf,2,none⟩=some (.int .i64 1):=hf.at 2 _ rfl
 have s3:w.cell? ⟨gf,3,none⟩=some (.int .i64 0):=hf.at 3 _ rfl
 have s4:w.cell? ⟨gf,4,none⟩=some (.int .i64 8):=hf.at 4 _ rfl
 have s5:w.cell? ⟨gf,5,none⟩=some (.int .i64 1):=hf.at 5 _ rfl
 have s6:w.cell? ⟨gf,6,none⟩=some (.int .i64 2):=hf.at 6 _ rfl
 have s7:w.cell? ⟨gf,7,none⟩=some (.int .i64 3):=hf.at 7 _ rfl
 have s8:w.cell? ⟨gf,8,none⟩=some (.int .i64 4):=hf.at 8 _ rfl
 have s9:w.cell? ⟨gf,9,none⟩=some (.int .i64 7):=hf.at 9 _ rfl
 have s10:w.cell? ⟨gf,10,none⟩=some (.int .i64 5):=hf.at 10 _ rfl
 clear h ok hf ho hs hgc
 go_enter Tryz.func140,Tryz.ntmps140
 go_upto_region 4 with (go_at_call 20;(with_reducible refine HC.out.mono ?_);rintro e w2 ⟨⟨v,rfl,hv⟩,hB⟩;have HV:=qh hv;have HB:=qh hB;clear hv hB)
 obtain ⟨A2,c2,hv2,-,hr2⟩:=HV.out
 obtain ⟨g2,o2,hA2,hg2,hc2⟩:=Be hr2 (by decide)
 rw [show (Dr 6).length=8 from rfl] at hv2 hc2
 rw [hA2] at hv2
 rw [hv2]
 have hf2:=HF.out.below HB.out HF.out.lt
 have s17:w2.cell? ⟨gf,17,none⟩=some (.slice (some ⟨gc,0,none⟩) 8 c):=hf2.at 17 _ rfl
 have vP:Hid (Calls Tryz.prog 138 #[.int .i64 8,.slice (some ⟨gc,0,none⟩) 8 c,.slice (some ⟨g2,o2,none⟩) 8 c2] w2 fun e w'=>e=.returned (.slice none 0 0)∧Below w2.heap.size w2 w'):=Su 8 gc 0 g2 o2 8 c c2 (fun i=>nth 0 (Dr 6) i) (by decide) (fun i hi=>AY HB.out Zq.out (by
  have h1:=HS.out i (.int .i64 (nth 0 (Dr 6) i)) (by rw [Bq,AZ 0 (Dr 6) i hi];simp [show i<(Dr 6).length from hi];try rfl)
  rw [add_lit] at h1
  exact h1)) (fun i hi=>hc2 i hi) (fun _=>⟨Nat.lt_of_lt_of_le Zq.out HB.out.size,hg2.2⟩)
 clear s0 s1 s2 s3 s4 s5 s6 s7 s8 s9 s10 hf2 hr2 hc2 hv2
 go_wp2_with (go_at_call 138;(with_reducible refine vP.out.mono ?_);rintro e w3 ⟨rfl,hB3⟩)
 go_ret
 exact ⟨rfl,HB.out.trans (hB3.mono HB.out.size)⟩
theorem gV {A:Option Addr} {c base:Nat} (hS:∀ b,S b→b<w.heap.size) (h:Am w S a bs) (ok:ER bs fuel) (hf:AL w gf (fB 1 (.slice none 0 0) (.slice A 8 c)) 102) (ho:w.ownsRow base 3 1 (.slice A 8 c) 8 (AA encI (Dr 6))) (hm:AL w gm #[.pointer (some ⟨a,0,none⟩)] 25) :
 Calls Tryz.prog 139 #[.pointer (some ⟨gf,0,none⟩),.pointer (some ⟨gm,0,none⟩)] w fun e w'=>e=.returned (.slice none 0 0)∧Below w.heap.size w w':=by
 have HC:=qh (Ou hS h ok hf ho)
 have x0:w.cell? ⟨gm,0,none⟩=some (.pointer (some ⟨a,0,none⟩)):=hm.at 0 _ rfl
 clear h ok hf ho hm
 go_enter Tryz.func139,Tryz.ntmps139
 go_wp2_with (go_at_call 140;(with_reducible refine HC.out.mono ?_);rintro e w2 ⟨rfl,hB⟩)
 go_ret
 exact ⟨rfl,hB⟩
end
end
section
open Go.RowKit
attribute [local go_sem] Oper.semAt_some
def vQ (gm:Nat):Array Value:=#[.bool false,.func (.func 129) #[] #[.pointer (some ⟨gm,0,none⟩)]]
def vR (gm gu:Nat):Array Value:=#[.bool false,.func (.func 131) #[] #[.pointer (some ⟨gm,0,none⟩),.pointer (some ⟨gu,0,none⟩)],.bool false,.func (.func 133) #[] #[.pointer (some ⟨gm,0,none⟩),.pointer (some ⟨gu,0,none⟩)],.bool false,.func (.func 135) #[] #[.pointer (some ⟨gm,0,none⟩),.pointer (some ⟨gu,0,none⟩)]]
def vS (gm:Nat):Array Value:=#[.bool true,.func (.func 137) #[] #[],.bool true,.func (.func 139) #[] #[.pointer (some ⟨gm,0,none⟩)]]
def vT (g1 g2 g3:Nat):Array Value:=#[.slice (some ⟨g1,0,none⟩) 1 1,.slice (some ⟨g2,0,none⟩) 3 3,.slice (some ⟨g3,0,none⟩) 2 2]
def Xv (w:World) (a:Nat) (fuel:Int) (gm gu g1 g2 g3 gs:Nat):Prop:=AL w gm #[.pointer (some ⟨a,0,none⟩)] 25∧AL w gu #[.int .i64 fuel] 3∧AL w g1 (vQ gm) 182∧AL w g2 (vR gm gu) 182∧AL w g3 (vS gm) 182∧AL w gs (vT g1 g2 g3) 179
theorem Xv.touch {w w':World} {a gm gu g1 g2 g3 gs gf:Nat} {fuel:Int} (h:Xv w a fuel gm gu g1 g2 g3 gs) (hT:Touch (fun y=>y=gf) w w') (hn:gm≠gf∧gu≠gf∧g1≠gf∧g2≠gf∧g3≠gf∧gs≠gf):Xv w' a fuel gm gu g1 g2 g3 gs :=
 ⟨(hT.block h.1.lt hn.1).trans h.1,(hT.block h.2.1.lt hn.2.1).trans h.2.1,(hT.block h.2.2.1.lt hn.2.2.1).trans h.2.2.1,(hT.block h.2.2.2.1.lt hn.2.2.2.1).trans h.2.2.2.1,(hT.block h.2.2.2.2.1.lt hn.2.2.2.2.1).trans h.2.2.2.2.1,(hT.block h.2.2.2.2.2.lt hn.2.2.2.2.2).trans h.2.2.2.2.2⟩
set_option maxRecDepth 100000 in
theorem Sy (w:World) (a:Nat) (fuel:Int) :
 Calls Tryz.prog 85 #[.pointer (some ⟨a,0,none⟩),.int .i64 fuel] w fun e w'=>(∃ gm gu g1 g2 g3 gs,e=.returned (.slice (some ⟨gs,0,none⟩) 3 3)∧Xv w' a fuel gm gu g1 g2 g3 gs∧w.heap.size≤gm∧w.heap.size≤gu∧w.heap.size≤g1∧w.heap.size≤g2∧w.heap.size≤g3∧w.heap.size≤gs)∧Below w.heap.size w w':=by
 have iF:∀ (fn:Fn) (first cap:Array Value) (w:World),(Instr.makeFunc fn first cap).run Tryz.prog w=.ok (.func fn first cap) w:=fun _ _ _ _=>rfl
 obtain ⟨km,ku,kB,kz⟩:=AL.two w #[.pointer (some ⟨a,0,none⟩)] #[.int .i64 fuel] 25 3
 go_enter Tryz.func85,Tryz.ntmps85
 go_upto_region 1 with fail
 generalize (w.alloc (.cells #[.pointer (some ⟨a,0,none⟩)] 25)).alloc (.cells #[.int .i64 fuel] 3)=w1 at *
 have KZ:=qh kz
 have KM:=qh km
 have KU:=qh ku
 clear kz km ku
 go_wp2_with fail
 have hal:=TQ w1 (.cells (vQ w.heap.size) 182) (.cells (vR w.heap.size (w.heap.size+1)) 182) (.cells (vS w.heap.size) 182) (.cells (vT w1.heap.size (w1.heap.size+1) (w1.heap.size+1+1)) 179)
 unfold vQ vR vS vT at hal
 obtain ⟨h1,h2,h3,h4,-,hB⟩:=hal
 have hz:=KZ.out
 refine bodyPost_ret (v:=.slice (some ⟨w1.heap.size+1+1+1,0,none⟩) 3 3) (by simp [results,Tryz.results85,go_sem]) rfl ⟨⟨w.heap.size,w.heap.size+1,w1.heap.size,w1.heap.size+1,w1.heap.size+1+1,w1.heap.size+1+1+1,rfl,⟨KM.out.below hB KM.out.lt,KU.out.below hB KU.out.lt,h1,h2,h3,h4⟩,by omega,by omega,by omega,by omega,by omega,by omega⟩,kB.trans (hB.mono kB.size)⟩
end
section
open Go.RowKit
attribute [local go_sem] Oper.semAt_some GX
theorem Qi {fn:Func} {k g:Nat} {tmps:Array Value} {w:World} {cs:Array Value} {T:TypeId} {d:Array Field} (hres:fn.results=#[.cell k T]) (h1:tmps[k]? = some (.pointer (some ⟨g,0,none⟩))) (hb:AL w g cs T) (hu:Tryz.prog.underlying T=some (.struct d)) (hi:(Tryz.prog.info? T).map (·.size)=some cs.size):(results fn tmps).run Tryz.prog w=.ok (.agg cs) w:=by
 have hl:=run_loadVar_row (P:=Tryz.prog) w g T T cs (0,0) _ hb hu rfl hi
 have ha:(asAddr (.pointer (some ⟨g,0,none⟩))).run Tryz.prog w=.ok ⟨g,0,none⟩ w:=rfl
 simp [results,hres,Sem.run_bind,h1,ha,hl]
theorem GG {w:World} {gf g9:Nat} {v:Value} (hne:g9≠gf) (h1:w.cell? ⟨gf,18,none⟩=some (.slice none 0 0)) (h2:w.cell? ⟨g9,1,none⟩=some v):(w.setCell ⟨gf,18,none⟩ (.slice none 0 0)).cell? ⟨gf,18,none⟩=some (.slice none 0 0)∧(w.setCell ⟨gf,18,none⟩ (.slice none 0 0)).cell? ⟨g9,1,none⟩=some v :=
 ⟨by rw [World.cell?_setCell_same (h:=h1)],(World.cell?_of_block (a:=⟨g9,1,none⟩) (Below.heap_setCell w ⟨gf,18,none⟩ _ g9 hne)).trans h2⟩
def FF (n gf:Nat) (w:World):Prop:=match n with
 | 0=>AL w gf fZ 102
 | 1=>AL w gf (fB 0 (.slice none 0 0) (.slice none 0 0)) 102
 | 2=>AL w gf (fB 1 (.slice none 0 0) (.slice none 0 0)) 102
 | 3=>AL w gf (fB 1 (.slice none 0 0) (.slice none 0 0)) 102
 | _=>∃ A c,AL w gf (fB 1 (.slice none 0 0) (.slice A 8 c)) 102∧w.ownsRow (gf+1) 3 1 (.slice A 8 c) 8 (AA encI (Dr 6))
theorem FF.DW {n gf:Nat} {w:World} (h:FF n gf w):∃ cs,AL w gf cs 102∧cs[18]? = some (.slice none 0 0):=by
 unfold FF at h
 split at h
 · exact ⟨_,h,rfl⟩
 · exact ⟨_,h,rfl⟩
 · exact ⟨_,h,rfl⟩
 · exact ⟨_,h,rfl⟩
 · obtain ⟨A,c,h,_⟩:=h;exact ⟨_,h,rfl⟩
theorem FF.keep {n gf:Nat} {w w':World} (h:FF n gf w) (hT:Touch (fun _=>False) w w'):FF n gf w':=by
 unfold FF at *
 split at h
 · exact (hT.block h.lt (fun e=>e)).trans h
 · exact (hT.block h.lt (fun e=>e)).trans h
 · exact (hT.block h.lt (fun e=>e)).trans h
 · exact (hT.block h.lt (fun e=>e)).trans h
 · obtain ⟨A,c,h1,h2⟩:=h;exact ⟨A,c,(hT.block h1.lt (fun e=>e)).trans h1,BB h2 hT (fun _ _ e=>e)⟩
theorem Qj {w:World} {gf:Nat} {cs:Array Value} {T:TypeId} (h:AL w gf cs T) (h18:cs[18]? = some (.slice none 0 0)):AL (w.setCell ⟨gf,18,none⟩ (.slice none 0 0)) gf cs T:=by
 have h1:=h.set 18 (.slice none 0 0)
 rwa [show cs.setIfInBounds 18 (.slice none 0 0)=cs from by
  apply Array.ext_getElem?
  intro i
  rw [Array.getElem?_setIfInBounds]
  split
  · rename_i e;subst e;rw [h18];split <;> first|rfl|(rename_i hn;rw [Array.getElem?_eq_none (by omega)] at h18;cases h18)
  · rfl] at h1
theorem FF.set {n gf:Nat} {w:World} (h:FF n gf w):FF n gf (w.setCell ⟨gf,18,none⟩ (.slice none 0 0)):=by
 unfold FF at *
 split at h
 · exact Qj h rfl
 · exact Qj h rfl
 · exact Qj h rfl
 · exact Qj h rfl
 · obtain ⟨A,c,h1,h2⟩:=h;exact ⟨A,c,Qj h1 rfl,BB (R:=fun y=>y=gf) h2 (Touch.BZ (R:=fun y=>y=gf) (p:=⟨gf,18,none⟩) rfl) (fun x hx e=>by have:=(h2.lt x hx).1;have e:x=gf:=e;omega)⟩
def LS (w0:World) (a:Nat) (fuel:Int) (gf gr gm gu g1 g2 g3 gs n:Nat) (w:World):Prop:=FF n gf w∧Xv w a fuel gm gu g1 g2 g3 gs∧AL w gr fZ 102∧Below w0.heap.size w0 w
def LN (w0:World) (gf gr gm gu g1 g2 g3 gs:Nat):Prop:=(gm≠gf∧gu≠gf∧g1≠gf∧g2≠gf∧g3≠gf∧gs≠gf)∧w0.heap.size≤gf∧w0.heap.size≤gr∧gr≠gf
section
variable {w0 w:World} {S:Nat→Prop} {a gf gr gm gu g1 g2 g3 gs n:Nat} {bs:List UInt8} {fuel:Int}
theorem LS.step {n':Nat} {w':World} (h:LS w0 a fuel gf gr gm gu g1 g2 g3 gs n w) (hn:LN w0 gf gr gm gu g1 g2 g3 gs) (hf:FF n' gf w') (hT:Touch (fun y=>y=gf) w w'):LS w0 a fuel gf gr gm gu g1 g2 g3 gs n' w' :=
 ⟨hf,h.2.1.touch hT hn.1,(hT.block h.2.2.1.lt hn.2.2.2).trans h.2.2.1,h.2.2.2.trans (hT.below (fun y e=>by rw [e];exact hn.2.1) h.2.2.2.size)⟩
theorem LS.new (h:LS w0 a fuel gf gr gm gu g1 g2 g3 gs n w) (hn:LN w0 gf gr gm gu g1 g2 g3 gs) (ob:Obj):LS w0 a fuel gf gr gm gu g1 g2 g3 gs n (w.alloc ob):=h.step hn (h.1.keep (Touch.alloc ob)) (Touch.alloc ob)
theorem LS.set (h:LS w0 a fuel gf gr gm gu g1 g2 g3 gs n w) (hn:LN w0 gf gr gm gu g1 g2 g3 gs):LS w0 a fuel gf gr gm gu g1 g2 g3 gs n (w.setCell ⟨gf,18,none⟩ (.slice none 0 0)):=h.step hn h.1.set (Touch.BZ (R:=fun y=>y=gf) (p:=⟨gf,18,none⟩) rfl)
theorem LS.lt (h:LS w0 a fuel gf gr gm gu g1 g2 g3 gs n w):gf<w.heap.size:=by obtain ⟨cs,h1,_⟩:=h.1.DW;exact h1.lt
theorem nG (hS:∀ b,S b→b<w.heap.size) (h:Am w S a bs) (ok:ER bs fuel) (hl:LS w0 a fuel gf gr gm gu g1 g2 g3 gs 0 w) (hn:LN w0 gf gr gm gu g1 g2 g3 gs) :
 Calls Tryz.prog 129 #[.pointer (some ⟨gf,0,none⟩),.pointer (some ⟨gm,0,none⟩)] w.drew fun e w'=>e=.returned (.slice none 0 0)∧LS w0 a fuel gf gr gm gu g1 g2 g3 gs 1 w'∧Touch (fun y=>y=gf) w w':=(gN (w:=w.drew) hS h ok hl.1 hl.2.1.1).mono fun e w' ⟨he,hb,hT⟩=>⟨he,hl.step hn hb hT,hT⟩
theorem nH (hS:∀ b,S b→b<w.heap.size) (h:Am w S a bs) (ok:ER bs fuel) (hl:LS w0 a fuel gf gr gm gu g1 g2 g3 gs 1 w) (hn:LN w0 gf gr gm gu g1 g2 g3 gs) :
 Calls Tryz.prog 131 #[.pointer (some ⟨gf,0,none⟩),.pointer (some ⟨gm,0,none⟩),.pointer (some ⟨gu,0,none⟩)] w.drew fun e w'=>e=.returned (.slice none 0 0)∧LS w0 a fuel gf gr gm gu g1 g2 g3 gs 2 w'∧Touch (fun y=>y=gf) w w':=(gP (w:=w.drew) hS h ok hl.1 hl.2.1.1 hl.2.1.2.1 ⟨hn.1.1,hn.1.2.1⟩).mono fun e w' ⟨he,hb,hT⟩=>⟨he,hl.step hn hb hT,hT⟩
theorem nI (hS:∀ b,S b→b<w.heap.size) (h:Am w S a bs) (ok:ER bs fuel) (hl:LS w0 a fuel gf gr gm gu g1 g2 g3 gs 2 w) (hn:LN w0 gf gr gm gu g1 g2 g3 gs) :
 Calls Tryz.prog 133 #[.pointer (some ⟨gf,0,none⟩),.pointer (some ⟨gm,0,none⟩),.pointer (some ⟨gu,0,none⟩)] w.drew fun e w'=>e=.returned (.slice none 0 0)∧LS w0 a fuel gf gr gm gu g1 g2 g3 gs 3 w'∧Touch (fun y=>y=gf) w w':=(gQ (w:=w.drew) hS h ok hl.1 hl.2.1.1 hl.2.1.2.1 ⟨hn.1.1,hn.1.2.1⟩).mono fun e w' ⟨he,hb,hT⟩=>⟨he,hl.step hn hb hT,hT⟩
theorem nJ (hS:∀ b,S b→b<w.heap.size) (h:Am w S a bs) (ok:ER bs fuel) (hl:LS w0 a fuel gf gr gm gu g1 g2 g3 gs 3 w) (hn:LN w0 gf gr gm gu g1 g2 g3 gs) :
 Calls Tryz.prog 135 #[.pointer (some ⟨gf,0,none⟩),.pointer (some ⟨gm,0,none⟩),.pointer (some ⟨gu,0,none⟩)] w.drew fun e w'=>e=.returned (.slice none 0 0)∧LS w0 a fuel gf gr gm gu g1 g2 g3 gs 4 w'∧Touch (fun y=>y=gf) w w':=(gT (w:=w.drew) hS h ok hl.1 hl.2.1.1 hl.2.1.2.1 ⟨hn.1.1,hn.1.2.1⟩).mono fun e w' ⟨⟨A,c,he,hb,ho⟩,hT⟩=>⟨he,hl.step hn ⟨A,c,hb,ho.mono hl.lt⟩ hT,hT⟩
theorem nK (hS:∀ b,S b→b<w.heap.size) (h:Am w S a bs) (ok:ER bs fuel) (hl:LS w0 a fuel gf gr gm gu g1 g2 g3 gs 4 w) (hn:LN w0 gf gr gm gu g1 g2 g3 gs) :
 Calls Tryz.prog 137 #[.pointer (some ⟨gf,0,none⟩)] w.drew fun e w'=>e=.returned (.slice none 0 0)∧LS w0 a fuel gf gr gm gu g1 g2 g3 gs 5 w'∧Touch (fun y=>y=gf) w w':=by
 obtain ⟨A,c,hb,ho⟩:=hl.1
 refine (gU (w:=w.drew) _ hb).mono fun e w' ⟨he,hB⟩=>?_
 have hT:Touch (fun y=>y=gf) w w':=Touch.of_below ((Below.refl w.heap.size w).drew.trans hB)
 exact ⟨he,hl.step hn ⟨A,c,(show AL w.drew gf _ _ from hb).below hB hb.lt,own_below (show w.drew.ownsRow _ _ _ _ _ _ from ho) hB (Nat.le_refl _)⟩ hT,hT⟩
theorem nL (hS:∀ b,S b→b<w.heap.size) (h:Am w S a bs) (ok:ER bs fuel) (hl:LS w0 a fuel gf gr gm gu g1 g2 g3 gs 5 w) (hn:LN w0 gf gr gm gu g1 g2 g3 gs) :
 Calls Tryz.prog 139 #[.pointer (some ⟨gf,0,none⟩),.pointer (some ⟨gm,0,none⟩)] w.drew fun e w'=>e=.returned (.slice none 0 0)∧LS w0 a fuel gf gr gm gu g1 g2 g3 gs 6 w'∧Touch (fun y=>y=gf) w w':=by
 obtain ⟨A,c,hb,ho⟩:=hl.1
 refine (gV (w:=w.drew) hS h ok hb ho hl.2.1.1).mono fun e w' ⟨he,hB⟩=>?_
 have hT:Touch (fun y=>y=gf) w w':=Touch.of_below ((Below.refl w.heap.size w).drew.trans hB)
 exact ⟨he,hl.step hn ⟨A,c,(show AL w.drew gf _ _ from hb).below hB hb.lt,own_below (show w.drew.ownsRow _ _ _ _ _ _ from ho) hB (Nat.le_refl _)⟩ hT,hT⟩
set_option maxRecDepth 100000 in
theorem nM (hS:∀ b,S b→b<w.heap.size) (h:Am w S a bs) (ok:ER bs fuel) :
 Calls Tryz.prog 42 #[.pointer (some ⟨a,0,none⟩),.int .i64 fuel] w fun e w'=>(∃ A c,e=.returned (.agg (fB 1 (.slice none 0 0) (.slice A 8 c))))∧Below w.heap.size w w':=by
 obtain ⟨kr,kf,kB,kz⟩:=AL.two w fZ fZ 102 102
 unfold fZ at kr kf kB kz
 have yn:=qh (fun w'=>Sy w' a fuel)
 have HI:=qh (fun (w':World) (hB:Below w.heap.size w w')=>And.intro (fun b (hb:S b)=>Nat.lt_of_lt_of_le (hS b hb) hB.size) (h.below hB hS))
 have OK:=qh ok
 clear h ok
 go_enter Tryz.func42,Tryz.ntmps42
 go_upto_region 2 with fail
 generalize (w.alloc (.cells #[.int .i64 0,.int .i64 0,.int .i64 0,.int .i64 0,.int .i64 0,.int .i64 0,.int .i64 0,.int .i64 0,.int .i64 0,.int .i64 0,.int .i64 0,.int .i64 0,.int .i64 0,.int .i64 0,.int .i64 0,.slice none 0 0,.slice none 0 0,.slice none 0 0,.slice none 0 0] 102)).alloc (.cells #[.int .i64 0,.int .i64 0,.int .i64 0,.int .i64 0,.int .i64 0,.int .i64 0,.int .i64 0,.int .i64 0,.int .i64 0,.int .i64 0,.int .i64 0,.int .i64 0,.int .i64 0,.int .i64 0,.int .i64 0,.slice none 0 0,.slice none 0 0,.slice none 0 0,.slice none 0 0] 102)=w1 at *
 obtain ⟨gr,hgr⟩:∃ q,w.heap.size=q:=⟨_,rfl⟩
 obtain ⟨gf,hgf⟩:∃ q,w.heap.size+1=q:=⟨_,rfl⟩
 have HW:Hid (w.heap.size≤gr∧w.heap.size≤gf∧gr≠gf):=⟨by omega,by omega,by omega⟩
 rw [hgf] at kf ⊢
 rw [hgr] at kr ⊢
 have HR1:Hid (AL w1 gr fZ 102):=kr
 have ou:Hid (AL w1 gf fZ 102):=kf
 have HB1:=qh kB
 clear hgf hgr kr kf kB kz
 go_wp2_with (go_at_call 85;(with_reducible refine (yn.out _).mono ?_);rintro e w2 ⟨⟨gm,gu,g1,g2,g3,gs,rfl,hsg,q1,q2,q3,q4,q5,q6⟩,hB⟩;have Yo:=qh hsg;have HQ:=qh (And.intro q1 (And.intro q2 (And.intro q3 (And.intro q4 (And.intro q5 q6)))));have HB2:=qh hB;clear hsg q1 q2 q3 q4 q5 q6 hB)
 have HN:Hid (LN w gf gr gm gu g1 g2 g3 gs):=⟨by have:=ou.out.lt;have:=HQ.out;exact ⟨by omega,by omega,by omega,by omega,by omega,by omega⟩,HW.out.2.1,HW.out.1,HW.out.2.2⟩
 have HL0:Hid (LS w a fuel gf gr gm gu g1 g2 g3 gs 0 w2):=⟨ou.out.below HB2.out ou.out.lt,Yo.out,HR1.out.below HB2.out HR1.out.lt,HB1.out.trans (HB2.out.mono HB1.out.size)⟩
 clear Yo ou HR1 HB1 HB2 HQ HW yn
 go_loopw [14] (fun vi wr=>(vi=.int .i64 0∧Hid (LS w a fuel gf gr gm gu g1 g2 g3 gs 0 wr))∨(vi=.int .i64 1∧Hid (LS w a fuel gf gr gm gu g1 g2 g3 gs 1 wr))∨(vi=.int .i64 2∧Hid (LS w a fuel gf gr gm gu g1 g2 g3 gs 4 wr))∨(vi=.int .i64 3∧Hid (LS w a fuel gf gr gm gu g1 g2 g3 gs 6 wr))) (fun vi _=>3-(intOf vi).toNat)
 case atStart=>exact .inl ⟨rfl,HL0⟩
 case round =>
  rcases hrel with ⟨rfl,HL⟩|⟨rfl,HL⟩|⟨rfl,HL⟩|⟨rfl,HL⟩
  · have t0:wr.cell? ⟨gs,0,none⟩=some (.slice (some ⟨g1,0,none⟩) 1 1):=HL.out.2.1.2.2.2.2.2.at 0 _ rfl
    obtain ⟨cs,hcs,h18⟩:=HL.out.1.DW
    have d0:=hcs.at 18 _ h18
    clear hcs h18
    go_wp2_with fail
    clear t0 d0
    go_loopw [24] (fun vi wx=>(vi=.int .i64 0∧Hid (LS w a fuel gf gr gm gu g1 g2 g3 gs 0 wx))∨(vi=.int .i64 1∧Hid (LS w a fuel gf gr gm gu g1 g2 g3 gs 1 wx))) (fun vi _=>1-(intOf vi).toNat)
    case atStart=>exact .inl ⟨rfl,HL⟩
    case round =>
     rcases hrel with ⟨rfl,HL⟩|⟨rfl,HL⟩
     · as_aux_lemma =>
         obtain ⟨cs,hcs,h18⟩:=HL.out.1.DW
         have d0:=hcs.at 18 _ h18
         have u0:wr.cell? ⟨g1,0,none⟩=some (.bool false):=HL.out.2.1.2.2.1.at 0 _ rfl
         have u1:wr.cell? ⟨g1,1,none⟩=some (.func (.func 129) #[] #[.pointer (some ⟨gm,0,none⟩)]):=HL.out.2.1.2.2.1.at 1 _ rfl
         clear hcs h18
         go_upto_region 9 with fail
         have hst:=AL.new wr #[.bool false,.func (.func 129) #[] #[.pointer (some ⟨gm,0,none⟩)]] 182
         have hla:=HL.out.new HN.out (.cells #[.bool false,.func (.func 129) #[] #[.pointer (some ⟨gm,0,none⟩)]] 182)
         obtain ⟨g9,Dp⟩:∃ q,wr.heap.size=q:=⟨_,rfl⟩
         clear d0 u0 u1
         rw [Dp] at hst ⊢
         have Jc:Hid (g9≠gf):=by have:=HL.out.lt;show _≠_;omega
         generalize wr.alloc (.cells #[.bool false,.func (.func 129) #[] #[.pointer (some ⟨gm,0,none⟩)]] 182)=w3 at *
         have HST:=qh hst
         have Qq:=qh hla
         have hi:=HI.out w3 hla.2.2.2
         have HC:=qh (nG hi.1 hi.2 OK.out hla HN.out)
         obtain ⟨cs,hcs,h18⟩:=hla.1.DW
         have d0:=hcs.at 18 _ h18
         have y1:w3.cell? ⟨g9,1,none⟩=some (.func (.func 129) #[] #[.pointer (some ⟨gm,0,none⟩)]):=hst.at 1 _ rfl
         clear Dp hst hla hi hcs h18 HL
         go_wp2_with fail
         go_region_held3 (fun w'=>w'.cell? ⟨gf,18,none⟩=some (.slice none 0 0)∧w'.cell? ⟨g9,1,none⟩=some (.func (.func 129) #[] #[.pointer (some ⟨gm,0,none⟩)])) (first|exact GG Jc.out d0 y1|go_keep)
          (first
           | (go_at_call 129;refine HC.out.mono ?_;rintro e w4 ⟨rfl,hl4,JB⟩;clear d0 y1;obtain ⟨cs,hcs,h18⟩:=hl4.1.DW;have d0:=hcs.at 18 _ h18;have e0:=hcs.free 18;have l0:=hcs.lt;have p4:AL w4 g9 _ _:=(JB.block HST.out.lt Jc.out).trans HST.out;have y1:w4.cell? ⟨g9,1,none⟩=some (.func (.func 129) #[] #[.pointer (some ⟨gm,0,none⟩)]):=p4.at 1 _ rfl;clear hcs h18 p4))
         have Jr:=qh (hl4.set HN.out)
         clear d0 y1 e0 l0 hl4 JB HC Qq HST Jc
         generalize w4.setCell ⟨gf,18,none⟩ (.slice none 0 0)=w5 at *
         go_wp2_with fail
         go_roundw
         case rel=>exact .inr (⟨rfl,Jr⟩)
         case measure=>simp [intOf]
     · go_wp2_with fail
       go_roundw
       case rel=>exact .inr (.inl ⟨rfl,HL⟩)
       case measure=>simp [intOf]
  · have t0:wr.cell? ⟨gs,1,none⟩=some (.slice (some ⟨g2,0,none⟩) 3 3):=HL.out.2.1.2.2.2.2.2.at 1 _ rfl
    obtain ⟨cs,hcs,h18⟩:=HL.out.1.DW
    have d0:=hcs.at 18 _ h18
    clear hcs h18
    go_wp2_with fail
    clear t0 d0
    go_loopw [24] (fun vi wx=>(vi=.int .i64 0∧Hid (LS w a fuel gf gr gm gu g1 g2 g3 gs 1 wx))∨(vi=.int .i64 1∧Hid (LS w a fuel gf gr gm gu g1 g2 g3 gs 2 wx))∨(vi=.int .i64 2∧Hid (LS w a fuel gf gr gm gu g1 g2 g3 gs 3 wx))∨(vi=.int .i64 3∧Hid (LS w a fuel gf gr gm gu g1 g2 g3 gs 4 wx))) (fun vi _=>3-(intOf vi).toNat)
    case atStart=>exact .inl ⟨rfl,HL⟩
    case round =>
     rcases hrel with ⟨rfl,HL⟩|⟨rfl,HL⟩|⟨rfl,HL⟩|⟨rfl,HL⟩
     · as_aux_lemma =>
         obtain ⟨cs,hcs,h18⟩:=HL.out.1.DW
         have d0:=hcs.at 18 _ h18
         have u0:wr.cell? ⟨g2,0,none⟩=some (.bool false):=HL.out.2.1.2.2.2.1.at 0 _ rfl
         have u1:wr.cell? ⟨g2,1,none⟩=some (.func (.func 131) #[] #[.pointer (some ⟨gm,0,none⟩),.pointer (some ⟨gu,0,none⟩)]):=HL.out.2.1.2.2.2.1.at 1 _ rfl
         clear hcs h18
         go_upto_region 9 with fail
         have hst:=AL.new wr #[.bool false,.func (.func 131) #[] #[.pointer (some ⟨gm,0,none⟩),.pointer (some ⟨gu,0,none⟩)]] 182
         have hla:=HL.out.new HN.out (.cells #[.bool false,.func (.func 131) #[] #[.pointer (some ⟨gm,0,none⟩),.pointer (some ⟨gu,0,none⟩)]] 182)
         obtain ⟨g9,Dp⟩:∃ q,wr.heap.size=q:=⟨_,rfl⟩
         clear d0 u0 u1
         rw [Dp] at hst ⊢
         have Jc:Hid (g9≠gf):=by have:=HL.out.lt;show _≠_;omega
         generalize wr.alloc (.cells #[.bool false,.func (.func 131) #[] #[.pointer (some ⟨gm,0,none⟩),.pointer (some ⟨gu,0,none⟩)]] 182)=w3 at *
         have HST:=qh hst
         have Qq:=qh hla
         have hi:=HI.out w3 hla.2.2.2
         have HC:=qh (nH hi.1 hi.2 OK.out hla HN.out)
         obtain ⟨cs,hcs,h18⟩:=hla.1.DW
         have d0:=hcs.at 18 _ h18
         have y1:w3.cell? ⟨g9,1,none⟩=some (.func (.func 131) #[] #[.pointer (some ⟨gm,0,none⟩),.pointer (some ⟨gu,0,none⟩)]):=hst.at 1 _ rfl
         clear Dp hst hla hi hcs h18 HL
         go_wp2_with fail
         go_region_held3 (fun w'=>w'.cell? ⟨gf,18,none⟩=some (.slice none 0 0)∧w'.cell? ⟨g9,1,none⟩=some (.func (.func 131) #[] #[.pointer (some ⟨gm,0,none⟩),.pointer (some ⟨gu,0,none⟩)])) (first|exact GG Jc.out d0 y1|go_keep)
          (first
           | (go_at_call 131;refine HC.out.mono ?_;rintro e w4 ⟨rfl,hl4,JB⟩;clear d0 y1;obtain ⟨cs,hcs,h18⟩:=hl4.1.DW;have d0:=hcs.at 18 _ h18;have e0:=hcs.free 18;have l0:=hcs.lt;have p4:AL w4 g9 _ _:=(JB.block HST.out.lt Jc.out).trans HST.out;have y1:w4.cell? ⟨g9,1,none⟩=some (.func (.func 131) #[] #[.pointer (some ⟨gm,0,none⟩),.pointer (some ⟨gu,0,none⟩)]):=p4.at 1 _ rfl;clear hcs h18 p4))
         have Jr:=qh (hl4.set HN.out)
         clear d0 y1 e0 l0 hl4 JB HC Qq HST Jc
         generalize w4.setCell ⟨gf,18,none⟩ (.slice none 0 0)=w5 at *
         go_wp2_with fail
         go_roundw
         case rel=>exact .inr (.inl ⟨rfl,Jr⟩)
         case measure=>simp [intOf]
     · as_aux_lemma =>
         obtain ⟨cs,hcs,h18⟩:=HL.out.1.DW
         have d0:=hcs.at 18 _ h18
         have u0:wr.cell? ⟨g2,2,none⟩=some (.bool false):=HL.out.2.1.2.2.2.1.at 2 _ rfl
         have u1:wr.cell? ⟨g2,3,none⟩=some (.func (.func 133) #[] #[.pointer (some ⟨gm,0,none⟩),.pointer (some ⟨gu,0,none⟩)]):=HL.out.2.1.2.2.2.1.at 3 _ rfl
         clear hcs h18
         go_upto_region 9 with fail
         have hst:=AL.new wr #[.bool false,.func (.func 133) #[] #[.pointer (some ⟨gm,0,none⟩),.pointer (some ⟨gu,0,none⟩)]] 182
         have hla:=HL.out.new HN.out (.cells #[.bool false,.func (.func 133) #[] #[.pointer (some ⟨gm,0,none⟩),.pointer (some ⟨gu,0,none⟩)]] 182)
         obtain ⟨g9,Dp⟩:∃ q,wr.heap.size=q:=⟨_,rfl⟩
         clear d0 u0 u1
         rw [Dp] at hst ⊢
         have Jc:Hid (g9≠gf):=by have:=HL.out.lt;show _≠_;omega
         generalize wr.alloc (.cells #[.bool false,.func (.func 133) #[] #[.pointer (some ⟨gm,0,none⟩),.pointer (some ⟨gu,0,none⟩)]] 182)=w3 at *
         have HST:=qh hst
         have Qq:=qh hla
         have hi:=HI.out w3 hla.2.2.2
         have HC:=qh (nI hi.1 hi.2 OK.out hla HN.out)
         obtain ⟨cs,hcs,h18⟩:=hla.1.DW
         have d0:=hcs.at 18 _ h18
         have y1:w3.cell? ⟨g9,1,none⟩=some (.func (.func 133) #[] #[.pointer (some ⟨gm,0,none⟩),.pointer (some ⟨gu,0,none⟩)]):=hst.at 1 _ rfl
         clear Dp hst hla hi hcs h18 HL
         go_wp2_with fail
         go_region_held3 (fun w'=>w'.cell? ⟨gf,18,none⟩=some (.slice none 0 0)∧w'.cell? ⟨g9,1,none⟩=some (.func (.func 133) #[] #[.pointer (some ⟨gm,0,none⟩),.pointer (some ⟨gu,0,none⟩)])) (first|exact GG Jc.out d0 y1|go_keep)
          (first
           | (go_at_call 133;refine HC.out.mono ?_;rintro e w4 ⟨rfl,hl4,JB⟩;clear d0 y1;obtain ⟨cs,hcs,h18⟩:=hl4.1.DW;have d0:=hcs.at 18 _ h18;have e0:=hcs.free 18;have l0:=hcs.lt;have p4:AL w4 g9 _ _:=(JB.block HST.out.lt Jc.out).trans HST.out;have y1:w4.cell? ⟨g9,1,none⟩=some (.func (.func 133) #[] #[.pointer (some ⟨gm,0,none⟩),.pointer (some ⟨gu,0,none⟩)]):=p4.at 1 _ rfl;clear hcs h18 p4))
         have Jr:=qh (hl4.set HN.out)
         clear d0 y1 e0 l0 hl4 JB HC Qq HST Jc
         generalize w4.setCell ⟨gf,18,none⟩ (.slice none 0 0)=w5 at *
         go_wp2_with fail
         go_roundw
         case rel=>exact .inr (.inr (.inl ⟨rfl,Jr⟩))
         case measure=>simp [intOf]
     · as_aux_lemma =>
         obtain ⟨cs,hcs,h18⟩:=HL.out.1.DW
         have d0:=hcs.at 18 _ h18
         have u0:wr.cell? ⟨g2,4,none⟩=some (.bool false):=HL.out.2.1.2.2.2.1.at 4 _ rfl
         have u1:wr.cell? ⟨g2,5,none⟩=some (.func (.func 135) #[] #[.pointer (some ⟨gm,0,none⟩),.pointer (some ⟨gu,0,none⟩)]):=HL.out.2.1.2.2.2.1.at 5 _ rfl
         clear hcs h18
         go_upto_region 9 with fail
         have hst:=AL.new wr #[.bool false,.func (.func 135) #[] #[.pointer (some ⟨gm,0,none⟩),.pointer (some ⟨gu,0,none⟩)]] 182
         have hla:=HL.out.new HN.out (.cells #[.bool false,.func (.func 135) #[] #[.pointer (some ⟨gm,0,none⟩),.pointer (some ⟨gu,0,none⟩)]] 182)
         obtain ⟨g9,Dp⟩:∃ q,wr.heap.size=q:=⟨_,rfl⟩
         clear d0 u0 u1
         rw [Dp] at hst ⊢
         have Jc:Hid (g9≠gf):=by have:=HL.out.lt;show _≠_;omega
         generalize wr.alloc (.cells #[.bool false,.func (.func 135) #[] #[.pointer (some ⟨gm,0,none⟩),.pointer (some ⟨gu,0,none⟩)]] 182)=w3 at *
         have HST:=qh hst
         have Qq:=qh hla
         have hi:=HI.out w3 hla.2.2.2
         have HC:=qh (nJ hi.1 hi.2 OK.out hla HN.out)
         obtain ⟨cs,hcs,h18⟩:=hla.1.DW
         have d0:=hcs.at 18 _ h18
         have y1:w3.cell? ⟨g9,1,none⟩=some (.func (.func 135) #[] #[.pointer (some ⟨gm,0,none⟩),.pointer (some ⟨gu,0,none⟩)]):=hst.at 1 _ rfl
         clear Dp hst hla hi hcs h18 HL
         go_wp2_with fail
         go_region_held3 (fun w'=>w'.cell? ⟨gf,18,none⟩=some (.slice none 0 0)∧w'.cell? ⟨g9,1,none⟩=some (.func (.func 135) #[] #[.pointer (some ⟨gm,0,none⟩),.pointer (some ⟨gu,0,none⟩)])) (first|exact GG Jc.out d0 y1|go_keep)
          (first
           | (go_at_call 135;refine HC.out.mono ?_;rintro e w4 ⟨rfl,hl4,JB⟩;clear d0 y1;obtain ⟨cs,hcs,h18⟩:=hl4.1.DW;have d0:=hcs.at 18 _ h18;have e0:=hcs.free 18;have l0:=hcs.lt;have p4:AL w4 g9 _ _:=(JB.block HST.out.lt Jc.out).trans HST.out;have y1:w4.cell? ⟨g9,1,none⟩=some (.func (.func 135) #[] #[.pointer (some ⟨gm,0,none⟩),.pointer (some ⟨gu,0,none⟩)]):=p4.at 1 _ rfl;clear hcs h18 p4))
         have Jr:=qh (hl4.set HN.out)
         clear d0 y1 e0 l0 hl4 JB HC Qq HST Jc
         generalize w4.setCell ⟨gf,18,none⟩ (.slice none 0 0)=w5 at *
         go_wp2_with fail
         go_roundw
         case rel=>exact .inr (.inr (.inr (⟨rfl,Jr⟩)))
         case measure=>simp [intOf]
     · go_wp2_with fail
       go_roundw
       case rel=>exact .inr (.inr (.inl ⟨rfl,HL⟩))
       case measure=>simp [intOf]
  · have t0:wr.cell? ⟨gs,2,none⟩=some (.slice (some ⟨g3,0,none⟩) 2 2):=HL.out.2.1.2.2.2.2.2.at 2 _ rfl
    obtain ⟨cs,hcs,h18⟩:=HL.out.1.DW
    have d0:=hcs.at 18 _ h18
    clear hcs h18
    go_wp2_with fail
    clear t0 d0
    go_loopw [24] (fun vi wx=>(vi=.int .i64 0∧Hid (LS w a fuel gf gr gm gu g1 g2 g3 gs 4 wx))∨(vi=.int .i64 1∧Hid (LS w a fuel gf gr gm gu g1 g2 g3 gs 5 wx))∨(vi=.int .i64 2∧Hid (LS w a fuel gf gr gm gu g1 g2 g3 gs 6 wx))) (fun vi _=>2-(intOf vi).toNat)
    case atStart=>exact .inl ⟨rfl,HL⟩
    case round =>
     rcases hrel with ⟨rfl,HL⟩|⟨rfl,HL⟩|⟨rfl,HL⟩
     · as_aux_lemma =>
         obtain ⟨cs,hcs,h18⟩:=HL.out.1.DW
         have d0:=hcs.at 18 _ h18
         have u0:wr.cell? ⟨g3,0,none⟩=some (.bool true):=HL.out.2.1.2.2.2.2.1.at 0 _ rfl
         have u1:wr.cell? ⟨g3,1,none⟩=some (.func (.func 137) #[] #[]):=HL.out.2.1.2.2.2.2.1.at 1 _ rfl
         clear hcs h18
         go_upto_region 9 with fail
         have hst:=AL.new wr #[.bool true,.func (.func 137) #[] #[]] 182
         have hla:=HL.out.new HN.out (.cells #[.bool true,.func (.func 137) #[] #[]] 182)
         obtain ⟨g9,Dp⟩:∃ q,wr.heap.size=q:=⟨_,rfl⟩
         clear d0 u0 u1
         rw [Dp] at hst ⊢
         have Jc:Hid (g9≠gf):=by have:=HL.out.lt;show _≠_;omega
         generalize wr.alloc (.cells #[.bool true,.func (.func 137) #[] #[]] 182)=w3 at *
         have HST:=qh hst
         have Qq:=qh hla
         have hi:=HI.out w3 hla.2.2.2
         have HC:=qh (nK hi.1 hi.2 OK.out hla HN.out)
         obtain ⟨cs,hcs,h18⟩:=hla.1.DW
         have d0:=hcs.at 18 _ h18
         have y1:w3.cell? ⟨g9,1,none⟩=some (.func (.func 137) #[] #[]):=hst.at 1 _ rfl
         clear Dp hst hla hi hcs h18 HL
         go_wp2_with fail
         go_region_held3 (fun w'=>w'.cell? ⟨gf,18,none⟩=some (.slice none 0 0)∧w'.cell? ⟨g9,1,none⟩=some (.func (.func 137) #[] #[])) (first|exact GG Jc.out d0 y1|go_keep)
          (first
           | (go_at_call 137;refine HC.out.mono ?_;rintro e w4 ⟨rfl,hl4,JB⟩;clear d0 y1;obtain ⟨cs,hcs,h18⟩:=hl4.1.DW;have d0:=hcs.at 18 _ h18;have e0:=hcs.free 18;have l0:=hcs.lt;have p4:AL w4 g9 _ _:=(JB.block HST.out.lt Jc.out).trans HST.out;have y1:w4.cell? ⟨g9,1,none⟩=some (.func (.func 137) #[] #[]):=p4.at 1 _ rfl;clear hcs h18 p4))
         have Jr:=qh (hl4.set HN.out)
         clear d0 y1 e0 l0 hl4 JB HC Qq HST Jc
         generalize w4.setCell ⟨gf,18,none⟩ (.slice none 0 0)=w5 at *
         go_wp2_with fail
         go_roundw
         case rel=>exact .inr (.inl ⟨rfl,Jr⟩)
         case measure=>simp [intOf]
     · as_aux_lemma =>
         obtain ⟨cs,hcs,h18⟩:=HL.out.1.DW
         have d0:=hcs.at 18 _ h18
         have u0:wr.cell? ⟨g3,2,none⟩=some (.bool true):=HL.out.2.1.2.2.2.2.1.at 2 _ rfl
         have u1:wr.cell? ⟨g3,3,none⟩=some (.func (.func 139) #[] #[.pointer (some ⟨gm,0,none⟩)]):=HL.out.2.1.2.2.2.2.1.at 3 _ rfl
         clear hcs h18
         go_upto_region 9 with fail
         have hst:=AL.new wr #[.bool true,.func (.func 139) #[] #[.pointer (some ⟨gm,0,none⟩)]] 182
         have hla:=HL.out.new HN.out (.cells #[.bool true,.func (.func 139) #[] #[.pointer (some ⟨gm,0,none⟩)]] 182)
         obtain ⟨g9,Dp⟩:∃ q,wr.heap.size=q:=⟨_,rfl⟩
         clear d0 u0 u1
         rw [Dp] at hst ⊢
         have Jc:Hid (g9≠gf):=by have:=HL.out.lt;show _≠_;omega
         generalize wr.alloc (.cells #[.bool true,.func (.func 139) #[] #[.pointer (some ⟨gm,0,none⟩)]] 182)=w3 at *
         have HST:=qh hst
         have Qq:=qh hla
         have hi:=HI.out w3 hla.2.2.2
         have HC:=qh (nL hi.1 hi.2 OK.out hla HN.out)
         obtain ⟨cs,hcs,h18⟩:=hla.1.DW
         have d0:=hcs.at 18 _ h18
         have y1:w3.cell? ⟨g9,1,none⟩=some (.func (.func 139) #[] #[.pointer (some ⟨gm,0,none⟩)]):=hst.at 1 _ rfl
         clear Dp hst hla hi hcs h18 HL
         go_wp2_with fail
         go_region_held3 (fun w'=>w'.cell? ⟨gf,18,none⟩=some (.slice none 0 0)∧w'.cell? ⟨g9,1,none⟩=some (.func (.func 139) #[] #[.pointer (some ⟨gm,0,none⟩)])) (first|exact GG Jc.out d0 y1|go_keep)
          (first
           | (go_at_call 139;refine HC.out.mono ?_;rintro e w4 ⟨rfl,hl4,JB⟩;clear d0 y1;obtain ⟨cs,hcs,h18⟩:=hl4.1.DW;have d0:=hcs.at 18 _ h18;have e0:=hcs.free 18;have l0:=hcs.lt;have p4:AL w4 g9 _ _:=(JB.block HST.out.lt Jc.out).trans HST.out;have y1:w4.cell? ⟨g9,1,none⟩=some (.func (.func 139) #[] #[.pointer (some ⟨gm,0,none⟩)]):=p4.at 1 _ rfl;clear hcs h18 p4))
         have Jr:=qh (hl4.set HN.out)
         clear d0 y1 e0 l0 hl4 JB HC Qq HST Jc
         generalize w4.setCell ⟨gf,18,none⟩ (.slice none 0 0)=w5 at *
         go_wp2_with fail
         go_roundw
         case rel=>exact .inr (.inr (⟨rfl,Jr⟩))
         case measure=>simp [intOf]
     · go_wp2_with fail
       go_roundw
       case rel=>exact .inr (.inr (.inr ⟨rfl,HL⟩))
       case measure=>simp [intOf]
  · as_aux_lemma =>
      obtain ⟨A4,c4,hb,ho⟩:=HL.out.1
      have HY:Hid (AL wr gf #[.int .i64 0,.int .i64 0,.int .i64 1,.int .i64 0,.int .i64 8,.int .i64 1,.int .i64 2,.int .i64 3,.int .i64 4,.int .i64 7,.int .i64 5,.int .i64 0,.int .i64 0,.int .i64 1,.int .i64 0,.slice none 0 0,.slice none 0 0,.slice A4 8 c4,.slice none 0 0] 102):=hb
      have HZ:Hid (AL wr gr #[.int .i64 0,.int .i64 0,.int .i64 0,.int .i64 0,.int .i64 0,.int .i64 0,.int .i64 0,.int .i64 0,.int .i64 0,.int .i64 0,.int .i64 0,.int .i64 0,.int .i64 0,.int .i64 0,.int .i64 0,.slice none 0 0,.slice none 0 0,.slice none 0 0,.slice none 0 0] 102):=HL.out.2.2.1
      have IL:=qh HL.out.2.2.2
      clear hb ho HL
      go_wp2_with (first
       | (refine wpList_store_row rfl 102 _ _ rfl gr #[.int .i64 0,.int .i64 0,.int .i64 1,.int .i64 0,.int .i64 8,.int .i64 1,.int .i64 2,.int .i64 3,.int .i64 4,.int .i64 7,.int .i64 5,.int .i64 0,.int .i64 0,.int .i64 1,.int .i64 0,.slice none 0 0,.slice none 0 0,.slice A4 8 c4,.slice none 0 0] rfl rfl 102 _ HZ.out (by kernel_rfl) rfl (by simp [Value.oneCell']) ?_)
       | (refine wpList_load_row rfl 102 _ rfl gf rfl 102 #[.int .i64 0,.int .i64 0,.int .i64 1,.int .i64 0,.int .i64 8,.int .i64 1,.int .i64 2,.int .i64 3,.int .i64 4,.int .i64 7,.int .i64 5,.int .i64 0,.int .i64 0,.int .i64 1,.int .i64 0,.slice none 0 0,.slice none 0 0,.slice A4 8 c4,.slice none 0 0] (0,0) _ HY.out Tryz.underlying102 rfl (by kernel_rfl) ?_))
      exact bodyPost_ret (Qi Tryz.results42 rfl (setRow_heap _ gr _ #[.int .i64 0,.int .i64 0,.int .i64 1,.int .i64 0,.int .i64 8,.int .i64 1,.int .i64 2,.int .i64 3,.int .i64 4,.int .i64 7,.int .i64 5,.int .i64 0,.int .i64 0,.int .i64 1,.int .i64 0,.slice none 0 0,.slice none 0 0,.slice A4 8 c4,.slice none 0 0] 102 _ HZ.out) Tryz.underlying102 (by kernel_rfl)) rfl ⟨⟨_,_,rfl⟩,below_setRow IL.out HN.out.2.2.1 _⟩
end
end
end Go.Proofs.YthblbddmcdnllaaGreatDoor
