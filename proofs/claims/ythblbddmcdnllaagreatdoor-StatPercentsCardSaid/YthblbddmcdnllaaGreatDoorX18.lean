/- A part of the proof: WSeal4. -/
import Derived.Test.YthblbddmcdnllaaGreatDoorY1
import Derived.Test.YthblbddmcdnllaaGreatDoorX17
import Derived.Test.YthblbddmcdnllaaGreatDoorX12
set_option maxHeartbeats 6400000
set_option linter.unusedVariables false
set_option linter.unusedSimpArgs false
namespace Go.Proofs.YthblbddmcdnllaaGreatDoor
section
open Go.RowKit
attribute [local go_sem] Oper.semAt_some
theorem GX {P:Program} {w:World} {a:Addr} {m:Mode} (f) (x) (y):(store a (.func f x y) m).run P w=stored P w a (.func f x y) m:=run_store P w a _ m rfl
attribute [local go_sem] GX
def Aq (l:List UInt8) (kind no:Int):Nat→Bool
 | 0 => !decide (EU kind no)
 | 1=>decide (l.length≠256)
 | 2=>decide (AC l 252 4≠Fz l kind)
 | 3=>decide ((AC l 0 4:Int)≠no)
 | 4=>decide ((AC l 4 2:Int)≠kind)
 | _=>decide (AC l 6 2≠0)
def rC:Nat→Int
 | 0=>1
 | 1=>7
 | 2=>4
 | 3=>5
 | 4=>6
 | _=>7
theorem Pz (l:List UInt8) (kind no:Int):DD l kind no=if Aq l kind no 0=true then 1 else if Aq l kind no 1=true then 7 else if Aq l kind no 2=true then 4 else if Aq l kind no 3=true then 5 else if Aq l kind no 4=true then 6 else if Aq l kind no 5=true then 7 else 0:=by
 unfold DD Aq
 simp only [Bool.not_eq_true',decide_eq_false_iff_not,decide_eq_true_eq]
theorem F6 {l:List UInt8} {kind no:Int} {k:Nat} (hk:k<6) (h:∀ j,j<k→Aq l kind no j=false) (hw:Aq l kind no k=true):DD l kind no=rC k:=by
 rw [Pz]
 have:k=0∨k=1∨k=2∨k=3∨k=4∨k=5:=by omega
 rcases this with rfl|rfl|rfl|rfl|rfl|rfl
 · rw [if_pos hw];rfl
 · rw [h 0 (by omega),if_neg (by simp),if_pos hw];rfl
 · rw [h 0 (by omega),h 1 (by omega),if_neg (by simp),if_neg (by simp),if_pos hw];rfl
 · rw [h 0 (by omega),h 1 (by omega),h 2 (by omega),if_neg (by simp),if_neg (by simp),if_neg (by simp),if_pos hw];rfl
 · rw [h 0 (by omega),h 1 (by omega),h 2 (by omega),h 3 (by omega),if_neg (by simp),if_neg (by simp),if_neg (by simp),if_neg (by simp),if_pos hw];rfl
 · rw [h 0 (by omega),h 1 (by omega),h 2 (by omega),h 3 (by omega),h 4 (by omega),if_neg (by simp),if_neg (by simp),if_neg (by simp),if_neg (by simp),if_neg (by simp),if_pos hw];rfl
theorem Re {l:List UInt8} {kind no:Int} (h:∀ j,j<6→Aq l kind no j=false):DD l kind no=0:=by
 rw [Pz,h 0 (by omega),h 1 (by omega),h 2 (by omega),h 3 (by omega),h 4 (by omega),h 5 (by omega)]
 simp
theorem TQ (w:World) (o0 o1 o2 o3:Obj):((((w.alloc o0).alloc o1).alloc o2).alloc o3).heap[w.heap.size]? = some o0∧((((w.alloc o0).alloc o1).alloc o2).alloc o3).heap[w.heap.size+1]? = some o1∧((((w.alloc o0).alloc o1).alloc o2).alloc o3).heap[w.heap.size+1+1]? = some o2 ∧
 ((((w.alloc o0).alloc o1).alloc o2).alloc o3).heap[w.heap.size+1+1+1]? = some o3∧((((w.alloc o0).alloc o1).alloc o2).alloc o3).heap.size=w.heap.size+1+1+1+1∧Below w.heap.size w ((((w.alloc o0).alloc o1).alloc o2).alloc o3):=by
 have s1:(w.alloc o0).heap.size=w.heap.size+1:=World.size_alloc _ _
 have s2:((w.alloc o0).alloc o1).heap.size=w.heap.size+1+1:=by rw [World.size_alloc,s1]
 have s3:(((w.alloc o0).alloc o1).alloc o2).heap.size=w.heap.size+1+1+1:=by rw [World.size_alloc,s2]
 have s4:((((w.alloc o0).alloc o1).alloc o2).alloc o3).heap.size=w.heap.size+1+1+1+1:=by rw [World.size_alloc,s3]
 have a0:=heap_alloc_new w o0
 have a1:=heap_alloc_new (w.alloc o0) o1
 have a2:=heap_alloc_new ((w.alloc o0).alloc o1) o2
 have a3:=heap_alloc_new (((w.alloc o0).alloc o1).alloc o2) o3
 rw [s1] at a1
 rw [s2] at a2
 rw [s3] at a3
 refine ⟨?_,?_,?_,a3,s4,((((Below.refl _ _).alloc (Nat.le_refl _) _).alloc (by omega) _).alloc (by omega) _).alloc (by omega) _⟩
 · exact (Below.heap_alloc _ _ _ (by omega)).trans ((Below.heap_alloc _ _ _ (by omega)).trans ((Below.heap_alloc _ _ _ (by omega)).trans a0))
 · exact (Below.heap_alloc _ _ _ (by omega)).trans ((Below.heap_alloc _ _ _ (by omega)).trans a1)
 · exact (Below.heap_alloc _ _ _ (by omega)).trans a2
theorem Wd {w:World} {b:Nat} {v:Value} {t:TypeId} (h:w.heap[b]? = some (.cells #[v] t (0,0))):Bx w b v:=⟨(cell_of_row _ _ 0 _ _ (0,0) h).trans rfl,(Array.getElem?_eq_some_iff.1 h).1⟩
theorem cz {w:World} {S:Nat→Prop} {g off c k n:Nat} {bs:List UInt8} (h:De w S (some ⟨g,off,none⟩) bs) (hc:bs.length≤c) (hn:0<n) (hk:k+n≤bs.length):De w S (some ⟨g,off+k,none⟩) (BF bs k n):=by
 have h0:=h.drop (k:=k) (by omega) hc
 rw [if_neg (by omega)] at h0
 have h1:De w S _ ((bs.drop k).take n):=Bw.take h0 n
 have e:Option.map (fun x:Addr=>x.add (k*1)) (some ⟨g,off,none⟩)=some ⟨g,off+k,none⟩:=by
  simp only [Option.map_some,add_lit,Nat.mul_one]
 rw [e] at h1
 exact h1
theorem Le {l:List UInt8} {kind no:Int} {k:Nat} (hk:2≤k) (h:∀ j,j<k→Aq l kind no j=false):l.length=256:=by
 have:=h 1 (by omega)
 unfold Aq at this
 simpa using this
def CG (w:World) (E:Int) (l:List UInt8) (v':Value) (w':World):Prop:=if E=0 then AU w' (Fu w.heap.size w'.heap.size) v' (FT l) else v'=.slice none 0 0
theorem CG.none_ {w w':World} {E:Int} {l:List UInt8} (h:E≠0):CG w E l (.slice none 0 0) w':=by unfold CG;rw [if_neg h]
set_option maxRecDepth 100000 in
theorem GY (w:World) (S:Nat→Prop) (v:Value) (l:List UInt8) (kind no:Int) (hS:∀ b,S b→b<w.heap.size) (h:AU w S v l) (hl:l.length≤140737488355328) :
 Calls Tryz.prog 87 #[v,.int .i64 kind,.int .i64 no] w fun e w'=>(∃ v',e=.returned (.tuple #[v',.int .i64 (DD l kind no)])∧CG w (DD l kind no) l v' w')∧Below w.heap.size w w':=by
 have h0:=h
 obtain ⟨A,c,rfl,hc,hr⟩:=h
 obtain ⟨E,hE⟩:∃ E,DD l kind no=E:=⟨_,rfl⟩
 rw [hE]
 have HE:=qh hE
 clear hE
 go_enter Tryz.func87,Tryz.ntmps87
 go_upto_region 2 with fail
 obtain ⟨wB,Z7⟩:∃ wB,(((w.alloc (.cells #[.slice A l.length c] 82)).alloc (.cells #[.int .i64 kind] 3)).alloc (.cells #[.int .i64 no] 3)).alloc (.cells #[.func (.func 142) #[] #[.pointer (some ⟨w.heap.size+1,0,none⟩),.pointer (some ⟨w.heap.size+1+1,0,none⟩)],.int .i64 1,.func (.func 143) #[] #[.pointer (some ⟨w.heap.size,0,none⟩)],.int .i64 7,.func (.func 144) #[] #[.pointer (some ⟨w.heap.size,0,none⟩),.pointer (some ⟨w.heap.size+1,0,none⟩)],.int .i64 4,.func (.func 146) #[] #[.pointer (some ⟨w.heap.size,0,none⟩),.pointer (some ⟨w.heap.size+1+1,0,none⟩)],.int .i64 5,.func (.func 147) #[] #[.pointer (some ⟨w.heap.size,0,none⟩),.pointer (some ⟨w.heap.size+1,0,none⟩)],.int .i64 6,.func (.func 148) #[] #[.pointer (some ⟨w.heap.size,0,none⟩)],.int .i64 7] 231)=wB:=⟨_,rfl⟩
 have hal:=TQ w (.cells #[.slice A l.length c] 82) (.cells #[.int .i64 kind] 3) (.cells #[.int .i64 no] 3) (.cells #[.func (.func 142) #[] #[.pointer (some ⟨w.heap.size+1,0,none⟩),.pointer (some ⟨w.heap.size+1+1,0,none⟩)],.int .i64 1,.func (.func 143) #[] #[.pointer (some ⟨w.heap.size,0,none⟩)],.int .i64 7,.func (.func 144) #[] #[.pointer (some ⟨w.heap.size,0,none⟩),.pointer (some ⟨w.heap.size+1,0,none⟩)],.int .i64 4,.func (.func 146) #[] #[.pointer (some ⟨w.heap.size,0,none⟩),.pointer (some ⟨w.heap.size+1+1,0,none⟩)],.int .i64 5,.func (.func 147) #[] #[.pointer (some ⟨w.heap.size,0,none⟩),.pointer (some ⟨w.heap.size+1,0,none⟩)],.int .i64 6,.func (.func 148) #[] #[.pointer (some ⟨w.heap.size,0,none⟩)],.int .i64 7] 231)
 rw [Z7] at hal ⊢
 clear Z7
 obtain ⟨x0,x1,x2,x3,AAC,hB0⟩:=hal
 have hx0:=Wd x0
 have hx1:=Wd x1
 have hx2:=Wd x2
 have HF:Hid (∀ w',Below wB.heap.size wB w'→∀ i (hi:i<12),w'.cell? ⟨w.heap.size+1+1+1,i,none⟩=(#[.func (.func 142) #[] #[.pointer (some ⟨w.heap.size+1,0,none⟩),.pointer (some ⟨w.heap.size+1+1,0,none⟩)],.int .i64 1,.func (.func 143) #[] #[.pointer (some ⟨w.heap.size,0,none⟩)],.int .i64 7,.func (.func 144) #[] #[.pointer (some ⟨w.heap.size,0,none⟩),.pointer (some ⟨w.heap.size+1,0,none⟩)],.int .i64 4,.func (.func 146) #[] #[.pointer (some ⟨w.heap.size,0,none⟩),.pointer (some ⟨w.heap.size+1+1,0,none⟩)],.int .i64 5,.func (.func 147) #[] #[.pointer (some ⟨w.heap.size,0,none⟩),.pointer (some ⟨w.heap.size+1,0,none⟩)],.int .i64 6,.func (.func 148) #[] #[.pointer (some ⟨w.heap.size,0,none⟩)],.int .i64 7]:Array Value)[i]?):=fun w' hB i hi=>cell_of_row _ _ i _ _ (0,0) ((hB.block _ (by omega)).trans x3)
 have HX:Hid (∀ w',Below wB.heap.size wB w'→Bx w' w.heap.size (.slice A l.length c)∧Bx w' (w.heap.size+1) (.int .i64 kind)∧Bx w' (w.heap.size+1+1) (.int .i64 no)):=fun w' hB=>⟨hx0.below hB (by omega),hx1.below hB (by omega),hx2.below hB (by omega)⟩
 have HI:Hid (∀ w',Below wB.heap.size wB w'→AU w' S (.slice A l.length c) l):=fun w' hB=>h0.keep (AB _) (fun _ h=>h) (AR (hB0.trans (hB.mono (by omega))) hS)
 have hSr:∀ w',Below wB.heap.size wB w'→∀ b,S b→b<w'.heap.size:=fun w' hB b hb=>by have:=hS b hb;have:=hB.size;omega
 have Ui:=qh hSr
 clear x0 x1 x2 x3 hx0 hx1 hx2 h0 hr hSr
 go_wp2_with fail
 go_loopw [26] (fun vi wr=>∃ k:Nat,k≤6∧vi=.int .i64 k∧Below wB.heap.size wB wr∧Hid (∀ j,j<k→Aq l kind no j=false)) (fun vi _=>6-(intOf vi).toNat)
 case atStart=>exact ⟨0,by omega,rfl,Below.refl _ _,fun j hj=>by omega⟩
 case round =>
  obtain ⟨k,hk,rfl,hB,HJ⟩:=hrel
  have hz:=hB.size
  rcases (by omega:k=0∨k=1∨k=2∨k=3∨k=4∨k=5∨k=6) with rfl|rfl|rfl|rfl|rfl|rfl|rfl
  · as_aux_lemma =>
    have f0:wr.cell? ⟨w.heap.size+1+1+1,0,none⟩=some (.func (.func 142) #[] #[.pointer (some ⟨w.heap.size+1,0,none⟩),.pointer (some ⟨w.heap.size+1+1,0,none⟩)]):=(HF.out wr hB 0 (by omega)).trans rfl
    have f1:wr.cell? ⟨w.heap.size+1+1+1,1,none⟩=some (.int .i64 1):=(HF.out wr hB 1 (by omega)).trans rfl
    go_upto_region 5 with fail
    obtain ⟨wa,Ij⟩:∃ wa,wr.alloc (.cells #[.func (.func 142) #[] #[.pointer (some ⟨w.heap.size+1,0,none⟩),.pointer (some ⟨w.heap.size+1+1,0,none⟩)],.int .i64 1] 231)=wa:=⟨_,rfl⟩
    have Ql:Below wr.heap.size wr wa:=by rw [← Ij];exact (Below.refl _ _).alloc (Nat.le_refl _) _
    have hbx:wa.heap[wr.heap.size]? = some (.cells #[.func (.func 142) #[] #[.pointer (some ⟨w.heap.size+1,0,none⟩),.pointer (some ⟨w.heap.size+1+1,0,none⟩)],.int .i64 1] 231 (0,0)):=by rw [← Ij];exact heap_alloc_new wr _
    rw [Ij]
    clear Ij f0 f1
    have hBa:=hB.trans (Ql.mono hz)
    have hbl:wr.heap.size<wa.heap.size:=(Array.getElem?_eq_some_iff.1 hbx).1
    have g0:wa.cell? ⟨wr.heap.size,0,none⟩=some (.func (.func 142) #[] #[.pointer (some ⟨w.heap.size+1,0,none⟩),.pointer (some ⟨w.heap.size+1+1,0,none⟩)]):=(cell_of_row _ _ 0 _ _ (0,0) hbx).trans rfl
    have Ns:Hid (∀ w',Below wa.heap.size wa w'→w'.cell? ⟨wr.heap.size,1,none⟩=some (.int .i64 1)):=fun w' hB'=>(cell_of_row _ _ 1 _ _ (0,0) ((hB'.block _ hbl).trans hbx)).trans rfl
    have hx:=HX.out wa hBa
    have Cs:Calls Tryz.prog 142 #[.pointer (some ⟨w.heap.size+1,0,none⟩),.pointer (some ⟨w.heap.size+1+1,0,none⟩)] wa fun e w'=>e=.returned (.bool (Aq l kind no 0))∧Below wa.heap.size wa w':=qw wa _ _ kind no hx.2.1 hx.2.2
    have MO:Hid (Aq l kind no 0=false→∀ j,j<1→Aq l kind no j=false):=fun hw j hj=>by
     by_cases hjk:j<0
     · exact HJ.out j hjk
     · obtain rfl:j=0:=by omega
       exact hw
    have We:Hid (Aq l kind no 0=true→E=1):=fun hw=>HE.out.symm.trans (F6 (k:=0) (by omega) HJ.out hw)
    clear hx hbx
    cases hw:Aq l kind no 0 with
    | true =>
     rw [hw] at Cs
     have HA:=qh Cs
     have P5:=qh (We.out hw)
     clear Cs hw
     go_wp2_with (go_at_call 142;refine HA.out.mono ?_;rintro e w5 ⟨rfl,BX⟩;have g1:=Ns.out w5 BX;have hk5:=hBa.trans (BX.mono hBa.size))
     all_goals (try (go_quiet (fail)))
     all_goals (try go_wp2)
     go_ret2
     rw [P5.out]
     exact ⟨⟨_,rfl,CG.none_ (by decide)⟩,hB0.trans (Below.mono (by first|exact hk5|exact AV hk5 _) (by omega))⟩
    | false =>
     rw [hw] at Cs
     have HA:=qh Cs
     have Wh:=qh (MO.out hw)
     clear Cs hw
     go_wp2_with (go_at_call 142;refine HA.out.mono ?_;rintro e w5 ⟨rfl,BX⟩;have hk5:=hBa.trans (BX.mono hBa.size))
     go_roundw
     case rel=>exact ⟨1,by omega,rfl,hk5,Wh.out⟩
     case measure=>simp [intOf]
  · as_aux_lemma =>
    have f0:wr.cell? ⟨w.heap.size+1+1+1,2,none⟩=some (.func (.func 143) #[] #[.pointer (some ⟨w.heap.size,0,none⟩)]):=(HF.out wr hB 2 (by omega)).trans rfl
    have f1:wr.cell? ⟨w.heap.size+1+1+1,3,none⟩=some (.int .i64 7):=(HF.out wr hB 3 (by omega)).trans rfl
    go_upto_region 5 with fail
    obtain ⟨wa,Ij⟩:∃ wa,wr.alloc (.cells #[.func (.func 143) #[] #[.pointer (some ⟨w.heap.size,0,none⟩)],.int .i64 7] 231)=wa:=⟨_,rfl⟩
    have Ql:Below wr.heap.size wr wa:=by rw [← Ij];exact (Below.refl _ _).alloc (Nat.le_refl _) _
    have hbx:wa.heap[wr.heap.size]? = some (.cells #[.func (.func 143) #[] #[.pointer (some ⟨w.heap.size,0,none⟩)],.int .i64 7] 231 (0,0)):=by rw [← Ij];exact heap_alloc_new wr _
    rw [Ij]
    clear Ij f0 f1
    have hBa:=hB.trans (Ql.mono hz)
    have hbl:wr.heap.size<wa.heap.size:=(Array.getElem?_eq_some_iff.1 hbx).1
    have g0:wa.cell? ⟨wr.heap.size,0,none⟩=some (.func (.func 143) #[] #[.pointer (some ⟨w.heap.size,0,none⟩)]):=(cell_of_row _ _ 0 _ _ (0,0) hbx).trans rfl
    have Ns:Hid (∀ w',Below wa.heap.size wa w'→w'.cell? ⟨wr.heap.size,1,none⟩=some (.int .i64 7)):=fun w' hB'=>(cell_of_row _ _ 1 _ _ (0,0) ((hB'.block _ hbl).trans hbx)).trans rfl
    have hx:=HX.out wa hBa
    have Cs:Calls Tryz.prog 143 #[.pointer (some ⟨w.heap.size,0,none⟩)] wa fun e w'=>e=.returned (.bool (Aq l kind no 1))∧Below wa.heap.size wa w':=qx wa _ l.length c A hx.1
    have MO:Hid (Aq l kind no 1=false→∀ j,j<2→Aq l kind no j=false):=fun hw j hj=>by
     by_cases hjk:j<1
     · exact HJ.out j hjk
     · obtain rfl:j=1:=by omega
       exact hw
    have We:Hid (Aq l kind no 1=true→E=7):=fun hw=>HE.out.symm.trans (F6 (k:=1) (by omega) HJ.out hw)
    clear hx hbx
    cases hw:Aq l kind no 1 with
    | true =>
     rw [hw] at Cs
     have HA:=qh Cs
     have P5:=qh (We.out hw)
     clear Cs hw
     go_wp2_with (go_at_call 143;refine HA.out.mono ?_;rintro e w5 ⟨rfl,BX⟩;have g1:=Ns.out w5 BX;have hk5:=hBa.trans (BX.mono hBa.size))
     all_goals (try (go_quiet (fail)))
     all_goals (try go_wp2)
     go_ret2
     rw [P5.out]
     exact ⟨⟨_,rfl,CG.none_ (by decide)⟩,hB0.trans (Below.mono (by first|exact hk5|exact AV hk5 _) (by omega))⟩
    | false =>
     rw [hw] at Cs
     have HA:=qh Cs
     have Wh:=qh (MO.out hw)
     clear Cs hw
     go_wp2_with (go_at_call 143;refine HA.out.mono ?_;rintro e w5 ⟨rfl,BX⟩;have hk5:=hBa.trans (BX.mono hBa.size))
     go_roundw
     case rel=>exact ⟨2,by omega,rfl,hk5,Wh.out⟩
     case measure=>simp [intOf]
  · as_aux_lemma =>
    have f0:wr.cell? ⟨w.heap.size+1+1+1,4,none⟩=some (.func (.func 144) #[] #[.pointer (some ⟨w.heap.size,0,none⟩),.pointer (some ⟨w.heap.size+1,0,none⟩)]):=(HF.out wr hB 4 (by omega)).trans rfl
    have f1:wr.cell? ⟨w.heap.size+1+1+1,5,none⟩=some (.int .i64 4):=(HF.out wr hB 5 (by omega)).trans rfl
    go_upto_region 5 with fail
    obtain ⟨wa,Ij⟩:∃ wa,wr.alloc (.cells #[.func (.func 144) #[] #[.pointer (some ⟨w.heap.size,0,none⟩),.pointer (some ⟨w.heap.size+1,0,none⟩)],.int .i64 4] 231)=wa:=⟨_,rfl⟩
    have Ql:Below wr.heap.size wr wa:=by rw [← Ij];exact (Below.refl _ _).alloc (Nat.le_refl _) _
    have hbx:wa.heap[wr.heap.size]? = some (.cells #[.func (.func 144) #[] #[.pointer (some ⟨w.heap.size,0,none⟩),.pointer (some ⟨w.heap.size+1,0,none⟩)],.int .i64 4] 231 (0,0)):=by rw [← Ij];exact heap_alloc_new wr _
    rw [Ij]
    clear Ij f0 f1
    have hBa:=hB.trans (Ql.mono hz)
    have hbl:wr.heap.size<wa.heap.size:=(Array.getElem?_eq_some_iff.1 hbx).1
    have g0:wa.cell? ⟨wr.heap.size,0,none⟩=some (.func (.func 144) #[] #[.pointer (some ⟨w.heap.size,0,none⟩),.pointer (some ⟨w.heap.size+1,0,none⟩)]):=(cell_of_row _ _ 0 _ _ (0,0) hbx).trans rfl
    have Ns:Hid (∀ w',Below wa.heap.size wa w'→w'.cell? ⟨wr.heap.size,1,none⟩=some (.int .i64 4)):=fun w' hB'=>(cell_of_row _ _ 1 _ _ (0,0) ((hB'.block _ hbl).trans hbx)).trans rfl
    have hx:=HX.out wa hBa
    have hlen:=Le (k:=2) (by omega) HJ.out
    have hi:=HI.out wa hBa
    rw [hlen] at hx hi
    have Cs:Calls Tryz.prog 144 #[.pointer (some ⟨w.heap.size,0,none⟩),.pointer (some ⟨w.heap.size+1,0,none⟩)] wa fun e w'=>e=.returned (.bool (Aq l kind no 2))∧Below wa.heap.size wa w':=qz wa S _ _ c A l kind (Ui.out wa hBa) hi hlen hx.1 hx.2.1
    clear hlen hi
    have MO:Hid (Aq l kind no 2=false→∀ j,j<3→Aq l kind no j=false):=fun hw j hj=>by
     by_cases hjk:j<2
     · exact HJ.out j hjk
     · obtain rfl:j=2:=by omega
       exact hw
    have We:Hid (Aq l kind no 2=true→E=4):=fun hw=>HE.out.symm.trans (F6 (k:=2) (by omega) HJ.out hw)
    clear hx hbx
    cases hw:Aq l kind no 2 with
    | true =>
     rw [hw] at Cs
     have HA:=qh Cs
     have P5:=qh (We.out hw)
     clear Cs hw
     go_wp2_with (go_at_call 144;refine HA.out.mono ?_;rintro e w5 ⟨rfl,BX⟩;have g1:=Ns.out w5 BX;have hk5:=hBa.trans (BX.mono hBa.size))
     all_goals (try (go_quiet (fail)))
     all_goals (try go_wp2)
     go_ret2
     rw [P5.out]
     exact ⟨⟨_,rfl,CG.none_ (by decide)⟩,hB0.trans (Below.mono (by first|exact hk5|exact AV hk5 _) (by omega))⟩
    | false =>
     rw [hw] at Cs
     have HA:=qh Cs
     have Wh:=qh (MO.out hw)
     clear Cs hw
     go_wp2_with (go_at_call 144;refine HA.out.mono ?_;rintro e w5 ⟨rfl,BX⟩;have hk5:=hBa.trans (BX.mono hBa.size))
     go_roundw
     case rel=>exact ⟨3,by omega,rfl,hk5,Wh.out⟩
     case measure=>simp [intOf]
  · as_aux_lemma =>
    have f0:wr.cell? ⟨w.heap.size+1+1+1,6,none⟩=some (.func (.func 146) #[] #[.pointer (some ⟨w.heap.size,0,none⟩),.pointer (some ⟨w.heap.size+1+1,0,none⟩)]):=(HF.out wr hB 6 (by omega)).trans rfl
    have f1:wr.cell? ⟨w.heap.size+1+1+1,7,none⟩=some (.int .i64 5):=(HF.out wr hB 7 (by omega)).trans rfl
    go_upto_region 5 with fail
    obtain ⟨wa,Ij⟩:∃ wa,wr.alloc (.cells #[.func (.func 146) #[] #[.pointer (some ⟨w.heap.size,0,none⟩),.pointer (some ⟨w.heap.size+1+1,0,none⟩)],.int .i64 5] 231)=wa:=⟨_,rfl⟩
    have Ql:Below wr.heap.size wr wa:=by rw [← Ij];exact (Below.refl _ _).alloc (Nat.le_refl _) _
    have hbx:wa.heap[wr.heap.size]? = some (.cells #[.func (.func 146) #[] #[.pointer (some ⟨w.heap.size,0,none⟩),.pointer (some ⟨w.heap.size+1+1,0,none⟩)],.int .i64 5] 231 (0,0)):=by rw [← Ij];exact heap_alloc_new wr _
    rw [Ij]
    clear Ij f0 f1
    have hBa:=hB.trans (Ql.mono hz)
    have hbl:wr.heap.size<wa.heap.size:=(Array.getElem?_eq_some_iff.1 hbx).1
    have g0:wa.cell? ⟨wr.heap.size,0,none⟩=some (.func (.func 146) #[] #[.pointer (some ⟨w.heap.size,0,none⟩),.pointer (some ⟨w.heap.size+1+1,0,none⟩)]):=(cell_of_row _ _ 0 _ _ (0,0) hbx).trans rfl
    have Ns:Hid (∀ w',Below wa.heap.size wa w'→w'.cell? ⟨wr.heap.size,1,none⟩=some (.int .i64 5)):=fun w' hB'=>(cell_of_row _ _ 1 _ _ (0,0) ((hB'.block _ hbl).trans hbx)).trans rfl
    have hx:=HX.out wa hBa
    have hlen:=Le (k:=3) (by omega) HJ.out
    have hi:=HI.out wa hBa
    rw [hlen] at hx hi
    have Cs:Calls Tryz.prog 146 #[.pointer (some ⟨w.heap.size,0,none⟩),.pointer (some ⟨w.heap.size+1+1,0,none⟩)] wa fun e w'=>e=.returned (.bool (Aq l kind no 3))∧Below wa.heap.size wa w':=q8 wa S _ _ c A l no (Ui.out wa hBa) hi hlen hx.1 hx.2.2
    clear hlen hi
    have MO:Hid (Aq l kind no 3=false→∀ j,j<4→Aq l kind no j=false):=fun hw j hj=>by
     by_cases hjk:j<3
     · exact HJ.out j hjk
     · obtain rfl:j=3:=by omega
       exact hw
    have We:Hid (Aq l kind no 3=true→E=5):=fun hw=>HE.out.symm.trans (F6 (k:=3) (by omega) HJ.out hw)
    clear hx hbx
    cases hw:Aq l kind no 3 with
    | true =>
     rw [hw] at Cs
     have HA:=qh Cs
     have P5:=qh (We.out hw)
     clear Cs hw
     go_wp2_with (go_at_call 146;refine HA.out.mono ?_;rintro e w5 ⟨rfl,BX⟩;have g1:=Ns.out w5 BX;have hk5:=hBa.trans (BX.mono hBa.size))
     all_goals (try (go_quiet (fail)))
     all_goals (try go_wp2)
     go_ret2
     rw [P5.out]
     exact ⟨⟨_,rfl,CG.none_ (by decide)⟩,hB0.trans (Below.mono (by first|exact hk5|exact AV hk5 _) (by omega))⟩
    | false =>
     rw [hw] at Cs
     have HA:=qh Cs
     have Wh:=qh (MO.out hw)
     clear Cs hw
     go_wp2_with (go_at_call 146;refine HA.out.mono ?_;rintro e w5 ⟨rfl,BX⟩;have hk5:=hBa.trans (BX.mono hBa.size))
     go_roundw
     case rel=>exact ⟨4,by omega,rfl,hk5,Wh.out⟩
     case measure=>simp [intOf]
  · as_aux_lemma =>
    have f0:wr.cell? ⟨w.heap.size+1+1+1,8,none⟩=some (.func (.func 147) #[] #[.pointer (some ⟨w.heap.size,0,none⟩),.pointer (some ⟨w.heap.size+1,0,none⟩)]):=(HF.out wr hB 8 (by omega)).trans rfl
    have f1:wr.cell? ⟨w.heap.size+1+1+1,9,none⟩=some (.int .i64 6):=(HF.out wr hB 9 (by omega)).trans rfl
    go_upto_region 5 with fail
    obtain ⟨wa,Ij⟩:∃ wa,wr.alloc (.cells #[.func (.func 147) #[] #[.pointer (some ⟨w.heap.size,0,none⟩),.pointer (some ⟨w.heap.size+1,0,none⟩)],.int .i64 6] 231)=wa:=⟨_,rfl⟩
    have Ql:Below wr.heap.size wr wa:=by rw [← Ij];exact (Below.refl _ _).alloc (Nat.le_refl _) _
    have hbx:wa.heap[wr.heap.size]? = some (.cells #[.func (.func 147) #[] #[.pointer (some ⟨w.heap.size,0,none⟩),.pointer (some ⟨w.heap.size+1,0,none⟩)],.int .i64 6] 231 (0,0)):=by rw [← Ij];exact heap_alloc_new wr _
    rw [Ij]
    clear Ij f0 f1
    have hBa:=hB.trans (Ql.mono hz)
    have hbl:wr.heap.size<wa.heap.size:=(Array.getElem?_eq_some_iff.1 hbx).1
    have g0:wa.cell? ⟨wr.heap.size,0,none⟩=some (.func (.func 147) #[] #[.pointer (some ⟨w.heap.size,0,none⟩),.pointer (some ⟨w.heap.size+1,0,none⟩)]):=(cell_of_row _ _ 0 _ _ (0,0) hbx).trans rfl
    have Ns:Hid (∀ w',Below wa.heap.size wa w'→w'.cell? ⟨wr.heap.size,1,none⟩=some (.int .i64 6)):=fun w' hB'=>(cell_of_row _ _ 1 _ _ (0,0) ((hB'.block _ hbl).trans hbx)).trans rfl
    have hx:=HX.out wa hBa
    have hlen:=Le (k:=4) (by omega) HJ.out
    have hi:=HI.out wa hBa
    rw [hlen] at hx hi
    have Cs:Calls Tryz.prog 147 #[.pointer (some ⟨w.heap.size,0,none⟩),.pointer (some ⟨w.heap.size+1,0,none⟩)] wa fun e w'=>e=.returned (.bool (Aq l kind no 4))∧Below wa.heap.size wa w':=rA wa S _ _ c A l kind (Ui.out wa hBa) hi hlen hx.1 hx.2.1
    clear hlen hi
    have MO:Hid (Aq l kind no 4=false→∀ j,j<5→Aq l kind no j=false):=fun hw j hj=>by
     by_cases hjk:j<4
     · exact HJ.out j hjk
     · obtain rfl:j=4:=by omega
       exact hw
    have We:Hid (Aq l kind no 4=true→E=6):=fun hw=>HE.out.symm.trans (F6 (k:=4) (by omega) HJ.out hw)
    clear hx hbx
    cases hw:Aq l kind no 4 with
    | true =>
     rw [hw] at Cs
     have HA:=qh Cs
     have P5:=qh (We.out hw)
     clear Cs hw
     go_wp2_with (go_at_call 147;refine HA.out.mono ?_;rintro e w5 ⟨rfl,BX⟩;have g1:=Ns.out w5 BX;have hk5:=hBa.trans (BX.mono hBa.size))
     all_goals (try (go_quiet (fail)))
     all_goals (try go_wp2)
     go_ret2
     rw [P5.out]
     exact ⟨⟨_,rfl,CG.none_ (by decide)⟩,hB0.trans (Below.mono (by first|exact hk5|exact AV hk5 _) (by omega))⟩
    | false =>
     rw [hw] at Cs
     have HA:=qh Cs
     have Wh:=qh (MO.out hw)
     clear Cs hw
     go_wp2_with (go_at_call 147;refine HA.out.mono ?_;rintro e w5 ⟨rfl,BX⟩;have hk5:=hBa.trans (BX.mono hBa.size))
     go_roundw
     case rel=>exact ⟨5,by omega,rfl,hk5,Wh.out⟩
     case measure=>simp [intOf]
  · as_aux_lemma =>
    have f0:wr.cell? ⟨w.heap.size+1+1+1,10,none⟩=some (.func (.func 148) #[] #[.pointer (some ⟨w.heap.size,0,none⟩)]):=(HF.out wr hB 10 (by omega)).trans rfl
    have f1:wr.cell? ⟨w.heap.size+1+1+1,11,none⟩=some (.int .i64 7):=(HF.out wr hB 11 (by omega)).trans rfl
    go_upto_region 5 with fail
    obtain ⟨wa,Ij⟩:∃ wa,wr.alloc (.cells #[.func (.func 148) #[] #[.pointer (some ⟨w.heap.size,0,none⟩)],.int .i64 7] 231)=wa:=⟨_,rfl⟩
    have Ql:Below wr.heap.size wr wa:=by rw [← Ij];exact (Below.refl _ _).alloc (Nat.le_refl _) _
    have hbx:wa.heap[wr.heap.size]? = some (.cells #[.func (.func 148) #[] #[.pointer (some ⟨w.heap.size,0,none⟩)],.int .i64 7] 231 (0,0)):=by rw [← Ij];exact heap_alloc_new wr _
    rw [Ij]
    clear Ij f0 f1
    have hBa:=hB.trans (Ql.mono hz)
    have hbl:wr.heap.size<wa.heap.size:=(Array.getElem?_eq_some_iff.1 hbx).1
    have g0:wa.cell? ⟨wr.heap.size,0,none⟩=some (.func (.func 148) #[] #[.pointer (some ⟨w.heap.size,0,none⟩)]):=(cell_of_row _ _ 0 _ _ (0,0) hbx).trans rfl
    have Ns:Hid (∀ w',Below wa.heap.size wa w'→w'.cell? ⟨wr.heap.size,1,none⟩=some (.int .i64 7)):=fun w' hB'=>(cell_of_row _ _ 1 _ _ (0,0) ((hB'.block _ hbl).trans hbx)).trans rfl
    have hx:=HX.out wa hBa
    have hlen:=Le (k:=5) (by omega) HJ.out
    have hi:=HI.out wa hBa
    rw [hlen] at hx hi
    have Cs:Calls Tryz.prog 148 #[.pointer (some ⟨w.heap.size,0,none⟩)] wa fun e w'=>e=.returned (.bool (Aq l kind no 5))∧Below wa.heap.size wa w':=qy wa S _ c A l (Ui.out wa hBa) hi hlen hx.1
    clear hlen hi
    have MO:Hid (Aq l kind no 5=false→∀ j,j<6→Aq l kind no j=false):=fun hw j hj=>by
     by_cases hjk:j<5
     · exact HJ.out j hjk
     · obtain rfl:j=5:=by omega
       exact hw
    have We:Hid (Aq l kind no 5=true→E=7):=fun hw=>HE.out.symm.trans (F6 (k:=5) (by omega) HJ.out hw)
    clear hx hbx
    cases hw:Aq l kind no 5 with
    | true =>
     rw [hw] at Cs
     have HA:=qh Cs
     have P5:=qh (We.out hw)
     clear Cs hw
     go_wp2_with (go_at_call 148;refine HA.out.mono ?_;rintro e w5 ⟨rfl,BX⟩;have g1:=Ns.out w5 BX;have hk5:=hBa.trans (BX.mono hBa.size))
     all_goals (try (go_quiet (fail)))
     all_goals (try go_wp2)
     go_ret2
     rw [P5.out]
     exact ⟨⟨_,rfl,CG.none_ (by decide)⟩,hB0.trans (Below.mono (by first|exact hk5|exact AV hk5 _) (by omega))⟩
    | false =>
     rw [hw] at Cs
     have HA:=qh Cs
     have Wh:=qh (MO.out hw)
     clear Cs hw
     go_wp2_with (go_at_call 148;refine HA.out.mono ?_;rintro e w5 ⟨rfl,BX⟩;have hk5:=hBa.trans (BX.mono hBa.size))
     go_roundw
     case rel=>exact ⟨6,by omega,rfl,hk5,Wh.out⟩
     case measure=>simp [intOf]
  · as_aux_lemma =>
    have YW:Hid (E=0):=HE.out.symm.trans (Re HJ.out)
    have hlen:=Le (k:=6) (by omega) HJ.out
    have hi:=HI.out wr hB
    obtain ⟨b,off,rfl,hb,_⟩:=BU hi.Kw.2.2 (by omega)
    have c0:=(HX.out wr hB).1.1
    have hcz:(252:Int)≤(c:Int):=by omega
    have HLEN:=qh hlen
    have HIW:=qh hi
    have hin:=Dz hlen
    have hrow:AU wr S (.slice (some ⟨b,off+8,none⟩) 244 (c-8)) (FT l):=⟨_,c-8,by rw [hin],by rw [hin];omega,cz (k:=8) (n:=244) hi.Kw.2.2 hc (by omega) (by omega)⟩
    have hcl:=FL wr S _ (FT l) (Ui.out wr hB) hrow (by rw [hin];omega)
    rw [hin] at hcl
    have Qk:=qh hcl
    have UH:=qh hin
    clear hlen hi hin hrow hcl
    go_wp2_with (go_at_call 141;refine Qk.out.mono ?_;rintro e w5 ⟨A5,c5,rfl,IW,BX⟩)
    go_ret2
    have hz5:=BX.size
    have hkk:Below w.heap.size w w5:=hB0.trans (Below.mono (hB.trans (BX.mono hz)) (by omega))
    refine ⟨⟨.slice A5 244 c5,by rw [YW.out];rfl,?_⟩,hkk⟩
    unfold CG
    rw [if_pos YW.out]
    have ho:=IW
    rw [← UH.out] at ho
    have hq:=Bp.own (d:=(0:UInt8)) DY ho (by omega)
    rw [UH.out] at hq
    exact hq.sub (AB _) (fun b hb=>⟨by have:=hb.1;omega,hb.2⟩)
end
end Go.Proofs.YthblbddmcdnllaaGreatDoor
