/- A part of the proof: WEmpty, WAudit. -/
import Derived.Test.YthblbddmcdnllaaGreatDoorX33
import Derived.Test.YthblbddmcdnllaaGreatDoorX12
import Derived.Test.YthblbddmcdnllaaGreatDoorY1
import Derived.Test.YthblbddmcdnllaaGreatDoorX22
import Derived.BigQuiet
set_option maxHeartbeats 6400000
set_option linter.unusedVariables false
set_option linter.unusedSimpArgs false
namespace Go.Proofs.YthblbddmcdnllaaGreatDoor
section
open Go.RowKit
def DC (bs:List UInt8) (root tree fuel:Int):Prop:=(JJ bs root tree fuel).BA.length=0∧(JJ bs root tree fuel).Ag.length=0∧(J8 (JJ bs root tree fuel)).code=0
section
variable {w:World} {S:Nat→Prop} {a:Nat} {bs:List UInt8}
theorem SG (root tree fuel:Int) (hS:∀ b,S b→b<w.heap.size) (h:Am w S a bs) (hl:bs.length≤140737488355328) (hf:fuel≤9999999) (he:DC bs root tree fuel) :
 Calls Tryz.prog 198 #[.pointer (some ⟨a,0,none⟩),.int .i64 root,.int .i64 tree,.int .i64 fuel] w fun e w'=>(∃ Ae ce Ab nb cb dp lk Af cf,e=.returned (.tuple #[.agg #[.slice Ae 0 ce,.slice Ab nb cb,.int .i64 dp,.int .i64 lk,.slice Af 0 cf],.nilIface]))∧Below w.heap.size w w':=by
 refine (U0 w S a bs root tree fuel hS h hl hf).mono ?_
 rintro e w' ⟨⟨v,ev,rfl,hev,hv⟩,hB⟩
 unfold Bf at hev
 rw [if_pos he.2.2] at hev
 rw [if_pos he.2.2] at hv
 subst hev
 obtain ⟨Ae,ce,Ab,cb,Af,cf,vs,rfl,-⟩:=hv
 rw [he.1,he.2.1]
 exact ⟨⟨_,_,_,_,_,_,_,_,_,rfl⟩,hB⟩
theorem aR (root tree fuel:Int) (hS:∀ b,S b→b<w.heap.size) (h:Am w S a bs) (hl:bs.length≤140737488355328) (hf:fuel≤9999999) (he:DC bs root tree fuel) :
 Calls Tryz.prog 192 #[.pointer (some ⟨a,0,none⟩),.int .i64 root,.int .i64 tree,.int .i64 fuel] w fun e w'=>(∃ Ae ce Ab nb cb dp lk Af cf,e=.returned (.agg #[.slice Ae 0 ce,.slice Ab nb cb,.int .i64 dp,.int .i64 lk,.slice Af 0 cf]))∧Below w.heap.size w w':=by
 refine (QL w S a bs root tree fuel hS h hl hf).mono ?_
 rintro e w' ⟨⟨v,rfl,hv⟩,hB⟩
 obtain ⟨Ae,ce,Ab,cb,Af,cf,vs,rfl,-⟩:=hv
 rw [he.1,he.2.1]
 exact ⟨⟨_,_,_,_,_,_,_,_,_,rfl⟩,hB⟩
end
end
section
open Go.RowKit
attribute [local go_sem] Oper.semAt_some
def KA (a:Nat) (fuel:Int) (md mr mm:Nat):Array Value:=#[.slice none 0 0,.pointer (some ⟨a,0,none⟩),.int .i64 0,.int .i64 0,.int .i64 1,.int .i64 0,.int .i64 8,.int .i64 1,.int .i64 2,.int .i64 3,.int .i64 4,.int .i64 7,.int .i64 5,.int .i64 fuel,.map (some md),.map (some mr),.map (some mm)]
theorem TZ (w:World) (g:Nat) (kd:Int) (A:Option Addr) (c:Nat):Calls Tryz.prog 193 #[.pointer (some ⟨g,0,none⟩),.int .i64 kd,.slice A 0 c] w fun e w'=>e=.returned (.tuple #[])∧w'=w:=by
 go_enter Tryz.func193,Tryz.ntmps193
 go_wp2
 refine wp_loop_rounds 1 ?_
 rw [rounds_succ]
 go_wp2
 (try simp only [Exit.inBlock,Exit.then])
 exact bodyPost_end (results_none rfl _ _ _) rfl ⟨rfl,rfl⟩
theorem Gd {w0 w:World} {g:Nat} {T:TypeId} {u0 u1 u2 u3 u4 v0 v1 v2 v3 v4:Value} (hk:Below w0.heap.size w0 w) (hg:w0.heap.size≤g) (hb:w.heap[g]? = some (.cells #[v0,v1,v2,v3,v4] T (0,0))) (n:World) (hn:((((w.setCell ⟨g,0,none⟩ u0).setCell ⟨g,1,none⟩ u1).setCell ⟨g,2,none⟩ u2).setCell ⟨g,3,none⟩ u3).setCell ⟨g,4,none⟩ u4=n):AL n g #[u0,u1,u2,u3,u4] T∧Below w0.heap.size w0 n:=by
 subst hn
 have h1:AL w g #[v0,v1,v2,v3,v4] T:=hb
 exact ⟨((((h1.set 0 u0).set 1 u1).set 2 u2).set 3 u3).set 4 u4,((((hk.setCell (p:=⟨g,0,none⟩) hg u0).setCell (p:=⟨g,1,none⟩) hg u1).setCell (p:=⟨g,2,none⟩) hg u2).setCell (p:=⟨g,3,none⟩) hg u3).setCell (p:=⟨g,4,none⟩) hg u4⟩
section
variable {w:World} {S:Nat→Prop} {a x md mr mm:Nat} {bs:List UInt8} {fuel:Int}
set_option maxRecDepth 100000 in
theorem ZC (hx:AL w x (KA a fuel md mr mm) 266) (hS:∀ b,S b→b<w.heap.size) (h:Am w S a bs) (hl:bs.length≤140737488355328) (hf:fuel≤9999999) (he:DC bs 2 3 fuel) :
 Calls Tryz.prog 171 #[.pointer (some ⟨x,0,none⟩)] w fun e w'=>e=.returned (.tuple #[])∧Below w.heap.size w w':=by
 have XI:=qh (fun (w':World) (hB:Below w.heap.size w w')=>aR 2 3 fuel (fun b hb=>Nat.lt_of_lt_of_le (hS b hb) hB.size) (h.below hB hS) hl hf he)
 have HF:=qh (fun w' g kd A c=>TZ w' g kd A c)
 have Ta:Hid (∀ w',Below w.heap.size w w'→w'.cell? ⟨x,1,none⟩=some (.pointer (some ⟨a,0,none⟩))∧w'.cell? ⟨x,8,none⟩=some (.int .i64 2)∧w'.cell? ⟨x,13,none⟩=some (.int .i64 fuel)):=fun w' hB=>⟨(hx.below hB hx.lt).at 1 _ rfl,(hx.below hB hx.lt).at 8 _ rfl,(hx.below hB hx.lt).at 13 _ rfl⟩
 clear hx h he
 go_enter Tryz.func171,Tryz.ntmps171
 go_upto_region 0 with fail
 refine AJ (T:=fun _=>false) (S:=fun w'=>Below w.heap.size w w') (by kernel_rfl) (Below.refl w.heap.size w).drew (fun hHeld=>?_)
 obtain ⟨BN,hw0⟩:∃ x,w.drew=x:=⟨_,rfl⟩
 rw [hw0] at hHeld ⊢
 have AF:Below w.heap.size w BN:=hHeld
 clear hHeld hw0
 refine qs 0 7 AF ?_
 refine qs 1 8 AF ?_
 refine qs 2 9 AF ?_
 refine qf 3 10 rfl rfl AF (by intro w2' hSw;have x1:=(Ta.out _ hSw).1;go_simp;(try with_reducible rfl)) ?_
 refine qs 4 11 AF ?_
 refine qs 5 12 AF ?_
 refine qs 6 13 AF ?_
 refine qs 7 14 AF ?_
 refine qf 8 15 rfl rfl AF (by intro w2' hSw;have x8:=(Ta.out _ hSw).2.1;go_simp;(try with_reducible rfl)) ?_
 refine qs 9 16 AF ?_
 refine qs 10 17 AF ?_
 refine qs 11 18 AF ?_
 refine qf 12 19 rfl rfl AF (by intro w2' hSw;have xy:=(Ta.out _ hSw).2.2;go_simp;(try with_reducible rfl)) ?_
 refine FH 13 14 (oi:=_) (oj:=_) (by kernel_rfl) rfl rfl (fun K hK=>?_) (fun K hK=>?_)
 · skip
   go_simp
   refine (XI.out BN AF).mono ?_
   rintro e BP ⟨⟨Ae,ce,Ab,nb,cb,dp,lk,Af,cf,rfl⟩,CB⟩
   have AF:=AF.trans (CB.mono AF.size)
   clear CB
   refine hK.out _ _ (fun _=>AF) (fun Cq=>?_)
   clear hK K Cq
   (try simp only [Act.put,qS,qZ,qU])
   refine qo 14 fun K hK=>?_
   go_simp
   obtain ⟨Cz,hwn⟩:∃ wx,BP.alloc (.cells #[.slice none 0 0,.slice none 0 0,.int .i64 0,.int .i64 0,.slice none 0 0] 301)=wx:=⟨_,rfl⟩
   have CB:Below BP.heap.size BP Cz:=by rw [← hwn];exact (Below.refl _ _).alloc (Nat.le_refl _) _
   have b14:Cz.heap[BP.heap.size]? = some (.cells #[.slice none 0 0,.slice none 0 0,.int .i64 0,.int .i64 0,.slice none 0 0] 301):=by rw [← hwn];exact heap_alloc_new BP _
   have Lx:=AF.size
   have eO:BP.heap.size<Cz.heap.size:=by rw [← hwn];simp
   have AF:=AF.trans (CB.mono AF.size)
   rw [hwn]
   clear hwn CB
   refine hK.out _ _ (fun _=>AF) (fun Cq=>?_)
   clear hK K Cq
   (try simp only [Act.put,qS,qZ,qU])
   refine qo 15 fun K hK=>?_
   obtain ⟨z0,z1,z2,z3,z4⟩:=cells5 b14
   have f0:=Bv b14 0
   have f1:=Bv b14 1
   have f2:=Bv b14 2
   have f3:=Bv b14 3
   have f4:=Bv b14 4
   go_simp
   obtain ⟨Ka,hwn⟩:∃ x,(((((Cz.setCell ⟨BP.heap.size,0,none⟩ (.slice Ae 0 ce)).setCell ⟨BP.heap.size,1,none⟩ (.slice Ab nb cb)).setCell ⟨BP.heap.size,2,none⟩ (.int .i64 dp)).setCell ⟨BP.heap.size,3,none⟩ (.int .i64 lk)).setCell ⟨BP.heap.size,4,none⟩ (.slice Af 0 cf))=x:=⟨_,rfl⟩
   have hD:=Gd AF Lx b14 Ka hwn
   have AF:=hD.2
   rw [hwn]
   clear z0 z1 z2 z3 z4 f0 f1 f2 f3 f4 hwn b14
   refine hK.out _ _ (fun _=>AF) (fun Cq=>?_)
   clear hK K Cq
   (try simp only [Act.put,qS,qZ,qU])
   refine qd ?_
   obtain ⟨q0,q1,q2,q3,q4⟩:=cells5 hD.1
   have Kg:=qh AF
   clear hD AF
   go_upto_region 1 with fail
   go_quiet ((go_at_call 193;refine Calls.quiet_of_same (HF.out _ _ _ _ _)))
   go_wp2_with fail
   refine wp_loop_rounds 1 ?_
   rw [rounds_succ]
   go_wp2_with fail
   (try simp only [Exit.inBlock,Exit.then])
   exact bodyPost_end (results_none rfl _ _ _) rfl ⟨rfl,Kg.out.trans ⟨rfl,rfl,rfl,Nat.le_refl _,fun _ _=>rfl⟩⟩
 · skip
   go_simp
   obtain ⟨Ev,hwn⟩:∃ wx,BN.alloc (.cells #[.slice none 0 0,.slice none 0 0,.int .i64 0,.int .i64 0,.slice none 0 0] 301)=wx:=⟨_,rfl⟩
   have CB:Below BN.heap.size BN Ev:=by rw [← hwn];exact (Below.refl _ _).alloc (Nat.le_refl _) _
   have b14:Ev.heap[BN.heap.size]? = some (.cells #[.slice none 0 0,.slice none 0 0,.int .i64 0,.int .i64 0,.slice none 0 0] 301):=by rw [← hwn];exact heap_alloc_new BN _
   have Lx:=AF.size
   have eO:BN.heap.size<Ev.heap.size:=by rw [← hwn];simp
   have AF:=AF.trans (CB.mono AF.size)
   rw [hwn]
   clear hwn CB
   refine hK.out _ _ (fun _=>AF) (fun Cq=>?_)
   clear hK K Cq
   (try simp only [Act.put,qS,qZ,qU])
   refine qo 13 fun K hK=>?_
   go_simp
   refine (XI.out Ev AF).mono ?_
   rintro e Kc ⟨⟨Ae,ce,Ab,nb,cb,dp,lk,Af,cf,rfl⟩,CB⟩
   have b14:=Jt b14 CB
   have AF:=AF.trans (CB.mono AF.size)
   clear CB
   refine hK.out _ _ (fun _=>AF) (fun Cq=>?_)
   clear hK K Cq
   (try simp only [Act.put,qS,qZ,qU])
   refine qo 15 fun K hK=>?_
   obtain ⟨z0,z1,z2,z3,z4⟩:=cells5 b14
   have f0:=Bv b14 0
   have f1:=Bv b14 1
   have f2:=Bv b14 2
   have f3:=Bv b14 3
   have f4:=Bv b14 4
   go_simp
   obtain ⟨RX,hwn⟩:∃ x,(((((Kc.setCell ⟨BN.heap.size,0,none⟩ (.slice Ae 0 ce)).setCell ⟨BN.heap.size,1,none⟩ (.slice Ab nb cb)).setCell ⟨BN.heap.size,2,none⟩ (.int .i64 dp)).setCell ⟨BN.heap.size,3,none⟩ (.int .i64 lk)).setCell ⟨BN.heap.size,4,none⟩ (.slice Af 0 cf))=x:=⟨_,rfl⟩
   have hD:=Gd AF Lx b14 RX hwn
   have AF:=hD.2
   rw [hwn]
   clear z0 z1 z2 z3 z4 f0 f1 f2 f3 f4 hwn b14
   refine hK.out _ _ (fun _=>AF) (fun Cq=>?_)
   clear hK K Cq
   (try simp only [Act.put,qS,qZ,qU])
   refine qd ?_
   obtain ⟨q0,q1,q2,q3,q4⟩:=cells5 hD.1
   have Kg:=qh AF
   clear hD AF
   go_upto_region 1 with fail
   go_quiet ((go_at_call 193;refine Calls.quiet_of_same (HF.out _ _ _ _ _)))
   go_wp2_with fail
   refine wp_loop_rounds 1 ?_
   rw [rounds_succ]
   go_wp2_with fail
   (try simp only [Exit.inBlock,Exit.then])
   exact bodyPost_end (results_none rfl _ _ _) rfl ⟨rfl,Kg.out.trans ⟨rfl,rfl,rfl,Nat.le_refl _,fun _ _=>rfl⟩⟩
set_option maxRecDepth 100000 in
theorem uA (hx:AL w x (KA a fuel md mr mm) 266) (hS:∀ b,S b→b<w.heap.size) (h:Am w S a bs) (hl:bs.length≤140737488355328) (hf:fuel≤9999999) (he:DC bs 1 1 fuel) :
 Calls Tryz.prog 172 #[.pointer (some ⟨x,0,none⟩)] w fun e w'=>e=.returned (.tuple #[])∧Below w.heap.size w w':=by
 have XI:=qh (fun (w':World) (hB:Below w.heap.size w w')=>aR 1 1 fuel (fun b hb=>Nat.lt_of_lt_of_le (hS b hb) hB.size) (h.below hB hS) hl hf he)
 have HF:=qh (fun w' g kd A c=>TZ w' g kd A c)
 have Ta:Hid (∀ w',Below w.heap.size w w'→w'.cell? ⟨x,1,none⟩=some (.pointer (some ⟨a,0,none⟩))∧w'.cell? ⟨x,7,none⟩=some (.int .i64 1)∧w'.cell? ⟨x,13,none⟩=some (.int .i64 fuel)):=fun w' hB=>⟨(hx.below hB hx.lt).at 1 _ rfl,(hx.below hB hx.lt).at 7 _ rfl,(hx.below hB hx.lt).at 13 _ rfl⟩
 clear hx h he
 go_enter Tryz.func172,Tryz.ntmps172
 go_upto_region 0 with fail
 refine AJ (T:=fun _=>false) (S:=fun w'=>Below w.heap.size w w') (by kernel_rfl) (Below.refl w.heap.size w).drew (fun hHeld=>?_)
 obtain ⟨Fq,hw0⟩:∃ x,w.drew=x:=⟨_,rfl⟩
 rw [hw0] at hHeld ⊢
 have AF:Below w.heap.size w Fq:=hHeld
 clear hHeld hw0
 refine qs 0 9 AF ?_
 refine qs 1 10 AF ?_
 refine qs 2 11 AF ?_
 refine qf 3 12 rfl rfl AF (by intro w2' hSw;have x1:=(Ta.out _ hSw).1;go_simp;(try with_reducible rfl)) ?_
 refine qs 4 13 AF ?_
 refine qs 5 14 AF ?_
 refine qs 6 15 AF ?_
 refine qs 7 16 AF ?_
 refine qf 8 17 rfl rfl AF (by intro w2' hSw;have x8:=(Ta.out _ hSw).2.1;go_simp;(try with_reducible rfl)) ?_
 refine qs 9 18 AF ?_
 refine qs 10 19 AF ?_
 refine qs 11 20 AF ?_
 refine qf 12 21 rfl rfl AF (by intro w2' hSw;have xy:=(Ta.out _ hSw).2.2;go_simp;(try with_reducible rfl)) ?_
 refine FH 13 14 (oi:=_) (oj:=_) (by kernel_rfl) rfl rfl (fun K hK=>?_) (fun K hK=>?_)
 · skip
   go_simp
   refine (XI.out Fq AF).mono ?_
   rintro e J7 ⟨⟨Ae,ce,Ab,nb,cb,dp,lk,Af,cf,rfl⟩,CB⟩
   have AF:=AF.trans (CB.mono AF.size)
   clear CB
   refine hK.out _ _ (fun _=>AF) (fun Cq=>?_)
   clear hK K Cq
   (try simp only [Act.put,qS,qZ,qU])
   refine qo 14 fun K hK=>?_
   go_simp
   obtain ⟨Us,hwn⟩:∃ wx,J7.alloc (.cells #[.slice none 0 0,.slice none 0 0,.int .i64 0,.int .i64 0,.slice none 0 0] 301)=wx:=⟨_,rfl⟩
   have CB:Below J7.heap.size J7 Us:=by rw [← hwn];exact (Below.refl _ _).alloc (Nat.le_refl _) _
   have b14:Us.heap[J7.heap.size]? = some (.cells #[.slice none 0 0,.slice none 0 0,.int .i64 0,.int .i64 0,.slice none 0 0] 301):=by rw [← hwn];exact heap_alloc_new J7 _
   have Lx:=AF.size
   have eO:J7.heap.size<Us.heap.size:=by rw [← hwn];simp
   have AF:=AF.trans (CB.mono AF.size)
   rw [hwn]
   clear hwn CB
   refine hK.out _ _ (fun _=>AF) (fun Cq=>?_)
   clear hK K Cq
   (try simp only [Act.put,qS,qZ,qU])
   refine qo 15 fun K hK=>?_
   obtain ⟨z0,z1,z2,z3,z4⟩:=cells5 b14
   have f0:=Bv b14 0
   have f1:=Bv b14 1
   have f2:=Bv b14 2
   have f3:=Bv b14 3
   have f4:=Bv b14 4
   go_simp
   obtain ⟨dR,hwn⟩:∃ x,(((((Us.setCell ⟨J7.heap.size,0,none⟩ (.slice Ae 0 ce)).setCell ⟨J7.heap.size,1,none⟩ (.slice Ab nb cb)).setCell ⟨J7.heap.size,2,none⟩ (.int .i64 dp)).setCell ⟨J7.heap.size,3,none⟩ (.int .i64 lk)).setCell ⟨J7.heap.size,4,none⟩ (.slice Af 0 cf))=x:=⟨_,rfl⟩
   have hD:=Gd AF Lx b14 dR hwn
   have AF:=hD.2
   rw [hwn]
   clear z0 z1 z2 z3 z4 f0 f1 f2 f3 f4 hwn b14
   refine hK.out _ _ (fun _=>AF) (fun Cq=>?_)
   clear hK K Cq
   (try simp only [Act.put,qS,qZ,qU])
   refine qd ?_
   obtain ⟨q0,q1,q2,q3,q4⟩:=cells5 hD.1
   have Kg:=qh AF
   clear hD AF
   go_upto_region 1 with fail
   go_quiet ((go_at_call 193;refine Calls.quiet_of_same (HF.out _ _ _ _ _)))
   go_wp2_with fail
   refine wp_loop_rounds 1 ?_
   rw [rounds_succ]
   go_wp2_with fail
   (try simp only [Exit.inBlock,Exit.then])
   exact bodyPost_end (results_none rfl _ _ _) rfl ⟨rfl,Kg.out.trans ⟨rfl,rfl,rfl,Nat.le_refl _,fun _ _=>rfl⟩⟩
 · skip
   go_simp
   obtain ⟨ZE,hwn⟩:∃ wx,Fq.alloc (.cells #[.slice none 0 0,.slice none 0 0,.int .i64 0,.int .i64 0,.slice none 0 0] 301)=wx:=⟨_,rfl⟩
   have CB:Below Fq.heap.size Fq ZE:=by rw [← hwn];exact (Below.refl _ _).alloc (Nat.le_refl _) _
   have b14:ZE.heap[Fq.heap.size]? = some (.cells #[.slice none 0 0,.slice none 0 0,.int .i64 0,.int .i64 0,.slice none 0 0] 301):=by rw [← hwn];exact heap_alloc_new Fq _
   have Lx:=AF.size
   have eO:Fq.heap.size<ZE.heap.size:=by rw [← hwn];simp
   have AF:=AF.trans (CB.mono AF.size)
   rw [hwn]
   clear hwn CB
   refine hK.out _ _ (fun _=>AF) (fun Cq=>?_)
   clear hK K Cq
   (try simp only [Act.put,qS,qZ,qU])
   refine qo 13 fun K hK=>?_
   go_simp
   refine (XI.out ZE AF).mono ?_
   rintro e uB ⟨⟨Ae,ce,Ab,nb,cb,dp,lk,Af,cf,rfl⟩,CB⟩
   have b14:=Jt b14 CB
   have AF:=AF.trans (CB.mono AF.size)
   clear CB
   refine hK.out _ _ (fun _=>AF) (fun Cq=>?_)
   clear hK K Cq
   (try simp only [Act.put,qS,qZ,qU])
   refine qo 15 fun K hK=>?_
   obtain ⟨z0,z1,z2,z3,z4⟩:=cells5 b14
   have f0:=Bv b14 0
   have f1:=Bv b14 1
   have f2:=Bv b14 2
   have f3:=Bv b14 3
   have f4:=Bv b14 4
   go_simp
   obtain ⟨uC,hwn⟩:∃ x,(((((uB.setCell ⟨Fq.heap.size,0,none⟩ (.slice Ae 0 ce)).setCell ⟨Fq.heap.size,1,none⟩ (.slice Ab nb cb)).setCell ⟨Fq.heap.size,2,none⟩ (.int .i64 dp)).setCell ⟨Fq.heap.size,3,none⟩ (.int .i64 lk)).setCell ⟨Fq.heap.size,4,none⟩ (.slice Af 0 cf))=x:=⟨_,rfl⟩
   have hD:=Gd AF Lx b14 uC hwn
   have AF:=hD.2
   rw [hwn]
   clear z0 z1 z2 z3 z4 f0 f1 f2 f3 f4 hwn b14
   refine hK.out _ _ (fun _=>AF) (fun Cq=>?_)
   clear hK K Cq
   (try simp only [Act.put,qS,qZ,qU])
   refine qd ?_
   obtain ⟨q0,q1,q2,q3,q4⟩:=cells5 hD.1
   have Kg:=qh AF
   clear hD AF
   go_upto_region 1 with fail
   go_quiet ((go_at_call 193;refine Calls.quiet_of_same (HF.out _ _ _ _ _)))
   go_wp2_with fail
   refine wp_loop_rounds 1 ?_
   rw [rounds_succ]
   go_wp2_with fail
   (try simp only [Exit.inBlock,Exit.then])
   exact bodyPost_end (results_none rfl _ _ _) rfl ⟨rfl,Kg.out.trans ⟨rfl,rfl,rfl,Nat.le_refl _,fun _ _=>rfl⟩⟩
end
end
end Go.Proofs.YthblbddmcdnllaaGreatDoor
