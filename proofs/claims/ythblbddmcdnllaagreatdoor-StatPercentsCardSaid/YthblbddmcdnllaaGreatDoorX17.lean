/- A part of the proof: WCrc, WCrc2, WSeal1, WSeal2, WSeal3. -/
import Derived.Test.YthblbddmcdnllaaGreatDoorX8
import Derived.Laws.IdiomCopy
import Derived.Shelf.SlicesQ.Load
import Derived.Deep.Cut
import Derived.Deep.DeepCutAuto
import Derived.Test.YthblbddmcdnllaaGreatDoorX5
import Derived.Test.YthblbddmcdnllaaGreatDoorY1
set_option maxHeartbeats 6400000
set_option linter.unusedVariables false
set_option linter.unusedSimpArgs false
namespace Go.Proofs.YthblbddmcdnllaaGreatDoor
section
open Go.RowKit
attribute [local go_sem] Oper.semAt_some
def CR (n:Nat):List Value:=(List.range 16).map fun i=>.int .u32 ((if i<n then GJ 4 i else 0:Nat):Int)
theorem Da (n:Nat):(CR n).length=16:=by simp [CR]
theorem Ho (n i:Nat) (h:i<16):(CR n)[i]? = some (.int .u32 ((if i<n then GJ 4 i else 0:Nat):Int)):=by
 simp [CR,h]
theorem WX (n:Nat) (h:n<16):(CR n).set n (.int .u32 (GJ 4 n:Nat))=CR (n+1):=by
 apply List.ext_getElem?
 intro i
 by_cases hi:i<16
 · rw [List.getElem?_set,Ho _ i hi,Ho _ i hi]
   by_cases hin:n=i
   · subst hin
     rw [if_pos rfl,if_pos (by rw [Da];exact hi),if_pos (by omega)]
   · rw [if_neg hin]
     by_cases hl:i<n
     · rw [if_pos hl,if_pos (by omega)]
     · rw [if_neg hl,if_neg (by omega)]
 · rw [List.getElem?_eq_none (by rw [List.length_set,Da];omega),List.getElem?_eq_none (by rw [Da];omega)]
theorem Yl {w:World} {b n:Nat} {e:TypeId} (h:w.heap[b]? = some (.cells (CR n).toArray e (0,0))) (hn:n<16):(w.setCell ⟨b,n,none⟩ (.int .u32 (GJ 4 n:Nat))).heap[b]? = some (.cells (CR (n+1)).toArray e (0,0)):=by
 simp [World.setCell,Array.getElem?_modify,h,← WX n hn]
theorem JW {w:World} {b n i:Nat} {e:TypeId} (h:w.heap[b]? = some (.cells (CR n).toArray e (0,0))) (hi:i<16):w.cell? ⟨b,i,none⟩=some (.int .u32 ((if i<n then GJ 4 i else 0:Nat):Int))∧w.frozen? ⟨b,i,none⟩=false:=by
 have e:=Ho n i hi
 refine ⟨?_,by simp [World.frozen?,h]⟩
 simp [World.cell?,h]
 simpa using e
theorem Hq {B:Nat} {a:World} (b:Nat) (hb:B≤b):∀ (vs:List Value) (o:Nat) {w:World},Below B a w→Below B a (w.setCells b o vs)
 | [],_,_,h=>h
 | v :: r,o,w,h=>Hq b hb r (o+1) (Below.setCell (p:=⟨b,o,none⟩) h hb v)
theorem Ym (n:Nat):∀ u∈CR n,u.oneCell'=true:=fun u hu=>by
 simp only [CR,List.mem_map] at hu
 obtain ⟨i,_,rfl⟩:=hu
 rfl
theorem Lc {w:World} {c:Nat} {e2:TypeId} (n:Nat) (hc:w.heap[c]? = some (.cells (CR 0).toArray e2 (0,0))):∀ j,j<(CR n).length→(w.cell? ⟨c,0+j,none⟩).isSome=true:=fun j hj=>by
 rw [Da] at hj
 rw [Nat.zero_add,(JW hc hj).1]
 rfl
theorem NR {P:Program} {w:World} {c n:Nat} {e2:TypeId} (hc:w.heap[c]? = some (.cells (CR 0).toArray e2 (0,0))):Sem.run P (storeCells ⟨c,0,none⟩ (CR n) 0) w=.ok () (w.setCells c 0 (CR n)) :=
 run_storeCells_cells (P:=P) c 0 (CR n) 0 w (fun j hj=>Lc n hc j hj) (fun j hj=>by rw [Da] at hj;simpa using (JW hc hj).2) (Ym n)
theorem cO {w:World} {c i:Nat} {e2:TypeId} (hc:w.heap[c]? = some (.cells (CR 0).toArray e2 (0,0))) (hi:i<16):(w.setCells c 0 (CR 16)).cell? ⟨c,i,none⟩=some (.int .u32 (GJ 4 i:Nat)):=by
 have h:=World.cell?_setCells_in c (CR 16) 0 w (Lc 16 hc) i (by rw [Da];exact hi)
 rw [Nat.zero_add] at h
 rw [h,← List.getElem?_eq_getElem,Ho 16 i hi,if_pos hi]
theorem Uf {P:Program} {w:World} {b c n:Nat} {e e2:TypeId} (K:Nat) (hK:K=16) (hb:w.heap[b]? = some (.cells (CR n).toArray e (0,0))) (hc:w.heap[c]? = some (.cells (CR 0).toArray e2 (0,0))) :
 Sem.run P (loadCellsFrom ⟨b,0,none⟩ 0 K #[]) w=.ok (CR n).toArray w∧Sem.run P (storeCells ⟨c,0,none⟩ (CR n) 0) w=.ok () (w.setCells c 0 (CR n))∧Sem.run P (loadCellsFrom ⟨c,0,none⟩ 0 K #[]) (w.setCells c 0 (CR n))=.ok (CR n).toArray (w.setCells c 0 (CR n)):=by
 subst hK
 refine ⟨run_loadCellsFrom_list P w _ _ 16 (Da n) (fun j v hv=>?_),NR hc,run_loadCellsFrom_list P _ _ _ 16 (Da n) (fun j v hv=>?_)⟩
 · have hj:j<16:=by rw [← Da n];exact (List.getElem?_eq_some_iff.1 hv).1
   rw [Addr.add_lit,Nat.zero_add,(JW hb hj).1,← Ho n j hj]
   exact hv
 · have hj:j<(CR n).length:=(List.getElem?_eq_some_iff.1 hv).1
   have h:=World.cell?_setCells_in c (CR n) 0 w (Lc n hc) j hj
   rw [Addr.add_lit]
   rw [h,← hv,List.getElem?_eq_getElem hj]
theorem Ug (r:Nat):((r:Int) / 2)=((r / 2:Nat):Int):=by omega
set_option maxRecDepth 100000 in
theorem Ra (w:World):Calls Tryz.prog 203 #[] w fun e w'=>e=.returned (.agg (CR 16).toArray)∧Below w.heap.size w w':=by
 go_enter Tryz.func203,Tryz.ntmps203
 go_upto_region 2 with fail
 obtain ⟨wB,Z7⟩:∃ wB,(w.alloc (.cells #[.int .u32 0,.int .u32 0,.int .u32 0,.int .u32 0,.int .u32 0,.int .u32 0,.int .u32 0,.int .u32 0,.int .u32 0,.int .u32 0,.int .u32 0,.int .u32 0,.int .u32 0,.int .u32 0,.int .u32 0,.int .u32 0] 321)).alloc (.cells #[.int .u32 0,.int .u32 0,.int .u32 0,.int .u32 0,.int .u32 0,.int .u32 0,.int .u32 0,.int .u32 0,.int .u32 0,.int .u32 0,.int .u32 0,.int .u32 0,.int .u32 0,.int .u32 0,.int .u32 0,.int .u32 0] 321)=wB:=⟨_,rfl⟩
 have hB0:Below w.heap.size w wB:=by rw [← Z7];exact ((Below.refl _ _).alloc (Nat.le_refl _) _).alloc (by simp) _
 have hz1:wB.heap[w.heap.size+1]? = some (.cells (CR 0).toArray 321 (0,0)):=by
  rw [← Z7]
  have:=heap_alloc_new (w.alloc (.cells #[.int .u32 0,.int .u32 0,.int .u32 0,.int .u32 0,.int .u32 0,.int .u32 0,.int .u32 0,.int .u32 0,.int .u32 0,.int .u32 0,.int .u32 0,.int .u32 0,.int .u32 0,.int .u32 0,.int .u32 0,.int .u32 0] 321)) (.cells (CR 0).toArray 321)
  rw [World.size_alloc] at this
  exact this
 have hz0:wB.heap[w.heap.size]? = some (.cells (CR 0).toArray 321 (0,0)):=by
  rw [← Z7]
  exact (Below.heap_alloc _ _ _ (by simp)).trans (heap_alloc_new w (.cells (CR 0).toArray 321))
 rw [Z7]
 clear Z7
 go_wp2_with fail
 go_loopw [5] (fun vi wr=>∃ k:Nat,vi=.int .i64 k∧k≤16∧Below w.heap.size w wr∧wr.heap[w.heap.size]? = some (.cells (CR 0).toArray 321 (0,0))∧wr.heap[w.heap.size+1]? = some (.cells (CR k).toArray 321 (0,0))) (fun vi _=>16-(intOf vi).toNat)
 case atStart=>exact ⟨0,rfl,by omega,hB0,hz0,hz1⟩
 case round =>
  obtain ⟨k,rfl,hk,hB,hy0,hy1⟩:=hrel
  by_cases jZ:k<16
  · have hkz:(k:Int)<16:=by omega
    have hwk:IntKind.u32.wrap (k:Int)=(k:Int):=by rw [IntKind.wrap_u32'];omega
    have HY0:=qh hy0
    have wh:=qh hy1
    clear hy0 hy1
    go_wp2_with fail
    go_loopw [3,10] (fun vr vi wr2=>∃ (j q:Nat),vi=.int .i64 j∧vr=.int .u32 q∧j≤4∧q<4294967296∧Hid (GJ (4-j) q=GJ 4 k)∧wr2=wr) (fun _ vi _=>4-(intOf vi).toNat)
    case atStart=>exact ⟨0,k,rfl,rfl,by omega,by omega,rfl,rfl⟩
    case round =>
     obtain ⟨j,q,rfl,rfl,hj,hq,HS,rfl⟩:=hrel
     by_cases hj4:j<4
     · have hjz:(j:Int)<4:=by omega
       have HST:Hid (4-j=(4-(j+1))+1):=by show _=_;omega
       have hlt:=Vv hq
       have nu:=Ug q
       have hand:bits .and .u32 (q:Int) 1=(q:Int) % 2:=by
        have:=u32_and_nat q 1 hq (by omega)
        rw [nat_mask1] at this
        exact this.trans (by omega)
       have WY:bits .xor .u32 ((q:Int) / 2) 2197175160=(((q / 2) ^^^ Ia:Nat):Int):=by rw [nu];exact u32_xor_nat (q / 2) Ia (by omega) (by unfold Ia;omega)
       by_cases ho:q % 2=1
       · have hz:(q:Int) % 2=1:=by omega
         have HB:Hid (PD q=(q / 2) ^^^ Ia):=by show _=_;unfold PD;rw [if_pos ho]
         have Uh:=qh hlt
         clear hlt ho nu
         go_wp2_with fail
         go_roundw
         case rel=>exact ⟨j+1,(q / 2) ^^^ Ia,by clear hand WY;go_num,rfl,by clear hand WY;omega,by rw [← HB.out];exact Uh.out,by show _=_;rw [← HS.out,HST.out,GJ,HB.out],trivial⟩
         case measure=>(clear hand WY;simp [intOf];omega)
       · have hz:¬ (q:Int) % 2=1:=by omega
         have HB:Hid (PD q=q / 2):=by show _=_;unfold PD;rw [if_neg ho]
         have Uh:=qh hlt
         have HQD:=qh nu
         clear hlt ho WY nu
         go_wp2_with fail
         go_roundw
         case rel=>exact ⟨j+1,q / 2,by clear hand;go_num,by rw [← HQD.out],by clear hand;omega,by rw [← HB.out];exact Uh.out,by show _=_;rw [← HS.out,HST.out,GJ,HB.out],trivial⟩
         case measure=>(clear hand;simp [intOf];omega)
     · obtain rfl:j=4:=by omega
       have HE:Hid (q=GJ 4 k):=HS.out
       obtain ⟨c0,f0⟩:=JW wh.out jZ
       have HN:=qh (Yl wh.out jZ)
       rw [← HE.out] at HN
       have HF:Hid ((wr.setCell ⟨w.heap.size+1,k,none⟩ (.int .u32 q)).heap[w.heap.size]? = some (.cells (CR 0).toArray 321 (0,0))):=(Below.heap_setCell _ _ _ _ (by show w.heap.size≠w.heap.size+1;omega)).trans HY0.out
       have qg:=qh (Below.setCell (p:=⟨w.heap.size+1,k,none⟩) hB (by show w.heap.size≤w.heap.size+1;omega) (.int .u32 q))
       go_wp2_with fail
       go_roundw
       case rel=>exact ⟨k+1,by go_num,by omega,qg.out,HF.out,HN.out⟩
       case measure=>simp [intOf];omega
  · obtain rfl:k=16:=by omega
    obtain ⟨K,hK⟩:∃ K,K=16:=⟨_,rfl⟩
    have aE:∀ w,(isAgg 321).run Tryz.prog w=.ok true w:=Tryz.isAgg321
    have zE:∀ w,(Go.sizeOf 321).run Tryz.prog w=.ok K w:=by rw [hK];exact Tryz.sizeOf321
    obtain ⟨l1,s1,l2⟩:=Uf (P:=Tryz.prog) K hK hy1 hy0
    have HB:=qh (Hq w.heap.size (Nat.le_refl _) (CR 16) 0 hB)
    have hTK:(CR 16).length=K:=by rw [hK,Da]
    clear hy0 hy1 hz0 hz1 hK
    obtain ⟨T,hT⟩:∃ T,CR 16=T:=⟨_,rfl⟩
    rw [hT] at l1 s1 l2 HB hTK
    have HT:=qh hT
    clear hT
    go_wp2_with fail
    refine bodyPost_ret (v:=.agg T.toArray) (by simp [results,Tryz.results203,go_sem,aE,zE,l2]) rfl ⟨by rw [HT.out],HB.out⟩
theorem Yn (r:Nat):pG r=((r / 16) ^^^ GJ 4 (r % 16)) / 16 ^^^ GJ 4 (((r / 16) ^^^ GJ 4 (r % 16)) % 16):=by
 rw [bJ,show (8:Nat)=4+4 from rfl,TD,LA (GJ 4 r),LA r]
set_option maxRecDepth 100000 in
theorem Rb (w:World) (S:Nat→Prop) (v:Value) (r:Nat) (l:List UInt8) (hS:∀ b,S b→b<w.heap.size) (h:AU w S v l) (hr:r<4294967296) (hn:l.length≤140737488355328) :
 Calls Tryz.prog 189 #[.int .u32 r,v] w fun e w'=>e=.returned (.int .u32 (IR r l:Nat))∧Below w.heap.size w w':=by
 have h0:=h
 obtain ⟨A,c,rfl,hc,hrow⟩:=h
 have HH:=qh (Ra w)
 have Yo:Hid (∀ w3:World,Sem.run Tryz.prog (storeCells ⟨w3.heap.size,0,none⟩ (CR 16) 0) (w3.alloc (.cells #[.int .u32 0,.int .u32 0,.int .u32 0,.int .u32 0,.int .u32 0,.int .u32 0,.int .u32 0,.int .u32 0,.int .u32 0,.int .u32 0,.int .u32 0,.int .u32 0,.int .u32 0,.int .u32 0,.int .u32 0,.int .u32 0] 321))=.ok () ((w3.alloc (.cells #[.int .u32 0,.int .u32 0,.int .u32 0,.int .u32 0,.int .u32 0,.int .u32 0,.int .u32 0,.int .u32 0,.int .u32 0,.int .u32 0,.int .u32 0,.int .u32 0,.int .u32 0,.int .u32 0,.int .u32 0,.int .u32 0] 321)).setCells w3.heap.size 0 (CR 16))):=fun w3 =>
  NR (heap_alloc_new w3 (.cells (CR 0).toArray 321))
 have iG:Hid (∀ w3:World,∀ i,i<16→((w3.alloc (.cells #[.int .u32 0,.int .u32 0,.int .u32 0,.int .u32 0,.int .u32 0,.int .u32 0,.int .u32 0,.int .u32 0,.int .u32 0,.int .u32 0,.int .u32 0,.int .u32 0,.int .u32 0,.int .u32 0,.int .u32 0,.int .u32 0] 321)).setCells w3.heap.size 0 (CR 16)).cell? ⟨w3.heap.size,i,none⟩=some (.int .u32 (GJ 4 i:Nat))):=fun w3 i hi =>
  cO (heap_alloc_new w3 (.cells (CR 0).toArray 321)) hi
 have IL:Hid (∀ w3:World,Below w3.heap.size w3 ((w3.alloc (.cells #[.int .u32 0,.int .u32 0,.int .u32 0,.int .u32 0,.int .u32 0,.int .u32 0,.int .u32 0,.int .u32 0,.int .u32 0,.int .u32 0,.int .u32 0,.int .u32 0,.int .u32 0,.int .u32 0,.int .u32 0,.int .u32 0] 321)).setCells w3.heap.size 0 (CR 16))):=fun w3 =>
  Hq _ (Nat.le_refl _) _ _ ((Below.refl _ _).alloc (Nat.le_refl _) _)
 have aE:∀ w,(isAgg 321).run Tryz.prog w=.ok true w:=Tryz.isAgg321
 obtain ⟨T,hT⟩:∃ T,CR 16=T:=⟨_,rfl⟩
 have hTL:T.length=16:=by rw [← hT,Da]
 rw [hT] at HH Yo iG IL
 clear hT
 go_enter Tryz.func189,Tryz.ntmps189
 go_upto_region 2 with (go_at_call 203;refine HH.out.mono ?_;rintro e w3 ⟨rfl,hB3⟩;have s1:=Yo.out w3)
 have htc:=iG.out w3
 have hbb:=hB3.trans ((IL.out w3).mono hB3.size)
 clear s1 Yo iG IL
 generalize (w3.alloc _).setCells w3.heap.size 0 T=wb at *
 generalize w3.heap.size=g at *
 have iG:=qh htc
 have IL:=qh hbb
 have hr2:=hrow.keep (AB _) (fun _ h=>h) (AR hbb hS)
 have HC:=qh (fun hp=>BU hr2 hp)
 clear htc hbb hB3 hrow hr2 h0 hTL
 generalize hnn:l.length=n at *
 have HN:=qh hnn
 clear hnn
 go_wp2_with fail
 go_loopw [0,11] (fun vr vi wr=>∃ (k q:Nat),vi=.int .i64 k∧vr=.int .u32 q∧k≤n∧q<4294967296∧Hid (IR q (l.drop k)=IR r l)∧wr=wb) (fun _ vi _=>n-(intOf vi).toNat)
 case atStart=>exact ⟨0,r,rfl,rfl,by omega,hr,rfl,rfl⟩
 case round =>
  obtain ⟨k,q,rfl,rfl,hk,hq,HS,rfl⟩:=hrel
  by_cases hlt:k<n
  · obtain ⟨b,off,rfl,hb,hcl⟩:=HC.out (by omega)
    have c0:=hcl k hlt
    have HD:Hid (l.drop k=nth 0 l k :: l.drop (k+1)):=by
     show _=_
     rw [AZ 0 l k (by rw [HN.out];exact hlt)]
     exact List.drop_eq_getElem_cons _
    clear hcl
    generalize nth 0 l k=u at *
    have hu:=u.toNat_lt
    have zC:IntKind.u32.wrap (u.toNat:Int)=(u.toNat:Int):=by rw [IntKind.wrap_u32'];omega
    obtain ⟨x,hx⟩:∃ x,q ^^^ u.toNat=x:=⟨_,rfl⟩
    have hxl:x<4294967296:=by rw [← hx];exact Nat.xor_lt_two_pow (n:=32) (by omega) (by omega)
    have hx1:bits .xor .u32 (q:Int) (u.toNat:Int)=(x:Int):=by rw [← hx];exact u32_xor_nat q u.toNat (by omega) (by omega)
    obtain ⟨i1,hi1⟩:∃ i,x % 16=i:=⟨_,rfl⟩
    have qi:i1<16:=by omega
    obtain ⟨t1,ht1⟩:∃ t,GJ 4 i1=t:=⟨_,rfl⟩
    have qj:t1<4294967296:=by rw [← ht1];exact Nl 4 (by omega)
    have m1:=iG.out i1 qi
    rw [ht1] at m1
    obtain ⟨y,hy⟩:∃ y,x / 16 ^^^ t1=y:=⟨_,rfl⟩
    have hyl:y<4294967296:=by rw [← hy];exact Nat.xor_lt_two_pow (n:=32) (by omega) (by omega)
    obtain ⟨i2,hi2⟩:∃ i,y % 16=i:=⟨_,rfl⟩
    have ql:i2<16:=by omega
    obtain ⟨t2,ht2⟩:∃ t,GJ 4 i2=t:=⟨_,rfl⟩
    have qm:t2<4294967296:=by rw [← ht2];exact Nl 4 (by omega)
    have m2:=iG.out i2 ql
    rw [ht2] at m2
    obtain ⟨z,hz⟩:∃ z,y / 16 ^^^ t2=z:=⟨_,rfl⟩
    have hzl:z<4294967296:=by rw [← hz];exact Nat.xor_lt_two_pow (n:=32) (by omega) (by omega)
    have HZ:Hid (IR z (l.drop (k+1))=IR r l):=by
     have e:=Tz q u (l.drop (k+1))
     rw [hx,Yn,hi1,ht1,hy,hi2,ht2,hz] at e
     exact e.symm.trans ((congrArg (IR q) HD.out.symm).trans HS.out)
    have hn1:bits .and .u32 (x:Int) 15=(i1:Int):=by
     have:=u32_and_nat x 15 hxl (by omega)
     rw [nat_mask4,hi1] at this
     exact this
    have hn2:bits .and .u32 (y:Int) 15=(i2:Int):=by
     have:=u32_and_nat y 15 hyl (by omega)
     rw [nat_mask4,hi2] at this
     exact this
    have hx2:bits .xor .u32 ((x:Int) / 16) (t1:Int)=(y:Int):=by
     rw [← hy,show ((x:Int) / 16)=((x / 16:Nat):Int) by omega]
     exact u32_xor_nat (x / 16) t1 (by omega) qj
    have hx3:bits .xor .u32 ((y:Int) / 16) (t2:Int)=(z:Int):=by
     rw [← hz,show ((y:Int) / 16)=((y / 16:Nat):Int) by omega]
     exact u32_xor_nat (y / 16) t2 (by omega) qm
    have AAA:(i1:Int)<16:=by omega
    have AAB:(i2:Int)<16:=by omega
    clear hx hi1 ht1 hy hi2 ht2 hz
    go_wp2_with fail
    go_roundw
    case rel=>exact ⟨k+1,z,by clear hx1 hn1 hn2 hx2 hx3;go_num,rfl,by clear hx1 hn1 hn2 hx2 hx3;omega,hzl,HZ,trivial⟩
    case measure=>(clear hx1 hn1 hn2 hx2 hx3;simp [intOf];omega)
  · obtain rfl:k=n:=by omega
    have HE:Hid (q=IR r l):=Vy HS.out (by rw [HN.out];exact Nat.le_refl _)
    go_wp2_with fail
    go_ret
    exact ⟨by rw [← HE.out];rfl,IL.out⟩
end
section
open Go.RowKit
attribute [local go_sem] Oper.semAt_some
set_option maxRecDepth 100000 in
theorem Rc (w:World) (S:Nat→Prop) (g o c1:Nat) (v:Value) (l:List UInt8) (hS:∀ b,S b→b<w.heap.size) (h:AU w S v l) (hn:l.length≤140737488355328) (hg:w.cell? ⟨g,o,none⟩=some v) :
 Calls Tryz.prog 166 #[.slice (some ⟨g,o,none⟩) 1 c1] w fun e w'=>e=.returned (.int .i64 (GK l:Nat))∧Below w.heap.size w w':=by
 have HR:=qh (Rb w S v 4294967295 l hS h (by omega) hn)
 obtain ⟨x,hx⟩:∃ x,IR 4294967295 l=x:=⟨_,rfl⟩
 have hxl:x<4294967296:=by rw [← hx];exact Nn l (by omega)
 rw [hx] at HR
 have HX:=qh hx
 obtain ⟨A,n,c,hv⟩:∃ A n c,v=.slice A n c:=by
  obtain ⟨A,c,e,_⟩:=h
  exact ⟨A,l.length,c,e⟩
 rw [hv] at hg HR
 clear hx h hv
 go_enter Tryz.func166,Tryz.ntmps166
 go_wp2_with fail
 go_loopw [3,8] (fun vr vi wr=>Hid ((vi=.int .i64 0∧vr=.int .u32 4294967295∧wr=w)∨(vi=.int .i64 1∧vr=.int .u32 x∧Below w.heap.size w wr))) (fun _ vi _=>1-(intOf vi).toNat)
 case atStart=>exact .inl ⟨rfl,rfl,rfl⟩
 case round =>
  rcases hrel.out with ⟨rfl,rfl,rfl⟩|⟨rfl,rfl,hB⟩
  · clear hrel
    go_wp2_with (go_at_call 189;refine HR.out.mono ?_;rintro e w3 ⟨rfl,hB3⟩)
    go_roundw
    case rel=>exact qh (.inr ⟨rfl,rfl,hB3⟩)
    case measure=>simp [intOf]
  · clear hrel
    obtain ⟨y,hy⟩:∃ y,x ^^^ 4294967295=y:=⟨_,rfl⟩
    have hyl:y<4294967296:=by rw [← hy];exact Nat.xor_lt_two_pow (n:=32) (by omega) (by omega)
    have hwy:IntKind.i64.wrap (y:Int)=(y:Int):=by rw [IntKind.wrap_i64];omega
    have HY:Hid (y=GK l):=by show _=_;unfold GK;rw [HX.out,hy]
    have hxe:bits .xor .u32 (x:Int) 4294967295=(y:Int):=by rw [← hy];exact u32_xor_nat x 4294967295 hxl (by omega)
    clear hy
    go_wp2_with fail
    go_ret
    exact ⟨by rw [← HY.out];rfl,hB⟩
end
section
open Go.RowKit
attribute [local go_sem] Oper.semAt_some
theorem Ii (w:World) (kind no:Int):Calls Tryz.prog 124 #[.int .i64 kind,.int .i64 no] w fun e w'=>e=.returned (.bool (decide (EU kind no)))∧w'=w:=by
 by_cases h1:1≤kind
 · by_cases h2:kind≤4
   · by_cases h3:0≤no
     · by_cases h4:no<14400
       · have HD:Hid (decide (EU kind no)=true):=decide_eq_true ⟨h1,h2,h3,h4⟩
         go_enter Tryz.func124,Tryz.ntmps124
         go_wp2
         go_ret
         exact ⟨by rw [HD.out];rfl,rfl⟩
       · have HD:Hid (decide (EU kind no)=false):=decide_eq_false (fun h=>h4 h.2.2.2)
         go_enter Tryz.func124,Tryz.ntmps124
         go_wp2
         go_ret
         exact ⟨by rw [HD.out];rfl,rfl⟩
     · have HD:Hid (decide (EU kind no)=false):=decide_eq_false (fun h=>h3 h.2.2.1)
       go_enter Tryz.func124,Tryz.ntmps124
       go_wp2
       go_ret
       exact ⟨by rw [HD.out];rfl,rfl⟩
   · have HD:Hid (decide (EU kind no)=false):=decide_eq_false (fun h=>h2 h.2.1)
     go_enter Tryz.func124,Tryz.ntmps124
     go_wp2
     go_ret
     exact ⟨by rw [HD.out];rfl,rfl⟩
 · have HD:Hid (decide (EU kind no)=false):=decide_eq_false (fun h=>h1 h.1)
   go_enter Tryz.func124,Tryz.ntmps124
   go_wp2
   go_ret
   exact ⟨by rw [HD.out];rfl,rfl⟩
theorem WZ (w:World) (kind:Int):Calls Tryz.prog 167 #[.int .i64 kind] w fun e w'=>e=.returned (.int .i64 (Gl kind:Nat))∧w'=w:=by
 have key:∀ z:Nat,Gl kind=z→((kind=1∧z=160774)∨(kind=2∧z=121107)∨(kind=3∧z=240779)∨(kind=4∧z=160478)∨(kind≠1∧kind≠2∧kind≠3∧kind≠4∧z=0)):=by
  intro z hz
  unfold Gl at hz
  split at hz
  · exact .inl ⟨by assumption,hz.symm⟩
  · split at hz
    · exact .inr (.inl ⟨by assumption,hz.symm⟩)
    · split at hz
      · exact .inr (.inr (.inl ⟨by assumption,hz.symm⟩))
      · split at hz
        · exact .inr (.inr (.inr (.inl ⟨by assumption,hz.symm⟩)))
        · exact .inr (.inr (.inr (.inr ⟨by assumption,by assumption,by assumption,by assumption,hz.symm⟩)))
 have hk:=key _ rfl
 generalize Gl kind=z at *
 clear key
 rcases hk with ⟨rfl,rfl⟩|⟨rfl,rfl⟩|⟨rfl,rfl⟩|⟨rfl,rfl⟩|⟨h1,h2,h3,h4,rfl⟩
 · go_enter Tryz.func167,Tryz.ntmps167
   go_wp2
   go_ret
   exact ⟨rfl,rfl⟩
 · go_enter Tryz.func167,Tryz.ntmps167
   go_wp2
   go_ret
   exact ⟨rfl,rfl⟩
 · go_enter Tryz.func167,Tryz.ntmps167
   go_wp2
   go_ret
   exact ⟨rfl,rfl⟩
 · go_enter Tryz.func167,Tryz.ntmps167
   go_wp2
   go_ret
   exact ⟨rfl,rfl⟩
 · have b1:(kind==1)=false:=beq_false_of_ne h1
   have b2:(kind==2)=false:=beq_false_of_ne h2
   have b3:(kind==3)=false:=beq_false_of_ne h3
   have b4:(kind==4)=false:=beq_false_of_ne h4
   clear h1 h2 h3 h4
   go_enter Tryz.func167,Tryz.ntmps167
   go_wp2
   go_ret
   exact ⟨rfl,rfl⟩
theorem TN (kind:Int):Gl kind<4294967296:=by
 unfold Gl
 split
 · omega
 · split
   · omega
   · split
     · omega
     · split <;> omega
theorem Py (w:World) (S:Nat→Prop) (v:Value) (l:List UInt8) (a n:Nat) (hS:∀ b,S b→b<w.heap.size) (h:AU w S v l) (hn:n=2∨n=4) (ha:a+n≤l.length) (hl:l.length≤140737488355328) :
 Calls Tryz.prog 145 #[v,.int .i64 a,.int .i64 n] w fun e w'=>e=.returned (.int .i64 (AC l a n:Nat))∧w'=w:=by
 have hg:=IC w S v l a n hS h (by rcases hn with h|h <;> (unfold Nk;omega)) ha hl
 have hlt:AC l a n<4294967296:=by
  have h:=EF (l:=l) (a:=a) (n:=n)
  have h2:256 ^ n≤256 ^ 4:=Nat.pow_le_pow_right (by omega) (by rcases hn with h|h <;> omega)
  omega
 rw [if_neg (by omega)] at hg
 have HG:=qh hg
 obtain ⟨A,c,rfl,hc,hr⟩:=h
 clear hr hg
 generalize AC l a n=R at *
 go_enter Tryz.func145,Tryz.ntmps145
 go_wp2_with (go_at_call 89;refine HG.out.mono ?_;rintro e w3 ⟨rfl,rfl⟩)
 go_ret
 exact ⟨rfl,rfl⟩
set_option maxRecDepth 100000 in
theorem KQ (w:World) (S:Nat→Prop) (v:Value) (l:List UInt8) (kind:Int) (hS:∀ b,S b→b<w.heap.size) (h:AU w S v l) (hl:l.length=256) :
 Calls Tryz.prog 126 #[v,.int .i64 kind] w fun e w'=>e=.returned (.int .i64 (Fz l kind:Nat))∧Below w.heap.size w w':=by
 obtain ⟨A,c,rfl,hc,hr⟩:=h
 obtain ⟨b,off,rfl,hb,_⟩:=BU hr (by omega)
 have hrt:=hr.take 252
 have htl:(l.take 252).length=252:=by rw [List.length_take];omega
 have cZ:Hid (∀ w',Below w.heap.size w w'→∀ g,w'.cell? ⟨g,0,none⟩=some (.slice (some ⟨b,off,none⟩) 252 c)→Calls Tryz.prog 166 #[.slice (some ⟨g,0,none⟩) 1 1] w' fun e w''=>e=.returned (.int .i64 (GK (l.take 252):Nat))∧Below w'.heap.size w' w''):=fun w' hB g hg =>
  Rc w' S g 0 1 _ (l.take 252) (fun b hb=>Nat.lt_of_lt_of_le (hS b hb) hB.size) ⟨_,c,by rw [htl],by rw [htl];omega,hrt.keep (AB _) (fun _ h=>h) (AR hB hS)⟩ (by rw [htl];omega) hg
 have Yo:=qh (fun w'=>WZ w' kind)
 have Uh:=Jy (l.take 252)
 have Ke:=TN kind
 obtain ⟨x,hx⟩:∃ x,GK (l.take 252)=x:=⟨_,rfl⟩
 obtain ⟨y,hy⟩:∃ y,Gl kind=y:=⟨_,rfl⟩
 rw [hx] at cZ Uh
 rw [hy] at Yo Ke
 have WY:bits .xor .i64 (x:Int) (y:Int)=((x ^^^ y:Nat):Int):=PR x y (by omega) (by omega)
 have HXY:Hid (x ^^^ y=Fz l kind):=by show _=_;unfold Fz;rw [hx,hy]
 rw [hl] at hc ⊢
 have hcz:(252:Int)≤(c:Int):=by omega
 have hB1:Below w.heap.size w (w.alloc (.cells #[.slice (some ⟨b,off,none⟩) 252 c] 82)):=(Below.refl _ _).alloc (Nat.le_refl _) _
 have hg1:(w.alloc (.cells #[.slice (some ⟨b,off,none⟩) 252 c] 82)).cell? ⟨w.heap.size,0,none⟩=some (.slice (some ⟨b,off,none⟩) 252 c):=by
  exact (cell_of_row _ _ 0 _ _ (0,0) (heap_alloc_new w (.cells #[.slice (some ⟨b,off,none⟩) 252 c] 82))).trans rfl
 have qp:=qh (cZ.out _ hB1 _ hg1)
 clear hr hrt hx hy hl htl hg1
 go_enter Tryz.func126,Tryz.ntmps126
 go_wp2_with (first
  | (go_at_call 166;refine qp.out.mono ?_;rintro e w3 ⟨rfl,hB3⟩;have hk3:=hB1.trans (hB3.mono hB1.size))
  | (go_at_call 167;refine (Yo.out _).mono ?_;rintro e w4 ⟨rfl,rfl⟩))
 go_ret
 exact ⟨by rw [← HXY.out];rfl,hk3⟩
end
section
open Go.RowKit
attribute [local go_sem] Oper.semAt_some
def Bx (w:World) (b:Nat) (v:Value):Prop:=w.cell? ⟨b,0,none⟩=some v∧b<w.heap.size
theorem Bx.below {w w':World} {b B:Nat} {v:Value} (h:Bx w b v) (hB:Below B w w') (hb:b<B):Bx w' b v:=⟨(hB.cell (p:=⟨b,0,none⟩) hb).trans h.1,Nat.lt_of_lt_of_le h.2 hB.size⟩
theorem qw (w:World) (b1 b2:Nat) (kind no:Int) (h1:Bx w b1 (.int .i64 kind)) (h2:Bx w b2 (.int .i64 no)):Calls Tryz.prog 142 #[.pointer (some ⟨b1,0,none⟩),.pointer (some ⟨b2,0,none⟩)] w fun e w'=>e=.returned (.bool (!decide (EU kind no)))∧Below w.heap.size w w':=by
 have c1:=h1.1
 have c2:=h2.1
 have HK:=qh (Ii w kind no)
 generalize decide (EU kind no)=z at *
 clear h1 h2
 go_enter Tryz.func142,Tryz.ntmps142
 go_wp2_with (go_at_call 124;refine HK.out.mono ?_;rintro e w3 ⟨rfl,rfl⟩)
 go_ret
 exact ⟨by cases z <;> rfl,Below.refl _ _⟩
theorem qx (w:World) (b0 n c:Nat) (A:Option Addr) (h0:Bx w b0 (.slice A n c)):Calls Tryz.prog 143 #[.pointer (some ⟨b0,0,none⟩)] w fun e w'=>e=.returned (.bool (decide (n≠256)))∧Below w.heap.size w w':=by
 have c0:=h0.1
 clear h0
 by_cases hn:n=256
 · subst hn
   go_enter Tryz.func143,Tryz.ntmps143
   go_wp2
   go_ret
   exact ⟨rfl,Below.refl _ _⟩
 · have hz:((n:Int) != 256)=true:=by rw [bne_iff_ne];omega
   have HD:Hid (decide (n≠256)=true):=decide_eq_true hn
   clear hn
   go_enter Tryz.func143,Tryz.ntmps143
   go_wp2
   go_ret
   exact ⟨by rw [HD.out];rfl,Below.refl _ _⟩
theorem qy (w:World) (S:Nat→Prop) (b0 c:Nat) (A:Option Addr) (l:List UInt8) (hS:∀ b,S b→b<w.heap.size) (h:AU w S (.slice A 256 c) l) (hl:l.length=256) (h0:Bx w b0 (.slice A 256 c)) :
 Calls Tryz.prog 148 #[.pointer (some ⟨b0,0,none⟩)] w fun e w'=>e=.returned (.bool (decide (AC l 6 2≠0)))∧Below w.heap.size w w':=by
 have c0:=h0.1
 have HT:=qh (Py w S _ l 6 2 hS h (.inl rfl) (by omega) (by omega))
 clear h0 h
 generalize AC l 6 2=q at *
 by_cases hq:q=0
 · subst hq
   go_enter Tryz.func148,Tryz.ntmps148
   go_wp2_with (go_at_call 145;refine HT.out.mono ?_;rintro e w3 ⟨rfl,rfl⟩)
   go_ret
   exact ⟨rfl,Below.refl _ _⟩
 · have hz:((q:Int) != 0)=true:=by rw [bne_iff_ne];omega
   have HD:Hid (decide (q≠0)=true):=decide_eq_true hq
   clear hq
   go_enter Tryz.func148,Tryz.ntmps148
   go_wp2_with (go_at_call 145;refine HT.out.mono ?_;rintro e w3 ⟨rfl,rfl⟩)
   go_ret
   exact ⟨by rw [HD.out];rfl,Below.refl _ _⟩
end
section
open Go.RowKit
attribute [local go_sem] Oper.semAt_some
theorem Ld (w:World) (S:Nat→Prop) (v:Value) (l:List UInt8) (a n:Nat) (hS:∀ b,S b→b<w.heap.size) (h:AU w S v l) (hn:n=2∨n=4) (ha:a+n≤l.length) (hl:l.length≤140737488355328) :
 Calls Tryz.prog 145 #[v,.int .i64 a,.int .i64 n] w fun e w'=>e=.returned (.int .i64 (AC l a n:Nat))∧Below w.heap.size w w':=by
 refine (Py w S v l a n hS h hn ha hl).mono ?_
 rintro e w' ⟨rfl,rfl⟩
 exact ⟨rfl,Below.refl _ _⟩
theorem TP {a b:Int}:(a != b)=decide (a≠b):=by
 by_cases h:a=b
 · subst h;simp
 · simp [h]
set_option maxRecDepth 100000 in
theorem qz (w:World) (S:Nat→Prop) (b0 b1 c:Nat) (A:Option Addr) (l:List UInt8) (kind:Int) (hS:∀ b,S b→b<w.heap.size) (h:AU w S (.slice A 256 c) l) (hl:l.length=256) (h0:Bx w b0 (.slice A 256 c)) (h1:Bx w b1 (.int .i64 kind)) :
 Calls Tryz.prog 144 #[.pointer (some ⟨b0,0,none⟩),.pointer (some ⟨b1,0,none⟩)] w fun e w'=>e=.returned (.bool (decide (AC l 252 4≠Fz l kind)))∧Below w.heap.size w w':=by
 have HC:Hid (∀ w',Below w.heap.size w w'→w'.cell? ⟨b0,0,none⟩=some (.slice A 256 c)∧w'.cell? ⟨b1,0,none⟩=some (.int .i64 kind)):=fun w' hB=>⟨(h0.below hB h0.2).1,(h1.below hB h1.2).1⟩
 have HI:Hid (∀ w',Below w.heap.size w w'→AU w' S (.slice A 256 c) l):=fun w' hB=>h.keep (AB _) (fun _ h=>h) (AR hB hS)
 have HT:Hid (∀ w',Below w.heap.size w w'→Calls Tryz.prog 145 #[.slice A 256 c,.int .i64 252,.int .i64 4] w' fun e w''=>e=.returned (.int .i64 (AC l 252 4:Nat))∧Below w'.heap.size w' w''):=fun w' hB=>Ld w' S _ l 252 4 (fun b hb=>Nat.lt_of_lt_of_le (hS b hb) hB.size) (HI.out w' hB) (.inr rfl) (by omega) (by omega)
 have HSM:Hid (∀ w',Below w.heap.size w w'→Calls Tryz.prog 126 #[.slice A 256 c,.int .i64 kind] w' fun e w''=>e=.returned (.int .i64 (Fz l kind:Nat))∧Below w'.heap.size w' w''):=fun w' hB=>KQ w' S _ l kind (fun b hb=>Nat.lt_of_lt_of_le (hS b hb) hB.size) (HI.out w' hB) hl
 have HD:Hid (((AC l 252 4:Int) != (Fz l kind:Int))=decide (AC l 252 4≠Fz l kind)):=by
  show _=_
  by_cases he:AC l 252 4=Fz l kind
  · rw [he];simp
  · rw [decide_eq_true he,bne_iff_ne];omega
 obtain ⟨z,hz⟩:∃ z,decide (AC l 252 4≠Fz l kind)=z:=⟨_,rfl⟩
 rw [hz] at HD ⊢
 clear h h0 h1 hz
 generalize AC l 252 4=q at *
 generalize Fz l kind=s at *
 go_enter Tryz.func144,Tryz.ntmps144
 go_upto_region 1 with fail
 refine AJ (T:=fun _=>false) (S:=fun w'=>Below w.heap.size w w') (by kernel_rfl) (Below.refl w.heap.size w).drew (fun hHeld=>?_)
 obtain ⟨BN,hw0⟩:∃ x,w.drew=x:=⟨_,rfl⟩
 rw [hw0] at hHeld ⊢
 have AF:Below w.heap.size w BN:=hHeld
 clear hHeld hw0
 refine qf 0 3 rfl rfl AF (by intro w2' hSw;obtain ⟨c0,c1⟩:=HC.out _ hSw;go_simp;(try with_reducible rfl)) ?_
 refine qf 2 5 rfl rfl AF (by intro w2' hSw;obtain ⟨c0,c1⟩:=HC.out _ hSw;go_simp;(try with_reducible rfl)) ?_
 refine qf 3 6 rfl rfl AF (by intro w2' hSw;obtain ⟨c0,c1⟩:=HC.out _ hSw;go_simp;(try with_reducible rfl)) ?_
 refine qo 1 fun K hK=>?_
 go_simp
 refine (HT.out _ AF).mono ?_
 rintro e BP ⟨rfl,hw⟩
 have AF:=AF.trans (hw.mono AF.size)
 refine hK.out _ _ (fun _=>AF) (fun _=>?_)
 clear hK K
 (try simp only [Act.put,qS,qZ,qU])
 refine qo 4 fun K hK=>?_
 go_simp
 refine (HSM.out _ AF).mono ?_
 rintro e Cz ⟨rfl,BX⟩
 have AF:=AF.trans (BX.mono AF.size)
 refine hK.out _ _ (fun _=>AF) (fun _=>?_)
 clear hK K
 (try simp only [Act.put,qS,qZ,qU])
 refine qs 5 8 AF ?_
 refine qs 6 2 AF ?_
 refine qd ?_
 all_goals (try go_wp2)
 go_ret
 exact ⟨by rw [← HD.out];rfl,AF⟩
set_option maxRecDepth 100000 in
theorem q8 (w:World) (S:Nat→Prop) (b0 b1 c:Nat) (A:Option Addr) (l:List UInt8) (x:Int) (hS:∀ b,S b→b<w.heap.size) (h:AU w S (.slice A 256 c) l) (hl:l.length=256) (h0:Bx w b0 (.slice A 256 c)) (h1:Bx w b1 (.int .i64 x)) :
 Calls Tryz.prog 146 #[.pointer (some ⟨b0,0,none⟩),.pointer (some ⟨b1,0,none⟩)] w fun e w'=>e=.returned (.bool (decide ((AC l 0 4:Int)≠x)))∧Below w.heap.size w w':=by
 have HC:Hid (∀ w',Below w.heap.size w w'→w'.cell? ⟨b0,0,none⟩=some (.slice A 256 c)∧w'.cell? ⟨b1,0,none⟩=some (.int .i64 x)):=fun w' hB=>⟨(h0.below hB h0.2).1,(h1.below hB h1.2).1⟩
 have HT:Hid (∀ w',Below w.heap.size w w'→Calls Tryz.prog 145 #[.slice A 256 c,.int .i64 0,.int .i64 4] w' fun e w''=>e=.returned (.int .i64 (AC l 0 4:Nat))∧Below w'.heap.size w' w''):=fun w' hB=>Ld w' S _ l 0 4 (fun b hb=>Nat.lt_of_lt_of_le (hS b hb) hB.size) (h.keep (AB _) (fun _ h=>h) (AR hB hS)) (by omega) (by omega) (by omega)
 have HD:Hid (((AC l 0 4:Int) != x)=decide ((AC l 0 4:Int)≠x)):=TP
 obtain ⟨z,hz⟩:∃ z,decide ((AC l 0 4:Int)≠x)=z:=⟨_,rfl⟩
 rw [hz] at HD ⊢
 clear h h0 h1 hz
 generalize AC l 0 4=q at *
 go_enter Tryz.func146,Tryz.ntmps146
 go_upto_region 1 with fail
 refine AJ (T:=fun _=>false) (S:=fun w'=>Below w.heap.size w w') (by kernel_rfl) (Below.refl w.heap.size w).drew (fun hHeld=>?_)
 obtain ⟨Ka,hw0⟩:∃ x,w.drew=x:=⟨_,rfl⟩
 rw [hw0] at hHeld ⊢
 have AF:Below w.heap.size w Ka:=hHeld
 clear hHeld hw0
 refine qf 0 3 rfl rfl AF (by intro w2' hSw;obtain ⟨c0,c1⟩:=HC.out _ hSw;go_simp;(try with_reducible rfl)) ?_
 refine qf 2 5 rfl rfl AF (by intro w2' hSw;obtain ⟨c0,c1⟩:=HC.out _ hSw;go_simp;(try with_reducible rfl)) ?_
 refine qo 1 fun K hK=>?_
 go_simp
 refine (HT.out _ AF).mono ?_
 rintro e Ev ⟨rfl,hw⟩
 have AF:=AF.trans (hw.mono AF.size)
 refine hK.out _ _ (fun _=>AF) (fun _=>?_)
 clear hK K
 (try simp only [Act.put,qS,qZ,qU])
 refine qs 3 6 AF ?_
 refine qs 4 2 AF ?_
 refine qd ?_
 all_goals (try go_wp2)
 go_ret
 exact ⟨by rw [← HD.out];rfl,AF⟩
set_option maxRecDepth 100000 in
theorem rA (w:World) (S:Nat→Prop) (b0 b1 c:Nat) (A:Option Addr) (l:List UInt8) (x:Int) (hS:∀ b,S b→b<w.heap.size) (h:AU w S (.slice A 256 c) l) (hl:l.length=256) (h0:Bx w b0 (.slice A 256 c)) (h1:Bx w b1 (.int .i64 x)) :
 Calls Tryz.prog 147 #[.pointer (some ⟨b0,0,none⟩),.pointer (some ⟨b1,0,none⟩)] w fun e w'=>e=.returned (.bool (decide ((AC l 4 2:Int)≠x)))∧Below w.heap.size w w':=by
 have HC:Hid (∀ w',Below w.heap.size w w'→w'.cell? ⟨b0,0,none⟩=some (.slice A 256 c)∧w'.cell? ⟨b1,0,none⟩=some (.int .i64 x)):=fun w' hB=>⟨(h0.below hB h0.2).1,(h1.below hB h1.2).1⟩
 have HT:Hid (∀ w',Below w.heap.size w w'→Calls Tryz.prog 145 #[.slice A 256 c,.int .i64 4,.int .i64 2] w' fun e w''=>e=.returned (.int .i64 (AC l 4 2:Nat))∧Below w'.heap.size w' w''):=fun w' hB=>Ld w' S _ l 4 2 (fun b hb=>Nat.lt_of_lt_of_le (hS b hb) hB.size) (h.keep (AB _) (fun _ h=>h) (AR hB hS)) (by omega) (by omega) (by omega)
 have HD:Hid (((AC l 4 2:Int) != x)=decide ((AC l 4 2:Int)≠x)):=TP
 obtain ⟨z,hz⟩:∃ z,decide ((AC l 4 2:Int)≠x)=z:=⟨_,rfl⟩
 rw [hz] at HD ⊢
 clear h h0 h1 hz
 generalize AC l 4 2=q at *
 go_enter Tryz.func147,Tryz.ntmps147
 go_upto_region 1 with fail
 refine AJ (T:=fun _=>false) (S:=fun w'=>Below w.heap.size w w') (by kernel_rfl) (Below.refl w.heap.size w).drew (fun hHeld=>?_)
 obtain ⟨Kc,hw0⟩:∃ x,w.drew=x:=⟨_,rfl⟩
 rw [hw0] at hHeld ⊢
 have AF:Below w.heap.size w Kc:=hHeld
 clear hHeld hw0
 refine qf 0 3 rfl rfl AF (by intro w2' hSw;obtain ⟨c0,c1⟩:=HC.out _ hSw;go_simp;(try with_reducible rfl)) ?_
 refine qf 2 5 rfl rfl AF (by intro w2' hSw;obtain ⟨c0,c1⟩:=HC.out _ hSw;go_simp;(try with_reducible rfl)) ?_
 refine qo 1 fun K hK=>?_
 go_simp
 refine (HT.out _ AF).mono ?_
 rintro e RX ⟨rfl,hw⟩
 have AF:=AF.trans (hw.mono AF.size)
 refine hK.out _ _ (fun _=>AF) (fun _=>?_)
 clear hK K
 (try simp only [Act.put,qS,qZ,qU])
 refine qs 3 6 AF ?_
 refine qs 4 2 AF ?_
 refine qd ?_
 all_goals (try go_wp2)
 go_ret
 exact ⟨by rw [← HD.out];rfl,AF⟩
end
end Go.Proofs.YthblbddmcdnllaaGreatDoor
