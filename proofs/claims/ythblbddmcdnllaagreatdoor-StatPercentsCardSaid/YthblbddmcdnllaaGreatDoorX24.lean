/- A part of the proof: CopyK, AppZ. -/
import Derived.Test.YthblbddmcdnllaaGreatDoorX3
import Derived.Laws.CopyOwn
import Derived.Lib.AppendZerosOnto
import Derived.Lib.Overlaps
import Derived.Lib.JoinLaws
import Derived.Shelf.Spec.SlicesInsert
import Derived.Lib.AppendStr
import Derived.Test.YthblbddmcdnllaaGreatDoorY1
set_option maxHeartbeats 6400000
set_option linter.unusedVariables false
set_option linter.unusedSimpArgs false
namespace Go.Proofs.YthblbddmcdnllaaGreatDoor
section
open Go Go.RowKit
section
variable {w:World} {base e size g n c:Nat} {xs:List Value}
theorem Wt (h:w.ownsRow base e size (.slice (some ⟨g,0,none⟩) n c) n xs):∃ cur:Array Value,base≤g∧w.heap[g]? = some (.cells cur e (0,0))∧n≤c∧c≤maxLen∧cur.size=c*size∧cur.toList.take (n*size)=xs:=by
 rcases h.2 with ⟨hv,_⟩|⟨g',cap',cur,hv,hb,hg,hnc,hcm,hcs,htake⟩
 · injection hv with e1;cases e1
 · injection hv with e1 e2 e3
   injection e1 with e1
   injection e1 with e1
   subst e1 e3
   exact ⟨cur,hb,hg,hnc,hcm,hcs,htake⟩
theorem OI (g:Nat) (cs:Array Value):w.grownBy (w.setRow g cs) (some g) :=
 ⟨rfl,rfl,rfl,by simp [World.setRow],fun k _ hne=>setRow_other w g k cs (fun e=>hne (by rw [e]))⟩
end
end
section
open Go Go.RowKit
theorem Ik (k:Nat):Builtin.zeroCells (Value.int .u8 0).cells k=(List.replicate k (Value.int .u8 0)).toArray:=by
 apply Array.ext'
 apply List.ext_getElem
 · simp [Builtin.zeroCells,Value.cells]
 · intro i h1 h2
   simp [Builtin.zeroCells,Value.cells,Nat.mod_one]
theorem QA (k:Nat):∀ u∈List.replicate k (Value.int .u8 0),u.oneCell'=true:=by
 intro u hu
 rw [List.eq_of_mem_replicate hu]
 rfl
theorem Gu {P:Program} (w:World) (t tn ty e:TypeId) (i:TypeInfo) (kn:IntKind) (ht:P.underlying t=some (.slice e)) (htn:P.underlying tn=some (.int kn)) (hi:P.info? e=some i) (hz:i.zero=some (.int .u8 0)) (hs1:i.size=1) (hby:i.bytes=1)
 (g sLen sCap:Nat) (cur:Array Value) (hg:w.heap[g]? = some (.cells cur e (0,0))) (k:Nat) (h0:0<k) (hk:k≤1000000)
 (hroom:sLen+k≤sCap) (hfit:sLen+k≤cur.size) :
 (Builtin.append_ #[t,tn] ty #[.slice (some ⟨g,0,none⟩) sLen sCap,.int .i64 k]).run P w =
  .ok (.slice (some ⟨g,0,none⟩) (sLen+k) sCap) (w.setRow g (cur.toList.take sLen++List.replicate k (Value.int .u8 0)++cur.toList.drop (sLen+k)).toArray):=by
 have hst:=run_storeCells_at P g sLen e (List.replicate k (Value.int .u8 0)) 0 cur w hg (by simpa using hfit) (QA k)
 simp only [Nat.add_zero,List.length_replicate] at hst
 have hw:IntKind.i64.wrap (k:Int)=k:=by rw [IntKind.wrap_i64];omega
 have h48i:¬ (281474976710656<(k:Int)):=by omega
 have hneg:¬ ((k:Int)<0):=by omega
 have hns:¬ k=0:=by omega
 have hzc:=Ik k
 simp [Builtin.append_,run_underlying ht,run_underlying htn,sizeOf,typeInfo,zeroValue,hi,hz,hs1,hby,asInt,asIntOf,hw,hneg,hns,h48i,hroom,hzc,Addr.add_lit,hst]
theorem Ht {P:Program} (w:World) (base:Nat) (t tn ty e:TypeId) (i:TypeInfo) (kn:IntKind) (ht:P.underlying t=some (.slice e)) (htn:P.underlying tn=some (.int kn)) (hi:P.info? e=some i) (hz:i.zero=some (.int .u8 0)) (hsize:i.size=1) (hby:i.bytes=1)
 (g n cap:Nat) (xs:List Value) (hown:w.ownsRow base e 1 (.slice (some ⟨g,0,none⟩) n cap) n xs) (k:Nat) (h0:0<k) (hk:k≤1000000) (hn:n≤1000000) (hbase:base≤w.heap.size) :
 ∃ g' c' w',(Builtin.append_ #[t,tn] ty #[.slice (some ⟨g,0,none⟩) n cap,.int .i64 k]).run P w=.ok (.slice (some ⟨g',0,none⟩) (n+k) c') w'∧w'.ownsRow base e 1 (.slice (some ⟨g',0,none⟩) (n+k) c') (n+k) (xs++List.replicate k (Value.int .u8 0))∧w.grownBy w' (some g):=by
 have hxl:xs.length=n:=by simpa using hown.1
 have hlen:(xs++List.replicate k (Value.int .u8 0)).length=(n+k)*1:=by rw [List.length_append,hxl,List.length_replicate,Nat.mul_one]
 have hmx:maxLen=9223372036854775807:=rfl
 obtain ⟨cur,hbg,hg,hnc,hcm,hcs,htake⟩:=Wt hown
 by_cases hroom:n+k≤cap
 · have hcs':cur.size=cap:=by simpa using hcs
   have hr:=Gu (P:=P) w t tn ty e i kn ht htn hi hz hsize hby g n cap cur hg k h0 hk hroom (by omega)
   refine ⟨_,_,_,hr,⟨hlen,.inr ⟨g,cap,_,rfl,hbg,setRow_heap w g cur _ e _ hg,hroom,hcm,?_,?_⟩⟩,OI _ _⟩
   · simp only [List.size_toArray,List.length_append,List.length_take,List.length_drop,Array.length_toList,List.length_replicate]
     omega
   · have ht':cur.toList.take n=xs:=by simpa using htake
     rw [ht',← hlen]
     exact List.take_left
 · have holds:∀ j u,xs[j]? = some u→w.cell? ((⟨g,0,none⟩:Addr).add j)=some u:=hown.cells (g:=g) rfl
   have hfo:(Builtin.firstCells i.size n (.slice (some ⟨g,0,none⟩) n cap)).run P w.drew=.ok xs.toArray w.drew:=run_firstCells_some (P:=P) w.drew i.size n ⟨g,0,none⟩ n cap xs (by rw [hsize,hxl,Nat.mul_one]) (by simpa using holds)
   have hr:=Lib.run_append_grow_zeros (P:=P) w t tn ty e i (.int .u8 0) .i64 kn ht htn hi hz (some ⟨g,0,none⟩) n cap xs hfo k h0 (by omega) (by omega) (by omega) (by rw [hby];omega) (by rw [hby];exact growslice_fits (by omega) (by omega))
   refine ⟨_,_,_,hr,⟨hlen,.inr ⟨w.heap.size,_,_,rfl,hbase,heap_alloc_new w.drew _,grownCap_ge w (n+k) cap e,grownCap_le_maxLen w (n+k) cap e (by omega),?_,?_⟩⟩,⟨rfl,rfl,rfl,by simp,fun q hq _=>(Below.heap_alloc w.drew _ q hq)⟩⟩
   · have hz1:(Value.int IntKind.u8 0).cells.size=1:=rfl
     have hge:=grownCap_ge w (n+k) cap e
     simp only [Array.size_append,List.size_toArray,size_zeroCells,hz1,hxl]
     omega
   · rw [Ik k]
     simp only [Array.toList_append,List.append_assoc]
     rw [← List.append_assoc,← hlen]
     exact List.take_left
end
end Go.Proofs.YthblbddmcdnllaaGreatDoor
