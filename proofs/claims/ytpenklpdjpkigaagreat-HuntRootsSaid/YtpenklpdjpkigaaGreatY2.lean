/- Part 2 of the proof: Touch, SpanP, RegApp, ClearK, Cells, AppOpt, AppB, Bytes, CodeP, UnpP, PackP, ValueP, Strs, CrcP, SealP. -/
import Derived.Test.YtpenklpdjpkigaaGreatY1
import Derived.Maps.AppendAt
import Derived.Laws.IdiomCopy
import Derived.Laws.OwnMore
import Derived.Lib.SliceRun
import Derived.Deep.Slices
import Derived.Laws.AppendOwnNone
import Derived.Laws.BytesArg
import Derived.Laws.CopyOwn
set_option maxHeartbeats 6400000
set_option linter.unusedVariables false
set_option linter.unusedSimpArgs false
namespace Go.Proofs.YtpenklpdjpkigaaGreat
section
open Go.RowKit
def Touch (R:Nat→Prop) (w w':World):Prop:=w'.os=w.os∧w'.tape=w.tape∧w'.output=w.output∧w.heap.size≤w'.heap.size∧∀ x,x<w.heap.size→¬ R x→w'.heap[x]? = w.heap[x]?
section
variable {R:Nat→Prop} {w w' w'':World}
theorem Touch.refl:Touch R w w:=⟨rfl,rfl,rfl,Nat.le_refl _,fun _ _ _=>rfl⟩
theorem Touch.trans (h:Touch R w w') (k:Touch R w' w''):Touch R w w'' :=
 ⟨k.1.trans h.1,k.2.1.trans h.2.1,k.2.2.1.trans h.2.2.1,Nat.le_trans h.2.2.2.1 k.2.2.2.1,fun x hx hr=>(k.2.2.2.2 x (Nat.lt_of_lt_of_le hx h.2.2.2.1) hr).trans (h.2.2.2.2 x hx hr)⟩
theorem Touch.weak {R':Nat→Prop} (h:Touch R w w') (hr:∀ x,R x→R' x):Touch R' w w':=⟨h.1,h.2.1,h.2.2.1,h.2.2.2.1,fun x hx hn=>h.2.2.2.2 x hx (fun e=>hn (hr x e))⟩
theorem Touch.size (h:Touch R w w'):w.heap.size≤w'.heap.size:=h.2.2.2.1
theorem Touch.block (h:Touch R w w') {x:Nat} (hx:x<w.heap.size) (hr:¬ R x):w'.heap[x]? = w.heap[x]? := h.2.2.2.2 x hx hr
theorem Touch.of_below (h:Below w.heap.size w w'):Touch R w w':=⟨h.os,h.tape,h.output,h.size,fun x hx _=>h.block x hx⟩
theorem Touch.BO {row:Option Nat} (h:w.grownBy w' row) (hr:∀ x,row=some x→R x):Touch R w w' :=
 ⟨h.os,h.tape,h.output,h.size,fun x hx hn=>h.block x hx (fun e=>hn (hr x e.symm))⟩
theorem Touch.drew:Touch R w w.drew:=⟨rfl,rfl,rfl,Nat.le_refl _,fun _ _ _=>rfl⟩
theorem Touch.drewN (n:Nat):Touch R w (w.drewN n):=⟨rfl,rfl,rfl,Nat.le_refl _,fun _ _ _=>rfl⟩
theorem Touch.alloc (o:Obj):Touch R w (w.alloc o):=⟨rfl,rfl,rfl,by simp,fun x hx _=>Below.heap_alloc w o x hx⟩
theorem Touch.Dc {p:Addr} {u:Value} (hp:R p.block):Touch R w (w.setCell p u) :=
 ⟨rfl,rfl,rfl,by simp [World.setCell],fun x _ hr=>Below.heap_setCell w p u x (fun e=>hr (by rw [e];exact hp))⟩
theorem Touch.below {base:Nat} (h:Touch R w w') (hR:∀ x,R x→base≤x) (hb:base≤w.heap.size):Below base w w' :=
 ⟨h.1,h.2.1,h.2.2.1,h.size,fun x hx=>h.block (by omega) (fun hr=>by have:=hR x hr;omega)⟩
theorem BG {base e size:Nat} {v:Value} {n:Nat} {xs:List Value} (h:w.ownsRow base e size v n xs) (k:Touch R w w') (hr:∀ x,v.ownBlock=some x→¬ R x):w'.ownsRow base e size v n xs:=by
 refine ⟨h.1,?_⟩
 rcases h.2 with h0|⟨g',cap,cur,hv,hb,hg,rest⟩
 · exact .inl h0
 · exact .inr ⟨g',cap,cur,hv,hb,(k.block (Array.getElem?_eq_some_iff.1 hg).1 (hr g' (by rw [hv];rfl))).trans hg,rest⟩
theorem Touch.trans' {R':Nat→Prop} (h:Touch R w w') (k:Touch R' w' w'') (hr:∀ x,R' x→R x∨w.heap.size≤x):Touch R w w'' :=
 ⟨k.1.trans h.1,k.2.1.trans h.2.1,k.2.2.1.trans h.2.2.1,Nat.le_trans h.2.2.2.1 k.2.2.2.1,fun x hx hn=>(k.block (Nat.lt_of_lt_of_le hx h.size) (fun e=>(hr x e).elim hn (fun e=>by omega))).trans (h.block hx hn)⟩
theorem Ap {S:Nat→Prop} (h:Touch R w w') (hs:∀ b,S b→b<w.heap.size∧¬ R b):CS S w w':=fun b o hb=>World.cell?_of_block (a:=⟨b,o,none⟩) (h.block (hs b hb).1 (hs b hb).2)
end
theorem YA {w:World} {base e n c:Nat} {A:Option Addr} {xs:List Value} (h:w.ownsRow base e 1 (.slice A (n+1) c) (n+1) xs):w.ownsRow base e 1 (.slice A n c) n (xs.take n):=by
 have hl:=h.1
 refine ⟨by rw [List.length_take];omega,?_⟩
 rcases h.2 with ⟨hv,h0⟩|⟨g,cap,cur,hv,hb,hg,hnc,hm,hcs,ht⟩
 · omega
 · injection hv with e1 e2 e3
   subst e1 e3
   refine .inr ⟨g,c,cur,rfl,hb,hg,by omega,hm,hcs,?_⟩
   rw [← ht,List.take_take,Nat.mul_one,Nat.min_eq_left (by omega)]
theorem dw {w:World} {b1 e1 s1 n1 b2 e2 s2 n2:Nat} {v1 v2:Value} {xs1 xs2:List Value} (h1:w.ownsRow b1 e1 s1 v1 n1 xs1) (h2:w.ownsRow b2 e2 s2 v2 n2 xs2) (hne:e1≠e2):∀ x,v1.ownBlock=some x→v2.ownBlock≠some x:=fun x hx e=>by
 rcases h2.2 with ⟨hv,_⟩|⟨g,cap,cur,hv,_,hg,_⟩
 · rw [hv] at e;cases e
 · rw [hv] at e
   simp only [Value.ownBlock,Option.some.injEq] at e
   subst e
   exact BC h1 hg hne hx.symm
end
section
open Go.RowKit
def Cn (lo hi:Int):Bool:=decide (0≤lo) && decide (lo≤hi) && decide (hi≤281474976710656)
def BP (lo hi k:Int):Bool:=decide (lo≤k) && decide (k<hi)
def Lg (ks:List Int) (n:Nat):Prop:=∀ i,i+1<n→nth 0 ks i<nth 0 ks (i+1)
def rises (ks:List Int):Bool:=(List.range (ks.length-1)).all fun i=>decide (nth 0 ks i<nth 0 ks (i+1))
theorem F7 (ks:List Int):rises ks=true↔Lg ks ks.length:=by
 unfold rises Lg
 rw [List.all_eq_true]
 constructor
 · intro h i hi
   have:=h i (List.mem_range.2 (by omega))
   simpa using this
 · intro h i hi
   have hi:=List.mem_range.1 hi
   simpa using h i (by omega)
theorem dx {ks:List Int} {i:Nat} (h:i+1<ks.length) (hn:nth 0 ks (i+1)≤nth 0 ks i):rises ks=false:=by
 cases e:rises ks with
 | false=>rfl
 | true=>have:=(F7 ks).1 e i h;omega
def FN (lo hi:Int) (ks:List Int):Int :=
 if Cn lo hi=false then 1 else if rises ks=false then 8 else if 0<ks.length∧(BP lo hi (nth 0 ks 0)=false∨BP lo hi (nth 0 ks (ks.length-1))=false) then 9 else 0
def spansOf (hi:Int):List Int→List (Int × Int)
 | []=>[]
 | [k]=>[(k,hi)]
 | k :: k2 :: ks=>(k,k2) :: spansOf hi (k2 :: ks)
theorem Dj (hi:Int):∀ ks,(spansOf hi ks).length=ks.length
 | []=>rfl
 | [_]=>rfl
 | _ :: k2 :: ks=>by simp [spansOf,Dj hi (k2 :: ks)]
def GX (hi:Int) (ks:List Int) (i:Nat):Int:=if i+1<ks.length then nth 0 ks (i+1) else hi
theorem H9 (hi:Int):∀ (ks:List Int) (i:Nat),i<ks.length→nth (0,0) (spansOf hi ks) i=(nth 0 ks i,GX hi ks i)
 | [k],0,_=>rfl
 | k :: k2 :: ks,0,_=>by simp [spansOf,GX,nth]
 | k :: k2 :: ks,i+1,h=>by
  have:=H9 hi (k2 :: ks) i (by simp at h ⊢;omega)
  rw [show spansOf hi (k :: k2 :: ks)=(k,k2) :: spansOf hi (k2 :: ks) from rfl,EQ,this,EQ]
  unfold GX
  simp only [List.length_cons,EQ]
  split
  · rw [if_pos (by omega)]
  · rw [if_neg (by omega)]
end
section
open Go Go.RowKit
theorem JW {P:Program} {w:World} {ops:Array Oper} {o:Oper} {a:Act} {K:Act→World→Prop} {Q:Exit→Act→World→Prop} {F:Prop} {t e size bytes:Nat} {α:Type} {enc:α→List Value}
 (E:Elem P t e size bytes enc) (hg:o.guard=none) (s y:Operand) (hop:o.op=Op.call { callee:=Callee.builtin Builtin.append,args:=#[s,y],argTypes:=#[t,t] })
 (base:Nat) (v:Value) (n:Nat) (l:List α) (x:α) (hs:a.eval s=v) (hown:w.ownsRow base e size v n (AB enc l)) (hy:a.eval y=.slice (some ⟨w.heap.size,0,none⟩) 1 1)
 (hb:(n+1)*bytes≤140737488355328) (hbase:base≤w.heap.size)
 (hK:∀ A cap w',w'.ownsRow base e size (.slice A (n+1) cap) (n+1) (AB enc (l++[x]))→w.grownBy w' v.ownBlock→K (a.put o.dst (.slice A (n+1) cap)) w') :
 if Region.wanted o (yielded ops a.tmps)=true then Oper.wp P o a (w.alloc (.cells (enc x).toArray e)) K Q else F:=by
 have hw:Region.wanted o (yielded ops a.tmps)=true:=by simp [Region.wanted,hg]
 rw [if_pos hw]
 obtain ⟨z,hinfo,hz⟩:=E.info
 obtain ⟨i0,hi,hz0,hz1,hz2⟩:=info_parts hinfo
 have hm:n+1≤maxLen:=by
  have:=Nat.mul_le_mul_left (n+1) E.hby
  unfold maxLen;omega
 obtain ⟨v',w',hr,h2,h3,_,_⟩:=run_append_own_at (P:=P) (w.alloc (.cells (enc x).toArray e)) base t o.type e i0 z size bytes E.u hi hz0 hz1 hz2 hz E.hsz v n (AB enc l) (hown.alloc _) ⟨w.heap.size,0,none⟩ 1 1 (enc x) (by rw [E.len];omega) (Cm w (enc x) e) (E.one x) hm hb (by simp;omega)
 obtain ⟨A,cap,rfl,_⟩:=DJ h2
 unfold Oper.wp execOp
 simp only [hop,resolve,invoke,builtin,Sem.run_bind,Sem.run_pure,Result.andThen_ok,List.map_toArray,List.map_cons,List.map_nil,hs,hy,hr]
 exact hK A cap w' (by rw [Ba,KN];exact h2) (Ij h3)
end
section
open Go Go.RowKit
section
variable {w:World} {base e size g n cap:Nat} {xs:List Value}
end
end
section
open Go.RowKit
def Bj {α:Type} (R:QV α) (size:Nat) (d:α) (w:World) (S:Nat→Prop) (l:List α) (xs:List Value):Prop :=
 xs.length=l.length*size∧∀ k,k<l.length→∃ cs,cs.length=size∧R w S cs (nth d l k)∧∀ j,j<size→xs[k*size+j]? = cs[j]?
section
variable {α:Type} {R:QV α} {size:Nat} {d:α} {w w':World} {S S':Nat→Prop} {l:List α} {xs:List Value}
theorem Bj.keep (hR:Stable R) (h:Bj R size d w S l xs) (hs:∀ b,S b→S' b) (hk:CS S w w'):Bj R size d w' S' l xs :=
 ⟨h.1,fun k hk'=>by
  obtain ⟨cs,h1,h2,h3⟩:=h.2 k hk'
  exact ⟨cs,h1,hR _ _ _ _ _ _ hs hk h2,h3⟩⟩
theorem Bj.one (h:Bj R size d w S l xs) (hone:∀ (w:World) (S:Nat→Prop) cs x,R w S cs x→∀ u∈cs,u.oneCell'=true):∀ u∈xs,u.oneCell'=true:=by
 intro u hu
 obtain ⟨i,hi,rfl⟩:=List.getElem_of_mem hu
 have hlen:=h.1
 have hsz:0<size:=by
  rcases Nat.eq_zero_or_pos size with h0|h0
  · subst h0;omega
  · exact h0
 have hk:i / size<l.length:=by rw [Nat.div_lt_iff_lt_mul hsz];omega
 obtain ⟨cs,h1,h2,h3⟩:=h.2 _ hk
 have h4:=h3 (i % size) (Nat.mod_lt _ hsz)
 rw [Nat.div_add_mod' i size,List.getElem?_eq_getElem hi] at h4
 exact hone _ _ cs _ h2 _ (List.mem_of_getElem? h4.symm)
theorem UK {b off:Nat} (h:BX R size d w S (some ⟨b,off,none⟩) l):∃ xs,Bj R size d w S l xs∧∀ j u,xs[j]? = some u→w.cell? ⟨b,off+j,none⟩=some u:=by
 by_cases hl:0<l.length
 · obtain ⟨b',off',e,hb,hc⟩:=h hl
   injection e with e
   injection e with e1 e2
   subst e1 e2
   obtain ⟨css,hcs⟩:=Go.Deep.choose_lt hc
   refine ⟨(List.range (l.length*size)).map fun j=>(css (j / size)).getD (j % size) undef,⟨by simp,fun k hk=>?_⟩,fun j u hu=>?_⟩
   · obtain ⟨h1,h2,h3⟩:=hcs k hk
     refine ⟨css k,h1,h2,fun j hj=>?_⟩
     have hlt:k*size+j<l.length*size:=by
      have:(k+1)*size≤l.length*size:=Nat.mul_le_mul_right _ hk
      rw [Nat.add_mul] at this
      omega
     have e1:(k*size+j) / size=k:=by rw [Nat.mul_comm,Nat.mul_add_div (by omega),Nat.div_eq_of_lt hj];omega
     have e2:(k*size+j) % size=j:=by rw [Nat.mul_comm,Nat.mul_add_mod,Nat.mod_eq_of_lt hj]
     rw [List.getElem?_map,List.getElem?_range hlt]
     simp only [Option.map_some,e1,e2]
     rw [List.getElem?_eq_getElem (by omega)]
     simp [List.getD,h1,hj]
   · have hj:j<l.length*size:=by
       have:=(List.getElem?_eq_some_iff.1 hu).1
       simpa using this
     have hsz:0<size:=by
      rcases Nat.eq_zero_or_pos size with h0|h0
      · subst h0;omega
      · exact h0
     have hk:j / size<l.length:=by rw [Nat.div_lt_iff_lt_mul hsz];omega
     obtain ⟨h1,h2,h3⟩:=hcs _ hk
     have hm:=Nat.mod_lt j hsz
     rw [List.getElem?_map,List.getElem?_range hj] at hu
     simp only [Option.map_some,Option.some.injEq] at hu
     have h4:=h3 (j % size) _ (List.getElem?_eq_getElem (by omega))
     rw [Nat.add_assoc,Nat.div_add_mod' j size] at h4
     rw [h4,← hu]
     simp [List.getD,List.getElem?_eq_getElem (show j % size<(css (j / size)).length by omega)]
 · obtain rfl:l=[]:=List.eq_nil_of_length_eq_zero (by omega)
   exact ⟨[],⟨by simp,fun k hk=>by simp at hk⟩,fun j u hu=>by simp at hu⟩
theorem CF.dz {base e n:Nat} {v:Value} (h:w.ownsRow base e size v n xs) (hn:n=l.length) (hc:Bj R size d w S l xs) (hs:∀ b,S b→S' b) (hb:∀ b,base≤b→b<w.heap.size→S' b) (hR:Stable R):CF R size d w S' v l:=by
 subst hn
 rcases h.2 with ⟨rfl,h0⟩|⟨g,cap,cur,rfl,hbg,hg,hnc,_,hcs,htake⟩
 · obtain rfl:l=[]:=List.eq_nil_of_length_eq_zero h0
   exact CF.F4
 · refine ⟨_,_,rfl,hnc,fun _=>⟨g,0,rfl,hb g hbg (Array.getElem?_eq_some_iff.1 hg).1,fun k hk=>?_⟩⟩
   obtain ⟨cs,h1,h2,h3⟩:=hc.2 k hk
   refine ⟨cs,h1,hR _ _ _ _ _ _ hs CS.refl h2,fun j u hu=>?_⟩
   have hj:j<size:=by
    have:=(List.getElem?_eq_some_iff.1 hu).1
    omega
   have hlt:k*size+j<l.length*size:=by
    have:(k+1)*size≤l.length*size:=Nat.mul_le_mul_right _ hk
    rw [Nat.add_mul] at this
    omega
   have hx:=h3 j hj
   rw [hu,← htake,List.getElem?_take,if_pos hlt] at hx
   rw [cell_of_row w g _ cur e (0,0) hg,Nat.zero_add]
   simpa using hx
end
theorem CK {P:Program} {w:World} {ops:Array Oper} {rest:List Oper} {o:Oper} {a:Act} {Q:Exit→Act→World→Prop} {t e size bytes:Nat} {z:Value}
 (hu:P.underlying t=some (.slice e)) (hinfo:(P.info? e).map (fun i=>(i.zero,i.size,i.bytes))=some (some z,size,bytes)) (hz:z.cells.size=size) (hsz:0<size) (hby:0<bytes)
 (hg:o.guard=none) (s y:Operand) (hop:o.op=Op.call { callee:=Callee.builtin Builtin.append,args:=#[s,y],argTypes:=#[t,t] })
 (base:Nat) (v:Value) (n:Nat) (xs:List Value) (hs:a.eval s=v) (hown:w.ownsRow base e size v n xs) (ad:Addr) (m c:Nat) (news:List Value) (hy:a.eval y=.slice (some ad) m c)
 (hl:news.length=m*size) (hc:∀ j u,news[j]? = some u→w.cell? (ad.add j)=some u) (h1:∀ u∈news,u.oneCell'=true) (hb:(n+m)*bytes≤140737488355328) (hbase:base≤w.heap.size)
 (hK:∀ A cap w',w'.ownsRow base e size (.slice A (n+m) cap) (n+m) (xs++news)→w.grownBy w' v.ownBlock→wpList P ops Q rest (a.put o.dst (.slice A (n+m) cap)) w') :
 wpList P ops Q (o :: rest) a w:=by
 obtain ⟨i0,hi,hz0,hz1,hz2⟩:=info_parts hinfo
 have hm:n+m≤maxLen:=by
  have:=Nat.mul_le_mul_left (n+m) hby
  unfold maxLen;omega
 refine wpList_append_own _ hg s y t hop base e i0 z size bytes hu hi hz0 hz1 hz2 hz hsz v n xs hs hown ad m c news hy hl hc h1 hm hb hbase ?_
 intro v' w1 hown1 hgrow _
 obtain ⟨A,cap,rfl,_⟩:=DJ hown1
 exact hK A cap w1 hown1 hgrow
theorem add_lit (b off j:Nat):(⟨b,off,none⟩:Addr).add j=⟨b,off+j,none⟩:=by
 unfold Addr.add
 split
 · rename_i h;subst h;rfl
 · rfl
theorem JH {α:Type} {R:QV α} {size:Nat} {d:α} {w:World} {S:Nat→Prop} {l:List α} {a:Addr} (h:BX R size d w S (some a) l):∃ xs,Bj R size d w S l xs∧∀ j u,xs[j]? = some u→w.cell? (a.add j)=some u:=by
 by_cases hl:0<l.length
 · obtain ⟨b,off,e,hb,hc⟩:=h hl
   injection e with e
   subst e
   obtain ⟨xs,h1,h2⟩:=UK h
   exact ⟨xs,h1,fun j u hu=>by rw [add_lit];exact h2 j u hu⟩
 · obtain rfl:l=[]:=List.eq_nil_of_length_eq_zero (by omega)
   exact ⟨[],⟨by simp,fun k hk=>by simp at hk⟩,fun j u hu=>by simp at hu⟩
end
section
open Go Go.RowKit
theorem Jp {P:Program} {w:World} (base:Nat) (t ty e:TypeId) (i:TypeInfo) (size:Nat) (ht:P.underlying t=some (.slice e)) (hi:P.info? e=some i)
 (v:Value) (n:Nat) (xs:List Value) (c:Nat) (hown:w.ownsRow base e size v n xs) :
 (Builtin.append_ #[t,t] ty #[v,.slice none 0 c]).run P w=.ok v w:=by
 rcases hown.2 with ⟨rfl,rfl⟩|⟨g,cap,cur,rfl,_,_,hnc,_⟩
 · simp [Builtin.append_,run_underlying ht,sizeOf,typeInfo,hi,Builtin.lenOf,Builtin.firstCells]
 · simp [Builtin.append_,run_underlying ht,sizeOf,typeInfo,hi,Builtin.lenOf,Builtin.firstCells,hnc,storeCells]
end
section
open Go Go.RowKit
theorem BD {P:Program} {w:World} {ops:Array Oper} {o:Oper} {a:Act} {K:Act→World→Prop} {Q:Exit→Act→World→Prop} {F:Prop} {t e size bytes:Nat} {z:Value}
 (hu:P.underlying t=some (.slice e)) (hinfo:(P.info? e).map (fun i=>(i.zero,i.size,i.bytes))=some (some z,size,bytes)) (hz:z.cells.size=size) (hsz:0<size) (hby:0<bytes)
 (hg:o.guard=none) (s y:Operand) (hop:o.op=Op.call { callee:=Callee.builtin Builtin.append,args:=#[s,y],argTypes:=#[t,t] })
 (base:Nat) (v:Value) (n:Nat) (xs:List Value) (hs:a.eval s=v) (hown:w.ownsRow base e size v n xs) (ad:Option Addr) (m c:Nat) (news:List Value) (hy:a.eval y=.slice ad m c)
 (hl:news.length=m*size) (hc:∀ d,ad=some d→∀ j u,news[j]? = some u→w.cell? (d.add j)=some u) (h1:∀ u∈news,u.oneCell'=true) (hb:(n+m)*bytes≤140737488355328) (hbase:base≤w.heap.size) (hno:ad=none→m=0)
 (hK:∀ A cap w',w'.ownsRow base e size (.slice A (n+m) cap) (n+m) (xs++news)→w.grownBy w' v.ownBlock→(∀ x,(Value.slice A (n+m) cap).ownBlock=some x→v.ownBlock=some x∨x=w.heap.size)→K (a.put o.dst (.slice A (n+m) cap)) w') :
 if Region.wanted o (yielded ops a.tmps)=true then Oper.wp P o a w K Q else F:=by
 have hw:Region.wanted o (yielded ops a.tmps)=true:=by simp [Region.wanted,hg]
 rw [if_pos hw]
 obtain ⟨i0,hi,hz0,hz1,hz2⟩:=info_parts hinfo
 have hm:n+m≤maxLen:=by
  have:=Nat.mul_le_mul_left (n+m) hby
  unfold maxLen;omega
 cases ad with
 | some d =>
  obtain ⟨v',w',hr,h2,h3,_,h5⟩:=run_append_own_at (P:=P) w base t o.type e i0 z size bytes hu hi hz0 hz1 hz2 hz hsz v n xs hown d m c news hl (hc d rfl) h1 hm hb hbase
  obtain ⟨A,cap,rfl,_⟩:=DJ h2
  unfold Oper.wp execOp
  simp only [hop,resolve,invoke,builtin,Sem.run_bind,Sem.run_pure,Result.andThen_ok,List.map_toArray,List.map_cons,List.map_nil,hs,hy,hr]
  refine hK A cap w' h2 h3 (fun x hx=>?_)
  rcases h5 with h5|h5
  · exact .inl (h5 ▸ hx)
  · right
    rw [h5] at hx
    injection hx with hx
    exact hx.symm
 | none =>
  obtain rfl:=hno rfl
  obtain rfl:news=[]:=List.eq_nil_of_length_eq_zero (by omega)
  obtain ⟨A,cap,rfl,_⟩:=DJ hown
  have hKK:=hK A cap w (by simpa using hown) (World.grownBy.refl w _) (fun x hx=>.inl hx)
  have hrun:=Jp (P:=P) (w:=w) base t o.type e i0 size hu hi _ n xs c hown
  unfold Oper.wp execOp
  simp only [hop,resolve,invoke,builtin,Sem.run_bind,Sem.run_pure,Result.andThen_ok,List.map_toArray,List.map_cons,List.map_nil,hs,hy,hrun]
  exact hKK
theorem EI {P:Program} {w:World} {ops:Array Oper} {rest:List Oper} {o:Oper} {a:Act} {Q:Exit→Act→World→Prop} {t e size bytes:Nat} {z:Value}
 (hu:P.underlying t=some (.slice e)) (hinfo:(P.info? e).map (fun i=>(i.zero,i.size,i.bytes))=some (some z,size,bytes)) (hz:z.cells.size=size) (hsz:0<size) (hby:0<bytes)
 (hg:o.guard=none) (s y:Operand) (hop:o.op=Op.call { callee:=Callee.builtin Builtin.append,args:=#[s,y],argTypes:=#[t,t] })
 (base:Nat) (v:Value) (n:Nat) (xs:List Value) (hs:a.eval s=v) (hown:w.ownsRow base e size v n xs) (ad:Option Addr) (m c:Nat) (news:List Value) (hy:a.eval y=.slice ad m c)
 (hl:news.length=m*size) (hc:∀ d,ad=some d→∀ j u,news[j]? = some u→w.cell? (d.add j)=some u) (h1:∀ u∈news,u.oneCell'=true) (hb:(n+m)*bytes≤140737488355328) (hbase:base≤w.heap.size) (hno:ad=none→m=0)
 (hK:∀ A cap w',w'.ownsRow base e size (.slice A (n+m) cap) (n+m) (xs++news)→w.grownBy w' v.ownBlock→(∀ x,(Value.slice A (n+m) cap).ownBlock=some x→v.ownBlock=some x∨x=w.heap.size)→wpList P ops Q rest (a.put o.dst (.slice A (n+m) cap)) w') :
 wpList P ops Q (o :: rest) a w:=by
 refine wpList_plain hg fun K hKK=>?_
 have h:=BD (ops:=ops) (o:=o) (a:=a) (w:=w) (K:=K) (Q:=Q) (F:=False) hu hinfo hz hsz hby hg s y hop base v n xs hs hown ad m c news hy hl hc h1 hb hbase hno (fun A cap w' h2 h3 h4=>hKK _ _ (hK A cap w' h2 h3 h4))
 rw [if_pos (by simp [Region.wanted,hg])] at h
 exact h
theorem BA {P:Program} {w:World} {ops:Array Oper} {rest:List Oper} {o:Oper} {a:Act} {Q:Exit→Act→World→Prop} {t e size bytes:Nat} {α:Type} {enc:α→List Value}
 (E:Elem P t e size bytes enc) (hg:o.guard=none) (s y:Operand) (hop:o.op=Op.call { callee:=Callee.builtin Builtin.append,args:=#[s,y],argTypes:=#[t,t] })
 (base:Nat) (v:Value) (n:Nat) (l:List α) (x:α) (hs:a.eval s=v) (hown:w.ownsRow base e size v n (AB enc l)) (hy:a.eval y=.slice (some ⟨w.heap.size,0,none⟩) 1 1)
 (hb:(n+1)*bytes≤140737488355328) (hbase:base≤w.heap.size)
 (hK:∀ A cap w',w'.ownsRow base e size (.slice A (n+1) cap) (n+1) (AB enc (l++[x]))→w.grownBy w' v.ownBlock→(∀ x,(Value.slice A (n+1) cap).ownBlock=some x→v.ownBlock=some x∨w.heap.size≤x)→wpList P ops Q rest (a.put o.dst (.slice A (n+1) cap)) w') :
 wpList P ops Q (o :: rest) a (w.alloc (.cells (enc x).toArray e)):=by
 obtain ⟨z,hinfo,hz⟩:=E.info
 refine EI E.u hinfo hz E.hsz E.hby hg s y hop base v n (AB enc l) hs (hown.alloc _) (some ⟨w.heap.size,0,none⟩) 1 1 (enc x) hy (by rw [E.len];omega) (fun d hd=>?_) (E.one x) hb (by simp;omega) (fun h=>by cases h) ?_
 · obtain rfl:_=d:=by injection hd
   exact Cm w (enc x) e
 · intro A cap w' h1 h2 h3
   exact hK A cap w' (by rw [Ba,KN];exact h1) (Ij h2) (fun y hy=>by
    rcases h3 y hy with h|h
    · exact .inl h
    · right;rw [h];simp)
end
section
open Go.RowKit
def Au (u:UInt8):List Value:=[.int .u8 (u.toNat:Int)]
theorem D8 (u:UInt8):(Au u).length=1:=rfl
theorem eB (u:UInt8):∀ x∈Au u,x.oneCell'=true:=by intro x hx;simp [Au] at hx;subst hx;rfl
abbrev Cx (w:World) (S:Nat→Prop) (A:Option Addr) (l:List UInt8):Prop:=BX (Flat Au) 1 (0:UInt8) w S A l
abbrev AX (w:World) (S:Nat→Prop) (v:Value) (l:List UInt8):Prop:=CF (Flat Au) 1 (0:UInt8) w S v l
theorem BU {w:World} {S:Nat→Prop} {A:Option Addr} {l:List UInt8} (h:Cx w S A l) (hl:0<l.length) :
 ∃ b off,A=some ⟨b,off,none⟩∧S b∧∀ k,k<l.length→w.cell? ⟨b,off+k,none⟩=some (.int .u8 ((nth 0 l k).toNat:Int)):=by
 obtain ⟨b,off,e,hb,hc⟩:=h hl
 refine ⟨b,off,e,hb,fun k hk=>?_⟩
 obtain ⟨cs,_,hr,h3⟩:=hc k hk
 obtain rfl:cs=_:=hr
 have:=h3 0 _ rfl
 simpa using this
theorem Bu (l:List UInt8):AB Au l=l.map fun u=>Value.int .u8 (u.toNat:Int):=by
 induction l with
 | nil=>rfl
 | cons a l ih=>rw [List.map_cons,← ih];rfl
theorem BI (l:List UInt8):(AB Au l).length=l.length:=by rw [Bu,List.length_map]
theorem Dr (l:List UInt8):∀ x∈AB Au l,x.oneCell'=true:=by
 intro x hx
 rw [Bu] at hx
 obtain ⟨u,_,rfl⟩:=List.mem_map.1 hx
 rfl
def Am (l:List UInt8):ByteArray:=⟨l.toArray⟩
theorem UL {l r:List UInt8} (h:Am l=Am r):l=r:=by
 have:=congrArg (fun s:ByteArray=>s.data.toList) h
 simpa [Am] using this
theorem ER (l:List UInt8):(Am l).size=l.length:=by simp [Am,ByteArray.size]
theorem UM (l:List UInt8):strOfNums (l.map fun u=>(u.toNat:Int))=Am l:=by
 unfold strOfNums Am
 congr 2
 rw [List.map_map]
 conv=>rhs;rw [← List.map_id l]
 apply List.map_congr_left
 intro u _
 simp
theorem JI {P:Program} {w:World} {S:Nat→Prop} {A:Option Addr} {c:Nat} {l:List UInt8} (src e:TypeId) (hs:P.underlying src=some (.slice e)) (he:P.underlying e=some (.int .u8)) (h:Cx w S A l) :
 ∀ dst,P.underlying dst=some .string→(convert src dst (.slice A l.length c)).run P w=.ok (.string (Am l)) w:=by
 intro dst hd
 by_cases hl:0<l.length
 · obtain ⟨b,off,rfl,_,hc⟩:=BU h hl
   rw [← UM]
   refine run_convert_bytes_arg w src e hs he b off l.length c _ (by simp) (fun i hi=>?_) dst hd
   rw [hc i hi,Ac 0 l i hi]
   simp [hi]
 · obtain rfl:l=[]:=List.eq_nil_of_length_eq_zero (by omega)
   cases A with
   | none=>exact run_convert_bytes_nil w src e hs he _ _ dst hd
   | some a =>
    obtain ⟨b,off,q⟩:=a
    have hl:(loadCells ⟨b,off,q⟩ 0).run P w=.ok (([]:List Int).map (Value.int .u8)).toArray w:=by
     simpa using run_loadCells_list (P:=P) w ⟨b,off,q⟩ [] (fun j v hj=>by simp at hj)
    rw [List.length_nil,run_convert_bytes_string w src dst e _ 0 c hs he hd,run_bytesToString w _ 0 c [] hl,foldl_push_bytes]
    rfl
end
section
open Go.RowKit
def EL:List UInt8→Nat
 | []=>0
 | b :: l=>b.toNat+256*EL l
def leB:Nat→Nat→List UInt8
 | 0,_=>[]
 | w+1,n=>UInt8.ofNat (n % 256) :: leB w (n / 256)
theorem CY:∀ (w n:Nat),(leB w n).length=w
 | 0,_=>rfl
 | w+1,n=>by rw [leB,List.length_cons,CY w]
theorem SG:∀ l:List UInt8,EL l<256 ^ l.length
 | []=>by simp [EL]
 | b :: l=>by
  have h:=SG l
  have hb:=b.toNat_lt
  rw [EL,List.length_cons,Nat.pow_succ]
  omega
theorem SH:∀ (w n:Nat),n<256 ^ w→EL (leB w n)=n
 | 0,n,h=>by simp at h;simp [leB,EL,h]
 | w+1,n,h=>by
  have hn:n / 256<256 ^ w:=by
   rw [Nat.div_lt_iff_lt_mul (by omega),← Nat.pow_succ]
   exact h
  rw [leB,EL,SH w _ hn,UInt8.toNat_ofNat']
  omega
theorem SI:∀ l:List UInt8,leB l.length (EL l)=l
 | []=>rfl
 | b :: l=>by
  have hb:=b.toNat_lt
  rw [List.length_cons,EL,leB,show (b.toNat+256*EL l) / 256=EL l by omega,SI l,show (b.toNat+256*EL l) % 256=b.toNat by omega]
  simp
theorem Ob:∀ (a b:List UInt8),EL (a++b)=EL a+256 ^ a.length*EL b
 | [],b=>by simp [EL]
 | x :: a,b=>by
  rw [List.cons_append,EL,EL,Ob a b,List.length_cons,Nat.pow_succ,Nat.mul_add,Nat.mul_comm (256 ^ a.length) 256,← Nat.mul_assoc,← Nat.add_assoc]
theorem Oc (v:Nat):∀ (w n:Nat),leB (w+v) n=leB w n++leB v (n / 256 ^ w)
 | 0,n=>by simp [leB]
 | w+1,n=>by
  rw [show w+1+v=(w+v)+1 by omega,leB,leB,Oc v w,List.cons_append,Nat.div_div_eq_div_mul,Nat.pow_succ,Nat.mul_comm 256]
def BN (l:List UInt8) (a n:Nat):List UInt8:=(l.drop a).take n
theorem Hd {l:List UInt8} {a n:Nat} (h:a+n≤l.length):(BN l a n).length=n:=by
 simp [BN];omega
def AC (l:List UInt8) (a n:Nat):Nat:=EL (BN l a n)
theorem G6 {l:List UInt8} {a n:Nat} (h:a<l.length):BN l a (n+1)=nth 0 l a :: BN l (a+1) n:=by
 unfold BN
 rw [List.drop_eq_getElem_cons h,List.take_succ_cons,Ac 0 l a h]
theorem ZB {l:List UInt8} {a n:Nat} (h:a+n<l.length):BN l a (n+1)=BN l a n++[nth 0 l (a+n)]:=by
 unfold BN
 rw [List.take_add_one,List.getElem?_drop,List.getElem?_eq_getElem h,Ac 0 l (a+n) h]
 rfl
theorem Dk {l:List UInt8} {a n:Nat}:AC l a n<256 ^ n:=by
 have h:=SG (BN l a n)
 refine Nat.lt_of_lt_of_le h (Nat.pow_le_pow_right (by omega) ?_)
 simp [BN];omega
def D9 (l:List UInt8):Bool:=l.all (·==0)
end
section
open Go.RowKit
def Lh (n:Nat):Prop:=n=1∨n=2∨n=4∨n=8
def Ct:List Nat→Nat
 | []=>0
 | w :: ws=>w+Ct ws
theorem Jq (a b:List Nat):Ct (a++b)=Ct a+Ct b:=by
 induction a with
 | nil=>simp [Ct]
 | cons x l ih=>simp only [List.cons_append,Ct,ih];omega
theorem Gt (l:List Nat) (k:Nat):Ct (l.take k)≤Ct l:=by
 have:Ct l=Ct (l.take k)+Ct (l.drop k):=by rw [← Jq,List.take_append_drop]
 omega
theorem F8 (l:List Nat) (k:Nat) (h:k<l.length):Ct (l.take (k+1))=Ct (l.take k)+nth 0 l k:=by
 rw [DV 0 l k h,Jq];simp [Ct]
def EA (l:List UInt8):Nat→List Nat→List Int
 | _,[]=>[]
 | a,w :: ws=>(AC l a w:Int) :: EA l (a+w) ws
theorem NI (l:List UInt8):∀ (x y:List Nat) (a:Nat),EA l a (x++y)=EA l a x++EA l (a+Ct x) y
 | [],y,a=>by simp [EA,Ct]
 | w :: ws,y,a=>by simp only [List.cons_append,EA,NI l ws y,Ct,Nat.add_assoc]
theorem Ik (l:List UInt8):∀ (x:List Nat) (a:Nat),(EA l a x).length=x.length
 | [],_=>rfl
 | _ :: ws,a=>by simp [EA,Ik l ws]
theorem Q9 (l:List UInt8) (ws:List Nat) (k:Nat) (h:k<ws.length):EA l 0 (ws.take (k+1))=EA l 0 (ws.take k)++[(AC l (Ct (ws.take k)) (nth 0 ws k):Int)]:=by
 rw [DV 0 ws k h,NI,Nat.zero_add];rfl
def FR (l:List UInt8):Nat→List Nat→Bool
 | _,[]=>false
 | a,w :: ws=>decide (9223372036854775808≤AC l a w) || FR l (a+w) ws
theorem Jr (l:List UInt8):∀ (x y:List Nat) (a:Nat),FR l a (x++y)=(FR l a x || FR l (a+Ct x) y)
 | [],y,a=>by simp [FR,Ct]
 | w :: ws,y,a=>by simp only [List.cons_append,FR,Jr l ws y,Ct,Nat.add_assoc,Bool.or_assoc]
theorem Mj (l:List UInt8) (ws:List Nat) (k:Nat) (h:k<ws.length):FR l 0 (ws.take (k+1))=(FR l 0 (ws.take k) || decide (9223372036854775808≤AC l (Ct (ws.take k)) (nth 0 ws k))):=by
 rw [DV 0 ws k h,Jr,Nat.zero_add];simp [FR]
theorem YB {l:List UInt8} {ws:List Nat} {k:Nat} (h:k<ws.length) (hb:9223372036854775808≤AC l (Ct (ws.take k)) (nth 0 ws k)):FR l 0 ws=true:=by
 rw [← List.take_append_drop (k+1) ws,Jr,Mj l ws k h,decide_eq_true hb];simp
theorem K7 (l:List UInt8):∀ (ws:List Nat) (a:Nat),(∀ w∈ws,w≤4)→FR l a ws=false
 | [],_,_=>rfl
 | w :: ws,a,h=>by
  have h1:=Dk (l:=l) (a:=a) (n:=w)
  have h2:256 ^ w≤256 ^ 4:=Nat.pow_le_pow_right (by omega) (h w (by simp))
  rw [FR,K7 l ws _ (fun x hx=>h x (by simp [hx])),decide_eq_false (by omega)];rfl
end
section
open Go.RowKit
def BB (fs:List (Nat × Int)):List UInt8:=fs.flatMap fun f=>leB f.1 f.2.toNat
theorem Od (fs:List (Nat × Int)) (k:Nat) (h:k<fs.length):BB (fs.take (k+1))=BB (fs.take k)++leB (nth (0,0) fs k).1 (nth (0,0) fs k).2.toNat:=by
 rw [DV (0,0) fs k h];simp [BB]
theorem ES (fs:List (Nat × Int)):(BB fs).length=Ct (fs.map (·.1)):=by
 induction fs with
 | nil=>rfl
 | cons f l ih=>rw [show BB (f :: l)=leB f.1 f.2.toNat++BB l from rfl,List.length_append,ih,CY];rfl
theorem Ko (fs:List (Nat × Int)) (k:Nat):(BB (fs.take k)).length≤(BB fs).length:=by
 rw [ES,ES,List.map_take];exact Gt _ _
def FX (f:Nat × Int):Prop:=Lh f.1∧0≤f.2∧f.2<9223372036854775808∧(f.1=8∨f.2<256 ^ f.1)
def Qa (f:Nat × Int):List Value:=[.int .i64 (f.1:Int),.int .i64 f.2]
theorem Il (f:Nat × Int):(Qa f).length=2:=rfl
end
section
open Go.RowKit
structure Pt where
 w:Nat
 lo:Int
 hi:Int
def K8:Pt:=⟨1,0,0⟩
def RA (p:Pt):List Value:=[.int .i64 (p.w:Int),.int .i64 p.lo,.int .i64 p.hi]
theorem ZC (p:Pt):(RA p).length=3:=rfl
def SK (p:Pt):Prop:=Lh p.w∧0≤p.lo∧p.hi<9223372036854775808∧(p.w=8∨p.hi<256 ^ p.w)
def K9 (p:Pt) (n:Int):Bool:=decide (p.lo≤n) && decide (n≤p.hi)
def JX (ps:List Pt) (ns:List Int):Bool:=(List.range ps.length).all fun j=>K9 (nth K8 ps j) (nth 0 ns j)
def JY (ps:List Pt) (ns:List Int) (k:Nat):List (Nat × Int):=(List.range k).map fun j=>((nth K8 ps j).w,nth 0 ns j)
theorem Oe (ps:List Pt) (ns:List Int) (k:Nat):JY ps ns (k+1)=JY ps ns k++[((nth K8 ps k).w,nth 0 ns k)]:=by simp [JY,List.range_succ]
theorem Og (a:List (Nat × Int)) (f:Nat × Int):BB (a++[f])=BB a++leB f.1 f.2.toNat:=by simp [BB]
theorem ZE (f:Nat × Int):BB [f]=leB f.1 f.2.toNat:=by simp [BB]
def IR (ps:List Pt) (ns:List Int):List UInt8:=if JX ps ns=true then BB (JY ps ns ps.length) else []
theorem eD {ps:List Pt} {ns:List Int} {k:Nat} (hk:k<ps.length) (h:K9 (nth K8 ps k) (nth 0 ns k)=false):JX ps ns=false:=by
 unfold JX
 rw [← Bool.not_eq_true,List.all_eq_true]
 intro hh
 have:=hh k (List.mem_range.2 hk)
 rw [h] at this
 cases this
theorem ZF {ps:List Pt} {ns:List Int} (h:∀ k,k<ps.length→K9 (nth K8 ps k) (nth 0 ns k)=true):JX ps ns=true:=by
 unfold JX
 rw [List.all_eq_true]
 intro j hj
 exact h j (List.mem_range.1 hj)
def CV (ps:List Pt):List Nat:=ps.map (·.w)
def FO (ps:List Pt) (s:List UInt8):List Int × Int :=
 if s.length≠Ct (CV ps) then (List.replicate ps.length 0,7)
 else if FR s 0 (CV ps)=true∨IR ps (EA s 0 (CV ps))=[] then (List.replicate ps.length 0,2)
 else (EA s 0 (CV ps),0)
theorem YC:∀ (ps:List Pt) (ns:List Int) (k:Nat),k≤ps.length→Ct ((JY ps ns k).map (·.1))=Ct ((CV ps).take k)
 | ps,ns,0,_=>by simp [JY,Ct]
 | ps,ns,k+1,h=>by
  rw [Oe,List.map_append,Jq,YC ps ns k (by omega),F8 _ k (by unfold CV;rw [List.length_map];omega)]
  have e:nth 0 (CV ps) k=(nth K8 ps k).w:=by
   rw [Ac 0 _ k (by unfold CV;rw [List.length_map];omega),Ac K8 ps k (by omega)]
   simp [CV]
  rw [e];simp [Ct]
end
section
open Go.RowKit
def encS (b:List UInt8):List Value:=[.string (Am b)]
theorem Oh (b:List UInt8):(encS b).length=1:=rfl
theorem eF (b:List UInt8):∀ x∈encS b,x.oneCell'=true:=by intro x hx;simp [encS] at hx;subst hx;rfl
abbrev Js (w:World) (S:Nat→Prop) (v:Value) (l:List (List UInt8)):Prop:=CF (Flat encS) 1 [] w S v l
theorem He {w:World} {S:Nat→Prop} {A:Option Addr} {B:List (List UInt8)} (h:BX (Flat encS) 1 [] w S A B) (hl:0<B.length) :
 ∃ b off,A=some ⟨b,off,none⟩∧S b∧∀ k,k<B.length→w.cell? ⟨b,off+k,none⟩=some (.string (Am (nth [] B k))):=by
 obtain ⟨b,off,e,hb,hc⟩:=h hl
 refine ⟨b,off,e,hb,fun k hk=>?_⟩
 obtain ⟨cs,_,hr,h3⟩:=hc k hk
 obtain rfl:cs=_:=hr
 have:=h3 0 _ rfl
 simpa using this
end
section
open Go.RowKit
def Hf:Nat:=2197175160
def Qb (r:Nat):Nat:=if r % 2=1 then (r / 2) ^^^ Hf else r / 2
def Hy:Nat→Nat→Nat
 | 0,r=>r
 | n+1,r=>Hy n (Qb r)
def IU (r:Nat):List UInt8→Nat
 | []=>r
 | b :: l=>IU (Hy 8 (r ^^^ b.toNat)) l
def F9 (l:List UInt8):Nat:=IU 4294967295 l ^^^ 4294967295
theorem YD:∀ (m n r:Nat),Hy (m+n) r=Hy n (Hy m r)
 | 0,n,r=>by rw [Nat.zero_add];rfl
 | m+1,n,r=>by rw [show m+1+n=(m+n)+1 by omega,Hy,Hy,YD m n]
theorem eG (a b:Nat):(a ^^^ b) / 2=(a / 2) ^^^ (b / 2):=Nat.xor_div_two
theorem eH (a b:Nat):(a ^^^ b) % 2=(a % 2+b % 2) % 2:=by
 have h:=Nat.xor_mod_two_eq_one (a:=a) (b:=b)
 have hx:=Nat.mod_two_eq_zero_or_one (a ^^^ b)
 rcases Nat.mod_two_eq_zero_or_one a with ha|ha <;> rcases Nat.mod_two_eq_zero_or_one b with hb|hb <;> rw [ha,hb] at h ⊢ <;> rcases hx with hx|hx <;> rw [hx] at h ⊢ <;> simp at h ⊢
theorem lF (a b:Nat):Qb (a ^^^ b)=Qb a ^^^ Qb b:=by
 unfold Qb
 rw [eG,eH]
 rcases Nat.mod_two_eq_zero_or_one a with ha|ha <;> rcases Nat.mod_two_eq_zero_or_one b with hb|hb
 · simp [ha,hb]
 · simp only [ha,hb];simp [Nat.xor_assoc]
 · simp only [ha,hb];simp [Nat.xor_assoc,Nat.xor_comm Hf]
 · simp only [ha,hb]
   simp
   rw [Nat.xor_assoc,← Nat.xor_assoc Hf,Nat.xor_comm Hf (b / 2),Nat.xor_assoc (b / 2),Nat.xor_self,Nat.xor_zero]
theorem YE:∀ (n a b:Nat),Hy n (a ^^^ b)=Hy n a ^^^ Hy n b
 | 0,a,b=>rfl
 | n+1,a,b=>by rw [Hy,Hy,Hy,lF,YE n]
theorem Li (k:Nat):Qb (2*k)=k:=by
 unfold Qb
 rw [if_neg (by omega)]
 omega
theorem lG (q:Nat):Hy 4 (16*q)=q:=by
 show Qb (Qb (Qb (Qb (16*q))))=q
 rw [show 16*q=2*(8*q) by omega,Li,show 8*q=2*(4*q) by omega,Li,show 4*q=2*(2*q) by omega,Li,Li]
theorem lH (r:Nat):r=(16*(r / 16)) ^^^ (r % 16):=by
 have h:16*(r / 16) ^^^ (r % 16)=16*(r / 16)+r % 16:=by
  have e:=Nat.two_pow_add_eq_or_of_lt (i:=4) (b:=r % 16) (by omega) (r / 16)
  have e2:(2 ^ 4*(r / 16)) ^^^ (r % 16)=(2 ^ 4*(r / 16)) ||| (r % 16):=by
   apply Nat.eq_of_testBit_eq
   intro i
   rw [Nat.testBit_xor,Nat.testBit_or]
   by_cases hi:i<4
   · have:(2 ^ 4*(r / 16)).testBit i=false:=by
       rw [Nat.testBit_two_pow_mul]
       simp;omega
     rw [this];simp
   · have:(r % 16).testBit i=false:=Nat.testBit_lt_two_pow (Nat.lt_of_lt_of_le (Nat.mod_lt r (by omega)) (by
       have:2 ^ 4≤2 ^ i:=Nat.pow_le_pow_right (by omega) (by omega)
       simpa using this))
     rw [this];simp
  rw [show (16:Nat)=2 ^ 4 from rfl] at *
  rw [e2,← e]
 rw [h];omega
theorem Oi (r:Nat):Hy 4 r=(r / 16) ^^^ Hy 4 (r % 16):=by
 have h:=lH r
 have e:Hy 4 r=Hy 4 ((16*(r / 16)) ^^^ (r % 16)):=by rw [← h]
 rw [e,YE,lG]
theorem V8 {r:Nat} (h:r<4294967296):Qb r<4294967296:=by
 unfold Qb Hf
 split
 · exact Nat.xor_lt_two_pow (n:=32) (by omega) (by omega)
 · omega
theorem Oj:∀ (n:Nat) {r:Nat},r<4294967296→Hy n r<4294967296
 | 0,r,h=>h
 | n+1,r,h=>Oj n (V8 h)
theorem SN:∀ (l:List UInt8) {r:Nat},r<4294967296→IU r l<4294967296
 | [],r,h=>h
 | b :: l,r,h=>SN l (Oj 8 (Nat.xor_lt_two_pow (n:=32) (by omega) (by have:=b.toNat_lt;omega)))
theorem KO (l:List UInt8):F9 l<4294967296:=Nat.xor_lt_two_pow (n:=32) (SN l (by omega)) (by omega)
def xL (r:Nat):Nat:=Hy 8 r
theorem sI (r:Nat):xL r=Hy 8 r:=rfl
theorem RB (r:Nat) (b:UInt8) (l:List UInt8):IU r (b :: l)=IU (xL (r ^^^ b.toNat)) l:=rfl
theorem sJ {r:Nat} (h:r<4294967296):xL r<4294967296:=Oj 8 h
end
section
open Go.RowKit
def FY (kind:Int):Nat:=if kind=1 then 160774 else if kind=2 then 121107 else if kind=3 then 240779 else if kind=4 then 160478 else 0
def De (kind no:Int):Prop:=1≤kind∧kind≤4∧0≤no∧no<14400
instance (kind no:Int):Decidable (De kind no):=by unfold De;infer_instance
def GY (b:List UInt8) (kind:Int):Nat:=F9 (b.take 252) ^^^ FY kind
def DW (b:List UInt8) (kind no:Int):Int :=
 if ¬ De kind no then 1
 else if b.length≠256 then 7
 else if AC b 252 4≠GY b kind then 4
 else if (AC b 0 4:Int)≠no then 5
 else if (AC b 4 2:Int)≠kind then 6
 else if AC b 6 2≠0 then 7
 else 0
def Dl (b:List UInt8):List UInt8:=BN b 8 244
theorem GZ {b:List UInt8} (h:b.length=256):(Dl b).length=244:=Hd (by omega)
def Ex (kind no:Nat) (inn:List UInt8):List UInt8:=leB 4 no++leB 2 kind++[0,0]++inn++List.replicate (244-inn.length) 0
def Bq (kind no:Nat) (inn:List UInt8):List UInt8:=Ex kind no inn++leB 4 (F9 (Ex kind no inn) ^^^ FY kind)
def BF (tree:Int) (leaf:Bool):Nat :=
 if tree<1∨5<tree then 0 else if leaf=false then 4 else if tree=2 then 8 else if tree=3 then 24 else if tree=4 then 16 else 4
def BZ (tree:Int) (leaf:Bool):Nat:=if BF tree leaf=0 then 0 else 232 / (8+BF tree leaf) / 3*3
structure Nd where
 tree:Int
 leaf:Bool
 keys:List Int
 vals:List (List UInt8)
def Dm (b:List UInt8) (i:Nat):Nat:=AC b (12+i*8) 8
def NJ (b:List UInt8) (most w i:Nat):List UInt8:=BN b (12+most*8+i*w) w
def IA (b:List UInt8) (prev:Int) (i:Nat):Nat→Int
 | 0=>0
 | n+1=>if 281474976710655<Dm b i then 2 else if (Dm b i:Int)≤prev then 8 else IA b (Dm b i) (i+1) n
def FZ (b:List UInt8):Bool :=
 decide (b.length=244) && decide (AC b 0 1≤1) && decide (BF (AC b 1 1) (decide (AC b 0 1=1))≠0) && decide (AC b 2 2≤BZ (AC b 1 1) (decide (AC b 0 1=1))) &&
 decide (AC b 4 2=BF (AC b 1 1) (decide (AC b 0 1=1))) && decide (AC b 6 2=BZ (AC b 1 1) (decide (AC b 0 1=1))) && decide (AC b 8 4=0) && (decide (AC b 0 1=1) || decide (0<AC b 2 2))
def Gr (b:List UInt8):Bool :=
 FZ b && D9 (BN b (12+AC b 2 2*8) (BZ (AC b 1 1) (decide (AC b 0 1=1))*8-AC b 2 2*8)) && D9 (b.drop (12+BZ (AC b 1 1) (decide (AC b 0 1=1))*8+AC b 2 2*BF (AC b 1 1) (decide (AC b 0 1=1))))
def Bl (b:List UInt8):Int:=if Gr b=false then 7 else IA b (-1) 0 (AC b 2 2)
def Du (b:List UInt8):Nd :=
 let leaf:=decide (AC b 0 1=1)
 let tree:Int:=AC b 1 1
 ⟨tree,leaf,(List.range (AC b 2 2)).map (fun i=>(Dm b i:Int)),(List.range (AC b 2 2)).map (NJ b (BZ tree leaf) (BF tree leaf))⟩
def Aj (s:List UInt8):Int × Int:=if s.length≠4 then (0,7) else if EL s<1∨14399<EL s then (0,2) else (EL s,0)
def Ed (s:List UInt8):Int × Int × Int:=if s.length≠8 then (0,0,7) else if 1099511627775<EL s then (0,0,2) else ((EL s / 16777216:Nat),(EL s % 16777216:Nat),0)
structure Dt where
 mapped:Int
 tx:Int
 made:Int
 Bb:Int
def xM:Dt:=⟨0,0,0,0⟩
def CP (s:List UInt8):Dt × Int :=
 if s.length≠24 then (xM,7)
 else if 16384<AC s 0 8∨2147483647<AC s 8 8∨16777215<AC s 16 4∨16777215<AC s 20 4 then (xM,2)
 else (⟨AC s 0 8,AC s 8 8,AC s 16 4,AC s 20 4⟩,0)
end
end Go.Proofs.YtpenklpdjpkigaaGreat
