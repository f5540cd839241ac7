/- A part of the proof: Ints, IntE, RegApp, ClearK, AppOpt, ElMp, CloneA, CloneB. -/
import Derived.Test.YthblbddmcdnllaaGreatDoorX1
import Derived.Test.YthblbddmcdnllaaGreatDoorY1
import Derived.Maps.AppendAt
import Derived.Laws.IdiomCopy
import Derived.Laws.OwnMore
import Derived.Lib.SliceRun
import Derived.Test.YthblbddmcdnllaaGreatDoorX2
import Derived.Laws.AppendOwnNone
import Derived.Test.YthblbddmcdnllaaGreatDoorProg
set_option maxHeartbeats 6400000
set_option linter.unusedVariables false
set_option linter.unusedSimpArgs false
namespace Go.Proofs.YthblbddmcdnllaaGreatDoor
section
open Go.RowKit
abbrev BV (w:World) (S:Nat→Prop) (v:Value) (l:List Int):Prop:=Bp (Flat fun n:Int=>[.int .i64 n]) 1 0 w S v l
theorem Be {w:World} {S:Nat→Prop} {A:Option Addr} {l:List Int} (h:Bw (Flat fun n:Int=>[.int .i64 n]) 1 0 w S A l) (hl:0<l.length) :
 ∃ b off,A=some ⟨b,off,none⟩∧S b∧∀ k,k<l.length→w.cell? ⟨b,off+k,none⟩=some (.int .i64 (nth 0 l k)):=by
 obtain ⟨b,off,e,hb,hc⟩:=h hl
 refine ⟨b,off,e,hb,fun k hk=>?_⟩
 obtain ⟨cs,_,hr,h3⟩:=hc k hk
 obtain rfl:cs=_:=hr
 have:=h3 0 _ rfl
 simpa using this
end
section
open Go.RowKit
def encI (n:Int):List Value:=[.int .i64 n]
theorem Bu (n:Int):(encI n).length=1:=rfl
theorem Vn (n:Int):∀ x∈encI n,x.oneCell'=true:=by intro x hx;simp [encI] at hx;subst hx;rfl
theorem Bq (l:List Int):AA encI l=l.map (Value.int .i64):=by
 induction l with
 | nil=>rfl
 | cons a l ih=>rw [List.map_cons,← ih];rfl
end
section
open Go Go.RowKit
theorem KY {P:Program} {w:World} {ops:Array Oper} {o:Oper} {a:Act} {K:Act→World→Prop} {Q:Exit→Act→World→Prop} {F:Prop} {t e size bytes:Nat} {α:Type} {enc:α→List Value}
 (E:Elem P t e size bytes enc) (hg:o.guard=none) (s y:Operand) (hop:o.op=Op.call { callee:=Callee.builtin Builtin.append,args:=#[s,y],argTypes:=#[t,t] })
 (base:Nat) (v:Value) (n:Nat) (l:List α) (x:α) (hs:a.eval s=v) (hown:w.ownsRow base e size v n (AA enc l)) (hy:a.eval y=.slice (some ⟨w.heap.size,0,none⟩) 1 1)
 (hb:(n+1)*bytes≤140737488355328) (hbase:base≤w.heap.size)
 (hK:∀ A cap w',w'.ownsRow base e size (.slice A (n+1) cap) (n+1) (AA enc (l++[x]))→w.grownBy w' v.ownBlock→K (a.put o.dst (.slice A (n+1) cap)) w') :
 if Region.wanted o (yielded ops a.tmps)=true then Oper.wp P o a (w.alloc (.cells (enc x).toArray e)) K Q else F:=by
 have hw:Region.wanted o (yielded ops a.tmps)=true:=by simp [Region.wanted,hg]
 rw [if_pos hw]
 obtain ⟨z,hinfo,hz⟩:=E.info
 obtain ⟨i0,hi,hz0,hz1,hz2⟩:=info_parts hinfo
 have hm:n+1≤maxLen:=by
  have:=Nat.mul_le_mul_left (n+1) E.hby
  unfold maxLen;omega
 obtain ⟨v',w',hr,h2,h3,_,_⟩:=run_append_own_at (P:=P) (w.alloc (.cells (enc x).toArray e)) base t o.type e i0 z size bytes E.u hi hz0 hz1 hz2 hz E.hsz v n (AA enc l) (hown.alloc _) ⟨w.heap.size,0,none⟩ 1 1 (enc x) (by rw [E.len];omega) (Cm w (enc x) e) (E.one x) hm hb (by simp;omega)
 obtain ⟨A,cap,rfl,_⟩:=DK h2
 unfold Oper.wp execOp
 simp only [hop,resolve,invoke,builtin,Sem.run_bind,Sem.run_pure,Result.andThen_ok,List.map_toArray,List.map_cons,List.map_nil,hs,hy,hr]
 exact hK A cap w' (by rw [BK,Ju];exact h2) (Dx h3)
end
section
open Go Go.RowKit
section
variable {w:World} {base e size g n cap:Nat} {xs:List Value}
end
end
section
open Go Go.RowKit
theorem Gz {P:Program} {w:World} (base:Nat) (t ty e:TypeId) (i:TypeInfo) (size:Nat) (ht:P.underlying t=some (.slice e)) (hi:P.info? e=some i)
 (v:Value) (n:Nat) (xs:List Value) (c:Nat) (hown:w.ownsRow base e size v n xs) :
 (Builtin.append_ #[t,t] ty #[v,.slice none 0 c]).run P w=.ok v w:=by
 rcases hown.2 with ⟨rfl,rfl⟩|⟨g,cap,cur,rfl,_,_,hnc,_⟩
 · simp [Builtin.append_,run_underlying ht,sizeOf,typeInfo,hi,Builtin.lenOf,Builtin.firstCells]
 · simp [Builtin.append_,run_underlying ht,sizeOf,typeInfo,hi,Builtin.lenOf,Builtin.firstCells,hnc,storeCells]
end
section
open Go.RowKit
end
section
open Go.RowKit
theorem JM:(Tryz.prog.info? 3).map (fun i=>(i.zero,i.size,i.bytes))=some (some (.int .i64 0),1,8):=by kernel_rfl
end
section
open Go.RowKit
end
end Go.Proofs.YthblbddmcdnllaaGreatDoor
