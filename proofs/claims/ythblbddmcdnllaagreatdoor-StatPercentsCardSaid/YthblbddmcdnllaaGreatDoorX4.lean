/- A part of the proof: AppB, WPool1. -/
import Derived.Test.YthblbddmcdnllaaGreatDoorY1
import Derived.Laws.OwnMore
import Derived.Test.YthblbddmcdnllaaGreatDoorX3
import Derived.Test.YthblbddmcdnllaaGreatDoorProg
import Derived.Test.YthblbddmcdnllaaGreatDoorX1
import Derived.Deep.QuietTactic
import Derived.BigQuiet
import Derived.Outline
set_option maxHeartbeats 6400000
set_option linter.unusedVariables false
set_option linter.unusedSimpArgs false
namespace Go.Proofs.YthblbddmcdnllaaGreatDoor
section
open Go Go.RowKit
theorem Co {P:Program} {w:World} {ops:Array Oper} {o:Oper} {a:Act} {K:Act→World→Prop} {Q:Exit→Act→World→Prop} {F:Prop} {t e size bytes:Nat} {z:Value}
 (hu:P.underlying t=some (.slice e)) (hinfo:(P.info? e).map (fun i=>(i.zero,i.size,i.bytes))=some (some z,size,bytes)) (hz:z.cells.size=size) (hsz:0<size) (hby:0<bytes)
 (hg:o.guard=none) (s y:Operand) (hop:o.op=Op.call { callee:=Callee.builtin Builtin.append,args:=#[s,y],argTypes:=#[t,t] })
 (base:Nat) (v:Value) (n:Nat) (xs:List Value) (hs:a.eval s=v) (hown:w.ownsRow base e size v n xs) (ad:Option Addr) (m c:Nat) (news:List Value) (hy:a.eval y=.slice ad m c)
 (hl:news.length=m*size) (hc:∀ d,ad=some d→∀ j u,news[j]? = some u→w.cell? (d.add j)=some u) (h1:∀ u∈news,u.oneCell'=true) (hb:(n+m)*bytes≤140737488355328) (hbase:base≤w.heap.size) (hno:ad=none→m=0)
 (hK:∀ A cap w',w'.ownsRow base e size (.slice A (n+m) cap) (n+m) (xs++news)→w.grownBy w' v.ownBlock→(∀ x,(Value.slice A (n+m) cap).ownBlock=some x→v.ownBlock=some x∨x=w.heap.size)→K (a.put o.dst (.slice A (n+m) cap)) w') :
 if Region.wanted o (yielded ops a.tmps)=true then Oper.wp P o a w K Q else F:=by
 have hw:Region.wanted o (yielded ops a.tmps)=true:=by simp [Region.wanted,hg]
 rw [if_pos hw]
 obtain ⟨i0,hi,hz0,hz1,hz2⟩:=info_parts hinfo
 have hm:n+m≤maxLen:=by
  have:=Nat.mul_le_mul_left (n+m) hby
  unfold maxLen;omega
 cases ad with
 | some d =>
  obtain ⟨v',w',hr,h2,h3,_,h5⟩:=run_append_own_at (P:=P) w base t o.type e i0 z size bytes hu hi hz0 hz1 hz2 hz hsz v n xs hown d m c news hl (hc d rfl) h1 hm hb hbase
  obtain ⟨A,cap,rfl,_⟩:=DK h2
  unfold Oper.wp execOp
  simp only [hop,resolve,invoke,builtin,Sem.run_bind,Sem.run_pure,Result.andThen_ok,List.map_toArray,List.map_cons,List.map_nil,hs,hy,hr]
  refine hK A cap w' h2 h3 (fun x hx=>?_)
  rcases h5 with h5|h5
  · exact .inl (h5 ▸ hx)
  · right
    rw [h5] at hx
    injection hx with hx
    exact hx.symm
 | none =>
  obtain rfl:=hno rfl
  obtain rfl:news=[]:=List.eq_nil_of_length_eq_zero (by omega)
  obtain ⟨A,cap,rfl,_⟩:=DK hown
  have pF:=hK A cap w (by simpa using hown) (World.grownBy.refl w _) (fun x hx=>.inl hx)
  have hrun:=Gz (P:=P) (w:=w) base t o.type e i0 size hu hi _ n xs c hown
  unfold Oper.wp execOp
  simp only [hop,resolve,invoke,builtin,Sem.run_bind,Sem.run_pure,Result.andThen_ok,List.map_toArray,List.map_cons,List.map_nil,hs,hy,hrun]
  exact pF
theorem Cx {P:Program} {w:World} {ops:Array Oper} {rest:List Oper} {o:Oper} {a:Act} {Q:Exit→Act→World→Prop} {t e size bytes:Nat} {z:Value}
 (hu:P.underlying t=some (.slice e)) (hinfo:(P.info? e).map (fun i=>(i.zero,i.size,i.bytes))=some (some z,size,bytes)) (hz:z.cells.size=size) (hsz:0<size) (hby:0<bytes)
 (hg:o.guard=none) (s y:Operand) (hop:o.op=Op.call { callee:=Callee.builtin Builtin.append,args:=#[s,y],argTypes:=#[t,t] })
 (base:Nat) (v:Value) (n:Nat) (xs:List Value) (hs:a.eval s=v) (hown:w.ownsRow base e size v n xs) (ad:Option Addr) (m c:Nat) (news:List Value) (hy:a.eval y=.slice ad m c)
 (hl:news.length=m*size) (hc:∀ d,ad=some d→∀ j u,news[j]? = some u→w.cell? (d.add j)=some u) (h1:∀ u∈news,u.oneCell'=true) (hb:(n+m)*bytes≤140737488355328) (hbase:base≤w.heap.size) (hno:ad=none→m=0)
 (hK:∀ A cap w',w'.ownsRow base e size (.slice A (n+m) cap) (n+m) (xs++news)→w.grownBy w' v.ownBlock→(∀ x,(Value.slice A (n+m) cap).ownBlock=some x→v.ownBlock=some x∨x=w.heap.size)→wpList P ops Q rest (a.put o.dst (.slice A (n+m) cap)) w') :
 wpList P ops Q (o :: rest) a w:=by
 refine wpList_plain hg fun K pF=>?_
 have h:=Co (ops:=ops) (o:=o) (a:=a) (w:=w) (K:=K) (Q:=Q) (F:=False) hu hinfo hz hsz hby hg s y hop base v n xs hs hown ad m c news hy hl hc h1 hb hbase hno (fun A cap w' h2 h3 h4=>pF _ _ (hK A cap w' h2 h3 h4))
 rw [if_pos (by simp [Region.wanted,hg])] at h
 exact h
theorem BD {P:Program} {w:World} {ops:Array Oper} {rest:List Oper} {o:Oper} {a:Act} {Q:Exit→Act→World→Prop} {t e size bytes:Nat} {α:Type} {enc:α→List Value}
 (E:Elem P t e size bytes enc) (hg:o.guard=none) (s y:Operand) (hop:o.op=Op.call { callee:=Callee.builtin Builtin.append,args:=#[s,y],argTypes:=#[t,t] })
 (base:Nat) (v:Value) (n:Nat) (l:List α) (x:α) (hs:a.eval s=v) (hown:w.ownsRow base e size v n (AA enc l)) (hy:a.eval y=.slice (some ⟨w.heap.size,0,none⟩) 1 1)
 (hb:(n+1)*bytes≤140737488355328) (hbase:base≤w.heap.size)
 (hK:∀ A cap w',w'.ownsRow base e size (.slice A (n+1) cap) (n+1) (AA enc (l++[x]))→w.grownBy w' v.ownBlock→(∀ x,(Value.slice A (n+1) cap).ownBlock=some x→v.ownBlock=some x∨w.heap.size≤x)→wpList P ops Q rest (a.put o.dst (.slice A (n+1) cap)) w') :
 wpList P ops Q (o :: rest) a (w.alloc (.cells (enc x).toArray e)):=by
 obtain ⟨z,hinfo,hz⟩:=E.info
 refine Cx E.u hinfo hz E.hsz E.hby hg s y hop base v n (AA enc l) hs (hown.alloc _) (some ⟨w.heap.size,0,none⟩) 1 1 (enc x) hy (by rw [E.len];omega) (fun d hd=>?_) (E.one x) hb (by simp;omega) (fun h=>by cases h) ?_
 · obtain rfl:_=d:=by injection hd
   exact Cm w (enc x) e
 · intro A cap w' h1 h2 h3
   exact hK A cap w' (by rw [BK,Ju];exact h1) (Dx h2) (fun y hy=>by
    rcases h3 y hy with h|h
    · exact .inl h
    · right;rw [h];simp)
end
section
open Go.RowKit
theorem EM (w:World) (n lo hi:Int):Calls Tryz.prog 29 #[.int .i64 n,.int .i64 lo,.int .i64 hi] w fun e w'=>e=.returned (.bool (FC n lo hi))∧w=w':=by
 by_cases h1:lo≤n
 · by_cases h2:n≤hi
   · rw [YG ⟨h1,h2⟩]
     go_enter Tryz.func29,Tryz.ntmps29
     go_wp2
     go_ret
     exact ⟨rfl,rfl⟩
   · rw [Vm (fun h=>h2 h.2)]
     go_enter Tryz.func29,Tryz.ntmps29
     go_wp2
     go_ret
     exact ⟨rfl,rfl⟩
 · rw [Vm (fun h=>h1 h.1)]
   go_enter Tryz.func29,Tryz.ntmps29
   go_wp2
   go_ret
   exact ⟨rfl,rfl⟩
theorem PS (w:World) (t:Int):Calls Tryz.prog 57 #[.int .i64 t] w fun e w'=>e=.returned (.bool (!FC t 0 16777215))∧w=w':=by
 go_enter Tryz.func57,Tryz.ntmps57
 go_wp2_with (go_at_call 29;refine (EM _ _ _ _).mono ?_;rintro e w' ⟨rfl,rfl⟩)
 go_ret
 exact ⟨rfl,rfl⟩
theorem Vz (w:World) (S:Nat→Prop) (v:Value) (l:List Int) (hn:l.length≤140737488355328) (h:BV w S v l) :
 Calls Tryz.prog 101 #[v,.func (.func 57) #[] #[]] w fun e w'=>∃ i:Int,e=.returned (.int .i64 i)∧decide (0≤i) = !(l.all fun t=>FC t 0 16777215)∧w=w':=by
 obtain ⟨A,c,rfl,_,hr⟩:=h
 generalize hl0:l.length=n at *
 have hl:=qh hl0
 clear hl0
 go_enter Tryz.func101,Tryz.ntmps101
 go_wp2_with fail
 go_loop [8] (fun i=>∃ k:Nat,k≤n∧i=.int .i64 k∧(l.take k).all (fun t=>FC t 0 16777215)=true) (fun i=>n-(intOf i).toNat)
 case atStart=>exact ⟨0,by omega,rfl,rfl⟩
 case round =>
  obtain ⟨k,hk,rfl,hA⟩:=hrel
  have HA:=qh hA
  clear hA
  by_cases hlt:k<n
  · obtain ⟨b,off,rfl,hb,hc⟩:=Be hr (by rw [hl.out];omega)
    have c0:=hc k (by rw [hl.out];omega)
    have ht:=qh (Ck 0 l k (by rw [hl.out];omega))
    have hm:=qh (Ci 0 l k (by rw [hl.out];omega))
    clear hc
    generalize nth 0 l k=t at *
    by_cases hin:FC t 0 16777215=true
    · have hb2:(!FC t 0 16777215)=false:=by simp [hin]
      have HI:=qh hin
      clear hin
      go_wp2_with (go_at_call 57;refine (PS _ _).mono ?_;rintro e w' ⟨rfl,rfl⟩)
      go_round
      case rel=>exact ⟨k+1,by omega,by go_num,by rw [ht.out,List.all_append,HA.out];simp [HI.out]⟩
      case measure=>simp [intOf];omega
    · have hb2:(!FC t 0 16777215)=true:=by simpa using hin
      have HI:=qh hin
      clear hin
      go_wp2_with (go_at_call 57;refine (PS _ _).mono ?_;rintro e w' ⟨rfl,rfl⟩)
      go_ret
      refine ⟨k,rfl,?_,rfl⟩
      have:(l.all fun t=>FC t 0 16777215)=false:=by
       rw [List.all_eq_false]
       exact ⟨t,hm.out,HI.out⟩
      rw [this]
      simp
  · have hfin:Hid (l.take k=l):=List.take_of_length_le (by rw [hl.out];omega)
    go_wp2
    go_ret
    refine ⟨-1,rfl,?_,rfl⟩
    have:=HA.out
    rw [hfin.out] at this
    rw [this]
    rfl
theorem UI (w:World) (S:Nat→Prop) (v:Value) (l:List Int) (hn:l.length≤140737488355328) (h:BV w S v l) :
 Calls Tryz.prog 56 #[v,.func (.func 57) #[] #[]] w fun e w'=>e=.returned (.bool (!(l.all fun t=>FC t 0 16777215)))∧w=w':=by
 have hi:=qh (Vz w S v l hn h)
 obtain ⟨A,c,rfl,_,hr⟩:=h
 go_enter Tryz.func56,Tryz.ntmps56
 go_wp2_with (go_at_call 101;refine hi.out.mono ?_;rintro e w' ⟨i,rfl,hd,rfl⟩;have HD:=qh hd;clear hd)
 go_ret
 exact ⟨O4 HD.out,rfl⟩
theorem NC (w:World) (S:Nat→Prop) (v:Value) (tx:Int) (l:List Int) (hn:l.length≤140737488355328) (h:BV w S v l) :
 Calls Tryz.prog 28 #[.int .i64 tx,v] w fun e w'=>e=.returned (.bool (EE tx l))∧w=w':=by
 have hi:=qh (UI w S v l hn h)
 obtain ⟨A,c,rfl,_,hr⟩:=h
 by_cases h1:FC tx 0 2147483647=true
 · have e1:EE tx l = !!(l.all fun t=>FC t 0 16777215):=by simp [EE,h1]
   rw [e1]
   generalize (l.all fun t=>FC t 0 16777215)=B at *
   go_enter Tryz.func28,Tryz.ntmps28
   go_wp2_with (first
    | (go_at_call 29;refine (EM _ _ _ _).mono ?_;rintro e w' ⟨rfl,rfl⟩)
    | (go_at_call 56;refine hi.out.mono ?_;rintro e w' ⟨rfl,rfl⟩))
   go_ret
   exact ⟨O4 (by simp),rfl⟩
 · have h1':FC tx 0 2147483647=false:=by simpa using h1
   have e1:EE tx l=false:=by simp [EE,h1']
   rw [e1]
   clear h1 e1
   go_enter Tryz.func28,Tryz.ntmps28
   go_wp2_with (go_at_call 29;refine (EM _ _ _ _).mono ?_;rintro e w' ⟨rfl,rfl⟩)
   go_ret
   exact ⟨rfl,rfl⟩
end
end Go.Proofs.YthblbddmcdnllaaGreatDoor
