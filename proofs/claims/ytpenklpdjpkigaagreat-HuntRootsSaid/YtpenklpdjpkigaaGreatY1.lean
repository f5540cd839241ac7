/- Part 1 of the proof: RegT, Ways, TillIn, Base, OwnB, Map, Pool, Ints, IntE, OwnT, Box, Errs. -/
import Derived.Deep.RegionHeld3
import Derived.Deep.AppendLies
import Derived.StillTail
import Derived.Lib.Hide
import Derived.OrdersIn
import Derived.RangeFuncCalls
import Derived.TacticsIn
import Derived.WalkKit
import Derived.WalkSpells
import Derived.WalkLawsBesides
import Derived.Deep.Draws
set_option maxHeartbeats 6400000
set_option linter.unusedVariables false
set_option linter.unusedSimpArgs false
namespace Go.Proofs.YtpenklpdjpkigaaGreat
theorem qS {α:Type _} (l:List α) (i:Nat) (a:α):l.toArray.setIfInBounds i a=(l.set i a).toArray:=List.setIfInBounds_toArray ..
theorem qZ {α:Type _} (x a:α) (l:List α):(x :: l).set 0 a=a :: l:=List.set_cons_zero ..
theorem qU {α:Type _} (x a:α) (l:List α) (n:Nat):(x :: l).set (n+1) a=x :: l.set n a:=List.set_cons_succ ..
theorem qh {p:Prop} (h:p):RowKit.Hid p:=Lib.hid h

section
open Go Go.RowKit
section
variable {P:Program} {ops:Array Oper} {Q:Exit→Act→World→Prop} {md:Region.Mode} {S:World→Prop} {T:Nat→Bool}
def D5 (P:Program) (md:Region.Mode) (ops:Array Oper) (Q:Exit→Act→World→Prop) (T:Nat→Bool) (S:World→Prop):Nat→Array Bool→Act→World→Prop
 | 0,listed,a,w=>Region.ready md ops listed=[]∧Q .normal a w
 | n+1,listed,a,w =>
  (Region.ready md ops listed=[]→Q .normal a w) ∧
  ∀ i∈Region.ready md ops listed,wpOp P ops Q i (fun a' w'=>(T i=false→S w')∧D5 P md ops Q T S n (listed.setIfInBounds i true) a' w') a w
theorem IM:∀ (n:Nat) (listed:Array Bool) (a:Act) (w:World),D5 P md ops Q T S n listed a w→wpAny P md ops Q n listed a w
 | 0,_,_,_,h=>h
 | n+1,_,_,_,h=>⟨h.1,fun i hi=>wpOp_mono (fun a' w' h'=>IM n _ a' w' h'.2) (h.2 i hi)⟩
theorem AF {id:Nat} {a:Act} {w:World} (hm:P.follows .mixedOrders=true) (hS:S w.drew)
 (h:S w.drew→D5 P .any ops Q T S ops.size (Array.replicate ops.size false) a w.drew):(Code.region id ops true).wp P Q a w :=
 wp_region_any hm (IM _ _ _ _ (h hS))
def UE (md:Region.Mode) (ops:Array Oper) (T:Nat→Bool) (i:Nat):Bool :=
 (List.range ops.size).all fun j => !(T j) || match ops[j]? with|some oj=>oj.after.any fun e=>Region.binds md e && e.on==i|none=>true
theorem V5 {i:Nat} (h:UE md ops T i=true) (j:Nat) (oj:Oper) (hj:ops[j]? = some oj) (hT:T j=true):∃ e∈oj.after,Region.binds md e=true∧e.on=i:=by
 have hlt:j<ops.size:=(Array.getElem?_eq_some_iff.1 hj).1
 have h1:=List.all_eq_true.1 h j (List.mem_range.2 hlt)
 rw [hT,hj] at h1
 simp only [Bool.not_true,Bool.false_or] at h1
 obtain ⟨e,he,hb⟩:=Array.any_eq_true'.1 h1
 simp only [Bool.and_eq_true,beq_iff_eq] at hb
 exact ⟨e,he,hb⟩
theorem Ld {i:Nat} {oi:Oper} {v:Value} (hi:ops[i]? = some oi) (hsel:∀ (j:Nat) (o:Oper) cs b,ops[j]? = some o→o.op≠.select cs b)
 (hQ:∀ c a w,Q (.panic c) (a.put oi.dst v) w→Q (.panic c) a w) (hT:UE md ops T i=true) :
 ∀ (n:Nat) (listed:Array Bool) (a:Act) (w:World),
  (∀ j oj,ops[j]? = some oj→j≠i→listed.getD j true=false→(∀ e∈oj.after,Region.binds md e=true→e.on≠i)→oi.apart ops oj=true) →
  i∈Region.ready md ops listed→YieldsIf P ops S oi v a→S w →
  D5 P md ops Q T S n (listed.setIfInBounds i true) (a.put oi.dst v) w→D5 P md ops Q T S (n+1) listed a w:=by
 intro n
 induction n with
 | zero =>
  intro listed a w _ hr hy hS H
  refine ⟨fun h=>(by rw [h] at hr;cases hr),fun j hj=>?_⟩
  by_cases hji:j=i
  · subst hji;exact hy.wpOp hi hS ⟨fun _=>hS,H⟩
  · have h1:=ready_mono hj hji
    rw [H.1] at h1
    cases h1
 | succ n ih =>
  intro listed a w hfree hr hy hS H
  refine ⟨fun h=>(by rw [h] at hr;cases hr),fun j hj=>?_⟩
  by_cases hji:j=i
  · subst hji;exact hy.wpOp hi hS ⟨fun _=>hS,H⟩
  · have h1:=H.2 j (ready_mono hj hji)
    obtain ⟨hjun,oj,hoj,hall⟩:=mem_ready.1 hj
    have hun:=(mem_ready.1 hr).1
    have hnot:∀ e∈oj.after,Region.binds md e=true→e.on≠i:=fun e he hb heq=>by
     have g1:=hall e he hb
     rw [heq] at g1
     have g2:=getD_both hun
     rw [g1] at g2
     cases g2
    have hTj:T j=false:=by
     cases hc:T j with
     | false=>rfl
     | true =>
      obtain ⟨e,he,hb,heq⟩:=V5 hT j oj hoj hc
      exact absurd heq (hnot e he hb)
    have h2:=wpOp_putIf hoj (hfree j oj hoj hji hjun hnot) (fun cs b=>hsel i oi cs b hi) (fun cs b=>hsel j oj cs b hoj) hQ hy h1
    refine wpOp_mono (fun a' w' h3=>⟨h3.2.1,ih (listed.setIfInBounds j true) a' w' (fun k ok hk hki hku hno=>hfree k ok hk hki ?_ hno) (ready_mono hr (Ne.symm hji)) h3.1 (h3.2.1 hTj) ?_⟩) h2
    · by_cases hjk:j=k
      · subst hjk;exact hjun
      · rw [getD_set_ne true hjk] at hku;exact hku
    · rw [Array.setIfInBounds_comm _ _ hji]
      exact h3.2.2
theorem UF (i:Nat) {oi:Oper} {v:Value} {n:Nat} {listed:Array Bool} {a:Act} {w:World} (hi:ops[i]? = some oi)
 (hs:Region.noSelect ops=true) (hf:Region.free md ops listed i=true) (hr:(Region.ready md ops listed).contains i=true) (hT:UE md ops T i=true)
 (hQ:∀ c a w,Q (.panic c) (a.put oi.dst v) w→Q (.panic c) a w) (hw:Region.wanted oi (yielded ops a.tmps)=true) (hS:S w) (hy:∀ w,S w→(execOp a.eval oi).run P w=.ok (.value v) w)
 (h:D5 P md ops Q T S n (listed.setIfInBounds i true) (a.put oi.dst v) w):D5 P md ops Q T S (n+1) listed a w :=
 Ld hi (Region.noSelect_spec hs) hQ hT n listed a w (Region.free_spec hi hf) (by simpa using hr) (.inl ⟨hw,hy⟩) hS h
theorem sD (i d:Nat) {oi:Oper} {v:Value} {n:Nat} {listed:Array Bool} {a:Act} {w:World} (hi:ops[i]? = some oi) (hd:oi.dst=some d)
 (hs:Region.noSelect ops=true) (hf:Region.free md ops listed i=true) (hr:(Region.ready md ops listed).contains i=true) (hT:UE md ops T i=true)
 (hQ:∀ c a w,Q (.panic c) (a.put oi.dst v) w→Q (.panic c) a w) (hw:Region.wanted oi (yielded ops a.tmps)=true) (hS:S w) (hy:∀ w,S w→(execOp a.eval oi).run P w=.ok (.value v) w)
 (h:D5 P md ops Q T S n (listed.setIfInBounds i true) (a.put (some d) v) w):D5 P md ops Q T S (n+1) listed a w :=
 UF i hi hs hf hr hT hQ hw hS hy (by rw [hd];exact h)
theorem sF (i:Nat) {o:Oper} {n:Nat} {listed:Array Bool} {a:Act} {w:World} (hr:Region.ready md ops listed=[i]) (ho:ops[i]? = some o)
 (h:∀ K':Act→World→Prop,Hid (∀ a w,(T i=false→S w)→((T i=false→S w)→D5 P md ops Q T S n (listed.setIfInBounds i true) a w)→K' a w)→if Region.wanted o (yielded ops a.tmps)=true then Oper.wp P o a w K' Q else K' (a.put o.dst undef) w) :
 D5 P md ops Q T S (n+1) listed a w:=by
 refine ⟨fun h0=>(by rw [h0] at hr;cases hr),fun j hj=>?_⟩
 rw [hr] at hj
 obtain rfl:j=i:=by simpa using hj
 exact wpOp_step ho (fun K' hK=>h K' (qh fun a w h1 h2=>hK a w ⟨h1,h2 h1⟩))
theorem Di {S':World→Prop} (hS:∀ w,S' w→S w):∀ (n:Nat) (listed:Array Bool) (a:Act) (w:World),D5 P md ops Q T S' n listed a w→D5 P md ops Q T S n listed a w
 | 0,_,_,_,h=>h
 | n+1,_,_,_,h=>⟨h.1,fun i hi=>wpOp_mono (fun a' w' h'=>⟨fun hT=>hS _ (h'.1 hT),Di hS n _ a' w' h'.2⟩) (h.2 i hi)⟩
theorem pX {listed:Array Bool} {a:Act} {w:World} (hr:Region.ready md ops listed=[]) (h:Q .normal a w):∀ n,D5 P md ops Q T S n listed a w
 | 0=>⟨hr,h⟩
 | _+1=>⟨fun _=>h,by rw [hr];simp⟩
end
theorem AQ {w w':World} {B b o:Nat} {v:Value} (h:Below B w w') (hb:b<B) (k:w.cell? ⟨b,o,none⟩=some v):w'.cell? ⟨b,o,none⟩=some v:=(h.cell (p:=⟨b,o,none⟩) hb).trans k
def Q7 (Q:Exit→Act→World→Prop):Exit→Act→World→Prop
 | .normal,a,w=>Q .normal a w
 | _,_,_=>False
theorem ZA {P:Program} {Q:Exit→Act→World→Prop} {c:Code} {a:Act} {w:World} (h:c.wp P (Q7 Q) a w):c.wp P Q a w :=
 wp_mono h fun e _ _ hq=>by cases e <;> first|exact hq|exact hq.elim
section
variable {P:Program} {md:Region.Mode} {ops:Array Oper} {Q:Exit→Act→World→Prop} {T:Nat→Bool} {S:World→Prop}
theorem qs (i d:Nat) {oi:Oper} {v:Value} {n:Nat} {listed:Array Bool} {a b:Act} {w:World} (hS:S w) (h:D5 P md ops Q T S n (listed.setIfInBounds i true) b w) (hi:ops[i]? = some oi:=by exact rfl) (hd:oi.dst=some d:=by exact rfl) (hy:∀ w,S w→(execOp a.eval oi).run P w=.ok (.value v) w:=by intro w hSw;go_simp;(try with_reducible rfl)) (hb:a.put (some d) v=b:=by (try simp only [Act.put,qS,qZ,qU]);(try rfl)) (hs:Region.noSelect ops=true:=by kernel_rfl) (hf:Region.free md ops listed i=true:=by kernel_rfl) (hr:(Region.ready md ops listed).contains i=true:=by kernel_rfl) (hT:UE md ops T i=true:=by kernel_rfl) (hQ:∀ c a w,Q (.panic c) (a.put oi.dst v) w→Q (.panic c) a w:=by exact fun _ _ _ h=>h) (hw:Region.wanted oi (yielded ops a.tmps)=true:=by rfl):D5 P md ops Q T S (n+1) listed a w:=by
  subst hb
  exact sD i d hi hd hs hf hr hT hQ hw hS hy h
theorem qf (i d:Nat) {oi:Oper} {v:Value} {n:Nat} {listed:Array Bool} {a b:Act} {w:World} (hi:ops[i]? = some oi) (hd:oi.dst=some d) (hS:S w) (hy:∀ w,S w→(execOp a.eval oi).run P w=.ok (.value v) w) (h:D5 P md ops Q T S n (listed.setIfInBounds i true) b w) (hb:a.put (some d) v=b:=by (try simp only [Act.put,qS,qZ,qU]);(try rfl)) (hs:Region.noSelect ops=true:=by kernel_rfl) (hf:Region.free md ops listed i=true:=by kernel_rfl) (hr:(Region.ready md ops listed).contains i=true:=by kernel_rfl) (hT:UE md ops T i=true:=by kernel_rfl) (hQ:∀ c a w,Q (.panic c) (a.put oi.dst v) w→Q (.panic c) a w:=by exact fun _ _ _ h=>h) (hw:Region.wanted oi (yielded ops a.tmps)=true:=by rfl):D5 P md ops Q T S (n+1) listed a w:=by
  subst hb
  exact sD i d hi hd hs hf hr hT hQ hw hS hy h
theorem qo (i:Nat) {o:Oper} {n:Nat} {listed:Array Bool} {a:Act} {w:World} (h:∀ K':Act→World→Prop,RowKit.Hid (∀ a w,(T i=false→S w)→((T i=false→S w)→D5 P md ops Q T S n (listed.setIfInBounds i true) a w)→K' a w)→if Region.wanted o (yielded ops a.tmps)=true then Oper.wp P o a w K' Q else K' (a.put o.dst undef) w) (ho:ops[i]? = some o:=by exact rfl) (hr:Region.ready md ops listed=[i]:=by kernel_rfl):D5 P md ops Q T S (n+1) listed a w:=sF i hr ho h
theorem qd {n:Nat} {listed:Array Bool} {a:Act} {w:World} (h:Q .normal a w) (hr:Region.ready md ops listed=[]:=by kernel_rfl):D5 P md ops Q T S n listed a w:=pX hr h n
end
end
section
open Go Go.RowKit
section
variable {P:Program} {ops:Array Oper} {Q:Exit→Act→World→Prop} {md:Region.Mode} {S:World→Prop} {T:Nat→Bool}
theorem F3 (i j:Nat) {oi oj:Oper} {n:Nat} {listed:Array Bool} {a:Act} {w:World} (hr:Region.ready md ops listed=[i,j]) (hi:ops[i]? = some oi) (hj:ops[j]? = some oj)
 (h1:∀ K':Act→World→Prop,Hid (∀ a w,(T i=false→S w)→((T i=false→S w)→D5 P md ops Q T S n (listed.setIfInBounds i true) a w)→K' a w)→if Region.wanted oi (yielded ops a.tmps)=true then Oper.wp P oi a w K' Q else K' (a.put oi.dst undef) w)
 (h2:∀ K':Act→World→Prop,Hid (∀ a w,(T j=false→S w)→((T j=false→S w)→D5 P md ops Q T S n (listed.setIfInBounds j true) a w)→K' a w)→if Region.wanted oj (yielded ops a.tmps)=true then Oper.wp P oj a w K' Q else K' (a.put oj.dst undef) w) :
 D5 P md ops Q T S (n+1) listed a w:=by
 refine ⟨fun h0=>(by rw [h0] at hr;cases hr),fun x hx=>?_⟩
 rw [hr] at hx
 rcases List.mem_cons.1 hx with rfl|hx
 · exact wpOp_step hi (fun K' hK=>h1 K' (qh fun a w g1 g2=>hK a w ⟨g1,g2 g1⟩))
 · obtain rfl:x=j:=by simpa using hx
   exact wpOp_step hj (fun K' hK=>h2 K' (qh fun a w g1 g2=>hK a w ⟨g1,g2 g1⟩))
end
section
variable {P:Program} {ops:Array Oper} {Q:Exit→Act→World→Prop} {md:Region.Mode} {S:World→Prop} {T:Nat→Bool}
theorem AY (i d:Nat) {oi:Oper} {n:Nat} {listed:Array Bool} {a:Act} {w:World} (hi:ops[i]? = some oi) (hd:oi.dst=some d)
 (hs:Region.noSelect ops=true) (hf:Region.free md ops listed i=true) (hr:(Region.ready md ops listed).contains i=true) (hT:UE md ops T i=true)
 (hQ:∀ c a w,Q (.panic c) (a.put oi.dst undef) w→Q (.panic c) a w) (hw:Region.wanted oi (yielded ops a.tmps)=false) (hS:S w)
 (h:D5 P md ops Q T S n (listed.setIfInBounds i true) (a.put (some d) undef) w):D5 P md ops Q T S (n+1) listed a w :=
 Ld hi (Region.noSelect_spec hs) hQ hT n listed a w (Region.free_spec hi hf) (by simpa using hr) (.inr ⟨hw,rfl⟩) hS (by rw [hd];exact h)
end
theorem OW {w w':World} {g:Nat} {o:Obj} (h:w.heap[g]? = some o) (hB:Below w.heap.size w w'):w'.heap[g]? = some o:=(hB.block g (Array.getElem?_eq_some_iff.1 h).1).trans h
theorem Cv {w:World} {b:Nat} {cs:Array Value} {t:TypeId} (h:w.heap[b]? = some (.cells cs t (0,0))) (i:Nat):w.frozen? ⟨b,i,none⟩=false:=by simp [World.frozen?,h]
end
section
open Go Go.RowKit
theorem kg {l n:Nat} {P:Program} {row:String} {args:Array Value} {w:World} {R:Value→World→Prop} (h:Rows P row args w R):RowsIn (Fence.wide.inRound l) n P row args w R:=by
 intro c cs _
 obtain ⟨v,w',hr,hs⟩:=h c cs
 exact ⟨v,w',hr,stepsIn_wide.2 hs⟩
theorem ko {l n:Nat} {P:Program} {o:Oper} {Q:Exit→Act→World→Prop} {K:Act→World→Prop} {a:Act} {w:World} (hnd:∀ c,o.op≠.defer c) (h:o.wp P a w K (Q7 Q)):o.wpIn (Fence.wide.inRound l) n P a w K Q:=by
 refine ⟨fun _ _=>trivial,?_⟩
 rw [Fence.inRound_round,Oper.semAt_some l _ o hnd]
 unfold Oper.wp at h
 generalize (execOp a.eval o).run P w=r at h ⊢
 cases r with
 | ok v w' =>
  cases v with
  | value v=>exact h
  | skip=>exact h
  | defer d=>exact h
  | enter f args =>
   refine ⟨fun h=>(by cases h),(CallsIn.inRound l (callsIn_wide.2 h)).mono ?_⟩
   intro e w'' h2
   cases e with
   | returned v=>exact h2
   | panicked ch=>exact h2.elim
   | outgrown=>obtain ⟨_,_,h3⟩:=h2;exact h3.elim
  | row r args=>exact ⟨fun h=>(by cases h),kg h⟩
  | _=>exact h.elim
 | halt h' w' =>
  cases h' with
  | panic v=>exact h.elim
  | _=>exact h.elim
def Le (ops:Array Oper):Bool:=ops.all fun o=>match o.op with|.defer _=>false|_=>true
theorem V6 {ops:Array Oper} (h:Le ops=true) {i:Nat} {o:Oper} (hi:ops[i]? = some o):∀ c,o.op≠.defer c:=by
 intro c hc
 unfold Le at h
 rw [Array.all_eq_true_iff_forall_mem] at h
 have:=h o (Array.mem_of_getElem? hi)
 rw [hc] at this
 cases this
theorem ku {l n:Nat} {P:Program} {ops:Array Oper} {Q:Exit→Act→World→Prop} {i:Nat} {K:Act→World→Prop} {a:Act} {w:World} (hnd:Le ops=true) (h:wpOp P ops (Q7 Q) i K a w):wpOpIn (Fence.wide.inRound l) n P ops Q i K a w:=by
 unfold wpOp at h
 unfold wpOpIn
 cases hi:ops[i]? with
 | none=>rw [hi] at h;exact h
 | some o =>
  rw [hi] at h
  dsimp only at h ⊢
  by_cases hw:Region.wanted o (yielded ops a.tmps)=true
  · rw [if_pos hw] at h ⊢
    rcases h with h|⟨_,_,_,h⟩
    · exact ko (V6 hnd hi) h
    · exact h.elim
  · rw [if_neg hw] at h ⊢
    exact ⟨fun _ _=>trivial,h⟩
theorem UG {l n:Nat} {P:Program} {md:Region.Mode} {ops:Array Oper} {Q:Exit→Act→World→Prop} (hnd:Le ops=true):∀ (k:Nat) (listed:Array Bool) (a:Act) (w:World),wpAny P md ops (Q7 Q) k listed a w→wpAnyIn (Fence.wide.inRound l) n P md ops Q k listed a w
 | 0,_,_,_,h=>h
 | k+1,_,_,_,h=>⟨h.1,fun i hi=>wpOpIn_mono (fun a' w' h'=>UG hnd k _ a' w' h') (ku hnd (h.2 i hi))⟩
theorem Lf {l n:Nat} {P:Program} {ops:Array Oper} {Q:Exit→Act→World→Prop} {S:World→Prop} {T:Nat→Bool} {id:Nat} {a:Act} {w:World} (hm:P.follows .mixedOrders=true) (hS:S w.drew)
 (h:S w.drew→D5 P .any ops (Q7 Q) T S ops.size (Array.replicate ops.size false) a w.drew) (hnd:Le ops=true:=by kernel_rfl):(Code.region id ops true).wpIn (Fence.wide.inRound l) n P Q a w :=
 wpIn_region_any hm (UG hnd _ _ _ _ (IM _ _ _ _ (h hS)))
theorem dZ {Q:Exit→Act→World→Prop} {a:Act} {w:World} (h:Q .normal a w):Q7 Q .normal a w:=h
end
section
open Go.RowKit
def nth {α:Type} (d:α) (l:List α) (k:Nat):α:=l.getD k d
theorem Ac {α:Type} (d:α) (l:List α) (k:Nat) (h:k<l.length):nth d l k=l[k]:=by unfold nth;simp [h]
theorem Bv {α:Type} (d:α) (l:List α) (k:Nat) (h:k<l.length):nth d l k∈l:=by rw [Ac d l k h];exact List.getElem_mem h
theorem Eb {α:Type} (d:α) (l:List α) (k:Nat) (h:k<l.length):l.drop k=nth d l k :: l.drop (k+1):=by
 rw [Ac d l k h];exact List.drop_eq_getElem_cons h
theorem DV {α:Type} (d:α) (l:List α) (k:Nat) (h:k<l.length):l.take (k+1)=l.take k++[nth d l k]:=by
 rw [Ac d l k h,List.take_succ_eq_append_getElem h]
theorem df {α:Type} (d:α) (l:List α) (i k:Nat):nth d (l.drop i) k=nth d l (i+k):=by
 unfold nth;simp [List.getD]
theorem EP {α:Type} (d x:α) (l:List α):nth d (x :: l) 0=x:=rfl
theorem EQ {α:Type} (d x:α) (l:List α) (k:Nat):nth d (x :: l) (k+1)=nth d l k:=by simp [nth,List.getD]
theorem Gm {α:Type} (d:α) (l r:List α) (k:Nat) (h:k<l.length):nth d (l++r) k=nth d l k:=by
 unfold nth;simp [List.getD,List.getElem?_append_left h]
theorem Jo {α:Type} (d:α) (l r:List α) (x:α):nth d (l++x :: r) l.length=x:=by
 unfold nth;simp [List.getD]
theorem dr2 (w:World) (a b:Nat):∃ m,(w.drewN a).drewN b=w.drewN m:=⟨_,World.drewN_drewN _ _ _⟩
theorem JG {k:IntKind} {a b:Int} (h:a=b):Ending.returned (.int k a)=.returned (.int k b):=by rw [h]
theorem UH {a b:Bool} (h:a=b):Ending.returned (.bool a)=.returned (.bool b):=by rw [h]
def CS (S:Nat→Prop) (w w':World):Prop:=∀ b o,S b→w'.cell? ⟨b,o,none⟩=w.cell? ⟨b,o,none⟩
def Lt (B:Nat):Nat→Prop:=fun b=>b<B
def C9 (L B:Nat):Nat→Prop:=fun b=>L≤b∧b<B
section
variable {S S':Nat→Prop} {w w' w'':World} {B:Nat}
theorem CS.refl:CS S w w:=fun _ _ _=>rfl
theorem CS.trans (h:CS S w w') (k:CS S w' w''):CS S w w'':=fun b o hb=>(k b o hb).trans (h b o hb)
theorem AL (h:Below B w w') (hs:∀ b,S b→b<B):CS S w w':=fun b o hb=>h.cell (p:=⟨b,o,none⟩) (hs b hb)
theorem Mh {w0 w1:World} (h:Below B w w0) (k:Below B w w1) (hs:∀ b,S b→b<B):CS S w0 w1:=fun b o hb=>(k.cell (p:=⟨b,o,none⟩) (hs b hb)).trans (h.cell (p:=⟨b,o,none⟩) (hs b hb)).symm
theorem EH (hs:∀ b,S b→b<w.heap.size) (o:Obj):CS S w (w.alloc o):=fun b i hb=>World.cell?_alloc_lt w o ⟨b,i,none⟩ (hs b hb)
theorem FU {p:Addr} (hs:¬ S p.block) (u:Value):CS S w (w.setCell p u) :=
 fun b i hb=>World.cell?_setCell_other w p ⟨b,i,none⟩ u (fun e=>hs (by rw [e];exact hb))
end
theorem FV {w:World} {base e size:Nat} {v:Value} {n:Nat} {xs:List Value} (h:w.ownsRow base e size v n xs) (hn:0<n):∃ g cap,v=.slice (some ⟨g,0,none⟩) n cap∧base≤g∧g<w.heap.size∧n≤cap:=by
 rcases h.2 with ⟨_,h0⟩|⟨g,cap,cur,hv,hb,hg,hnc,_⟩
 · omega
 · exact ⟨g,cap,hv,hb,(Array.getElem?_eq_some_iff.1 hg).1,hnc⟩
theorem DJ {w:World} {base e size:Nat} {v:Value} {n:Nat} {xs:List Value} (h:w.ownsRow base e size v n xs):∃ A cap,v=.slice A n cap∧n≤cap:=by
 rcases h.2 with ⟨hv,h0⟩|⟨g,cap,cur,hv,_,_,hnc,_⟩
 · subst h0;exact ⟨none,0,hv,Nat.le_refl _⟩
 · exact ⟨_,cap,hv,hnc⟩
theorem Cm (w:World) (cs:List Value) (t:TypeId):∀ j u,cs[j]? = some u→(w.alloc (.cells cs.toArray t)).cell? ((⟨w.heap.size,0,none⟩:Addr).add j)=some u:=by
 intro j u hj
 have e:(⟨w.heap.size,0,none⟩:Addr).add j=⟨w.heap.size,j,none⟩:=by unfold Addr.add;split <;> simp_all
 rw [e,World.cell?_alloc_new]
 simpa using hj
theorem Ij {w w1:World} {o:Obj} {row:Option Nat} (h:(w.alloc o).grownBy w1 row):w.grownBy w1 row :=
 ⟨h.os,h.tape,h.output,by have:=h.size;simp at this;omega,fun j hj hne=>(h.block j (by simp;omega) hne).trans (Below.heap_alloc w o j hj)⟩
theorem UI {w w1 w2:World} {row:Option Nat} (h:w.grownBy w1 row) (k:w1.grownBy w2 row):w.grownBy w2 row :=
 ⟨k.os.trans h.os,k.tape.trans h.tape,k.output.trans h.output,Nat.le_trans h.size k.size,fun j hj hne=>(k.block j (by have:=h.size;omega) hne).trans (h.block j hj hne)⟩
def One (w:World) (b:Nat) (v:Value) (t:TypeId):Prop:=w.heap[b]? = some (.cells #[v] t (0,0))
section
variable {w w':World} {b:Nat} {v u:Value} {t:TypeId}
theorem One.cell (h:One w b v t):w.cell? ⟨b,0,none⟩=some v:=by unfold One at h;simp [World.cell?,h]
theorem One.free (h:One w b v t):w.frozen? ⟨b,0,none⟩=false:=by unfold One at h;simp [World.frozen?,h]
theorem One.lt (h:One w b v t):b<w.heap.size:=(Array.getElem?_eq_some_iff.1 h).1
theorem One.grown {row:Option Nat} (h:One w b v t) (hg:w.grownBy w' row) (hne:some b≠row):One w' b v t:=(hg.block b h.lt hne).trans h
theorem One.below {B:Nat} (h:One w b v t) (hg:Below B w w') (hb:b<B):One w' b v t:=(hg.block b hb).trans h
theorem One.alloc (h:One w b v t) (o:Obj):One (w.alloc o) b v t:=(Below.heap_alloc w o b h.lt).trans h
theorem One.Dc (h:One w b v t):One (w.setCell ⟨b,0,none⟩ u) b u t:=by unfold One at *;simp [World.setCell,Array.getElem?_modify,h]
theorem One.far (h:One w b v t) {p:Addr} (hp:b≠p.block):One (w.setCell p u) b v t:=(Below.heap_setCell w p u b hp).trans h
theorem One.new (w:World) (v:Value) (t:TypeId):One (w.alloc (.cells #[v] t)) w.heap.size v t:=heap_alloc_new w _
end
abbrev QV (α:Type):=World→(Nat→Prop)→List Value→α→Prop
def Stable {α:Type} (R:QV α):Prop:=∀ (w w':World) (S S':Nat→Prop) (cs:List Value) (x:α),(∀ b,S b→S' b)→CS S w w'→R w S cs x→R w' S' cs x
def Flat {α:Type} (enc:α→List Value):QV α:=fun _ _ cs x=>cs=enc x
theorem AA {α:Type} (enc:α→List Value):Stable (Flat enc):=fun _ _ _ _ _ _ _ _ h=>h
def BX {α:Type} (R:QV α) (size:Nat) (d:α) (w:World) (S:Nat→Prop) (A:Option Addr) (l:List α):Prop :=
 0<l.length→∃ b off,A=some ⟨b,off,none⟩∧S b∧∀ k,k<l.length→∃ cs,cs.length=size∧R w S cs (nth d l k)∧∀ j u,cs[j]? = some u→w.cell? ⟨b,off+k*size+j,none⟩=some u
def CF {α:Type} (R:QV α) (size:Nat) (d:α) (w:World) (S:Nat→Prop) (v:Value) (l:List α):Prop :=
 ∃ A c,v=.slice A l.length c∧l.length≤c∧BX R size d w S A l
section
variable {α:Type} {R:QV α} {size:Nat} {d:α} {w w':World} {S S':Nat→Prop} {A:Option Addr} {l:List α} {v:Value}
theorem BX.keep (hR:Stable R) (h:BX R size d w S A l) (hs:∀ b,S b→S' b) (hk:CS S w w'):BX R size d w' S' A l:=by
 intro hl
 obtain ⟨b,off,e,hb,hc⟩:=h hl
 refine ⟨b,off,e,hs b hb,fun k hk'=>?_⟩
 obtain ⟨cs,h1,h2,h3⟩:=hc k hk'
 exact ⟨cs,h1,hR _ _ _ _ _ _ hs hk h2,fun j u hu=>(hk b _ hb).trans (h3 j u hu)⟩
theorem BX.F4:BX R size d w S A []:=fun h=>absurd h (by simp)
theorem BX.drop {c:Nat} (h:BX R size d w S A l) {k:Nat} (hk:k≤l.length) (hc:l.length≤c):BX R size d w S (if c=k then A else A.map (·.add (k*size))) (l.drop k):=by
 intro hl
 rw [List.length_drop] at hl
 obtain ⟨b,off,rfl,hb,hcell⟩:=h (by omega)
 rw [if_neg (by omega)]
 refine ⟨b,off+k*size,?_,hb,fun i hi=>?_⟩
 · simp only [Option.map_some,Addr.add]
   split
   · rename_i h0;rw [h0];rfl
   · rfl
 · rw [List.length_drop] at hi
   obtain ⟨cs,h1,h2,h3⟩:=hcell (k+i) (by omega)
   refine ⟨cs,h1,by rw [df];exact h2,fun j u hu=>?_⟩
   have:=h3 j u hu
   rw [Nat.add_mul] at this
   rw [show off+k*size+i*size+j=off+(k*size+i*size)+j from by omega]
   exact this
theorem BX.take (h:BX R size d w S A l) (k:Nat):BX R size d w S A (l.take k):=by
 intro hl
 rw [List.length_take] at hl
 obtain ⟨b,off,rfl,hb,hcell⟩:=h (by omega)
 refine ⟨b,off,rfl,hb,fun i hi=>?_⟩
 rw [List.length_take] at hi
 obtain ⟨cs,h1,h2,h3⟩:=hcell i (by omega)
 refine ⟨cs,h1,?_,h3⟩
 rw [Ac d _ i (by rw [List.length_take];omega),List.getElem_take]
 rw [Ac d _ i (by omega)] at h2
 exact h2
theorem CF.keep (hR:Stable R) (h:CF R size d w S v l) (hs:∀ b,S b→S' b) (hk:CS S w w'):CF R size d w' S' v l:=by
 obtain ⟨A,c,e,hc,hr⟩:=h
 exact ⟨A,c,e,hc,hr.keep hR hs hk⟩
theorem CF.sub (hR:Stable R) (h:CF R size d w S v l) (hs:∀ b,S b→S' b):CF R size d w S' v l:=h.keep hR hs CS.refl
theorem CF.F4:CF R size d w S (.slice none 0 0) []:=⟨none,0,rfl,Nat.le_refl _,BX.F4⟩
theorem CF.DC {n c:Nat} (h:CF R size d w S (.slice A n c) l):n=l.length∧n≤c∧BX R size d w S A l:=by
 obtain ⟨A',c',e,hc,hr⟩:=h
 injection e with e1 e2 e3
 subst e1 e2 e3
 exact ⟨rfl,hc,hr⟩
end
def AB {α:Type} (enc:α→List Value) (l:List α):List Value:=l.flatMap enc
section
variable {α:Type} {enc:α→List Value} {size:Nat} {d:α} {w w':World} {S S':Nat→Prop} {A:Option Addr} {l:List α} {v:Value}
theorem Bw (he:∀ x,(enc x).length=size) (l:List α):(AB enc l).length=l.length*size:=by
 induction l with
 | nil=>simp [AB]
 | cons x l ih =>
  have:AB enc (x :: l)=enc x++AB enc l:=rfl
  rw [this,List.length_append,ih,he,List.length_cons,Nat.add_mul];omega
theorem Ba (l r:List α):AB enc (l++r)=AB enc l++AB enc r:=by simp [AB]
theorem KN (x:α):AB enc [x]=enc x:=by simp [AB]
theorem DK (he:∀ x,(enc x).length=size):∀ (l:List α) (k j:Nat) (u:Value),k<l.length→(enc (nth d l k))[j]? = some u→(AB enc l)[k*size+j]? = some u:=by
 intro l
 induction l with
 | nil=>intro k j u hk;simp at hk
 | cons x l ih =>
  intro k j u hk hu
  have e:AB enc (x :: l)=enc x++AB enc l:=rfl
  have hj:j<size:=by
   have:=(List.getElem?_eq_some_iff.1 hu).1
   rw [he] at this
   exact this
  cases k with
  | zero =>
   rw [EP] at hu
   rw [e,Nat.zero_mul,Nat.zero_add,List.getElem?_append_left (by rw [he];exact hj)]
   exact hu
  | succ k =>
   rw [EQ] at hu
   simp only [List.length_cons] at hk
   rw [e,List.getElem?_append_right (by rw [he,Nat.add_mul];omega),he,show (k+1)*size+j-size=k*size+j from by rw [Nat.add_mul];omega]
   exact ih k j u (by omega) hu
theorem CF.own {base e n:Nat} (he:∀ x,(enc x).length=size) (h:w.ownsRow base e size v n (AB enc l)) (hsz:0<size):CF (Flat enc) size d w (C9 base w.heap.size) v l:=by
 have hlen:l.length=n:=by
  have h1:=h.1
  rw [Bw he] at h1
  exact Nat.eq_of_mul_eq_mul_right hsz h1
 subst hlen
 rcases h.2 with ⟨rfl,h0⟩|⟨g,cap,cur,rfl,hb,hg,hnc,_,hcs,htake⟩
 · have:l=[]:=List.eq_nil_of_length_eq_zero h0
   subst this
   exact CF.F4
 · refine ⟨_,_,rfl,hnc,fun _=>⟨g,0,rfl,⟨hb,(Array.getElem?_eq_some_iff.1 hg).1⟩,fun k hk=>⟨enc (nth d l k),he _,rfl,fun j u hu=>?_⟩⟩⟩
   have hj:j<size:=by
    have:=(List.getElem?_eq_some_iff.1 hu).1
    rw [he] at this
    exact this
   have hx:=DK he l k j u hk hu
   have hlt:k*size+j<l.length*size:=by
    have:(k+1)*size≤l.length*size:=Nat.mul_le_mul_right _ hk
    rw [Nat.add_mul] at this
    omega
   rw [cell_of_row w g _ cur e (0,0) hg,Nat.zero_add]
   rw [← htake,List.getElem?_take,if_pos hlt] at hx
   simpa using hx
end
theorem CF.block {α:Type} {enc:α→List Value} {size:Nat} {d:α} {w:World} {S:Nat→Prop} {l:List α} {g c n:Nat} {cs:Array Value} {e:TypeId} {fr:Nat × Nat} (he:∀ x,(enc x).length=size) (hg:w.heap[g]? = some (.cells cs e fr))
 (hcs:cs.toList=AB enc l) (hn:n=l.length) (hc:n≤c) (hS:S g):CF (Flat enc) size d w S (.slice (some ⟨g,0,none⟩) n c) l:=by
 subst hn
 refine ⟨_,_,rfl,hc,fun _=>⟨g,0,rfl,hS,fun k hk=>⟨enc (nth d l k),he _,rfl,fun j u hu=>?_⟩⟩⟩
 rw [cell_of_row w g _ cs e fr hg,Nat.zero_add]
 have:=DK he l k j u hk hu
 rw [← hcs] at this
 simpa using this
structure Elem (P:Program) (t e size bytes:Nat) {α:Type} (enc:α→List Value):Prop where
 u:P.underlying t=some (.slice e)
 info:∃ z,(P.info? e).map (fun i=>(i.zero,i.size,i.bytes))=some (some z,size,bytes)∧z.cells.size=size
 hsz:0<size
 hby:0<bytes
 len:∀ x,(enc x).length=size
 one:∀ x,∀ u∈enc x,u.oneCell'=true
theorem Cw {P:Program} {w:World} {ops:Array Oper} {rest:List Oper} {o:Oper} {a:Act} {Q:Exit→Act→World→Prop} {t e size bytes:Nat} {α:Type} {enc:α→List Value}
 (E:Elem P t e size bytes enc) (hg:o.guard=none) (s y:Operand) (hop:o.op=Op.call { callee:=Callee.builtin Builtin.append,args:=#[s,y],argTypes:=#[t,t] })
 (base:Nat) (v:Value) (n:Nat) (l:List α) (x:α) (hs:a.eval s=v) (hown:w.ownsRow base e size v n (AB enc l)) (hy:a.eval y=.slice (some ⟨w.heap.size,0,none⟩) 1 1)
 (hb:(n+1)*bytes≤140737488355328) (hbase:base≤w.heap.size)
 (hK:∀ A cap w',w'.ownsRow base e size (.slice A (n+1) cap) (n+1) (AB enc (l++[x]))→w.grownBy w' v.ownBlock→wpList P ops Q rest (a.put o.dst (.slice A (n+1) cap)) w') :
 wpList P ops Q (o :: rest) a (w.alloc (.cells (enc x).toArray e)):=by
 obtain ⟨z,hinfo,hz⟩:=E.info
 obtain ⟨i0,hi,hz0,hz1,hz2⟩:=info_parts hinfo
 have hm:n+1≤maxLen:=by
  have:=Nat.mul_le_mul_left (n+1) E.hby
  unfold maxLen;omega
 refine wpList_append_own _ hg s y t hop base e i0 z size bytes E.u hi hz0 hz1 hz2 hz E.hsz v n (AB enc l) hs (hown.alloc _) ⟨w.heap.size,0,none⟩ 1 1 (enc x) hy (by rw [E.len];omega) (Cm w (enc x) e) (E.one x) hm hb (by simp;omega) ?_
 intro v' w1 hown1 hgrow _
 obtain ⟨A,cap,rfl,_⟩:=DJ hown1
 exact hK A cap w1 (by rw [Ba,KN];exact hown1) (Ij hgrow)
end
section
open Go.RowKit
theorem own_below {w w':World} {B base e size n:Nat} {v:Value} {xs:List Value} (h:w.ownsRow base e size v n xs) (hB:Below B w w') (hb:w.heap.size≤B):w'.ownsRow base e size v n xs:=by
 refine ⟨h.1,?_⟩
 rcases h.2 with h0|⟨g,cap,cur,hv,hb',hg,rest⟩
 · exact .inl h0
 · exact .inr ⟨g,cap,cur,hv,hb',(hB.block g (by have:=(Array.getElem?_eq_some_iff.1 hg).1;omega)).trans hg,rest⟩
theorem Ay {B:Nat} {a w:World} (h:Below B a w) (n:Nat):Below B a (w.drewN n):=⟨h.os,h.tape,h.output,h.size,h.block⟩
theorem CG {w:World} {base e size n c:Nat} {A:Option Addr} {xs:List Value} (h:w.ownsRow base e size (.slice A n c) n xs) (hn:0<n):∃ g,A=some ⟨g,0,none⟩∧g<w.heap.size∧n≤c∧∀ j u,xs[j]? = some u→w.cell? ((⟨g,0,none⟩:Addr).add j)=some u:=by
 obtain ⟨g,cap,e1,hb,hg,hc⟩:=FV h hn
 injection e1 with e1 e2 e3
 subst e1 e3
 exact ⟨g,rfl,hg,hc,h.cells rfl⟩
end
section
open Go.RowKit
structure Mp where
 v:Int
 b:Int
 t:Int
def Q8:Mp:=⟨0,0,0⟩
def Mp.enc (m:Mp):List Value:=[.int .i64 m.v,.int .i64 m.b,.int .i64 m.t]
theorem Mp.ky (m:Mp):m.enc.length=3:=rfl
theorem Mp.lC (m:Mp):∀ u∈m.enc,u.oneCell'=true:=by
 intro u hu;simp [Mp.enc] at hu;rcases hu with rfl|rfl|rfl <;> rfl
def In64 (n:Int):Prop := -9223372036854775808≤n∧n≤9223372036854775807
def Mp.ok (m:Mp):Prop:=In64 m.v∧In64 m.b∧In64 m.t
abbrev RMp:QV Mp:=Flat Mp.enc
abbrev sG (w:World) (S:Nat→Prop) (v:Value) (l:List Mp):Prop:=CF RMp 3 Q8 w S v l
abbrev OX (w:World) (S:Nat→Prop) (A:Option Addr) (l:List Mp):Prop:=BX RMp 3 Q8 w S A l
theorem F5:Stable RMp:=AA _
theorem flat3 {α:Type} {f0 f1 f2:α→Value} {d:α} {w:World} {S:Nat→Prop} {A:Option Addr} {l:List α} (h:BX (Flat fun x=>[f0 x,f1 x,f2 x]) 3 d w S A l) (hl:0<l.length) :
 ∃ b off,A=some ⟨b,off,none⟩∧S b∧∀ k,k<l.length→w.cell? ⟨b,off+k*3,none⟩=some (f0 (nth d l k))∧w.cell? ⟨b,off+k*3+1,none⟩=some (f1 (nth d l k))∧w.cell? ⟨b,off+k*3+2,none⟩=some (f2 (nth d l k)):=by
 obtain ⟨b,off,e,hb,hc⟩:=h hl
 refine ⟨b,off,e,hb,fun k hk=>?_⟩
 obtain ⟨cs,_,hr,h3⟩:=hc k hk
 obtain rfl:cs=_:=hr
 exact ⟨h3 0 _ rfl,h3 1 _ rfl,h3 2 _ rfl⟩
theorem OY {w:World} {S:Nat→Prop} {A:Option Addr} {l:List Mp} (h:OX w S A l) (hl:0<l.length) :
 ∃ b off,A=some ⟨b,off,none⟩∧S b∧∀ k,k<l.length→w.cell? ⟨b,off+k*3,none⟩=some (.int .i64 (nth Q8 l k).v)∧w.cell? ⟨b,off+k*3+1,none⟩=some (.int .i64 (nth Q8 l k).b)∧w.cell? ⟨b,off+k*3+2,none⟩=some (.int .i64 (nth Q8 l k).t) :=
 flat3 h hl
def lenOf:Value→Nat
 | .slice _ n _=>n
 | _=>0
def NE (l:List Mp) (k:Nat):Int:=if k=0 then -1 else (nth Q8 l (k-1)).v
theorem OZ (l:List Mp) (k:Nat):NE l (k+1)=(nth Q8 l k).v:=by simp [NE]
section
variable {l:List Mp} {k:Nat}
end
end
section
open Go.RowKit
structure Dev where
 id:Int
 tx:Int
 made:Int
 Bb:Int
 maps:List Mp
def CX:Dev:=⟨0,0,0,0,[]⟩
structure Pool where
 tx:Int
 time:Int
 unit:Int
 data:Int
 Ce:List Dev
def yR:QV Dev:=fun w S cs d=>∃ A c,cs=[.int .i64 d.id,.int .i64 d.tx,.int .i64 d.made,.int .i64 d.Bb,.slice A d.maps.length c]∧d.maps.length≤c∧OX w S A d.maps
theorem FM:Stable yR:=by
 rintro w w' S S' cs d hs hk ⟨A,c,e,hc,hr⟩
 exact ⟨A,c,e,hc,hr.keep F5 hs hk⟩
abbrev SC (w:World) (S:Nat→Prop) (A:Option Addr) (l:List Dev):Prop:=BX yR 5 CX w S A l
def yS (w:World) (S:Nat→Prop) (v:Value) (d:Dev):Prop:=∃ A c,v=.agg #[.int .i64 d.id,.int .i64 d.tx,.int .i64 d.made,.int .i64 d.Bb,.slice A d.maps.length c]∧d.maps.length≤c∧OX w S A d.maps
def IP (w:World) (S:Nat→Prop) (v:Value) (p:Pool):Prop:=∃ A c,v=.agg #[.int .i64 p.tx,.int .i64 p.time,.int .i64 p.unit,.int .i64 p.data,.slice A p.Ce.length c]∧p.Ce.length≤c∧SC w S A p.Ce
section
variable {w w':World} {S S':Nat→Prop} {v:Value} {p:Pool} {d:Dev}
theorem IP.keep (h:IP w S v p) (hs:∀ b,S b→S' b) (hk:CS S w w'):IP w' S' v p:=by
 obtain ⟨A,c,e,hc,hr⟩:=h
 exact ⟨A,c,e,hc,hr.keep FM hs hk⟩
theorem IP.below {B:Nat} (h:IP w S v p) (hB:Below B w w') (hs:∀ b,S b→b<B):IP w' S v p:=h.keep (fun _ h=>h) (AL hB hs)
theorem K5 {A:Option Addr} {l:List Dev} (h:SC w S A l) (hl:0<l.length) :
 ∃ b off,A=some ⟨b,off,none⟩∧S b∧∀ k,k<l.length→w.cell? ⟨b,off+k*5,none⟩=some (.int .i64 (nth CX l k).id)∧w.cell? ⟨b,off+k*5+1,none⟩=some (.int .i64 (nth CX l k).tx) ∧
  w.cell? ⟨b,off+k*5+2,none⟩=some (.int .i64 (nth CX l k).made)∧w.cell? ⟨b,off+k*5+3,none⟩=some (.int .i64 (nth CX l k).Bb) ∧
  ∃ A' c',w.cell? ⟨b,off+k*5+4,none⟩=some (.slice A' (nth CX l k).maps.length c')∧(nth CX l k).maps.length≤c'∧OX w S A' (nth CX l k).maps:=by
 obtain ⟨b,off,e,hb,hc⟩:=h hl
 refine ⟨b,off,e,hb,fun k hk=>?_⟩
 obtain ⟨cs,_,⟨A',c',rfl,hc',hr⟩,h3⟩:=hc k hk
 exact ⟨h3 0 _ rfl,h3 1 _ rfl,h3 2 _ rfl,h3 3 _ rfl,A',c',h3 4 _ rfl,hc',hr⟩
end
def Dev.ok (d:Dev):Prop:=In64 d.id∧In64 d.tx∧In64 d.made∧In64 d.Bb∧(∀ m∈d.maps,m.ok)∧d.maps.length≤5864062014805
def Pool.ok (p:Pool):Prop:=In64 p.tx∧In64 p.time∧In64 p.unit∧In64 p.data∧(∀ d∈p.Ce,d.ok)∧p.Ce.length≤5864062014805
theorem Pool.ok.dev {p:Pool} (h:p.ok) {k:Nat} (hk:k<p.Ce.length):(nth CX p.Ce k).ok:=h.2.2.2.2.1 _ (Bv CX p.Ce k hk)
def Gz (n lo hi:Int):Bool:=decide (lo≤n∧n≤hi)
theorem lD {n lo hi:Int} (h:lo≤n∧n≤hi):Gz n lo hi=true:=by simp [Gz,h]
theorem dh {n lo hi:Int} (h:¬ (lo≤n∧n≤hi)):Gz n lo hi=false:=by simp only [Gz,decide_eq_false_iff_not];exact h
theorem SE {n lo hi:Int}:Gz n lo hi=true↔lo≤n∧n≤hi:=by simp [Gz]
def FW (tx:Int) (l:List Int):Bool:=Gz tx 0 2147483647 && l.all fun t=>Gz t 0 16777215
def V7 (d:Dev):Bool:=Gz d.id 0 16777215 && FW d.tx [d.made,d.Bb]
def D6 (d:Dev) (last:Int):Int:=if V7 d=false then 2 else if d.id≤last then 8 else 0
def Mi (data:Int) (m:Mp):Bool:=Gz m.v 0 281474976710655 && (Gz m.b 0 (data-1) && Gz m.t 0 16777215)
def Ec (data:Int):Int→List Mp→Int
 | _,[]=>0
 | last,m :: r=>if Mi data m=false then 2 else if m.v≤last then 8 else Ec data m.v r
def Es (data:Int) (l:List Mp):Int:=Ec data (-1) l
def EY (data:Int):Int→List Dev→Int
 | _,[]=>0
 | last,d :: r=>if D6 d last≠0 then D6 d last else if Es data d.maps≠0 then Es data d.maps else EY data d.id r
def Cz:List Dev→Int
 | []=>0
 | d :: r=>(d.maps.length:Int)+Cz r
def Pool.count (p:Pool):Int:=Cz p.Ce
def Km (p:Pool):Bool:=FW p.tx [p.time] && (Gz p.unit 1 65536 && Gz p.data 0 65536)
def NF (p:Pool):Bool:=decide (p.Ce.length≤4096∧p.count≤16384)
def Da (p:Pool):Int:=if Km p=false then 2 else if NF p=false then 2 else EY p.data (-1) p.Ce
def Jf (data:Int) (l:List Mp) (k:Nat):Prop:=Ec data (NE l k) (l.drop k)=Es data l
section
variable {data:Int} {l:List Mp} {k:Nat}
theorem Jf.zero (data:Int) (l:List Mp):Jf data l 0:=by simp [Jf,NE,Es]
theorem Jf.done (h:Jf data l k) (hk:l.length≤k):Es data l=0:=by
 unfold Jf at h;rw [← h,List.drop_eq_nil_of_le hk];rfl
theorem Jf.range (h:Jf data l k) (hk:k<l.length) (hb:Mi data (nth Q8 l k)=false):Es data l=2:=by
 unfold Jf at h;rw [← h,Eb Q8 l k hk];simp [Ec,hb]
theorem Jf.order (h:Jf data l k) (hk:k<l.length) (h1:Mi data (nth Q8 l k)=true) (hb:(nth Q8 l k).v≤NE l k):Es data l=8:=by
 unfold Jf at h;rw [← h,Eb Q8 l k hk];simp only [Ec];rw [if_neg (by rw [h1];simp),if_pos hb]
theorem Jf.next (h:Jf data l k) (hk:k<l.length) (h1:Mi data (nth Q8 l k)=true) (hb:NE l k<(nth Q8 l k).v):Jf data l (k+1):=by
 unfold Jf at h ⊢;rw [← h,Eb Q8 l k hk,OZ];simp only [Ec];rw [if_neg (by rw [h1];simp),if_neg (by omega)]
end
def F6 (l:List Dev) (k:Nat):Int:=if k=0 then -1 else (nth CX l (k-1)).id
theorem NH (l:List Dev) (k:Nat):F6 l (k+1)=(nth CX l k).id:=by simp [F6]
def Jg (data:Int) (l:List Dev) (k:Nat):Prop:=EY data (F6 l k) (l.drop k)=EY data (-1) l
section
variable {data:Int} {l:List Dev} {k:Nat}
theorem Jg.zero (data:Int) (l:List Dev):Jg data l 0:=by simp [Jg,F6]
theorem Jg.done (h:Jg data l k) (hk:l.length≤k):EY data (-1) l=0:=by
 unfold Jg at h;rw [← h,List.drop_eq_nil_of_le hk];rfl
theorem Jg.dev (h:Jg data l k) (hk:k<l.length) (hb:D6 (nth CX l k) (F6 l k)≠0):EY data (-1) l=D6 (nth CX l k) (F6 l k):=by
 unfold Jg at h;rw [← h,Eb CX l k hk];simp only [EY];rw [if_pos hb]
theorem Jg.maps (h:Jg data l k) (hk:k<l.length) (h1:D6 (nth CX l k) (F6 l k)=0) (hb:Es data (nth CX l k).maps≠0):EY data (-1) l=Es data (nth CX l k).maps:=by
 unfold Jg at h;rw [← h,Eb CX l k hk];simp only [EY];rw [if_neg (by simp [h1]),if_pos hb]
theorem Jg.next (h:Jg data l k) (hk:k<l.length) (h1:D6 (nth CX l k) (F6 l k)=0) (hb:Es data (nth CX l k).maps=0):Jg data l (k+1):=by
 unfold Jg at h ⊢;rw [← h,Eb CX l k hk,NH];simp only [EY];rw [if_neg (by simp [h1]),if_neg (by simp [hb])]
end
theorem Kn (l r:List Dev):Cz (l++r)=Cz l+Cz r:=by
 induction l with
 | nil=>simp [Cz]
 | cons d l ih=>simp only [List.cons_append,Cz,ih];omega
theorem UJ (l:List Dev) (k:Nat) (h:k<l.length):Cz (l.take (k+1))=Cz (l.take k)+(nth CX l k).maps.length:=by
 rw [DV CX l k h,Kn];simp [Cz]
theorem IQ (l:List Dev):0≤Cz l:=by
 induction l with
 | nil=>simp [Cz]
 | cons d l ih=>simp only [Cz];omega
theorem Oa (l:List Dev) (k:Nat):Cz (l.take k)≤Cz l:=by
 have:Cz l=Cz (l.take k)+Cz (l.drop k):=by rw [← Kn,List.take_append_drop]
 have:=IQ (l.drop k)
 omega
theorem SF {c:Nat}:∀ (l:List Dev),(∀ d∈l,d.maps.length≤c)→Cz l≤(l.length*c:Nat):=by
 intro l
 induction l with
 | nil=>intro _;simp [Cz]
 | cons d l ih =>
  intro h
  have h1:=h d (by simp)
  have h2:=ih (fun e he=>h e (by simp [he]))
  simp only [Cz,List.length_cons,Nat.add_mul,Nat.one_mul]
  omega
end
section
open Go.RowKit
abbrev Aa (w:World) (S:Nat→Prop) (v:Value) (l:List Int):Prop:=CF (Flat fun n:Int=>[.int .i64 n]) 1 0 w S v l
theorem BR {w:World} {S:Nat→Prop} {A:Option Addr} {l:List Int} (h:BX (Flat fun n:Int=>[.int .i64 n]) 1 0 w S A l) (hl:0<l.length) :
 ∃ b off,A=some ⟨b,off,none⟩∧S b∧∀ k,k<l.length→w.cell? ⟨b,off+k,none⟩=some (.int .i64 (nth 0 l k)):=by
 obtain ⟨b,off,e,hb,hc⟩:=h hl
 refine ⟨b,off,e,hb,fun k hk=>?_⟩
 obtain ⟨cs,_,hr,h3⟩:=hc k hk
 obtain rfl:cs=_:=hr
 have:=h3 0 _ rfl
 simpa using this
end
section
open Go.RowKit
def encI (n:Int):List Value:=[.int .i64 n]
theorem Bh (n:Int):(encI n).length=1:=rfl
theorem di (n:Int):∀ x∈encI n,x.oneCell'=true:=by intro x hx;simp [encI] at hx;subst hx;rfl
theorem CU (l:List Int):AB encI l=l.map (Value.int .i64):=by
 induction l with
 | nil=>rfl
 | cons a l ih=>rw [List.map_cons,← ih];rfl
end
section
open Go.RowKit
theorem BC {w:World} {base e size n g:Nat} {v:Value} {xs:List Value} {cs:Array Value} {e2:TypeId} {fr:Nat × Nat} (h:w.ownsRow base e size v n xs) (hg:w.heap[g]? = some (.cells cs e2 fr)) (hne:e≠e2):some g≠v.ownBlock:=fun hv=>by
 rcases h.2 with ⟨rfl,_⟩|⟨g',cap,cur,rfl,_,hg',_⟩
 · cases hv
 · simp only [Value.ownBlock,Option.some.injEq] at hv
   subst hv
   rw [hg] at hg'
   injection hg' with hg'
   injection hg' with _ h2
   exact hne h2.symm
theorem BH {w w':World} {b1 e1 s1 n1 b2 e2 s2 n2:Nat} {v1 v2:Value} {xs1 xs2:List Value} (h:w.ownsRow b1 e1 s1 v1 n1 xs1) (h2:w.ownsRow b2 e2 s2 v2 n2 xs2) (hne:e2≠e1) (hg:w.grownBy w' v2.ownBlock):w'.ownsRow b1 e1 s1 v1 n1 xs1:=by
 refine h.kept hg ?_
 rcases h.2 with ⟨rfl,_⟩|⟨g',cap,cur,rfl,_,hg',_⟩
 · exact .inl rfl
 · exact .inr (BC h2 hg' hne)
theorem Ah {w:World} {base e size n:Nat} {v:Value} {xs:List Value} (h:w.ownsRow base e size v n xs) {a:Addr} (ha:v.ownBlock≠some a.block) (u:Value):(w.setCell a u).ownsRow base e size v n xs:=by
 refine ⟨h.1,?_⟩
 rcases h.2 with ⟨rfl,h0⟩|⟨g,cap,cur,rfl,hb,hg,rest⟩
 · exact .inl ⟨rfl,h0⟩
 · refine .inr ⟨g,cap,cur,rfl,hb,?_,rest⟩
   have hne:g≠a.block:=fun e=>ha (by rw [← e];rfl)
   exact (Below.heap_setCell w a u g hne).trans hg
theorem BL {w:World} {base e size n g:Nat} {v:Value} {xs:List Value} {cs:Array Value} {e2:TypeId} {fr:Nat × Nat} (h:w.ownsRow base e size v n xs) (hg:w.heap[g]? = some (.cells cs e2 fr)) (hne:e≠e2):v.ownBlock≠some g:=fun e=>BC h hg hne e.symm
end
section
open Go.RowKit
def AP (w:World) (g:Nat) (cs:Array Value) (T:TypeId):Prop:=w.heap[g]? = some (.cells cs T (0,0))
section
variable {w w':World} {g b:Nat} {cs:Array Value} {T:TypeId} {a0 a1 a2 a3:Value}
theorem AP.new (w:World) (cs:Array Value) (T:TypeId):AP (w.alloc (.cells cs T)) w.heap.size cs T:=heap_alloc_new w _
theorem AP.lt (h:AP w g cs T):g<w.heap.size:=(Array.getElem?_eq_some_iff.1 h).1
theorem AP.at (h:AP w g cs T) (i:Nat) (v:Value) (hv:cs[i]? = some v):w.cell? ⟨g,i,none⟩=some v:=(cell_of_row _ _ i _ _ (0,0) h).trans hv
theorem AP.free (h:AP w g cs T) (i:Nat):w.frozen? ⟨g,i,none⟩=false:=by unfold AP at h;simp [World.frozen?,h]
theorem AP.below {B:Nat} (h:AP w g cs T) (hB:Below B w w') (hg:g<B):AP w' g cs T:=(hB.block g hg).trans h
theorem AP.drewN (h:AP w g cs T) (n:Nat):AP (w.drewN n) g cs T:=h
theorem AP.far (h:AP w g cs T) (hb:b≠g) (o:Nat) (u:Value):AP (w.setCell ⟨b,o,none⟩ u) g cs T:=(Below.heap_setCell w ⟨b,o,none⟩ u g (Ne.symm hb)).trans h
theorem AP.set (h:AP w g cs T) (i:Nat) (u:Value):AP (w.setCell ⟨g,i,none⟩ u) g (cs.setIfInBounds i u) T:=by
 unfold AP at *
 simp [World.setCell,Array.getElem?_modify,h]
theorem AP.Cf (h:AP w g #[a0,a1,a2,a3] T):w.cell? ⟨g,0,none⟩=some a0∧w.cell? ⟨g,1,none⟩=some a1∧w.cell? ⟨g,2,none⟩=some a2∧w.cell? ⟨g,3,none⟩=some a3:=by
 unfold AP at h
 simp [World.cell?,h]
theorem AP.JV (h:AP w g #[a0,a1,a2,a3] T):w.frozen? ⟨g,0,none⟩=false∧w.frozen? ⟨g,1,none⟩=false∧w.frozen? ⟨g,2,none⟩=false∧w.frozen? ⟨g,3,none⟩=false:=⟨h.free 0,h.free 1,h.free 2,h.free 3⟩
theorem AP.sH (h:AP w g #[a0,a1,a2,a3] T) (u0 u1 u2 u3:Value):AP ((((w.setCell ⟨g,0,none⟩ u0).setCell ⟨g,1,none⟩ u1).setCell ⟨g,2,none⟩ u2).setCell ⟨g,3,none⟩ u3) g #[u0,u1,u2,u3] T:=by
 unfold AP at *
 simp [World.setCell,Array.getElem?_modify,h]
end
end
section
open Go.RowKit
structure K6 where
 blocks:List Int
 code:Int
def D7 (w:World) (S:Nat→Prop):Value→List Int→Int→Prop
 | v,[],c=>v=.iface 88 (.int .i64 c)
 | v,b :: bs,c=>∃ a u,v=.iface 325 (.pointer (some ⟨a,0,none⟩))∧S a∧w.cell? ⟨a,0,none⟩=some (.int .i64 b)∧w.cell? ⟨a,1,none⟩=some u∧D7 w S u bs c
def CJ (w:World) (S:Nat→Prop) (v:Value) (f:K6):Prop:=if f.code=0 then v=.nilIface else D7 w S v f.blocks f.code
section
variable {w w':World} {S S':Nat→Prop} {v:Value} {c:Int} {f:K6}
theorem D7.keep:∀ {bs:List Int} {v:Value},D7 w S v bs c→(∀ b,S b→S' b)→CS S w w'→D7 w' S' v bs c
 | [],_,h,_,_=>h
 | _ :: _,_,⟨a,u,e,hs,h1,h2,h3⟩,hs',hk=>⟨a,u,e,hs' a hs,(hk a 0 hs).trans h1,(hk a 1 hs).trans h2,D7.keep h3 hs' hk⟩
theorem CJ.keep (h:CJ w S v f) (hs:∀ b,S b→S' b) (hk:CS S w w'):CJ w' S' v f:=by
 unfold CJ at *
 split
 · rwa [if_pos (by assumption)] at h
 · rw [if_neg (by assumption)] at h
   exact h.keep hs hk
theorem CJ.F4 {bs:List Int}:CJ w S .nilIface ⟨bs,0⟩:=by unfold CJ;rw [if_pos rfl]
theorem D7.form {bs:List Int} (h:D7 w S v bs c):∃ t u,v=.iface t u∧(t=88∨t=325):=by
 cases bs with
 | nil=>exact ⟨_,_,h,.inl rfl⟩
 | cons b bs=>obtain ⟨a,u,e,_⟩:=h;exact ⟨_,_,e,.inr rfl⟩
end
def FB (w:World) (base b:Nat):Prop:=base≤b∧∃ cs,w.heap[b]? = some (.cells cs 327 (0,0))
theorem FB.lt {w:World} {base b:Nat} (h:FB w base b):b<w.heap.size:=by obtain ⟨_,cs,h⟩:=h;exact (Array.getElem?_eq_some_iff.1 h).1
theorem E8 {w w':World} {base:Nat} (h:∀ (b:Nat) (cs:Array Value),w.heap[b]? = some (Obj.cells cs 327 (0,0))→w'.heap[b]? = w.heap[b]?):(∀ b,FB w base b→FB w' base b)∧CS (FB w base) w w' :=
 ⟨fun b ⟨h1,cs,h2⟩=>⟨h1,cs,(h b cs h2).trans h2⟩,fun b o ⟨_,cs,h2⟩=>World.cell?_of_block (a:=⟨b,o,none⟩) (h b cs h2)⟩
end
end Go.Proofs.YtpenklpdjpkigaaGreat
