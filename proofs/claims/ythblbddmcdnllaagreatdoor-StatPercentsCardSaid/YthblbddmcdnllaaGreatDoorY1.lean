/- Part 1 of the proof: RegT, Ways, TillIn, Base, OwnB, Map. -/
import Derived.Deep.RegionHeld3
import Derived.Deep.AppendLies
import Derived.StillTail
import Derived.Lib.Hide
import Derived.OrdersIn
import Derived.RangeFuncCalls
import Derived.TacticsIn
import Derived.WalkKit
import Derived.WalkSpells
import Derived.WalkLawsBesides
import Derived.Deep.Draws
set_option maxHeartbeats 6400000
set_option linter.unusedVariables false
set_option linter.unusedSimpArgs false
namespace Go.Proofs.YthblbddmcdnllaaGreatDoor
theorem qS {α:Type _} (l:List α) (i:Nat) (a:α):l.toArray.setIfInBounds i a=(l.set i a).toArray:=List.setIfInBounds_toArray ..
theorem qZ {α:Type _} (x a:α) (l:List α):(x :: l).set 0 a=a :: l:=List.set_cons_zero ..
theorem qU {α:Type _} (x a:α) (l:List α) (n:Nat):(x :: l).set (n+1) a=x :: l.set n a:=List.set_cons_succ ..
theorem qh {p:Prop} (h:p):RowKit.Hid p:=Lib.hid h

section
open Go Go.RowKit
section
variable {P:Program} {ops:Array Oper} {Q:Exit→Act→World→Prop} {md:Region.Mode} {S:World→Prop} {T:Nat→Bool}
def Cj (P:Program) (md:Region.Mode) (ops:Array Oper) (Q:Exit→Act→World→Prop) (T:Nat→Bool) (S:World→Prop):Nat→Array Bool→Act→World→Prop
 | 0,listed,a,w=>Region.ready md ops listed=[]∧Q .normal a w
 | n+1,listed,a,w =>
  (Region.ready md ops listed=[]→Q .normal a w) ∧
  ∀ i∈Region.ready md ops listed,wpOp P ops Q i (fun a' w'=>(T i=false→S w')∧Cj P md ops Q T S n (listed.setIfInBounds i true) a' w') a w
theorem FY:∀ (n:Nat) (listed:Array Bool) (a:Act) (w:World),Cj P md ops Q T S n listed a w→wpAny P md ops Q n listed a w
 | 0,_,_,_,h=>h
 | n+1,_,_,_,h=>⟨h.1,fun i hi=>wpOp_mono (fun a' w' h'=>FY n _ a' w' h'.2) (h.2 i hi)⟩
theorem AJ {id:Nat} {a:Act} {w:World} (hm:P.follows .mixedOrders=true) (hS:S w.drew)
 (h:S w.drew→Cj P .any ops Q T S ops.size (Array.replicate ops.size false) a w.drew):(Code.region id ops true).wp P Q a w :=
 wp_region_any hm (FY _ _ _ _ (h hS))
def O0 (md:Region.Mode) (ops:Array Oper) (T:Nat→Bool) (i:Nat):Bool :=
 (List.range ops.size).all fun j => !(T j) || match ops[j]? with|some oj=>oj.after.any fun e=>Region.binds md e && e.on==i|none=>true
theorem Qt {i:Nat} (h:O0 md ops T i=true) (j:Nat) (oj:Oper) (hj:ops[j]? = some oj) (hT:T j=true):∃ e∈oj.after,Region.binds md e=true∧e.on=i:=by
 have hlt:j<ops.size:=(Array.getElem?_eq_some_iff.1 hj).1
 have h1:=List.all_eq_true.1 h j (List.mem_range.2 hlt)
 rw [hT,hj] at h1
 simp only [Bool.not_true,Bool.false_or] at h1
 obtain ⟨e,he,hb⟩:=Array.any_eq_true'.1 h1
 simp only [Bool.and_eq_true,beq_iff_eq] at hb
 exact ⟨e,he,hb⟩
theorem JD {i:Nat} {oi:Oper} {v:Value} (hi:ops[i]? = some oi) (hsel:∀ (j:Nat) (o:Oper) cs b,ops[j]? = some o→o.op≠.select cs b)
 (hQ:∀ c a w,Q (.panic c) (a.put oi.dst v) w→Q (.panic c) a w) (hT:O0 md ops T i=true) :
 ∀ (n:Nat) (listed:Array Bool) (a:Act) (w:World),
  (∀ j oj,ops[j]? = some oj→j≠i→listed.getD j true=false→(∀ e∈oj.after,Region.binds md e=true→e.on≠i)→oi.apart ops oj=true) →
  i∈Region.ready md ops listed→YieldsIf P ops S oi v a→S w →
  Cj P md ops Q T S n (listed.setIfInBounds i true) (a.put oi.dst v) w→Cj P md ops Q T S (n+1) listed a w:=by
 intro n
 induction n with
 | zero =>
  intro listed a w _ hr hy hS H
  refine ⟨fun h=>(by rw [h] at hr;cases hr),fun j hj=>?_⟩
  by_cases hji:j=i
  · subst hji;exact hy.wpOp hi hS ⟨fun _=>hS,H⟩
  · have h1:=ready_mono hj hji
    rw [H.1] at h1
    cases h1
 | succ n ih =>
  intro listed a w hfree hr hy hS H
  refine ⟨fun h=>(by rw [h] at hr;cases hr),fun j hj=>?_⟩
  by_cases hji:j=i
  · subst hji;exact hy.wpOp hi hS ⟨fun _=>hS,H⟩
  · have h1:=H.2 j (ready_mono hj hji)
    obtain ⟨hjun,oj,hoj,hall⟩:=mem_ready.1 hj
    have hun:=(mem_ready.1 hr).1
    have hnot:∀ e∈oj.after,Region.binds md e=true→e.on≠i:=fun e he hb heq=>by
     have g1:=hall e he hb
     rw [heq] at g1
     have g2:=getD_both hun
     rw [g1] at g2
     cases g2
    have hTj:T j=false:=by
     cases hc:T j with
     | false=>rfl
     | true =>
      obtain ⟨e,he,hb,heq⟩:=Qt hT j oj hoj hc
      exact absurd heq (hnot e he hb)
    have h2:=wpOp_putIf hoj (hfree j oj hoj hji hjun hnot) (fun cs b=>hsel i oi cs b hi) (fun cs b=>hsel j oj cs b hoj) hQ hy h1
    refine wpOp_mono (fun a' w' h3=>⟨h3.2.1,ih (listed.setIfInBounds j true) a' w' (fun k ok hk hki vY hno=>hfree k ok hk hki ?_ hno) (ready_mono hr (Ne.symm hji)) h3.1 (h3.2.1 hTj) ?_⟩) h2
    · by_cases hjk:j=k
      · subst hjk;exact hjun
      · rw [getD_set_ne true hjk] at vY;exact vY
    · rw [Array.setIfInBounds_comm _ _ hji]
      exact h3.2.2
theorem O1 (i:Nat) {oi:Oper} {v:Value} {n:Nat} {listed:Array Bool} {a:Act} {w:World} (hi:ops[i]? = some oi)
 (hs:Region.noSelect ops=true) (hf:Region.free md ops listed i=true) (hr:(Region.ready md ops listed).contains i=true) (hT:O0 md ops T i=true)
 (hQ:∀ c a w,Q (.panic c) (a.put oi.dst v) w→Q (.panic c) a w) (hw:Region.wanted oi (yielded ops a.tmps)=true) (hS:S w) (hy:∀ w,S w→(execOp a.eval oi).run P w=.ok (.value v) w)
 (h:Cj P md ops Q T S n (listed.setIfInBounds i true) (a.put oi.dst v) w):Cj P md ops Q T S (n+1) listed a w :=
 JD hi (Region.noSelect_spec hs) hQ hT n listed a w (Region.free_spec hi hf) (by simpa using hr) (.inl ⟨hw,hy⟩) hS h
theorem bG (i d:Nat) {oi:Oper} {v:Value} {n:Nat} {listed:Array Bool} {a:Act} {w:World} (hi:ops[i]? = some oi) (hd:oi.dst=some d)
 (hs:Region.noSelect ops=true) (hf:Region.free md ops listed i=true) (hr:(Region.ready md ops listed).contains i=true) (hT:O0 md ops T i=true)
 (hQ:∀ c a w,Q (.panic c) (a.put oi.dst v) w→Q (.panic c) a w) (hw:Region.wanted oi (yielded ops a.tmps)=true) (hS:S w) (hy:∀ w,S w→(execOp a.eval oi).run P w=.ok (.value v) w)
 (h:Cj P md ops Q T S n (listed.setIfInBounds i true) (a.put (some d) v) w):Cj P md ops Q T S (n+1) listed a w :=
 O1 i hi hs hf hr hT hQ hw hS hy (by rw [hd];exact h)
theorem bH (i:Nat) {o:Oper} {n:Nat} {listed:Array Bool} {a:Act} {w:World} (hr:Region.ready md ops listed=[i]) (ho:ops[i]? = some o)
 (h:∀ K':Act→World→Prop,Hid (∀ a w,(T i=false→S w)→((T i=false→S w)→Cj P md ops Q T S n (listed.setIfInBounds i true) a w)→K' a w)→if Region.wanted o (yielded ops a.tmps)=true then Oper.wp P o a w K' Q else K' (a.put o.dst undef) w) :
 Cj P md ops Q T S (n+1) listed a w:=by
 refine ⟨fun h0=>(by rw [h0] at hr;cases hr),fun j hj=>?_⟩
 rw [hr] at hj
 obtain rfl:j=i:=by simpa using hj
 exact wpOp_step ho (fun K' hK=>h K' (qh fun a w h1 h2=>hK a w ⟨h1,h2 h1⟩))
theorem FR {S':World→Prop} (hS:∀ w,S' w→S w):∀ (n:Nat) (listed:Array Bool) (a:Act) (w:World),Cj P md ops Q T S' n listed a w→Cj P md ops Q T S n listed a w
 | 0,_,_,_,h=>h
 | n+1,_,_,_,h=>⟨h.1,fun i hi=>wpOp_mono (fun a' w' h'=>⟨fun hT=>hS _ (h'.1 hT),FR hS n _ a' w' h'.2⟩) (h.2 i hi)⟩
theorem Zt {listed:Array Bool} {a:Act} {w:World} (hr:Region.ready md ops listed=[]) (h:Q .normal a w):∀ n,Cj P md ops Q T S n listed a w
 | 0=>⟨hr,h⟩
 | _+1=>⟨fun _=>h,by rw [hr];simp⟩
end
theorem AY {w w':World} {B b o:Nat} {v:Value} (h:Below B w w') (hb:b<B) (k:w.cell? ⟨b,o,none⟩=some v):w'.cell? ⟨b,o,none⟩=some v:=(h.cell (p:=⟨b,o,none⟩) hb).trans k
def Mt (Q:Exit→Act→World→Prop):Exit→Act→World→Prop
 | .normal,a,w=>Q .normal a w
 | _,_,_=>False
theorem Tq {P:Program} {Q:Exit→Act→World→Prop} {c:Code} {a:Act} {w:World} (h:c.wp P (Mt Q) a w):c.wp P Q a w :=
 wp_mono h fun e _ _ hq=>by cases e <;> first|exact hq|exact hq.elim
section
variable {P:Program} {md:Region.Mode} {ops:Array Oper} {Q:Exit→Act→World→Prop} {T:Nat→Bool} {S:World→Prop}
theorem qs (i d:Nat) {oi:Oper} {v:Value} {n:Nat} {listed:Array Bool} {a b:Act} {w:World} (hS:S w) (h:Cj P md ops Q T S n (listed.setIfInBounds i true) b w) (hi:ops[i]? = some oi:=by exact rfl) (hd:oi.dst=some d:=by exact rfl) (hy:∀ w,S w→(execOp a.eval oi).run P w=.ok (.value v) w:=by intro w hSw;go_simp;(try with_reducible rfl)) (hb:a.put (some d) v=b:=by (try simp only [Act.put,qS,qZ,qU]);(try rfl)) (hs:Region.noSelect ops=true:=by kernel_rfl) (hf:Region.free md ops listed i=true:=by kernel_rfl) (hr:(Region.ready md ops listed).contains i=true:=by kernel_rfl) (hT:O0 md ops T i=true:=by kernel_rfl) (hQ:∀ c a w,Q (.panic c) (a.put oi.dst v) w→Q (.panic c) a w:=by exact fun _ _ _ h=>h) (hw:Region.wanted oi (yielded ops a.tmps)=true:=by rfl):Cj P md ops Q T S (n+1) listed a w:=by
  subst hb
  exact bG i d hi hd hs hf hr hT hQ hw hS hy h
theorem qf (i d:Nat) {oi:Oper} {v:Value} {n:Nat} {listed:Array Bool} {a b:Act} {w:World} (hi:ops[i]? = some oi) (hd:oi.dst=some d) (hS:S w) (hy:∀ w,S w→(execOp a.eval oi).run P w=.ok (.value v) w) (h:Cj P md ops Q T S n (listed.setIfInBounds i true) b w) (hb:a.put (some d) v=b:=by (try simp only [Act.put,qS,qZ,qU]);(try rfl)) (hs:Region.noSelect ops=true:=by kernel_rfl) (hf:Region.free md ops listed i=true:=by kernel_rfl) (hr:(Region.ready md ops listed).contains i=true:=by kernel_rfl) (hT:O0 md ops T i=true:=by kernel_rfl) (hQ:∀ c a w,Q (.panic c) (a.put oi.dst v) w→Q (.panic c) a w:=by exact fun _ _ _ h=>h) (hw:Region.wanted oi (yielded ops a.tmps)=true:=by rfl):Cj P md ops Q T S (n+1) listed a w:=by
  subst hb
  exact bG i d hi hd hs hf hr hT hQ hw hS hy h
theorem qo (i:Nat) {o:Oper} {n:Nat} {listed:Array Bool} {a:Act} {w:World} (h:∀ K':Act→World→Prop,RowKit.Hid (∀ a w,(T i=false→S w)→((T i=false→S w)→Cj P md ops Q T S n (listed.setIfInBounds i true) a w)→K' a w)→if Region.wanted o (yielded ops a.tmps)=true then Oper.wp P o a w K' Q else K' (a.put o.dst undef) w) (ho:ops[i]? = some o:=by exact rfl) (hr:Region.ready md ops listed=[i]:=by kernel_rfl):Cj P md ops Q T S (n+1) listed a w:=bH i hr ho h
theorem qd {n:Nat} {listed:Array Bool} {a:Act} {w:World} (h:Q .normal a w) (hr:Region.ready md ops listed=[]:=by kernel_rfl):Cj P md ops Q T S n listed a w:=Zt hr h n
end
end
section
open Go Go.RowKit
section
variable {P:Program} {ops:Array Oper} {Q:Exit→Act→World→Prop} {md:Region.Mode} {S:World→Prop} {T:Nat→Bool}
theorem FH (i j:Nat) {oi oj:Oper} {n:Nat} {listed:Array Bool} {a:Act} {w:World} (hr:Region.ready md ops listed=[i,j]) (hi:ops[i]? = some oi) (hj:ops[j]? = some oj)
 (h1:∀ K':Act→World→Prop,Hid (∀ a w,(T i=false→S w)→((T i=false→S w)→Cj P md ops Q T S n (listed.setIfInBounds i true) a w)→K' a w)→if Region.wanted oi (yielded ops a.tmps)=true then Oper.wp P oi a w K' Q else K' (a.put oi.dst undef) w)
 (h2:∀ K':Act→World→Prop,Hid (∀ a w,(T j=false→S w)→((T j=false→S w)→Cj P md ops Q T S n (listed.setIfInBounds j true) a w)→K' a w)→if Region.wanted oj (yielded ops a.tmps)=true then Oper.wp P oj a w K' Q else K' (a.put oj.dst undef) w) :
 Cj P md ops Q T S (n+1) listed a w:=by
 refine ⟨fun h0=>(by rw [h0] at hr;cases hr),fun x hx=>?_⟩
 rw [hr] at hx
 rcases List.mem_cons.1 hx with rfl|hx
 · exact wpOp_step hi (fun K' hK=>h1 K' (qh fun a w g1 g2=>hK a w ⟨g1,g2 g1⟩))
 · obtain rfl:x=j:=by simpa using hx
   exact wpOp_step hj (fun K' hK=>h2 K' (qh fun a w g1 g2=>hK a w ⟨g1,g2 g1⟩))
end
section
variable {P:Program} {ops:Array Oper} {Q:Exit→Act→World→Prop} {md:Region.Mode} {S:World→Prop} {T:Nat→Bool}
theorem AQ (i d:Nat) {oi:Oper} {n:Nat} {listed:Array Bool} {a:Act} {w:World} (hi:ops[i]? = some oi) (hd:oi.dst=some d)
 (hs:Region.noSelect ops=true) (hf:Region.free md ops listed i=true) (hr:(Region.ready md ops listed).contains i=true) (hT:O0 md ops T i=true)
 (hQ:∀ c a w,Q (.panic c) (a.put oi.dst undef) w→Q (.panic c) a w) (hw:Region.wanted oi (yielded ops a.tmps)=false) (hS:S w)
 (h:Cj P md ops Q T S n (listed.setIfInBounds i true) (a.put (some d) undef) w):Cj P md ops Q T S (n+1) listed a w :=
 JD hi (Region.noSelect_spec hs) hQ hT n listed a w (Region.free_spec hi hf) (by simpa using hr) (.inr ⟨hw,rfl⟩) hS (by rw [hd];exact h)
end
theorem Jt {w w':World} {g:Nat} {o:Obj} (h:w.heap[g]? = some o) (hB:Below w.heap.size w w'):w'.heap[g]? = some o:=(hB.block g (Array.getElem?_eq_some_iff.1 h).1).trans h
theorem Bv {w:World} {b:Nat} {cs:Array Value} {t:TypeId} (h:w.heap[b]? = some (.cells cs t (0,0))) (i:Nat):w.frozen? ⟨b,i,none⟩=false:=by simp [World.frozen?,h]
end
section
open Go Go.RowKit
theorem YD {l n:Nat} {P:Program} {row:String} {args:Array Value} {w:World} {R:Value→World→Prop} (h:Rows P row args w R):RowsIn (Fence.wide.inRound l) n P row args w R:=by
 intro c cs _
 obtain ⟨v,w',hr,hs⟩:=h c cs
 exact ⟨v,w',hr,stepsIn_wide.2 hs⟩
theorem YE {l n:Nat} {P:Program} {o:Oper} {Q:Exit→Act→World→Prop} {K:Act→World→Prop} {a:Act} {w:World} (hnd:∀ c,o.op≠.defer c) (h:o.wp P a w K (Mt Q)):o.wpIn (Fence.wide.inRound l) n P a w K Q:=by
 refine ⟨fun _ _=>trivial,?_⟩
 rw [Fence.inRound_round,Oper.semAt_some l _ o hnd]
 unfold Oper.wp at h
 generalize (execOp a.eval o).run P w=r at h ⊢
 cases r with
 | ok v w' =>
  cases v with
  | value v=>exact h
  | skip=>exact h
  | defer d=>exact h
  | enter f args =>
   refine ⟨fun h=>(by cases h),(CallsIn.inRound l (callsIn_wide.2 h)).mono ?_⟩
   intro e w'' h2
   cases e with
   | returned v=>exact h2
   | panicked ch=>exact h2.elim
   | outgrown=>obtain ⟨_,_,h3⟩:=h2;exact h3.elim
  | row r args=>exact ⟨fun h=>(by cases h),YD h⟩
  | _=>exact h.elim
 | halt h' w' =>
  cases h' with
  | panic v=>exact h.elim
  | _=>exact h.elim
def JE (ops:Array Oper):Bool:=ops.all fun o=>match o.op with|.defer _=>false|_=>true
theorem Qu {ops:Array Oper} (h:JE ops=true) {i:Nat} {o:Oper} (hi:ops[i]? = some o):∀ c,o.op≠.defer c:=by
 intro c hc
 unfold JE at h
 rw [Array.all_eq_true_iff_forall_mem] at h
 have:=h o (Array.mem_of_getElem? hi)
 rw [hc] at this
 cases this
theorem YF {l n:Nat} {P:Program} {ops:Array Oper} {Q:Exit→Act→World→Prop} {i:Nat} {K:Act→World→Prop} {a:Act} {w:World} (hnd:JE ops=true) (h:wpOp P ops (Mt Q) i K a w):wpOpIn (Fence.wide.inRound l) n P ops Q i K a w:=by
 unfold wpOp at h
 unfold wpOpIn
 cases hi:ops[i]? with
 | none=>rw [hi] at h;exact h
 | some o =>
  rw [hi] at h
  dsimp only at h ⊢
  by_cases hw:Region.wanted o (yielded ops a.tmps)=true
  · rw [if_pos hw] at h ⊢
    rcases h with h|⟨_,_,_,h⟩
    · exact YE (Qu hnd hi) h
    · exact h.elim
  · rw [if_neg hw] at h ⊢
    exact ⟨fun _ _=>trivial,h⟩
theorem O3 {l n:Nat} {P:Program} {md:Region.Mode} {ops:Array Oper} {Q:Exit→Act→World→Prop} (hnd:JE ops=true):∀ (k:Nat) (listed:Array Bool) (a:Act) (w:World),wpAny P md ops (Mt Q) k listed a w→wpAnyIn (Fence.wide.inRound l) n P md ops Q k listed a w
 | 0,_,_,_,h=>h
 | k+1,_,_,_,h=>⟨h.1,fun i hi=>wpOpIn_mono (fun a' w' h'=>O3 hnd k _ a' w' h') (YF hnd (h.2 i hi))⟩
theorem JF {l n:Nat} {P:Program} {ops:Array Oper} {Q:Exit→Act→World→Prop} {S:World→Prop} {T:Nat→Bool} {id:Nat} {a:Act} {w:World} (hm:P.follows .mixedOrders=true) (hS:S w.drew)
 (h:S w.drew→Cj P .any ops (Mt Q) T S ops.size (Array.replicate ops.size false) a w.drew) (hnd:JE ops=true:=by kernel_rfl):(Code.region id ops true).wpIn (Fence.wide.inRound l) n P Q a w :=
 wpIn_region_any hm (O3 hnd _ _ _ _ (FY _ _ _ _ (h hS)))
theorem Vk {Q:Exit→Act→World→Prop} {a:Act} {w:World} (h:Q .normal a w):Mt Q .normal a w:=h
end
section
open Go.RowKit
def nth {α:Type} (d:α) (l:List α) (k:Nat):α:=l.getD k d
theorem AZ {α:Type} (d:α) (l:List α) (k:Nat) (h:k<l.length):nth d l k=l[k]:=by unfold nth;simp [h]
theorem Ci {α:Type} (d:α) (l:List α) (k:Nat) (h:k<l.length):nth d l k∈l:=by rw [AZ d l k h];exact List.getElem_mem h
theorem Ef {α:Type} (d:α) (l:List α) (k:Nat) (h:k<l.length):l.drop k=nth d l k :: l.drop (k+1):=by
 rw [AZ d l k h];exact List.drop_eq_getElem_cons h
theorem Ck {α:Type} (d:α) (l:List α) (k:Nat) (h:k<l.length):l.take (k+1)=l.take k++[nth d l k]:=by
 rw [AZ d l k h,List.take_succ_eq_append_getElem h]
theorem Vl {α:Type} (d:α) (l:List α) (i k:Nat):nth d (l.drop i) k=nth d l (i+k):=by
 unfold nth;simp [List.getD]
theorem FZ {α:Type} (d x:α) (l:List α):nth d (x :: l) 0=x:=rfl
theorem Dl {α:Type} (d x:α) (l:List α) (k:Nat):nth d (x :: l) (k+1)=nth d l k:=by simp [nth,List.getD]
theorem Gi {α:Type} (d:α) (l r:List α) (k:Nat) (h:k<l.length):nth d (l++r) k=nth d l k:=by
 unfold nth;simp [List.getD,List.getElem?_append_left h]
theorem Gw {α:Type} (d:α) (l r:List α) (x:α):nth d (l++x :: r) l.length=x:=by
 unfold nth;simp [List.getD]
theorem GH {k:IntKind} {a b:Int} (h:a=b):Ending.returned (.int k a)=.returned (.int k b):=by rw [h]
theorem O4 {a b:Bool} (h:a=b):Ending.returned (.bool a)=.returned (.bool b):=by rw [h]
def CU (S:Nat→Prop) (w w':World):Prop:=∀ b o,S b→w'.cell? ⟨b,o,none⟩=w.cell? ⟨b,o,none⟩
def Lt (B:Nat):Nat→Prop:=fun b=>b<B
def Fu (L B:Nat):Nat→Prop:=fun b=>L≤b∧b<B
section
variable {S S':Nat→Prop} {w w' w'':World} {B:Nat}
theorem CU.refl:CU S w w:=fun _ _ _=>rfl
theorem CU.trans (h:CU S w w') (k:CU S w' w''):CU S w w'':=fun b o hb=>(k b o hb).trans (h b o hb)
theorem AR (h:Below B w w') (hs:∀ b,S b→b<B):CU S w w':=fun b o hb=>h.cell (p:=⟨b,o,none⟩) (hs b hb)
theorem DV (hs:∀ b,S b→b<w.heap.size) (o:Obj):CU S w (w.alloc o):=fun b i hb=>World.cell?_alloc_lt w o ⟨b,i,none⟩ (hs b hb)
theorem EC {p:Addr} (hs:¬ S p.block) (u:Value):CU S w (w.setCell p u) :=
 fun b i hb=>World.cell?_setCell_other w p ⟨b,i,none⟩ u (fun e=>hs (by rw [e];exact hb))
end
theorem Eg {w:World} {base e size:Nat} {v:Value} {n:Nat} {xs:List Value} (h:w.ownsRow base e size v n xs) (hn:0<n):∃ g cap,v=.slice (some ⟨g,0,none⟩) n cap∧base≤g∧g<w.heap.size∧n≤cap:=by
 rcases h.2 with ⟨_,h0⟩|⟨g,cap,cur,hv,hb,hg,hnc,_⟩
 · omega
 · exact ⟨g,cap,hv,hb,(Array.getElem?_eq_some_iff.1 hg).1,hnc⟩
theorem DK {w:World} {base e size:Nat} {v:Value} {n:Nat} {xs:List Value} (h:w.ownsRow base e size v n xs):∃ A cap,v=.slice A n cap∧n≤cap:=by
 rcases h.2 with ⟨hv,h0⟩|⟨g,cap,cur,hv,_,_,hnc,_⟩
 · subst h0;exact ⟨none,0,hv,Nat.le_refl _⟩
 · exact ⟨_,cap,hv,hnc⟩
theorem Cm (w:World) (cs:List Value) (t:TypeId):∀ j u,cs[j]? = some u→(w.alloc (.cells cs.toArray t)).cell? ((⟨w.heap.size,0,none⟩:Addr).add j)=some u:=by
 intro j u hj
 have e:(⟨w.heap.size,0,none⟩:Addr).add j=⟨w.heap.size,j,none⟩:=by unfold Addr.add;split <;> simp_all
 rw [e,World.cell?_alloc_new]
 simpa using hj
theorem Dx {w w1:World} {o:Obj} {row:Option Nat} (h:(w.alloc o).grownBy w1 row):w.grownBy w1 row :=
 ⟨h.os,h.tape,h.output,by have:=h.size;simp at this;omega,fun j hj hne=>(h.block j (by simp;omega) hne).trans (Below.heap_alloc w o j hj)⟩
theorem O5 {w w1 w2:World} {row:Option Nat} (h:w.grownBy w1 row) (k:w1.grownBy w2 row):w.grownBy w2 row :=
 ⟨k.os.trans h.os,k.tape.trans h.tape,k.output.trans h.output,Nat.le_trans h.size k.size,fun j hj hne=>(k.block j (by have:=h.size;omega) hne).trans (h.block j hj hne)⟩
def One (w:World) (b:Nat) (v:Value) (t:TypeId):Prop:=w.heap[b]? = some (.cells #[v] t (0,0))
section
variable {w w':World} {b:Nat} {v u:Value} {t:TypeId}
theorem One.cell (h:One w b v t):w.cell? ⟨b,0,none⟩=some v:=by unfold One at h;simp [World.cell?,h]
theorem One.free (h:One w b v t):w.frozen? ⟨b,0,none⟩=false:=by unfold One at h;simp [World.frozen?,h]
theorem One.lt (h:One w b v t):b<w.heap.size:=(Array.getElem?_eq_some_iff.1 h).1
theorem One.grown {row:Option Nat} (h:One w b v t) (hg:w.grownBy w' row) (hne:some b≠row):One w' b v t:=(hg.block b h.lt hne).trans h
theorem One.below {B:Nat} (h:One w b v t) (hg:Below B w w') (hb:b<B):One w' b v t:=(hg.block b hb).trans h
theorem One.alloc (h:One w b v t) (o:Obj):One (w.alloc o) b v t:=(Below.heap_alloc w o b h.lt).trans h
theorem One.BZ (h:One w b v t):One (w.setCell ⟨b,0,none⟩ u) b u t:=by unfold One at *;simp [World.setCell,Array.getElem?_modify,h]
theorem One.far (h:One w b v t) {p:Addr} (hp:b≠p.block):One (w.setCell p u) b v t:=(Below.heap_setCell w p u b hp).trans h
theorem One.new (w:World) (v:Value) (t:TypeId):One (w.alloc (.cells #[v] t)) w.heap.size v t:=heap_alloc_new w _
end
abbrev Xy (α:Type):=World→(Nat→Prop)→List Value→α→Prop
def Stable {α:Type} (R:Xy α):Prop:=∀ (w w':World) (S S':Nat→Prop) (cs:List Value) (x:α),(∀ b,S b→S' b)→CU S w w'→R w S cs x→R w' S' cs x
def Flat {α:Type} (enc:α→List Value):Xy α:=fun _ _ cs x=>cs=enc x
theorem AB {α:Type} (enc:α→List Value):Stable (Flat enc):=fun _ _ _ _ _ _ _ _ h=>h
def Bw {α:Type} (R:Xy α) (size:Nat) (d:α) (w:World) (S:Nat→Prop) (A:Option Addr) (l:List α):Prop :=
 0<l.length→∃ b off,A=some ⟨b,off,none⟩∧S b∧∀ k,k<l.length→∃ cs,cs.length=size∧R w S cs (nth d l k)∧∀ j u,cs[j]? = some u→w.cell? ⟨b,off+k*size+j,none⟩=some u
def Bp {α:Type} (R:Xy α) (size:Nat) (d:α) (w:World) (S:Nat→Prop) (v:Value) (l:List α):Prop :=
 ∃ A c,v=.slice A l.length c∧l.length≤c∧Bw R size d w S A l
section
variable {α:Type} {R:Xy α} {size:Nat} {d:α} {w w':World} {S S':Nat→Prop} {A:Option Addr} {l:List α} {v:Value}
theorem Bw.keep (hR:Stable R) (h:Bw R size d w S A l) (hs:∀ b,S b→S' b) (hk:CU S w w'):Bw R size d w' S' A l:=by
 intro hl
 obtain ⟨b,off,e,hb,hc⟩:=h hl
 refine ⟨b,off,e,hs b hb,fun k hk'=>?_⟩
 obtain ⟨cs,h1,h2,h3⟩:=hc k hk'
 exact ⟨cs,h1,hR _ _ _ _ _ _ hs hk h2,fun j u hu=>(hk b _ hb).trans (h3 j u hu)⟩
theorem Bw.DW:Bw R size d w S A []:=fun h=>absurd h (by simp)
theorem Bw.drop {c:Nat} (h:Bw R size d w S A l) {k:Nat} (hk:k≤l.length) (hc:l.length≤c):Bw R size d w S (if c=k then A else A.map (·.add (k*size))) (l.drop k):=by
 intro hl
 rw [List.length_drop] at hl
 obtain ⟨b,off,rfl,hb,hcell⟩:=h (by omega)
 rw [if_neg (by omega)]
 refine ⟨b,off+k*size,?_,hb,fun i hi=>?_⟩
 · simp only [Option.map_some,Addr.add]
   split
   · rename_i h0;rw [h0];rfl
   · rfl
 · rw [List.length_drop] at hi
   obtain ⟨cs,h1,h2,h3⟩:=hcell (k+i) (by omega)
   refine ⟨cs,h1,by rw [Vl];exact h2,fun j u hu=>?_⟩
   have:=h3 j u hu
   rw [Nat.add_mul] at this
   rw [show off+k*size+i*size+j=off+(k*size+i*size)+j from by omega]
   exact this
theorem Bw.take (h:Bw R size d w S A l) (k:Nat):Bw R size d w S A (l.take k):=by
 intro hl
 rw [List.length_take] at hl
 obtain ⟨b,off,rfl,hb,hcell⟩:=h (by omega)
 refine ⟨b,off,rfl,hb,fun i hi=>?_⟩
 rw [List.length_take] at hi
 obtain ⟨cs,h1,h2,h3⟩:=hcell i (by omega)
 refine ⟨cs,h1,?_,h3⟩
 rw [AZ d _ i (by rw [List.length_take];omega),List.getElem_take]
 rw [AZ d _ i (by omega)] at h2
 exact h2
theorem Bp.keep (hR:Stable R) (h:Bp R size d w S v l) (hs:∀ b,S b→S' b) (hk:CU S w w'):Bp R size d w' S' v l:=by
 obtain ⟨A,c,e,hc,hr⟩:=h
 exact ⟨A,c,e,hc,hr.keep hR hs hk⟩
theorem Bp.sub (hR:Stable R) (h:Bp R size d w S v l) (hs:∀ b,S b→S' b):Bp R size d w S' v l:=h.keep hR hs CU.refl
theorem Bp.DW:Bp R size d w S (.slice none 0 0) []:=⟨none,0,rfl,Nat.le_refl _,Bw.DW⟩
theorem Bp.Kw {n c:Nat} (h:Bp R size d w S (.slice A n c) l):n=l.length∧n≤c∧Bw R size d w S A l:=by
 obtain ⟨A',c',e,hc,hr⟩:=h
 injection e with e1 e2 e3
 subst e1 e2 e3
 exact ⟨rfl,hc,hr⟩
end
def AA {α:Type} (enc:α→List Value) (l:List α):List Value:=l.flatMap enc
section
variable {α:Type} {enc:α→List Value} {size:Nat} {d:α} {w w':World} {S S':Nat→Prop} {A:Option Addr} {l:List α} {v:Value}
theorem CO (he:∀ x,(enc x).length=size) (l:List α):(AA enc l).length=l.length*size:=by
 induction l with
 | nil=>simp [AA]
 | cons x l ih =>
  have:AA enc (x :: l)=enc x++AA enc l:=rfl
  rw [this,List.length_append,ih,he,List.length_cons,Nat.add_mul];omega
theorem BK (l r:List α):AA enc (l++r)=AA enc l++AA enc r:=by simp [AA]
theorem Ju (x:α):AA enc [x]=enc x:=by simp [AA]
theorem Dc (he:∀ x,(enc x).length=size):∀ (l:List α) (k j:Nat) (u:Value),k<l.length→(enc (nth d l k))[j]? = some u→(AA enc l)[k*size+j]? = some u:=by
 intro l
 induction l with
 | nil=>intro k j u hk;simp at hk
 | cons x l ih =>
  intro k j u hk hu
  have e:AA enc (x :: l)=enc x++AA enc l:=rfl
  have hj:j<size:=by
   have:=(List.getElem?_eq_some_iff.1 hu).1
   rw [he] at this
   exact this
  cases k with
  | zero =>
   rw [FZ] at hu
   rw [e,Nat.zero_mul,Nat.zero_add,List.getElem?_append_left (by rw [he];exact hj)]
   exact hu
  | succ k =>
   rw [Dl] at hu
   simp only [List.length_cons] at hk
   rw [e,List.getElem?_append_right (by rw [he,Nat.add_mul];omega),he,show (k+1)*size+j-size=k*size+j from by rw [Nat.add_mul];omega]
   exact ih k j u (by omega) hu
theorem Bp.own {base e n:Nat} (he:∀ x,(enc x).length=size) (h:w.ownsRow base e size v n (AA enc l)) (hsz:0<size):Bp (Flat enc) size d w (Fu base w.heap.size) v l:=by
 have hlen:l.length=n:=by
  have h1:=h.1
  rw [CO he] at h1
  exact Nat.eq_of_mul_eq_mul_right hsz h1
 subst hlen
 rcases h.2 with ⟨rfl,h0⟩|⟨g,cap,cur,rfl,hb,hg,hnc,_,hcs,htake⟩
 · have:l=[]:=List.eq_nil_of_length_eq_zero h0
   subst this
   exact Bp.DW
 · refine ⟨_,_,rfl,hnc,fun _=>⟨g,0,rfl,⟨hb,(Array.getElem?_eq_some_iff.1 hg).1⟩,fun k hk=>⟨enc (nth d l k),he _,rfl,fun j u hu=>?_⟩⟩⟩
   have hj:j<size:=by
    have:=(List.getElem?_eq_some_iff.1 hu).1
    rw [he] at this
    exact this
   have hx:=Dc he l k j u hk hu
   have hlt:k*size+j<l.length*size:=by
    have:(k+1)*size≤l.length*size:=Nat.mul_le_mul_right _ hk
    rw [Nat.add_mul] at this
    omega
   rw [cell_of_row w g _ cur e (0,0) hg,Nat.zero_add]
   rw [← htake,List.getElem?_take,if_pos hlt] at hx
   simpa using hx
end
theorem Bp.block {α:Type} {enc:α→List Value} {size:Nat} {d:α} {w:World} {S:Nat→Prop} {l:List α} {g c n:Nat} {cs:Array Value} {e:TypeId} {fr:Nat × Nat} (he:∀ x,(enc x).length=size) (hg:w.heap[g]? = some (.cells cs e fr))
 (hcs:cs.toList=AA enc l) (hn:n=l.length) (hc:n≤c) (hS:S g):Bp (Flat enc) size d w S (.slice (some ⟨g,0,none⟩) n c) l:=by
 subst hn
 refine ⟨_,_,rfl,hc,fun _=>⟨g,0,rfl,hS,fun k hk=>⟨enc (nth d l k),he _,rfl,fun j u hu=>?_⟩⟩⟩
 rw [cell_of_row w g _ cs e fr hg,Nat.zero_add]
 have:=Dc he l k j u hk hu
 rw [← hcs] at this
 simpa using this
structure Elem (P:Program) (t e size bytes:Nat) {α:Type} (enc:α→List Value):Prop where
 u:P.underlying t=some (.slice e)
 info:∃ z,(P.info? e).map (fun i=>(i.zero,i.size,i.bytes))=some (some z,size,bytes)∧z.cells.size=size
 hsz:0<size
 hby:0<bytes
 len:∀ x,(enc x).length=size
 one:∀ x,∀ u∈enc x,u.oneCell'=true
theorem ED {P:Program} {w:World} {ops:Array Oper} {rest:List Oper} {o:Oper} {a:Act} {Q:Exit→Act→World→Prop} {t e size bytes:Nat} {α:Type} {enc:α→List Value}
 (E:Elem P t e size bytes enc) (hg:o.guard=none) (s y:Operand) (hop:o.op=Op.call { callee:=Callee.builtin Builtin.append,args:=#[s,y],argTypes:=#[t,t] })
 (base:Nat) (v:Value) (n:Nat) (l:List α) (x:α) (hs:a.eval s=v) (hown:w.ownsRow base e size v n (AA enc l)) (hy:a.eval y=.slice (some ⟨w.heap.size,0,none⟩) 1 1)
 (hb:(n+1)*bytes≤140737488355328) (hbase:base≤w.heap.size)
 (hK:∀ A cap w',w'.ownsRow base e size (.slice A (n+1) cap) (n+1) (AA enc (l++[x]))→w.grownBy w' v.ownBlock→wpList P ops Q rest (a.put o.dst (.slice A (n+1) cap)) w') :
 wpList P ops Q (o :: rest) a (w.alloc (.cells (enc x).toArray e)):=by
 obtain ⟨z,hinfo,hz⟩:=E.info
 obtain ⟨i0,hi,hz0,hz1,hz2⟩:=info_parts hinfo
 have hm:n+1≤maxLen:=by
  have:=Nat.mul_le_mul_left (n+1) E.hby
  unfold maxLen;omega
 refine wpList_append_own _ hg s y t hop base e i0 z size bytes E.u hi hz0 hz1 hz2 hz E.hsz v n (AA enc l) hs (hown.alloc _) ⟨w.heap.size,0,none⟩ 1 1 (enc x) hy (by rw [E.len];omega) (Cm w (enc x) e) (E.one x) hm hb (by simp;omega) ?_
 intro v' w1 hown1 hgrow _
 obtain ⟨A,cap,rfl,_⟩:=DK hown1
 exact hK A cap w1 (by rw [BK,Ju];exact hown1) (Dx hgrow)
end
section
open Go.RowKit
theorem own_below {w w':World} {B base e size n:Nat} {v:Value} {xs:List Value} (h:w.ownsRow base e size v n xs) (hB:Below B w w') (hb:w.heap.size≤B):w'.ownsRow base e size v n xs:=by
 refine ⟨h.1,?_⟩
 rcases h.2 with h0|⟨g,cap,cur,hv,hb',hg,rest⟩
 · exact .inl h0
 · exact .inr ⟨g,cap,cur,hv,hb',(hB.block g (by have:=(Array.getElem?_eq_some_iff.1 hg).1;omega)).trans hg,rest⟩
theorem AV {B:Nat} {a w:World} (h:Below B a w) (n:Nat):Below B a (w.drewN n):=⟨h.os,h.tape,h.output,h.size,h.block⟩
theorem BS {w:World} {base e size n c:Nat} {A:Option Addr} {xs:List Value} (h:w.ownsRow base e size (.slice A n c) n xs) (hn:0<n):∃ g,A=some ⟨g,0,none⟩∧g<w.heap.size∧n≤c∧∀ j u,xs[j]? = some u→w.cell? ((⟨g,0,none⟩:Addr).add j)=some u:=by
 obtain ⟨g,cap,e1,hb,hg,hc⟩:=Eg h hn
 injection e1 with e1 e2 e3
 subst e1 e3
 exact ⟨g,rfl,hg,hc,h.cells rfl⟩
end
section
open Go.RowKit
structure Mp where
 v:Int
 b:Int
 t:Int
def Mv:Mp:=⟨0,0,0⟩
def Mp.enc (m:Mp):List Value:=[.int .i64 m.v,.int .i64 m.b,.int .i64 m.t]
def In64 (n:Int):Prop := -9223372036854775808≤n∧n≤9223372036854775807
def Mp.ok (m:Mp):Prop:=In64 m.v∧In64 m.b∧In64 m.t
abbrev o9:Xy Mp:=Flat Mp.enc
abbrev bI (w:World) (S:Nat→Prop) (v:Value) (l:List Mp):Prop:=Bp o9 3 Mv w S v l
abbrev Ky (w:World) (S:Nat→Prop) (A:Option Addr) (l:List Mp):Prop:=Bw o9 3 Mv w S A l
theorem ES:Stable o9:=AB _
theorem flat3 {α:Type} {f0 f1 f2:α→Value} {d:α} {w:World} {S:Nat→Prop} {A:Option Addr} {l:List α} (h:Bw (Flat fun x=>[f0 x,f1 x,f2 x]) 3 d w S A l) (hl:0<l.length) :
 ∃ b off,A=some ⟨b,off,none⟩∧S b∧∀ k,k<l.length→w.cell? ⟨b,off+k*3,none⟩=some (f0 (nth d l k))∧w.cell? ⟨b,off+k*3+1,none⟩=some (f1 (nth d l k))∧w.cell? ⟨b,off+k*3+2,none⟩=some (f2 (nth d l k)):=by
 obtain ⟨b,off,e,hb,hc⟩:=h hl
 refine ⟨b,off,e,hb,fun k hk=>?_⟩
 obtain ⟨cs,_,hr,h3⟩:=hc k hk
 obtain rfl:cs=_:=hr
 exact ⟨h3 0 _ rfl,h3 1 _ rfl,h3 2 _ rfl⟩
theorem Kz {w:World} {S:Nat→Prop} {A:Option Addr} {l:List Mp} (h:Ky w S A l) (hl:0<l.length) :
 ∃ b off,A=some ⟨b,off,none⟩∧S b∧∀ k,k<l.length→w.cell? ⟨b,off+k*3,none⟩=some (.int .i64 (nth Mv l k).v)∧w.cell? ⟨b,off+k*3+1,none⟩=some (.int .i64 (nth Mv l k).b)∧w.cell? ⟨b,off+k*3+2,none⟩=some (.int .i64 (nth Mv l k).t) :=
 flat3 h hl
def KH (l:List Mp) (k:Nat):Int:=if k=0 then -1 else (nth Mv l (k-1)).v
theorem K3 (l:List Mp) (k:Nat):KH l (k+1)=(nth Mv l k).v:=by simp [KH]
section
variable {l:List Mp} {k:Nat}
end
end
end Go.Proofs.YthblbddmcdnllaaGreatDoor
