/- Part 4 of the proof: RScanP, Open, OpenG, WCloneY, WElI, RFlt, WImg, WImg2, NodeR, PBox, ElMp. -/
import Derived.Test.YtpenklpdjpkigaaGreatY3
import Derived.Test.YtpenklpdjpkigaaGreatY1
import Derived.Deep.Slices
import Derived.Deep.Fields
import Derived.ChangeSame
import Derived.SizedLaws
import Derived.OpenShut
import Derived.Test.YtpenklpdjpkigaaGreatY2
import Derived.Test.YtpenklpdjpkigaaGreatProg
import Derived.Outline
set_option maxHeartbeats 6400000
set_option linter.unusedVariables false
set_option linter.unusedSimpArgs false
namespace Go.Proofs.YtpenklpdjpkigaaGreat
section
open Go.RowKit
structure NP where
 no:Int
 lo:Int
 hi:Int
 way:List Int
 fault:Int
def Jy:NP:=⟨0,0,0,[],0⟩
def Iq (bs:List UInt8) (tree fuel:Int) (v:NP) (st:WS):WS :=
 if v.fault≠0 then Ad st ⟨v.way++[v.no],v.fault⟩ else BV bs tree fuel (17-v.way.length) v.way v.no (v.lo,v.hi) st
def EO (bs:List UInt8) (tree fuel:Int):List NP→WS→WS
 | [],st=>st
 | v :: r,st=>if (Iq bs tree fuel v st).Ju=true then Iq bs tree fuel v st else EO bs tree fuel r (Iq bs tree fuel v st)
def Kc (way:List Int) (no:Int) (x:(Int × Int) × List UInt8):NP :=
 if (Aj x.2).2≠0 then ⟨no,0,0,way,(Aj x.2).2⟩ else ⟨(Aj x.2).1,x.1.1,x.1.2,way++[no],0⟩
theorem Eg (bs:List UInt8) (tree fuel:Int) (v:NP) (r:List NP) (st:WS):EO bs tree fuel (v :: r) st=if (Iq bs tree fuel v st).Ju=true then Iq bs tree fuel v st else EO bs tree fuel r (Iq bs tree fuel v st):=rfl
theorem Ll (bs:List UInt8) (tree fuel:Int) (b:List NP):∀ (a:List NP) (st:WS),st.Ju=false →
 EO bs tree fuel (a++b) st=if (EO bs tree fuel a st).Ju=true then EO bs tree fuel a st else EO bs tree fuel b (EO bs tree fuel a st)
 | [],st,h=>by simp [EO,h]
 | v :: r,st,h=>by
  rw [List.cons_append,Eg,Eg]
  by_cases h1:(Iq bs tree fuel v st).Ju=true
  · simp [h1]
  · rw [if_neg h1,if_neg h1]
    exact Ll bs tree fuel b r _ (by simpa using h1)
theorem Ow (bs:List UInt8) (tree fuel:Int) (way:List Int) (no:Int) (d:Nat) (hd:d=17-(way++[no]).length):∀ (l:List ((Int × Int) × List UInt8)) (st:WS),
 Ee (BV bs tree fuel d (way++[no])) way no l st=EO bs tree fuel (l.map (Kc way no)) st
 | [],st=>rfl
 | (x,v) :: r,st=>by
  have e:(if (Aj v).2≠0 then Ad st ⟨way++[no],(Aj v).2⟩ else BV bs tree fuel d (way++[no]) (Aj v).1 x st)=Iq bs tree fuel (Kc way no (x,v)) st:=by
   unfold Iq Kc
   dsimp only
   by_cases h:(Aj v).2≠0
   · rw [if_pos h,if_pos h]
     dsimp only
     rw [if_pos h]
   · rw [if_neg h,if_neg h]
     dsimp only
     rw [if_neg (by simp),hd]
  unfold Ee
  rw [e,List.map_cons,Eg]
  by_cases h1:(Iq bs tree fuel (Kc way no (x,v)) st).Ju=true
  · rw [if_pos h1,if_pos h1]
  · rw [if_neg h1,if_neg h1]
    exact Ow bs tree fuel way no d hd r _
theorem ZJ (bs:List UInt8) (root tree fuel:Int):EO bs tree fuel [⟨root,0,281474976710656,[],0⟩] OE=Az bs root tree fuel:=by
 have e:Iq bs tree fuel ⟨root,0,281474976710656,[],0⟩ OE=Az bs root tree fuel:=by
  unfold Iq Az
  dsimp only
  rw [if_neg (by simp)]
  rfl
 rw [Eg,e]
 split <;> rfl
theorem Ox (st:WS) (f:K6):(Ad st f).Ju=st.Ju:=rfl
theorem WE (bs:List UInt8) (tree fuel:Int) (v:NP) (r:List NP) (st:WS) (hs:st.Ju=false) (h:v.fault≠0):EO bs tree fuel (v :: r) st=EO bs tree fuel r (Ad st ⟨v.way++[v.no],v.fault⟩):=by
 have e:Iq bs tree fuel v st=Ad st ⟨v.way++[v.no],v.fault⟩:=by unfold Iq;rw [if_pos h]
 rw [Eg,e,if_neg (by rw [Ox,hs];simp)]
theorem KP (bs:List UInt8) (tree fuel:Int) (v:NP) (st:WS) (h:v.fault=0) (hl:v.way.length≤16):Iq bs tree fuel v st=BV bs tree fuel (16-v.way.length+1) v.way v.no (v.lo,v.hi) st:=by
 unfold Iq
 rw [if_neg (by simp [h]),show 17-v.way.length=16-v.way.length+1 by omega]
theorem ZK (bs:List UInt8) (tree fuel:Int) (v:NP) (r:List NP) (st:WS) (h:v.fault=0) (hl:v.way.length≤16) (hf:fuel≤st.looked) :
 EO bs tree fuel (v :: r) st={ Ad st ⟨v.way++[v.no],12⟩ with Ju:=true }:=by
 have e:Iq bs tree fuel v st={ Ad st ⟨v.way++[v.no],12⟩ with Ju:=true }:=by
  rw [KP bs tree fuel v st h hl]
  unfold BV
  rw [if_pos hf]
 rw [Eg,e,if_pos rfl]
theorem ZL (bs:List UInt8) (tree fuel:Int) (v:NP) (r:List NP) (st:WS) (hs:st.Ju=false) (h:v.fault=0) (hl:v.way.length≤16) (hf:¬ fuel≤st.looked) (hk:Bf bs tree st.deep v.way v.no v.lo v.hi≠0) :
 EO bs tree fuel (v :: r) st=EO bs tree fuel r (Ad { st with looked:=st.looked+1 } ⟨v.way++[v.no],Bf bs tree st.deep v.way v.no v.lo v.hi⟩):=by
 have e:Iq bs tree fuel v st=Ad { st with looked:=st.looked+1 } ⟨v.way++[v.no],Bf bs tree st.deep v.way v.no v.lo v.hi⟩:=by
  rw [KP bs tree fuel v st h hl]
  unfold BV
  rw [if_neg hf,if_pos hk]
 rw [Eg,e,if_neg (by rw [Ox];simp [hs])]
theorem ZM (bs:List UInt8) (tree fuel:Int) (v:NP) (r:List NP) (st:WS) (hs:st.Ju=false) (h:v.fault=0) (hl:v.way.length≤16) (hf:¬ fuel≤st.looked) (hk:Bf bs tree st.deep v.way v.no v.lo v.hi=0) (hn:(nodeAt bs v.no).leaf=true) :
 EO bs tree fuel (v :: r) st=EO bs tree fuel r { st with looked:=st.looked+1,AV:=st.AV++[v.no],deep:=v.way.length+1,AO:=st.AO++BK (nodeAt bs v.no) v.no }:=by
 have e:Iq bs tree fuel v st={ st with looked:=st.looked+1,AV:=st.AV++[v.no],deep:=v.way.length+1,AO:=st.AO++BK (nodeAt bs v.no) v.no }:=by
  rw [KP bs tree fuel v st h hl]
  unfold BV
  rw [if_neg hf,if_neg (by simp [hk]),if_pos hn]
 rw [Eg,e,if_neg (by simp [hs])]
theorem WF (bs:List UInt8) (tree fuel:Int) (v:NP) (r:List NP) (st:WS) (hs:st.Ju=false) (h:v.fault=0) (hl:v.way.length≤16) (hf:¬ fuel≤st.looked) (hk:Bf bs tree st.deep v.way v.no v.lo v.hi=0) (hn:¬ (nodeAt bs v.no).leaf=true) :
 EO bs tree fuel (v :: r) st=EO bs tree fuel (((spansOf v.hi (nodeAt bs v.no).keys).zip (nodeAt bs v.no).vals).map (Kc v.way v.no)++r) { st with looked:=st.looked+1,AV:=st.AV++[v.no] }:=by
 have e:Iq bs tree fuel v st=EO bs tree fuel (((spansOf v.hi (nodeAt bs v.no).keys).zip (nodeAt bs v.no).vals).map (Kc v.way v.no)) { st with looked:=st.looked+1,AV:=st.AV++[v.no] }:=by
  rw [KP bs tree fuel v st h hl]
  unfold BV
  rw [if_neg hf,if_neg (by simp [hk]),if_neg hn]
  exact Ow bs tree fuel v.way v.no _ (by rw [List.length_append,List.length_singleton];omega) _ _
 rw [Ll _ _ _ _ _ _ (by simp [hs]),← e]
 rfl
end
section
open Go.RowKit Go.ChangeShapes Go.WideShapes Go.Deep
def SV {H:Type} (P:Program) (t:TypeId) (d:DataW H):Prop:=∀ x∈d.weights P t,x≤reachBytes
theorem Oy {H:Type} {P:Program} {e:TypeId} {d:DataW H} {x:Nat}:∀ {l:List (DataW H)},d∈l→x∈d.weights P e→x∈DataW.weightsAll P e l:=by
 intro l
 induction l with
 | nil=>intro h;cases h
 | cons a l ih =>
  intro h hx
  rw [DataW.weightsAll,List.mem_append]
  rcases List.mem_cons.1 h with rfl|h
  · exact .inl hx
  · exact .inr (ih h hx)
theorem Nn {H:Type} {P:Program} {d:DataW H} {t:TypeId} {x:Nat}:∀ {ts:List TypeId} {l:List (DataW H)} {i:Nat},ts[i]? = some t→l[i]? = some d→x∈d.weights P t→x∈DataW.weightsEach P ts l:=by
 intro ts
 induction ts with
 | nil=>intro l i h;simp at h
 | cons a ts ih =>
  intro l i h hl hx
  cases l with
  | nil=>simp at hl
  | cons b l =>
   rw [DataW.weightsEach,List.mem_append]
   cases i with
   | zero =>
    simp at h hl
    subst h hl
    exact .inl hx
   | succ i =>
    simp at h hl
    exact .inr (ih h hl hx)
def Oz {α:Type} (P:Program) (t:TypeId) (R:QV α) (ok:α→Prop):Prop :=
 ∀ (H:Type) (enc:TypeId × Value→H) (w:World) (base:Nat) (spare:Nat→Bool) (held:Bool) (n:Nat) (cs:List Value) (y:DataW H × List MemPlace),
  DataW.trod enc P w base spare held n t cs=some y→SV P t y.1→∃ a,R w (Lt w.heap.size) cs a∧ok a
theorem in64_of_wf {n:Int} (h:(Lit.int .i64 n).wf=true):In64 n:=by
 have:=bounds_i64 h
 unfold In64
 omega
def RSl {α:Type} (R:QV α) (size:Nat) (d:α):QV (List α):=fun w S cs l=>∃ v,cs=[v]∧CF R size d w S v l
theorem UU {α:Type} {P:Program} {t e:TypeId} {R:QV α} {ok:α→Prop} {size bytes:Nat} (d:α) (ht:P.underlying t=some (.slice e)) (hC:P.cellsOf e=size) (hsz:0<size) (hb:P.bytesOf e=bytes) (h:Oz P e R ok) :
 Oz P t (RSl R size d) (fun l=>(∀ a∈l,ok a)∧l.length*bytes≤reachBytes):=by
 intro H enc w base spare held n cs y hy hw
 rcases open_slice ht hy with ⟨rfl,rfl⟩|⟨a,len,cap,m,n',D,Pl,rfl,_,hl,_,hm,rfl,hi⟩
 · exact ⟨[],⟨_,rfl,CF.F4⟩,by simp,by simp⟩
 · have hlm:len≤m:=by rw [hm];split <;> omega
   have hmem:∀ i,i<len→D i∈(List.range len).map D:=fun i hi=>List.mem_map.2 ⟨i,List.mem_range.2 hi,rfl⟩
   have hwe:∀ i,i<len→SV P e (D i):=by
    intro i hi x hx
    refine hw x ?_
    simp only [DataW.weights,ht]
    exact List.mem_cons_of_mem _ (List.mem_append_left _ (Oy (hmem i hi) hx))
   have hlen:len*bytes≤reachBytes:=by
    have:=hw (((List.range len).map D).length+((List.range (m-len)).map fun j=>D (len+j)).length |>.mul (P.bytesOf e)) (by
     simp only [DataW.weights,ht]
     exact List.mem_cons_self)
    simp only [List.length_map,List.length_range,hb] at this
    exact Nat.le_trans (Nat.mul_le_mul_right _ (by omega)) this
   have hx:∀ i,i<len→∃ x:α,∃ cs',w.cells? base (a.add (i*size)) size=some cs'∧R w (Lt w.heap.size) cs' x∧ok x:=by
    intro i hil
    obtain ⟨cs',h1,h2⟩:=hi i (by omega)
    rw [hC] at h1
    obtain ⟨x,hx1,hx2⟩:=h H enc w base spare held n' cs' _ h2 (hwe i hil)
    exact ⟨x,cs',h1,hx1,hx2⟩
   haveI:Inhabited α:=⟨d⟩
   obtain ⟨f,hf⟩:=choose_lt hx
   refine ⟨(List.range len).map f,⟨_,rfl,some a,cap,by simp,by simpa using hl,?_⟩,?_,by simpa using hlen⟩
   · intro h0
     simp only [List.length_map,List.length_range] at h0
     obtain ⟨cs0,h1,_,_⟩:=hf 0 h0
     obtain ⟨_,hl0,hc0⟩:=World.cells?_some h1
     have hcell:w.cell? (a.add (0*size))=cs0[0]? := by
      have:=hc0 0 hsz
      simpa [Addr.add] using this
     obtain ⟨u,hu⟩:∃ u,cs0[0]? = some u:=⟨cs0[0]'(by omega),List.getElem?_eq_getElem (by omega)⟩
     rw [hu] at hcell
     have hcell':w.cell? a=some u:=by simpa [Addr.add] using hcell
     obtain ⟨b,off,spot⟩:=a
     obtain rfl:spot=none:=World.cell?_spot hcell'
     refine ⟨b,off,rfl,World.block_lt_of_cell? w _ hcell',fun k hk=>?_⟩
     simp only [List.length_map,List.length_range] at hk
     obtain ⟨cs',g1,g2,_⟩:=hf k hk
     obtain ⟨_,g3,g4⟩:=World.cells?_some g1
     refine ⟨cs',g3,?_,fun j u hu=>?_⟩
     · rw [Ac d _ k (by simpa using hk)]
       simpa using g2
     · have hj:j<size:=by
         have:=(List.getElem?_eq_some_iff.1 hu).1
         omega
       have:=g4 j hj
       rw [hu,add_add] at this
       have e1:(⟨b,off,none⟩:Addr).add (k*size+j)=⟨b,off+k*size+j,none⟩:=by
        unfold Addr.add
        split
        · rename_i h0
          have:off=off+k*size+j:=by omega
          rw [← this]
        · simp only [Addr.mk.injEq,and_true,true_and];omega
       rw [e1] at this
       exact this
   · intro x hx
     obtain ⟨i,hi,rfl⟩:=List.mem_map.1 hx
     obtain ⟨_,_,_,g⟩:=hf i (List.mem_range.1 hi)
     exact g
end
section
open Go.RowKit Go.ChangeShapes Go.WideShapes Go.Deep
theorem Oz.arg {α:Type} {P:Program} {t:TypeId} {R:QV α} {ok:α→Prop} (h:Oz P t R ok) {H:Type} {enc:TypeId × Value→H} {w:World} {base:Nat} {spare:Nat→Bool} {held:Bool} {v:Value} {d:DataW H} {p:List MemPlace}
 (ht:DataW.Trod enc P w base spare held t v d p) (hw:SV P t d):∃ a,R w (Lt w.heap.size) v.cells.toList a∧ok a:=by
 obtain ⟨n,hn⟩:=ht
 exact h H enc w base spare held n _ _ hn hw
theorem ZN {H:Type} {P:Program} {ts:List TypeId} {ds:List (DataW H)} (h:(DataW.weightsEach P ts ds).all (·≤reachBytes)=true) {i:Nat} {t:TypeId} {d:DataW H} (ht:ts[i]? = some t) (hd:ds[i]? = some d):SV P t d :=
 fun x hx=>by simpa using List.all_eq_true.1 h x (Nn ht hd hx)
theorem eQ {P:Program} {t:TypeId} (ht:P.underlying t=some (.int .u8)):Oz P t (Flat Au) (fun _=>True):=by
 intro H enc w base spare held n cs y hy _
 obtain ⟨k,rfl,_,hw⟩:=DataW.trod_int ht hy
 have hb:=bounds_u8 hw
 refine ⟨UInt8.ofNat k.toNat,?_,trivial⟩
 show _=[Value.int .u8 _]
 rw [UInt8.toNat_ofNat',Nat.mod_eq_of_lt (by omega),Int.toNat_of_nonneg hb.1]
theorem UV {P:Program} {t e:TypeId} (ht:P.underlying t=some (.slice e)) (he:P.underlying e=some (.int .u8)) (hC:P.cellsOf e=1) (hb:P.bytesOf e=1) :
 Oz P t (RSl (Flat Au) 1 (0:UInt8)) (fun l=>(∀ a∈l,True)∧l.length*1≤reachBytes):=UU 0 ht hC (by omega) hb (eQ he)
end
section
open Go.RowKit
theorem KQ:(Tryz.prog.info? 5).map (fun i=>(i.zero,i.size,i.bytes))=some (some (.int .u8 0),1,1):=by kernel_rfl
theorem GG (w:World) (S:Nat→Prop) (v:Value) (l:List UInt8) (_hS:∀ b,S b→b<w.heap.size) (h:AX w S v l) (hn:l.length≤140737488355328) :
 Calls Tryz.prog 18 #[v] w fun e w'=>∃ A c,e=.returned (.slice A l.length c)∧w'.ownsRow w.heap.size 5 1 (.slice A l.length c) l.length (AB Au l)∧Below w.heap.size w w':=by
 obtain ⟨A,c,rfl,hc,hr⟩:=h
 have heq:=Lib.run_eql_slice_nil (P:=Tryz.prog) w 22 5 A l.length c 0 0 Tryz.underlying22
 cases A with
 | none =>
  have hl:l=[]:=by
   rcases Nat.eq_zero_or_pos l.length with h0|h0
   · exact List.eq_nil_of_length_eq_zero h0
   · obtain ⟨_,_,e,_⟩:=hr h0
     cases e
  subst hl
  simp only [List.length_nil] at heq ⊢
  go_enter Tryz.func18,Tryz.ntmps18
  go_wp2
  go_ret
  exact ⟨none,0,rfl,World.ownsRow_nil _ _ _ _,Below.refl _ _⟩
 | some a =>
  obtain ⟨xs,hx,hcl⟩:=JH hr
  have hxs:xs=AB Au l:=by
   apply List.ext_getElem?
   intro i
   by_cases hi:i<l.length
   · obtain ⟨cs,_,e1,e2⟩:=hx.2 i hi
     obtain rfl:cs=_:=e1
     have:=e2 0 (by omega)
     rw [Nat.mul_one,Nat.add_zero] at this
     rw [this,Bu,List.getElem?_map,List.getElem?_eq_getElem hi,Ac 0 l i hi]
     rfl
   · rw [List.getElem?_eq_none (by rw [hx.1];omega),List.getElem?_eq_none (by rw [BI];omega)]
  subst hxs
  generalize hln:l.length=n at *
  have eT:=qh hln
  clear hln
  go_enter Tryz.func18,Tryz.ntmps18
  go_wp2_with (at_builtin;go_loud (refine CK Tryz.underlying22 KQ rfl (by omega) (by omega) rfl _ _ rfl w.heap.size (.slice (some ⟨w.heap.size,0,none⟩) 0 0) 0 [] rfl (World.ownsRow_made w #[] 0 (Nat.le_refl _) (by simp [maxLen]) rfl) a n c (AB Au l) rfl (by rw [BI,eT.out];omega) (fun j u hu=>by
   have hold:=hcl j u hu
   have hlt:=World.block_lt_of_cell? _ _ hold
   rw [World.cell?_alloc_lt _ _ _ hlt];exact hold) (Dr l) (by omega) (by simp) ?_);intro A' cap' w1 hown hg)
  go_ret
  have hB:Below w.heap.size w w1:=((Below.refl _ w).alloc (Nat.le_refl _) _).grown hg (by simp) (fun k hk=>by simp [Value.ownBlock] at hk;omega)
  exact ⟨A',cap',by simp,by simpa using hown,hB⟩
theorem O0 (w:World):Calls Tryz.prog 18 #[.slice none 0 0] w fun e w'=>e=.returned (.slice none 0 0)∧w=w':=by
 have heq:=Lib.run_eql_slice_nil (P:=Tryz.prog) w 22 5 none 0 0 0 0 Tryz.underlying22
 go_enter Tryz.func18,Tryz.ntmps18
 go_wp2
 go_ret
 exact ⟨rfl,rfl⟩
end
section
open Go.RowKit
theorem Ir:Elem Tryz.prog 29 3 1 8 encI:=⟨Tryz.underlying29,⟨_,(by kernel_rfl:(Tryz.prog.info? 3).map (fun i=>(i.zero,i.size,i.bytes))=some (some (.int .i64 0),1,8)),rfl⟩,by omega,by omega,Bh,di⟩
theorem pY:Elem Tryz.prog 49 9 1 16 encS:=⟨Tryz.underlying49,⟨_,(by kernel_rfl:(Tryz.prog.info? 9).map (fun i=>(i.zero,i.size,i.bytes))=some (some (.string ByteArray.empty),1,16)),rfl⟩,by omega,by omega,Oh,eF⟩
end
section
open Go.RowKit
def RF (w:World) (S:Nat→Prop) (v:Value) (f:K6):Prop:=∃ A c,v=.agg #[.slice A f.blocks.length c,.int .i64 f.code]∧Aa w S (.slice A f.blocks.length c) f.blocks
def Qc:K6:=⟨[],0⟩
def UB (b:Int) (f:K6):K6:=if f.code=0 then Qc else ⟨b :: f.blocks,f.code⟩
theorem KR (b c:Int) (h:c≠0):UB b ⟨[],c⟩=⟨[b],c⟩:=by unfold UB;rw [if_neg h]
section
variable {w w':World} {S S':Nat→Prop} {v:Value} {f:K6}
theorem RF.keep (h:RF w S v f) (hs:∀ b,S b→S' b) (hk:CS S w w'):RF w' S' v f:=by
 obtain ⟨A,c,e,h⟩:=h
 exact ⟨A,c,e,h.keep (AA _) hs hk⟩
theorem RF.zero:RF w S (.agg #[.slice none 0 0,.int .i64 0]) Qc:=⟨none,0,rfl,CF.F4⟩
end
section
variable {w:World} {g:Nat} {T T1 T2 T3:TypeId} {a0 a1 u0 u1:Value} {cs cs1 cs2 pm:Array Value}
theorem AP.UW (h:AP w g #[a0,a1] T) (u0 u1:Value):AP ((w.setCell ⟨g,0,none⟩ u0).setCell ⟨g,1,none⟩ u1) g #[u0,u1] T:=by
 unfold AP at *
 simp [World.setCell,Array.getElem?_modify,h]
theorem AP.Mm (h:AP w g cs T) (o:Obj):AP (w.alloc o) g cs T:=(Below.heap_alloc w o g h.lt).trans h
theorem AP.two (w:World) (cs1 cs2:Array Value) (T1 T2:TypeId):AP ((w.alloc (.cells cs1 T1)).alloc (.cells cs2 T2)) w.heap.size cs1 T1∧AP ((w.alloc (.cells cs1 T1)).alloc (.cells cs2 T2)) (w.heap.size+1) cs2 T2∧Below w.heap.size w ((w.alloc (.cells cs1 T1)).alloc (.cells cs2 T2))∧((w.alloc (.cells cs1 T1)).alloc (.cells cs2 T2)).heap.size=w.heap.size+2:=by
 have e:(w.alloc (.cells cs1 T1)).heap.size=w.heap.size+1:=by simp
 refine ⟨(AP.new w cs1 T1).Mm _,?_,((Below.refl _ _).alloc (Nat.le_refl _) _).alloc (by simp) _,by simp⟩
 have:=AP.new (w.alloc (.cells cs1 T1)) cs2 T2
 rwa [e] at this
theorem AP.three (w:World) (cs1 cs2 pm:Array Value) (T1 T2 T3:TypeId):AP (((w.alloc (.cells cs1 T1)).alloc (.cells cs2 T2)).alloc (.cells pm T3)) w.heap.size cs1 T1∧AP (((w.alloc (.cells cs1 T1)).alloc (.cells cs2 T2)).alloc (.cells pm T3)) (w.heap.size+1) cs2 T2∧AP (((w.alloc (.cells cs1 T1)).alloc (.cells cs2 T2)).alloc (.cells pm T3)) (w.heap.size+1+1) pm T3 ∧
 Below w.heap.size w (((w.alloc (.cells cs1 T1)).alloc (.cells cs2 T2)).alloc (.cells pm T3))∧(((w.alloc (.cells cs1 T1)).alloc (.cells cs2 T2)).alloc (.cells pm T3)).heap.size=w.heap.size+3:=by
 obtain ⟨h1,h2,h3,h4⟩:=AP.two w cs1 cs2 T1 T2
 refine ⟨h1.Mm _,h2.Mm _,?_,h3.alloc (by omega) _,by simp [h4]⟩
 have:=AP.new ((w.alloc (.cells cs1 T1)).alloc (.cells cs2 T2)) pm T3
 rwa [h4] at this
theorem lJ (w:World) (v:Value) (e:TypeId):(w.alloc (.cells #[v] e)).ownsRow w.heap.size e 1 (.slice (some ⟨w.heap.size,0,none⟩) 1 1) 1 [v] :=
 ⟨rfl,.inr ⟨w.heap.size,1,#[v],rfl,Nat.le_refl _,heap_alloc_new w _,Nat.le_refl _,by unfold maxLen;omega,rfl,rfl⟩⟩
theorem Eh (w:World) (g:Nat) (u0 u1:Value):Touch (fun x=>x=g) w ((w.setCell ⟨g,0,none⟩ u0).setCell ⟨g,1,none⟩ u1) :=
 have k:∀ (w:World) (i:Nat) (u:Value),Touch (fun x=>x=g) w (w.setCell ⟨g,i,none⟩ u):=fun w i u=>Touch.Dc (R:=fun x=>x=g) (p:=⟨g,i,none⟩) rfl
 (k _ 0 u0).trans (k _ 1 u1)
theorem O1 (w:World) (g:Nat) (u0 u1 u2 u3:Value):Touch (fun x=>x=g) w ((((w.setCell ⟨g,0,none⟩ u0).setCell ⟨g,1,none⟩ u1).setCell ⟨g,2,none⟩ u2).setCell ⟨g,3,none⟩ u3) :=
 have k:∀ (w:World) (i:Nat) (u:Value),Touch (fun x=>x=g) w (w.setCell ⟨g,i,none⟩ u):=fun w i u=>Touch.Dc (R:=fun x=>x=g) (p:=⟨g,i,none⟩) rfl
 (((k _ 0 u0).trans (k _ 1 u1)).trans (k _ 2 u2)).trans (k _ 3 u3)
end
theorem Lm (l:List Int):∀ u∈AB encI l,u.oneCell'=true:=fun u hu=>by
 rw [CU] at hu
 obtain ⟨x,_,rfl⟩:=List.mem_map.1 hu
 rfl
theorem UX {w:World} {S:Nat→Prop} {b off:Nat} {l:List Int} (h:BX (Flat fun n:Int=>[.int .i64 n]) 1 0 w S (some ⟨b,off,none⟩) l):∀ j u,(AB encI l)[j]? = some u→w.cell? ((⟨b,off,none⟩:Addr).add j)=some u:=fun j u hu=>by
 have hj:j<l.length:=by
  have:=(List.getElem?_eq_some_iff.1 hu).1
  rwa [CU,List.length_map] at this
 obtain ⟨b',off',e,_,hc⟩:=BR h (by omega)
 injection e with e
 injection e with e1 e2 _
 subst e1 e2
 rw [CU,List.getElem?_map,List.getElem?_eq_getElem hj] at hu
 injection hu with hu
 have e:(⟨b,off,none⟩:Addr).add j=⟨b,off+j,none⟩:=by simp [Addr.add]
 rw [e,hc j hj,Ac 0 l j hj,← hu]
end
section
open Go.RowKit
def Cj (w:World) (S:Nat→Prop) (a:Nat) (bs:List UInt8):Prop:=S a∧∃ A c,w.cell? ⟨a,0,none⟩=some (.slice A bs.length c)∧bs.length≤c∧Cx w S A bs
def Bo (w:World) (base a:Nat) (bs:List UInt8):Prop:=base≤a∧∃ A c,One w a (.slice A bs.length c) 48∧w.ownsRow base 5 1 (.slice A bs.length c) bs.length (AB Au bs)
section
variable {w w':World} {S S':Nat→Prop} {a base B:Nat} {bs:List UInt8}
theorem Cj.keep (h:Cj w S a bs) (hs:∀ b,S b→S' b) (hk:CS S w w'):Cj w' S' a bs:=by
 obtain ⟨h0,A,c,h1,h2,h3⟩:=h
 exact ⟨hs a h0,A,c,(hk a 0 h0).trans h1,h2,h3.keep (AA _) hs hk⟩
theorem Cj.below (h:Cj w S a bs) (hB:Below B w w') (hs:∀ b,S b→b<B):Cj w' S a bs:=h.keep (fun _ h=>h) (AL hB hs)
theorem Bo.is (h:Bo w base a bs) (hS:∀ b,base≤b→b<w.heap.size→S b):Cj w S a bs:=by
 obtain ⟨h0,A,c,h1,h2⟩:=h
 obtain ⟨A',c',e,hc,hr⟩:=CF.own (d:=(0:UInt8)) D8 h2 (by omega)
 injection e with e1 e2 e3
 subst e1 e3
 exact ⟨hS a h0 h1.lt,A,c,h1.cell,hc,hr.keep (AA _) (fun b hb=>hS b hb.1 hb.2) CS.refl⟩
theorem Bo.ne {A:Option Addr} {c n g:Nat} {xs:List Value} (h1:One w a (.slice A n c) 48) (h2:w.ownsRow base 5 1 (.slice A n c) n xs) (hg:(Value.slice A n c).ownBlock=some g):g≠a:=by
 rintro rfl
 rcases h2.2 with ⟨hv,_⟩|⟨g',cap,cur,hv,_,hh,_⟩
 · injection hv with e;subst e;simp [Value.ownBlock] at hg
 · rw [hv] at hg
   have:g'=g:=by simpa [Value.ownBlock] using hg
   subst this
   unfold One at h1
   rw [h1] at hh
   injection hh with hh
   injection hh with _ ht
   exact absurd ht (by decide)
theorem Bo.low {base':Nat} (h:Bo w base a bs) (hb:base'≤base):Bo w base' a bs:=by
 obtain ⟨h0,A,c,h1,h2⟩:=h
 refine ⟨by omega,A,c,h1,h2.1,?_⟩
 rcases h2.2 with h0|⟨g,cap,cur,hv,hb',rest⟩
 · exact .inl h0
 · exact .inr ⟨g,cap,cur,hv,by omega,rest⟩
end
def Bc (n:Nat):Nat:=min (n / 256) 14400
theorem LC (n:Nat):Bc n*256≤n∧Bc n≤14400:=by unfold Bc;omega
theorem NQ (w:World) (S:Nat→Prop) (v:Value) (l:List UInt8) (hS:∀ b,S b→b<w.heap.size) (h:AX w S v l) (hn:l.length≤140737488355328) :
 Calls Tryz.prog 6 #[v] w fun e w'=>∃ a,e=.returned (.pointer (some ⟨a,0,none⟩))∧Bo w' w.heap.size a (l.take (Bc l.length*256))∧Below w.heap.size w w':=by
 obtain ⟨A,c,rfl,hc,hr⟩:=h
 obtain ⟨hb1,hb2⟩:=LC l.length
 have hlen:(l.take (Bc l.length*256)).length=Bc l.length*256:=by rw [List.length_take];omega
 have hdef:min ((l.length:Int) / 256) 14400=(Bc l.length:Int):=by unfold Bc;omega
 have htk:AX w S (.slice A (Bc l.length*256) c) (l.take (Bc l.length*256)):=by
  refine ⟨A,c,by rw [hlen],by omega,hr.take _⟩
 have hcl:=GG w S _ _ hS htk (by omega)
 rw [hlen] at hcl
 have GH:=qh hcl
 have HLEN:=qh hlen
 have yT:=qh hdef
 clear hcl hlen htk hr hdef
 generalize l.take (Bc l.length*256)=bs at *
 generalize hq:l.length=n at *
 clear hq
 have fin:∀ w1 A1 c1,w1.ownsRow w.heap.size 5 1 (.slice A1 (Bc n*256) c1) (Bc n*256) (AB Au bs)→Below w.heap.size w w1→Bo (w1.alloc (.cells #[.slice A1 (Bc n*256) c1] 48)) w.heap.size w1.heap.size bs∧Below w.heap.size w (w1.alloc (.cells #[.slice A1 (Bc n*256) c1] 48)):=by
  intro w1 A1 c1 hown hB
  exact ⟨⟨hB.size,A1,c1,by rw [HLEN.out];exact One.new w1 _ _,by rw [HLEN.out];exact hown.alloc _⟩,hB.alloc hB.size _⟩
 have FIN:=qh fin
 clear fin
 by_cases h:(n:Int) / 256≤14400
 · have e1:n / 256*256=Bc n*256:=by unfold Bc;omega
   have E1:=qh e1
   clear e1 yT
   generalize Bc n=k at *
   go_enter Tryz.func6,Tryz.ntmps6
   go_wp2_with (go_at_call 18;rw [E1.out];refine GH.out.mono ?_;rintro e w1 ⟨A1,c1,rfl,hown,hB⟩)
   go_ret
   exact ⟨_,rfl,FIN.out _ _ _ hown hB⟩
 · have e1:Bc n=14400:=by unfold Bc;omega
   have E2:=qh (show (3686400:Nat)=Bc n*256 by rw [e1])
   have hb3:3686400≤n:=by omega
   clear e1 yT HLEN hb1 hb2
   generalize Bc n=k at *
   go_enter Tryz.func6,Tryz.ntmps6
   go_wp2_with (go_at_call 18;rw [E2.out];refine GH.out.mono ?_;rintro e w1 ⟨A1,c1,rfl,hown,hB⟩)
   go_ret
   exact ⟨_,rfl,FIN.out _ _ _ hown hB⟩
theorem CR (w:World) (a:Nat) (A:Option Addr) (n c:Nat) (h:w.cell? ⟨a,0,none⟩=some (.slice A n c)) (_hn:n≤140737488355328) :
 Calls Tryz.prog 42 #[.pointer (some ⟨a,0,none⟩)] w fun e w'=>e=.returned (.int .i64 ((n:Int) / 256))∧w=w':=by
 go_enter Tryz.func42,Tryz.ntmps42
 go_wp2
 go_ret
 exact ⟨rfl,rfl⟩
end
section
open Go.RowKit
theorem lK:(Tryz.prog.info? 5).map (·.size)=some 1:=by kernel_rfl
def hasB (n:Nat) (k:Int):Prop:=0≤k∧k<(n:Int) / 256
theorem UY (w:World) (a g off n c k:Nat) (h:w.cell? ⟨a,0,none⟩=some (.slice (some ⟨g,off,none⟩) n c)) (hc:n≤c) (hn:n≤140737488355328) (hk:k*256+256≤n) :
 Calls Tryz.prog 149 #[.pointer (some ⟨a,0,none⟩),.int .i64 k] w fun e w'=>e=.returned (.tuple #[.slice (some ⟨g,off+k*256,none⟩) 256 256,.int .i64 0])∧w=w':=by
 have IX:=qh (fun w' (h:w'.cell? ⟨a,0,none⟩=some (.slice (some ⟨g,off,none⟩) n c))=>CR w' a _ n c h hn)
 have h1:¬ (n:Int) / 256≤(k:Int):=by omega
 have hd1:decide ((n:Int) / 256≤(k:Int))=false:=by simp;omega
 have hb:(n:Int) / 256≤549755813888:=by omega
 have hb0:(0:Int)≤(n:Int) / 256:=by omega
 have hcc:¬ c=k*256:=by omega
 have AD2:(c==k*256)=false:=by simp;omega
 generalize (n:Int) / 256=nb at *
 have e0:((k:Int)*256).toNat=k*256:=by omega
 have e2:(((k:Int)+1)*256).toNat=k*256+256:=by omega
 have e3:k*256+256-k*256=256:=by omega
 go_enter Tryz.func149,Tryz.ntmps149
 go_wp2_with (go_at_call 42;refine (IX.out _ h).mono ?_;rintro e w' ⟨rfl,rfl⟩)
 go_ret2
 exact ⟨rfl,rfl⟩
theorem ZO (w:World) (a n c:Nat) (A:Option Addr) (k:Int) (h:w.cell? ⟨a,0,none⟩=some (.slice A n c)) (hn:n≤140737488355328) (hk:¬ hasB n k) :
 Calls Tryz.prog 149 #[.pointer (some ⟨a,0,none⟩),.int .i64 k] w fun e w'=>e=.returned (.tuple #[.slice none 0 0,.int .i64 3])∧w=w':=by
 have IX:=qh (fun w' (h:w'.cell? ⟨a,0,none⟩=some (.slice A n c))=>CR w' a _ n c h hn)
 unfold hasB at hk
 by_cases h0:k<0
 · clear hk
   go_enter Tryz.func149,Tryz.ntmps149
   go_wp2_with (go_at_call 42;refine (IX.out _ h).mono ?_;rintro e w' ⟨rfl,rfl⟩)
   go_ret2
   exact ⟨rfl,rfl⟩
 · have h1:(n:Int) / 256≤k:=by omega
   have hd0:decide (k<0)=false:=by simp;omega
   clear hk
   generalize (n:Int) / 256=nb at *
   go_enter Tryz.func149,Tryz.ntmps149
   go_wp2_with (go_at_call 42;refine (IX.out _ h).mono ?_;rintro e w' ⟨rfl,rfl⟩)
   go_ret2
   exact ⟨rfl,rfl⟩
def IB (bs:List UInt8) (k:Nat):List UInt8:=(bs.drop (k*256)).take 256
theorem RI {bs:List UInt8} {k:Nat} (h:k*256+256≤bs.length):(IB bs k).length=256:=by
 unfold IB
 rw [List.length_take,List.length_drop]
 omega
set_option maxRecDepth 100000 in
theorem sM {w:World} {S:Nat→Prop} {g off c k:Nat} {bs:List UInt8} (h:Cx w S (some ⟨g,off,none⟩) bs) (hc:bs.length≤c) (hk:k*256+256≤bs.length):Cx w S (some ⟨g,off+k*256,none⟩) (IB bs k):=by
 have h0:=h.drop (k:=k*256) (by omega) hc
 rw [if_neg (by omega)] at h0
 have h1:Cx w S _ ((bs.drop (k*256)).take 256):=BX.take h0 256
 have e:Option.map (fun x:Addr=>x.add (k*256*1)) (some ⟨g,off,none⟩)=some ⟨g,off+k*256,none⟩:=by
  simp only [Option.map_some,add_lit,Nat.mul_one]
 rw [e] at h1
 exact h1
theorem YG (w:World) (S:Nat→Prop) (a k:Nat) (bs:List UInt8) (hS:∀ b,S b→b<w.heap.size) (h:Cj w S a bs) (hn:bs.length≤140737488355328) (hk:k*256+256≤bs.length) :
 Calls Tryz.prog 91 #[.pointer (some ⟨a,0,none⟩),.int .i64 k] w fun e w'=>∃ A c,e=.returned (.tuple #[.slice A 256 c,.int .i64 0])∧w'.ownsRow w.heap.size 5 1 (.slice A 256 c) 256 (AB Au (IB bs k))∧Below w.heap.size w w':=by
 obtain ⟨h0,A,c,h1,h2,h3⟩:=h
 obtain ⟨g,off,rfl,_⟩:=BU h3 (by omega)
 have hl:=RI hk
 have hcl:=GG w S (.slice (some ⟨g,off+k*256,none⟩) 256 256) (IB bs k) hS ⟨_,256,by rw [hl],by omega,sM h3 h2 hk⟩ (by omega)
 rw [hl] at hcl
 have GH:=qh hcl
 have IX:=qh (UY w a g off bs.length c k h1 h2 hn hk)
 clear hcl hl h3 h1
 go_enter Tryz.func91,Tryz.ntmps91
 go_wp2_with (first
  | (go_at_call 149;refine IX.out.mono ?_;rintro e w' ⟨rfl,rfl⟩)
  | (go_at_call 18;refine GH.out.mono ?_;rintro e w1 ⟨A1,c1,rfl,hown,hB⟩))
 go_ret2
 exact ⟨A1,c1,rfl,hown,hB⟩
theorem UZ (w:World) (S:Nat→Prop) (a:Nat) (k:Int) (bs:List UInt8) (h:Cj w S a bs) (hn:bs.length≤140737488355328) (hk:¬ hasB bs.length k) :
 Calls Tryz.prog 91 #[.pointer (some ⟨a,0,none⟩),.int .i64 k] w fun e w'=>e=.returned (.tuple #[.slice none 0 0,.int .i64 3])∧Below w.heap.size w w':=by
 obtain ⟨h0,A,c,h1,h2,h3⟩:=h
 have GH:=qh (GG w (fun _=>False) (.slice none 0 0) [] (fun _ h=>h.elim) CF.F4 (by simp))
 have IX:=qh (ZO w a bs.length c A k h1 hn hk)
 clear h3 h1 hk
 go_enter Tryz.func91,Tryz.ntmps91
 go_wp2_with (first
  | (go_at_call 149;refine IX.out.mono ?_;rintro e w' ⟨rfl,rfl⟩)
  | (go_at_call 18;refine (O0 _).mono ?_;rintro e w1 ⟨rfl,rfl⟩))
 go_ret2
 exact ⟨rfl,Below.refl _ _⟩
def Jm (bs:List UInt8) (k:Int) (b:List UInt8):List UInt8:=if (0≤k∧k<(bs.length:Int) / 256)∧b.length=256 then bs.take (k.toNat*256)++b++bs.drop (k.toNat*256+256) else bs
def OG (w w':World) (a:Nat):Prop:=∃ row,(∀ v,w.cell? ⟨a,0,none⟩=some v→v.ownBlock=row)∧w.grownBy w' row∧w'.heap.size=w.heap.size
theorem WG {w:World} {base e g n c:Nat} {xs:List Value} (h:w.ownsRow base e 1 (.slice (some ⟨g,0,none⟩) n c) n xs):∃ cur:Array Value,w.heap[g]? = some (.cells cur e (0,0))∧n≤cur.size∧∀ (off:Nat) (cs:List Value),off+cs.length≤n →
 (w.setRow g (cur.toList.take off++(cs++cur.toList.drop (off+cs.length))).toArray).ownsRow base e 1 (.slice (some ⟨g,0,none⟩) n c) n (xs.take off++(cs++xs.drop (off+cs.length))):=by
 have hl:=h.1
 rcases h.2 with ⟨hv,_⟩|⟨g',cap,cur,hv,hb,hg,hnc,hm,hcs,ht⟩
 · injection hv with e;cases e
 · injection hv with e1 e2 e3
   injection e1 with e1
   injection e1 with e1
   subst e1 e3
   refine ⟨cur,hg,by omega,fun off cs ho=>⟨by simp only [List.length_append,List.length_take,List.length_drop];omega,.inr ⟨g,c,_,rfl,hb,setRow_heap w g cur _ e (0,0) hg,hnc,hm,?_,?_⟩⟩⟩
   · simp only [List.size_toArray,List.length_append,List.length_take,List.length_drop,Array.length_toList];omega
   · have ho':(cur.toList.take off).length=off:=by rw [List.length_take,Array.length_toList];omega
     rw [← ht,Nat.mul_one,List.toList_toArray,List.take_append,List.take_append,ho',List.take_take,List.take_take,List.drop_take,Nat.min_eq_right (by omega),Nat.min_eq_left (show off≤n by omega),List.take_of_length_le (show cs.length≤n-off by omega),Nat.sub_sub]
theorem RJ {w:World} {gb ob:Nat} {b:List UInt8} (h:∀ k,k<b.length→w.cell? ⟨gb,ob+k,none⟩=some (.int .u8 ((nth 0 b k).toNat:Int))):∀ j v,(AB Au b)[j]? = some v→w.cell? ((⟨gb,ob,none⟩:Addr).add j)=some v:=by
 intro j v hj
 have hlt:j<b.length:=by have:=(List.getElem?_eq_some_iff.1 hj).1;rwa [BI] at this
 rw [add_lit,h j hlt,Ac 0 b j hlt]
 rw [Bu,List.getElem?_map,List.getElem?_eq_getElem hlt] at hj
 exact hj
theorem O3 (w:World) (g:Nat) (cs:Array Value):w.grownBy (w.setRow g cs) (some g) :=
 ⟨rfl,rfl,rfl,by simp,fun k _ hne=>setRow_other w g k cs (fun e=>hne (by rw [e]))⟩
end
section
open Go.RowKit
theorem O4 {w:World} {S:Nat→Prop} {b off c a n:Nat} {l:List UInt8} (h:Cx w S (some ⟨b,off,none⟩) l) (hc:l.length≤c) (ha:a+n≤l.length):AX w S (.slice (some ⟨b,off+a,none⟩) n (c-a)) (BN l a n):=by
 have hl:(BN l a n).length=n:=Hd ha
 refine ⟨_,c-a,by rw [hl],by rw [hl];omega,?_⟩
 intro hp
 rw [hl] at hp
 have h0:=h.drop (k:=a) (by omega) hc
 rw [if_neg (by omega)] at h0
 have h1:Cx w S _ ((l.drop a).take n):=BX.take h0 n
 have e:Option.map (fun x:Addr=>x.add (a*1)) (some ⟨b,off,none⟩)=some ⟨b,off+a,none⟩:=by
  simp only [Option.map_some,add_lit,Nat.mul_one]
 rw [e] at h1
 exact h1 (by rw [show ((l.drop a).take n).length=n from hl];exact hp)
theorem RL {l:List UInt8} {a n:Nat} (h:a+n=l.length):BN l a n=l.drop a:=by
 unfold BN
 exact List.take_of_length_le (by rw [List.length_drop];omega)
theorem YH {w:World} {S:Nat→Prop} {b off c a n:Nat} {l:List UInt8} (hS:∀ b,S b→b<w.heap.size) (h:Cx w S (some ⟨b,off,none⟩) l) (hc:l.length≤c) (ha:a+n≤l.length) :
 ∀ w',Below w.heap.size w w'→(convert 22 9 (.slice (some ⟨b,off+a,none⟩) n (c-a))).run Tryz.prog w'=.ok (.string (Am (BN l a n))) w':=fun w' hB=>by
 obtain ⟨A,c',e,hc',hr⟩:=(O4 h hc ha)
 have hl:(BN l a n).length=n:=Hd ha
 have hr2:Cx w' S A (BN l a n):=hr.keep (AA _) (fun _ h=>h) (AL hB hS)
 have:=JI (P:=Tryz.prog) (c:=c') 22 5 Tryz.underlying22 Tryz.underlying5 hr2 9 Tryz.underlying9
 rw [e]
 exact this
end
section
open Go.RowKit
def Qd (w:World) (b:Nat) (p:Pool) (A:Option Addr) (n c:Nat):Prop:=w.heap[b]? = some (.cells #[.int .i64 p.tx,.int .i64 p.time,.int .i64 p.unit,.int .i64 p.data,.slice A n c] 45 (0,0))
theorem Qd.new (w:World) (p:Pool) (A:Option Addr) (n c:Nat):Qd (w.alloc (.cells #[.int .i64 p.tx,.int .i64 p.time,.int .i64 p.unit,.int .i64 p.data,.slice A n c] 45)) w.heap.size p A n c:=heap_alloc_new w _
theorem Qd.below {w w':World} {b:Nat} {p:Pool} {A:Option Addr} {n c k:Nat} (h:Qd w b p A n c) (hb:Below k w w') (hk:b<k):Qd w' b p A n c:=(hb.block b hk).trans h
theorem Qd.cells {w:World} {b:Nat} {p:Pool} {A:Option Addr} {n c:Nat} (h:Qd w b p A n c):w.cell? ⟨b,0,none⟩=some (.int .i64 p.tx)∧w.cell? ⟨b,1,none⟩=some (.int .i64 p.time)∧w.cell? ⟨b,2,none⟩=some (.int .i64 p.unit)∧w.cell? ⟨b,3,none⟩=some (.int .i64 p.data)∧w.cell? ⟨b,4,none⟩=some (.slice A n c):=by
 unfold Qd at h
 simp [World.cell?,h]
theorem cells5 {w:World} {b:Nat} {t:TypeId} {a0 a1 a2 a3 a4:Value} (h:w.heap[b]? = some (.cells #[a0,a1,a2,a3,a4] t (0,0))) :
 w.cell? ⟨b,0,none⟩=some a0∧w.cell? ⟨b,1,none⟩=some a1∧w.cell? ⟨b,2,none⟩=some a2∧w.cell? ⟨b,3,none⟩=some a3∧w.cell? ⟨b,4,none⟩=some a4:=by
 simp [World.cell?,h]
end
section
open Go.RowKit
theorem ZP:(Tryz.prog.info? 137).map (fun i=>(i.zero,i.size,i.bytes))=some (some (.agg #[.int .i64 0,.int .i64 0,.int .i64 0]),3,24):=by kernel_rfl
theorem yU:Elem Tryz.prog 111 137 3 24 Mp.enc:=⟨Tryz.underlying111,⟨_,ZP,rfl⟩,by omega,by omega,Mp.ky,Mp.lC⟩
end
end Go.Proofs.YtpenklpdjpkigaaGreat
