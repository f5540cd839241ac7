/- Part 14 of the proof: WPut, WRead8, WVal1, WVRoot, WVSlot, WCodePut. -/
import Derived.Test.YtpenklpdjpkigaaGreatY13
import Derived.Test.YtpenklpdjpkigaaGreatY2
import Derived.Test.YtpenklpdjpkigaaGreatY6
import Derived.Test.YtpenklpdjpkigaaGreatY5
import Derived.Test.YtpenklpdjpkigaaGreatY1
import Derived.Test.YtpenklpdjpkigaaGreatY3
import Derived.Test.YtpenklpdjpkigaaGreatY4
import Derived.Deep.Cut
import Derived.Deep.DeepCutAuto
import Derived.Laws.CopyOwn
set_option maxHeartbeats 6400000
set_option linter.unusedVariables false
set_option linter.unusedSimpArgs false
namespace Go.Proofs.YtpenklpdjpkigaaGreat
section
open Go.RowKit
attribute [local go_sem] Oper.semAt_some
abbrev fu (w:World) (S:Nat→Prop) (v:Value) (l:List Pt):Prop:=CF (Flat RA) 3 K8 w S v l
theorem Rf {w:World} {S:Nat→Prop} {A:Option Addr} {l:List Pt} (h:BX (Flat RA) 3 K8 w S A l) (hl:0<l.length) :
 ∃ b off,A=some ⟨b,off,none⟩∧S b∧∀ k,k<l.length→w.cell? ⟨b,off+k*3,none⟩=some (.int .i64 ((nth K8 l k).w:Nat))∧w.cell? ⟨b,off+k*3+1,none⟩=some (.int .i64 (nth K8 l k).lo)∧w.cell? ⟨b,off+k*3+2,none⟩=some (.int .i64 (nth K8 l k).hi):=by
 obtain ⟨b,off,e,hb,hc⟩:=h hl
 refine ⟨b,off,e,hb,fun k hk=>?_⟩
 obtain ⟨cs,_,hr,h3⟩:=hc k hk
 obtain rfl:cs=_:=hr
 exact ⟨by simpa using h3 0 _ rfl,h3 1 _ rfl,h3 2 _ rfl⟩
theorem fw (w:World) (g x:Nat) (n:Int) (hx:FX (x,n)) (hg:w.heap[g]? = some (.cells #[.int .i64 (x:Int),.int .i64 n] 249 (0,0))) :
 Calls Tryz.prog 135 #[.slice (some ⟨g,0,none⟩) 1 1] w fun e w'=>(∃ A c,e=.returned (.tuple #[.slice A x c,.int .i64 0])∧w'.ownsRow w.heap.size 5 1 (.slice A x c) x (AB Au (leB x n.toNat)))∧Below w.heap.size w w':=by
 have h:=J6 w (fun b=>b=g) (.slice (some ⟨g,0,none⟩) 1 1) [(x,n)] (fun b hb=>by subst hb;exact (Array.getElem?_eq_some_iff.1 hg).1) (CF.block (enc:=Qa) Il hg (by rfl) rfl (by omega) rfl) (fun f hf=>by simp at hf;subst hf;exact hx) (by simp)
 rw [ZE,CY] at h
 exact h
set_option maxRecDepth 100000 in
theorem Sw (w:World) (S:Nat→Prop) (v vn:Value) (ps:List Pt) (ns:List Int) (hS:∀ b,S b→b<w.heap.size) (h:fu w S v ps) (hn:Aa w S vn ns) (hok:∀ p∈ps,SK p) (hk:ps.length≤1000) (hl:ps.length≤ns.length) :
 Calls Tryz.prog 144 #[v,vn] w fun e w'=>e=.returned (.string (Am (IR ps ns)))∧Below w.heap.size w w':=by
 obtain ⟨A,c,rfl,hc,hr⟩:=h
 obtain ⟨An,cn,rfl,hcn,hrn⟩:=hn
 have HC:Hid (∀ k,k<ps.length→∃ b off,A=some ⟨b,off,none⟩∧b<w.heap.size∧∀ w',Below w.heap.size w w'→w'.cell? ⟨b,off+k*3,none⟩=some (.int .i64 ((nth K8 ps k).w:Nat))∧w'.cell? ⟨b,off+k*3+1,none⟩=some (.int .i64 (nth K8 ps k).lo)∧w'.cell? ⟨b,off+k*3+2,none⟩=some (.int .i64 (nth K8 ps k).hi)):=fun k hk=>by
  obtain ⟨b,off,e,hb,h1⟩:=Rf hr (by omega)
  obtain ⟨a1,a2,a3⟩:=h1 k hk
  exact ⟨b,off,e,hS b hb,fun w' hB=>⟨(hB.cell (p:=⟨b,off+k*3,none⟩) (hS b hb)).trans a1,(hB.cell (p:=⟨b,off+k*3+1,none⟩) (hS b hb)).trans a2,(hB.cell (p:=⟨b,off+k*3+2,none⟩) (hS b hb)).trans a3⟩⟩
 have HCN:Hid (∀ k,k<ps.length→∃ b off,An=some ⟨b,off,none⟩∧b<w.heap.size∧∀ w',Below w.heap.size w w'→w'.cell? ⟨b,off+k,none⟩=some (.int .i64 (nth 0 ns k))):=fun k hk=>by
  obtain ⟨b,off,e,hb,h1⟩:=BR hrn (by omega)
  exact ⟨b,off,e,hS b hb,fun w' hB=>(hB.cell (p:=⟨b,off+k,none⟩) (hS b hb)).trans (h1 k (by omega))⟩
 have WX:=qh (fun k (hk:k<ps.length)=>hok _ (Bv K8 ps k hk))
 have Np:=qh (fun k (hk:k<ps.length) (h:K9 (nth K8 ps k) (nth 0 ns k)=false)=>eD hk h)
 have lT:=qh (fun (h:∀ k,k<ps.length→K9 (nth K8 ps k) (nth 0 ns k)=true)=>ZF h)
 have HPV:Hid (IR ps ns=if JX ps ns=true then BB (JY ps ns ps.length) else []):=rfl
 have ACM:=qh (fun k=>Oe ps ns k)
 clear hr hrn hok
 generalize hnp:ps.length=n at *
 generalize hnn:ns.length=nl at *
 clear hnp hnn
 go_enter Tryz.func144,Tryz.ntmps144
 go_wp2_with fail
 go_loopw [5,12] (fun vo vi wr=>∃ (k L:Nat) (Ao:Option Addr) (co:Nat),vi=.int .i64 k∧vo=.slice Ao L co∧k≤n∧L≤8*k∧Hid (L=(BB (JY ps ns k)).length)∧Hid (∀ j,j<k→K9 (nth K8 ps j) (nth 0 ns j)=true)∧Hid (wr.ownsRow w.heap.size 5 1 (.slice Ao L co) L (AB Au (BB (JY ps ns k))))∧Hid (Below w.heap.size w wr)) (fun _ vi _=>n-(intOf vi).toNat)
 case atStart=>exact ⟨0,0,none,0,rfl,rfl,by omega,by omega,rfl,fun j hj=>by omega,World.ownsRow_nil w w.heap.size 5 1,Below.refl _ _⟩
 case round =>
  obtain ⟨k,L,Ao,co,rfl,rfl,hk0,hL8,HL,HJ,HR,HB⟩:=hrel
  by_cases hlt:k<n
  · obtain ⟨b,off,rfl,hbw,hq⟩:=HC.out k hlt
    obtain ⟨bn,offn,rfl,hbn,hqn⟩:=HCN.out k hlt
    have hpo:=WX.out k hlt
    have hno:=Np.out k hlt
    have tX:=ACM.out k
    have HJS:Hid (K9 (nth K8 ps k) (nth 0 ns k)=true→∀ j,j<k+1→K9 (nth K8 ps j) (nth 0 ns j)=true):=fun h j hj=>by
     rcases Nat.lt_or_ge j k with h1|h1
     · exact HJ.out j h1
     · obtain rfl:j=k:=by omega
       exact h
    obtain ⟨q0,q1,q2⟩:=hq wr HB.out
    generalize nth K8 ps k=p at *
    obtain ⟨x,lo,hi⟩:=p
    generalize nth 0 ns k=y at *
    dsimp only at q0 q1 q2 tX
    obtain ⟨hW,hlo,hhi,hfit⟩:=hpo
    dsimp only at hW hlo hhi hfit
    have hz:=HB.out.size
    have xc:x≤8∧0<x:=by rcases hW with h|h|h|h <;> omega
    have hbr:b<wr.heap.size:=by omega
    have tY:bn<wr.heap.size:=by omega
    have HQN:=qh hqn
    have h2:=heap_alloc_new wr (.cells #[.int .i64 (x:Int),.int .i64 lo,.int .i64 hi] 260)
    have J2:Hid (K9 ⟨x,lo,hi⟩ y=(decide (lo≤y) && decide (y≤hi))):=rfl
    have zD:=qh hno
    have gD:=qh tX
    clear hqn hq hno tX
    go_upto_region 5 with fail
    have hB2:=HB.out.alloc hz (.cells #[.int .i64 (x:Int),.int .i64 lo,.int .i64 hi] 260)
    have hr2:=HR.out.alloc (.cells #[.int .i64 (x:Int),.int .i64 lo,.int .i64 hi] 260)
    have hg2:wr.heap.size<(wr.alloc (.cells #[.int .i64 (x:Int),.int .i64 lo,.int .i64 hi] 260)).heap.size:=by simp
    generalize wr.alloc (.cells #[.int .i64 (x:Int),.int .i64 lo,.int .i64 hi] 260)=w2 at *
    generalize wr.heap.size=g2 at *
    have y0:w2.cell? ⟨g2,0,none⟩=some (.int .i64 (x:Int)):=(cell_of_row _ _ 0 _ _ (0,0) h2).trans rfl
    have y1:w2.cell? ⟨g2,1,none⟩=some (.int .i64 lo):=(cell_of_row _ _ 1 _ _ (0,0) h2).trans rfl
    have y2:w2.cell? ⟨g2,2,none⟩=some (.int .i64 hi):=(cell_of_row _ _ 2 _ _ (0,0) h2).trans rfl
    have qn:=HQN.out w2 hB2
    have HB2:=qh hB2
    have HR2:=qh hr2
    clear hB2 hr2 HB HR q0 q1 q2 h2
    by_cases g1:y<lo
    · as_aux_lemma =>
      have d1:decide (y<lo)=true:=decide_eq_true g1
      have HE:Hid (IR ps ns=[]):=by
       show _=_
       rw [HPV.out,zD.out (by rw [J2.out,decide_eq_false (by omega)];rfl)];rfl
      go_quiet (fail)
      go_wp2_with fail
      go_ret
      exact ⟨by rw [HE.out];rfl,Ay HB2.out _⟩
    · by_cases g2':hi<y
      · as_aux_lemma =>
        have d1:decide (y<lo)=false:=decide_eq_false g1
        have d2:decide (hi<y)=true:=decide_eq_true g2'
        have HE:Hid (IR ps ns=[]):=by
         show _=_
         rw [HPV.out,zD.out (by rw [J2.out,decide_eq_false (show ¬ y≤hi by omega),Bool.and_false])];rfl
        go_quiet (fail)
        go_wp2_with fail
        go_ret
        exact ⟨by rw [HE.out];rfl,Ay HB2.out _⟩
      · have d1:decide (y<lo)=false:=decide_eq_false g1
        have d2:decide (hi<y)=false:=decide_eq_false g2'
        have HJ2:=qh (HJS.out (by rw [J2.out,decide_eq_true (show lo≤y by omega),decide_eq_true (show y≤hi by omega)];rfl))
        obtain ⟨m,rfl⟩:∃ m:Nat,y=m:=⟨y.toNat,by omega⟩
        have hfo:FX (x,(m:Int)):=⟨hW,by omega,by omega,by rcases hfit with h|h;exact .inl h;exact .inr (by dsimp only;omega)⟩
        have Wl:=qh (fun w' g hg=>fw w' g x m hfo hg)
        simp only [Int.toNat_natCast] at Wl
        go_quiet (fail)
        go_upto_region 7 with fail
        have HB3:=qh (Ay HB2.out nq)
        have HR3:=qh (own_below HR2.out (Ay (Below.refl w2.heap.size w2) nq) (Nat.le_refl _))
        have y0:(w2.drewN nq).cell? ⟨g2,0,none⟩=some (.int .i64 (x:Int)):=y0
        have hg2:g2<(w2.drewN nq).heap.size:=hg2
        have tY:bn<(w2.drewN nq).heap.size:=by have:=HB3.out.size;omega
        have qn:=HQN.out _ HB3.out
        have hkl:k<nl:=by omega
        clear HB2 HR2 y1 y2 g1 g2' d1 d2
        generalize w2.drewN nq=w3 at *
        refine AF (T:=fun _=>false) (S:=fun w'=>Below w3.heap.size w3 w') (by kernel_rfl) (Below.refl w3.heap.size w3).drew (fun hHeld=>?_)
        have Zu:Below w3.heap.size w3 w3.drew:=(Below.refl w3.heap.size w3).drew
        refine qs 0 34 hHeld ?_
        refine qf 1 35 rfl rfl hHeld (by intro w hSw;have y0:=AQ hSw hg2 y0;have qn:=AQ hSw tY qn;go_simp;(try with_reducible rfl)) ?_
        refine qs 2 36 hHeld ?_
        refine qs 3 37 hHeld ?_
        refine qs 4 38 hHeld ?_
        refine qf 5 39 rfl rfl hHeld (by intro w hSw;have y0:=AQ hSw hg2 y0;have qn:=AQ hSw tY qn;go_simp;(try with_reducible rfl)) ?_
        refine qs 6 40 hHeld ?_
        obtain ⟨w5,Zj⟩:∃ wzz,w3.drew.alloc (.cells #[.int .i64 (x:Int),.int .i64 (m:Int)] 249)=wzz:=⟨_,rfl⟩
        have Nt:Below w3.drew.heap.size w3.drew w5:=by rw [← Zj];exact (Below.refl _ _).alloc (Nat.le_refl _) _
        have Zu:=Zu.trans (Nt.mono Zu.size)
        refine qo 7 fun K hK=>?_
        go_simp
        (try rw [Zj])
        have h5:w5.heap[w3.heap.size]? = some (.cells #[.int .i64 (x:Int),.int .i64 (m:Int)] 249 (0,0)):=by rw [← Zj];exact heap_alloc_new w3.drew _
        have Qo:=qh (own_below HR3.out Zu (Nat.le_refl _))
        refine hK.out _ _ (fun _=>(Below.refl w3.heap.size w3).drew.trans (Nt.mono (Below.refl w3.heap.size w3).drew.size)) (fun _=>?_)
        clear hK K hHeld
        (try simp only [Act.put,qS,qZ,qU])
        refine Di (S':=fun w'=>Below w5.heap.size w5 w') (fun _ h=>((Below.refl w3.heap.size w3).drew.trans (Nt.mono (Below.refl w3.heap.size w3).drew.size)).trans (h.mono (Zu.size))) _ _ _ _ ?_
        have hHeld:(fun w'=>Below w5.heap.size w5 w') w5:=Below.refl _ _
        refine qo 8 fun K hK=>?_
        go_simp
        refine (Wl.out w5 w3.heap.size h5).mono ?_
        rintro e w6 ⟨⟨A6,c6,rfl,hown6⟩,EG⟩
        have Zu:=Zu.trans (EG.mono Zu.size)
        have HR6:=qh (own_below Qo.out EG (Nat.le_refl _))
        have PM:=qh hown6
        clear hown6
        refine hK.out _ _ (fun _=>EG) (fun _=>?_)
        clear hK K hHeld
        (try simp only [Act.put,qS,qZ,qU])
        refine Di (S':=fun w'=>Below w6.heap.size w6 w') (fun _ h=>EG.trans (h.mono EG.size)) _ _ _ _ ?_
        have hHeld:(fun w'=>Below w6.heap.size w6 w') w6:=Below.refl _ _
        refine qs 9 33 hHeld ?_
        refine qs 10 43 hHeld ?_
        refine qs 11 44 hHeld ?_
        refine qs 12 8 hHeld ?_
        refine qs 13 9 hHeld ?_
        refine qd ?_
        obtain ⟨g6,rfl,OJ,hc6,hsrc⟩:=CG PM.out xc.2
        have Ga:=qh hsrc
        have Dz:=qh (HB3.out.trans (Zu.mono HB3.out.size))
        have zF:w.heap.size≤w6.heap.size:=Dz.out.size
        have Uv:=qh (CY x m)
        clear hsrc Zu EG PM hHeld h5 Nt
        go_wp2_with (at_builtin;go_loud (refine CK Tryz.underlying22 KQ rfl (by omega) (by omega) rfl _ _ rfl w.heap.size (.slice Ao L co) L _ rfl HR6.out ⟨g6,0,none⟩ x c6 (AB Au (leB x m)) rfl (by rw [BI,Uv.out];omega) Ga.out (Dr _) (by omega) zF ?_);intro A7 Wm w7 Ku G8;have Zv:=qh Ku;have gF:=qh G8;clear Ku G8)
        go_roundw
        case rel =>
         refine ⟨k+1,L+x,A7,Wm,by go_num,rfl,by omega,by omega,?_,HJ2,?_,Dz.out.grown gF.out zF (fun i hi=>(HR6.out.lt i hi).1)⟩
         · show _=_
           rw [gD.out,Og,List.length_append,← HL.out,Int.toNat_natCast,Uv.out]
         · show World.ownsRow _ _ _ _ _ _ _
           rw [gD.out,Og,Int.toNat_natCast,Ba]
           exact Zv.out
        case measure=>simp [intOf];omega
  · have hkn:k=n:=by omega
    subst hkn
    have HE:Hid (IR ps ns=BB (JY ps ns k)):=by
     show _=_
     rw [HPV.out,if_pos (lT.out HJ.out)]
    have lc:Hid ((convert 22 9 (.slice Ao L co)).run Tryz.prog wr=.ok (.string (Am (BB (JY ps ns k)))) wr):=by
     obtain ⟨A',c',e,hc',hr'⟩:=CF.own (enc:=Au) (d:=(0:UInt8)) D8 HR.out (by omega)
     rw [e]
     exact JI (P:=Tryz.prog) (c:=c') 22 5 Tryz.underlying22 Tryz.underlying5 hr' 9 Tryz.underlying9
    have hcv:=lc.out
    go_wp2_with fail
    go_ret
    exact ⟨by rw [HE.out];rfl,HB.out⟩
end
section
open Go.RowKit
attribute [local go_sem] Oper.semAt_some
theorem Zw:(Tryz.prog.info? 3).map (fun i=>(i.zero,i.size,i.bytes))=some (some (.int .i64 0),1,8):=by kernel_rfl
def KT (w:World) (ps:List Pt) (s:List UInt8) (e:Ending) (w':World):Prop:=∃ v,e=.returned (.tuple #[v,.int .i64 (FO ps s).2])∧Aa w' (C9 w.heap.size w'.heap.size) v (FO ps s).1
theorem Mt (n:Nat):(madeCells (Value.int .i64 0).cells (n*1)).toList=AB encI (List.replicate n 0):=by
 rw [CU,List.map_replicate,Nat.mul_one]
 exact toList_madeCells_one _ n
theorem KT.zeros {w w1:World} {ps:List Pt} {s:List UInt8} {E:Int} {n:Nat} {v:Value} (h:FO ps s=(List.replicate n 0,E)) (hown:w1.ownsRow w.heap.size 3 1 v n (AB encI (List.replicate n 0))):KT w ps s (.returned (.tuple #[v,.int .i64 E])) w1:=by
 refine ⟨_,by rw [h],?_⟩
 rw [h]
 exact CF.own (enc:=encI) (d:=(0:Int)) Bh hown (by omega)
theorem PN (l:List UInt8):(Am l).toList.isEmpty=l.isEmpty:=by unfold Am;rw [ByteArray.toList_mk]
theorem Gb (ps:List Pt):(CV ps).length=ps.length:=List.length_map ..
theorem gG (ps:List Pt) (k:Nat) (h:k<ps.length):nth 0 (CV ps) k=(nth K8 ps k).w:=by
 rw [Ac 0 _ k (by rw [Gb];exact h),Ac K8 ps k h];simp [CV]
theorem Wn (ws:List Nat) (k:Nat) (h:k<ws.length):Hm (ws.take (k+1))=Hm (ws.take k)++[((nth 0 ws k:Nat):Int)]:=by
 rw [DV 0 ws k h];simp [Hm]
set_option maxRecDepth 100000 in
theorem Zx (w:World) (S:Nat→Prop) (v:Value) (ps:List Pt) (s:List UInt8) (hS:∀ b,S b→b<w.heap.size) (h:fu w S v ps) (hok:∀ p∈ps,SK p) (hk:ps.length≤1000) (hl:s.length≤140737488355328) :
 Calls Tryz.prog 82 #[v,.string (Am s)] w fun e w'=>KT w ps s e w'∧Below w.heap.size w w':=by
 have h0:=h
 obtain ⟨A,c,rfl,hc,hr⟩:=h
 have HC:Hid (∀ k,k<ps.length→∃ b off,A=some ⟨b,off,none⟩∧b<w.heap.size∧∀ w',Below w.heap.size w w'→w'.cell? ⟨b,off+k*3,none⟩=some (.int .i64 ((nth 0 (CV ps) k:Nat):Int))∧w'.cell? ⟨b,off+k*3+1,none⟩=some (.int .i64 (nth K8 ps k).lo)∧w'.cell? ⟨b,off+k*3+2,none⟩=some (.int .i64 (nth K8 ps k).hi)):=fun k hk=>by
  obtain ⟨b,off,e,hb,h1⟩:=Rf hr (by omega)
  obtain ⟨a1,a2,a3⟩:=h1 k hk
  rw [gG ps k hk]
  exact ⟨b,off,e,hS b hb,fun w' hB=>⟨(hB.cell (p:=⟨b,off+k*3,none⟩) (hS b hb)).trans a1,(hB.cell (p:=⟨b,off+k*3+1,none⟩) (hS b hb)).trans a2,(hB.cell (p:=⟨b,off+k*3+2,none⟩) (hS b hb)).trans a3⟩⟩
 have hW8:∀ x∈CV ps,Lh x:=fun x hx=>by
  obtain ⟨p,hp,rfl⟩:=List.mem_map.1 hx
  exact (hok p hp).1
 have kL:Hid (∀ k,k<ps.length→nth 0 (CV ps) k≤8):=fun k hk=>by
  have:=hW8 _ (Bv 0 (CV ps) k (by rw [Gb];exact hk))
  rcases this with h|h|h|h <;> omega
 have HIT:=qh (fun k (hk:k<ps.length)=>Wn (CV ps) k (by rw [Gb];exact hk))
 have HST:=qh (fun k (hk:k<ps.length)=>F8 (CV ps) k (by rw [Gb];exact hk))
 have fq:Hid ((CV ps).take ps.length=CV ps):=List.take_of_length_le (by rw [Gb];omega)
 have Uw:=qh (fun w' (hB:Below w.heap.size w w') vn ns (hn:Aa w' (fun b=>b<w'.heap.size) vn ns) (hl:ps.length≤ns.length)=>Sw w' (fun b=>b<w'.heap.size) (.slice A ps.length c) vn ps ns (fun _ h=>h) (h0.keep (AA _) (fun b hb=>Nat.lt_of_lt_of_le (hS b hb) hB.size) (AL hB hS)) hn hok hk hl)
 have HUL:Hid ((EA s 0 (CV ps)).length=ps.length):=by show _=_;rw [Ik,Gb]
 have kM:Hid (FO ps s=if s.length≠Ct (CV ps) then (List.replicate ps.length 0,7) else if FR s 0 (CV ps)=true∨IR ps (EA s 0 (CV ps))=[] then (List.replicate ps.length 0,2) else (EA s 0 (CV ps),0)):=rfl
 have HWL:=qh (Gb ps)
 have ACN:=qh (fun w' vb vw (hb:AX w' (fun b=>b<w'.heap.size) vb s) (hw:Aa w' (fun b=>b<w'.heap.size) vw (Hm (CV ps))) (hs:Ct (CV ps)≤s.length)=>O7 w' (fun b=>b<w'.heap.size) vb vw s (CV ps) (fun _ h=>h) hb hw hW8 hs hl (by rw [Gb];omega))
 have hsz:=ER s
 obtain ⟨i0,hi,hz0,hz1,hz2⟩:=info_parts Zw
 clear hr hok hW8 h0
 generalize hnp:ps.length=n at *
 have HNP:=qh hnp
 generalize hns:s.length=m at *
 have zG:=qh hns
 clear hnp hns
 go_enter Tryz.func82,Tryz.ntmps82
 go_wp2_with fail
 go_loopw [6,7,14] (fun vo va vi wr=>∃ (k a:Nat) (Ao:Option Addr) (co:Nat),vi=.int .i64 k∧va=.int .i64 a∧vo=.slice Ao k co∧k≤n∧a≤8*k∧Hid (a=Ct ((CV ps).take k))∧Hid (wr.ownsRow w.heap.size 3 1 (.slice Ao k co) k (AB encI (Hm ((CV ps).take k))))∧Hid (Below w.heap.size w wr)) (fun _ _ vi _=>n-(intOf vi).toNat)
 case atStart=>exact ⟨0,0,none,0,rfl,rfl,rfl,by omega,by omega,rfl,World.ownsRow_nil w w.heap.size 3 1,Below.refl _ _⟩
 case round =>
  obtain ⟨k,a,Ao,co,rfl,rfl,rfl,hk0,ha8,HA,HR,HB⟩:=hrel
  by_cases hlt:k<n
  · obtain ⟨b,off,rfl,hbw,hq⟩:=HC.out k hlt
    have hit:=HIT.out k hlt
    have hst:=HST.out k hlt
    have hw8:=kL.out k hlt
    obtain ⟨q0,q1,q2⟩:=hq wr HB.out
    generalize nth 0 (CV ps) k=x at *
    generalize (nth K8 ps k).lo=lo at *
    generalize (nth K8 ps k).hi=hi' at *
    have ACO:=qh hit
    have I5:=qh hst
    have hz:=HB.out.size
    have h2:=heap_alloc_new wr (.cells #[.int .i64 (x:Int),.int .i64 lo,.int .i64 hi'] 260)
    clear hq hit hst
    go_upto_region 6 with fail
    have hB2:=HB.out.alloc hz (.cells #[.int .i64 (x:Int),.int .i64 lo,.int .i64 hi'] 260)
    have hr2:=HR.out.alloc (.cells #[.int .i64 (x:Int),.int .i64 lo,.int .i64 hi'] 260)
    have hg2:wr.heap.size<(wr.alloc (.cells #[.int .i64 (x:Int),.int .i64 lo,.int .i64 hi'] 260)).heap.size:=by simp
    generalize wr.alloc (.cells #[.int .i64 (x:Int),.int .i64 lo,.int .i64 hi'] 260)=w2 at *
    generalize wr.heap.size=g2 at *
    have y0:w2.cell? ⟨g2,0,none⟩=some (.int .i64 (x:Int)):=(cell_of_row _ _ 0 _ _ (0,0) h2).trans rfl
    have zH:w.heap.size≤w2.heap.size:=hB2.size
    have HB2:=qh hB2
    have HR2:=qh hr2
    have H2:=qh h2
    clear hB2 hr2 HB HR q0 q1 q2 h2
    go_wp2_with (at_builtin;go_loud (refine Cw Ir rfl _ _ rfl w.heap.size (.slice Ao k co) k (Hm ((CV ps).take k)) (x:Int) rfl HR2.out rfl (by omega) zH ?_);intro A6 cap6 w6 hown hg;have y6:w6.cell? ⟨g2,0,none⟩=some (.int .i64 (x:Int)):=(World.cell?_of_block (a:=⟨g2,0,none⟩) (hg.block g2 hg2 (BC HR2.out H2.out (by decide)))).trans y0;have PM:=qh hown;have xe:=qh hg;clear hown hg)
    go_roundw
    case rel =>
     refine ⟨k+1,a+x,A6,cap6,by go_num,by go_num,rfl,by omega,by omega,?_,?_,HB2.out.grown xe.out zH (fun i hi=>(HR2.out.lt i hi).1)⟩
     · show _=_
       rw [I5.out,← HA.out]
     · show World.ownsRow _ _ _ _ _ _ _
       rw [ACO.out]
       exact PM.out
    case measure=>simp [intOf];omega
  · obtain rfl:k=n:=by omega
    rw [fq.out] at HA HR
    by_cases hs:m=a
    · have hcap:m≤grownCap wr m 0 5:=grownCap_ge wr m 0 5
      have hcv:=Sa wr s
      have hbk:=IE wr s
      have hBb:=bytesWorld_below wr s
      rw [zG.out] at hcv
      generalize Lib.bytesWorld wr 5 (Am s)=wB at *
      generalize grownCap wr m 0 5=cc at *
      have hun:=ACN.out wB (.slice (some ⟨wr.heap.size,0,none⟩) m cc) (.slice Ao k co) (by
       have:=hbk.isl (S:=fun b=>b<wB.heap.size) (c:=cc) hbk.lt (by rw [zG.out];exact hcap)
       rw [zG.out] at this
       exact this) ((CF.own (enc:=encI) (d:=(0:Int)) Bh (own_below HR.out hBb (Nat.le_refl _)) (by omega)).sub (AA _) (fun b hb=>hb.2)) (by rw [← HA.out,hs];exact Nat.le_refl _)
      have HUN:=qh hun
      have IG:=qh (HB.out.trans (hBb.mono HB.out.size))
      have l8:Hid (FO ps s=if FR s 0 (CV ps)=true∨IR ps (EA s 0 (CV ps))=[] then (List.replicate k 0,2) else (EA s 0 (CV ps),0)):=by
       show _=_
       rw [kM.out,if_neg (by rw [← HA.out];omega)]
      have d1:((m:Int) != (a:Int))=false:=by rw [bne_eq_false_iff_eq];omega
      clear hun hbk hBb hs
      cases hbig:FR s 0 (CV ps) with
      | true =>
       have HE:Hid (FO ps s=(List.replicate k 0,2)):=by
        show _=_
        rw [l8.out,if_pos (.inl hbig)]
       have HUU:Hid (∀ e w',Iy wB s (CV ps) e w'→e=.returned (.tuple #[.slice none 0 0,.int .i64 2])):=fun e w' h=>by
        unfold Iy at h
        rwa [if_pos hbig] at h
       clear hbig
       go_wp2_with (first
        | (go_at_call 143;refine HUN.out.mono ?_;rintro e w3 ⟨hu,hB3⟩;obtain rfl:=HUU.out _ _ hu;have HB3:=qh (IG.out.trans (hB3.mono IG.out.size));clear hB3 hu)
        | (at_make;go_loud (refine wpList_make_full _ rfl _ _ 29 rfl w.heap.size 3 i0 (.int .i64 0) 1 Tryz.underlying29 hi hz0 hz1 _ _ _ _ k rfl rfl rfl rfl (by rw [hz2];omega) (by unfold maxLen;omega) HB3.out.size ?_);intro w1 hown hg;rw [Mt] at hown;have HO:=qh hown;have Ux:=qh hg;clear hown hg))
       go_ret2
       exact ⟨KT.zeros HE.out HO.out,HB3.out.grown Ux.out HB3.out.size (fun i hi=>by cases hi)⟩
      | false =>
       have HUU:Hid (∀ e w',Iy wB s (CV ps) e w'→∃ v,e=.returned (.tuple #[v,.int .i64 0])∧Aa w' (C9 wB.heap.size w'.heap.size) v (EA s 0 (CV ps))):=fun e w' h=>by
        unfold Iy at h
        rwa [if_neg (by rw [hbig];simp)] at h
       rw [hbig] at l8
       clear hbig
       by_cases hp:IR ps (EA s 0 (CV ps))=[]
       · have HE:Hid (FO ps s=(List.replicate k 0,2)):=by
           show _=_
           rw [l8.out,if_pos (.inr hp)]
         go_upto_region 12 with (go_at_call 143;refine HUN.out.mono ?_;rintro e w3 ⟨hu,hB3⟩;obtain ⟨v3,rfl,A3,c3,rfl,hc3,hr3⟩:=HUU.out _ _ hu;have HB3:=qh (IG.out.trans (hB3.mono IG.out.size));have Wd:=qh (Uw.out w3 HB3.out _ _ ⟨A3,c3,rfl,hc3,hr3.keep (AA _) (fun b hb=>hb.2) CS.refl⟩ (by rw [HUL.out];exact Nat.le_refl _));clear hB3 hu hr3)
         rw [hp] at Wd
         have e1:(Am []).toList.isEmpty=true:=by rw [PN];rfl
         clear hp
         go_wp2_with (first
          | (go_at_call 144;refine Wd.out.mono ?_;rintro e w4 ⟨rfl,hB4⟩;have CL:=qh (HB3.out.trans (hB4.mono HB3.out.size));clear hB4)
          | (at_make;go_loud (refine wpList_make_full _ rfl _ _ 29 rfl w.heap.size 3 i0 (.int .i64 0) 1 Tryz.underlying29 hi hz0 hz1 _ _ _ _ k rfl rfl rfl rfl (by rw [hz2];omega) (by unfold maxLen;omega) CL.out.size ?_);intro w1 hown hg;rw [Mt] at hown;have HO:=qh hown;have Ux:=qh hg;clear hown hg))
         go_ret2
         exact ⟨KT.zeros HE.out HO.out,CL.out.grown Ux.out CL.out.size (fun i hi=>by cases hi)⟩
       · have HE:Hid (FO ps s=(EA s 0 (CV ps),0)):=by
           show _=_
           rw [l8.out,if_neg (by simp [hp])]
         go_upto_region 12 with (go_at_call 143;refine HUN.out.mono ?_;rintro e w3 ⟨hu,hB3⟩;obtain ⟨v3,rfl,hi3⟩:=HUU.out _ _ hu;obtain ⟨A3,c3,rfl,hc3,hr3⟩:=hi3;have HI3:Hid (Aa w3 (C9 wB.heap.size w3.heap.size) (.slice A3 (EA s 0 (CV ps)).length c3) (EA s 0 (CV ps))):=⟨A3,c3,rfl,hc3,hr3⟩;have HB3:=qh (IG.out.trans (hB3.mono IG.out.size));have Wd:=qh (Uw.out w3 HB3.out _ _ ⟨A3,c3,rfl,hc3,hr3.keep (AA _) (fun b hb=>hb.2) CS.refl⟩ (by rw [HUL.out];exact Nat.le_refl _));clear hB3 hu hr3)
         have e1:(Am (IR ps (EA s 0 (CV ps)))).toList.isEmpty=false:=by rw [PN,List.isEmpty_eq_false_iff];exact hp
         generalize IR ps (EA s 0 (CV ps))=pv at *
         clear hp
         go_wp2_with (go_at_call 144;refine Wd.out.mono ?_;rintro e w4 ⟨rfl,hB4⟩;have CL:=qh (HB3.out.trans (hB4.mono HB3.out.size));have HI4:=qh (HI3.out.keep (S':=C9 w.heap.size w4.heap.size) (AA _) (fun b hb=>⟨by have:=hb.1;have:=IG.out.size;omega,by have:=hb.2;have:=hB4.size;omega⟩) (AL hB4 (fun b hb=>hb.2)));clear hB4)
         go_ret2
         exact ⟨⟨_,by rw [HE.out];rfl,by rw [HE.out];exact HI4.out⟩,CL.out⟩
    · have HE:Hid (FO ps s=(List.replicate k 0,7)):=by
        show _=_
        rw [kM.out,if_pos (by rw [← HA.out];exact hs)]
      have d1:((m:Int) != (a:Int))=true:=by rw [bne_iff_ne];omega
      clear hs
      go_wp2_with (at_make;go_loud (refine wpList_make_full _ rfl _ _ 29 rfl w.heap.size 3 i0 (.int .i64 0) 1 Tryz.underlying29 hi hz0 hz1 _ _ _ _ k rfl rfl rfl rfl (by rw [hz2];omega) (by unfold maxLen;omega) HB.out.size ?_);intro w1 hown hg;rw [Mt] at hown;have HO:=qh hown;have Ux:=qh hg;clear hown hg)
      go_ret2
      exact ⟨KT.zeros HE.out HO.out,HB.out.grown Ux.out HB.out.size (fun i hi=>by cases hi)⟩
end
section
open Go.RowKit
attribute [local go_sem] Oper.semAt_some
theorem Mv {w:World} {g n:Nat} {cs:Array Value} {ps:List Pt} (S:Nat→Prop) (hS:S g) (hg:w.heap[g]? = some (.cells cs 260 (0,0))) (hcs:cs.toList=AB RA ps) (hn:n=ps.length):fu w S (.slice (some ⟨g,0,none⟩) n n) ps :=
 CF.block (enc:=RA) ZC hg hcs hn (Nat.le_refl _) hS
theorem Mw (w:World) (cs:Array Value) (ps:List Pt) (s:List UInt8) (n:Nat) (hn:n=ps.length) (hcs:cs.toList=AB RA ps) (hok:∀ p∈ps,SK p) (hk:ps.length≤1000) (hl:s.length≤140737488355328) :
 Calls Tryz.prog 82 #[.slice (some ⟨w.heap.size,0,none⟩) n n,.string (Am s)] (w.alloc (.cells cs 260)) fun e w'=>(∃ A c,e=.returned (.tuple #[.slice A (FO ps s).1.length c,.int .i64 (FO ps s).2])∧(0<(FO ps s).1.length→∃ b off,A=some ⟨b,off,none⟩∧w.heap.size<b∧b<w'.heap.size∧∀ k,k<(FO ps s).1.length→w'.cell? ⟨b,off+k,none⟩=some (.int .i64 (nth 0 (FO ps s).1 k))))∧Below w.heap.size w w':=by
 refine (Zx (w.alloc (.cells cs 260)) (fun b=>b=w.heap.size) _ ps s (fun b hb=>by subst hb;simp) (Mv _ rfl (heap_alloc_new w _) hcs hn) hok hk hl).mono ?_
 rintro e w' ⟨⟨v,rfl,A,c,rfl,hc,hr⟩,hB⟩
 refine ⟨⟨A,c,rfl,fun h=>?_⟩,((Below.refl w.heap.size w).alloc (Nat.le_refl _) _).trans (hB.mono (by simp))⟩
 obtain ⟨b,off,e,hb,h1⟩:=BR hr h
 exact ⟨b,off,e,by have:=hb.1;simp at this;omega,hb.2,h1⟩
theorem PO (w:World):Calls Tryz.prog 83 #[] w fun e w'=>e=.returned (.slice (some ⟨w.heap.size,0,none⟩) 1 1)∧w'=w.alloc (.cells #[.int .i64 4,.int .i64 1,.int .i64 14399] 260):=by
 go_enter Tryz.func83,Tryz.ntmps83
 go_wp2
 go_ret
 exact ⟨rfl,rfl⟩
theorem Zy (w:World):Calls Tryz.prog 202 #[] w fun e w'=>e=.returned (.slice (some ⟨w.heap.size,0,none⟩) 1 1)∧w'=w.alloc (.cells #[.int .i64 8,.int .i64 0,.int .i64 1099511627775] 260):=by
 go_enter Tryz.func202,Tryz.ntmps202
 go_wp2
 go_ret
 exact ⟨rfl,rfl⟩
theorem Sy (w:World):Calls Tryz.prog 87 #[] w fun e w'=>e=.returned (.slice (some ⟨w.heap.size,0,none⟩) 4 4)∧w'=w.alloc (.cells #[.int .i64 8,.int .i64 0,.int .i64 16384,.int .i64 8,.int .i64 0,.int .i64 2147483647,.int .i64 4,.int .i64 0,.int .i64 16777215,.int .i64 4,.int .i64 0,.int .i64 16777215] 260):=by
 go_enter Tryz.func87,Tryz.ntmps87
 go_wp2
 go_ret
 exact ⟨rfl,rfl⟩
theorem MB (w:World) (s:List UInt8) (hl:s.length≤140737488355328) :
 Calls Tryz.prog 44 #[.string (Am s)] w fun e w'=>e=.returned (.tuple #[.int .i64 (Aj s).1,.int .i64 (Aj s).2])∧Below w.heap.size w w':=by
 have h:=Mw w #[.int .i64 4,.int .i64 1,.int .i64 14399] IV s 1 rfl (by rfl) Mk (by decide) hl
 rw [V9] at h
 have H:=qh h
 have HP:=qh (PO w)
 clear h
 obtain ⟨n,e0⟩:∃ n,(Aj s).1=n:=⟨_,rfl⟩
 obtain ⟨E,e1⟩:∃ E,(Aj s).2=E:=⟨_,rfl⟩
 rw [e0,e1] at H
 rw [e0,e1]
 clear e0 e1
 go_enter Tryz.func44,Tryz.ntmps44
 go_wp2_with (first
  | (go_at_call 83;refine HP.out.mono ?_;rintro e w1 ⟨rfl,rfl⟩)
  | (go_at_call 82;refine H.out.mono ?_;rintro e w2 ⟨⟨A,c,rfl,hc⟩,hB⟩;obtain ⟨b,off,rfl,_,hb,h1⟩:=hc (by simp);have q0:w2.cell? ⟨b,off,none⟩=some (.int .i64 n):=h1 0 (by simp);clear hc h1))
 go_ret2
 exact ⟨rfl,hB⟩
theorem Rh (a:Nat) (ha:a<18446744073709551616):(BitVec.ofInt 64 (a:Int)).toNat=a:=by
 rw [BitVec.ofInt_natCast,BitVec.toNat_ofNat];omega
theorem Wo (a:Nat) (ha:a<9223372036854775808):bits .and .i64 (a:Int) 16777215=((a % 16777216:Nat):Int):=by
 show IntKind.i64.wrap ((BitVec.ofInt 64 (a:Int) &&& BitVec.ofInt 64 ((16777215:Nat):Int)).toNat:Int)=_
 rw [BitVec.toNat_and,Rh a (by omega),Rh 16777215 (by omega),show (16777215:Nat)=2 ^ 24-1 from rfl,Nat.and_two_pow_sub_one_eq_mod,IntKind.wrap_i64]
 omega
theorem Uy (w:World) (s:List UInt8) (hl:s.length≤140737488355328) :
 Calls Tryz.prog 145 #[.string (Am s)] w fun e w'=>e=.returned (.tuple #[.int .i64 (Ed s).1,.int .i64 (Ed s).2.1,.int .i64 (Ed s).2.2])∧Below w.heap.size w w':=by
 have h:=Mw w #[.int .i64 8,.int .i64 0,.int .i64 1099511627775] RD s 1 rfl (by rfl) UO (by decide) hl
 rw [ZH] at h
 obtain ⟨n,e0,hn,hm⟩:=eO s
 rw [e0] at h
 rw [hm]
 have H:=qh h
 have HP:=qh (Zy w)
 obtain ⟨E,e1⟩:∃ E,(WA s).2=E:=⟨_,rfl⟩
 rw [e1] at H ⊢
 have hand:bits .and .i64 (n:Int) 16777215=((n % 16777216:Nat):Int):=Wo n (by omega)
 clear h e0 e1 hm
 go_enter Tryz.func145,Tryz.ntmps145
 go_upto_region 2 with (first
  | (go_at_call 202;refine HP.out.mono ?_;rintro e w1 ⟨rfl,rfl⟩)
  | (go_at_call 82;refine H.out.mono ?_;rintro e w2 ⟨⟨A,c,rfl,hc⟩,hB⟩;obtain ⟨b,off,rfl,_,hb,h1⟩:=hc (by simp);have q0:w2.cell? ⟨b,off,none⟩=some (.int .i64 n):=h1 0 (by simp);clear hc h1))
 go_quiet (fail)
 go_wp2_with fail
 refine bodyPost_ret (v:=.tuple #[.int .i64 ((n / 16777216:Nat):Int),.int .i64 ((n % 16777216:Nat):Int),.int .i64 E]) (by simp [results,Tryz.results145,go_sem]) rfl ⟨rfl,?_⟩
 exact Ay hB _
end
section
open Go.RowKit
theorem Zz (w:World) (n:Int):Calls Tryz.prog 113 #[.int .i64 n] w fun e w'=>e=.returned (.string (Am (IR IV [n])))∧Below w.heap.size w w':=by
 have HRP:=qh (PO w)
 obtain ⟨ka,kb,kB,kz⟩:=AP.two w #[.int .i64 4,.int .i64 1,.int .i64 14399] #[.int .i64 n] 260 3
 have hp:=Sw ((w.alloc (.cells #[.int .i64 4,.int .i64 1,.int .i64 14399] 260)).alloc (.cells #[.int .i64 n] 3)) (fun b=>b<w.heap.size+2) (.slice (some ⟨w.heap.size,0,none⟩) 1 1) (.slice (some ⟨w.heap.size+1,0,none⟩) 1 1) IV [n] (fun b hb=>by rw [kz];exact hb) (Mv _ (by show _<_;omega) ka (by rfl) rfl) (by
  have hr:((w.alloc (.cells #[.int .i64 4,.int .i64 1,.int .i64 14399] 260)).alloc (.cells #[.int .i64 n] 3)).ownsRow 0 3 1 (.slice (some ⟨w.heap.size+1,0,none⟩) 1 1) 1 (AB encI [n]):=⟨rfl,.inr ⟨w.heap.size+1,1,_,rfl,Nat.zero_le _,kb,Nat.le_refl _,by decide,rfl,rfl⟩⟩
  exact (CF.own (l:=[n]) Bh hr (by omega)).sub (AA _) (fun b hb=>by have:=hb.2;rw [kz] at this;exact this)) Mk (by decide) (Nat.le_refl 1)
 have HP:=qh hp
 have HK:=qh kB
 have Vu:=qh kB.size
 clear ka kb kB hp
 go_enter Tryz.func113,Tryz.ntmps113
 go_wp2_with (first
  | (go_at_call 83;(with_reducible refine HRP.out.mono ?_);rintro e w2 ⟨rfl,hw⟩;rw [hw];clear hw w2)
  | (go_at_call 144;(with_reducible refine HP.out.mono ?_);rintro e w2 ⟨rfl,hB⟩;have HB:=qh hB;clear hB))
 refine bodyPost_ret (v:=.string (Am (IR IV [n]))) (by simp [results,Tryz.results113,go_sem]) rfl ⟨rfl,HK.out.trans (HB.out.mono Vu.out)⟩
end
section
open Go.RowKit
theorem PP (w:World):Calls Tryz.prog 182 #[] w fun e w'=>e=.returned (.slice (some ⟨w.heap.size,0,none⟩) 3 3)∧w'=w.alloc (.cells #[.int .i64 8,.int .i64 1,.int .i64 14399,.int .i64 4,.int .i64 0,.int .i64 960,.int .i64 4,.int .i64 0,.int .i64 960] 260):=by
 go_enter Tryz.func182,Tryz.ntmps182
 go_wp2
 go_ret
 exact ⟨rfl,rfl⟩
theorem gH (w:World) (gp gi:Nat) (b f s:Int) (hp:w.heap[gp]? = some (.cells #[.int .i64 8,.int .i64 1,.int .i64 14399,.int .i64 4,.int .i64 0,.int .i64 960,.int .i64 4,.int .i64 0,.int .i64 960] 260 (0,0))) (hi:w.heap[gi]? = some (.cells #[.int .i64 b,.int .i64 f,.int .i64 s] 3 (0,0))) :
 Calls Tryz.prog 144 #[.slice (some ⟨gp,0,none⟩) 3 3,.slice (some ⟨gi,0,none⟩) 3 3] w fun e w'=>e=.returned (.string (Am (IR Jt [b,f,s])))∧Below w.heap.size w w':=by
 have hr:w.ownsRow 0 3 1 (.slice (some ⟨gi,0,none⟩) 3 3) 3 (AB encI [b,f,s]):=⟨rfl,.inr ⟨gi,3,_,rfl,Nat.zero_le _,hi,Nat.le_refl _,by decide,rfl,rfl⟩⟩
 exact Sw w (fun b=>b<w.heap.size) _ _ Jt [b,f,s] (fun b hb=>hb) (Mv _ (Array.getElem?_eq_some_iff.1 hp).1 hp (by rfl) rfl) ((CF.own (l:=[b,f,s]) Bh hr (by omega)).sub (AA _) (fun b hb=>hb.2)) ZG (by decide) (Nat.le_refl 3)
set_option maxRecDepth 100000 in
theorem Z0 (w:World) (b f s:Int):Calls Tryz.prog 120 #[.agg #[.int .i64 b,.int .i64 f,.int .i64 s]] w fun e w'=>e=.returned (.string (Am (IR Jt [b,f,s])))∧Below w.heap.size w w':=by
 have hbx:=AP.new w #[.int .i64 b,.int .i64 f,.int .i64 s] 230
 have hBx:Below w.heap.size w (w.alloc (.cells #[.int .i64 b,.int .i64 f,.int .i64 s] 230)):=(Below.refl _ _).alloc (Nat.le_refl _) _
 have Ri:=qh (fun (w':World) gp gi hp hi=>gH w' gp gi b f s hp hi)
 generalize Am (IR Jt [b,f,s])=sx at *
 go_enter Tryz.func120,Tryz.ntmps120
 go_upto_region 1 with fail
 generalize w.alloc (.cells #[.int .i64 b,.int .i64 f,.int .i64 s] 230)=w1 at *
 have HB1:=qh hBx
 have HX:=qh hbx
 clear hbx hBx
 refine AF (T:=fun _=>false) (S:=fun w'=>Below w1.heap.size w1 w') (by kernel_rfl) (Below.refl w1.heap.size w1).drew (fun hHeld=>?_)
 obtain ⟨BM,hw0⟩:∃ x,w1.drew=x:=⟨_,rfl⟩
 rw [hw0] at hHeld ⊢
 have AJ:Below w1.heap.size w1 BM:=hHeld
 clear hHeld hw0
 refine qs 1 4 AJ ?_
 refine qf 2 5 rfl rfl AJ (by intro w2' hSw;have x0:=(HX.out.below hSw HX.out.lt).at 0 _ rfl;go_simp;(try with_reducible rfl)) ?_
 refine qs 3 6 AJ ?_
 refine qf 4 7 rfl rfl AJ (by intro w2' hSw;have x0:=(HX.out.below hSw HX.out.lt).at 1 _ rfl;go_simp;(try with_reducible rfl)) ?_
 refine qs 5 8 AJ ?_
 refine qf 6 9 rfl rfl AJ (by intro w2' hSw;have x0:=(HX.out.below hSw HX.out.lt).at 2 _ rfl;go_simp;(try with_reducible rfl)) ?_
 refine F3 0 7 (oi:=_) (oj:=_) (by kernel_rfl) rfl rfl (fun K hK=>?_) (fun K hK=>?_)
 · skip
   go_simp
   refine (PP BM).mono ?_
   rintro e Bg ⟨rfl,hw⟩
   have Co:Below (World.heap BM).size BM Bg:=by rw [hw];exact (Below.refl _ _).alloc (Nat.le_refl _) _
   have bp:(World.heap Bg)[(World.heap BM).size]? = some (.cells #[.int .i64 8,.int .i64 1,.int .i64 14399,.int .i64 4,.int .i64 0,.int .i64 960,.int .i64 4,.int .i64 0,.int .i64 960] 260 (0,0)):=by rw [hw];exact heap_alloc_new _ _
   obtain ⟨gp,zI⟩:∃ q,(World.heap BM).size=q:=⟨_,rfl⟩
   rw [zI] at bp ⊢
   have AJ:=AJ.trans (Co.mono AJ.size)
   clear hw Co zI
   refine hK.out _ _ (fun _=>AJ) (fun Ji=>?_)
   clear hK K Ji
   (try simp only [Act.put,qS,qZ,qU])
   refine qo 7 fun K hK=>?_
   go_simp
   obtain ⟨Cr,hwn⟩:∃ wx,Bg.alloc (.cells #[.int .i64 b,.int .i64 f,.int .i64 s] 3)=wx:=⟨_,rfl⟩
   have Co:Below Bg.heap.size Bg Cr:=by rw [← hwn];exact (Below.refl _ _).alloc (Nat.le_refl _) _
   have b7:Cr.heap[Bg.heap.size]? = some (.cells #[.int .i64 b,.int .i64 f,.int .i64 s] 3):=by rw [← hwn];exact heap_alloc_new Bg _
   have ACP:=AJ.size
   have fM:Bg.heap.size<Cr.heap.size:=by rw [← hwn];simp
   have AJ:=AJ.trans (Co.mono AJ.size)
   rw [hwn]
   have bp:=OW bp Co
   clear hwn Co
   refine hK.out _ _ (fun _=>AJ) (fun Ji=>?_)
   clear hK K Ji
   (try simp only [Act.put,qS,qZ,qU])
   refine qo 8 fun K hK=>?_
   go_simp
   refine (Ri.out Cr gp _ bp b7).mono ?_
   rintro e Kh ⟨rfl,Co⟩
   have AJ:=AJ.trans (Co.mono AJ.size)
   clear Co
   refine hK.out _ _ (fun _=>AJ) (fun Ji=>?_)
   clear hK K Ji
   (try simp only [Act.put,qS,qZ,qU])
   refine qs 9 2 AJ ?_
   refine qd ?_
   go_wp2_with fail
   refine bodyPost_ret (v:=.string sx) (by simp [results,Tryz.results120,go_sem]) rfl ⟨rfl,HB1.out.trans (AJ.mono HB1.out.size)⟩
 · skip
   go_simp
   obtain ⟨GK,hwn⟩:∃ wx,BM.alloc (.cells #[.int .i64 b,.int .i64 f,.int .i64 s] 3)=wx:=⟨_,rfl⟩
   have Co:Below BM.heap.size BM GK:=by rw [← hwn];exact (Below.refl _ _).alloc (Nat.le_refl _) _
   have b7:GK.heap[BM.heap.size]? = some (.cells #[.int .i64 b,.int .i64 f,.int .i64 s] 3):=by rw [← hwn];exact heap_alloc_new BM _
   have ACP:=AJ.size
   have fM:BM.heap.size<GK.heap.size:=by rw [← hwn];simp
   have AJ:=AJ.trans (Co.mono AJ.size)
   rw [hwn]
   clear hwn Co
   refine hK.out _ _ (fun _=>AJ) (fun Ji=>?_)
   clear hK K Ji
   (try simp only [Act.put,qS,qZ,qU])
   refine qo 0 fun K hK=>?_
   go_simp
   refine (PP GK).mono ?_
   rintro e Kk ⟨rfl,hw⟩
   have Co:Below (World.heap GK).size GK Kk:=by rw [hw];exact (Below.refl _ _).alloc (Nat.le_refl _) _
   have bp:(World.heap Kk)[(World.heap GK).size]? = some (.cells #[.int .i64 8,.int .i64 1,.int .i64 14399,.int .i64 4,.int .i64 0,.int .i64 960,.int .i64 4,.int .i64 0,.int .i64 960] 260 (0,0)):=by rw [hw];exact heap_alloc_new _ _
   obtain ⟨gp,zI⟩:∃ q,(World.heap GK).size=q:=⟨_,rfl⟩
   rw [zI] at bp ⊢
   have b7:=OW b7 Co
   have AJ:=AJ.trans (Co.mono AJ.size)
   clear hw Co zI
   refine hK.out _ _ (fun _=>AJ) (fun Ji=>?_)
   clear hK K Ji
   (try simp only [Act.put,qS,qZ,qU])
   refine qo 8 fun K hK=>?_
   go_simp
   refine (Ri.out Kk gp _ bp b7).mono ?_
   rintro e Uz ⟨rfl,Co⟩
   have AJ:=AJ.trans (Co.mono AJ.size)
   clear Co
   refine hK.out _ _ (fun _=>AJ) (fun Ji=>?_)
   clear hK K Ji
   (try simp only [Act.put,qS,qZ,qU])
   refine qs 9 2 AJ ?_
   refine qd ?_
   go_wp2_with fail
   refine bodyPost_ret (v:=.string sx) (by simp [results,Tryz.results120,go_sem]) rfl ⟨rfl,HB1.out.trans (AJ.mono HB1.out.size)⟩
end
section
open Go.RowKit
def Gc (l:List UInt8) (a:Nat) (b:List UInt8):List UInt8:=l.take a++(b++l.drop (a+b.length))
theorem MC {l b:List UInt8} {a:Nat} (h:a+b.length≤l.length):(Gc l a b).length=l.length:=by
 unfold Gc
 simp only [List.length_append,List.length_take,List.length_drop]
 omega
theorem JO {l b:List UInt8} {a:Nat}:splice (AB Au l) a (AB Au b)=AB Au (Gc l a b):=by
 unfold splice Gc
 rw [Bu,Bu,Bu]
 simp only [List.map_append,List.map_take,List.map_drop,List.length_map]
theorem l9:(Tryz.prog.info? 5).map (·.size)=some 1:=by kernel_rfl
theorem mD {w:World} {base e g n c:Nat} {xs:List Value} (h:w.ownsRow base e 1 (.slice (some ⟨g,0,none⟩) n c) n xs):∃ cur:List Value,w.heap[g]? = some (.cells cur.toArray e (0,0))∧n≤cur.length∧base≤g∧∀ (off:Nat) (cs:List Value) (w':World),off+cs.length≤n→w'.heap[g]? = some (.cells (splice cur off cs).toArray e (0,0)) →
 w'.ownsRow base e 1 (.slice (some ⟨g,0,none⟩) n c) n (splice xs off cs):=by
 have hl:=h.1
 rcases h.2 with ⟨hv,_⟩|⟨g',cap,cur,hv,hb,hg,hnc,hm,hcs,ht⟩
 · injection hv with e;cases e
 · injection hv with e1 e2 e3
   injection e1 with e1
   injection e1 with e1
   subst e1 e3
   refine ⟨cur.toList,by simpa using hg,by rw [Array.length_toList];omega,hb,fun off cs w' ho hw'=>⟨by simp only [splice,List.length_append,List.length_take,List.length_drop];omega,.inr ⟨g,c,_,rfl,hb,hw',hnc,hm,?_,?_⟩⟩⟩
   · simp only [splice,List.size_toArray,List.length_append,List.length_take,List.length_drop,Array.length_toList];omega
   · have ho':(cur.toList.take off).length=off:=by rw [List.length_take,Array.length_toList];omega
     unfold splice
     rw [← ht,Nat.mul_one,List.toList_toArray,List.take_append,List.take_append,ho',List.take_take,List.take_take,List.drop_take,Nat.min_eq_right (by omega),Nat.min_eq_left (show off≤n by omega),List.take_of_length_le (show cs.length≤n-off by omega),Nat.sub_sub]
set_option maxRecDepth 100000 in
theorem U0 (w:World) (S:Nat→Prop) (v:Value) (l:List UInt8) (a n x:Nat) (hS:∀ b,S b→b<w.heap.size) (h:AX w S v l) (hn:Lh n) (ha:a+n≤l.length) (hl:l.length≤1000000) (hx:x<9223372036854775808) (hf:Ez x n=true) :
 Calls Tryz.prog 194 #[v,.int .i64 a,.int .i64 n,.int .i64 x] w fun e w'=>(∃ A c,e=.returned (.tuple #[.slice A l.length c,.int .i64 0])∧w'.ownsRow w.heap.size 5 1 (.slice A l.length c) l.length (AB Au (Gc l a (leB n x))))∧Below w.heap.size w w':=by
 have GH:=qh (GG w S v l hS h (by omega))
 obtain ⟨Av,cv,rfl,hc,hr⟩:=h
 have HTH:=qh (RO w Av l.length cv a n hn ha (by omega))
 have Rj:=qh (Ut w x n hn)
 rw [hf] at Rj
 have We:=qh (fun u=>Re u x n hx hn)
 unfold Su at We
 have Uv:Hid ((leB n x).length=n):=CY n x
 have hn1:1≤n:=by rcases hn with rfl|rfl|rfl|rfl <;> omega
 have HAI:Hid (a+n≤l.length):=ha
 clear hc hr hS hx hf hn
 obtain ⟨m,hm⟩:∃ m,l.length=m:=⟨_,rfl⟩
 have HM:=qh hm
 rw [hm] at GH HTH ha hl ⊢
 clear hm
 go_enter Tryz.func194,Tryz.ntmps194
 go_upto_region 7 with (first|(go_at_call 161;(with_reducible refine HTH.out.mono ?_);rintro e w2 ⟨rfl,hw⟩;rw [hw];clear hw w2)|(go_at_call 192;(with_reducible refine Rj.out.mono ?_);rintro e w2 ⟨rfl,hw⟩;rw [hw];clear hw w2)|(go_at_call 18;(with_reducible refine GH.out.mono ?_);rintro e w2 ⟨A2,c2,rfl,ho2,hB2⟩;have QX:=qh ho2;have HB2:=qh hB2;clear ho2 hB2))
 rename World=>w2
 obtain ⟨g,hA,hg,hcc,-⟩:=CG QX.out (by omega)
 subst hA
 obtain ⟨cur,gI,hcl,hbg,hput⟩:=mD QX.out
 have tZ:=qh gI
 have Uw:=qh hput
 have kN:=qh hbg
 have tq:=qh hcl
 have hai:(a:Int)≤(m:Int):=by omega
 have hac:(a:Int)≤(c2:Int):=by omega
 have yo:¬ c2=a:=by omega
 have AEI:(c2==a)=false:=by rw [beq_eq_false_iff_ne];exact yo
 clear gI hput hbg hcl hg GH HTH Rj
 refine AF (T:=fun _=>false) (S:=fun w'=>Below w.heap.size w w') (by kernel_rfl) HB2.out.drew (fun hHeld=>?_)
 obtain ⟨BM,hw0⟩:∃ x,w2.drew=x:=⟨_,rfl⟩
 rw [hw0] at hHeld ⊢
 have AJ:Below w.heap.size w BM:=hHeld
 have hkW:Below w2.heap.size w2 BM:=by rw [← hw0];exact (Below.refl w2.heap.size w2).drew
 clear hHeld hw0
 refine qs 0 25 AJ ?_
 refine qs 1 26 AJ ?_
 refine qs 2 27 AJ ?_
 refine qs 3 28 AJ ?_
 refine qs 4 29 AJ ?_
 refine qo 5 fun K hK=>?_
 go_simp
 refine (We.out BM).mono ?_
 rintro e Bg ⟨⟨A5,c5,rfl,Vw⟩,Co⟩
 have AJ:=AJ.trans (Co.mono AJ.size)
 have hkW:=hkW.trans (Co.mono hkW.size)
 clear Co
 refine hK.out _ _ (fun _=>AJ) (fun Ji=>?_)
 clear hK K Ji
 (try simp only [Act.put,qS,qZ,qU])
 refine qo 6 fun K hK=>?_
 obtain ⟨g5,hA5,-,-,hs5⟩:=CG Vw (by omega)
 subst hA5
 refine step_copy_splice rfl _ _ 22 22 rfl 5 Tryz.underlying22 l9 (some ⟨g,a,none⟩) (some ⟨g5,0,none⟩) (m-a) (c2-a) n c5 rfl rfl g a cur 5 (OW tZ.out hkW) (AB Au (leB n x)) (by rw [BI,Uv.out];exact (Nat.min_eq_left (by omega)).symm) (fun _=>⟨rfl,_,rfl,hs5⟩) (by rw [BI,Uv.out];have:=tq.out;omega) (Dr _) w.heap.size w AJ kN.out ?_
 intro Cr hH hBel
 have HRW:=qh (Uw.out a (AB Au (leB n x)) Cr (by rw [BI,Uv.out];omega) hH.out)
 have I1:=qh hBel
 have AJ:=hBel
 clear hH hBel hs5 Vw
 refine hK.out _ _ (fun _=>AJ) (fun Ji=>?_)
 clear hK K Ji
 (try simp only [Act.put,qS,qZ,qU])
 refine qd ?_
 go_wp2_with fail
 rw [JO] at HRW
 refine bodyPost_ret (v:=.tuple #[.slice (some ⟨g,0,none⟩) m c2,.int .i64 0]) (by simp [results,Tryz.results194,go_sem]) rfl ⟨⟨_,_,rfl,HRW.out⟩,I1.out⟩
end
end Go.Proofs.YtpenklpdjpkigaaGreat
