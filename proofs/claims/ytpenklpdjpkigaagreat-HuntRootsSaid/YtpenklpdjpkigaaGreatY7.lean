/- Part 7 of the proof: WPool3, WRefs2, WSameI, WSuper1, WEqB, WSuper2, WSpan1. -/
import Derived.Test.YtpenklpdjpkigaaGreatY6
import Derived.Test.YtpenklpdjpkigaaGreatY3
import Derived.Test.YtpenklpdjpkigaaGreatY1
import Derived.Test.YtpenklpdjpkigaaGreatProg
import Derived.Deep.CutBlock
import Derived.Test.YtpenklpdjpkigaaGreatY2
import Derived.Deep.QuietTactic
import Derived.BigQuiet
import Derived.Shelf.Abstract
import Derived.Lib.Hide
import Derived.Outline
import Derived.Deep.Cut
import Derived.Deep.DeepCutAuto
set_option maxHeartbeats 6400000
set_option linter.unusedVariables false
set_option linter.unusedSimpArgs false
namespace Go.Proofs.YtpenklpdjpkigaaGreat
section
open Go.RowKit
theorem Ug {p:Pool} (h:p.ok) (hl:p.Ce.length≤4096):p.count≤4611686018427387904:=by
 have h1:=SF (c:=5864062014805) p.Ce (fun d hd=>(h.2.2.2.2.1 d hd).2.2.2.2.2)
 have h2:p.Ce.length*5864062014805≤4096*5864062014805:=Nat.mul_le_mul_right _ hl
 unfold Pool.count
 omega
set_option maxRecDepth 100000 in
theorem RZ (w:World) (S:Nat→Prop) (v:Value) (p:Pool) (hS:∀ b,S b→b<w.heap.size) (h:IP w S v p) (hok:p.ok) :
 Calls Tryz.prog 36 #[v] w fun e w'=>e=.returned (.int .i64 (Da p))∧Below w.heap.size w w':=by
 have hp0:=h
 obtain ⟨A,c,rfl,hc,hr⟩:=h
 have hnl:=hok.2.2.2.2.2
 have hkb:=fun k (hk:k<p.Ce.length)=>(hok.dev hk).2.2.2.2.2
 generalize hl0:p.Ce.length=n at *
 have hl:=qh hl0
 clear hl0
 have UC:=qh hkb
 clear hkb
 have hw1:Below (w.heap.size+1) (w.alloc (.cells #[.int .i64 p.tx,.int .i64 p.time,.int .i64 p.unit,.int .i64 p.data,.slice A n c] 45)) ((w.alloc (.cells #[.int .i64 p.tx,.int .i64 p.time,.int .i64 p.unit,.int .i64 p.data,.slice A n c] 45)).alloc (.cells #[.int .i64 p.time] 3)):=(Below.refl _ _).alloc (by simp) _
 have hw0:Below w.heap.size w (w.alloc (.cells #[.int .i64 p.tx,.int .i64 p.time,.int .i64 p.unit,.int .i64 p.data,.slice A n c] 45)):=(Below.refl _ _).alloc (Nat.le_refl _) _
 have ht:=RX ((w.alloc (.cells #[.int .i64 p.tx,.int .i64 p.time,.int .i64 p.unit,.int .i64 p.data,.slice A n c] 45)).alloc (.cells #[.int .i64 p.time] 3))
  (Lt (w.heap.size+2)) (.slice (some ⟨w.heap.size+1,0,none⟩) 1 1) p.tx [p.time] (by simp) (CF.block (fun _=>rfl) (heap_alloc2_new w _ _) rfl rfl (by omega) (by simp [Lt]))
 have HT:=qh ht
 clear ht
 by_cases hh:Km p=true
 · have h1:FW p.tx [p.time]=true:=by simp [Km] at hh;exact hh.1
   have h2:Gz p.unit 1 65536=true:=by simp [Km] at hh;exact hh.2.1
   have h3:Gz p.data 0 65536=true:=by simp [Km] at hh;exact hh.2.2
   have xQ:=SE.1 h3
   have hd0:=xQ.1
   have hd1:=xQ.2
   clear xQ
   have HH:=qh hh
   clear hh
   by_cases hln:4096<n
   · have e:Da p=2:=by
       unfold Da
       rw [if_neg (by rw [HH.out];simp),if_pos (by simp only [NF,decide_eq_false_iff_not];rw [hl.out];omega)]
     rw [e]
     clear e
     go_enter Tryz.func36,Tryz.ntmps36
     go_wp2_with (first
      | (go_at_call 67;refine (Fe _ _ _ _).mono ?_;rintro e w' ⟨rfl,rfl⟩)
      | (go_at_call 66;refine HT.out.mono ?_;rintro e w' ⟨rfl,rfl⟩))
     go_ret
     exact ⟨rfl,hw0.trans (hw1.mono (by omega))⟩
   · have hcs:=Ug hok (by rw [hl.out];omega)
     have hct:=fun w2 (hB:Below w.heap.size w w2)=>ZY w2 S (.agg #[.int .i64 p.tx,.int .i64 p.time,.int .i64 p.unit,.int .i64 p.data,.slice A n c]) p (fun b hb=>Nat.lt_of_lt_of_le (hS b hb) hB.size)
      (hp0.below hB hS) (by rw [hl.out];omega) hcs
     have HCT:=qh hct
     have hcn:0≤p.count:=IQ _
     clear hct hp0
     have hw2:=hw0.trans (hw1.mono (by omega))
     by_cases hcc:16384<p.count
     · have e:Da p=2:=by
         unfold Da
         rw [if_neg (by rw [HH.out];simp),if_pos (by simp only [NF,decide_eq_false_iff_not];omega)]
       rw [e]
       clear e
       go_enter Tryz.func36,Tryz.ntmps36
       go_wp2_with (first
        | (go_at_call 67;refine (Fe _ _ _ _).mono ?_;rintro e w' ⟨rfl,rfl⟩)
        | (go_at_call 66;refine HT.out.mono ?_;rintro e w' ⟨rfl,rfl⟩)
        | (go_at_call 68;refine (HCT.out _ hw2).mono ?_;rintro e w3 ⟨rfl,hB3⟩))
       go_ret
       exact ⟨rfl,hw2.trans (hB3.mono (by simp;omega))⟩
     · have e:Da p=EY p.data (-1) p.Ce:=by
         unfold Da
         rw [if_neg (by rw [HH.out];simp),if_neg (by simp only [NF,Bool.not_eq_false,decide_eq_true_eq];rw [hl.out];omega)]
       rw [e]
       clear e
       go_enter Tryz.func36,Tryz.ntmps36
       go_wp2_with (first
        | (go_at_call 67;refine (Fe _ _ _ _).mono ?_;rintro e w' ⟨rfl,rfl⟩)
        | (go_at_call 66;refine HT.out.mono ?_;rintro e w' ⟨rfl,rfl⟩)
        | (go_at_call 68;refine (HCT.out _ hw2).mono ?_;rintro e w3 ⟨rfl,hB3⟩;have hb3:=hw1.trans (hB3.mono (by simp));have hq:=hb3.cell (p:=⟨w.heap.size,4,none⟩) (by simp);have hq4:w3.cell? ⟨w.heap.size,4,none⟩=some (.slice A n c):=hq.trans (by simp [World.cell?_alloc_new]);clear hq))
       go_loopw [3,39] (fun last i wr=>∃ k:Nat,k≤n∧i=.int .i64 k∧last=.int .i64 (F6 p.Ce k)∧Below (w.heap.size+1) (w.alloc (.cells #[.int .i64 p.tx,.int .i64 p.time,.int .i64 p.unit,.int .i64 p.data,.slice A n c] 45)) wr∧Jg p.data p.Ce k) (fun _ i _=>n-(intOf i).toNat)
       case atStart=>exact ⟨0,by omega,rfl,rfl,hb3,Jg.zero _ _⟩
       case round =>
        clear hB3 hb3 hq4 HCT HT
        obtain ⟨k,hk,rfl,rfl,hB,hA⟩:=hrel
        have HA:=qh hA
        have hB0:=hw0.trans (hB.mono (by omega))
        clear hA
        by_cases hlt:k<n
        · obtain ⟨b,off,rfl,hb,hcl⟩:=K5 (hr.keep FM (fun _ h=>h) (AL hB0 hS)) (by rw [hl.out];omega)
          obtain ⟨c0,c1,c2,c3,A',c',c4,hc',hr'⟩:=hcl k (by rw [hl.out];omega)
          have hlt':=hlt
          rw [← hl.out] at hlt'
          have HD:=qh (fun hb=>HA.out.dev hlt' hb)
          have HM:=qh (fun h1 hb=>HA.out.maps hlt' h1 hb)
          have HN:=qh (fun h1 hb=>HA.out.next hlt' h1 hb)
          have HS:=qh (NH p.Ce k)
          have hkm:=UC.out k hlt
          have hbs:b<wr.heap.size:=by have:=hS b hb;have:=hB0.size;omega
          have hq3:wr.cell? ⟨w.heap.size,3,none⟩=some (.int .i64 p.data):=(hB.cell (p:=⟨w.heap.size,3,none⟩) (by simp)).trans (by simp [World.cell?_alloc_new])
          have hws:w.heap.size<wr.heap.size:=by have:=hB.size;simp at this;omega
          have hS':∀ b,S b→b<wr.heap.size:=fun b hb=>by have:=hS b hb;omega
          clear hcl
          generalize nth CX p.Ce k=d at *
          have hdv:=WO (wr.alloc (.cells #[.int .i64 d.id,.int .i64 d.tx,.int .i64 d.made,.int .i64 d.Bb,.slice A' d.maps.length c'] 115)) (.agg #[.int .i64 d.id,.int .i64 d.tx,.int .i64 d.made,.int .i64 d.Bb,.slice A' d.maps.length c']) S d (F6 p.Ce k) ⟨A',c',rfl,hc',hr'.keep F5 (fun _ h=>h) (EH hS' _)⟩
          have YI:=qh hdv
          have HB:=hB.alloc (by simpa using hB.size) (.cells #[.int .i64 d.id,.int .i64 d.tx,.int .i64 d.made,.int .i64 d.Bb,.slice A' d.maps.length c'] 115)
          have hmp:=fun w4 (hB4:Below (wr.heap.size+1) (wr.alloc (.cells #[.int .i64 d.id,.int .i64 d.tx,.int .i64 d.made,.int .i64 d.Bb,.slice A' d.maps.length c'] 115)) w4)=>WP w4 S (.slice A' d.maps.length c') d.maps p.data (fun b hb=>by have:=hS' b hb;have:=hB4.size;simp at this;omega) (by omega)
           ⟨A',c',rfl,hc',hr'.keep F5 (fun _ h=>h) ((EH hS' _).trans (AL hB4 (fun b hb=>by have:=hS' b hb;omega)))⟩ (by omega) (by omega)
          have yg:=qh hmp
          clear hdv hmp hr'
          by_cases hde:D6 d (F6 p.Ce k)=0
          · have hdb:(D6 d (F6 p.Ce k) != 0)=false:=by simp [hde]
            have EK:=qh hde
            clear hde
            by_cases hme:Es p.data d.maps=0
            · have hmb:(Es p.data d.maps != 0)=false:=by simp [hme]
              have HME:=qh hme
              clear hme
              go_wp2_with (first
               | (go_at_call 69;refine YI.out.mono ?_;rintro e w4 ⟨rfl,hB4⟩;have sV:=hB4.mono (B':=wr.heap.size+1) (by simp);have bc4:=fun o=>hB4.cell (p:=⟨wr.heap.size,o,none⟩) (by simp);have bp4:=hB4.cell (p:=⟨w.heap.size,3,none⟩) (by simp;omega))
               | (go_at_call 70;refine (yg.out w4 sV).mono ?_;rintro e w5 ⟨rfl,BS⟩;have bc5:=fun o=>BS.cell (p:=⟨wr.heap.size,o,none⟩) (by have:=hB4.size;simp at this;simp;omega)))
              go_roundw
              case rel=>exact ⟨k+1,by omega,by go_num,by rw [HS.out],HB.trans ((hB4.trans (BS.mono hB4.size)).mono (by simp;omega)),HN.out EK.out HME.out⟩
              case measure=>simp [intOf];omega
            · have hmb:(Es p.data d.maps != 0)=true:=by simp [hme]
              have HME:=qh hme
              clear hme
              go_wp2_with (first
               | (go_at_call 69;refine YI.out.mono ?_;rintro e w4 ⟨rfl,hB4⟩;have sV:=hB4.mono (B':=wr.heap.size+1) (by simp);have bc4:=fun o=>hB4.cell (p:=⟨wr.heap.size,o,none⟩) (by simp);have bp4:=hB4.cell (p:=⟨w.heap.size,3,none⟩) (by simp;omega))
               | (go_at_call 70;refine (yg.out w4 sV).mono ?_;rintro e w5 ⟨rfl,BS⟩;have bc5:=fun o=>BS.cell (p:=⟨wr.heap.size,o,none⟩) (by have:=hB4.size;simp at this;simp;omega)))
              go_ret
              exact ⟨JG (HM.out EK.out HME.out).symm,hw0.trans ((HB.trans ((hB4.trans (BS.mono hB4.size)).mono (by simp;omega))).mono (by omega))⟩
          · have hdb:(D6 d (F6 p.Ce k) != 0)=true:=by simp [hde]
            have EK:=qh hde
            clear hde
            go_wp2_with (go_at_call 69;refine YI.out.mono ?_;rintro e w4 ⟨rfl,hB4⟩)
            go_ret
            exact ⟨JG (HD.out EK.out).symm,hw0.trans ((HB.trans (hB4.mono (by simp;omega))).mono (by omega))⟩
        · go_wp2
          go_ret
          exact ⟨JG (HA.out.done (by rw [hl.out];omega)).symm,hB0⟩
 · have hh':Km p=false:=by simpa using hh
   have e:Da p=2:=by unfold Da;rw [if_pos hh']
   rw [e]
   have hor:FW p.tx [p.time]=false∨(FW p.tx [p.time]=true∧Gz p.unit 1 65536=false)∨(FW p.tx [p.time]=true∧Gz p.unit 1 65536=true∧Gz p.data 0 65536=false):=by
    unfold Km at hh'
    cases h3:FW p.tx [p.time] <;> cases h4:Gz p.unit 1 65536 <;> cases h5:Gz p.data 0 65536 <;> simp_all
   clear hh hh' e hp0
   rcases hor with h3|⟨h3,h4⟩|⟨h3,h4,h5⟩
   all_goals
    go_enter Tryz.func36,Tryz.ntmps36
    go_wp2_with (first
     | (go_at_call 67;refine (Fe _ _ _ _).mono ?_;rintro e w' ⟨rfl,rfl⟩)
     | (go_at_call 66;refine HT.out.mono ?_;rintro e w' ⟨rfl,rfl⟩))
    go_ret
    exact ⟨rfl,hw0.trans (hw1.mono (by omega))⟩
end
section
open Go.RowKit
theorem fB (n:Nat):(madeCells (Value.int .i64 0).cells (n*1)).toList=AB encI (List.replicate n 0):=by
 rw [CU,List.map_replicate,Nat.mul_one]
 exact toList_madeCells_one _ n
set_option maxRecDepth 100000 in
theorem Uh (w:World) (n:Nat) (hn:n≤65536) :
 Calls Tryz.prog 122 #[.int .i64 n] w fun e w'=>∃ rb g,e=.returned (.tuple #[.pointer (some ⟨rb,0,none⟩),.int .i64 0])∧Ls w' rb w.heap.size g (List.replicate n 0)∧w.heap.size≤rb∧Below w.heap.size w w':=by
 obtain ⟨i0,hi,hz0,hz1,hz2⟩:=info_parts Ej
 go_enter Tryz.func122,Tryz.ntmps122
 go_wp2_with (at_make;go_loud (refine wpList_make_full _ rfl _ _ 29 rfl w.heap.size 3 i0 (.int .i64 0) 1 Tryz.underlying29 hi hz0 hz1 _ _ _ _ n rfl rfl rfl rfl (by rw [hz2];omega) (by unfold maxLen;omega) (Nat.le_refl _) ?_);intro w1 hown hg;rw [fB] at hown)
 go_ret2
 have hg1:=(hown.lt w.heap.size rfl).2
 have hB:Below w.heap.size w w1:=(Below.refl _ w).grown hg (Nat.le_refl _) (fun k hk=>by cases hk)
 refine ⟨w1.heap.size,w.heap.size,rfl,⟨n,?_,?_,Nat.le_refl _,by simp;omega,by omega⟩,by omega,hB.alloc hB.size _⟩
 · rw [List.length_replicate];exact One.new _ _ _
 · rw [List.length_replicate];exact hown.alloc _
theorem Ui (w:World) (rb:Nat) (A:Option Addr) (n c:Nat) (h:w.cell? ⟨rb,0,none⟩=some (.slice A n c)) :
 Calls Tryz.prog 187 #[.pointer (some ⟨rb,0,none⟩)] w fun e w'=>e=.returned (.slice A n c)∧w=w':=by
 go_enter Tryz.func187,Tryz.ntmps187
 go_wp2
 go_ret
 exact ⟨rfl,rfl⟩
theorem Sg (w:World) (rb base g:Nat) (l:List Int) (h:Ls w rb base g l) (hn:l.length≤65536) :
 Calls Tryz.prog 125 #[.pointer (some ⟨rb,0,none⟩)] w fun e w'=>∃ v',e=.returned v'∧Aa w' (C9 w.heap.size w'.heap.size) v' l∧Below w.heap.size w w':=by
 obtain ⟨cap,h1,h2,h3,h4,h5⟩:=h
 have hc:=RY w (C9 base w.heap.size) (.slice (some ⟨g,0,none⟩) l.length cap) l (CF.own (enc:=encI) Bh h2 (by omega)) (by omega)
 have HC:=qh hc
 have q:=h1.cell
 clear hc h1 h2
 go_enter Tryz.func125,Tryz.ntmps125
 go_wp2_with (first
  | (go_at_call 187;refine (Ui _ _ _ _ _ q).mono ?_;rintro e w' ⟨rfl,rfl⟩)
  | (go_at_call 127;refine HC.out.mono ?_;rintro e w2 ⟨v2,rfl,hv2,hB2⟩))
 go_ret
 exact ⟨_,rfl,hv2,hB2⟩
end
section
open Go.RowKit
theorem ZZ {α:Type} (d:α) {a b:List α} (h:a.length=b.length) (he:∀ j,j<a.length→nth d a j=nth d b j):a=b:=by
 refine List.ext_getElem h fun i h1 h2=>?_
 have:=he i h1
 unfold nth at this
 simpa [List.getD,h1,h2] using this
theorem Za (w:World) (S:Nat→Prop) (v1 v2:Value) (a b:List Int) (h1:Aa w S v1 a) (h2:Aa w S v2 b) (hn:a.length≤140737488355328) :
 Calls Tryz.prog 8 #[v1,v2] w fun e w'=>e=.returned (.bool (decide (a=b)))∧∃ m,w'=w.drewN m:=by
 obtain ⟨A,c,rfl,hc,hra⟩:=h1
 obtain ⟨B,d,rfl,hd,hrb⟩:=h2
 by_cases hl:b.length=a.length
 · rw [hl]
   generalize hna:a.length=n at *
   have HA:=qh hna
   have HL:=qh hl
   clear hna hl hc hd
   go_enter Tryz.func8,Tryz.ntmps8
   go_wp2_with fail
   go_loopw [5] (fun i wr=>∃ k:Nat,i=.int .i64 k∧k≤n∧(∀ j,j<k→nth 0 a j=nth 0 b j)∧∃ m,wr=w.drewN m) (fun i _=>n-(intOf i).toNat)
   case atStart=>exact ⟨0,rfl,by omega,fun j hj=>absurd hj (by omega),0,rfl⟩
   case round =>
    obtain ⟨k,rfl,hk,hsm,m,rfl⟩:=hrel
    have HS:=qh hsm
    clear hsm
    by_cases hlt:k<n
    · obtain ⟨ba,oa,rfl,QW,hca⟩:=BR hra (by rw [HA.out];omega)
      have a0:=hca k (by rw [HA.out];exact hlt)
      obtain ⟨bb,ob,rfl,hbb,hcb⟩:=BR hrb (by rw [HL.out];omega)
      have b0:=hcb k (by rw [HL.out];exact hlt)
      clear hca hcb
      by_cases hx:nth 0 a k=nth 0 b k
      · have hS2:∀ j,j<k+1→nth 0 a j=nth 0 b j:=fun j hj=>by
          by_cases e:j=k
          · rw [e];exact hx
          · exact HS.out j (by omega)
        have HS2:=qh hS2
        have hxb:((nth 0 a k) != (nth 0 b k))=false:=by simp [hx]
        clear hx hS2 HS
        generalize nth 0 a k=x1 at *
        generalize nth 0 b k=x2 at *
        go_wp2_with fail
        go_quiet (fail)
        go_wp2_with fail
        go_roundw
        case rel=>exact ⟨k+1,by go_num,by omega,HS2.out,by first|exact ⟨_,rfl⟩|exact dr2 _ _ _⟩
        case measure=>simp [intOf];omega
      · have hne:a≠b:=fun e=>hx (by rw [e])
        have HE:=qh (decide_eq_false hne)
        have hxb:((nth 0 a k) != (nth 0 b k))=true:=by simp [hx]
        clear hne HS
        generalize nth 0 a k=x1 at *
        generalize nth 0 b k=x2 at *
        go_wp2_with fail
        go_quiet (fail)
        go_wp2_with fail
        refine bodyPost_ret (results_tmp rfl _ _ _) rfl ?_
        exact ⟨by rw [HE.out];rfl,dr2 _ _ _⟩
    · have he:a=b:=ZZ 0 (by rw [HA.out,HL.out]) (fun j hj=>HS.out j (by rw [HA.out] at hj;omega))
      have HE:=qh (decide_eq_true he)
      clear he HS
      go_wp2_with fail
      go_ret
      exact ⟨by rw [HE.out];rfl,_,rfl⟩
 · have hne:a≠b:=fun e=>hl (by rw [e])
   have HE:=qh (decide_eq_false hne)
   have hl2:¬ a.length=b.length:=fun e=>hl e.symm
   clear hne
   generalize a.length=n1 at *
   generalize b.length=n2 at *
   go_enter Tryz.func8,Tryz.ntmps8
   go_wp2_with fail
   go_ret
   exact ⟨by rw [HE.out];rfl,0,rfl⟩
end
section
open Go.RowKit
attribute [local go_sem] Oper.semAt_some
def Side (nb:Int) (k:Nat) (lo hi:Int):Prop :=
 (k=0∧lo=0∧hi=2147483647)∨(k=1∧lo=0∧hi=16777215)∨(k=2∧lo=1∧hi=65536)∨(k=3∧lo=0∧hi=65536)∨(k=4∧lo=2∧hi=14400)∨(5≤k∧k<11∧lo=1∧hi=nb-1)
structure Si (g b:Nat) (cb:Array Value) (nb:Int) (P:Nat→World→Prop):Prop where
 al:∀ k w o,P k w→P k (w.alloc o)
 dr:∀ k w,P k w→P k w.drew
 at4:∀ k w,5≤k→P k w→w.cell? ⟨b,4,none⟩=some (.int .i64 nb)
 go:∀ k lo hi,Side nb k lo hi→∀ w,P k w→Calls Tryz.prog g (#[.pointer (some ⟨b,k,none⟩),.int .i64 lo,.int .i64 hi]++cb) w fun e w'=>e=.returned (.tuple #[])∧P (k+1) w'∧∀ ga cs,AP w ga cs 200→AP w' ga cs 200
theorem sW (b:Nat) {k:Nat} (h:k<6):(#[.pointer (some ⟨b,5,none⟩),.pointer (some ⟨b,6,none⟩),.pointer (some ⟨b,7,none⟩),.pointer (some ⟨b,8,none⟩),.pointer (some ⟨b,9,none⟩),.pointer (some ⟨b,10,none⟩)]:Array Value)[k]? = some (.pointer (some ⟨b,5+k,none⟩)):=by
 have:k=0∨k=1∨k=2∨k=3∨k=4∨k=5:=by omega
 rcases this with rfl|rfl|rfl|rfl|rfl|rfl <;> rfl
set_option maxRecDepth 100000 in
theorem PD (w:World) (g b:Nat) (cb:Array Value) (nb:Int) (P:Nat→World→Prop) (eg:∀ args w,(callFunc g args).run Tryz.prog w=.ok (.enter g args) w) (hn0 : -4611686018427387904≤nb) (hn1:nb≤4611686018427387904) (hE:Si g b cb nb P) (h0:P 0 w) :
 Calls Tryz.prog 94 #[.pointer (some ⟨b,0,none⟩),.func (.func g) #[] cb] w fun e w'=>e=.returned (.tuple #[])∧P 11 w':=by
 have HE:=qh hE
 have H0:=qh h0
 have c0:=qh (hE.go 0 0 2147483647 (.inl ⟨rfl,rfl,rfl⟩))
 have c1:=qh (hE.go 1 0 16777215 (.inr (.inl ⟨rfl,rfl,rfl⟩)))
 have c2:=qh (hE.go 2 1 65536 (.inr (.inr (.inl ⟨rfl,rfl,rfl⟩))))
 have c3:=qh (hE.go 3 0 65536 (.inr (.inr (.inr (.inl ⟨rfl,rfl,rfl⟩)))))
 have c4:=qh (hE.go 4 2 14400 (.inr (.inr (.inr (.inr (.inl ⟨rfl,rfl,rfl⟩))))))
 clear hE h0
 go_enter Tryz.func94,Tryz.ntmps94
 go_wp2_with fail
 with_reducible refine (c0.out _ H0.out).mono ?_
 rintro e w1 ⟨rfl,h1,_⟩;have H1:=qh h1;clear h1 c0
 go_upto_region 1 with fail
 go_wp2_with fail
 with_reducible refine (c1.out _ H1.out).mono ?_
 rintro e w2 ⟨rfl,h2,_⟩;have H2:=qh h2;clear h2 c1
 go_upto_region 2 with fail
 go_wp2_with fail
 with_reducible refine (c2.out _ H2.out).mono ?_
 rintro e w3 ⟨rfl,h3,_⟩;have H3:=qh h3;clear h3 c2
 go_upto_region 3 with fail
 go_wp2_with fail
 with_reducible refine (c3.out _ H3.out).mono ?_
 rintro e w4 ⟨rfl,h4,_⟩;have H4:=qh h4;clear h4 c3
 go_upto_region 4 with fail
 go_wp2_with fail
 with_reducible refine (c4.out _ H4.out).mono ?_
 rintro e w5 ⟨rfl,h5,_⟩;have H5:=qh h5;clear h5 c4
 go_upto_region 5 with fail
 refine AF (T:=fun _=>false) (S:=fun w'=>Below w5.heap.size w5 w') (by kernel_rfl) (Below.refl w5.heap.size w5).drew (fun hHeld=>?_)
 have hkr:Below w5.heap.size w5 w5.drew:=(Below.refl w5.heap.size w5).drew
 refine qs 0 31 hHeld ?_
 refine qs 1 32 hHeld ?_
 refine qs 2 33 hHeld ?_
 refine qs 3 34 hHeld ?_
 refine qs 4 35 hHeld ?_
 refine qs 5 36 hHeld ?_
 refine qs 6 37 hHeld ?_
 refine qs 7 38 hHeld ?_
 refine qs 8 39 hHeld ?_
 refine qs 9 40 hHeld ?_
 refine qs 10 41 hHeld ?_
 refine qs 11 42 hHeld ?_
 refine qs 12 43 hHeld ?_
 refine qs 13 44 hHeld ?_
 refine qs 14 45 hHeld ?_
 refine qs 15 46 hHeld ?_
 refine qs 16 47 hHeld ?_
 refine qs 17 48 hHeld ?_
 refine qs 20 51 hHeld ?_
 obtain ⟨w6,YJ⟩:∃ wzz,w5.drew.alloc (.cells #[.pointer (some ⟨b,5,none⟩),.pointer (some ⟨b,6,none⟩),.pointer (some ⟨b,7,none⟩),.pointer (some ⟨b,8,none⟩),.pointer (some ⟨b,9,none⟩),.pointer (some ⟨b,10,none⟩)] 200)=wzz:=⟨_,rfl⟩
 have Iz:Below w5.drew.heap.size w5.drew w6:=by rw [← YJ];exact (Below.refl _ _).alloc (Nat.le_refl _) _
 have hkr:=hkr.trans (Iz.mono hkr.size)
 refine qo 18 fun K hK=>?_
 go_simp
 (try rw [YJ])
 refine hK.out _ _ (fun _=>(Below.refl w5.heap.size w5).drew.trans (Iz.mono (Below.refl w5.heap.size w5).drew.size)) (fun _=>?_)
 clear hK K hHeld
 (try simp only [Act.put,qS,qZ,qU])
 refine Di (S':=fun w'=>Below w6.heap.size w6 w') (fun _ h=>((Below.refl w5.heap.size w5).drew.trans (Iz.mono (Below.refl w5.heap.size w5).drew.size)).trans (h.mono (hkr.size))) _ _ _ _ ?_
 have hHeld:(fun w'=>Below w6.heap.size w6 w') w6:=Below.refl _ _
 refine qs 19 50 hHeld ?_
 refine qd ?_
 have Dz:Hid (AP w6 w5.heap.size #[.pointer (some ⟨b,5,none⟩),.pointer (some ⟨b,6,none⟩),.pointer (some ⟨b,7,none⟩),.pointer (some ⟨b,8,none⟩),.pointer (some ⟨b,9,none⟩),.pointer (some ⟨b,10,none⟩)] 200):=by
  show AP _ _ _ _
  rw [← YJ]
  exact AP.new w5.drew _ _
 have H6:Hid (P 5 w6):=by
  show P 5 w6
  rw [← YJ]
  exact HE.out.al 5 _ _ (HE.out.dr 5 _ H5.out)
 obtain ⟨ga,hga⟩:∃ x,w5.heap.size=x:=⟨_,rfl⟩
 rw [hga] at Dz ⊢
 clear YJ Iz hHeld hkr hga
 go_wp2_with fail
 go_loopw [5,51] (fun _ i wr=>∃ k:Nat,i=.int .i64 k∧k≤6∧Hid (P (5+k) wr)∧Hid (AP wr ga #[.pointer (some ⟨b,5,none⟩),.pointer (some ⟨b,6,none⟩),.pointer (some ⟨b,7,none⟩),.pointer (some ⟨b,8,none⟩),.pointer (some ⟨b,9,none⟩),.pointer (some ⟨b,10,none⟩)] 200)) (fun _ i _=>6-(intOf i).toNat)
 case atStart=>exact ⟨0,rfl,by omega,H6,Dz⟩
 case round =>
  obtain ⟨k,rfl,hk,HP,HB⟩:=hrel
  by_cases hlt:k<6
  · have q0:=HB.out.at k _ (sW b hlt)
    have q4:=HE.out.at4 (5+k) wr (by omega) HP.out
    have hsub:IntKind.i64.wrap (nb-1)=nb-1:=by rw [IntKind.wrap_i64];omega
    have hki:(k:Int)<6:=by omega
    have HC:Hid (Calls Tryz.prog g (#[.pointer (some ⟨b,5+k,none⟩),.int .i64 1,.int .i64 (nb-1)]++cb) wr fun e w'=>e=.returned (.tuple #[])∧P (5+k+1) w'∧∀ ga cs,AP wr ga cs 200→AP w' ga cs 200) :=
     HE.out.go (5+k) 1 (nb-1) (.inr (.inr (.inr (.inr (.inr ⟨by omega,by omega,rfl,rfl⟩))))) wr HP.out
    go_wp2_with fail
    with_reducible refine HC.out.mono ?_
    rintro e w7 ⟨rfl,h7,hb7⟩
    have H7:=qh h7
    have Ew:=qh (hb7 _ _ HB.out)
    clear h7 hb7
    go_wp2_with fail
    go_roundw
    case rel=>exact ⟨k+1,by go_num,by omega,H7,Ew⟩
    case measure=>simp [intOf];omega
  · obtain rfl:k=6:=by omega
    go_wp2_with fail
    (try simp only [Exit.inBlock,Exit.then])
    refine bodyPost_end (results_none rfl _ _ _) rfl ?_
    exact ⟨rfl,HP.out⟩
end
section
open Go.RowKit
attribute [local go_sem] Oper.semAt_some
theorem fC {l r:List UInt8} (hl:l.length=r.length) (h:∀ k,k<l.length→nth 0 l k=nth 0 r k):l=r:=by
 apply List.ext_getElem hl
 intro i h1 h2
 have:=h i h1
 rwa [Ac 0 l i h1,Ac 0 r i h2] at this
theorem fD {u v:UInt8} (h:u≠v):¬ (u.toNat:Int)=(v.toNat:Int):=fun e=>h (UInt8.toNat_inj.1 (by omega))
theorem WQ (w:World) (S:Nat→Prop) (v1 v2:Value) (l r:List UInt8) (h1:AX w S v1 l) (h2:AX w S v2 r) (hl:l.length≤140737488355328) (hr:r.length≤140737488355328) :
 Calls Tryz.prog 97 #[v1,v2] w fun e w'=>e=.returned (.bool (decide (l=r)))∧Below w.heap.size w w':=by
 obtain ⟨A1,d1,rfl,hc1,hr1⟩:=h1
 obtain ⟨A2,d2,rfl,hc2,hr2⟩:=h2
 have HC1:=qh (fun hp=>BU hr1 hp)
 have fE:=qh (fun hp=>BU hr2 hp)
 clear hr1 hr2
 by_cases hlen:l.length=r.length
 · have HE:=qh (fun h=>fC (l:=l) (r:=r) hlen h)
   have ET:Hid (∀ k,nth 0 l k≠nth 0 r k→l≠r):=fun k hk e=>hk (by rw [e])
   have HLR:=qh hlen
   rw [← hlen] at fE ⊢
   generalize hnn:l.length=n at *
   clear hnn hlen
   go_enter Tryz.func97,Tryz.ntmps97
   go_wp2_with fail
   go_loopw [5,13] (fun _ i wr=>∃ k:Nat,i=.int .i64 k∧k≤n∧(∃ m,wr=w.drewN m)∧Hid (∀ j,j<k→nth 0 l j=nth 0 r j)) (fun _ i _=>n-(intOf i).toNat)
   case atStart=>exact ⟨0,rfl,by omega,⟨0,rfl⟩,fun j hj=>by omega⟩
   case round =>
    obtain ⟨k,rfl,hk,⟨m,rfl⟩,HJ⟩:=hrel
    by_cases hlt:k<n
    · obtain ⟨b1,o1,rfl,_,sZ⟩:=HC1.out (by omega)
      obtain ⟨b2,o2,rfl,_,si⟩:=fE.out (by omega)
      have q1:=sZ k hlt
      have q2:=si k (by have:=HLR.out;omega)
      have hki:(k:Int)<(n:Int):=by omega
      by_cases he:nth 0 l k=nth 0 r k
      · have HJ2:Hid (∀ j,j<k+1→nth 0 l j=nth 0 r j):=fun j hj=>by
          by_cases hjk:j<k
          · exact HJ.out j hjk
          · obtain rfl:j=k:=by omega
            exact he
        rw [← he] at q2
        have hb:(((nth 0 l k).toNat:Int) != ((nth 0 l k).toNat:Int))=false:=by simp
        clear sZ si he
        generalize nth 0 l k=u at *
        go_upto_region 6 with fail
        go_quiet (fail)
        go_wp2_with fail
        go_roundw
        case rel=>exact ⟨k+1,by go_num,by omega,⟨_,rfl⟩,HJ2⟩
        case measure=>simp [intOf];omega
      · have HF:=qh (ET.out k he)
        have hb:(((nth 0 l k).toNat:Int) != ((nth 0 r k).toNat:Int))=true:=by rw [bne_iff_ne];exact fD he
        have hb2:(((nth 0 l k).toNat:Int)==((nth 0 r k).toNat:Int))=false:=by rw [beq_eq_false_iff_ne];exact fD he
        clear sZ si he
        generalize nth 0 l k=u at *
        generalize nth 0 r k=v at *
        go_upto_region 6 with fail
        go_quiet (fail)
        go_wp2_with fail
        go_ret
        exact ⟨by rw [decide_eq_false HF.out];rfl,Ay (Ay (Below.refl _ _) _) _⟩
    · obtain rfl:k=n:=by omega
      have HF:=qh (HE.out HJ.out)
      go_wp2_with fail
      go_ret
      exact ⟨by rw [decide_eq_true HF.out];rfl,Ay (Below.refl _ _) _⟩
 · have hb:((l.length:Int) != (r.length:Int))=true:=by rw [bne_iff_ne];omega
   have hb2:((l.length:Int)==(r.length:Int))=false:=by rw [beq_eq_false_iff_ne];omega
   have HF:Hid (l≠r):=fun e=>hlen (by rw [e])
   clear hlen
   generalize l.length=n at *
   generalize r.length=m at *
   go_enter Tryz.func97,Tryz.ntmps97
   go_wp2_with fail
   go_ret
   exact ⟨by rw [decide_eq_false HF.out];rfl,Below.refl _ _⟩
end
section
open Go.RowKit Go.Shelf
attribute [local go_sem] Oper.semAt_some
abbrev Gu (s:Nl):Array Value:=#[.int .i64 s.tx,.int .i64 s.time,.int .i64 s.unit,.int .i64 s.data,.int .i64 s.blocks,.int .i64 s.top,.int .i64 s.BQ,.int .i64 s.FD,.int .i64 s.Hg,.int .i64 s.FE,.int .i64 s.mover]
def xR (k:Nat):Int:=if k=2 then 1 else if k=4 then 2 else if k<5 then 0 else 1
def xS (nb:Int) (k:Nat):Int:=if k=0 then 2147483647 else if k=1 then 16777215 else if k=2 then 65536 else if k=3 then 65536 else if k=4 then 14400 else nb-1
theorem Sj {nb:Int} {k:Nat} {lo hi:Int} (h:Side nb k lo hi):k<11∧lo=xR k∧hi=xS nb k:=by
 rcases h with ⟨rfl,rfl,rfl⟩|⟨rfl,rfl,rfl⟩|⟨rfl,rfl,rfl⟩|⟨rfl,rfl,rfl⟩|⟨rfl,rfl,rfl⟩|⟨h1,h2,rfl,rfl⟩
 · exact ⟨by omega,rfl,rfl⟩
 · exact ⟨by omega,rfl,rfl⟩
 · exact ⟨by omega,rfl,rfl⟩
 · exact ⟨by omega,rfl,rfl⟩
 · exact ⟨by omega,rfl,rfl⟩
 · refine ⟨h2,?_,?_⟩
   · unfold xR;rw [if_neg (by omega),if_neg (by omega),if_neg (by omega)]
   · unfold xS;rw [if_neg (by omega),if_neg (by omega),if_neg (by omega),if_neg (by omega),if_neg (by omega)]
def Lu (s:Nl):Nat→Bool
 | 0=>true
 | k+1=>Lu s k && Er (xR k) (xS s.blocks k) (nth 0 (SS s) k)
theorem Uj (s:Nl):Lu s 11=DX s:=by
 simp [Lu,DX,xR,xS,SS,nth,List.getD]
theorem fF (s:Nl) {k:Nat} (h:k<11):(Gu s)[k]? = some (.int .i64 (nth 0 (SS s) k)):=by
 have:k=0∨k=1∨k=2∨k=3∨k=4∨k=5∨k=6∨k=7∨k=8∨k=9∨k=10:=by omega
 rcases this with rfl|rfl|rfl|rfl|rfl|rfl|rfl|rfl|rfl|rfl|rfl <;> rfl
theorem WR (w:World) (a k:Nat) (n lo hi:Int) (ob:Nat) (ok:Bool) (hc:w.cell? ⟨a,k,none⟩=some (.int .i64 n)) (ho:One w ob (.bool ok) 4) :
 Calls Tryz.prog 190 #[.pointer (some ⟨a,k,none⟩),.int .i64 lo,.int .i64 hi,.pointer (some ⟨ob,0,none⟩)] w fun e w'=>e=.returned (.tuple #[])∧w'=w.setCell ⟨ob,0,none⟩ (.bool (ok && Er lo hi n)):=by
 have o0:=ho.cell
 have o1:=ho.free
 clear ho
 cases ok with
 | false =>
  have e:(false && Er lo hi n)=false:=rfl
  rw [e]
  go_enter Tryz.func190,Tryz.ntmps190
  go_wp2_with fail
  (try simp only [Exit.inBlock,Exit.then])
  refine bodyPost_end (results_none rfl _ _ _) rfl ?_
  exact ⟨rfl,rfl⟩
 | true =>
  by_cases h1:lo≤n
  · have d1:decide (lo≤n)=true:=decide_eq_true h1
    by_cases h2:n≤hi
    · have d2:decide (n≤hi)=true:=decide_eq_true h2
      have e:(true && Er lo hi n)=true:=by unfold Er;rw [d1,d2];rfl
      rw [e]
      go_enter Tryz.func190,Tryz.ntmps190
      go_wp2_with fail
      (try simp only [Exit.inBlock,Exit.then])
      refine bodyPost_end (results_none rfl _ _ _) rfl ?_
      exact ⟨rfl,rfl⟩
    · have d2:decide (n≤hi)=false:=decide_eq_false h2
      have e:(true && Er lo hi n)=false:=by unfold Er;rw [d1,d2];rfl
      rw [e]
      go_enter Tryz.func190,Tryz.ntmps190
      go_wp2_with fail
      (try simp only [Exit.inBlock,Exit.then])
      refine bodyPost_end (results_none rfl _ _ _) rfl ?_
      exact ⟨rfl,rfl⟩
  · have d1:decide (lo≤n)=false:=decide_eq_false h1
    have e:(true && Er lo hi n)=false:=by unfold Er;rw [d1];rfl
    rw [e]
    go_enter Tryz.func190,Tryz.ntmps190
    go_wp2_with fail
    (try simp only [Exit.inBlock,Exit.then])
    refine bodyPost_end (results_none rfl _ _ _) rfl ?_
    exact ⟨rfl,rfl⟩
theorem Qh:∀ args w,(callFunc 190 args).run Tryz.prog w=.ok (.enter 190 args) w:=enters_of Tryz.func190 (by kernel_rfl) rfl
theorem Zb (w0:World) (g ob:Nat) (s:Nl) (hne:ob≠g):Si 190 g #[.pointer (some ⟨ob,0,none⟩)] s.blocks fun k w=>AP w g (Gu s) 69∧One w ob (.bool (Lu s k)) 4∧Touch (fun x=>x=ob) w0 w where
 al:=fun k w o ⟨h1,h2,h3⟩=>⟨(Below.heap_alloc w o g h1.lt).trans h1,h2.alloc o,h3.trans (Touch.alloc o)⟩
 dr:=fun k w ⟨h1,h2,h3⟩=>⟨h1,h2,h3.trans Touch.drew⟩
 at4:=fun k w _ h=>h.1.at 4 _ rfl
 go:=fun k lo hi hs w ⟨h1,h2,h3⟩=>by
  obtain ⟨hk,rfl,rfl⟩:=Sj hs
  refine (WR w g k (nth 0 (SS s) k) (xR k) (xS s.blocks k) ob (Lu s k) (h1.at k _ (fF s hk)) h2).mono ?_
  rintro e w' ⟨rfl,rfl⟩
  refine ⟨rfl,⟨h1.far hne 0 _,h2.Dc,h3.trans (Touch.Dc (R:=fun x=>x=ob) (p:=⟨ob,0,none⟩) rfl)⟩,fun ga cs hb=>hb.far (fun e=>?_) 0 _⟩
  subst e
  unfold One at h2
  unfold AP at hb
  rw [h2] at hb
  injection hb with hb
  injection hb with _ h4
  exact absurd h4 (by decide)
theorem Sk (w:World) (s:Nl) (hn0 : -4611686018427387904≤s.blocks) (hn1:s.blocks≤4611686018427387904) :
 Calls Tryz.prog 133 #[IW s] w fun e w'=>e=.returned (.bool (DX s))∧Below w.heap.size w w':=by
 have hb:=AP.new w (Gu s) 69
 obtain ⟨w1,hw1⟩:∃ x,w.alloc (.cells (Gu s) 69)=x:=⟨_,rfl⟩
 have hz1:w1.heap.size=w.heap.size+1:=by rw [← hw1];exact World.size_alloc _ _
 have hB1:Below w.heap.size w w1:=by rw [← hw1];exact (Below.refl _ _).alloc (Nat.le_refl _) _
 rw [hw1] at hb
 have ho:=One.new w1 (.bool true) 4
 have hb2:AP (w1.alloc (.cells #[.bool true] 4)) w.heap.size (Gu s) 69:=(Below.heap_alloc w1 _ w.heap.size hb.lt).trans hb
 have hB2:Below w.heap.size w (w1.alloc (.cells #[.bool true] 4)):=hB1.alloc (by omega) _
 rw [hz1] at ho
 have HC:Hid (Calls Tryz.prog 94 #[.pointer (some ⟨w.heap.size,0,none⟩),.func (.func 190) #[] #[.pointer (some ⟨w.heap.size+1,0,none⟩)]] (w1.alloc (.cells #[.bool true] 4)) fun e w'=>e=.returned (.tuple #[])∧One w' (w.heap.size+1) (.bool (DX s)) 4∧Below w.heap.size w w') :=
  (PD _ 190 w.heap.size #[.pointer (some ⟨w.heap.size+1,0,none⟩)] s.blocks _ Qh hn0 hn1 (Zb (w1.alloc (.cells #[.bool true] 4)) w.heap.size (w.heap.size+1) s (by omega)) ⟨hb2,ho,Touch.refl⟩).mono fun e w' ⟨h1,h2,h3,h4⟩ =>
   ⟨h1,by rw [Uj] at h3;exact h3,hB2.trans ((h4.weak (R':=fun x=>w.heap.size≤x) (fun x e=>by omega)).below (fun x h=>h) (by simp;omega))⟩
 subst hw1
 clear hb ho hb2 hB1 hB2 hz1
 go_enter Tryz.func133,Tryz.ntmps133
 go_wp2_with (go_at_call 94;(with_reducible refine HC.out.mono ?_);rintro e w5 ⟨rfl,h5,BS⟩;have o5:=h5.cell;have CE:=qh BS;clear h5 BS)
 go_ret
 exact ⟨rfl,CE.out⟩
end
section
open Go.RowKit
attribute [local go_sem] Oper.semAt_some
theorem NT (w:World):Calls Tryz.prog 201 #[] w fun e w'=>e=.returned (.agg #[.int .i64 0,.int .i64 281474976710656])∧Below w.heap.size w w':=by
 have hB:Below w.heap.size w (w.alloc (.cells #[.int .i64 0,.int .i64 281474976710656] 283)):=(Below.refl _ _).alloc (Nat.le_refl _) _
 have h:=AP.new w #[.int .i64 0,.int .i64 281474976710656] 283
 have z0:=h.at 0 _ rfl
 have z1:=h.at 1 _ rfl
 clear h
 go_enter Tryz.func201,Tryz.ntmps201
 go_wp2
 exact bodyPost_ret (v:=.agg #[.int .i64 0,.int .i64 281474976710656]) (by simp [results,Tryz.results201,go_sem,z0,z1]) rfl ⟨rfl,hB⟩
theorem Qi (w:World) (lo hi:Int):Calls Tryz.prog 246 #[.agg #[.int .i64 lo,.int .i64 hi]] w fun e w'=>e=.returned (.bool (Cn lo hi))∧Below w.heap.size w w':=by
 have hB:Below w.heap.size w (w.alloc (.cells #[.int .i64 lo,.int .i64 hi] 283)):=(Below.refl _ _).alloc (Nat.le_refl _) _
 have h:=AP.new w #[.int .i64 lo,.int .i64 hi] 283
 have HA:=qh (NT (w.alloc (.cells #[.int .i64 lo,.int .i64 hi] 283)))
 have HR:Hid (Cn lo hi=(decide (0≤lo) && decide (lo≤hi) && decide (hi≤281474976710656))):=rfl
 go_enter Tryz.func246,Tryz.ntmps246
 go_upto_region 1 with fail
 generalize w.alloc (.cells #[.int .i64 lo,.int .i64 hi] 283)=w1 at *
 go_upto_region 2 with (go_at_call 201;refine HA.out.mono ?_;rintro e w2 ⟨rfl,hB2⟩)
 have h2:=h.below hB2 h.lt
 have h3:=AP.new w2 #[.int .i64 0,.int .i64 281474976710656] 283
 have h23:AP (w2.alloc (.cells #[.int .i64 0,.int .i64 281474976710656] 283)) w.heap.size #[.int .i64 lo,.int .i64 hi] 283:=(Below.heap_alloc _ _ _ h2.lt).trans h2
 have HB:Hid (Below w.heap.size w (w2.alloc (.cells #[.int .i64 0,.int .i64 281474976710656] 283))):=(hB.trans (hB2.mono hB.size)).alloc (Nat.le_trans hB.size hB2.size) _
 generalize w2.alloc (.cells #[.int .i64 0,.int .i64 281474976710656] 283)=w3 at *
 have x0:=h23.at 0 _ rfl
 have x1:=h23.at 1 _ rfl
 have y0:=h3.at 0 _ rfl
 have y1:=h3.at 1 _ rfl
 clear hB h hB2 h2 h3 h23
 by_cases a:0≤lo
 · by_cases b:lo≤hi
   · by_cases c:hi≤281474976710656
     · have HF:Hid (Cn lo hi=true):=by show _=_;rw [HR.out,decide_eq_true a,decide_eq_true b,decide_eq_true c];rfl
       go_wp2
       go_ret
       exact ⟨by rw [HF.out];rfl,HB.out⟩
     · have HF:Hid (Cn lo hi=false):=by show _=_;rw [HR.out,decide_eq_true a,decide_eq_true b,decide_eq_false c];rfl
       go_wp2
       go_ret
       exact ⟨by rw [HF.out];rfl,HB.out⟩
   · have HF:Hid (Cn lo hi=false):=by show _=_;rw [HR.out,decide_eq_true a,decide_eq_false b];rfl
     go_wp2
     go_ret
     exact ⟨by rw [HF.out];rfl,HB.out⟩
 · have HF:Hid (Cn lo hi=false):=by show _=_;rw [HR.out,decide_eq_false a];rfl
   go_wp2
   go_ret
   exact ⟨by rw [HF.out];rfl,HB.out⟩
theorem Uk (w:World) (lo hi k:Int):Calls Tryz.prog 247 #[.agg #[.int .i64 lo,.int .i64 hi],.int .i64 k] w fun e w'=>e=.returned (.bool (BP lo hi k))∧Below w.heap.size w w':=by
 have HB:Hid (Below w.heap.size w (w.alloc (.cells #[.int .i64 lo,.int .i64 hi] 283))):=(Below.refl _ _).alloc (Nat.le_refl _) _
 have h:=AP.new w #[.int .i64 lo,.int .i64 hi] 283
 have HR:Hid (BP lo hi k=(decide (lo≤k) && decide (k<hi))):=rfl
 go_enter Tryz.func247,Tryz.ntmps247
 go_upto_region 1 with fail
 generalize w.alloc (.cells #[.int .i64 lo,.int .i64 hi] 283)=w1 at *
 have x0:=h.at 0 _ rfl
 have x1:=h.at 1 _ rfl
 clear h
 by_cases a:lo≤k
 · by_cases b:k<hi
   · have HF:Hid (BP lo hi k=true):=by show _=_;rw [HR.out,decide_eq_true a,decide_eq_true b];rfl
     go_wp2
     go_ret
     exact ⟨by rw [HF.out];rfl,HB.out⟩
   · have HF:Hid (BP lo hi k=false):=by show _=_;rw [HR.out,decide_eq_true a,decide_eq_false b];rfl
     go_wp2
     go_ret
     exact ⟨by rw [HF.out];rfl,HB.out⟩
 · have HF:Hid (BP lo hi k=false):=by show _=_;rw [HR.out,decide_eq_false a];rfl
   go_wp2
   go_ret
   exact ⟨by rw [HF.out];rfl,HB.out⟩
end
end Go.Proofs.YtpenklpdjpkigaaGreat
