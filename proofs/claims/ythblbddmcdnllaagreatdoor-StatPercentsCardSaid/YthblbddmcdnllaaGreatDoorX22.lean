/- A part of the proof: Few, PBox, WPool3, WRef18b. -/
import Derived.Test.YthblbddmcdnllaaGreatDoorX1
import Derived.Test.YthblbddmcdnllaaGreatDoorProg
import Derived.Test.YthblbddmcdnllaaGreatDoorX7
import Derived.Test.YthblbddmcdnllaaGreatDoorX9
import Derived.Deep.QuietTactic
import Derived.BigQuiet
import Derived.Outline
import Derived.Test.YthblbddmcdnllaaGreatDoorY1
set_option maxHeartbeats 6400000
set_option linter.unusedVariables false
set_option linter.unusedSimpArgs false
namespace Go.Proofs.YthblbddmcdnllaaGreatDoor
section
open Go.RowKit
end
section
open Go.RowKit
abbrev Nq (p:Pool) (A:Option Addr) (n c:Nat):Obj:=.cells #[.int .i64 p.tx,.int .i64 p.time,.int .i64 p.unit,.int .i64 p.data,.slice A n c] 32
def MV (w:World) (b:Nat) (p:Pool) (A:Option Addr) (n c:Nat):Prop:=w.heap[b]? = some (.cells #[.int .i64 p.tx,.int .i64 p.time,.int .i64 p.unit,.int .i64 p.data,.slice A n c] 32 (0,0))
theorem MV.new (w:World) (p:Pool) (A:Option Addr) (n c:Nat):MV (w.alloc (.cells #[.int .i64 p.tx,.int .i64 p.time,.int .i64 p.unit,.int .i64 p.data,.slice A n c] 32)) w.heap.size p A n c:=heap_alloc_new w _
theorem MV.below {w w':World} {b:Nat} {p:Pool} {A:Option Addr} {n c k:Nat} (h:MV w b p A n c) (hb:Below k w w') (hk:b<k):MV w' b p A n c:=(hb.block b hk).trans h
theorem MV.cells {w:World} {b:Nat} {p:Pool} {A:Option Addr} {n c:Nat} (h:MV w b p A n c):w.cell? ⟨b,0,none⟩=some (.int .i64 p.tx)∧w.cell? ⟨b,1,none⟩=some (.int .i64 p.time)∧w.cell? ⟨b,2,none⟩=some (.int .i64 p.unit)∧w.cell? ⟨b,3,none⟩=some (.int .i64 p.data)∧w.cell? ⟨b,4,none⟩=some (.slice A n c):=by
 unfold MV at h
 simp [World.cell?,h]
theorem cells5 {w:World} {b:Nat} {t:TypeId} {a0 a1 a2 a3 a4:Value} (h:w.heap[b]? = some (.cells #[a0,a1,a2,a3,a4] t (0,0))) :
 w.cell? ⟨b,0,none⟩=some a0∧w.cell? ⟨b,1,none⟩=some a1∧w.cell? ⟨b,2,none⟩=some a2∧w.cell? ⟨b,3,none⟩=some a3∧w.cell? ⟨b,4,none⟩=some a4:=by
 simp [World.cell?,h]
end
section
open Go.RowKit
theorem PT {p:Pool} (h:p.ok) (hl:p.Bc.length≤4096):p.count≤4611686018427387904:=by
 have h1:=Nj (c:=5864062014805) p.Bc (fun d hd=>(h.2.2.2.2.1 d hd).2.2.2.2.2)
 have h2:p.Bc.length*5864062014805≤4096*5864062014805:=Nat.mul_le_mul_right _ hl
 unfold Pool.count
 omega
set_option maxRecDepth 100000 in
theorem NE (w:World) (S:Nat→Prop) (v:Value) (p:Pool) (hS:∀ b,S b→b<w.heap.size) (h:FI w S v p) (hok:p.ok) :
 Calls Tryz.prog 12 #[v] w fun e w'=>e=.returned (.int .i64 (CP p))∧Below w.heap.size w w':=by
 have hp0:=h
 obtain ⟨A,c,rfl,hc,hr⟩:=h
 have hnl:=hok.2.2.2.2.2
 have hkb:=fun k (hk:k<p.Bc.length)=>(hok.dev hk).2.2.2.2.2
 generalize hl0:p.Bc.length=n at *
 have hl:=qh hl0
 clear hl0
 have bN:=qh hkb
 clear hkb
 have hw1:Below (w.heap.size+1) (w.alloc (.cells #[.int .i64 p.tx,.int .i64 p.time,.int .i64 p.unit,.int .i64 p.data,.slice A n c] 32)) ((w.alloc (.cells #[.int .i64 p.tx,.int .i64 p.time,.int .i64 p.unit,.int .i64 p.data,.slice A n c] 32)).alloc (.cells #[.int .i64 p.time] 3)):=(Below.refl _ _).alloc (by simp) _
 have hw0:Below w.heap.size w (w.alloc (.cells #[.int .i64 p.tx,.int .i64 p.time,.int .i64 p.unit,.int .i64 p.data,.slice A n c] 32)):=(Below.refl _ _).alloc (Nat.le_refl _) _
 have ht:=NC ((w.alloc (.cells #[.int .i64 p.tx,.int .i64 p.time,.int .i64 p.unit,.int .i64 p.data,.slice A n c] 32)).alloc (.cells #[.int .i64 p.time] 3))
  (Lt (w.heap.size+2)) (.slice (some ⟨w.heap.size+1,0,none⟩) 1 1) p.tx [p.time] (by simp) (Bp.block (fun _=>rfl) (heap_alloc2_new w _ _) rfl rfl (by omega) (by simp [Lt]))
 have HT:=qh ht
 clear ht
 by_cases hh:Gx p=true
 · have h1:EE p.tx [p.time]=true:=by simp [Gx] at hh;exact hh.1
   have h2:FC p.unit 1 65536=true:=by simp [Gx] at hh;exact hh.2.1
   have h3:FC p.data 0 65536=true:=by simp [Gx] at hh;exact hh.2.2
   have pM:=Ki.1 h3
   have hd0:=pM.1
   have hd1:=pM.2
   clear pM
   have HH:=qh hh
   clear hh
   by_cases hln:4096<n
   · have e:CP p=2:=by
       unfold CP
       rw [if_neg (by rw [HH.out];simp),if_pos (by simp only [KI,decide_eq_false_iff_not];rw [hl.out];omega)]
     rw [e]
     clear e
     go_enter Tryz.func12,Tryz.ntmps12
     go_wp2_with (first
      | (go_at_call 29;refine (EM _ _ _ _).mono ?_;rintro e w' ⟨rfl,rfl⟩)
      | (go_at_call 28;refine HT.out.mono ?_;rintro e w' ⟨rfl,rfl⟩))
     go_ret
     exact ⟨rfl,hw0.trans (hw1.mono (by omega))⟩
   · have hcs:=PT hok (by rw [hl.out];omega)
     have hct:=fun w2 (hB:Below w.heap.size w w2)=>UJ w2 S (.agg #[.int .i64 p.tx,.int .i64 p.time,.int .i64 p.unit,.int .i64 p.data,.slice A n c]) p (fun b hb=>Nat.lt_of_lt_of_le (hS b hb) hB.size)
      (hp0.below hB hS) (by rw [hl.out];omega) hcs
     have pO:=qh hct
     have hcn:0≤p.count:=Fa _
     clear hct hp0
     have hw2:=hw0.trans (hw1.mono (by omega))
     by_cases hcc:16384<p.count
     · have e:CP p=2:=by
         unfold CP
         rw [if_neg (by rw [HH.out];simp),if_pos (by simp only [KI,decide_eq_false_iff_not];omega)]
       rw [e]
       clear e
       go_enter Tryz.func12,Tryz.ntmps12
       go_wp2_with (first
        | (go_at_call 29;refine (EM _ _ _ _).mono ?_;rintro e w' ⟨rfl,rfl⟩)
        | (go_at_call 28;refine HT.out.mono ?_;rintro e w' ⟨rfl,rfl⟩)
        | (go_at_call 21;refine (pO.out _ hw2).mono ?_;rintro e w3 ⟨rfl,hB3⟩))
       go_ret
       exact ⟨rfl,hw2.trans (hB3.mono (by simp;omega))⟩
     · have e:CP p=DR p.data (-1) p.Bc:=by
         unfold CP
         rw [if_neg (by rw [HH.out];simp),if_neg (by simp only [KI,Bool.not_eq_false,decide_eq_true_eq];rw [hl.out];omega)]
       rw [e]
       clear e
       go_enter Tryz.func12,Tryz.ntmps12
       go_wp2_with (first
        | (go_at_call 29;refine (EM _ _ _ _).mono ?_;rintro e w' ⟨rfl,rfl⟩)
        | (go_at_call 28;refine HT.out.mono ?_;rintro e w' ⟨rfl,rfl⟩)
        | (go_at_call 21;refine (pO.out _ hw2).mono ?_;rintro e w3 ⟨rfl,hB3⟩;have hb3:=hw1.trans (hB3.mono (by simp));have hq:=hb3.cell (p:=⟨w.heap.size,4,none⟩) (by simp);have hq4:w3.cell? ⟨w.heap.size,4,none⟩=some (.slice A n c):=hq.trans (by simp [World.cell?_alloc_new]);clear hq))
       go_loopw [3,39] (fun last i wr=>∃ k:Nat,k≤n∧i=.int .i64 k∧last=.int .i64 (ET p.Bc k)∧Below (w.heap.size+1) (w.alloc (.cells #[.int .i64 p.tx,.int .i64 p.time,.int .i64 p.unit,.int .i64 p.data,.slice A n c] 32)) wr∧Gq p.data p.Bc k) (fun _ i _=>n-(intOf i).toNat)
       case atStart=>exact ⟨0,by omega,rfl,rfl,hb3,Gq.zero _ _⟩
       case round =>
        clear hB3 hb3 hq4 pO HT
        obtain ⟨k,hk,rfl,rfl,hB,hA⟩:=hrel
        have HA:=qh hA
        have hB0:=hw0.trans (hB.mono (by omega))
        clear hA
        by_cases hlt:k<n
        · obtain ⟨b,off,rfl,hb,hcl⟩:=Iq (hr.keep Dy (fun _ h=>h) (AR hB0 hS)) (by rw [hl.out];omega)
          obtain ⟨c0,c1,c2,c3,A',c',c4,hc',hr'⟩:=hcl k (by rw [hl.out];omega)
          have hlt':=hlt
          rw [← hl.out] at hlt'
          have HD:=qh (fun hb=>HA.out.dev hlt' hb)
          have HM:=qh (fun h1 hb=>HA.out.maps hlt' h1 hb)
          have HN:=qh (fun h1 hb=>HA.out.next hlt' h1 hb)
          have HS:=qh (KJ p.Bc k)
          have nQ:=bN.out k hlt
          have hbs:b<wr.heap.size:=by have:=hS b hb;have:=hB0.size;omega
          have hq3:wr.cell? ⟨w.heap.size,3,none⟩=some (.int .i64 p.data):=(hB.cell (p:=⟨w.heap.size,3,none⟩) (by simp)).trans (by simp [World.cell?_alloc_new])
          have hws:w.heap.size<wr.heap.size:=by have:=hB.size;simp at this;omega
          have hS':∀ b,S b→b<wr.heap.size:=fun b hb=>by have:=hS b hb;omega
          clear hcl
          generalize nth Bb p.Bc k=d at *
          have hdv:=RD (wr.alloc (.cells #[.int .i64 d.id,.int .i64 d.tx,.int .i64 d.made,.int .i64 d.Bz,.slice A' d.maps.length c'] 71)) (.agg #[.int .i64 d.id,.int .i64 d.tx,.int .i64 d.made,.int .i64 d.Bz,.slice A' d.maps.length c']) S d (ET p.Bc k) ⟨A',c',rfl,hc',hr'.keep ES (fun _ h=>h) (DV hS' _)⟩
          have Zw:=qh hdv
          have HB:=hB.alloc (by simpa using hB.size) (.cells #[.int .i64 d.id,.int .i64 d.tx,.int .i64 d.made,.int .i64 d.Bz,.slice A' d.maps.length c'] 71)
          have hmp:=fun w4 (hB4:Below (wr.heap.size+1) (wr.alloc (.cells #[.int .i64 d.id,.int .i64 d.tx,.int .i64 d.made,.int .i64 d.Bz,.slice A' d.maps.length c'] 71)) w4)=>RF w4 S (.slice A' d.maps.length c') d.maps p.data (fun b hb=>by have:=hS' b hb;have:=hB4.size;simp at this;omega) (by omega)
           ⟨A',c',rfl,hc',hr'.keep ES (fun _ h=>h) ((DV hS' _).trans (AR hB4 (fun b hb=>by have:=hS' b hb;omega)))⟩ (by omega) (by omega)
          have vz:=qh hmp
          clear hdv hmp hr'
          by_cases hde:Cn d (ET p.Bc k)=0
          · have zG:(Cn d (ET p.Bc k) != 0)=false:=by simp [hde]
            have bO:=qh hde
            clear hde
            by_cases hme:Dj p.data d.maps=0
            · have hmb:(Dj p.data d.maps != 0)=false:=by simp [hme]
              have pQ:=qh hme
              clear hme
              go_wp2_with (first
               | (go_at_call 30;refine Zw.out.mono ?_;rintro e w4 ⟨rfl,hB4⟩;have bP:=hB4.mono (B':=wr.heap.size+1) (by simp);have zH:=fun o=>hB4.cell (p:=⟨wr.heap.size,o,none⟩) (by simp);have zI:=hB4.cell (p:=⟨w.heap.size,3,none⟩) (by simp;omega))
               | (go_at_call 31;refine (vz.out w4 bP).mono ?_;rintro e w5 ⟨rfl,BX⟩;have zJ:=fun o=>BX.cell (p:=⟨wr.heap.size,o,none⟩) (by have:=hB4.size;simp at this;simp;omega)))
              go_roundw
              case rel=>exact ⟨k+1,by omega,by go_num,by rw [HS.out],HB.trans ((hB4.trans (BX.mono hB4.size)).mono (by simp;omega)),HN.out bO.out pQ.out⟩
              case measure=>simp [intOf];omega
            · have hmb:(Dj p.data d.maps != 0)=true:=by simp [hme]
              have pQ:=qh hme
              clear hme
              go_wp2_with (first
               | (go_at_call 30;refine Zw.out.mono ?_;rintro e w4 ⟨rfl,hB4⟩;have bP:=hB4.mono (B':=wr.heap.size+1) (by simp);have zH:=fun o=>hB4.cell (p:=⟨wr.heap.size,o,none⟩) (by simp);have zI:=hB4.cell (p:=⟨w.heap.size,3,none⟩) (by simp;omega))
               | (go_at_call 31;refine (vz.out w4 bP).mono ?_;rintro e w5 ⟨rfl,BX⟩;have zJ:=fun o=>BX.cell (p:=⟨wr.heap.size,o,none⟩) (by have:=hB4.size;simp at this;simp;omega)))
              go_ret
              exact ⟨GH (HM.out bO.out pQ.out).symm,hw0.trans ((HB.trans ((hB4.trans (BX.mono hB4.size)).mono (by simp;omega))).mono (by omega))⟩
          · have zG:(Cn d (ET p.Bc k) != 0)=true:=by simp [hde]
            have bO:=qh hde
            clear hde
            go_wp2_with (go_at_call 30;refine Zw.out.mono ?_;rintro e w4 ⟨rfl,hB4⟩)
            go_ret
            exact ⟨GH (HD.out bO.out).symm,hw0.trans ((HB.trans (hB4.mono (by simp;omega))).mono (by omega))⟩
        · go_wp2
          go_ret
          exact ⟨GH (HA.out.done (by rw [hl.out];omega)).symm,hB0⟩
 · have hh':Gx p=false:=by simpa using hh
   have e:CP p=2:=by unfold CP;rw [if_pos hh']
   rw [e]
   have hor:EE p.tx [p.time]=false∨(EE p.tx [p.time]=true∧FC p.unit 1 65536=false)∨(EE p.tx [p.time]=true∧FC p.unit 1 65536=true∧FC p.data 0 65536=false):=by
    unfold Gx at hh'
    cases h3:EE p.tx [p.time] <;> cases h4:FC p.unit 1 65536 <;> cases h5:FC p.data 0 65536 <;> simp_all
   clear hh hh' e hp0
   rcases hor with h3|⟨h3,h4⟩|⟨h3,h4,h5⟩
   all_goals
    go_enter Tryz.func12,Tryz.ntmps12
    go_wp2_with (first
     | (go_at_call 29;refine (EM _ _ _ _).mono ?_;rintro e w' ⟨rfl,rfl⟩)
     | (go_at_call 28;refine HT.out.mono ?_;rintro e w' ⟨rfl,rfl⟩))
    go_ret
    exact ⟨rfl,hw0.trans (hw1.mono (by omega))⟩
end
section
open Go.RowKit
end
end Go.Proofs.YthblbddmcdnllaaGreatDoor
