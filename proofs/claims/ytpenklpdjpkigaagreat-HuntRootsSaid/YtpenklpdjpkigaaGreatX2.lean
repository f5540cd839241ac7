/- A part of the proof: WRSeal1, WROpen, WRIn. -/
import Derived.Test.YtpenklpdjpkigaaGreatY16
import Derived.Test.YtpenklpdjpkigaaGreatY10
import Derived.Test.YtpenklpdjpkigaaGreatY6
import Derived.Test.YtpenklpdjpkigaaGreatY17
import Derived.Test.YtpenklpdjpkigaaGreatY5
import Derived.Test.YtpenklpdjpkigaaGreatY13
import Derived.Test.YtpenklpdjpkigaaGreatY15
import Derived.Test.YtpenklpdjpkigaaGreatY3
import Derived.Test.YtpenklpdjpkigaaGreatY1
set_option maxHeartbeats 6400000
set_option linter.unusedVariables false
set_option linter.unusedSimpArgs false
namespace Go.Proofs.YtpenklpdjpkigaaGreat
section
open Go.RowKit
attribute [local go_sem] Oper.semAt_some
theorem Pb (w:World) (kind no:Int):Calls Tryz.prog 164 #[.int .i64 kind,.int .i64 no] w fun e w'=>e=.returned (.bool (decide (De kind no)))∧w'=w:=by
 by_cases h1:1≤kind
 · by_cases h2:kind≤4
   · by_cases h3:0≤no
     · by_cases h4:no<14400
       · have HD:Hid (decide (De kind no)=true):=decide_eq_true ⟨h1,h2,h3,h4⟩
         go_enter Tryz.func164,Tryz.ntmps164
         go_wp2
         go_ret
         exact ⟨by rw [HD.out];rfl,rfl⟩
       · have HD:Hid (decide (De kind no)=false):=decide_eq_false (fun h=>h4 h.2.2.2)
         go_enter Tryz.func164,Tryz.ntmps164
         go_wp2
         go_ret
         exact ⟨by rw [HD.out];rfl,rfl⟩
     · have HD:Hid (decide (De kind no)=false):=decide_eq_false (fun h=>h3 h.2.2.1)
       go_enter Tryz.func164,Tryz.ntmps164
       go_wp2
       go_ret
       exact ⟨by rw [HD.out];rfl,rfl⟩
   · have HD:Hid (decide (De kind no)=false):=decide_eq_false (fun h=>h2 h.2.1)
     go_enter Tryz.func164,Tryz.ntmps164
     go_wp2
     go_ret
     exact ⟨by rw [HD.out];rfl,rfl⟩
 · have HD:Hid (decide (De kind no)=false):=decide_eq_false (fun h=>h1 h.1)
   go_enter Tryz.func164,Tryz.ntmps164
   go_wp2
   go_ret
   exact ⟨by rw [HD.out];rfl,rfl⟩
theorem aB (w:World) (kind:Int):Calls Tryz.prog 167 #[.int .i64 kind] w fun e w'=>e=.returned (.int .i64 (FY kind:Nat))∧Below w.heap.size w w':=by
 have hB:Below w.heap.size w (w.alloc (.cells #[.int .i64 0,.int .i64 160774,.int .i64 121107,.int .i64 240779,.int .i64 160478] 3)):=(Below.refl _ _).alloc (Nat.le_refl _) _
 by_cases h1:kind<0
 · have HS:Hid (FY kind=0):=by show _=_;unfold FY;rw [if_neg (by omega),if_neg (by omega),if_neg (by omega),if_neg (by omega)]
   go_enter Tryz.func167,Tryz.ntmps167
   go_wp2
   go_ret
   exact ⟨by rw [HS.out];rfl,hB⟩
 · by_cases h2:4<kind
   · have HS:Hid (FY kind=0):=by show _=_;unfold FY;rw [if_neg (by omega),if_neg (by omega),if_neg (by omega),if_neg (by omega)]
     go_enter Tryz.func167,Tryz.ntmps167
     go_wp2
     go_ret
     exact ⟨by rw [HS.out];rfl,hB⟩
   · rcases (by omega:kind=0∨kind=1∨kind=2∨kind=3∨kind=4) with rfl|rfl|rfl|rfl|rfl <;>
     · go_enter Tryz.func167,Tryz.ntmps167
       go_wp2
       go_ret
       exact ⟨rfl,hB⟩
end
section
open Go.RowKit
attribute [local go_sem] Oper.semAt_some
theorem U7 (kind:Int):FY kind<4294967296:=by
 unfold FY
 split
 · decide
 · split
   · decide
   · split
     · decide
     · split <;> decide
theorem OQ (l:List UInt8) (kind:Int):GY l kind<4294967296:=Nat.xor_lt_two_pow (n:=32) (KO _) (U7 kind)
theorem mQ {l:List UInt8} (hl:l.length=256) (kind:Int):AC l 252 4=GY l kind↔Am (l.drop 252)=Am (leB 4 (GY l kind)):=by
 have e:BN l 252 4=l.drop 252:=by
  unfold BN
  rw [List.take_of_length_le (by rw [List.length_drop,hl];omega)]
 constructor
 · intro h
   rw [← h]
   unfold AC
   rw [e]
   have:=SI (l.drop 252)
   rw [show (l.drop 252).length=4 by rw [List.length_drop,hl]] at this
   rw [this]
 · intro h
   unfold AC
   rw [e,UL h,SH 4 _ (OQ l kind)]
theorem mU {l:List UInt8} (hl:l.length=256):AC l 6 2=(nth 0 l 6).toNat+256*(nth 0 l 7).toNat:=by
 unfold AC
 rw [G6 (by omega),G6 (by omega)]
 simp [BN,EL]
set_option maxRecDepth 100000 in
theorem aC (w:World) (S:Nat→Prop) (v:Value) (l:List UInt8) (kind no:Int) (hS:∀ b,S b→b<w.heap.size) (h:AX w S v l) (hl:l.length=256) :
 Calls Tryz.prog 102 #[v,.int .i64 kind,.int .i64 no] w fun e w'=>(∃ v',e=.returned (.tuple #[v',.int .i64 (DW l kind no)])∧Bt w (DW l kind no) l v' w')∧Below w.heap.size w w':=by
 have kR:=qh (Pb w kind no)
 have HG:=qh (fun w' (hB:Below w.heap.size w w') a n hn (ha:a+n≤l.length)=>Lx w' S v l a n (fun b hb=>Nat.lt_of_lt_of_le (hS b hb) hB.size) (h.keep (AA _) (fun _ h=>h) (AL hB hS)) hn ha (by omega))
 obtain ⟨A,c,rfl,hc,hr⟩:=h
 obtain ⟨g,off,rfl,hg,hcl⟩:=BU hr (by omega)
 by_cases hk:De kind no
 · have hkb:decide (De kind no)=true:=decide_eq_true hk
   rw [hkb] at kR
   have hr4:Cx w S (some ⟨g,off+252,none⟩) (l.drop 252):=by
    have:=BX.drop hr (k:=252) (c:=c) (by omega) hc
    rw [if_neg (by omega)] at this
    exact this
   have hr3:Cx w S (some ⟨g,off,none⟩) (l.take 252):=BX.take hr 252
   have zO:Cx w S (some ⟨g,off+8,none⟩) (Dl l):=by
    have:=BX.drop hr (k:=8) (c:=c) (by omega) hc
    rw [if_neg (by omega)] at this
    exact BX.take this 244
   have HC4:=qh (eY (c:=c-252) hS (by rw [List.length_drop,hl]) hr4)
   have uF:=qh (fun w' (hB:Below w.heap.size w w')=>eu w' S (.slice (some ⟨g,off,none⟩) 252 c) (l.take 252) (fun b hb=>Nat.lt_of_lt_of_le (hS b hb) hB.size) ⟨_,c,by rw [List.length_take,hl];rfl,by rw [List.length_take];omega,hr3.keep (AA _) (fun _ h=>h) (AL hB hS)⟩ (by rw [List.length_take];omega))
   have Nu:=qh (fun w'=>aB w' kind)
   have hsb:=OQ l kind
   have We:=qh (fun w'=>PI w' (GY l kind) 4 (by omega) (by omega))
   have hcs:=KO (l.take 252)
   have hss:=U7 kind
   have hxo:bits .xor .i64 (F9 (l.take 252):Int) (FY kind:Int)=((GY l kind:Nat):Int):=FP _ _ (by omega) (by omega)
   have HST:=qh (mQ hl kind)
   have HT2:=qh (mU hl)
   have y6:=hcl 6 (by omega)
   have y7:=hcl 7 (by omega)
   have HW:Hid (∀ j u,(AB Au (Dl l))[j]? = some u→w.cell? ((⟨g,off+8,none⟩:Addr).add j)=some u):=ZT zO
   have hwl:(Dl l).length=244:=GZ hl
   have YX:Hid (DW l kind no=if AC l 252 4≠GY l kind then 4 else if (AC l 0 4:Int)≠no then 5 else if (AC l 4 2:Int)≠kind then 6 else if AC l 6 2≠0 then 7 else 0):=by
    show _=_
    unfold DW
    rw [if_neg (not_not_intro hk),if_neg (by omega)]
   generalize DW l kind no=E at *
   have AEO:(252:Int)≤(c:Int):=by omega
   have h8:(8:Int)≤(c:Int):=by omega
   have n252:¬ c=252:=by omega
   have n8:¬ c=8:=by omega
   have hHL:=qh hl
   rw [hl] at HG ⊢
   generalize F9 (l.take 252)=cs at *
   generalize FY kind=sa at *
   generalize hsu:GY l kind=su at *
   clear hsu hr hr4 hr3 zO hcl hl
   have hl:True:=trivial
   go_enter Tryz.func102,Tryz.ntmps102
   go_upto_region 5 with (go_at_call 164;refine kR.out.mono ?_;rintro e w3 ⟨rfl,rfl⟩)
   refine AF (T:=fun _=>false) (S:=fun w'=>Below w3.heap.size w3 w') (by kernel_rfl) (Below.refl w3.heap.size w3).drew (fun hHeld=>?_)
   have hk5:Below w3.heap.size w3 w3.drew:=(Below.refl w3.heap.size w3).drew
   refine qs 0 19 hHeld ?_
   refine qs 1 20 hHeld ?_
   refine qf 2 21 rfl rfl hHeld (by intro w hSw;have hcv:=HC4.out _ hSw;go_simp;(try with_reducible rfl)) ?_
   refine qs 3 22 hHeld ?_
   refine qs 4 23 hHeld ?_
   refine qs 6 25 hHeld ?_
   refine qo 5 fun K hK=>?_
   go_simp
   refine (uF.out _ hk5).mono ?_
   rintro e w4 ⟨rfl,rfl⟩
   refine hK.out _ _ (fun _=>hHeld) (fun _=>?_)
   clear hK K
   (try simp only [Act.put,qS,qZ,qU])
   refine qo 7 fun K hK=>?_
   go_simp
   refine (Nu.out _).mono ?_
   rintro e w5 ⟨rfl,BS⟩
   have hk5:=hk5.trans (BS.mono hk5.size)
   refine hK.out _ _ (fun _=>(Below.refl w3.heap.size w3).drew.trans (BS.mono (Below.refl w3.heap.size w3).drew.size)) (fun _=>?_)
   clear hK K hHeld
   (try simp only [Act.put,qS,qZ,qU])
   refine Di (S':=fun w'=>Below w5.heap.size w5 w') (fun _ h=>((Below.refl w3.heap.size w3).drew.trans (BS.mono (Below.refl w3.heap.size w3).drew.size)).trans (h.mono (hk5.size))) _ _ _ _ ?_
   have hHeld:(fun w'=>Below w5.heap.size w5 w') w5:=Below.refl _ _
   refine qs 8 27 hHeld ?_
   refine qo 9 fun K hK=>?_
   go_simp
   refine (We.out w5).mono ?_
   rintro e w6 ⟨⟨A6,c6,rfl,hown6⟩,EG⟩
   have hk5:=hk5.trans (EG.mono hk5.size)
   have fV:=NR hown6
   refine hK.out _ _ (fun _=>EG) (fun _=>?_)
   clear hK K hHeld
   (try simp only [Act.put,qS,qZ,qU])
   refine Di (S':=fun w'=>Below w6.heap.size w6 w') (fun _ h=>EG.trans (h.mono EG.size)) _ _ _ _ ?_
   have hHeld:(fun w'=>Below w6.heap.size w6 w') w6:=Below.refl _ _
   refine qf 10 29 rfl rfl hHeld (by intro w hSw;have hcv:=fV _ hSw;go_simp;(try with_reducible rfl)) ?_
   refine qs 11 30 hHeld ?_
   refine qd ?_
   have HC:Hid (((Am (l.drop 252)).toList==(Am (leB 4 su)).toList)=decide (AC l 252 4=su)):=by
    show _=_
    rw [Iu,Iu]
    by_cases hq:AC l 252 4=su
    · rw [decide_eq_true hq,UL (HST.out.1 hq)]
      simp
    · rw [decide_eq_false hq]
      exact beq_false_of_ne (fun e=>hq (HST.out.2 (by rw [e])))
   have zF:=hk5.size
   have hG0:Calls Tryz.prog 146 #[.slice (some ⟨g,off,none⟩) 256 c,.int .i64 0,.int .i64 4] w6 fun e w'=>e=.returned (.tuple #[.int .i64 (AC l 0 4:Nat),.int .i64 0])∧w'=w6:=by
    have h0:=HG.out w6 hk5 0 4 (.inr (.inr (.inl rfl))) (by omega)
    rw [if_neg (by have:=Dk (l:=l) (a:=0) (n:=4);omega)] at h0
    exact h0
   have hG4:Calls Tryz.prog 146 #[.slice (some ⟨g,off,none⟩) 256 c,.int .i64 4,.int .i64 2] w6 fun e w'=>e=.returned (.tuple #[.int .i64 (AC l 4 2:Nat),.int .i64 0])∧w'=w6:=by
    have h0:=HG.out w6 hk5 4 2 (.inr (.inl rfl)) (by omega)
    rw [if_neg (by have:=Dk (l:=l) (a:=4) (n:=2);omega)] at h0
    exact h0
   have y6:=AQ hk5 (hS g hg) y6
   have y7:=AQ hk5 (hS g hg) y7
   have xq:=qh hG0
   have YL:=qh hG4
   have YM:=qh hk5
   have Ga:Hid (∀ j u,(AB Au (Dl l))[j]? = some u→w6.cell? ((⟨g,off+8,none⟩:Addr).add j)=some u):=fun j u hu=>by
    have h0:=HW.out j u hu
    rw [add_lit] at h0 ⊢
    exact AQ hk5 (hS g hg) h0
   have zP:Hid (∀ j u,(AB Au (Dl l))[j]? = some u→(w6.alloc (.cells #[] 5)).cell? ((⟨g,off+8,none⟩:Addr).add j)=some u):=fun j u hu=>by
    have h0:=Ga.out j u hu
    rw [add_lit] at h0 ⊢
    rw [World.cell?_alloc_lt _ _ _ (show g<w6.heap.size by have:=hS g hg;omega)]
    exact h0
   have AEP:g<w6.heap.size:=by have:=hS g hg;omega
   rw [HC.out]
   have AEQ:((8:Int)≤252):=by omega
   clear hG0 hG4 HG hHeld fV hown6 hk5 HST HC We EG
   generalize AC l 0 4=a0 at *
   generalize AC l 4 2=a4 at *
   generalize AC l 252 4=ACc at *
   by_cases h1:ACc=su
   · rw [decide_eq_true h1]
     by_cases h2:(a0:Int)=no
     · have h2b:((a0:Int)==no)=true:=by simpa using h2
       by_cases h3:(a4:Int)=kind
       · have h3b:((a4:Int)==kind)=true:=by simpa using h3
         have hu6:=(nth 0 l 6).toNat_lt
         generalize nth 0 l 6=u6 at *
         generalize nth 0 l 7=u7 at *
         by_cases h4:u6.toNat=0
         · have h4b:((u6.toNat:Int)==0)=true:=by simpa using h4
           by_cases h5:u7.toNat=0
           · have h5b:((u7.toNat:Int)==0)=true:=by simpa using h5
             have HE:Hid (E=0):=by
              show _=_
              rw [YX.out,if_neg (not_not_intro h1),if_neg (not_not_intro h2),if_neg (not_not_intro h3),if_neg (by rw [HT2.out];omega)]
             clear YX HT2 h1 h2 h3
             go_wp2_with (first|(go_at_call 146;with_reducible refine xq.out.mono ?_;rintro e w6 ⟨rfl,rfl⟩)|(go_at_call 146;with_reducible refine YL.out.mono ?_;rintro e w6 ⟨rfl,rfl⟩)|(at_builtin;go_loud (refine CK Tryz.underlying22 KQ rfl (by omega) (by omega) rfl _ _ rfl w6.heap.size (.slice (some ⟨w6.heap.size,0,none⟩) 0 0) 0 [] rfl (World.ownsRow_made w6 #[] 0 (Nat.le_refl _) (by simp [maxLen]) rfl) ⟨g,off+8,none⟩ 244 (c-8) (AB Au (Dl l)) rfl (by rw [BI,hwl]) zP.out (Dr _) (by omega) (by simp) ?_);intro A9 AER w9 CZ Cu))
             go_ret2
             have Mg:Below w6.heap.size w6 w9:=((Below.refl _ w6).alloc (Nat.le_refl _) _).grown Cu (by simp) (fun k hk=>by simp [Value.ownBlock] at hk;omega)
             exact ⟨⟨_,by rw [HE.out];rfl,by rw [HE.out];unfold Bt;rw [if_pos rfl];exact (CF.own (d:=(0:UInt8)) D8 (by simpa using CZ) (by omega)).sub (AA _) (fun b hb=>⟨Nat.le_trans YM.out.size hb.1,hb.2⟩)⟩,YM.out.trans (Mg.mono YM.out.size)⟩
           · have h5b:((u7.toNat:Int)==0)=false:=by simpa using h5
             have HE:Hid (E=7):=by
              show _=_
              rw [YX.out,if_neg (not_not_intro h1),if_neg (not_not_intro h2),if_neg (not_not_intro h3),if_pos (by rw [HT2.out];omega)]
             clear YX HT2 h1 h2 h3
             go_wp2_with (first|(go_at_call 146;with_reducible refine xq.out.mono ?_;rintro e w6 ⟨rfl,rfl⟩)|(go_at_call 146;with_reducible refine YL.out.mono ?_;rintro e w6 ⟨rfl,rfl⟩))
             go_ret2
             exact ⟨⟨_,by rw [HE.out];rfl,by rw [HE.out];exact Bt.none_ (by decide)⟩,YM.out⟩
         · have h4b:((u6.toNat:Int)==0)=false:=by simpa using h4
           have HE:Hid (E=7):=by
            show _=_
            rw [YX.out,if_neg (not_not_intro h1),if_neg (not_not_intro h2),if_neg (not_not_intro h3),if_pos (by rw [HT2.out];omega)]
           clear YX HT2 h1 h2 h3
           go_wp2_with (first|(go_at_call 146;with_reducible refine xq.out.mono ?_;rintro e w6 ⟨rfl,rfl⟩)|(go_at_call 146;with_reducible refine YL.out.mono ?_;rintro e w6 ⟨rfl,rfl⟩))
           go_ret2
           exact ⟨⟨_,by rw [HE.out];rfl,by rw [HE.out];exact Bt.none_ (by decide)⟩,YM.out⟩
       · have h3b:((a4:Int)==kind)=false:=by simpa using h3
         have HE:Hid (E=6):=by
          show _=_
          rw [YX.out,if_neg (not_not_intro h1),if_neg (not_not_intro h2),if_pos h3]
         clear YX HT2 h1 h2 h3
         go_wp2_with (first|(go_at_call 146;with_reducible refine xq.out.mono ?_;rintro e w6 ⟨rfl,rfl⟩)|(go_at_call 146;with_reducible refine YL.out.mono ?_;rintro e w6 ⟨rfl,rfl⟩))
         go_ret2
         exact ⟨⟨_,by rw [HE.out];rfl,by rw [HE.out];exact Bt.none_ (by decide)⟩,YM.out⟩
     · have h2b:((a0:Int)==no)=false:=by simpa using h2
       have HE:Hid (E=5):=by
        show _=_
        rw [YX.out,if_neg (not_not_intro h1),if_pos h2]
       clear YX HT2 h1 h2
       go_wp2_with (first|(go_at_call 146;with_reducible refine xq.out.mono ?_;rintro e w6 ⟨rfl,rfl⟩)|(go_at_call 146;with_reducible refine YL.out.mono ?_;rintro e w6 ⟨rfl,rfl⟩))
       go_ret2
       exact ⟨⟨_,by rw [HE.out];rfl,by rw [HE.out];exact Bt.none_ (by decide)⟩,YM.out⟩
   · rw [decide_eq_false h1]
     have HE:Hid (E=4):=by
      show _=_
      rw [YX.out,if_pos h1]
     clear YX HT2 h1
     go_wp2_with (first|(go_at_call 146;with_reducible refine xq.out.mono ?_;rintro e w6 ⟨rfl,rfl⟩)|(go_at_call 146;with_reducible refine YL.out.mono ?_;rintro e w6 ⟨rfl,rfl⟩))
     go_ret2
     exact ⟨⟨_,by rw [HE.out];rfl,by rw [HE.out];exact Bt.none_ (by decide)⟩,YM.out⟩
 · have hkb:decide (De kind no)=false:=decide_eq_false hk
   rw [hkb] at kR
   have HE:Hid (DW l kind no=1):=by show _=_;unfold DW;rw [if_pos hk]
   go_enter Tryz.func102,Tryz.ntmps102
   go_wp2_with (go_at_call 164;refine kR.out.mono ?_;rintro e w3 ⟨rfl,rfl⟩)
   go_ret2
   exact ⟨⟨_,by rw [HE.out];rfl,by rw [HE.out];exact Bt.none_ (by decide)⟩,Below.refl _ _⟩
end
section
open Go.RowKit
attribute [local go_sem] Oper.semAt_some
def Hq (w:World) (S:Nat→Prop) (a:Nat) (bs:List UInt8):Prop:=O5 w S a (chunk bs (bs.length / 256))
theorem Hq.keep {w w':World} {S S':Nat→Prop} {a:Nat} {bs:List UInt8} (h:Hq w S a bs) (hs:∀ b,S b→S' b) (hk:CS S w w'):Hq w' S' a bs:=O5.keep h hs hk
theorem Hq.below {B:Nat} {w w':World} {S:Nat→Prop} {a:Nat} {bs:List UInt8} (h:Hq w S a bs) (hB:Below B w w') (hs:∀ b,S b→b<B):Hq w' S a bs:=h.keep (fun _ h=>h) (AL hB hs)
theorem Rn (bs:List UInt8) (k:Nat) (h:k<bs.length / 256):nth [] (chunk bs (bs.length / 256)) k=DY bs k:=by
 rw [Ac [] _ k (by rw [G7];exact h)]
 simp [chunk,IB,DY]
theorem Ro {bs:List UInt8} {k:Nat} (h:k<bs.length / 256):(DY bs k).length=256:=by
 unfold DY
 rw [List.length_take,List.length_drop]
 have h1:k*256+256≤bs.length:=by omega
 exact Nat.min_eq_left (by omega)
set_option maxRecDepth 100000 in
theorem aD (w:World) (S:Nat→Prop) (a:Nat) (bs:List UInt8) (no kind:Int) (hS:∀ b,S b→b<w.heap.size) (h:Hq w S a bs) :
 Calls Tryz.prog 57 #[.pointer (some ⟨a,0,none⟩),.int .i64 no,.int .i64 kind] w fun e w'=>(∃ v,e=.returned (.tuple #[v,.int .i64 (CQ bs kind no)])∧Bt w (CQ bs kind no) (DY bs no.toNat) v w')∧Below w.heap.size w w':=by
 by_cases hh:0≤no∧no<(bs.length / 256:Nat)
 · have hb:GA bs no=true:=by
     unfold GA
     rw [decide_eq_true hh.1,decide_eq_true (by omega)]
     rfl
   have he:CQ bs kind no=DW (DY bs no.toNat) kind no:=by unfold CQ;rw [if_neg (by rw [hb];simp)]
   obtain ⟨k,rfl⟩:∃ k:Nat,no=k:=⟨no.toNat,by omega⟩
   have hk:k<bs.length / 256:=by omega
   rw [Int.toNat_natCast] at he ⊢
   have hl:=Ro hk
   have hrd:=Ub w S a k _ h (by rw [G7];exact hk) (by rw [Rn bs k hk];exact hl)
   rw [Rn bs k hk] at hrd
   rw [he]
   have Lc:=qh hrd
   have zN:Hid (∀ w' c,Below w.heap.size w w'→256≤c→E9 w' w.heap.size (DY bs k)→Calls Tryz.prog 102 #[.slice (some ⟨w.heap.size,0,none⟩) 256 c,.int .i64 kind,.int .i64 k] w' fun e w''=>(∃ v',e=.returned (.tuple #[v',.int .i64 (DW (DY bs k) kind k)])∧Bt w' (DW (DY bs k) kind k) (DY bs k) v' w'')∧Below w'.heap.size w' w''):=fun w' c hB hc hbk=>by
    have hi:=hbk.isl (S:=fun b=>b=w.heap.size) (c:=c) rfl (by omega)
    rw [hl] at hi
    exact aC w' (fun b=>b=w.heap.size) _ (DY bs k) kind k (fun b hb=>by rw [hb];exact hbk.lt) hi hl
   generalize DW (DY bs k) kind k=E at *
   generalize DY bs k=y at *
   clear hrd h hb he hl hh hk
   go_enter Tryz.func57,Tryz.ntmps57
   go_wp2_with first
    | (go_at_call 101;refine Lc.out.mono ?_;rintro e w2 ⟨c,rfl,hc,hbk,hB2⟩;have HBK:=qh hbk;have HB2:=qh hB2;clear hbk hB2)
    | (go_at_call 102;refine (zN.out w2 c HB2.out hc HBK.out).mono ?_;rintro e w3 ⟨⟨v,rfl,hv⟩,hB3⟩;have HV:=qh hv;have HB3:=qh hB3;clear hv hB3)
   go_ret2
   refine ⟨⟨_,rfl,?_⟩,HB2.out.trans (HB3.out.mono HB2.out.size)⟩
   have hv:=HV.out
   unfold Bt at hv ⊢
   by_cases h0:E=0
   · rw [if_pos h0] at hv ⊢
     exact hv.sub (AA _) (fun b hb=>⟨Nat.le_trans HB2.out.size hb.1,hb.2⟩)
   · rw [if_neg h0] at hv ⊢
     exact hv
 · have hb:GA bs no=false:=by
     unfold GA
     by_cases h0:0≤no
     · rw [decide_eq_false (show ¬ no<(bs.length:Int) / 256 by omega),Bool.and_false]
     · rw [decide_eq_false h0];rfl
   have he:CQ bs kind no=3:=by unfold CQ;rw [if_pos hb]
   rw [he]
   obtain ⟨h0,A,c,h1,h2,h3⟩:=h
   rw [G7] at h1
   have Lc:=qh (Sb w a _ c A no h1 hh)
   clear hb he h1 h2 h3
   go_enter Tryz.func57,Tryz.ntmps57
   go_wp2_with (go_at_call 101;refine Lc.out.mono ?_;rintro e w ⟨rfl,rfl⟩)
   go_ret2
   exact ⟨⟨_,rfl,Bt.none_ (by decide)⟩,Below.refl _ _⟩
end
end Go.Proofs.YtpenklpdjpkigaaGreat
