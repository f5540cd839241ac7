/- A part of the proof: ByteBlk, WUnp, WNode1, WCount, WPct, WEqB, WDiffer, WRCode1, WZero. -/
import Derived.Test.YthblbddmcdnllaaGreatDoorProg
import Derived.Test.YthblbddmcdnllaaGreatDoorX2
import Derived.Lib.ConvBytes
import Derived.Test.YthblbddmcdnllaaGreatDoorX8
import Derived.Test.YthblbddmcdnllaaGreatDoorX5
import Derived.Lib.Hide
import Derived.Deep.QuietTactic
import Derived.BigQuiet
import Derived.Outline
import Derived.Test.YthblbddmcdnllaaGreatDoorX1
import Derived.WalkKit
import Derived.RowKitTokens
import Derived.BigCall
import Derived.RegionTactic
import Derived.Deep.CutBlock
import Derived.Laws.BitsAllLaws
import Derived.Test.YthblbddmcdnllaaGreatDoorY1
import Derived.Deep.Cut
import Derived.Deep.DeepCutAuto
set_option maxHeartbeats 6400000
set_option linter.unusedVariables false
set_option linter.unusedSimpArgs false
namespace Go.Proofs.YthblbddmcdnllaaGreatDoor
section
open Go.RowKit
def GN (w:World) (g:Nat) (b:List UInt8):Prop:=∃ (cs:Array Value) (zs:List Value),w.heap[g]? = some (.cells cs 5 (cs.size,cs.size+1))∧cs.toList=AA AX b++zs
section
variable {w w':World} {g:Nat} {b:List UInt8}
theorem GN.lt (h:GN w g b):g<w.heap.size:=by obtain ⟨cs,zs,h1,_⟩:=h;exact (Array.getElem?_eq_some_iff.1 h1).1
theorem GN.cell (h:GN w g b) {k:Nat} (hk:k<b.length):w.cell? ⟨g,k,none⟩=some (.int .u8 ((nth 0 b k).toNat:Int)):=by
 obtain ⟨cs,zs,h1,h2⟩:=h
 rw [cell_of_row w g k cs _ _ h1,← Array.getElem?_toList,h2,List.getElem?_append_left (by rw [Ad];exact hk),BQ,List.getElem?_map,List.getElem?_eq_getElem hk,AZ 0 b k hk]
 rfl
theorem GN.yz (h:GN w g b) {S:Nat→Prop} {c:Nat} (hS:S g) (hc:b.length≤c):AU w S (.slice (some ⟨g,0,none⟩) b.length c) b :=
 ⟨_,c,rfl,hc,fun _=>⟨g,0,rfl,hS,fun k hk=>⟨AX (nth 0 b k),rfl,rfl,fun j u hu=>by
  rcases j with _|j
  · simp [AX] at hu
    subst hu
    simpa using h.cell hk
  · simp [AX] at hu⟩⟩⟩
end
theorem PQ (w:World) (b:List UInt8):GN (Lib.bytesWorld w 5 (BJ b)) w.heap.size b:=by
 refine ⟨Lib.bytesCells w 5 (BJ b),List.replicate (grownCap w (BJ b).size 0 5-(BJ b).size) (.int .u8 0),Lib.bytesWorld_at_new w _ _,?_⟩
 unfold Lib.bytesCells
 rw [BQ]
 simp [BJ]
theorem bytesWorld_below (w:World) (b:List UInt8):Below w.heap.size w (Lib.bytesWorld w 5 (BJ b)):=⟨rfl,rfl,rfl,by rw [Lib.bytesWorld_size];omega,fun j hj=>Lib.bytesWorld_at_old w _ _ j hj⟩
theorem Nr (w:World) (l:List UInt8):(convert 9 82 (.string (BJ l))).run Tryz.prog w=.ok (.slice (some ⟨w.heap.size,0,none⟩) l.length (grownCap w l.length 0 5)) (Lib.bytesWorld w 5 (BJ l)):=by
 have h:=Lib.run_convert_string_bytes (P:=Tryz.prog) w 9 82 5 (BJ l) (u:=.string) Tryz.underlying9 Tryz.underlying82 Tryz.underlying5
 rw [IB] at h
 exact h
end
section
open Go.RowKit
attribute [local go_sem] Oper.semAt_some
def Hd (ws:List Nat):List Int:=ws.map Int.ofNat
theorem IE (ws:List Nat):(Hd ws).length=ws.length:=by unfold Hd;rw [List.length_map]
theorem UG (ws:List Nat) (k:Nat) (h:k<ws.length):nth 0 (Hd ws) k=((nth 0 ws k:Nat):Int):=by
 rw [AZ 0 _ k (by rw [IE];exact h),AZ 0 ws k h];simp [Hd]
theorem bM {ws:List Nat} (h:∀ x∈ws,Nk x) {k:Nat} (hk:k<ws.length):Nk (nth 0 ws k):=h _ (Ci 0 ws k hk)
def LU (w:World) (l:List UInt8) (ws:List Nat) (e:Ending) (w':World):Prop :=
 if FQ l 0 ws=true then e=.returned (.tuple #[.slice none 0 0,.int .i64 2]) else ∃ v,e=.returned (.tuple #[v,.int .i64 0])∧BV w' (Fu w.heap.size w'.heap.size) v (Df l 0 ws)
set_option maxRecDepth 100000 in
theorem LV (w:World) (S:Nat→Prop) (v vw:Value) (l:List UInt8) (ws:List Nat) (hS:∀ b,S b→b<w.heap.size) (h:AU w S v l) (hw:BV w S vw (Hd ws)) (hW:∀ x∈ws,Nk x) (ha:Cb ws≤l.length) (hl:l.length≤140737488355328) (hk:ws.length≤1000000) :
 Calls Tryz.prog 184 #[v,vw] w fun e w'=>LU w l ws e w'∧Below w.heap.size w w':=by
 have HG:=qh (fun w' (hB:Below w.heap.size w w') (a n:Nat) (hn:Nk n) (ha:a+n≤l.length)=>IC w' S v l a n (fun b hb=>Nat.lt_of_lt_of_le (hS b hb) hB.size) (h.keep (AB _) (fun _ h=>h) (AR hB hS)) hn ha hl)
 obtain ⟨A,c,rfl,hc,hr⟩:=h
 obtain ⟨Aw,cw,rfl,hcw,hrw⟩:=hw
 rw [IE] at hcw ⊢
 have HRW:Hid (∀ w',Below w.heap.size w w'→∀ k,k<ws.length→∃ b off,Aw=some ⟨b,off,none⟩∧w'.cell? ⟨b,off+k,none⟩=some (.int .i64 (nth 0 ws k:Nat))):=fun w' hB k hk=>by
  obtain ⟨b,off,e,hb,h1⟩:=Be hrw (by rw [IE];omega)
  refine ⟨b,off,e,(hB.cell (p:=⟨b,off+k,none⟩) (hS b hb)).trans ?_⟩
  rw [h1 k (by rw [IE];exact hk),UG ws k hk]
 have HIS:Hid (∀ e w',(if FQ l 0 ws=true then e=.returned (.tuple #[.slice none 0 0,.int .i64 2]) else ∃ v,e=.returned (.tuple #[v,.int .i64 0])∧BV w' (Fu w.heap.size w'.heap.size) v (Df l 0 ws))→LU w l ws e w'):=fun e w' h=>h
 have vg:Hid (∀ k,k<ws.length→Nk (nth 0 ws k)∧Cb (ws.take k)+nth 0 ws k≤l.length∧nth 0 ws k≤8):=fun k hk=>by
  have h1:=Fw ws k hk
  have h2:=GI ws (k+1)
  have h3:=bM hW hk
  exact ⟨h3,by omega,by rcases h3 with h|h|h|h <;> omega⟩
 generalize hn:ws.length=n at *
 have HN:=qh hn
 clear hrw hr hW hn
 go_enter Tryz.func184,Tryz.ntmps184
 go_wp2_with fail
 go_loopw [6,7,14] (fun vo va vi wr=>∃ (k a:Nat),vi=.int .i64 k∧va=.int .i64 a∧k≤n∧Hid (a=Cb (ws.take k)∧FQ l 0 (ws.take k)=false)∧wr.ownsRow w.heap.size 3 1 vo k (AA encI (Df l 0 (ws.take k)))∧Below w.heap.size w wr) (fun _ _ vi _=>n-(intOf vi).toNat)
 case atStart=>exact ⟨0,0,rfl,rfl,by omega,⟨rfl,rfl⟩,by simpa [Df,AA] using World.ownsRow_nil w w.heap.size 3 1,Below.refl _ _⟩
 case round =>
  obtain ⟨k,a,rfl,rfl,hk0,HA,hrow,hB⟩:=hrel
  have hz:=hB.size
  obtain ⟨Ao,co,rfl,hco⟩:=DK hrow
  by_cases hlt:k<n
  · obtain ⟨hW1,hs1,h8⟩:=vg.out k hlt
    obtain ⟨b,off,rfl,q⟩:=HRW.out wr hB k hlt
    have HA1:=HA.out.1
    have hg:=HG.out wr hB (Cb (ws.take k)) (nth 0 ws k) hW1 hs1
    have hst:=Tv l ws k (by rw [HN.out];exact hlt)
    have hbt:=Mw l ws k (by rw [HN.out];exact hlt)
    have hsw:=Fw ws k (by rw [HN.out];exact hlt)
    have Ql:=YH (l:=l) (ws:=ws) (k:=k) (by rw [HN.out];exact hlt)
    rw [HA.out.2,Bool.false_or] at hbt
    rw [← HA1] at hg hst hbt hsw hs1 Ql
    by_cases hbig:9223372036854775808≤AC l a (nth 0 ws k)
    · rw [if_pos hbig] at hg
      have Ns:=qh hg
      have HF:=qh (Ql hbig)
      clear hg hst hbt hsw hbig HA1 Ql
      generalize nth 0 ws k=x at *
      go_wp2_with (go_at_call 89;refine Ns.out.mono ?_;rintro e w3 ⟨rfl,rfl⟩)
      go_ret2
      exact ⟨HIS.out _ _ (by rw [if_pos HF.out];rfl),hB⟩
    · rw [if_neg hbig] at hg
      rw [decide_eq_false hbig] at hbt
      have pK:AC l a (nth 0 ws k)<9223372036854775808:=by omega
      have Ns:=qh hg
      have zD:=qh hbt
      have zF:=qh hsw
      have HST:=qh hst
      clear hg hst hbt hsw hbig HA1 Ql
      generalize nth 0 ws k=x at *
      obtain ⟨y,hy⟩:∃ y,AC l a x=y:=⟨_,rfl⟩
      rw [hy] at Ns HST pK
      clear hy
      go_wp2_with (first
       | (go_at_call 89;refine Ns.out.mono ?_;rintro e w3 ⟨rfl,rfl⟩)
       | (at_builtin;go_loud (refine ED Ha rfl _ _ rfl w.heap.size (.slice Ao k co) k (Df l 0 (ws.take k)) (y:Int) rfl hrow rfl (by omega) hz ?_);intro A6 cap6 w6 hown hg))
      go_roundw
      case rel=>exact ⟨k+1,a+x,by go_num,by go_num,by omega,⟨zF.out.symm,zD.out⟩,by rw [HST.out];exact hown,hB.grown hg hz (fun i hi=>(hrow.lt i hi).1)⟩
      case measure=>simp [intOf];omega
  · have hkn:k=n:=by omega
    have HF:Hid (FQ l 0 ws=false∧ws.take k=ws):=by
     have e:ws.take k=ws:=List.take_of_length_le (by rw [HN.out];omega)
     refine ⟨?_,e⟩
     have:=HA.out.2
     rwa [e] at this
    clear hkn
    go_wp2_with fail
    go_ret2
    refine ⟨HIS.out _ _ ?_,hB⟩
    rw [if_neg (by rw [HF.out.1];simp)]
    refine ⟨_,rfl,?_⟩
    rw [HF.out.2] at hrow
    exact Bp.own (enc:=encI) (d:=(0:Int)) Bu hrow (by omega)
end
section
open Go.RowKit
attribute [local go_sem] Oper.semAt_some
theorem NA {t:Int} (h1:¬ t<1) (h2:¬ 5<t):t=1∨t=2∨t=3∨t=4∨t=5:=by omega
theorem FM {t:Int} {leaf:Bool} (h:t<1∨5<t):Ah t leaf=0:=by unfold Ah;rw [if_pos h]
theorem NB {t:Int} {leaf:Bool} (h:t<1∨5<t):BH t leaf=0:=by unfold BH;rw [if_pos (FM h)]
theorem GQ (t:Int) (leaf:Bool):(Ah t leaf=0∧BH t leaf=0)∨(Ah t leaf=4∧BH t leaf=18)∨(Ah t leaf=8∧BH t leaf=12)∨(Ah t leaf=24∧BH t leaf=6)∨(Ah t leaf=16∧BH t leaf=9):=by
 by_cases h1:t<1
 · exact .inl ⟨FM (.inl h1),NB (.inl h1)⟩
 · by_cases h2:5<t
   · exact .inl ⟨FM (.inr h2),NB (.inr h2)⟩
   · rcases NA h1 h2 with rfl|rfl|rfl|rfl|rfl <;> cases leaf <;> decide
theorem EY (w:World) (t:Int) (leaf:Bool):Calls Tryz.prog 97 #[.int .i64 t,.bool leaf] w fun e w'=>e=.returned (.int .i64 (Ah t leaf:Nat))∧w'=w:=by
 by_cases h1:t<1
 · have HW:=qh (FM (leaf:=leaf) (.inl h1))
   go_enter Tryz.func97,Tryz.ntmps97
   go_wp2
   go_ret
   exact ⟨by rw [HW.out];rfl,rfl⟩
 · by_cases h2:5<t
   · have HW:=qh (FM (leaf:=leaf) (.inr h2))
     go_enter Tryz.func97,Tryz.ntmps97
     go_wp2
     go_ret
     exact ⟨by rw [HW.out];rfl,rfl⟩
   · rcases NA h1 h2 with rfl|rfl|rfl|rfl|rfl <;> cases leaf <;>
     (clear h1 h2
      go_enter Tryz.func97,Tryz.ntmps97
      go_wp2
      go_ret
      exact ⟨rfl,rfl⟩)
theorem El (w:World) (t:Int) (leaf:Bool):Calls Tryz.prog 53 #[.int .i64 t,.bool leaf] w fun e w'=>e=.returned (.int .i64 (BH t leaf:Nat))∧w'=w:=by
 have HW:=qh (EY w t leaf)
 have hc:=GQ t leaf
 generalize Ah t leaf=x at *
 generalize BH t leaf=y at *
 rcases hc with ⟨rfl,rfl⟩|⟨rfl,rfl⟩|⟨rfl,rfl⟩|⟨rfl,rfl⟩|⟨rfl,rfl⟩ <;>
 (go_enter Tryz.func53,Tryz.ntmps53
  go_wp2_with (go_at_call 97;refine HW.out.mono ?_;rintro e w3 ⟨rfl,rfl⟩)
  go_ret
  exact ⟨rfl,rfl⟩)
end
section
open Go.RowKit
theorem UJ (w:World) (S:Nat→Prop) (v:Value) (p:Pool) (hS:∀ b,S b→b<w.heap.size) (h:FI w S v p) (hn:p.Bc.length≤1099511627776) (hc0:p.count≤4611686018427387904) :
 Calls Tryz.prog 21 #[v] w fun e w'=>e=.returned (.int .i64 p.count)∧Below w.heap.size w w':=by
 obtain ⟨A,c,rfl,_,hr⟩:=h
 generalize hl0:p.Bc.length=n at *
 have hl:=qh hl0
 clear hl0
 have hB0:Below w.heap.size w (w.alloc (.cells #[.int .i64 p.tx,.int .i64 p.time,.int .i64 p.unit,.int .i64 p.data,.slice A n c] 32)):=(Below.refl _ _).alloc (Nat.le_refl _) _
 go_enter Tryz.func21,Tryz.ntmps21
 go_wp2_with fail
 go_loopw [3,9] (fun t i wr=>∃ k:Nat,k≤n∧i=.int .i64 k∧t=.int .i64 (CE (p.Bc.take k))∧Below w.heap.size w wr) (fun _ i _=>n-(intOf i).toNat)
 case atStart=>exact ⟨0,by omega,rfl,rfl,hB0⟩
 case round =>
  obtain ⟨k,hk,rfl,rfl,hB⟩:=hrel
  have hs0:=Fa (p.Bc.take k)
  by_cases hlt:k<n
  · obtain ⟨b,off,rfl,hb,hc⟩:=Iq (hr.keep Dy (fun _ h=>h) (AR hB hS)) (by rw [hl.out];omega)
    obtain ⟨c0,c1,c2,c3,A',c',c4,hc',hr'⟩:=hc k (by rw [hl.out];omega)
    have HT:=qh (O6 p.Bc k (by rw [hl.out];omega))
    have hle:=K4 p.Bc (k+1)
    rw [HT.out] at hle
    have hbs:b<wr.heap.size:=by have:=hS b hb;have:=hB.size;omega
    have hs1:CE (p.Bc.take k)+((nth Bb p.Bc k).maps.length:Int)≤4611686018427387904:=Int.le_trans hle hc0
    clear hc hr' hle
    have HB:=hB.alloc hB.size (.cells #[.int .i64 (nth Bb p.Bc k).id,.int .i64 (nth Bb p.Bc k).tx,.int .i64 (nth Bb p.Bc k).made,.int .i64 (nth Bb p.Bc k).Bz,.slice A' (nth Bb p.Bc k).maps.length c'] 71)
    go_wp2
    go_roundw
    case rel=>exact ⟨k+1,by omega,by go_num,by rw [HT.out],HB⟩
    case measure=>simp [intOf];omega
  · have hfin:Hid (p.Bc.take k=p.Bc):=List.take_of_length_le (by rw [hl.out];omega)
    go_wp2
    go_ret
    exact ⟨GH (by rw [hfin.out];rfl),hB⟩
end
section
open Go.RowKit
attribute [local go_sem] Oper.semAt_some
def PW (n f:Int):Int:=if n<0∨f<1∨f<n then 0 else n*100 / f
theorem TI (x y a b:Int) (h1:x=a) (h2:y=b):Ending.returned (.tuple #[.int .u64 x,.int .u64 y])=Ending.returned (.tuple #[.int .u64 a,.int .u64 b]):=by rw [h1,h2]
theorem TJ (x:Nat) (hx:x<18446744073709551616):bits .and .u64 (x:Int) 4294967295=((x % 4294967296:Nat):Int):=by
 have h:=u64_and_nat x 4294967295 hx (by decide)
 rw [show x &&& 4294967295=x % 4294967296 from Nat.and_two_pow_sub_one_eq_mod x 32] at h
 exact h
theorem UL (w:World) (n:Nat) (hn:n≤1125899906842624) :
 Calls Tryz.prog 9 #[.int .u64 (n:Int),.int .u64 100] w fun e w'=>e=.returned (.tuple #[.int .u64 0,.int .u64 ((n*100:Nat):Int)])∧w'=w:=by
 have a1:=TJ n (by omega)
 obtain ⟨lo,hlo⟩:∃ lo,n % 4294967296=lo:=⟨_,rfl⟩
 obtain ⟨hi,hhi⟩:∃ hi,n / 4294967296=hi:=⟨_,rfl⟩
 rw [hlo] at a1
 have a2:((n:Nat):Int) / 4294967296=(hi:Int):=by omega
 have b1:bits .and .u64 100 4294967295=100:=by decide
 obtain ⟨p,hp⟩:∃ p,lo*100=p:=⟨_,rfl⟩
 obtain ⟨ph,wC⟩:∃ ph,p / 4294967296=ph:=⟨_,rfl⟩
 obtain ⟨t,ht⟩:∃ t,hi*100+ph=t:=⟨_,rfl⟩
 have a3:=TJ t (by omega)
 rw [show t % 4294967296=t by omega] at a3
 have HB:=qh (And.intro hlo (And.intro hhi (And.intro hp (And.intro wC ht))))
 clear hlo hhi hp wC ht
 go_enter Tryz.func9,Tryz.ntmps9
 go_wp2
 go_ret2
 obtain ⟨q1,q2,q3,q4,q5⟩:=HB.out
 have w1:IntKind.u64.wrap ((lo:Int)*100)=(p:Int):=by rw [IntKind.wrap_u64];omega
 have w2:((p:Nat):Int) / 4294967296=(ph:Int):=by omega
 have w3:IntKind.u64.wrap ((hi:Int)*100+(ph:Int))=(t:Int):=by rw [IntKind.wrap_u64];omega
 refine ⟨TI _ _ _ _ ?_ (by omega),rfl⟩
 rw [w1,w2,w3,a3]
 have w4:((t:Nat):Int) / 4294967296=0:=by omega
 have w5:IntKind.u64.wrap (t:Int)=(t:Int):=by rw [IntKind.wrap_u64];omega
 simp [w4,w5,IntKind.wrap_u64]
theorem YQ (w:World) (lo d:Nat) (hd:1≤d) (hd2:d≤1125899906842624) (hl:lo≤112589990684262400) :
 Calls Tryz.prog 10 #[.int .u64 0,.int .u64 (lo:Int),.int .u64 (d:Int)] w fun e w'=>e=.returned (.tuple #[.int .u64 ((lo / d:Nat):Int),.int .u64 ((lo % d:Nat):Int)])∧Below w.heap.size w w':=by
 go_enter Tryz.func10,Tryz.ntmps10
 go_upto_region 6 with fail
 go_region
 go_wp2_with fail
 go_ret2
 have e1:((lo:Nat):Int) / (d:Int)=((lo / d:Nat):Int):=(Int.natCast_ediv lo d).symm
 have l1:lo / d≤lo:=Nat.div_le_self _ _
 exact ⟨TI _ _ _ _ (by
  obtain ⟨q,hq⟩:∃ q,lo / d=q:=⟨_,rfl⟩
  rw [hq] at l1 e1 ⊢
  rw [e1,IntKind.wrap_u64]
  omega) (Int.natCast_emod lo d).symm,(Below.refl _ _).drew⟩
theorem YR (w:World) (n f:Int) (hn:n≤1125899906842624) (hf:f≤1125899906842624) (hn0 : -9223372036854775808≤n) (hf0 : -9223372036854775808≤f) :
 Calls Tryz.prog 5 #[.int .i64 n,.int .i64 f] w fun e w'=>e=.returned (.int .i64 (PW n f))∧Below w.heap.size w w':=by
 by_cases h1:n<0∨f<1∨f<n
 · have HP:Hid (PW n f=0):=if_pos h1
   rcases h1 with h1|h1|h1
   all_goals
    go_enter Tryz.func5,Tryz.ntmps5
    go_wp2
    all_goals (go_ret;exact ⟨by rw [HP.out];rfl,Below.refl _ _⟩)
 · obtain ⟨a,rfl⟩:=Int.eq_ofNat_of_zero_le (a:=n) (Int.not_lt.1 fun h=>h1 (.inl h))
   obtain ⟨d,rfl⟩:=Int.eq_ofNat_of_zero_le (a:=f) (by have:=Int.not_lt.1 fun h=>h1 (.inr (.inl h));omega)
   have c2:¬ (d:Int)<1:=fun h=>h1 (.inr (.inl h))
   have c3:¬ (d:Int)<(a:Int):=fun h=>h1 (.inr (.inr h))
   have HP:Hid (PW a d=((a*100 / d:Nat):Int)):=by show _=_;unfold PW;rw [if_neg h1,Int.natCast_ediv,Int.natCast_mul];rfl
   have HM:=qh (UL w a (by omega))
   have HD:=qh (YQ w (a*100) d (by omega) (by omega) (by omega))
   have HQ:Hid (a*100 / d≤112589990684262400):=Nat.le_trans (Nat.div_le_self _ _) (by omega)
   generalize a*100=m at *
   have hq:=HQ.out
   generalize m / d=q at *
   generalize m % d=r at *
   clear h1 HQ
   go_enter Tryz.func5,Tryz.ntmps5
   go_wp2_with (first
    | (go_at_call 9;(with_reducible refine HM.out.mono ?_);rintro e w2 ⟨rfl,hw⟩;rw [hw];clear hw w2)
    | (go_at_call 10;(with_reducible refine HD.out.mono ?_);rintro e w2 ⟨rfl,hB⟩))
   go_ret
   exact ⟨by rw [HP.out];rfl,hB⟩
theorem V5 (w:World) (n f:Int) (hn:n≤1125899906842624) (hf:f≤1125899906842624) (hn0 : -9223372036854775808≤n) (hf0 : -9223372036854775808≤f) :
 Calls Tryz.prog 6 #[.int .i64 n,.int .i64 f] w fun e w'=>e=.returned (.int .i64 (PW n f))∧w'=w:=by
 by_cases h1:n<0∨f<1∨f<n
 · have HP:Hid (PW n f=0):=if_pos h1
   rcases h1 with h1|h1|h1
   all_goals
    go_enter Tryz.func6,Tryz.ntmps6
    go_wp2
    all_goals (go_ret;exact ⟨by rw [HP.out];rfl,rfl⟩)
 · have HP:Hid (PW n f=n*100 / f):=if_neg h1
   have c1:¬ n<0:=fun h=>h1 (.inl h)
   have c2:¬ f<1:=fun h=>h1 (.inr (.inl h))
   have c3:¬ f<n:=fun h=>h1 (.inr (.inr h))
   clear h1
   go_enter Tryz.func6,Tryz.ntmps6
   go_wp2
   go_ret
   exact ⟨by rw [HP.out];rfl,rfl⟩
end
section
open Go.RowKit
attribute [local go_sem] Oper.semAt_some
theorem V6 {l r:List UInt8} (hl:l.length=r.length) (h:∀ k,k<l.length→nth 0 l k=nth 0 r k):l=r:=by
 apply List.ext_getElem hl
 intro i h1 h2
 have:=h i h1
 rwa [AZ 0 l i h1,AZ 0 r i h2] at this
theorem V7 {u v:UInt8} (h:u≠v):¬ (u.toNat:Int)=(v.toNat:Int):=fun e=>h (UInt8.toNat_inj.1 (by omega))
theorem RH (w:World) (S:Nat→Prop) (v1 v2:Value) (l r:List UInt8) (h1:AU w S v1 l) (h2:AU w S v2 r) (hl:l.length≤140737488355328) (hr:r.length≤140737488355328) :
 Calls Tryz.prog 90 #[v1,v2] w fun e w'=>e=.returned (.bool (decide (l=r)))∧Below w.heap.size w w':=by
 obtain ⟨A1,d1,rfl,hc1,hr1⟩:=h1
 obtain ⟨A2,d2,rfl,hc2,hr2⟩:=h2
 have zK:=qh (fun hp=>BU hr1 hp)
 have Zx:=qh (fun hp=>BU hr2 hp)
 clear hr1 hr2
 by_cases hlen:l.length=r.length
 · have HE:=qh (fun h=>V6 (l:=l) (r:=r) hlen h)
   have EP:Hid (∀ k,nth 0 l k≠nth 0 r k→l≠r):=fun k hk e=>hk (by rw [e])
   have zL:=qh hlen
   rw [← hlen] at Zx ⊢
   generalize hnn:l.length=n at *
   clear hnn hlen
   go_enter Tryz.func90,Tryz.ntmps90
   go_wp2_with fail
   go_loopw [5,13] (fun _ i wr=>∃ k:Nat,i=.int .i64 k∧k≤n∧(∃ m,wr=w.drewN m)∧Hid (∀ j,j<k→nth 0 l j=nth 0 r j)) (fun _ i _=>n-(intOf i).toNat)
   case atStart=>exact ⟨0,rfl,by omega,⟨0,rfl⟩,fun j hj=>by omega⟩
   case round =>
    obtain ⟨k,rfl,hk,⟨m,rfl⟩,HJ⟩:=hrel
    by_cases hlt:k<n
    · obtain ⟨b1,o1,rfl,_,bT⟩:=zK.out (by omega)
      obtain ⟨b2,o2,rfl,_,bU⟩:=Zx.out (by omega)
      have q1:=bT k hlt
      have q2:=bU k (by have:=zL.out;omega)
      have hki:(k:Int)<(n:Int):=by omega
      by_cases he:nth 0 l k=nth 0 r k
      · have HJ2:Hid (∀ j,j<k+1→nth 0 l j=nth 0 r j):=fun j hj=>by
          by_cases hjk:j<k
          · exact HJ.out j hjk
          · obtain rfl:j=k:=by omega
            exact he
        rw [← he] at q2
        have hb:(((nth 0 l k).toNat:Int) != ((nth 0 l k).toNat:Int))=false:=by simp
        clear bT bU he
        generalize nth 0 l k=u at *
        go_upto_region 6 with fail
        go_quiet (fail)
        go_wp2_with fail
        go_roundw
        case rel=>exact ⟨k+1,by go_num,by omega,⟨_,rfl⟩,HJ2⟩
        case measure=>simp [intOf];omega
      · have HF:=qh (EP.out k he)
        have hb:(((nth 0 l k).toNat:Int) != ((nth 0 r k).toNat:Int))=true:=by rw [bne_iff_ne];exact V7 he
        have hb2:(((nth 0 l k).toNat:Int)==((nth 0 r k).toNat:Int))=false:=by rw [beq_eq_false_iff_ne];exact V7 he
        clear bT bU he
        generalize nth 0 l k=u at *
        generalize nth 0 r k=v at *
        go_upto_region 6 with fail
        go_quiet (fail)
        go_wp2_with fail
        go_ret
        exact ⟨by rw [decide_eq_false HF.out];rfl,AV (AV (Below.refl _ _) _) _⟩
    · obtain rfl:k=n:=by omega
      have HF:=qh (HE.out HJ.out)
      go_wp2_with fail
      go_ret
      exact ⟨by rw [decide_eq_true HF.out];rfl,AV (Below.refl _ _) _⟩
 · have hb:((l.length:Int) != (r.length:Int))=true:=by rw [bne_iff_ne];omega
   have hb2:((l.length:Int)==(r.length:Int))=false:=by rw [beq_eq_false_iff_ne];omega
   have HF:Hid (l≠r):=fun e=>hlen (by rw [e])
   clear hlen
   generalize l.length=n at *
   generalize r.length=m at *
   go_enter Tryz.func90,Tryz.ntmps90
   go_wp2_with fail
   go_ret
   exact ⟨by rw [decide_eq_false HF.out];rfl,Below.refl _ _⟩
end
section
open Go.RowKit
attribute [local go_sem] Oper.semAt_some
set_option maxRecDepth 100000 in
theorem YT (w:World) (A B:Option Addr) (c d:Nat):Calls Tryz.prog 177 #[.slice A 0 c,.slice B 0 d] w fun e w'=>e=.returned (.slice none 0 0)∧w'=w:=by
 have hm:max (0:Int) 0=0:=by decide
 go_enter Tryz.func177,Tryz.ntmps177
 go_wp2
 refine wp_loop_rounds 1 ?_
 rw [rounds_succ]
 go_wp2
 go_ret
 exact ⟨rfl,rfl⟩
set_option maxRecDepth 100000 in
theorem PX (w:World) (ga oa gb ob n c d:Nat) (f:Nat→Int) (hn:n≤1000000) (ha:∀ i,i<n→w.cell? ⟨ga,oa+i,none⟩=some (.int .i64 (f i))) (hb:∀ i,i<n→w.cell? ⟨gb,ob+i,none⟩=some (.int .i64 (f i))) (hla:0<n→ga<w.heap.size∧gb<w.heap.size) :
 Calls Tryz.prog 177 #[.slice (some ⟨ga,oa,none⟩) n c,.slice (some ⟨gb,ob,none⟩) n d] w fun e w'=>e=.returned (.slice none 0 0)∧Below w.heap.size w w':=by
 have HA:Hid (∀ i,i<n→∀ W,Below w.heap.size w W→W.cell? ⟨ga,oa+i,none⟩=some (.int .i64 (f i))∧W.cell? ⟨gb,ob+i,none⟩=some (.int .i64 (f i))):=fun i hi W hB=>⟨AY hB (hla (by omega)).1 (ha i hi),AY hB (hla (by omega)).2 (hb i hi)⟩
 have hm:max (n:Int) (n:Int)=(n:Int):=Int.max_self _
 clear ha hb hla
 go_enter Tryz.func177,Tryz.ntmps177
 go_wp2_with fail
 go_loopw [5,12] (fun vo vi wr=>∃ i:Nat,vi=.int .i64 i∧i≤n∧vo=.slice none 0 0∧Hid (Below w.heap.size w wr)) (fun _ vi _=>n-(intOf vi).toNat)
 case atStart=>exact ⟨0,rfl,by omega,rfl,Below.refl _ _⟩
 case round =>
  obtain ⟨i,rfl,hi,rfl,HB⟩:=hrel
  rcases Nat.lt_or_ge i n with hlt|hge
  · obtain ⟨c0,c1⟩:=HA.out i hlt wr HB.out
    go_upto_region 5 with fail
    go_quiet (fail)
    go_wp2_with fail
    go_roundw
    case rel=>exact ⟨i+1,by simp,by omega,rfl,by show Below _ _ _;exact HB.out.trans ⟨rfl,rfl,rfl,Nat.le_refl _,fun _ _=>rfl⟩⟩
    case measure=>simp [intOf];omega
  · obtain rfl:i=n:=by omega
    go_wp2_with fail
    go_ret
    exact ⟨rfl,HB.out⟩
end
section
open Go.RowKit
attribute [local go_sem] Oper.semAt_some
end
section
open Go.RowKit
attribute [local go_sem] Oper.semAt_some
theorem NF (l:List UInt8):DZ l=true↔∀ k,k<l.length→nth 0 l k=0:=by
 unfold DZ
 rw [List.all_eq_true]
 constructor
 · intro h k hk
   rw [AZ 0 l k hk]
   have:=h _ (List.getElem_mem hk)
   simpa using this
 · intro h x hx
   obtain ⟨k,hk,rfl⟩:=List.getElem_of_mem hx
   have:=h k hk
   rw [AZ 0 l k hk] at this
   simp [this]
theorem WB {l:List UInt8} {k:Nat} (hk:k<l.length) (h:nth 0 l k≠0):DZ l=false:=by
 cases hz:DZ l with
 | false=>rfl
 | true=>exact absurd ((NF l).1 hz k hk) h
theorem jG {u:UInt8} (h:u≠0):¬ (u.toNat:Int)=0:=fun e=>h (by
 have:u.toNat=0:=by omega
 exact UInt8.toNat_inj.1 (by simpa using this))
theorem UO (w:World) (u:UInt8):Calls Tryz.prog 186 #[.int .u8 (u.toNat:Int)] w fun e w'=>e=.returned (.bool (decide (u≠0)))∧w'=w:=by
 by_cases h:u=0
 · subst h
   go_enter Tryz.func186,Tryz.ntmps186
   go_wp2
   go_ret
   exact ⟨rfl,rfl⟩
 · have hz:=jG h
   have hd:Hid (decide (u≠0)=true):=decide_eq_true h
   go_enter Tryz.func186,Tryz.ntmps186
   go_wp2
   go_ret
   exact ⟨by rw [hd.out];simp;omega,rfl⟩
set_option maxRecDepth 100000 in
theorem Pg (w:World) (S:Nat→Prop) (v:Value) (l:List UInt8) (hS:∀ b,S b→b<w.heap.size) (h:AU w S v l) (hl:l.length≤140737488355328) :
 Calls Tryz.prog 202 #[v,.func (.func 186) #[] #[]] w fun e w'=>(∃ r:Int,e=.returned (.int .i64 r)∧decide (0≤r) = !DZ l)∧w'=w:=by
 obtain ⟨A,c,rfl,hc,hr⟩:=h
 have HC:=qh (fun hp=>BU hr hp)
 have pY:=qh (fun k (hk:k<l.length) (h:nth 0 l k≠0)=>WB hk h)
 have zT:=qh (fun (h:∀ k,k<l.length→nth 0 l k=0)=>(NF l).2 h)
 clear hr
 generalize hnn:l.length=n at *
 clear hnn
 go_enter Tryz.func202,Tryz.ntmps202
 go_wp2_with fail
 go_loopw [8] (fun vi wr=>∃ k:Nat,vi=.int .i64 k∧k≤n∧Hid (∀ j,j<k→nth 0 l j=0)∧wr=w) (fun vi _=>n-(intOf vi).toNat)
 case atStart=>exact ⟨0,rfl,by omega,fun j hj=>by omega,rfl⟩
 case round =>
  obtain ⟨k,rfl,hk,HJ,rfl⟩:=hrel
  by_cases hlt:k<n
  · obtain ⟨b,off,rfl,hb,hcl⟩:=HC.out (by omega)
    have c0:=hcl k hlt
    have HZ1:=qh (fun w'=>UO w' (nth 0 l k))
    by_cases h0:nth 0 l k=0
    · have HJ2:Hid (∀ j,j<k+1→nth 0 l j=0):=fun j hj=>by
        by_cases hjk:j<k
        · exact HJ.out j hjk
        · obtain rfl:j=k:=by omega
          exact h0
      rw [h0] at HZ1 c0
      clear hcl h0
      go_wp2_with (go_at_call 186;refine (HZ1.out _).mono ?_;rintro e w3 ⟨rfl,rfl⟩)
      go_roundw
      case rel=>exact ⟨k+1,by go_num,by omega,HJ2,trivial⟩
      case measure=>simp [intOf];omega
    · have pg:=qh (pY.out k hlt h0)
      have hd:decide (nth 0 l k≠0)=true:=decide_eq_true h0
      rw [hd] at HZ1
      clear hcl h0 hd
      generalize nth 0 l k=u at *
      go_wp2_with (go_at_call 186;refine (HZ1.out _).mono ?_;rintro e w3 ⟨rfl,rfl⟩)
      go_ret
      exact ⟨⟨k,rfl,by rw [pg.out];simp⟩,rfl⟩
  · obtain rfl:k=n:=by omega
    have pg:=qh (zT.out HJ.out)
    go_wp2_with fail
    go_ret
    exact ⟨⟨-1,rfl,by rw [pg.out];rfl⟩,rfl⟩
theorem Ph (w:World) (S:Nat→Prop) (v:Value) (l:List UInt8) (hS:∀ b,S b→b<w.heap.size) (h:AU w S v l) (hl:l.length≤140737488355328) :
 Calls Tryz.prog 156 #[v] w fun e w'=>e=.returned (.bool (DZ l))∧w'=w:=by
 have HI:=qh (Pg w S v l hS h hl)
 have zU:Hid (Calls Tryz.prog 185 #[v,.func (.func 186) #[] #[]] w fun e w'=>e=.returned (.bool (!DZ l))∧w'=w):=by
  obtain ⟨A,c,rfl,hc,hr⟩:=h
  clear hr
  show Calls _ _ _ _ _
  go_enter Tryz.func185,Tryz.ntmps185
  go_wp2_with (go_at_call 202;refine HI.out.mono ?_;rintro e w3 ⟨⟨r,rfl,hr⟩,rfl⟩;have HR:=qh hr;clear hr)
  go_ret
  exact ⟨by rw [← HR.out];rfl,rfl⟩
 obtain ⟨A,c,rfl,hc,hr⟩:=h
 clear hr HI
 generalize DZ l=z at *
 go_enter Tryz.func156,Tryz.ntmps156
 go_wp2_with (go_at_call 185;refine zU.out.mono ?_;rintro e w3 ⟨rfl,rfl⟩)
 go_ret
 exact ⟨by cases z <;> rfl,rfl⟩
end
end Go.Proofs.YthblbddmcdnllaaGreatDoor
