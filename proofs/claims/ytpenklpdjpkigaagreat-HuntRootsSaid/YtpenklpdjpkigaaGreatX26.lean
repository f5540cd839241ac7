/- A part of the proof: PairF, HnP, WAlloc1, WAlloc2, WAlloc3. -/
import Derived.Test.YtpenklpdjpkigaaGreatX7
import Derived.Test.YtpenklpdjpkigaaGreatX23
import Derived.Test.YtpenklpdjpkigaaGreatX24
import Derived.Test.YtpenklpdjpkigaaGreatY9
import Derived.Test.YtpenklpdjpkigaaGreatX12
import Derived.Test.YtpenklpdjpkigaaGreatY4
import Derived.Deep.QuietTactic
import Derived.BigQuiet
import Derived.Test.YtpenklpdjpkigaaGreatY2
import Derived.Test.YtpenklpdjpkigaaGreatX17
import Derived.Test.YtpenklpdjpkigaaGreatY1
set_option maxHeartbeats 6400000
set_option linter.unusedVariables false
set_option linter.unusedSimpArgs false
namespace Go.Proofs.YtpenklpdjpkigaaGreat
section
open Go.RowKit
def jQ (bs:List UInt8) (fuel:Int) (e:Kq):Dev:=⟨e.key,0,0,0,Gg bs fuel (Aj e.val).1⟩
def Qy (bs:List UInt8) (t fuel:Int):List Dev:=(Az bs t 1 fuel).AO.map (jQ bs fuel)
def LY (bs:List UInt8) (d fuel:Int):List Kq:=(Az bs d 3 fuel).AO
theorem bH {bs:List UInt8} {r fuel:Int} (h:0≤FK bs r fuel):(qQ bs 65536 fuel r).code=0∧FK bs r fuel=(Gg bs fuel r).length:=by
 unfold FK at h ⊢
 by_cases h1:(BJ (Az bs r 2 fuel)).code≠0
 · rw [if_pos h1] at h;omega
 · rw [if_neg h1] at h ⊢
   by_cases h2:Qx (Az bs r 2 fuel).AO=true
   · rw [if_pos h2] at h;omega
   · rw [if_neg h2] at h ⊢
     refine ⟨?_,by unfold Gg;rw [List.length_map]⟩
     unfold qQ
     rw [if_neg h1]
     rw [Ru ED]
     · rfl
     · intro j hj
       show uj 65536 (nth ED (Az bs r 2 fuel).AO j)=0
       have hb:(Ed (nth ED (Az bs r 2 fuel).AO j).val).2.2=0:=by
        refine Classical.byContradiction fun hc=>h2 (Tf hj hc)
       unfold uj
       rw [if_neg (by rw [hb];simp)]
       rw [if_neg]
       intro hle
       unfold Ed at hb hle
       split at hb
       · simp at hb
       · split at hb
         · simp at hb
         · rename_i n1 n2
           rw [if_neg n1,if_neg n2] at hle
           dsimp only at hle
           omega
theorem QK (bs:List UInt8) (fuel:Int):∀ (l:List Kq) (s:Int),0≤s→Ti (H8 bs fuel s l)=true→(∀ e∈l,(Aj e.val).2=0∧0≤FK bs (Aj e.val).1 fuel)∧s≤16384
 | [],s,hs,h=>⟨fun e he=>by simp at he,by simpa [H8,Ti] using h⟩
 | x :: r,s,hs,h=>by
  unfold H8 at h
  by_cases h1:(Aj x.val).2≠0
  · rw [if_pos h1] at h;simp [Ti] at h
  · rw [if_neg h1] at h
    by_cases h2:FK bs (Aj x.val).1 fuel<0
    · rw [if_pos h2] at h;simp [Ti] at h
    · rw [if_neg h2] at h
      obtain ⟨p1,p2⟩:=QK bs fuel r _ (by omega) h
      refine ⟨fun e he=>?_,by omega⟩
      rcases List.mem_cons.1 he with rfl|he
      · exact ⟨by simpa using h1,by omega⟩
      · exact p1 e he
theorem Nh {st:WS} (h:Dx st=true):(BJ st).code=0∧st.AO.length≤4096∧∀ e∈st.AO,e.key≤16777215:=by
 simp only [Dx,Bool.and_eq_true,decide_eq_true_eq,Bool.not_eq_true'] at h
 refine ⟨h.1.1,h.1.2,fun e he=>?_⟩
 have h3:=h.2
 unfold QJ at h3
 rw [List.any_eq_false] at h3
 have:=h3 e he
 simp only [decide_eq_true_eq] at this
 omega
end
section
open Go.RowKit Go.Shelf
def Hn (w:World) (S:Nat→Prop) (img g mb base n:Nat) (bs:List UInt8) (fuel:Int):Prop :=
 Cj w S img bs∧(∀ b,S b→b<base)∧base≤g∧base≤mb∧AP w g #[.pointer (some ⟨img,0,none⟩),.int .i64 fuel,.map (some mb)] 103∧JE w base bs fuel mb n
def Xk (w:World) (mb:Nat):Prop:=∃ es c,w.heap[mb]? = some (Obj.map es c)
theorem JE.Xl {w:World} {base mb n:Nat} {bs:List UInt8} {fuel:Int} (h:JE w base bs fuel mb n):Xk w mb:=by
 obtain ⟨D,⟨es,clock,hb,_⟩,_⟩:=h
 exact ⟨es,clock,hb⟩
section
variable {R:Nat→Prop} {w w':World} {S:Nat→Prop} {img g mb base n:Nat} {bs:List UInt8} {fuel:Int}
theorem Hn.lt (h:Hn w S img g mb base n bs fuel):base≤w.heap.size:=by
 have:=h.2.2.2.2.1.lt
 have:=h.2.2.1
 omega
theorem Hn.Xl (h:Hn w S img g mb base n bs fuel):Xk w mb:=h.2.2.2.2.2.Xl
theorem Hn.keep (h:Hn w S img g mb base n bs fuel) (hT:Touch R w w') (hm:¬ R mb) (hR:∀ x,x<w.heap.size→R x→base≤x∧GV w x):Hn w' S img g mb base n bs fuel:=by
 have hlt:=h.lt
 obtain ⟨h1,h2,h3,h4,h5,h6⟩:=h
 have hB:Below base w w':=⟨hT.1,hT.2.1,hT.2.2.1,hT.size,fun x hx=>hT.block (by omega) (fun hr=>by have:=(hR x (by omega) hr).1;omega)⟩
 exact ⟨h1.below hB h2,h2,h3,h4,(hT.block h5.lt (fun hr=>((hR g h5.lt hr).2 _ _ h5).2.2 rfl)).trans h5,h6.keep hT hm (fun x hx hr=>(hR x hx hr).2)⟩
theorem Hn.below (h:Hn w S img g mb base n bs fuel) (hB:Below w.heap.size w w'):Hn w' S img g mb base n bs fuel :=
 h.keep (R:=fun x=>w.heap.size≤x) (Touch.of_below hB) (fun e=>by have:=h.2.2.2.2.2.lt;omega) (fun x hx hr=>by omega)
theorem Hn.grown {b1 e size m:Nat} {v:Value} {xs:List Value} (h:Hn w S img g mb base n bs fuel) (hrow:w.ownsRow b1 e size v m xs) (hb:base≤b1) (h1:e≠111) (h2:e≠137) (h3:e≠103) (hg:w.grownBy w' v.ownBlock):Hn w' S img g mb base n bs fuel :=
 h.keep (R:=fun x=>v.ownBlock=some x) (Touch.BO hg (fun x hx=>hx)) (fun e=>by
  obtain ⟨es,c,hm⟩:=h.Xl
  obtain ⟨cs,T,hc⟩:=Ng hrow mb e
  rw [hc] at hm;injection hm with hm;cases hm) (fun x hx hr=>⟨by have:=(hrow.lt x hr).1;omega,GV.row hrow h1 h2 h3 x hr⟩)
theorem IK {b1 e size m:Nat} {v:Value} {xs:List Value} (h:w.ownsRow b1 e size v m xs) (hm:Xk w mb) (hT:Touch (fun x=>x=mb) w w'):w'.ownsRow b1 e size v m xs :=
 BG h hT (fun x hx hr=>by
  subst hr
  obtain ⟨es,c,hm⟩:=hm
  obtain ⟨cs,T,hc⟩:=Ng h x hx
  rw [hc] at hm;injection hm with hm;cases hm)
theorem Yy {b:Nat} {cs:Array Value} {T:TypeId} (h:AP w b cs T) (hm:Xk w mb) (hT:Touch (fun x=>x=mb) w w'):AP w' b cs T :=
 (hT.block h.lt (fun hr=>by
  obtain ⟨es,c,hm⟩:=hm
  unfold AP at h
  rw [hr,hm] at h;injection h with h;cases h)).trans h
end
theorem bI {w w':World} {b b1 e size m:Nat} {cs:Array Value} {T:TypeId} {v:Value} {xs:List Value} (h:AP w b cs T) (hrow:w.ownsRow b1 e size v m xs) (hne:e≠T) (hg:w.grownBy w' v.ownBlock):AP w' b cs T :=
 (hg.block b h.lt (BC hrow h hne)).trans h
theorem bJ {w:World} {b base:Nat} {e size:Nat} (h:AP w b #[] e) (hb:base≤b):w.ownsRow base e size (.slice (some ⟨b,0,none⟩) 0 0) 0 [] :=
 ⟨by simp,.inr ⟨b,0,#[],rfl,hb,h,Nat.le_refl _,Nat.zero_le _,by simp,by simp⟩⟩
structure dV where
 d:Dev
 A:Option Addr
 c:Nat
def QL (x:dV):List Value:=[.int .i64 x.d.id,.int .i64 x.d.tx,.int .i64 x.d.made,.int .i64 x.d.Bb,.slice x.A x.d.maps.length x.c]
theorem bK (x:dV):(QL x).length=5:=rfl
theorem bM:∀ (x:dV),∀ u∈QL x,u.oneCell'=true:=by
 intro x u hu
 simp only [QL,List.mem_cons,List.not_mem_nil,or_false] at hu
 rcases hu with rfl|rfl|rfl|rfl|rfl <;> rfl
theorem ADU:Elem Tryz.prog 43 115 5 56 QL:=⟨Tryz.underlying43,⟨_,aY,rfl⟩,by omega,by omega,bK,bM⟩
def EX (w:World) (b2:Nat) (L:List dV):Prop:=∀ x∈L,IJ w b2 (.slice x.A x.d.maps.length x.c) x.d.maps
def Jc (w:World) (b1 b2:Nat) (v:Value) (l:List Dev):Prop:=∃ L:List dV,L.map dV.d=l∧w.ownsRow b1 115 5 v l.length (AB QL L)∧EX w b2 L
section
variable {R:Nat→Prop} {w w':World} {mb b1 b2:Nat} {L:List dV} {v:Value} {l:List Dev}
theorem EX.below (h:EX w b2 L) (hB:Below w.heap.size w w'):EX w' b2 L:=fun x hx=>own_below (h x hx) hB (Nat.le_refl _)
theorem EX.map (h:EX w b2 L) (hm:Xk w mb) (hT:Touch (fun x=>x=mb) w w'):EX w' b2 L:=fun x hx=>IK (h x hx) hm hT
theorem EX.grown {b e size m:Nat} {u:Value} {xs:List Value} (h:EX w b2 L) (hrow:w.ownsRow b e size u m xs) (he:e≠137) (hg:w.grownBy w' u.ownBlock):EX w' b2 L:=fun x hx=>BH (h x hx) hrow he hg
theorem EX.nil:EX w b2 []:=fun x hx=>by simp at hx
theorem EX.snoc {x:dV} (h:EX w b2 L) (hx:IJ w b2 (.slice x.A x.d.maps.length x.c) x.d.maps):EX w b2 (L++[x]):=fun y hy=>by
 rcases List.mem_append.1 hy with hy|hy
 · exact h y hy
 · obtain rfl:=List.mem_singleton.1 hy
   exact hx
theorem Jc.map (h:Jc w b1 b2 v l) (hm:Xk w mb) (hT:Touch (fun x=>x=mb) w w'):Jc w' b1 b2 v l:=by
 obtain ⟨L,h1,h2,h3⟩:=h
 exact ⟨L,h1,IK h2 hm hT,h3.map hm hT⟩
theorem Jc.grown {b e size m:Nat} {u:Value} {xs:List Value} (h:Jc w b1 b2 v l) (hrow:w.ownsRow b e size u m xs) (h1:e≠137) (h2:e≠115) (hg:w.grownBy w' u.ownBlock):Jc w' b1 b2 v l:=by
 obtain ⟨L,p1,p2,p3⟩:=h
 exact ⟨L,p1,BH p2 hrow h2 hg,p3.grown hrow h1 hg⟩
theorem Jc.mono {b1' b2':Nat} (h:Jc w b1 b2 v l) (h1:b1'≤b1) (h2:b2'≤b2):Jc w b1' b2' v l:=by
 obtain ⟨L,p1,p2,p3⟩:=h
 exact ⟨L,p1,p2.mono h1,fun x hx=>(p3 x hx).mono h2⟩
end
def Vf (e:Kq):Int × Dt:=(e.key,(CP e.val).1)
def MR (p:Int × Dt):List Value:=[.int .i64 p.1,.int .i64 p.2.mapped,.int .i64 p.2.tx,.int .i64 p.2.made,.int .i64 p.2.Bb]
theorem bN (x:Int × Dt):(MR x).length=5:=rfl
theorem bO:∀ (x:Int × Dt),∀ u∈MR x,u.oneCell'=true:=by
 intro x u hu
 simp only [MR,List.mem_cons,List.not_mem_nil,or_false] at hu
 rcases hu with rfl|rfl|rfl|rfl|rfl <;> rfl
theorem oV:(Tryz.prog.info? 126).map (fun i=>(i.zero,i.size,i.bytes))=some (some (.agg #[.int .i64 0,.int .i64 0,.int .i64 0,.int .i64 0,.int .i64 0]),5,40):=by kernel_rfl
theorem ADV:Elem Tryz.prog 62 126 5 40 MR:=⟨Tryz.underlying62,⟨_,oV,rfl⟩,by omega,by omega,bN,bO⟩
end
section
open Go.RowKit Go.Shelf
def JF (w:World) (a img n c:Nat) (A:Option Addr) (next:Int):Prop:=AP w a #[.slice A n c,.int .i64 next,.pointer (some ⟨img,0,none⟩)] 162
theorem JF.cells {w:World} {a img n c:Nat} {A:Option Addr} {next:Int} (h:JF w a img n c A next):w.cell? ⟨a,0,none⟩=some (.slice A n c)∧w.cell? ⟨a,1,none⟩=some (.int .i64 next)∧w.cell? ⟨a,2,none⟩=some (.pointer (some ⟨img,0,none⟩)) :=
 ⟨AP.at h 0 _ rfl,AP.at h 1 _ rfl,AP.at h 2 _ rfl⟩
section
variable (w:World) (a img n c:Nat) (A:Option Addr) (next:Int) (h:JF w a img n c A next)
include h
theorem KI:Calls Tryz.prog 110 #[.pointer (some ⟨a,0,none⟩)] w fun e w'=>e=.returned (.bool false)∧w'=w:=by
 obtain ⟨a0,a1,a2⟩:=h.cells
 clear h
 go_enter Tryz.func110,Tryz.ntmps110
 go_wp2
 go_ret
 exact ⟨rfl,rfl⟩
theorem MS:Calls Tryz.prog 72 #[.pointer (some ⟨a,0,none⟩)] w fun e w'=>e=.returned (.pointer (some ⟨img,0,none⟩))∧w'=w:=by
 have HN:=qh (KI w a img n c A next h)
 obtain ⟨a0,a1,a2⟩:=h.cells
 clear h
 go_enter Tryz.func72,Tryz.ntmps72
 go_wp2_with (go_at_call 110;(with_reducible refine HN.out.mono ?_);rintro e w2 ⟨rfl,hw⟩;rw [hw];clear hw w2)
 go_ret
 exact ⟨rfl,rfl⟩
theorem vU:Calls Tryz.prog 132 #[.pointer (some ⟨a,0,none⟩)] w fun e w'=>e=.returned (.int .i64 next)∧w'=w:=by
 have HN:=qh (KI w a img n c A next h)
 obtain ⟨a0,a1,a2⟩:=h.cells
 clear h
 go_enter Tryz.func132,Tryz.ntmps132
 go_wp2_with (go_at_call 110;(with_reducible refine HN.out.mono ?_);rintro e w2 ⟨rfl,hw⟩;rw [hw];clear hw w2)
 go_ret
 exact ⟨rfl,rfl⟩
end
def Tj (gl n k:Nat) (e:Ending):Prop:=∃ o c',e=.returned (.slice (some ⟨gl,o,none⟩) (n-k) c')∧n-k≤c'∧(k<n→o=k)
theorem Yz (w:World) (a img n c:Nat) (gl k:Nat) (h:JF w a img n c (some ⟨gl,0,none⟩) k) (hk:k≤n) (hc:n≤c) (hn:n≤1000000):Calls Tryz.prog 178 #[.pointer (some ⟨a,0,none⟩)] w fun e w'=>Tj gl n k e∧Below w.heap.size w w':=by
 obtain ⟨a0,a1,a2⟩:=h.cells
 have hk2:(k:Int)≤(n:Int):=by omega
 have hk0:(0:Int)≤(k:Int):=by omega
 have hkc:(k:Int)≤(c:Int):=by omega
 have HC:=qh hc
 clear h hc
 unfold Tj
 go_enter Tryz.func178,Tryz.ntmps178
 go_upto_region 1 with fail
 go_quiet (fail)
 go_wp2_with fail
 · refine bodyPost_ret (v:=.slice (some ⟨gl,0,none⟩) (n-k) 0) (by simp [results,Tryz.results178,go_sem]) rfl ⟨⟨_,_,rfl,by have:=HC.out;omega,fun h=>by have:=HC.out;omega⟩,(Touch.drewN (R:=fun _=>False) nq).below (fun x h=>h.elim) (Nat.le_refl _)⟩
 · refine bodyPost_ret (v:=.slice (some ⟨gl,k,none⟩) (n-k) (c-k)) (by simp [results,Tryz.results178,go_sem]) rfl ⟨⟨_,_,rfl,by have:=HC.out;omega,fun _=>rfl⟩,(Touch.drewN (R:=fun _=>False) nq).below (fun x h=>h.elim) (Nat.le_refl _)⟩
theorem Xm (w:World) (a img n c:Nat) (gl k:Nat) (h:JF w a img n c (some ⟨gl,0,none⟩) k) (hk:k≤n) (hc:n≤c) (hn:n≤1000000):Calls Tryz.prog 116 #[.pointer (some ⟨a,0,none⟩)] w fun e w'=>e=.returned (.int .i64 ((n-k:Nat):Int))∧Below w.heap.size w w':=by
 have HN:=qh (KI w a img n c _ _ h)
 have HL:=qh (Yz w a img n c gl k h hk hc hn)
 unfold Tj at HL
 obtain ⟨a0,a1,a2⟩:=h.cells
 clear h hk hc hn
 generalize n-k=m at *
 go_enter Tryz.func116,Tryz.ntmps116
 go_wp2_with (first|(go_at_call 110;(with_reducible refine HN.out.mono ?_);rintro e w2 ⟨rfl,hw⟩;rw [hw];clear hw w2)|(go_at_call 178;(with_reducible refine HL.out.mono ?_);rintro e w2 ⟨⟨o2,c2,rfl,-,-⟩,hB⟩;have HB:=qh hB;clear hB))
 go_ret
 exact ⟨rfl,HB.out⟩
theorem vV (w:World) (a img n c:Nat) (gl k:Nat) (x:Int) (h:JF w a img n c (some ⟨gl,0,none⟩) k) (hk:k<n) (hn:n≤1000000) (hx:w.cell? ⟨gl,k,none⟩=some (.int .i64 x)) (hne:gl≠a):Calls Tryz.prog 220 #[.pointer (some ⟨a,0,none⟩)] w fun e w'=>e=.returned (.tuple #[.int .i64 x,.bool true])∧JF w' a img n c (some ⟨gl,0,none⟩) ((k+1:Nat):Int)∧Touch (fun b=>b=a) w w':=by
 obtain ⟨a0,a1,a2⟩:=h.cells
 have f1:=AP.free h 1
 have hlt:=AP.lt h
 have HH:=qh h
 have hk2:(k:Int)<(n:Int):=by omega
 have hk3:¬ (n:Int)≤(k:Int):=by omega
 have HX:=qh hx
 have ET:=qh hne
 clear h hx hne
 go_enter Tryz.func220,Tryz.ntmps220
 go_upto_region 1 with fail
 go_quiet (fail)
 go_upto_region 4 with fail
 have hb2:JF ((w.drewN nq).setCell ⟨a,1,none⟩ (.int .i64 ((k:Int)+1))) a img n c (some ⟨gl,0,none⟩) ((k:Int)+1):=AP.set HH.out 1 _
 have VL:Touch (fun b=>b=a) w ((w.drewN nq).setCell ⟨a,1,none⟩ (.int .i64 ((k:Int)+1))):=(Touch.drewN nq).trans (Touch.Dc (R:=fun b=>b=a) (p:=⟨a,1,none⟩) rfl)
 have hx2:((w.drewN nq).setCell ⟨a,1,none⟩ (.int .i64 ((k:Int)+1))).cell? ⟨gl,k,none⟩=some (.int .i64 x):=(World.cell?_of_block (a:=⟨gl,k,none⟩) (VL.block (World.block_lt_of_cell? _ _ HX.out) ET.out)).trans HX.out
 generalize (w.drewN nq).setCell ⟨a,1,none⟩ (.int .i64 ((k:Int)+1))=w2 at *
 obtain ⟨c0,c1,c2⟩:=hb2.cells
 have HB2:=qh hb2
 have HT2:=qh VL
 clear a0 a1 a2 f1 hlt hb2 VL HH
 have hk4:(k:Int)+1-1=(k:Int):=by omega
 have hk5:(0:Int)≤(k:Int):=by omega
 go_quiet (fail)
 go_wp2_with fail
 refine bodyPost_ret (v:=.tuple #[.int .i64 x,.bool true]) (by simp [results,Tryz.results220,go_sem]) rfl ⟨rfl,?_,?_⟩
 · exact HB2.out
 · exact HT2.out.trans (Touch.drewN _)
theorem vW (w:World) (a img n c:Nat) (gl k:Nat) (x:Int) (h:JF w a img n c (some ⟨gl,0,none⟩) k) (hk:k<n) (hn:n≤1000000) (hx:w.cell? ⟨gl,k,none⟩=some (.int .i64 x)) (hne:gl≠a):Calls Tryz.prog 188 #[.pointer (some ⟨a,0,none⟩)] w fun e w'=>e=.returned (.tuple #[.int .i64 x,.nilIface])∧JF w' a img n c (some ⟨gl,0,none⟩) ((k+1:Nat):Int)∧Touch (fun b=>b=a) w w':=by
 have HN:=qh (KI w a img n c _ _ h)
 have HL:=qh (vV w a img n c gl k x h hk hn hx hne)
 clear h hk hn hx hne
 go_enter Tryz.func188,Tryz.ntmps188
 go_wp2_with (first|(go_at_call 110;(with_reducible refine HN.out.mono ?_);rintro e w2 ⟨rfl,hw⟩;rw [hw];clear hw w2)|(go_at_call 220;(with_reducible refine HL.out.mono ?_);rintro e w2 ⟨rfl,hb,hT⟩;have HB:=qh hb;have HT:=qh hT;clear hb hT))
 go_ret2
 exact ⟨rfl,HB.out,HT.out⟩
end
section
open Go.RowKit Go.Shelf
def Xn (n:Nat):List Int:=(List.range n).map fun i=>((i+1:Nat):Int)
theorem Y0 (n:Nat):(Xn n).length=n:=by simp [Xn]
theorem jR (n:Nat):Xn (n+1)=Xn n++[((n+1:Nat):Int)]:=by simp [Xn,List.range_succ]
theorem Y1 {n k:Nat} (h:k<n):nth 0 (Xn n) k=((k+1:Nat):Int):=by
 unfold nth Xn
 simp [List.getD,h]
set_option maxRecDepth 100000 in
theorem AA1 (w:World) (img ni ci:Nat) (Ai:Option Addr) (h:w.cell? ⟨img,0,none⟩=some (.slice Ai ni ci)) (hni:ni≤140737488355328) (h2:2≤ni / 256) (hn:ni / 256≤14400) (hlt:img<w.heap.size) :
 Calls Tryz.prog 39 #[.pointer (some ⟨img,0,none⟩),.int .i64 1] w fun e w'=>(∃ a gl c,e=.returned (.tuple #[.pointer (some ⟨a,0,none⟩),.nilIface])∧w.heap.size≤a∧gl≠a∧JF w' a img (ni / 256-1) c (some ⟨gl,0,none⟩) 0∧w'.ownsRow w.heap.size 3 1 (.slice (some ⟨gl,0,none⟩) (ni / 256-1) c) (ni / 256-1) (AB encI (Xn (ni / 256-1))))∧Below w.heap.size w w':=by
 have IX:=qh (fun w' (hB:Below w.heap.size w w')=>(show Calls Tryz.prog 42 #[.pointer (some ⟨img,0,none⟩)] w' fun e w''=>e=.returned (.int .i64 ((ni / 256:Nat):Int))∧w'=w'' from by
  have:=CR w' img Ai ni ci (AQ hB hlt h) hni
  rwa [show (ni:Int) / 256=((ni / 256:Nat):Int) by omega] at this))
 obtain ⟨nb,hnb⟩:∃ q,ni / 256=q:=⟨_,rfl⟩
 rw [hnb] at IX h2 hn ⊢
 have O9:=qh hlt
 clear h hni hnb hlt
 have AEp:¬ (nb:Int)<1:=by omega
 have AEq:(1:Int)≤(nb:Int):=by omega
 go_enter Tryz.func39,Tryz.ntmps39
 go_upto_region 4 with (go_at_call 42;(with_reducible refine (IX.out _ (Below.refl _ _)).mono ?_);rintro e w5 ⟨rfl,rfl⟩)
 go_wp2_with fail
 go_loopw [6,7] (fun vo vi wr=>∃ (k:Nat) (A:Option Addr) (c:Nat),vo=.slice A k c∧vi=.int .i64 ((k+1:Nat):Int)∧k≤nb-1∧Hid (Below w.heap.size w wr)∧Hid (wr.ownsRow w.heap.size 3 1 (.slice A k c) k (AB encI (Xn k)))) (fun _ vi _=>nb+1-(intOf vi).toNat)
 case atStart=>exact ⟨0,none,0,rfl,rfl,Nat.zero_le _,Below.refl _ _,World.ownsRow_nil _ _ _ _⟩
 case round =>
  obtain ⟨k,A,c,rfl,rfl,hk,Cy,HOW⟩:=hrel
  have OB:=qh (IX.out wr Cy.out)
  have hszr:=Cy.out.size
  by_cases hlt:k+1<nb
  · have hil:((k+1:Nat):Int)<(nb:Int):=by omega
    go_wp2_with (first|(go_at_call 42;(with_reducible refine OB.out.mono ?_);rintro e w5 ⟨rfl,rfl⟩)|(at_builtin;go_loud (refine BA Ir rfl _ _ rfl w.heap.size (.slice A k c) k (Xn k) ((k+1:Nat):Int) rfl HOW.out rfl (by omega) (by omega) ?_);intro A8 c8 w8 DI E5 Fx;have Ie:=qh DI;have Gl:=qh E5;clear DI E5 Fx))
    have KZ:Hid (Below w.heap.size w w8):=Cy.out.trans ((Touch.BO (R:=fun x=>w.heap.size≤x) Gl.out (fun x hx=>(HOW.out.lt x hx).1)).below (fun x h=>h) hszr)
    have Qp:Hid (w8.ownsRow w.heap.size 3 1 (.slice A8 (k+1) c8) (k+1) (AB encI (Xn (k+1)))):=by rw [jR];exact Ie.out
    clear Ie Gl
    go_roundw
    case rel=>exact ⟨k+1,A8,c8,rfl,by go_num,by omega,KZ,Qp⟩
    case measure=>simp [intOf];omega
  · have hil:(nb:Int)≤((k+1:Nat):Int):=by omega
    obtain rfl:k=nb-1:=by omega
    obtain ⟨gl,hA,hgl,hc,hs⟩:=CG HOW.out (by omega)
    subst hA
    have HGL:=qh hgl
    have hbx:=AP.new wr #[.slice (some ⟨gl,0,none⟩) (nb-1) c,.int .i64 0,.pointer (some ⟨img,0,none⟩)] 162
    have hBx:Below wr.heap.size wr (wr.alloc (.cells #[.slice (some ⟨gl,0,none⟩) (nb-1) c,.int .i64 0,.pointer (some ⟨img,0,none⟩)] 162)):=(Below.refl _ _).alloc (Nat.le_refl _) _
    have DU:=qh hbx
    have TK:=qh hBx
    clear hs hbx hBx hgl
    go_wp2_with (go_at_call 42;(with_reducible refine OB.out.mono ?_);rintro e w5 ⟨rfl,rfl⟩)
    refine bodyPost_ret (v:=.tuple #[.pointer (some ⟨wr.heap.size,0,none⟩),.nilIface]) (by simp [results,Tryz.results39,go_sem]) rfl ⟨⟨wr.heap.size,gl,c,rfl,hszr,by have:=HGL.out;omega,DU.out,own_below HOW.out TK.out (Nat.le_refl _)⟩,Cy.out.trans (TK.out.mono hszr)⟩
end
section
open Go.RowKit Go.Shelf
def Bn (w:World) (base a img gl n c k:Nat) (bs:List UInt8):Prop:=JF w a img n c (some ⟨gl,0,none⟩) k∧Bo w base img bs∧w.ownsRow base 3 1 (.slice (some ⟨gl,0,none⟩) n c) n (AB encI (Xn n))∧base≤a∧gl≠a
def Cg (w:World) (a img:Nat) (x:Nat):Prop:=x=a∨bQ w img x
section
variable {w w':World} {base a img gl n c k:Nat} {bs:List UInt8}
theorem Bn.below (h:Bn w base a img gl n c k bs) (hB:Below w.heap.size w w'):Bn w' base a img gl n c k bs:=by
 obtain ⟨h1,h2,h3,h4,h5⟩:=h
 exact ⟨AP.below h1 hB (AP.lt h1),h2.below' hB,own_below h3 hB (Nat.le_refl _),h4,h5⟩
theorem Bn.cell (h:Bn w base a img gl n c k bs) (hk:k<n):w.cell? ⟨gl,k,none⟩=some (.int .i64 ((k+1:Nat):Int)):=by
 obtain ⟨h1,h2,h3,h4,h5⟩:=h
 obtain ⟨g,e,hg,hc,hs⟩:=CG h3 (by omega)
 injection e with e
 injection e with e
 subst e
 have:=hs (k*1+0) (.int .i64 ((k+1:Nat):Int)) (DK (size:=1) (d:=(0:Int)) Bh (Xn n) k 0 _ (by rw [Y0];exact hk) (by rw [Y1 hk];rfl))
 rwa [add_lit,Nat.zero_add,Nat.mul_one,Nat.add_zero] at this
theorem JR (h:Bo w base img bs) (x:Nat) (hx:bQ w img x):∃ cs,w.heap[x]? = some (Obj.cells cs 5 (0,0))∧base≤x:=by
 obtain ⟨h0,A,c,h1,h2⟩:=h
 obtain ⟨v,hv,hx⟩:=hx
 rw [h1.cell] at hv
 injection hv with hv
 subst hv
 rcases h2.2 with ⟨e,_⟩|⟨g',cap,cur,e,hb,hg,rest⟩
 · rw [e] at hx;cases hx
 · rw [e] at hx
   have e1:x=g':=by simpa [Value.ownBlock] using hx.symm
   subst e1
   exact ⟨_,hg,hb⟩
end
set_option maxRecDepth 100000 in
theorem jS (w:World) (S:Nat→Prop) (base a img gl n c k:Nat) (bs:List UInt8) (kind:Nat) (v:Value) (inn:List UInt8) (hS:∀ b,S b→b<w.heap.size) (yN:¬ S a) (h:Bn w base a img gl n c k bs) (hk:k<n) (hn:n≤14000) (hb:AX w S v inn) (hl:inn.length≤244) (hk1:1≤kind) (hk4:kind≤4) (hj:(k+1)*256+256≤bs.length) (hbl:bs.length≤3686400) :
 Calls Tryz.prog 131 #[.pointer (some ⟨a,0,none⟩),.int .i64 kind,v] w fun e w'=>e=.returned (.tuple #[.int .i64 ((k+1:Nat):Int),.nilIface])∧Bn w' base a img gl n c (k+1) (Jm bs ((k+1:Nat):Int) (Bq kind (k+1) inn))∧Touch (Cg w a img) w w':=by
 have hc:=h.cell hk
 obtain ⟨h1,h2,h3,h4,h5⟩:=h
 have Lp:=qh (vW w a img n c gl k ((k+1:Nat):Int) h1 hk (by omega) hc h5)
 have I1:=qh (fun w' (ho:Bo w' base img bs) (hT:Touch (fun b=>b=a) w w')=>KJ w' S base img bs (k+1) kind v inn (fun b hb=>Nat.lt_of_lt_of_le (hS b hb) hT.size) ho (by omega) (hb.keep (AA _) (fun _ h=>h) (Ap hT (fun b hb=>⟨hS b hb,fun e=>yN (by rw [← e];exact hb)⟩))) hl hk1 hk4 (by omega) hj)
 have HA:=qh h1
 have HI:=qh h2
 have HR:=qh h3
 have QZ:Hid (∀ w',Touch (fun b=>b=a) w w'→Bo w' base img bs∧(∀ x,bQ w' img x→bQ w img x)):=fun w' hT=>by
  obtain ⟨p0,A,cc,p1,p2⟩:=h2
  have hia:img≠a:=fun e=>by
   subst e
   have q1:w.heap[img]? = some _:=p1
   have q2:w.heap[img]? = some _:=h1
   rw [q1] at q2
   injection q2 with q2
   injection q2 with _ q3
   exact absurd q3 (by decide)
  have q1:One w' img (.slice A bs.length cc) 48:=(hT.block (Array.getElem?_eq_some_iff.1 p1).1 (fun e=>hia e)).trans p1
  refine ⟨⟨p0,A,cc,q1,BG p2 hT (fun x hx e=>BC p2 h1 (by decide) (by rw [← e];exact hx.symm))⟩,fun x hx=>?_⟩
  obtain ⟨v,hv,hx⟩:=hx
  rw [q1.cell] at hv
  exact ⟨v,by rw [p1.cell];exact hv,hx⟩
 have iO:=qh (And.intro h4 h5)
 clear hS yN hk hn hb hl hk1 hk4 hj hbl hc h1 h2 h3 h4 h5
 obtain ⟨no,hno⟩:∃ x,k+1=x:=⟨_,rfl⟩
 have Np:=qh hno
 rw [hno] at Lp I1 ⊢
 clear hno
 generalize Bq kind no inn=sb at *
 go_enter Tryz.func131,Tryz.ntmps131
 go_upto_region 4 with (go_at_call 188;(with_reducible refine Lp.out.mono ?_);rintro e w2 ⟨rfl,hb2,VL⟩;have HB2:=qh hb2;have HT2:=qh VL;clear hb2 VL)
 rename World=>w2
 obtain ⟨a0,a1,a2⟩:=HB2.out.cells
 have ADW:=qh (I1.out w2 (QZ.out w2 HT2.out).1 HT2.out)
 go_wp2_with (go_at_call 79;(with_reducible refine ADW.out.mono ?_);rintro e w3 ⟨rfl,ho3,Vz⟩;have YS:=qh ho3;have HT3:=qh Vz;clear ho3 Vz)
 refine bodyPost_ret (v:=.tuple #[.int .i64 no,.nilIface]) (by simp [results,Tryz.results131,go_sem]) rfl ⟨rfl,⟨?_,YS.out,?_,iO.out.1,iO.out.2⟩,?_⟩
 · exact (HT3.out.block (AP.lt HB2.out) (fun hx=>by
     obtain ⟨cs,hx,-⟩:=JR (QZ.out w2 HT2.out).1 a hx
     have h9:w2.heap[a]? = some _:=HB2.out
     rw [hx] at h9
     injection h9 with h9
     injection h9 with _ h9
     exact absurd h9 (by decide))).trans HB2.out
 · have hr2:=BG HR.out HT2.out (fun x hx e=>BC HR.out HA.out (by decide) (by rw [← e];exact hx.symm))
   exact BG hr2 HT3.out (fun x hx hx2=>by
    obtain ⟨cs,hx3,-⟩:=JR (QZ.out w2 HT2.out).1 x hx2
    exact BC hr2 hx3 (by decide) hx.symm)
 · exact (HT2.out.weak (fun x hx=>.inl hx)).trans (HT3.out.weak (fun x hx=>.inr ((QZ.out w2 HT2.out).2 x hx)))
end
end Go.Proofs.YtpenklpdjpkigaaGreat
