/- A part of the proof: WSize0, WHunt6, WHunt4, WHunt7, WHunt8, JoinP, PoolOf, PairC, PairW. -/
import Derived.Test.YtpenklpdjpkigaaGreatX9
import Derived.Test.YtpenklpdjpkigaaGreatX28
import Derived.Test.YtpenklpdjpkigaaGreatY7
import Derived.Deep.RegionHeld3
import Derived.Test.YtpenklpdjpkigaaGreatX32
import Derived.Test.YtpenklpdjpkigaaGreatX30
import Derived.Test.YtpenklpdjpkigaaGreatX31
import Derived.Test.YtpenklpdjpkigaaGreatY15
import Derived.Test.YtpenklpdjpkigaaGreatY2
import Derived.Carry
import Derived.Test.YtpenklpdjpkigaaGreatX26
import Derived.Test.YtpenklpdjpkigaaGreatY3
import Derived.Test.YtpenklpdjpkigaaGreatX21
import Derived.Test.YtpenklpdjpkigaaGreatY1
set_option maxHeartbeats 6400000
set_option linter.unusedVariables false
set_option linter.unusedSimpArgs false
namespace Go.Proofs.YtpenklpdjpkigaaGreat
section
open Go.RowKit Go.Shelf
attribute [local go_sem] Oper.semAt_some
def Nj:Pool:=⟨0,0,1,0,[]⟩
def Fz:Value:=.agg #[.int .i64 0,.int .i64 0,.int .i64 1,.int .i64 0,.slice none 0 0]
def JS:Array Value:=#[.int .i64 0,.int .i64 0,.int .i64 1,.int .i64 0,.slice none 0 0]
theorem Vl (w:World):IP w (fun b=>b<w.heap.size) Fz Nj:=⟨none,0,rfl,Nat.le_refl _,fun h=>absurd h (by decide)⟩
theorem Vm:Nj.ok:=⟨by unfold In64 Nj;decide,by unfold In64 Nj;decide,by unfold In64 Nj;decide,by unfold In64 Nj;decide,fun d hd=>(by cases hd),by decide⟩
theorem jk (w:World):Calls Tryz.prog 36 #[Fz] w fun e w'=>e=.returned (.int .i64 0)∧Below w.heap.size w w':=RZ w _ Fz Nj (fun b hb=>hb) (Vl w) Vm
theorem rY (w:World):Calls Tryz.prog 75 #[Fz] w fun e w'=>(∃ A c,e=.returned (.slice A 0 c))∧Below w.heap.size w w':=by
 refine (jB w _ Fz Nj (fun b hb=>hb) (Vl w) Vm).mono ?_
 rintro e w' ⟨v',rfl,⟨A,c,rfl,-⟩,hB⟩
 exact ⟨⟨A,c,rfl⟩,hB⟩
theorem ADk (w:World) (A:Option Addr) (c:Nat):Calls Tryz.prog 173 #[.slice A 0 c] w fun e w'=>e=.returned (.int .i64 0)∧w'=w:=by
 go_enter Tryz.func173,Tryz.ntmps173
 go_wp2_with fail
 go_loopw [3,8] (fun v vi wr=>v=.int .i64 0∧vi=.int .i64 0∧wr=w) (fun _ vi _=>1)
 case atStart=>exact ⟨rfl,rfl,rfl⟩
 case round =>
  obtain ⟨rfl,rfl,hwr⟩:=hrel
  rw [hwr]
  clear hwr wr
  go_wp2_with fail
  refine bodyPost_ret (v:=.int .i64 0) (by simp [results,Tryz.results173,go_sem]) rfl ⟨rfl,rfl⟩
theorem ADl (w:World) (g:Nat) (h:w.heap[g]? = some (.cells #[.int .i64 1,.int .i64 1,.int .i64 1,.int .i64 0,.int .i64 0,.int .i64 1,.int .i64 1] 3 (0,0))):Calls Tryz.prog 173 #[.slice (some ⟨g,0,none⟩) 7 7] w fun e w'=>e=.returned (.int .i64 5)∧w'=w:=by
 have h':AP w g #[.int .i64 1,.int .i64 1,.int .i64 1,.int .i64 0,.int .i64 0,.int .i64 1,.int .i64 1] 3:=h
 have x0:w.cell? ⟨g,0,none⟩=some (.int .i64 1):=h'.at 0 _ rfl
 have x1:w.cell? ⟨g,1,none⟩=some (.int .i64 1):=h'.at 1 _ rfl
 have x2:w.cell? ⟨g,2,none⟩=some (.int .i64 1):=h'.at 2 _ rfl
 have x3:w.cell? ⟨g,3,none⟩=some (.int .i64 0):=h'.at 3 _ rfl
 have x4:w.cell? ⟨g,4,none⟩=some (.int .i64 0):=h'.at 4 _ rfl
 have x5:w.cell? ⟨g,5,none⟩=some (.int .i64 1):=h'.at 5 _ rfl
 have x6:w.cell? ⟨g,6,none⟩=some (.int .i64 1):=h'.at 6 _ rfl
 clear h h'
 go_enter Tryz.func173,Tryz.ntmps173
 go_wp2_with fail
 go_loopw [3,8] (fun v vi wr=>((vi=.int .i64 0∧v=.int .i64 0)∨(vi=.int .i64 1∧v=.int .i64 1)∨(vi=.int .i64 2∧v=.int .i64 2)∨(vi=.int .i64 3∧v=.int .i64 3)∨(vi=.int .i64 4∧v=.int .i64 3)∨(vi=.int .i64 5∧v=.int .i64 3)∨(vi=.int .i64 6∧v=.int .i64 4)∨(vi=.int .i64 7∧v=.int .i64 5))∧wr=w) (fun _ vi _=>7-(intOf vi).toNat)
 case atStart=>exact ⟨.inl ⟨rfl,rfl⟩,rfl⟩
 case round =>
  obtain ⟨h8,hwr⟩:=hrel
  rw [hwr]
  clear hwr wr
  rcases h8 with ⟨rfl,rfl⟩|⟨rfl,rfl⟩|⟨rfl,rfl⟩|⟨rfl,rfl⟩|⟨rfl,rfl⟩|⟨rfl,rfl⟩|⟨rfl,rfl⟩|⟨rfl,rfl⟩
  · go_wp2_with fail
    exact ⟨⟨.inr (.inl ⟨rfl,rfl⟩),by trivial⟩,by simp [intOf]⟩
  · go_wp2_with fail
    exact ⟨⟨.inr (.inr (.inl ⟨rfl,rfl⟩)),by trivial⟩,by simp [intOf]⟩
  · go_wp2_with fail
    exact ⟨⟨.inr (.inr (.inr (.inl ⟨rfl,rfl⟩))),by trivial⟩,by simp [intOf]⟩
  · go_wp2_with fail
    exact ⟨⟨.inr (.inr (.inr (.inr (.inl ⟨rfl,rfl⟩)))),by trivial⟩,by simp [intOf]⟩
  · go_wp2_with fail
    exact ⟨⟨.inr (.inr (.inr (.inr (.inr (.inl ⟨rfl,rfl⟩))))),by trivial⟩,by simp [intOf]⟩
  · go_wp2_with fail
    exact ⟨⟨.inr (.inr (.inr (.inr (.inr (.inr (.inl ⟨rfl,rfl⟩)))))),by trivial⟩,by simp [intOf]⟩
  · go_wp2_with fail
    exact ⟨⟨.inr (.inr (.inr (.inr (.inr (.inr (.inr ⟨rfl,rfl⟩)))))),by trivial⟩,by simp [intOf]⟩
  · go_wp2_with fail
    refine bodyPost_ret (v:=.int .i64 5) (by simp [results,Tryz.results173,go_sem]) rfl ⟨rfl,rfl⟩
theorem MX (w:World):AP (w.alloc (.cells JS 45)) w.heap.size JS 45∧Below w.heap.size w (w.alloc (.cells JS 45)):=⟨AP.new w JS 45,(Below.refl _ _).alloc (Nat.le_refl _) _⟩
theorem Cc {w:World} {g:Nat} (h:AP w g JS 45):w.cell? ⟨g,0,none⟩=some (.int .i64 0)∧w.cell? ⟨g,1,none⟩=some (.int .i64 0)∧w.cell? ⟨g,2,none⟩=some (.int .i64 1)∧w.cell? ⟨g,3,none⟩=some (.int .i64 0)∧w.cell? ⟨g,4,none⟩=some (.slice none 0 0):=⟨h.at 0 _ rfl,h.at 1 _ rfl,h.at 2 _ rfl,h.at 3 _ rfl,h.at 4 _ rfl⟩
theorem wP (w:World):Calls Tryz.prog 174 #[Fz] w fun e w'=>e=.returned (.int .i64 0)∧Below w.heap.size w w':=by
 have YU:=qh (fun w'=>rY w')
 obtain ⟨hb,hB⟩:=MX w
 dsimp only [Fz,JS] at hb hB YU ⊢
 go_enter Tryz.func174,Tryz.ntmps174
 go_upto_region 1 with fail
 generalize w.alloc (.cells #[.int .i64 0,.int .i64 0,.int .i64 1,.int .i64 0,.slice none 0 0] 45)=w1 at *
 obtain ⟨x0,x1,x2,x3,x4⟩:=Cc hb
 have HB:=qh hB
 clear hb hB
 go_wp2_with (go_at_call 75;(with_reducible refine (YU.out _).mono ?_);rintro e w2 ⟨⟨A2,c2,rfl⟩,hB2⟩;have HB2:=qh hB2;clear hB2)
 rename World=>w2
 go_loopw [3,9] (fun v vi wr=>v=.int .i64 0∧vi=.int .i64 0∧wr=w2) (fun _ vi _=>1)
 case atStart=>exact ⟨rfl,rfl,rfl⟩
 case round =>
  obtain ⟨rfl,rfl,hwr⟩:=hrel
  rw [hwr]
  clear hwr wr
  go_wp2_with fail
  refine bodyPost_ret (v:=.int .i64 0) (by simp [results,Tryz.results174,go_sem]) rfl ⟨rfl,HB.out.trans (HB2.out.mono HB.out.size)⟩
set_option maxRecDepth 100000 in
theorem base0 (w:World):Calls Tryz.prog 109 #[Fz] w fun e w'=>e=.returned (.int .i64 5)∧Below w.heap.size w w':=by
 have aQ:=qh (fun w'=>jk w')
 have o7:=qh (fun w'=>wP w')
 have kX:=qh (fun w'=>jX w')
 have nT:=qh (fun w'=>ADk w' none 0)
 have Ms:=qh (fun w'=>nodes0 w' 1 (by omega) (by omega))
 have aA:=qh (fun w'=>nodes0 w' 3 (by omega) (by omega))
 have Nv:=qh (fun w'=>nodes0 w' 4 (by omega) (by omega))
 have Nw:=qh (fun w'=>nodes0 w' 5 (by omega) (by omega))
 have uU:=qh (fun (w0:World)=>ADl (w0.alloc (.cells #[.int .i64 1,.int .i64 1,.int .i64 1,.int .i64 0,.int .i64 0,.int .i64 1,.int .i64 1] 3)) w0.heap.size (heap_alloc_new w0 _))
 obtain ⟨hb,hB⟩:=MX w
 dsimp only [Fz,JS] at hb hB aQ o7 ⊢
 go_enter Tryz.func109,Tryz.ntmps109
 go_upto_region 1 with fail
 generalize w.alloc (.cells #[.int .i64 0,.int .i64 0,.int .i64 1,.int .i64 0,.slice none 0 0] 45)=w1 at *
 obtain ⟨x0,x1,x2,x3,x4⟩:=Cc hb
 have HB:=qh hB
 have HX:=qh hb
 clear hb hB
 go_upto_region 4 with (go_at_call 36;(with_reducible refine (aQ.out _).mono ?_);rintro e w2 ⟨rfl,hB2⟩;have HB2:=qh hB2;clear hB2)
 rename World=>w2
 have Kg:=qh (HX.out.below HB2.out HX.out.lt)
 clear x0 x1 x2 x3 x4
 obtain ⟨x0,x1,x2,x3,x4⟩:=Cc Kg.out
 have HP:Hid (∀ w',Below w2.heap.size w2 w'→w'.cell? ⟨w.heap.size,0,none⟩=some (.int .i64 0)∧w'.cell? ⟨w.heap.size,1,none⟩=some (.int .i64 0)∧w'.cell? ⟨w.heap.size,2,none⟩=some (.int .i64 1)∧w'.cell? ⟨w.heap.size,3,none⟩=some (.int .i64 0)∧w'.cell? ⟨w.heap.size,4,none⟩=some (.slice none 0 0)):=fun w' hB=>Cc (Kg.out.below hB Kg.out.lt)
 go_upto_region 5 with fail
 go_loopw [3,13] (fun v vi wr=>v=.slice none 0 0∧vi=.int .i64 0∧wr=w2) (fun _ vi _=>1)
 case atStart=>exact ⟨rfl,rfl,rfl⟩
 case round =>
  obtain ⟨rfl,rfl,hwr⟩:=hrel
  rw [hwr]
  clear hwr wr
  go_wp2_with (go_at_call 126;(with_reducible refine (kX.out _).mono ?_);rintro e w6 ⟨rfl,hw⟩;rw [hw];clear hw w6)
  have Zu:=(Below.refl w2.heap.size w2).drew
  go_region_held3 (fun w'=>w'.cell? ⟨w.heap.size,0,none⟩=some (.int .i64 0)∧w'.cell? ⟨w.heap.size,1,none⟩=some (.int .i64 0)∧w'.cell? ⟨w.heap.size,2,none⟩=some (.int .i64 1)∧w'.cell? ⟨w.heap.size,3,none⟩=some (.int .i64 0)∧w'.cell? ⟨w.heap.size,4,none⟩=some (.slice none 0 0)) (go_keep)
   (first
    | (go_at_call 173;have _:=o8;(with_reducible refine (uU.out IY).mono ?_);rintro e qz ⟨rfl,rfl⟩)
    | (go_at_call 117;have _:=o9;refine (Nw.out _).mono ?_;rintro e IY ⟨rfl,LQ⟩;have o8:=o9.trans (LQ.mono o9.size);clear x0 x1 x2 x3 x4;obtain ⟨x0,x1,x2,x3,x4⟩:=HP.out _ o8)
    | (go_at_call 174;refine (o7.out _).mono ?_;rintro e Ch ⟨rfl,Fg⟩;have o9:=Jh.trans (Fg.mono Jh.size);clear x0 x1 x2 x3 x4;obtain ⟨x0,x1,x2,x3,x4⟩:=HP.out _ o9)
    | (go_at_call 117;have _:=ADm;refine (Nv.out _).mono ?_;rintro e Jj ⟨rfl,aI⟩;have Jh:=fO.trans (aI.mono fO.size);clear x0 x1 x2 x3 x4;obtain ⟨x0,x1,x2,x3,x4⟩:=HP.out _ Jh)
    | (go_at_call 173;refine (nT.out _).mono ?_;rintro e CW ⟨rfl,rfl⟩;have ADm:=True.intro)
    | (go_at_call 117;have _:=sU;refine (Ms.out _).mono ?_;rintro e w9 ⟨rfl,Mg⟩;have fO:=sU.trans (Mg.mono sU.size);clear x0 x1 x2 x3 x4;obtain ⟨x0,x1,x2,x3,x4⟩:=HP.out _ fO)
    | (go_at_call 117;refine (aA.out _).mono ?_;rintro e w8 ⟨rfl,KE⟩;have sU:=Zu.trans (KE.mono Zu.size);clear x0 x1 x2 x3 x4;obtain ⟨x0,x1,x2,x3,x4⟩:=HP.out _ sU))
  go_wp2_with fail
  have Qm:Below w2.heap.size w2 (IY.alloc (.cells #[.int .i64 1,.int .i64 1,.int .i64 1,.int .i64 0,.int .i64 0,.int .i64 1,.int .i64 1] 3)):=o8.alloc o8.size _
  refine bodyPost_ret (v:=.int .i64 5) (by simp [results,Tryz.results109,go_sem]) rfl ⟨rfl,HB.out.trans ((HB2.out.trans (Qm.mono HB2.out.size)).mono HB.out.size)⟩
theorem ABN (w:World):Calls Tryz.prog 71 #[Fz] w fun e w'=>e=.returned (.int .i64 8)∧Below w.heap.size w w':=by
 have iO:=qh (fun w'=>base0 w')
 obtain ⟨hb,hB⟩:=MX w
 dsimp only [Fz,JS] at hb hB iO ⊢
 go_enter Tryz.func71,Tryz.ntmps71
 go_upto_region 1 with fail
 generalize w.alloc (.cells #[.int .i64 0,.int .i64 0,.int .i64 1,.int .i64 0,.slice none 0 0] 45)=w1 at *
 obtain ⟨x0,x1,x2,x3,x4⟩:=Cc hb
 have HB:=qh hB
 clear hb hB
 go_wp2_with (go_at_call 109;(with_reducible refine (iO.out _).mono ?_);rintro e w2 ⟨rfl,hB2⟩;have HB2:=qh hB2;clear hB2)
 refine bodyPost_ret (v:=.int .i64 8) (by simp [results,Tryz.results71,go_sem]) rfl ⟨rfl,HB.out.trans (HB2.out.mono HB.out.size)⟩
theorem ABO (w:World):Calls Tryz.prog 38 #[Fz,.int .i64 8] w fun e w'=>e=.returned (.bool true)∧Below w.heap.size w w':=by
 have iO:=qh (fun w'=>ABN w')
 obtain ⟨hb,hB⟩:=MX w
 dsimp only [Fz,JS] at hb hB iO ⊢
 go_enter Tryz.func38,Tryz.ntmps38
 go_upto_region 1 with fail
 generalize w.alloc (.cells #[.int .i64 0,.int .i64 0,.int .i64 1,.int .i64 0,.slice none 0 0] 45)=w1 at *
 obtain ⟨x0,x1,x2,x3,x4⟩:=Cc hb
 have HB:=qh hB
 clear hb hB
 go_wp2_with (go_at_call 71;(with_reducible refine (iO.out _).mono ?_);rintro e w2 ⟨rfl,hB2⟩;have HB2:=qh hB2;clear hB2)
 refine bodyPost_ret (v:=.bool true) (by simp [results,Tryz.results38,go_sem]) rfl ⟨rfl,HB.out.trans (HB2.out.mono HB.out.size)⟩
end
section
open Go.RowKit Go.Shelf
set_option maxRecDepth 100000 in
theorem La (w:World) (S:Nat→Prop) (img g mb base n:Nat) (bs:List UInt8) (fuel:Int) (h:Hn w S img g mb base n bs fuel) (hn:n+(bs.length / 256)*4096<maxLen) (hl:bs.length≤140737488355328) (hf:fuel≤9999999) :
 Calls Tryz.prog 19 #[.pointer (some ⟨img,0,none⟩),.func (.func 21) #[.pointer (some ⟨g,0,none⟩)] #[]] w fun e w'=>(∃ (P:List PS) (A A2:Option Addr) (c c2:Nat),e=.returned (.tuple #[.slice A P.length c,.slice A2 P.length c2])∧P.map PS.r=Ck bs fuel (bs.length / 256-1)∧w'.ownsRow w.heap.size 3 1 (.slice A P.length c) P.length (AB encI (P.map PS.r))∧w'.ownsRow w.heap.size 43 1 (.slice A2 P.length c2) P.length (AB Me P)∧Fu w' w.heap.size base bs fuel P)∧Hn w' S img g mb base (n+(bs.length / 256)*4096) bs fuel∧Touch (fun x=>x=mb) w w':=by
 have hlt:=h.lt
 have HH:=qh h
 have O9:=qh hlt
 have pQ:=qh (fun w' k root (h:Hn w' S img g mb base (n+k*4096) bs fuel) (hk:k<bs.length / 256)=>jw w' S img g mb base (n+k*4096) bs fuel root h (by omega) hl hf)
 unfold X5 at pQ
 have IX:=qh (fun w' (h:Hn w' S img g mb base 0 bs fuel∨∃ n,Hn w' S img g mb base n bs fuel)=>(show Calls Tryz.prog 42 #[.pointer (some ⟨img,0,none⟩)] w' fun e w''=>e=.returned (.int .i64 ((bs.length:Int) / 256))∧w'=w'' from by
  obtain ⟨n,h⟩:∃ n,Hn w' S img g mb base n bs fuel:=by
   rcases h with h|h
   · exact ⟨_,h⟩
   · exact h
  obtain ⟨-,A,c,h1,-⟩:=h.1
  exact CR w' img A bs.length c h1 hl))
 have Vt:=qh (Mc bs fuel)
 have wo:Hid (∀ k,Ck bs fuel (k+1)=Ck bs fuel k++(if OA bs ((k+1:Nat):Int) fuel=true then [((k+1:Nat):Int)] else [])):=fun k=>rfl
 have X0:bs.length / 256≤549755813888:=by omega
 have j4:(bs.length:Int) / 256=((bs.length / 256:Nat):Int):=by omega
 rw [j4] at IX
 obtain ⟨nb,hnb⟩:∃ q,bs.length / 256=q:=⟨_,rfl⟩
 rw [hnb] at pQ X0 IX ⊢
 clear h hn hl hf hlt hnb j4
 go_enter Tryz.func19,Tryz.ntmps19
 go_wp2_with fail
 go_loopw [6,7,8] (fun vo va vi wr=>∃ (k:Nat) (P:List PS) (A A2:Option Addr) (c c2:Nat),vo=.slice A P.length c∧va=.slice A2 P.length c2∧vi=.int .i64 ((k+1:Nat):Int)∧k≤nb-1∧Hid (P.map PS.r=Ck bs fuel k)∧Hid (wr.ownsRow w.heap.size 3 1 (.slice A P.length c) P.length (AB encI (P.map PS.r)))∧Hid (wr.ownsRow w.heap.size 43 1 (.slice A2 P.length c2) P.length (AB Me P))∧Hid (Fu wr w.heap.size base bs fuel P)∧Hid (Hn wr S img g mb base (n+k*4096) bs fuel)∧Hid (Touch (fun x=>x=mb) w wr)) (fun _ _ vi _=>nb+1-(intOf vi).toNat)
 case atStart=>exact ⟨0,[],none,none,0,0,rfl,rfl,rfl,Nat.zero_le _,rfl,World.ownsRow_nil _ _ _ _,World.ownsRow_nil _ _ _ _,Fu.nil,qh (by have:=HH.out;rw [Nat.zero_mul,Nat.add_zero];exact this),Touch.refl⟩
 case round =>
  obtain ⟨k,P,A,A2,c,c2,rfl,rfl,rfl,hk,HP,dK,QX,Yg,R8,Tx⟩:=hrel
  have OB:=qh (IX.out wr (.inr ⟨_,R8.out⟩))
  by_cases hlt:k+1<nb
  · have hil:((k+1:Nat):Int)<(nb:Int):=by omega
    have Ic:=qh (pQ.out wr k ((k+1:Nat):Int) R8.out (by omega))
    have hts:=wo.out k
    have hpl:P.length≤k:=by
     have:=Vt.out k
     rw [← HP.out,List.length_map] at this
     exact this
    have hszr:=Tx.out.size
    have ND:=qh R8.out.Xl
    obtain ⟨b,hb⟩:∃ b,OA bs ((k+1:Nat):Int) fuel=b:=⟨_,rfl⟩
    rw [hb] at Ic hts
    have GQ:=qh hts
    obtain ⟨i,hi⟩:∃ i,k+1=i:=⟨_,rfl⟩
    rw [hi] at Ic GQ hil ⊢
    have HI:=qh hi
    have hkn:k≤549755813888:=by omega
    obtain ⟨m,hm⟩:∃ m,P.length=m:=⟨_,rfl⟩
    have HM:=qh hm
    rw [hm] at dK QX hpl ⊢
    clear hts hb hi hlt hm R8
    cases b with
    | true =>
     go_upto_region 8 with (first|(go_at_call 42;(with_reducible refine OB.out.mono ?_);rintro e w5 ⟨rfl,rfl⟩)|(go_at_call 21;(with_reducible refine Ic.out.mono ?_);rintro e w5 ⟨⟨-,hx⟩,hH5,Ja⟩;obtain ⟨A5,c5,rfl,hd5⟩:=hx (by simp);have ry:=qh hH5;have JA:=qh Ja;have HD5:=qh hd5;clear hH5 Ja hd5 hx))
     rename World=>w5
     have JU:Hid (Ck bs fuel i=P.map PS.r++[(i:Int)]):=by show _=_;rw [← HI.out];rw [← HI.out] at GQ;rw [GQ.out,HP.out];rfl
     have Jl:=qh (IK dK.out ND.out JA.out)
     have Tz:=qh (IK QX.out ND.out JA.out)
     have T9:=qh (Yg.out.map ND.out JA.out)
     have QS:=qh (Tx.out.trans JA.out)
     have hs5:=QS.out.size
     have HD5:=qh (HD5.out.mono (b1':=w.heap.size) hszr (Nat.le_refl _))
     obtain ⟨m5,pR⟩:∃ q,(Qy bs ((i:Nat):Int) fuel).length=q:=⟨_,rfl⟩
     have HM5:=qh pR
     rw [pR] at HD5
     try rw [pR]
     clear dK QX Yg Tx JA ND GQ Ic OB pR
     go_upto_region 9 with (at_builtin;go_loud (refine BA Ir rfl _ _ rfl w.heap.size (.slice A m c) m (P.map PS.r) (i:Int) rfl Jl.out rfl (by omega) (by omega) ?_);intro A8 c8 w8 DI E5 Fx;have Ie:=qh DI;have Gl:=qh E5;clear DI E5 Fx)
     rename World=>w8
     have Mf:=qh (BH Tz.out Jl.out (by decide) Gl.out)
     have j5:=qh (T9.out.grown Jl.out (by decide) (by decide) Gl.out)
     have HD8:=qh (HD5.out.grown Jl.out (by decide) (by decide) Gl.out)
     have HH8:=qh (ry.out.grown Jl.out O9.out (by decide) (by decide) (by decide) Gl.out)
     have X7:Hid (Touch (fun x=>x=mb) w w8):=QS.out.trans' (Touch.BO (R:=fun x=>w.heap.size≤x) Gl.out (fun x hx=>(Jl.out.lt x hx).1)) (fun x hx=>.inr hx)
     have vP:=X7.out.size
     clear Tz T9 HD5 ry QS Jl Gl
     go_wp2_with (at_builtin;go_loud (refine BA ADr rfl _ _ rfl w.heap.size (.slice A2 m c2) m P ⟨(i:Int),A5,m5,c5⟩ rfl Mf.out rfl (by omega) (by omega) ?_);intro A9 c9 w9 CZ Cu Fh;have Qp:=qh CZ;have UD:=qh Cu;clear CZ Cu Fh)
     have xD:=qh (BH Ie.out Mf.out (by decide) UD.out)
     have xE:=qh (j5.out.grown Mf.out (by decide) (by decide) UD.out)
     have HD9:=qh (HD8.out.grown Mf.out (by decide) (by decide) UD.out)
     have HH9:=qh (HH8.out.grown Mf.out O9.out (by decide) (by decide) (by decide) UD.out)
     have xF:Hid (Touch (fun x=>x=mb) w w9):=X7.out.trans' (Touch.BO (R:=fun x=>w.heap.size≤x) UD.out (fun x hx=>(Mf.out.lt x hx).1)) (fun x hx=>.inr hx)
     have Jn:Hid ((P++[(⟨(i:Int),A5,m5,c5⟩:PS)]).length=m+1):=by show _=_;rw [List.length_append,HM.out];rfl
     clear Ie j5 HD8 HH8 X7 Mf UD
     go_roundw
     case rel =>
      refine ⟨i,P++[⟨(i:Int),A5,m5,c5⟩],A8,A9,c8,c9,by rw [Jn.out],by rw [Jn.out],by go_num,by have:=HI.out;omega,?_,?_,?_,?_,?_,xF⟩
      · show _=_
        rw [List.map_append,JU.out];rfl
      · rw [Jn.out,List.map_append];exact xD
      · rw [Jn.out];exact Qp
      · exact xE.out.snoc HM5.out.symm HD9.out
      · have e9:n+i*4096=n+k*4096+4096:=by have:=HI.out;omega
        rw [e9]
        exact HH9
     case measure=>simp [intOf];omega
    | false =>
     go_wp2_with (first|(go_at_call 42;(with_reducible refine OB.out.mono ?_);rintro e w5 ⟨rfl,rfl⟩)|(go_at_call 21;(with_reducible refine Ic.out.mono ?_);rintro e w5 ⟨⟨hx,-⟩,hH5,Ja⟩;obtain rfl:=hx (by simp);have ry:=qh hH5;have JA:=qh Ja;clear hH5 Ja hx))
     rename World=>w5
     have JU:Hid (P.map PS.r=Ck bs fuel i):=by show _=_;rw [← HI.out];rw [← HI.out] at GQ;rw [GQ.out,HP.out];simp
     have Jl:=qh (IK dK.out ND.out JA.out)
     have Tz:=qh (IK QX.out ND.out JA.out)
     have T9:=qh (Yg.out.map ND.out JA.out)
     have QS:=qh (Tx.out.trans JA.out)
     go_roundw
     case rel =>
      refine ⟨i,P,A,A2,c,c2,by rw [HM.out],by rw [HM.out],by go_num,by have:=HI.out;omega,JU,by rw [HM.out];exact Jl,by rw [HM.out];exact Tz,T9,?_,QS⟩
      have e9:n+i*4096=n+k*4096+4096:=by have:=HI.out;omega
      rw [e9]
      exact ry
     case measure=>simp [intOf];omega
  · have hil:(nb:Int)≤((k+1:Nat):Int):=by omega
    have WY:Hid (P.map PS.r=Ck bs fuel (nb-1)):=by
     show _=_
     have e9:k=nb-1:=by omega
     rw [← e9];exact HP.out
    have HMK:=qh (show n+k*4096≤n+nb*4096 by omega)
    obtain ⟨m,hm⟩:∃ m,P.length=m:=⟨_,rfl⟩
    have HM:=qh hm
    rw [hm] at dK QX ⊢
    clear hm hlt hk
    go_wp2_with (go_at_call 42;(with_reducible refine OB.out.mono ?_);rintro e w5 ⟨rfl,rfl⟩)
    refine bodyPost_ret (v:=.tuple #[.slice A m c,.slice A2 m c2]) (by simp [results,Tryz.results19,go_sem]) rfl ⟨⟨P,A,A2,c,c2,by rw [HM.out],WY.out,by rw [HM.out];exact dK.out,by rw [HM.out];exact QX.out,Yg.out⟩,⟨R8.out.1,R8.out.2.1,R8.out.2.2.1,R8.out.2.2.2.1,R8.out.2.2.2.2.1,R8.out.2.2.2.2.2.mono HMK.out⟩,Tx.out⟩
end
section
open Go.RowKit Go.Shelf
def X8 (w0:World) (bs:List UInt8) (no fuel:Int) (e:Ending) (w:World):Prop:=(N9 bs no fuel=false→e=.returned (.tuple #[.slice none 0 0,.bool false]))∧(N9 bs no fuel=true→∃ A c,e=.returned (.tuple #[.slice A (LY bs no fuel).length c,.bool true])∧w.ownsRow w0.heap.size 126 5 (.slice A (LY bs no fuel).length c) (LY bs no fuel).length (AB MR ((LY bs no fuel).map Vf)))
set_option maxRecDepth 100000 in
theorem UA (w:World) (S:Nat→Prop) (img g:Nat) (bs:List UInt8) (fuel root:Int) (u:Value) (hS:∀ b,S b→b<w.heap.size) (h:Cj w S img bs) (hl:bs.length≤140737488355328) (hf:fuel≤9999999) (hg:AP w g #[.pointer (some ⟨img,0,none⟩),.int .i64 fuel,u] 103) :
 Calls Tryz.prog 24 #[.pointer (some ⟨g,0,none⟩),.int .i64 root] w fun e w'=>X8 w bs root fuel e w'∧Below w.heap.size w w':=by
 have HW1:=qh (QR w S img g bs fuel root 3 u hS h hl hf hg)
 have J4:=qh (GM bs root 3 fuel)
 have HD:Hid (N9 bs root fuel=(Dx (Az bs root 3 fuel) && !Xj (Az bs root 3 fuel).AO)):=rfl
 have XD:=qh (fun h=>(Nh (st:=Az bs root 3 fuel) h).2.1)
 unfold X8 LY
 obtain ⟨st,hst⟩:∃ st,Az bs root 3 fuel=st:=⟨_,rfl⟩
 rw [hst] at HW1 J4 HD XD ⊢
 obtain ⟨D,hD⟩:∃ D,N9 bs root fuel=D:=⟨_,rfl⟩
 rw [hD] at HD ⊢
 unfold LX at HW1
 obtain ⟨B,hB⟩:∃ B,Dx st=B:=⟨_,rfl⟩
 rw [hB] at HW1 HD XD
 clear h hS hl hf hst hD hB hg
 go_enter Tryz.func24,Tryz.ntmps24
 go_upto_region 2 with (go_at_call 43;(with_reducible refine HW1.out.mono ?_);rintro e w4 ⟨⟨Ae,ne,ce,rfl,hrow⟩,hB4⟩;have HRW:=qh hrow;have CL:=qh hB4;clear hrow hB4)
 clear HW1
 cases B with
 | false =>
  have EK:Hid (D=false):=by show _=_;rw [HD.out];rfl
  go_wp2_with fail
  refine bodyPost_ret (v:=.tuple #[.slice none 0 0,.bool false]) (by simp [results,Tryz.results24,go_sem]) rfl ⟨⟨fun _=>rfl,fun h=>absurd (h.symm.trans EK.out) (by simp)⟩,CL.out⟩
 | true =>
  obtain ⟨hne,hrow⟩:=HRW.out rfl
  have HR4:=qh hrow
  have ET:=qh hne
  have Vy:ne≤4096:=by rw [hne];exact XD.out rfl
  clear hrow hne HRW XD
  obtain ⟨es,hes⟩:∃ es,st.AO=es:=⟨_,rfl⟩
  have ru:=qh hes
  rw [hes] at HR4 ET J4 HD
  clear hes
  obtain ⟨ge,pg,qg,rg⟩:=MJ HR4.out ET.out
  have oU:=qh pg
  have jN:=qh rg
  clear pg rg
  have ADq:=CL.out.size
  go_wp2_with fail
  go_loopw [8,23] (fun vo vi wr=>∃ (i:Nat) (A:Option Addr) (c:Nat),vo=.slice A i c∧vi=.int .i64 i∧i≤ne∧Hid (Below w4.heap.size w4 wr)∧Hid (wr.ownsRow w4.heap.size 126 5 (.slice A i c) i (AB MR ((es.take i).map Vf)))∧Hid (∀ j,j<i→(CP (nth ED es j).val).2=0)) (fun _ vi _=>ne-(intOf vi).toNat)
  case atStart=>exact ⟨0,none,0,rfl,rfl,Nat.zero_le _,Below.refl _ _,World.ownsRow_nil _ _ _ _,fun j hj=>by omega⟩
  case round =>
   obtain ⟨i,A,c,rfl,rfl,hi,Cy,HOW,HJ⟩:=hrel
   by_cases hlt:i<ne
   · obtain ⟨hA,hg⟩:=oU.out (by omega)
     subst hA
     have hi1:i<es.length:=by rw [← ET.out];exact hlt
     obtain ⟨e,he⟩:∃ e,nth ED es i=e:=⟨_,rfl⟩
     have e1:wr.cell? ⟨ge,i*3,none⟩=some (.int .i64 e.key):=AQ Cy.out hg (jN.out i 0 _ hi1 (by rw [he];rfl))
     have e2:wr.cell? ⟨ge,i*3+1,none⟩=some (.string (Am e.val)):=AQ Cy.out hg (jN.out i 1 _ hi1 (by rw [he];rfl))
     have e3:wr.cell? ⟨ge,i*3+2,none⟩=some (.int .i64 e.loc):=AQ Cy.out hg (jN.out i 2 _ hi1 (by rw [he];rfl))
     have hil:(i:Int)<(ne:Int):=by omega
     have hev:e.val.length≤24:=(J4.out.1 e (by rw [← he];exact Bv _ _ _ hi1)).2.2
     have Ep:=qh (fun w'=>PT w' e.val (by omega))
     have HE:=qh he
     have Ic:Hid ((es.take (i+1)).map Vf=(es.take i).map Vf++[(e.key,(CP e.val).1)]):=by
      show _=_
      rw [DV ED es i hi1,List.map_append,he]
      rfl
     have HI1:=qh hi1
     obtain ⟨⟨dt,me⟩,hm⟩:∃ q,CP e.val=q:=⟨_,rfl⟩
     have HM:=qh hm
     rw [hm] at Ep Ic
     dsimp only at Ep Ic
     unfold dtV at Ep
     have XQ:=Cy.out.size
     generalize Am e.val=sx at *
     clear he hm hev hi1
     have hbx:=AP.new wr #[.int .i64 e.key,.string sx,.int .i64 e.loc] 108
     have hBx:Below wr.heap.size wr (wr.alloc (.cells #[.int .i64 e.key,.string sx,.int .i64 e.loc] 108)):=(Below.refl _ _).alloc (Nat.le_refl _) _
     have M7:=qh hBx
     go_upto_region 8 with fail
     generalize wr.alloc (.cells #[.int .i64 e.key,.string sx,.int .i64 e.loc] 108)=w4x at *
     have x0:=hbx.at 0 _ rfl
     have x1:=hbx.at 1 _ rfl
     have HXB:=qh hbx
     clear hbx hBx e1 e2 e3
     by_cases hE:me=0
     · have HJ3:Hid (∀ j,j<i+1→(CP (nth ED es j).val).2=0):=fun j hj=>by
         by_cases hji:j<i
         · exact HJ.out j hji
         · obtain rfl:j=i:=by omega
           rw [HE.out,HM.out];exact hE
       subst hE
       go_upto_region 9 with (go_at_call 49;(with_reducible refine (Ep.out _).mono ?_);rintro r w5 ⟨rfl,BS⟩;have x0:=(HXB.out.below BS HXB.out.lt).at 0 _ rfl;have Ty:=qh (HXB.out.below BS HXB.out.lt);have CE:=qh (M7.out.trans (BS.mono M7.out.size));clear BS)
       rename World=>w5
       have hs5:=CE.out.size
       have hbd:=AP.new w5 #[.int .i64 dt.mapped,.int .i64 dt.tx,.int .i64 dt.made,.int .i64 dt.Bb] 122
       have hBd:Below w5.heap.size w5 (w5.alloc (.cells #[.int .i64 dt.mapped,.int .i64 dt.tx,.int .i64 dt.made,.int .i64 dt.Bb] 122)):=(Below.refl _ _).alloc (Nat.le_refl _) _
       generalize w5.alloc (.cells #[.int .i64 dt.mapped,.int .i64 dt.tx,.int .i64 dt.made,.int .i64 dt.Bb] 122)=w6 at *
       have Dz:=qh (CE.out.trans (hBd.mono hs5))
       have d0:=hbd.at 0 _ rfl
       have d1:=hbd.at 1 _ rfl
       have d2:=hbd.at 2 _ rfl
       have d3:=hbd.at 3 _ rfl
       have x0:=(Ty.out.below hBd Ty.out.lt).at 0 _ rfl
       have PM:=qh (own_below HOW.out Dz.out (Nat.le_refl _))
       have hs6:=Dz.out.size
       clear hbd hBd CE Ty HOW HXB M7 Ep
       go_wp2_with (at_builtin;go_loud (refine BA ADV rfl _ _ rfl w4.heap.size (.slice A i c) i ((es.take i).map Vf) (e.key,dt) rfl PM.out rfl (by omega) (by omega) ?_);intro A8 c8 w8 DI E5 Fx;have Ie:=qh DI;have Gl:=qh E5;clear DI E5 Fx)
       have KZ:Hid (Below w4.heap.size w4 w8):=(Cy.out.trans (Dz.out.mono XQ)).trans ((Touch.BO (R:=fun x=>w4.heap.size≤x) Gl.out (fun x hx=>(PM.out.lt x hx).1)).below (fun x h=>h) (by omega))
       have Qp:Hid (w8.ownsRow w4.heap.size 126 5 (.slice A8 (i+1) c8) (i+1) (AB MR ((es.take (i+1)).map Vf))):=by
        rw [Ic.out]
        exact Ie.out
       clear Ie Gl PM Dz Ic
       go_roundw
       case rel=>exact ⟨i+1,A8,c8,rfl,by go_num,by omega,KZ,Qp,HJ3⟩
       case measure=>simp [intOf];omega
     · have mO:((me:Int) != 0)=true:=by rw [bne_iff_ne];exact hE
       have EK:Hid (D=false):=by
        show _=_
        rw [HD.out,Yw HI1.out (by rw [HE.out,HM.out];exact hE)]
        rfl
       clear hE
       go_wp2_with (go_at_call 49;(with_reducible refine (Ep.out _).mono ?_);rintro r w5 ⟨rfl,BS⟩;have x0:=(HXB.out.below BS HXB.out.lt).at 0 _ rfl;have Ty:=qh (HXB.out.below BS HXB.out.lt);have CE:=qh (M7.out.trans (BS.mono M7.out.size));clear BS)
       rename World=>w5
       have hs5:=CE.out.size
       have hBd:Below w5.heap.size w5 (w5.alloc (.cells #[.int .i64 dt.mapped,.int .i64 dt.tx,.int .i64 dt.made,.int .i64 dt.Bb] 122)):=(Below.refl _ _).alloc (Nat.le_refl _) _
       refine bodyPost_ret (v:=.tuple #[.slice none 0 0,.bool false]) (by simp [results,Tryz.results24,go_sem]) rfl ⟨⟨fun _=>rfl,fun h=>absurd (h.symm.trans EK.out) (by simp)⟩,CL.out.trans ((Cy.out.trans ((CE.out.trans (hBd.mono hs5)).mono XQ)).mono CL.out.size)⟩
   · obtain rfl:i=ne:=by omega
     have EK:Hid (D=true):=by
      show _=_
      rw [HD.out,R5 (by rw [← ET.out];exact HJ.out)]
      rfl
     go_wp2_with fail
     refine bodyPost_ret (v:=.tuple #[.slice A i c,.bool true]) (by simp [results,Tryz.results24,go_sem]) rfl ⟨⟨fun h=>absurd (h.symm.trans EK.out) (by simp),fun _=>⟨A,c,by rw [ru.out,← ET.out],?_⟩⟩,CL.out.trans (Cy.out.mono CL.out.size)⟩
     have h9:=HOW.out.mono CL.out.size
     have h10:es.take i=es:=by rw [ET.out,List.take_length]
     rw [h10] at h9
     rw [ru.out,← ET.out]
     exact h9
end
section
open Go.RowKit Go.Shelf
set_option maxRecDepth 100000 in
theorem Lb (w:World) (S:Nat→Prop) (img g:Nat) (bs:List UInt8) (fuel:Int) (u:Value) (hS:∀ b,S b→b<w.heap.size) (h:Cj w S img bs) (hl:bs.length≤140737488355328) (hf:fuel≤9999999) (hg:AP w g #[.pointer (some ⟨img,0,none⟩),.int .i64 fuel,u] 103) :
 Calls Tryz.prog 23 #[.pointer (some ⟨img,0,none⟩),.func (.func 24) #[.pointer (some ⟨g,0,none⟩)] #[]] w fun e w'=>(∃ (P:List PS) (A A2:Option Addr) (c c2:Nat),e=.returned (.tuple #[.slice A P.length c,.slice A2 P.length c2])∧P.map PS.r=Cs bs fuel (bs.length / 256-1)∧w'.ownsRow w.heap.size 3 1 (.slice A P.length c) P.length (AB encI (P.map PS.r))∧w'.ownsRow w.heap.size 62 1 (.slice A2 P.length c2) P.length (AB Me P)∧Fv w' w.heap.size bs fuel P)∧Below w.heap.size w w':=by
 have pQ:=qh (fun w' (hB:Below w.heap.size w w') root=>UA w' S img g bs fuel root u (fun b hb=>Nat.lt_of_lt_of_le (hS b hb) hB.size) (h.below hB hS) hl hf (hg.below hB hg.lt))
 unfold X8 at pQ
 have IX:=qh (fun w' (hB:Below w.heap.size w w')=>(show Calls Tryz.prog 42 #[.pointer (some ⟨img,0,none⟩)] w' fun e w''=>e=.returned (.int .i64 ((bs.length:Int) / 256))∧w'=w'' from by
  obtain ⟨-,A,c,h1,-⟩:=h.below hB hS
  exact CR w' img A bs.length c h1 hl))
 have Vt:=qh (Md bs fuel)
 have wo:Hid (∀ k,Cs bs fuel (k+1)=Cs bs fuel k++(if N9 bs ((k+1:Nat):Int) fuel=true then [((k+1:Nat):Int)] else [])):=fun k=>rfl
 have X0:bs.length / 256≤549755813888:=by omega
 have j4:(bs.length:Int) / 256=((bs.length / 256:Nat):Int):=by omega
 rw [j4] at IX
 obtain ⟨nb,hnb⟩:∃ q,bs.length / 256=q:=⟨_,rfl⟩
 rw [hnb] at X0 IX ⊢
 clear h hl hf hnb j4 hg hS
 go_enter Tryz.func23,Tryz.ntmps23
 go_wp2_with fail
 go_loopw [6,7,8] (fun vo va vi wr=>∃ (k:Nat) (P:List PS) (A A2:Option Addr) (c c2:Nat),vo=.slice A P.length c∧va=.slice A2 P.length c2∧vi=.int .i64 ((k+1:Nat):Int)∧k≤nb-1∧Hid (P.map PS.r=Cs bs fuel k)∧Hid (wr.ownsRow w.heap.size 3 1 (.slice A P.length c) P.length (AB encI (P.map PS.r)))∧Hid (wr.ownsRow w.heap.size 62 1 (.slice A2 P.length c2) P.length (AB Me P))∧Hid (Fv wr w.heap.size bs fuel P)∧Hid (Below w.heap.size w wr)) (fun _ _ vi _=>nb+1-(intOf vi).toNat)
 case atStart=>exact ⟨0,[],none,none,0,0,rfl,rfl,rfl,Nat.zero_le _,rfl,World.ownsRow_nil _ _ _ _,World.ownsRow_nil _ _ _ _,Fv.nil,Below.refl _ _⟩
 case round =>
  obtain ⟨k,P,A,A2,c,c2,rfl,rfl,rfl,hk,HP,dK,QX,Yg,Tx⟩:=hrel
  have OB:=qh (IX.out wr Tx.out)
  by_cases hlt:k+1<nb
  · have hil:((k+1:Nat):Int)<(nb:Int):=by omega
    have Ic:=qh (pQ.out wr Tx.out ((k+1:Nat):Int))
    have hts:=wo.out k
    have hpl:P.length≤k:=by
     have:=Vt.out k
     rw [← HP.out,List.length_map] at this
     exact this
    have hszr:=Tx.out.size
    obtain ⟨b,hb⟩:∃ b,N9 bs ((k+1:Nat):Int) fuel=b:=⟨_,rfl⟩
    rw [hb] at Ic hts
    have GQ:=qh hts
    obtain ⟨i,hi⟩:∃ i,k+1=i:=⟨_,rfl⟩
    rw [hi] at Ic GQ hil ⊢
    have HI:=qh hi
    have hkn:k≤549755813888:=by omega
    obtain ⟨m,hm⟩:∃ m,P.length=m:=⟨_,rfl⟩
    have HM:=qh hm
    rw [hm] at dK QX hpl ⊢
    clear hts hb hi hlt hm
    cases b with
    | true =>
     go_upto_region 8 with (first|(go_at_call 42;(with_reducible refine OB.out.mono ?_);rintro e w5 ⟨rfl,rfl⟩)|(go_at_call 24;(with_reducible refine Ic.out.mono ?_);rintro e w5 ⟨⟨-,hx⟩,Ja⟩;obtain ⟨A5,c5,rfl,hd5⟩:=hx (by simp);have JA:=qh Ja;have HD5:=qh hd5;clear Ja hd5 hx))
     rename World=>w5
     have JU:Hid (Cs bs fuel i=P.map PS.r++[(i:Int)]):=by show _=_;rw [← HI.out];rw [← HI.out] at GQ;rw [GQ.out,HP.out];rfl
     have Jl:=qh (own_below dK.out JA.out (Nat.le_refl _))
     have Tz:=qh (own_below QX.out JA.out (Nat.le_refl _))
     have T9:=qh (Yg.out.below JA.out)
     have QS:=qh (Tx.out.trans (JA.out.mono hszr))
     have hs5:=QS.out.size
     have HD5:=qh (HD5.out.mono hszr)
     obtain ⟨l5,hl5⟩:∃ q,(LY bs ((i:Nat):Int) fuel)=q:=⟨_,rfl⟩
     have HL5:=qh hl5
     rw [hl5] at HD5
     try rw [hl5]
     obtain ⟨m5,pR⟩:∃ q,l5.length=q:=⟨_,rfl⟩
     have HM5:=qh pR
     rw [pR] at HD5
     try rw [pR]
     clear dK QX Yg Tx JA GQ Ic OB pR hl5
     go_upto_region 9 with (at_builtin;go_loud (refine BA Ir rfl _ _ rfl w.heap.size (.slice A m c) m (P.map PS.r) (i:Int) rfl Jl.out rfl (by omega) (by omega) ?_);intro A8 c8 w8 DI E5 Fx;have Ie:=qh DI;have Gl:=qh E5;clear DI E5 Fx)
     rename World=>w8
     have Mf:=qh (BH Tz.out Jl.out (by decide) Gl.out)
     have j5:=qh (T9.out.grown Jl.out (by decide) Gl.out)
     have HD8:=qh (BH HD5.out Jl.out (by decide) Gl.out)
     have X7:Hid (Below w.heap.size w w8):=QS.out.trans ((Touch.BO (R:=fun x=>w.heap.size≤x) Gl.out (fun x hx=>(Jl.out.lt x hx).1)).below (fun x h=>h) hs5)
     have vP:=X7.out.size
     clear Tz T9 HD5 QS Jl Gl
     go_wp2_with (at_builtin;go_loud (refine BA ADs rfl _ _ rfl w.heap.size (.slice A2 m c2) m P ⟨(i:Int),A5,m5,c5⟩ rfl Mf.out rfl (by omega) (by omega) ?_);intro A9 c9 w9 CZ Cu Fh;have Qp:=qh CZ;have UD:=qh Cu;clear CZ Cu Fh)
     have xD:=qh (BH Ie.out Mf.out (by decide) UD.out)
     have xE:=qh (j5.out.grown Mf.out (by decide) UD.out)
     have HD9:=qh (BH HD8.out Mf.out (by decide) UD.out)
     have xF:Hid (Below w.heap.size w w9):=X7.out.trans ((Touch.BO (R:=fun x=>w.heap.size≤x) UD.out (fun x hx=>(Mf.out.lt x hx).1)).below (fun x h=>h) vP)
     have Jn:Hid ((P++[(⟨(i:Int),A5,m5,c5⟩:PS)]).length=m+1):=by show _=_;rw [List.length_append,HM.out];rfl
     clear Ie j5 HD8 X7 Mf UD
     go_roundw
     case rel =>
      refine ⟨i,P++[⟨(i:Int),A5,m5,c5⟩],A8,A9,c8,c9,by rw [Jn.out],by rw [Jn.out],by go_num,by have:=HI.out;omega,?_,?_,?_,?_,xF⟩
      · show _=_
        rw [List.map_append,JU.out];rfl
      · rw [Jn.out,List.map_append];exact xD
      · rw [Jn.out];exact Qp
      · refine xE.out.snoc ?_ ?_
        · show m5=(LY bs (i:Int) fuel).length
          rw [HL5.out,HM5.out]
        · show w9.ownsRow w.heap.size _ 5 (.slice A5 m5 c5) (LY bs (i:Int) fuel).length _
          rw [HL5.out,HM5.out]
          exact HD9.out
     case measure=>simp [intOf];omega
    | false =>
     go_wp2_with (first|(go_at_call 42;(with_reducible refine OB.out.mono ?_);rintro e w5 ⟨rfl,rfl⟩)|(go_at_call 24;(with_reducible refine Ic.out.mono ?_);rintro e w5 ⟨⟨hx,-⟩,Ja⟩;obtain rfl:=hx (by simp);have JA:=qh Ja;clear Ja hx))
     rename World=>w5
     have JU:Hid (P.map PS.r=Cs bs fuel i):=by show _=_;rw [← HI.out];rw [← HI.out] at GQ;rw [GQ.out,HP.out];simp
     have Jl:=qh (own_below dK.out JA.out (Nat.le_refl _))
     have Tz:=qh (own_below QX.out JA.out (Nat.le_refl _))
     have T9:=qh (Yg.out.below JA.out)
     have QS:=qh (Tx.out.trans (JA.out.mono hszr))
     go_roundw
     case rel=>exact ⟨i,P,A,A2,c,c2,by rw [HM.out],by rw [HM.out],by go_num,by have:=HI.out;omega,JU,by rw [HM.out];exact Jl,by rw [HM.out];exact Tz,T9,QS⟩
     case measure=>simp [intOf];omega
  · have hil:(nb:Int)≤((k+1:Nat):Int):=by omega
    have WY:Hid (P.map PS.r=Cs bs fuel (nb-1)):=by
     show _=_
     have e9:k=nb-1:=by omega
     rw [← e9];exact HP.out
    obtain ⟨m,hm⟩:∃ m,P.length=m:=⟨_,rfl⟩
    have HM:=qh hm
    rw [hm] at dK QX ⊢
    clear hm hlt hk
    go_wp2_with (go_at_call 42;(with_reducible refine OB.out.mono ?_);rintro e w5 ⟨rfl,rfl⟩)
    refine bodyPost_ret (v:=.tuple #[.slice A m c,.slice A2 m c2]) (by simp [results,Tryz.results23,go_sem]) rfl ⟨⟨P,A,A2,c,c2,by rw [HM.out],WY.out,by rw [HM.out];exact dK.out,by rw [HM.out];exact QX.out,Yg.out⟩,Tx.out⟩
end
section
open Go.RowKit Go.Shelf
theorem Kb (w:World) (S:Nat→Prop) (img:Nat) (bs:List UInt8) (fuel:Int) (hS:∀ b,S b→b<w.heap.size) (h:Cj w S img bs) :
 Calls Tryz.prog 20 #[.pointer (some ⟨img,0,none⟩),.int .i64 fuel] w fun e w'=>(∃ g mb,e=.returned (.pointer (some ⟨g,0,none⟩))∧Hn w' S img g mb w.heap.size 0 bs fuel)∧Below w.heap.size w w':=by
 have hmm:=@run_makeMap Tryz.prog
 have HM:=qh (JE.made w w.heap.size bs fuel)
 have HH:=qh h
 have HS:=qh hS
 clear h hS
 go_enter Tryz.func20,Tryz.ntmps20
 go_wp2_with fail
 have hB1:Below w.heap.size w (w.alloc (.map #[] 0)):=(Below.refl _ _).alloc (Nat.le_refl _) _
 obtain ⟨w1,hw1⟩:∃ q,w.alloc (.map #[] 0)=q:=⟨_,rfl⟩
 rw [hw1] at hB1
 have HM1:=HM.out
 rw [hw1] at HM1
 have hz1:w1.heap.size=w.heap.size+1:=by rw [← hw1,World.size_alloc]
 try rw [hw1]
 have hbx:=AP.new w1 #[.pointer (some ⟨img,0,none⟩),.int .i64 fuel,.map (some w.heap.size)] 103
 have hB2:Below w1.heap.size w1 (w1.alloc (.cells #[.pointer (some ⟨img,0,none⟩),.int .i64 fuel,.map (some w.heap.size)] 103)):=(Below.refl _ _).alloc (Nat.le_refl _) _
 have hM2:JE (w1.alloc (.cells #[.pointer (some ⟨img,0,none⟩),.int .i64 fuel,.map (some w.heap.size)] 103)) w.heap.size bs fuel w.heap.size 0:=HM1.keep (R:=fun x=>w1.heap.size≤x) (Touch.of_below hB2) (fun e=>by omega) (fun x hx hr=>by omega)
 have Qm:=hB1.trans (hB2.mono (by omega))
 refine bodyPost_ret (v:=.pointer (some ⟨w1.heap.size,0,none⟩)) (by simp [results,Tryz.results20,go_sem,hz1]) rfl ⟨⟨_,_,rfl,HH.out.below Qm HS.out,HS.out,by omega,Nat.le_refl _,hbx,hM2⟩,Qm⟩
set_option maxRecDepth 100000 in
theorem Vr (w:World) (S:Nat→Prop) (img:Nat) (bs:List UInt8) (fuel:Int) (hS:∀ b,S b→b<w.heap.size) (h:Cj w S img bs) (hl:bs.length≤140737488355328) (hf:fuel≤9999999) :
 Calls Tryz.prog 9 #[.pointer (some ⟨img,0,none⟩),.int .i64 fuel] w fun e w'=>(∃ A c,e=.returned (.slice A (Ck bs fuel (bs.length / 256-1)).length c)∧w'.ownsRow w.heap.size 3 1 (.slice A (Ck bs fuel (bs.length / 256-1)).length c) (Ck bs fuel (bs.length / 256-1)).length (AB encI (Ck bs fuel (bs.length / 256-1))))∧Below w.heap.size w w':=by
 have HST:=qh (Kb w S img bs fuel hS h)
 have PH:=qh (fun w' g mb (h:Hn w' S img g mb w.heap.size 0 bs fuel)=>La w' S img g mb w.heap.size 0 bs fuel h (by unfold maxLen;omega) hl hf)
 clear hS h hl hf
 generalize Ck bs fuel (bs.length / 256-1)=tops at *
 go_enter Tryz.func9,Tryz.ntmps9
 go_wp2_with (first|(go_at_call 20;(with_reducible refine HST.out.mono ?_);rintro e w2 ⟨⟨g,mb,rfl,hh⟩,hB2⟩;have HB2:=qh hB2;have HN:=qh hh;clear hB2 hh)|(go_at_call 19;(with_reducible refine (PH.out _ g mb HN.out).mono ?_);rintro e w3 ⟨⟨P,A,A2,c,c2,rfl,hp,ho,-,-⟩,-,hT⟩;have HP:=qh hp;have HO:=qh ho;have HT:=qh hT;clear hp ho hT))
 have Jn:Hid (P.length=tops.length):=by show _=_;rw [← HP.out,List.length_map]
 have hmb:=HN.out.2.2.2.1
 have hB3:Below w.heap.size w w3:=HB2.out.trans (HT.out.below (fun x e=>by rw [e];exact hmb) HB2.out.size)
 refine bodyPost_ret (v:=.slice A P.length c) (by simp [results,Tryz.results9,go_sem]) rfl ⟨⟨A,c,by rw [Jn.out],?_⟩,hB3⟩
 have:=HO.out.mono HB2.out.size
 rw [HP.out,Jn.out] at this
 exact this
set_option maxRecDepth 100000 in
theorem Nk (w:World) (S:Nat→Prop) (img:Nat) (bs:List UInt8) (fuel:Int) (hS:∀ b,S b→b<w.heap.size) (h:Cj w S img bs) (hl:bs.length≤140737488355328) (hf:fuel≤9999999) :
 Calls Tryz.prog 11 #[.pointer (some ⟨img,0,none⟩),.int .i64 fuel] w fun e w'=>(∃ A c,e=.returned (.slice A (Cs bs fuel (bs.length / 256-1)).length c)∧w'.ownsRow w.heap.size 3 1 (.slice A (Cs bs fuel (bs.length / 256-1)).length c) (Cs bs fuel (bs.length / 256-1)).length (AB encI (Cs bs fuel (bs.length / 256-1))))∧Below w.heap.size w w':=by
 have HST:=qh (Kb w S img bs fuel hS h)
 have PH:=qh (fun w' g mb (hB:Below w.heap.size w w') (h:Hn w' S img g mb w.heap.size 0 bs fuel)=>Lb w' S img g bs fuel (.map (some mb)) (fun b hb=>Nat.lt_of_lt_of_le (hS b hb) hB.size) h.1 hl hf h.2.2.2.2.1)
 clear hS h hl hf
 generalize Cs bs fuel (bs.length / 256-1)=tops at *
 go_enter Tryz.func11,Tryz.ntmps11
 go_wp2_with (first|(go_at_call 20;(with_reducible refine HST.out.mono ?_);rintro e w2 ⟨⟨g,mb,rfl,hh⟩,hB2⟩;have HB2:=qh hB2;have HN:=qh hh;clear hB2 hh)|(go_at_call 23;(with_reducible refine (PH.out _ g mb HB2.out HN.out).mono ?_);rintro e w3 ⟨⟨P,A,A2,c,c2,rfl,hp,ho,-,-⟩,hT⟩;have HP:=qh hp;have HO:=qh ho;have HT:=qh hT;clear hp ho hT))
 have Jn:Hid (P.length=tops.length):=by show _=_;rw [← HP.out,List.length_map]
 have hB3:Below w.heap.size w w3:=HB2.out.trans (HT.out.mono HB2.out.size)
 refine bodyPost_ret (v:=.slice A P.length c) (by simp [results,Tryz.results11,go_sem]) rfl ⟨⟨A,c,by rw [Jn.out],?_⟩,hB3⟩
 have:=HO.out.mono HB2.out.size
 rw [HP.out,Jn.out] at this
 exact this
end
section
open Go.RowKit Go.Shelf
end
section
open Go.RowKit Go.Shelf
end
section
open Go.RowKit Go.Shelf
structure Cd where
 sup:Bool
 top:Int
 det:Int
 p:Pool
structure CdA where
 x:Cd
 A:Option Addr
 c:Nat
def Y8 (y:CdA):List Value:=[.bool y.x.sup,.int .i64 y.x.top,.int .i64 y.x.det,.int .i64 y.x.p.tx,.int .i64 y.x.p.time,.int .i64 y.x.p.unit,.int .i64 y.x.p.data,.slice y.A y.x.p.Ce.length y.c]
theorem dL (y:CdA):(Y8 y).length=8:=rfl
theorem dM:∀ (y:CdA),∀ u∈Y8 y,u.oneCell'=true:=by
 intro y u hu
 simp only [Y8,List.mem_cons,List.not_mem_nil,or_false] at hu
 rcases hu with rfl|rfl|rfl|rfl|rfl|rfl|rfl|rfl <;> rfl
theorem pU:(Tryz.prog.info? 67).map (fun i=>(i.zero,i.size,i.bytes))=some (some (.agg #[.bool false,.int .i64 0,.int .i64 0,.int .i64 0,.int .i64 0,.int .i64 0,.int .i64 0,.slice none 0 0]),8,80):=by kernel_rfl
theorem ADt:Elem Tryz.prog 36 67 8 80 Y8:=⟨Tryz.underlying36,⟨_,pU,rfl⟩,by omega,by omega,dL,dM⟩
section
variable {R:Nat→Prop} {w w':World} {mb b:Nat} {L:List CdA}
end
end
section
open Go.RowKit Go.Shelf
def Y9 (s:Nl):Array Value:=#[.int .i64 s.tx,.int .i64 s.time,.int .i64 s.unit,.int .i64 s.data,.int .i64 s.blocks,.int .i64 s.top,.int .i64 s.BQ,.int .i64 s.FD,.int .i64 s.Hg,.int .i64 s.FE,.int .i64 s.mover]
structure PQ where
 P:List PS
 Q:List PS
 A1:Option Addr
 A2:Option Addr
 A3:Option Addr
 A4:Option Addr
 c1:Nat
 c2:Nat
 c3:Nat
 c4:Nat
 g5:Nat
section
variable {w W W':World} {bs:List UInt8} {fuel:Int} {q:PQ}
end
end
end Go.Proofs.YtpenklpdjpkigaaGreat
