/- A part of the proof: PackP, ValueP, NodeAt, NodeP, WErr, WFault. -/
import Derived.Test.YthblbddmcdnllaaGreatDoorX2
import Derived.Test.YthblbddmcdnllaaGreatDoorX5
import Derived.Test.YthblbddmcdnllaaGreatDoorProg
import Derived.LaidEql
import Derived.Stop.Asserts
import Derived.RowKitTokens
import Derived.Lib.Hide
import Derived.WideLaws
import Derived.Test.YthblbddmcdnllaaGreatDoorY1
set_option maxHeartbeats 6400000
set_option linter.unusedVariables false
set_option linter.unusedSimpArgs false
namespace Go.Proofs.YthblbddmcdnllaaGreatDoor
section
open Go.RowKit
def Aj (fs:List (Nat × Int)):List UInt8:=fs.flatMap fun f=>leB f.1 f.2.toNat
theorem Qx (fs:List (Nat × Int)) (k:Nat) (h:k<fs.length):Aj (fs.take (k+1))=Aj (fs.take k)++leB (nth (0,0) fs k).1 (nth (0,0) fs k).2.toNat:=by
 rw [Ck (0,0) fs k h];simp [Aj]
theorem Dg (fs:List (Nat × Int)):(Aj fs).length=Cb (fs.map (·.1)):=by
 induction fs with
 | nil=>rfl
 | cons f l ih=>rw [show Aj (f :: l)=leB f.1 f.2.toNat++Aj l from rfl,List.length_append,ih,Br];rfl
theorem MR (fs:List (Nat × Int)) (k:Nat):(Aj (fs.take k)).length≤(Aj fs).length:=by
 rw [Dg,Dg,List.map_take];exact GI _ _
def EG (f:Nat × Int):Prop:=Nk f.1∧0≤f.2∧f.2<9223372036854775808∧(f.1=8∨f.2<256 ^ f.1)
def MS (f:Nat × Int):List Value:=[.int .i64 (f.1:Int),.int .i64 f.2]
theorem Fy (f:Nat × Int):(MS f).length=2:=rfl
end
section
open Go.RowKit
structure Pt where
 w:Nat
 lo:Int
 hi:Int
def Ir:Pt:=⟨1,0,0⟩
def Mx (p:Pt):List Value:=[.int .i64 (p.w:Int),.int .i64 p.lo,.int .i64 p.hi]
theorem Tw (p:Pt):(Mx p).length=3:=rfl
def Qy (p:Pt):Prop:=Nk p.w∧0≤p.lo∧p.hi<9223372036854775808∧(p.w=8∨p.hi<256 ^ p.w)
def MU (p:Pt) (n:Int):Bool:=decide (p.lo≤n) && decide (n≤p.hi)
def IZ (ps:List Pt) (ns:List Int):Bool:=(List.range ps.length).all fun j=>MU (nth Ir ps j) (nth 0 ns j)
def Gj (ps:List Pt) (ns:List Int) (k:Nat):List (Nat × Int):=(List.range k).map fun j=>((nth Ir ps j).w,nth 0 ns j)
theorem K7 (ps:List Pt) (ns:List Int) (k:Nat):Gj ps ns (k+1)=Gj ps ns k++[((nth Ir ps k).w,nth 0 ns k)]:=by simp [Gj,List.range_succ]
theorem K8 (a:List (Nat × Int)) (f:Nat × Int):Aj (a++[f])=Aj a++leB f.1 f.2.toNat:=by simp [Aj]
theorem Tx (f:Nat × Int):Aj [f]=leB f.1 f.2.toNat:=by simp [Aj]
def Fb (ps:List Pt) (ns:List Int):List UInt8:=if IZ ps ns=true then Aj (Gj ps ns ps.length) else []
theorem Vr {ps:List Pt} {ns:List Int} {k:Nat} (hk:k<ps.length) (h:MU (nth Ir ps k) (nth 0 ns k)=false):IZ ps ns=false:=by
 unfold IZ
 rw [← Bool.not_eq_true,List.all_eq_true]
 intro hh
 have:=hh k (List.mem_range.2 hk)
 rw [h] at this
 cases this
theorem Ty {ps:List Pt} {ns:List Int} (h:∀ k,k<ps.length→MU (nth Ir ps k) (nth 0 ns k)=true):IZ ps ns=true:=by
 unfold IZ
 rw [List.all_eq_true]
 intro j hj
 exact h j (List.mem_range.1 hj)
def Ba (ps:List Pt):List Nat:=ps.map (·.w)
def Dm (ps:List Pt) (s:List UInt8):List Int × Int :=
 if s.length≠Cb (Ba ps) then (List.replicate ps.length 0,7)
 else if FQ s 0 (Ba ps)=true∨Fb ps (Df s 0 (Ba ps))=[] then (List.replicate ps.length 0,2)
 else (Df s 0 (Ba ps),0)
theorem TC:∀ (ps:List Pt) (ns:List Int) (k:Nat),k≤ps.length→Cb ((Gj ps ns k).map (·.1))=Cb ((Ba ps).take k)
 | ps,ns,0,_=>by simp [Gj,Cb]
 | ps,ns,k+1,h=>by
  rw [K7,List.map_append,G5,TC ps ns k (by omega),Fw _ k (by unfold Ba;rw [List.length_map];omega)]
  have e:nth 0 (Ba ps) k=(nth Ir ps k).w:=by
   rw [AZ 0 _ k (by unfold Ba;rw [List.length_map];omega),AZ Ir ps k (by omega)]
   simp [Ba]
  rw [e];simp [Cb]
end
section
open Go.RowKit
def Ct (bs:List UInt8) (k:Nat):List UInt8:=(bs.drop (k*256)).take 256
def TF (l:List UInt8) (tree:Int):Int:=if CK l≠0 then CK l else if tree≠0∧(EH l).tree≠tree then 6 else 0
def Iw (bs:List UInt8) (no:Int):Bool:=decide (0≤no) && decide (no<(bs.length:Int) / 256)
def EJ (bs:List UInt8) (kind no:Int):Int:=if Iw bs no=false then 3 else DD (Ct bs no.toNat) kind no
def AO (bs:List UInt8) (no:Int):List UInt8:=FT (Ct bs no.toNat)
def Al (bs:List UInt8) (no tree:Int):Int:=if EJ bs 2 no≠0 then EJ bs 2 no else TF (AO bs no) tree
def nodeAt (bs:List UInt8) (no:Int):Nd:=EH (AO bs no)
end
section
open Go.RowKit
def D5 (l:List UInt8) (k:Nat):Int:=if k=0 then -1 else (Cv l (k-1):Int)
def EL (l:List UInt8) (k:Nat):List Int:=(List.range k).map fun i=>(Cv l i:Int)
def FK (l:List UInt8) (M W k:Nat):List (List UInt8):=(List.range k).map (M0 l M W)
theorem GM (l:List UInt8) (k:Nat):(EL l k).length=k:=by simp [EL]
theorem PG (l:List UInt8) (k:Nat):EL l (k+1)=EL l k++[(Cv l k:Int)]:=by simp [EL,List.range_succ]
theorem PH (l:List UInt8) (M W k:Nat):FK l M W (k+1)=FK l M W k++[M0 l M W k]:=by simp [FK,List.range_succ]
theorem PI {l:List UInt8} {k:Nat} (h:0<k):nth 0 (EL l k) (k-1)=D5 l k:=by
 rw [AZ 0 _ (k-1) (by rw [GM];omega)]
 unfold D5
 rw [if_neg (by omega)]
 simp [EL]
theorem Q3 (l:List UInt8) (k:Nat):D5 l (k+1)=(Cv l k:Int):=by unfold D5;rw [if_neg (by omega),Nat.add_sub_cancel]
theorem Q4 {l:List UInt8} {k n:Nat} (h:k<n):G7 l (D5 l k) k (n-k)=if 281474976710655<Cv l k then 2 else if 0<k∧(Cv l k:Int)≤D5 l k then 8 else G7 l (D5 l (k+1)) (k+1) (n-(k+1)):=by
 obtain ⟨m,hm⟩:∃ m,n-k=m+1:=⟨n-k-1,by omega⟩
 rw [hm,show n-(k+1)=m by omega,Q3]
 show (if 281474976710655<Cv l k then 2 else if (Cv l k:Int)≤D5 l k then 8 else G7 l (Cv l k) (k+1) m)=_
 by_cases h1:281474976710655<Cv l k
 · rw [if_pos h1,if_pos h1]
 · rw [if_neg h1,if_neg h1]
   by_cases h2:(Cv l k:Int)≤D5 l k
   · have h0:0<k:=by
       rcases Nat.eq_zero_or_pos k with rfl|h0
       · exfalso;unfold D5 at h2;rw [if_pos rfl] at h2;omega
       · exact h0
     rw [if_pos h2,if_pos ⟨h0,h2⟩]
   · rw [if_neg h2,if_neg (fun h=>h2 h.2)]
theorem J2 (l:List UInt8):EH l=⟨AC l 1 1,decide (AC l 0 1=1),EL l (AC l 2 2),FK l (BH (AC l 1 1) (decide (AC l 0 1=1))) (Ah (AC l 1 1) (decide (AC l 0 1=1))) (AC l 2 2)⟩:=rfl
end
section
open Go.RowKit Go.Extern.Stop Go.Stop Go.Extern
attribute [local go_sem] Oper.semAt_some
theorem JO {P:Program} (w:World) (d:Nat) {ti tn:TypeId} {ms:Array (String × TypeId)} {i:TypeInfo} {k:IntKind} (a b:Int)
 (hi:P.underlying ti=some (.interface ms)) (hn:P.underlying tn=some (.int k)) (hinfo:P.info? tn=some i) (hcomp:i.comparable=true) :
 (Op.equalIn (d+2) ti (.iface tn (.int k a)) (.iface tn (.int k b))).run P w=.ok (a==b) w:=by
 simp [Op.equalIn,run_underlying hi,run_underlying hn,typeInfo,hinfo,hcomp]
theorem Ma {P:Program} (w:World) {ti tn:TypeId} {ms:Array (String × TypeId)} {i:TypeInfo} {k:IntKind} (a b:Int)
 (hi:P.underlying ti=some (.interface ms)) (hn:P.underlying tn=some (.int k)) (hinfo:P.info? tn=some i) (hcomp:i.comparable=true) :
 (binOp .eql ti (.iface tn (.int k a)) (.iface tn (.int k b))).run P w=.ok (.bool (a==b)) w:=by
 simp only [binOp]
 simp [Op.equal,Op.maxDepth,JO w 9998 a b hi hn hinfo hcomp]
theorem V4 (v:Value) (w:World):(Extern.ReflectliteType.typeOf #[.iface 44 v]).run Tryz.prog w=.ok (.iface 289 (.agg #[Go.typeHandle Tryz.prog 44])) w:=by kernel_rfl
theorem Nt (w : World) : ((Extern.ReflectliteType.method fun t => do Extern.Rtype.noPackHeld "Comparable" t; (fun a => Value.bool a.comparable) <$> typeInfo t) #[.agg #[Go.typeHandle Tryz.prog 44]]).run Tryz.prog w = .ok (.bool true) w := by kernel_rfl
theorem Iz (x : Nat) (v : Value) (w : World) : (Go.method (x + 1) 289 v "Comparable").run Tryz.prog w = .ok (277, v) w := by kernel_rfl
theorem bQ:(Tryz.prog.info? 44).map (·.comparable)=some true:=by kernel_rfl
theorem ig (v:Value) (xT:TypeId) (w:World):(Instr.typeAssert (.iface 44 v) xT 291 true).run Tryz.prog w=.ok (.tuple #[.nilIface,.bool false]) w:=run_typeAssert_lacksB Tryz.underlying291 (by kernel_rfl) (by kernel_rfl) v xT w
theorem UK (v:Value) (xT:TypeId) (w:World):(Instr.typeAssert (.iface 44 v) xT 294 true).run Tryz.prog w=.ok (.tuple #[.nilIface,.bool false]) w:=run_typeAssert_lacksB Tryz.underlying294 (by kernel_rfl) (by kernel_rfl) v xT w
theorem RG (v:Value) (xT:TypeId) (w:World):(Instr.typeAssert (.iface 44 v) xT 296 true).run Tryz.prog w=.ok (.tuple #[.nilIface,.bool false]) w:=run_typeAssert_lacksB Tryz.underlying296 (by kernel_rfl) (by kernel_rfl) v xT w
set_option maxRecDepth 100000 in
theorem PV (w:World) (k:Int):Calls Tryz.prog 128 #[.iface 44 (.int .i64 k),.iface 44 (.int .i64 0)] w fun e w'=>e=.returned (.bool (k==0))∧w'=w:=by
 obtain ⟨i,hi,hcmp⟩:=Option.map_eq_some_iff.1 bQ
 have h8:=@run_callFunc_extern Tryz.prog 168 _ Extern.ReflectliteType.typeOf Tryz.func168 (by kernel_rfl) (by kernel_rfl) (by kernel_rfl) (by kernel_rfl)
 have h32 := @run_callFunc_extern Tryz.prog 277 _ (Extern.ReflectliteType.method fun t => do Extern.Rtype.noPackHeld "Comparable" t; pure (.bool (← typeInfo t).comparable)) Tryz.func277 (by kernel_rfl) (by kernel_rfl) (by kernel_rfl) (by kernel_rfl)
 have tT:=V4
 have cT:=Nt
 have mR:=Iz
 have nE:=ig
 have uE:=UK
 have vE:=RG
 have heq:=Ma (P:=Tryz.prog) w k 0 Tryz.underlying27 Tryz.underlying44 hi hcmp
 by_cases hk:k=0
 · subst hk
   go_enter Tryz.func128,Tryz.ntmps128
   go_wp2
   refine wp_loop_rounds 1 ?_
   rw [rounds_succ]
   go_wp2
   go_ret
   exact ⟨rfl,rfl⟩
 · have hkb:(k==0)=false:=beq_false_of_ne hk
   rw [hkb] at heq
   have bN:=qh hkb
   clear hk hkb
   go_enter Tryz.func128,Tryz.ntmps128
   go_wp2
   refine wp_loop_rounds 1 ?_
   rw [rounds_succ]
   go_wp2
   go_ret
   exact ⟨by rw [bN.out];rfl,rfl⟩
end
section
open Go.RowKit
attribute [local go_sem] Oper.semAt_some
theorem Cc (w:World) (b:Int) (t:TypeId) (u:Value):Calls Tryz.prog 43 #[.int .i64 b,.iface t u] w fun e w'=>e=.returned (.iface 184 (.pointer (some ⟨w.heap.size,0,none⟩)))∧w'=w.alloc (.cells #[.int .i64 b,.iface t u] 186):=by
 go_enter Tryz.func43,Tryz.ntmps43
 go_wp2
 go_ret
 exact ⟨rfl,rfl⟩
theorem KO (w:World) (b:Int) (v:Value) (T:TypeId):(w.alloc (.cells #[.int .i64 b,v] T)).cell? ⟨w.heap.size,0,none⟩=some (.int .i64 b)∧(w.alloc (.cells #[.int .i64 b,v] T)).cell? ⟨w.heap.size,1,none⟩=some v:=by
 have h:=heap_alloc_new w (.cells #[.int .i64 b,v] T)
 exact ⟨(cell_of_row _ _ 0 _ _ (0,0) h).trans rfl,(cell_of_row _ _ 1 _ _ (0,0) h).trans rfl⟩
theorem Cu.wrap {w:World} {S:Nat→Prop} {v:Value} {bs:List Int} {c:Int} (h:Cu w S v bs c) (hS:∀ b,S b→b<w.heap.size) (b:Int) (S':Nat→Prop) (hs:∀ b,S b→S' b) (hn:S' w.heap.size) (T:TypeId) :
 Cu (w.alloc (.cells #[.int .i64 b,v] T)) S' (.iface 184 (.pointer (some ⟨w.heap.size,0,none⟩))) (b :: bs) c :=
 ⟨w.heap.size,v,rfl,hn,(KO w b v T).1,(KO w b v T).2,h.keep hs (DV hS _)⟩
theorem F4 (w:World) (no k:Int) (hk:k≠0):Calls Tryz.prog 84 #[.int .i64 no,.iface 44 (.int .i64 k)] w fun e w'=>e=.returned (.iface 184 (.pointer (some ⟨w.heap.size,0,none⟩)))∧w'=w.alloc (.cells #[.int .i64 no,.iface 44 (.int .i64 k)] 186):=by
 have HI:=PV w k
 rw [beq_false_of_ne hk] at HI
 have HI2:=qh HI
 have HA:=qh (Cc w no 44 (.int .i64 k))
 clear HI hk
 go_enter Tryz.func84,Tryz.ntmps84
 go_wp2_with (first
  | (go_at_call 128;refine HI2.out.mono ?_;rintro e w' ⟨rfl,rfl⟩)
  | (go_at_call 43;refine HA.out.mono ?_;rintro e w' ⟨rfl,rfl⟩))
 go_ret
 exact ⟨rfl,rfl⟩
theorem YP (w:World) (no:Int):Calls Tryz.prog 84 #[.int .i64 no,.iface 44 (.int .i64 0)] w fun e w'=>e=.returned .nilIface∧w'=w:=by
 have HI:=PV w 0
 have HI2:=qh HI
 clear HI
 go_enter Tryz.func84,Tryz.ntmps84
 go_wp2_with (go_at_call 128;refine HI2.out.mono ?_;rintro e w' ⟨rfl,rfl⟩)
 go_ret
 exact ⟨rfl,rfl⟩
theorem Nu (w:World) (no k:Int) (hk:k≠0) (S:Nat→Prop) (hn:S w.heap.size):Bf (w.alloc (.cells #[.int .i64 no,.iface 44 (.int .i64 k)] 186)) S (.iface 184 (.pointer (some ⟨w.heap.size,0,none⟩))) ⟨[no],k⟩:=by
 unfold Bf
 rw [if_neg hk]
 exact Cu.wrap (S:=fun _=>False) (v:=.iface 44 (.int .i64 k)) (bs:=[]) (show _=_ from rfl) (fun _ h=>h.elim) no S (fun _ h=>h.elim) hn _
end
end Go.Proofs.YthblbddmcdnllaaGreatDoor
