/- What becomes of a pool by an op, as plain Lean. No condition: no program is in sight here. -/
import Derived.Test.YtcdfbpdejbpgjaaGreatInsL
import Derived.Test.YtcdfbpdejbpgjaaGreatSearchK
import Derived.Test.YtcdfbpdejbpgjaaGreatPoolF
namespace Go.Proofs.YtcdfbpdejbpgjaaGreat
open Go.RowKit

structure Mop where
  kind : Int
  dev : Int
  arg : Int
  n : Int
def mop0 : Mop := ⟨0, 0, 0, 0⟩
def Mop.enc (o : Mop) : List Value := [.int .i64 o.kind, .int .i64 o.dev, .int .i64 o.arg, .int .i64 o.n]
def Mop.ok (o : Mop) : Prop := In64 o.kind ∧ In64 o.dev ∧ In64 o.arg ∧ In64 o.n
theorem Mop.enc_len (o : Mop) : o.enc.length = 4 := rfl
theorem incK_devs {p : Pool} (h : poolChk p = 0) : IncK Dev.id dev0 p.devs := by
  intro i j hij hj
  rw [nth_get dev0 _ i (by omega), nth_get dev0 _ j hj]
  exact List.pairwise_iff_getElem.1 (pool_ids h) i j (by omega) hj hij
theorem incK_maps {p : Pool} (h : poolChk p = 0) {k : Nat} (hk : k < p.devs.length) : IncK Mp.v mp0 (nth dev0 p.devs k).maps := (pool_dev h (nth_mem dev0 _ k hk)).2.1
theorem pool_head {p : Pool} (h : poolChk p = 0) : (0 ≤ p.tx ∧ p.tx ≤ 2147483647) ∧ (0 ≤ p.time ∧ p.time ≤ 16777215) ∧ (1 ≤ p.unit ∧ p.unit ≤ 65536) ∧ 0 ≤ p.data ∧ p.data ≤ 65536 := by
  obtain ⟨h1, _, _⟩ := poolChk_parts h
  unfold headB timesB at h1
  simp only [Bool.and_eq_true, inB_iff, List.all_cons, List.all_nil, Bool.and_true] at h1
  exact ⟨h1.1.1, h1.1.2, h1.2.1, h1.2.2⟩
/-- Where a device stands. -/
abbrev dpos (p : Pool) (id : Int) : Nat := posK Dev.id id p.devs
abbrev dhas (p : Pool) (id : Int) : Bool := hasK Dev.id id p.devs
def freshE (p : Pool) (id : Int) : Int := if id < 0 ∨ 16777215 < id then 2 else if dhas p id = true then 17 else 0
def withDevs (p : Pool) (l : List Dev) : Pool := ⟨p.tx, p.time, p.unit, p.data, l⟩
def newDev (p : Pool) (id : Int) (m : List Mp) : Dev := ⟨id, p.tx, p.time, p.time, m⟩
def addF (p : Pool) (id : Int) (m : List Mp) : Pool := withDevs p (insAt p.devs (dpos p id) (newDev p id m))
def createF (p : Pool) (o : Mop) : Int × Pool := if freshE p o.dev ≠ 0 then (freshE p o.dev, p) else if 4096 ≤ p.devs.length then (2, p) else (0, addF p o.dev [])
def snapped (d : Dev) (t : Int) : Dev := ⟨d.id, d.tx, d.made, t, d.maps⟩
/-- The pool's time goes on, and the origin tells it. -/
def stampF (p : Pool) (k : Nat) : Pool := ⟨p.tx, p.time + 1, p.unit, p.data, p.devs.set k (snapped (nth dev0 p.devs k) (p.time + 1))⟩
def snapF (p : Pool) (o : Mop) : Int × Pool :=
  if freshE p o.dev ≠ 0 then (freshE p o.dev, p) else if dhas p o.arg = false then (18, p)
  else if 4096 ≤ p.devs.length ∨ 16777215 ≤ p.time ∨ 16384 < p.count + (nth dev0 p.devs (dpos p o.arg)).maps.length then (2, p)
  else (0, addF (stampF p (dpos p o.arg)) o.dev (nth dev0 p.devs (dpos p o.arg)).maps)
def removeF (p : Pool) (o : Mop) : Int × Pool := if dhas p o.dev = false then (18, p) else (0, withDevs p (delAt p.devs (dpos p o.dev)))
def blkE (p : Pool) (o : Mop) : Int := if dhas p o.dev = false then 18 else if o.n < 1 ∨ 16384 < o.n ∨ o.arg < 0 ∨ 281474976710655 < o.arg ∨ 281474976710656 - o.arg < o.n then 2 else 0
def setMaps (p : Pool) (k : Nat) (m : List Mp) : Pool := withDevs p (p.devs.set k ⟨(nth dev0 p.devs k).id, (nth dev0 p.devs k).tx, (nth dev0 p.devs k).made, (nth dev0 p.devs k).snapped, m⟩)
def mapsOf (p : Pool) (k : Nat) : List Mp := (nth dev0 p.devs k).maps
def inOp (o : Mop) (m : Mp) : Bool := decide (o.arg ≤ m.v) && decide (m.v < o.arg + o.n)
def discardF (p : Pool) (o : Mop) : Int × Pool := if blkE p o ≠ 0 then (blkE p o, p) else (0, setMaps p (dpos p o.dev) ((mapsOf p (dpos p o.dev)).filter fun m => !inOp o m))
/-- The first count that is not above 0. -/
abbrev freeAt (l : List Int) : Nat := posK (fun x : Int => -x) 0 l
/-- How many mappings have the data block of mapping j of device k. -/
def cntAt (p : Pool) (k j : Nat) : Int := nth 0 (refsRes p) (nth mp0 (mapsOf p k) j).b.toNat
def wr1 (p : Pool) (k : Nat) (v : Int) : Int × Pool :=
  if hasK Mp.v v (mapsOf p k) = true ∧ cntAt p k (posK Mp.v v (mapsOf p k)) = 1 then (0, p)
  else if hasK Mp.v v (mapsOf p k) = false ∧ 16384 ≤ p.count then (2, p)
  else if freeAt (refsRes p) = (refsRes p).length then (14, p)
  else if hasK Mp.v v (mapsOf p k) = true then (0, setMaps p k ((mapsOf p k).set (posK Mp.v v (mapsOf p k)) ⟨v, freeAt (refsRes p), p.time⟩))
  else (0, setMaps p k (insAt (mapsOf p k) (posK Mp.v v (mapsOf p k)) ⟨v, freeAt (refsRes p), p.time⟩))
def wrN (p : Pool) (k : Nat) (v : Int) : Nat → Int × Pool
  | 0 => (0, p)
  | n + 1 => if (wr1 p k v).1 ≠ 0 then wr1 p k v else wrN (wr1 p k v).2 k (v + 1) n
def writeF (p : Pool) (o : Mop) : Int × Pool := if blkE p o ≠ 0 then (blkE p o, p) else wrN p (dpos p o.dev) o.arg o.n.toNat
def tickF (p : Pool) : Int × Pool := if 2147483647 ≤ p.tx then (2, p) else (0, ⟨p.tx + 1, p.time, p.unit, p.data, p.devs⟩)
def growF (p : Pool) (o : Mop) : Int × Pool := if o.n < p.data ∨ 65536 < o.n then (2, p) else (0, ⟨p.tx, p.time, p.unit, o.n, p.devs⟩)
def doF (p : Pool) (o : Mop) : Int × Pool :=
  if o.kind = 1 then createF p o else if o.kind = 2 then snapF p o else if o.kind = 3 then removeF p o else if o.kind = 4 then writeF p o else if o.kind = 5 then discardF p o else if o.kind = 6 then tickF p else if o.kind = 7 then growF p o else (1, p)
def applyF (p : Pool) (o : Mop) : Int × Pool := if poolChk p ≠ 0 then (poolChk p, pool0) else if (doF p o).1 ≠ 0 then ((doF p o).1, pool0) else (0, (doF p o).2)
/-- Several: how many were done, and why not all. -/
def runFrom (p : Pool) (i : Nat) : List Mop → Pool × Nat × Int
  | [] => (p, i, 0)
  | o :: l => if (applyF p o).1 ≠ 0 then (p, i, (applyF p o).1) else runFrom (applyF p o).2 (i + 1) l
def runF (p : Pool) (l : List Mop) : Pool × Nat × Int := if poolChk p ≠ 0 then (pool0, 0, poolChk p) else runFrom p 0 l
end Go.Proofs.YtcdfbpdejbpgjaaGreat
