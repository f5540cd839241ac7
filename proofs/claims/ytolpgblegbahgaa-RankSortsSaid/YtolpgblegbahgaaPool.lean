/- Devices and pools: how they lie in memory, and when they may be, as plain Lean. No condition: no program is in sight here. -/
import Derived.Test.YtolpgblegbahgaaMap
namespace Go.Proofs.Ytolpgblegbahgaa
open Go.RowKit

structure Dev where
  id : Int
  tx : Int
  made : Int
  snapped : Int
  maps : List Mp
def dev0 : Dev := ⟨0, 0, 0, 0, []⟩
structure Pool where
  tx : Int
  time : Int
  unit : Int
  data : Int
  devs : List Dev
def pool0 : Pool := ⟨0, 0, 0, 0, []⟩
def RDev : Rel Dev := fun w S cs d => ∃ A c, cs = [.int .i64 d.id, .int .i64 d.tx, .int .i64 d.made, .int .i64 d.snapped, .slice A d.maps.length c] ∧ d.maps.length ≤ c ∧ MapRow w S A d.maps
theorem rdev_stable : Stable RDev := by
  rintro w w' S S' cs d hs hk ⟨A, c, e, hc, hr⟩
  exact ⟨A, c, e, hc, hr.keep rmp_stable hs hk⟩
abbrev DevRow (w : World) (S : Nat → Prop) (A : Option Addr) (l : List Dev) : Prop := RowOf RDev 5 dev0 w S A l
abbrev IsDevs (w : World) (S : Nat → Prop) (v : Value) (l : List Dev) : Prop := IsSl RDev 5 dev0 w S v l
/-- A device by value. -/
def IsDev (w : World) (S : Nat → Prop) (v : Value) (d : Dev) : Prop := ∃ A c, v = .agg #[.int .i64 d.id, .int .i64 d.tx, .int .i64 d.made, .int .i64 d.snapped, .slice A d.maps.length c] ∧ d.maps.length ≤ c ∧ MapRow w S A d.maps
/-- A pool by value. -/
def IsPool (w : World) (S : Nat → Prop) (v : Value) (p : Pool) : Prop := ∃ A c, v = .agg #[.int .i64 p.tx, .int .i64 p.time, .int .i64 p.unit, .int .i64 p.data, .slice A p.devs.length c] ∧ p.devs.length ≤ c ∧ DevRow w S A p.devs
section
variable {w w' : World} {S S' : Nat → Prop} {v : Value} {p : Pool} {d : Dev}
theorem IsPool.keep (h : IsPool w S v p) (hs : ∀ b, S b → S' b) (hk : Keep S w w') : IsPool w' S' v p := by
  obtain ⟨A, c, e, hc, hr⟩ := h
  exact ⟨A, c, e, hc, hr.keep rdev_stable hs hk⟩
theorem IsDev.keep (h : IsDev w S v d) (hs : ∀ b, S b → S' b) (hk : Keep S w w') : IsDev w' S' v d := by
  obtain ⟨A, c, e, hc, hr⟩ := h
  exact ⟨A, c, e, hc, hr.keep rmp_stable hs hk⟩
theorem IsPool.below {B : Nat} (h : IsPool w S v p) (hB : Below B w w') (hs : ∀ b, S b → b < B) : IsPool w' S v p := h.keep (fun _ h => h) (keep_below hB hs)
theorem IsDev.below {B : Nat} (h : IsDev w S v d) (hB : Below B w w') (hs : ∀ b, S b → b < B) : IsDev w' S v d := h.keep (fun _ h => h) (keep_below hB hs)
/-- The cells of device k of a row, and its mappings. -/
theorem devs_cells {A : Option Addr} {l : List Dev} (h : DevRow w S A l) (hl : 0 < l.length) :
    ∃ b off, A = some ⟨b, off, none⟩ ∧ S b ∧ ∀ k, k < l.length → w.cell? ⟨b, off + k * 5, none⟩ = some (.int .i64 (nth dev0 l k).id) ∧ w.cell? ⟨b, off + k * 5 + 1, none⟩ = some (.int .i64 (nth dev0 l k).tx) ∧
      w.cell? ⟨b, off + k * 5 + 2, none⟩ = some (.int .i64 (nth dev0 l k).made) ∧ w.cell? ⟨b, off + k * 5 + 3, none⟩ = some (.int .i64 (nth dev0 l k).snapped) ∧
      ∃ A' c', w.cell? ⟨b, off + k * 5 + 4, none⟩ = some (.slice A' (nth dev0 l k).maps.length c') ∧ (nth dev0 l k).maps.length ≤ c' ∧ MapRow w S A' (nth dev0 l k).maps := by
  obtain ⟨b, off, e, hb, hc⟩ := h hl
  refine ⟨b, off, e, hb, fun k hk => ?_⟩
  obtain ⟨cs, _, ⟨A', c', rfl, hc', hr⟩, h3⟩ := hc k hk
  exact ⟨h3 0 _ rfl, h3 1 _ rfl, h3 2 _ rfl, h3 3 _ rfl, A', c', h3 4 _ rfl, hc', hr⟩
end
/-- The numbers of a device, of a pool, fit into Go's int, and no slice is longer than the reach. -/
def Dev.ok (d : Dev) : Prop := In64 d.id ∧ In64 d.tx ∧ In64 d.made ∧ In64 d.snapped ∧ (∀ m ∈ d.maps, m.ok) ∧ d.maps.length ≤ 5864062014805
def Pool.ok (p : Pool) : Prop := In64 p.tx ∧ In64 p.time ∧ In64 p.unit ∧ In64 p.data ∧ (∀ d ∈ p.devs, d.ok) ∧ p.devs.length ≤ 5864062014805
theorem Pool.ok.dev {p : Pool} (h : p.ok) {k : Nat} (hk : k < p.devs.length) : (nth dev0 p.devs k).ok := h.2.2.2.2.1 _ (nth_mem dev0 p.devs k hk)

/-! ### Whether a pool may be -/
def inB (n lo hi : Int) : Bool := decide (lo ≤ n ∧ n ≤ hi)
theorem inB_yes {n lo hi : Int} (h : lo ≤ n ∧ n ≤ hi) : inB n lo hi = true := by simp [inB, h]
theorem inB_no {n lo hi : Int} (h : ¬ (lo ≤ n ∧ n ≤ hi)) : inB n lo hi = false := by simp only [inB, decide_eq_false_iff_not]; exact h
theorem inB_iff {n lo hi : Int} : inB n lo hi = true ↔ lo ≤ n ∧ n ≤ hi := by simp [inB]
def timesB (tx : Int) (l : List Int) : Bool := inB tx 0 2147483647 && l.all fun t => inB t 0 16777215
def devB (d : Dev) : Bool := inB d.id 0 16777215 && timesB d.tx [d.made, d.snapped]
def devChk (d : Dev) (last : Int) : Int := if devB d = false then 2 else if d.id ≤ last then 8 else 0
def mapB (data : Int) (m : Mp) : Bool := inB m.v 0 281474976710655 && (inB m.b 0 (data - 1) && inB m.t 0 16777215)
def mapChkFrom (data : Int) : Int → List Mp → Int
  | _, [] => 0
  | last, m :: r => if mapB data m = false then 2 else if m.v ≤ last then 8 else mapChkFrom data m.v r
def mapChk (data : Int) (l : List Mp) : Int := mapChkFrom data (-1) l
def devsChk (data : Int) : Int → List Dev → Int
  | _, [] => 0
  | last, d :: r => if devChk d last ≠ 0 then devChk d last else if mapChk data d.maps ≠ 0 then mapChk data d.maps else devsChk data d.id r
def countL : List Dev → Int
  | [] => 0
  | d :: r => (d.maps.length : Int) + countL r
def Pool.count (p : Pool) : Int := countL p.devs
def headB (p : Pool) : Bool := timesB p.tx [p.time] && (inB p.unit 1 65536 && inB p.data 0 65536)
def sizeB (p : Pool) : Bool := decide (p.devs.length ≤ 4096 ∧ p.count ≤ 16384)
def poolChk (p : Pool) : Int := if headB p = false then 2 else if sizeB p = false then 2 else devsChk p.data (-1) p.devs

/-- The mappings' check has come as far as k. -/
def McAt (data : Int) (l : List Mp) (k : Nat) : Prop := mapChkFrom data (lastV l k) (l.drop k) = mapChk data l
section
variable {data : Int} {l : List Mp} {k : Nat}
theorem McAt.zero (data : Int) (l : List Mp) : McAt data l 0 := by simp [McAt, lastV, mapChk]
theorem McAt.done (h : McAt data l k) (hk : l.length ≤ k) : mapChk data l = 0 := by
  unfold McAt at h; rw [← h, List.drop_eq_nil_of_le hk]; rfl
theorem McAt.range (h : McAt data l k) (hk : k < l.length) (hb : mapB data (nth mp0 l k) = false) : mapChk data l = 2 := by
  unfold McAt at h; rw [← h, drop_nth mp0 l k hk]; simp [mapChkFrom, hb]
theorem McAt.order (h : McAt data l k) (hk : k < l.length) (h1 : mapB data (nth mp0 l k) = true) (hb : (nth mp0 l k).v ≤ lastV l k) : mapChk data l = 8 := by
  unfold McAt at h; rw [← h, drop_nth mp0 l k hk]; simp only [mapChkFrom]; rw [if_neg (by rw [h1]; simp), if_pos hb]
theorem McAt.next (h : McAt data l k) (hk : k < l.length) (h1 : mapB data (nth mp0 l k) = true) (hb : lastV l k < (nth mp0 l k).v) : McAt data l (k + 1) := by
  unfold McAt at h ⊢; rw [← h, drop_nth mp0 l k hk, lastV_succ]; simp only [mapChkFrom]; rw [if_neg (by rw [h1]; simp), if_neg (by omega)]
end
def lastId (l : List Dev) (k : Nat) : Int := if k = 0 then -1 else (nth dev0 l (k - 1)).id
theorem lastId_succ (l : List Dev) (k : Nat) : lastId l (k + 1) = (nth dev0 l k).id := by simp [lastId]
theorem lastId_pos (l : List Dev) {k : Nat} (h : 0 < k) : lastId l k = (nth dev0 l (k - 1)).id := by unfold lastId; rw [if_neg (by omega)]
def DcAt (data : Int) (l : List Dev) (k : Nat) : Prop := devsChk data (lastId l k) (l.drop k) = devsChk data (-1) l
section
variable {data : Int} {l : List Dev} {k : Nat}
theorem DcAt.zero (data : Int) (l : List Dev) : DcAt data l 0 := by simp [DcAt, lastId]
theorem DcAt.done (h : DcAt data l k) (hk : l.length ≤ k) : devsChk data (-1) l = 0 := by
  unfold DcAt at h; rw [← h, List.drop_eq_nil_of_le hk]; rfl
theorem DcAt.dev (h : DcAt data l k) (hk : k < l.length) (hb : devChk (nth dev0 l k) (lastId l k) ≠ 0) : devsChk data (-1) l = devChk (nth dev0 l k) (lastId l k) := by
  unfold DcAt at h; rw [← h, drop_nth dev0 l k hk]; simp only [devsChk]; rw [if_pos hb]
theorem DcAt.maps (h : DcAt data l k) (hk : k < l.length) (h1 : devChk (nth dev0 l k) (lastId l k) = 0) (hb : mapChk data (nth dev0 l k).maps ≠ 0) : devsChk data (-1) l = mapChk data (nth dev0 l k).maps := by
  unfold DcAt at h; rw [← h, drop_nth dev0 l k hk]; simp only [devsChk]; rw [if_neg (by simp [h1]), if_pos hb]
theorem DcAt.next (h : DcAt data l k) (hk : k < l.length) (h1 : devChk (nth dev0 l k) (lastId l k) = 0) (hb : mapChk data (nth dev0 l k).maps = 0) : DcAt data l (k + 1) := by
  unfold DcAt at h ⊢; rw [← h, drop_nth dev0 l k hk, lastId_succ]; simp only [devsChk]; rw [if_neg (by simp [h1]), if_neg (by simp [hb])]
end
theorem countL_append (l r : List Dev) : countL (l ++ r) = countL l + countL r := by
  induction l with
  | nil => simp [countL]
  | cons d l ih => simp only [List.cons_append, countL, ih]; omega
theorem countL_take (l : List Dev) (k : Nat) (h : k < l.length) : countL (l.take (k + 1)) = countL (l.take k) + (nth dev0 l k).maps.length := by
  rw [take_nth dev0 l k h, countL_append]; simp [countL]
theorem countL_nonneg (l : List Dev) : 0 ≤ countL l := by
  induction l with
  | nil => simp [countL]
  | cons d l ih => simp only [countL]; omega
theorem countL_take_le (l : List Dev) (k : Nat) : countL (l.take k) ≤ countL l := by
  have : countL l = countL (l.take k) + countL (l.drop k) := by rw [← countL_append, List.take_append_drop]
  have := countL_nonneg (l.drop k)
  omega
theorem countL_bound {c : Nat} : ∀ (l : List Dev), (∀ d ∈ l, d.maps.length ≤ c) → countL l ≤ (l.length * c : Nat) := by
  intro l
  induction l with
  | nil => intro _; simp [countL]
  | cons d l ih =>
    intro h
    have h1 := h d (by simp)
    have h2 := ih (fun e he => h e (by simp [he]))
    simp only [countL, List.length_cons, Nat.add_mul, Nat.one_mul]
    omega
end Go.Proofs.Ytolpgblegbahgaa
