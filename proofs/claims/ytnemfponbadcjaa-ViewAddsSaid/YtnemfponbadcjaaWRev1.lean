/- cmp.Or at int, view.Reverse's order, scantlingref38.ahead, view.cut. Condition: the numbers are small. -/
import Derived.Test.YtnemfponbadcjaaRevP
import Derived.Test.YtnemfponbadcjaaInsP
import Derived.Test.YtnemfponbadcjaaWCmp
import Derived.Test.YtnemfponbadcjaaInts
import Derived.Test.YtnemfponbadcjaaWRuns
import Derived.WalkLawsBesides
import Derived.Test.YtnemfponbadcjaaSortG
namespace Go.Proofs.Ytnemfponbadcjaa
open Go.RowKit Go.Shelf
attribute [local go_sem] Oper.semAt_some

def orL : List Int → Int
  | [] => 0
  | x :: l => if x ≠ 0 then x else orL l
set_option maxHeartbeats 800000 in
theorem or_any (w : World) (S : Nat → Prop) (v : Value) (l : List Int) (h : IsInts w S v l) (hn : l.length ≤ 1099511627776) :
    Calls Try.prog 18 #[v] w fun e w' => e = .returned (.int .i64 (orL l)) ∧ w = w' := by
  obtain ⟨A, c, rfl, hc, hr⟩ := h
  have HC := Lib.hid (fun hp => ints_cells hr hp)
  clear hr
  generalize hnn : l.length = n at *
  have HN := Lib.hid hnn
  clear hnn
  go_enter Try.func18, Try.ntmps18
  go_wp2_with fail
  go_loop [8] (fun i => ∃ k : Nat, i = .int .i64 k ∧ k ≤ n ∧ Hid (orL (l.drop k) = orL l)) (fun i => n - (intOf i).toNat)
  case atStart => exact ⟨0, rfl, by omega, Lib.hid rfl⟩
  case round =>
    obtain ⟨k, rfl, hk, HA⟩ := hrel
    by_cases hlt : k < n
    · obtain ⟨b, off, rfl, hbS, hcl⟩ := HC.out (by omega)
      have c0 := hcl k (by omega)
      have hki : (k : Int) < (n : Int) := by omega
      have ha := HA.out
      rw [drop_nth 0 l k (by rw [HN.out]; exact hlt)] at ha
      simp only [orL] at ha
      clear hcl
      by_cases hx : nth 0 l k = 0
      · rw [if_neg (by simpa using hx)] at ha
        have HA2 := Lib.hid ha
        rw [hx] at c0
        clear hx ha
        go_wp2_with fail
        go_round
        case rel => exact ⟨k + 1, by go_num, by omega, HA2⟩
        case measure => simp [intOf]; omega
      · rw [if_pos hx] at ha
        have hbx : (nth 0 l k != 0) = true := by simpa using hx
        have HA2 := Lib.hid ha
        clear hx ha
        generalize nth 0 l k = x at *
        go_wp2_with fail
        go_ret
        exact ⟨by rw [← HA2.out]; rfl, rfl⟩
    · obtain rfl : k = n := by omega
      have ha := HA.out
      rw [List.drop_of_length_le (by rw [HN.out]; omega)] at ha
      have HA2 := Lib.hid (show orL l = 0 from ha.symm)
      clear ha
      go_wp2_with fail
      go_ret
      exact ⟨by rw [HA2.out]; rfl, rfl⟩
def aheadB (a b : Bk) : Bool := if a.b ≠ b.b then decide (a.b < b.b) else if a.id ≠ b.id then decide (a.id < b.id) else decide (a.v < b.v)
def cfB (a b : Bk) : Int := orL [cmpI a.b b.b, cmpI a.id b.id, cmpI a.v b.v]
theorem ltB (a b : Bk) : ltOf cfB a b = aheadB a b := by
  have e0 : ∀ x y : Int, cmpI x y ≠ 0 ↔ x ≠ y := fun x y => by rw [Ne, cmpI_eq]
  have ez : ∀ x y : Int, decide (cmpI x y < 0) = decide (x < y) := fun x y => by rw [Bool.eq_iff_iff]; simp [cmpI_lt]
  have e : cfB a b = if a.b ≠ b.b then cmpI a.b b.b else if a.id ≠ b.id then cmpI a.id b.id else cmpI a.v b.v := by
    unfold cfB
    have e3 : orL [cmpI a.b b.b, cmpI a.id b.id, cmpI a.v b.v] = if cmpI a.b b.b ≠ 0 then cmpI a.b b.b else if cmpI a.id b.id ≠ 0 then cmpI a.id b.id else if cmpI a.v b.v ≠ 0 then cmpI a.v b.v else 0 := rfl
    rw [e3]
    have zz : ∀ x : Int, cmpI x x = 0 := fun x => cmpI_eq.2 rfl
    by_cases h1 : a.b = b.b
    · by_cases h2 : a.id = b.id
      · by_cases h3 : a.v = b.v
        · simp [zz, h1, h2, h3]
        · have z3 : cmpI a.v b.v ≠ 0 := (e0 _ _).2 h3
          simp [zz, z3, h1, h2]
      · have z2 : cmpI a.id b.id ≠ 0 := (e0 _ _).2 h2
        simp [zz, z2, h1, h2]
    · have z1 : cmpI a.b b.b ≠ 0 := (e0 _ _).2 h1
      simp [z1, h1]
  show decide (cfB a b < 0) = aheadB a b
  rw [e]
  unfold aheadB
  by_cases h1 : a.b = b.b
  · by_cases h2 : a.id = b.id
    · simp only [if_neg (show ¬ a.b ≠ b.b by simpa using h1), if_neg (show ¬ a.id ≠ b.id by simpa using h2)]; exact ez _ _
    · simp only [if_neg (show ¬ a.b ≠ b.b by simpa using h1), if_pos h2]; exact ez _ _
  · simp only [if_pos h1]; exact ez _ _
theorem aheadB_iff (a b : Bk) : aheadB a b = true ↔ a.b < b.b ∨ (a.b = b.b ∧ (a.id < b.id ∨ (a.id = b.id ∧ a.v < b.v))) := by
  unfold aheadB
  split
  · simp; omega
  · split
    · simp; omega
    · simp; omega
theorem aheadB_no (a b : Bk) : aheadB a b = false ↔ ¬ (a.b < b.b ∨ (a.b = b.b ∧ (a.id < b.id ∨ (a.id = b.id ∧ a.v < b.v)))) := by rw [← aheadB_iff, Bool.not_eq_true]
theorem swoB : Go.Sort.SWO aheadB where
  irrefl x := by rw [aheadB_no]; omega
  trans x y z h1 h2 := by rw [aheadB_iff] at *; omega
  ntrans x y z h1 h2 := by rw [aheadB_no] at *; omega
abbrev bkC (r : Bk) : Array Value := #[.int .i64 r.b, .int .i64 r.n, .int .i64 r.id, .int .i64 r.v]
set_option maxHeartbeats 800000 in
theorem ahead_any (w : World) (x y : Bk) : Calls Try.prog 21 #[.agg (bkC x), .agg (bkC y)] w fun e w' => e = .returned (.bool (aheadB x y)) ∧ Below w.heap.size w w' := by
  have hB : Below w.heap.size w ((w.alloc (.cells (bkC x) 35)).alloc (.cells (bkC y) 35)) := ((Below.refl _ _).alloc (Nat.le_refl _) _).alloc (by simp) _
  unfold aheadB
  by_cases h1 : x.b = y.b
  · have d1 : (x.b != y.b) = false := by simpa using h1
    rw [if_neg (by simpa using h1)]
    by_cases h2 : x.id = y.id
    · have d2 : (x.id != y.id) = false := by simpa using h2
      rw [if_neg (by simpa using h2)]
      clear h1 h2
      go_enter Try.func21, Try.ntmps21
      go_wp2
      go_ret
      exact ⟨rfl, hB⟩
    · have d2 : (x.id != y.id) = true := by simpa using h2
      rw [if_pos h2]
      clear h1 h2
      go_enter Try.func21, Try.ntmps21
      go_wp2
      go_ret
      exact ⟨rfl, hB⟩
  · have d1 : (x.b != y.b) = true := by simpa using h1
    rw [if_pos h1]
    clear h1
    go_enter Try.func21, Try.ntmps21
    go_wp2
    go_ret
    exact ⟨rfl, hB⟩
set_option maxRecDepth 100000 in
set_option maxHeartbeats 800000 in
theorem cut_any (w : World) (r : Rn) (f t : Int) (hr : RnS 1099511627776 r) (hf : -1099511627776 ≤ f ∧ f ≤ 1099511627776) (ht : -1099511627776 ≤ t ∧ t ≤ 1099511627776) (hb : -1099511627776 ≤ r.b ∧ r.b ≤ 1099511627776) :
    Calls Try.prog 15 #[rnV r, .int .i64 f, .int .i64 t] w fun e w' => e = .returned (.tuple #[rnV (cutN f t r), .bool (cutB f t r)]) ∧ Below w.heap.size w w' := by
  obtain ⟨r1, r2, r3, r4, r5, r6⟩ := hr
  obtain ⟨f1, f2⟩ := hf
  obtain ⟨t1, t2⟩ := ht
  obtain ⟨b1, b2⟩ := hb
  have HB := Lib.hid (show ∀ (o1 o2 : Obj) (n : Nat) (u0 u1 u2 u3 : Value), Below w.heap.size w ((((((((w.alloc o1).alloc o2).drewN n).setCell ⟨w.heap.size + 1, 0, none⟩ u0).setCell ⟨w.heap.size + 1, 1, none⟩ u1).setCell ⟨w.heap.size + 1, 2, none⟩ u2).setCell ⟨w.heap.size + 1, 3, none⟩ u3)) from fun o1 o2 n u0 u1 u2 u3 => (((((below_drewN (((Below.refl _ _).alloc (Nat.le_refl _) o1).alloc (by simp) o2) n).setCell (p := ⟨w.heap.size + 1, 0, none⟩) (by simp) u0).setCell (p := ⟨w.heap.size + 1, 1, none⟩) (by simp) u1).setCell (p := ⟨w.heap.size + 1, 2, none⟩) (by simp) u2).setCell (p := ⟨w.heap.size + 1, 3, none⟩) (by simp) u3))
  by_cases h1 : r.b < f
  · have elo : max r.b f = f := by omega
    by_cases h2 : r.b + r.n ≤ t
    · have ehi : min (r.b + r.n) t = r.b + r.n := by omega
      have e1 : cutN f t r = ⟨r.v + f - r.b, f, (r.b + r.n) - f, r.t⟩ := by unfold cutN; rw [elo, ehi]
      have e2 : cutB f t r = decide (f < (r.b + r.n)) := by unfold cutB; rw [elo, ehi]
      rw [e1, e2]
      clear e1 e2
      go_enter Try.func15, Try.ntmps15
      go_wp2_with fail
      go_quiet (fail)
      go_wp2_with fail
      exact bodyPost_ret (v := .tuple #[.agg #[.int .i64 (r.v + f - r.b), .int .i64 (f), .int .i64 ((r.b + r.n) - f), .int .i64 r.t], .bool (decide (f < (r.b + r.n)))]) (by simp [results, Try.results15, go_sem]) rfl ⟨rfl, HB.out _ _ _ _ _ _ _⟩
    · have ehi : min (r.b + r.n) t = t := by omega
      have e1 : cutN f t r = ⟨r.v + f - r.b, f, t - f, r.t⟩ := by unfold cutN; rw [elo, ehi]
      have e2 : cutB f t r = decide (f < t) := by unfold cutB; rw [elo, ehi]
      rw [e1, e2]
      clear e1 e2
      go_enter Try.func15, Try.ntmps15
      go_wp2_with fail
      go_quiet (fail)
      go_wp2_with fail
      exact bodyPost_ret (v := .tuple #[.agg #[.int .i64 (r.v + f - r.b), .int .i64 (f), .int .i64 (t - f), .int .i64 r.t], .bool (decide (f < t))]) (by simp [results, Try.results15, go_sem]) rfl ⟨rfl, HB.out _ _ _ _ _ _ _⟩
  · have elo : max r.b f = r.b := by omega
    by_cases h2 : r.b + r.n ≤ t
    · have ehi : min (r.b + r.n) t = r.b + r.n := by omega
      have e1 : cutN f t r = ⟨r.v, r.b, (r.b + r.n) - r.b, r.t⟩ := by unfold cutN; rw [elo, ehi]; simp only [Rn.mk.injEq, and_true]; omega
      have e2 : cutB f t r = decide (r.b < (r.b + r.n)) := by unfold cutB; rw [elo, ehi]
      rw [e1, e2]
      clear e1 e2
      go_enter Try.func15, Try.ntmps15
      go_wp2_with fail
      go_quiet (fail)
      go_wp2_with fail
      exact bodyPost_ret (v := .tuple #[.agg #[.int .i64 (r.v), .int .i64 (r.b), .int .i64 ((r.b + r.n) - r.b), .int .i64 r.t], .bool (decide (r.b < (r.b + r.n)))]) (by simp [results, Try.results15, go_sem]) rfl ⟨rfl, HB.out _ _ _ _ _ _ _⟩
    · have ehi : min (r.b + r.n) t = t := by omega
      have e1 : cutN f t r = ⟨r.v, r.b, t - r.b, r.t⟩ := by unfold cutN; rw [elo, ehi]; simp only [Rn.mk.injEq, and_true]; omega
      have e2 : cutB f t r = decide (r.b < t) := by unfold cutB; rw [elo, ehi]
      rw [e1, e2]
      clear e1 e2
      go_enter Try.func15, Try.ntmps15
      go_wp2_with fail
      go_quiet (fail)
      go_wp2_with fail
      exact bodyPost_ret (v := .tuple #[.agg #[.int .i64 (r.v), .int .i64 (r.b), .int .i64 (t - r.b), .int .i64 r.t], .bool (decide (r.b < t))]) (by simp [results, Try.results15, go_sem]) rfl ⟨rfl, HB.out _ _ _ _ _ _ _⟩
end Go.Proofs.Ytnemfponbadcjaa
