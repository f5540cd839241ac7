import Derived.Test.YtjclcjhmdohemaaJn1
import Derived.Test.YtjclcjhmdohemaaCells
import Derived.Laws.AppendOwnNone
import Derived.Test.YtjclcjhmdohemaaRegT
import Derived.Test.YtjclcjhmdohemaaMap
import Derived.Deep.Slices
import Derived.Deep.Fields
import Derived.ChangeSame
import Derived.SizedLaws
import Derived.OpenShut
import Derived.Test.YtjclcjhmdohemaaProg
import Derived.Test.YtjclcjhmdohemaaPool
import Derived.Test.YtjclcjhmdohemaaModelP
set_option linter.unusedVariables false
set_option linter.unusedSimpArgs false
/- scantlinglaw49.ModelRight where the pool may not be, or an op fails. Condition: the numbers fit into Go's int, and no slice is longer than the reach. -/
namespace Go.Proofs.Ytjclcjhmdohemaa
open Go.RowKit
attribute [local go_sem] Oper.semAt_some

/-- A pool's fields in a box of their own. -/
abbrev boxed (w : World) (u0 u1 u2 u3 u4 : Value) : World := w.alloc (.cells #[u0, u1, u2, u3, u4] 24)
theorem boxed_of (w : World) (u0 u1 u2 u3 u4 : Value) : RBox (boxed w u0 u1 u2 u3 u4) w.heap.size u0 u1 u2 u3 u4 ∧ Below w.heap.size w (boxed w u0 u1 u2 u3 u4) ∧ (boxed w u0 u1 u2 u3 u4).heap.size = w.heap.size + 1 :=
  ⟨heap_alloc_new w _, (Below.refl w.heap.size w).alloc (Nat.le_refl _) _, by simp⟩
/-- model.Run of whatever pool, of ops that are few. -/
theorem run_any (w : World) (v vl : Value) (p : Pool) (l : List Mop) (S : Nat → Prop) (hS : ∀ b, S b → b < w.heap.size) (h : IsPool w S v p) (hok : p.ok) (hl : IsOps w S vl l) (hln : l.length ≤ 281474976710656) :
    Calls Try.prog 10 #[v, vl] w (RunIs w (runF p l)) := by
  by_cases hc : poolChk p = 0
  · exact run_good w S v vl p l hS h hl hln hc
  · exact run_bad w S v vl p l hS h hok hc
/-- A box is made, then the ops are run. -/
theorem run_boxed (w : World) (u0 u1 u2 u3 u4 : Value) (v vl : Value) (p : Pool) (l : List Mop) (S : Nat → Prop) (hS : ∀ b, S b → b < w.heap.size) (h : IsPool w S v p) (hok : p.ok) (hl : IsOps w S vl l) (hln : l.length ≤ 281474976710656) :
    Calls Try.prog 10 #[v, vl] (boxed w u0 u1 u2 u3 u4) fun e w' => ∃ A c, e = .returned (.tuple #[.agg #[.int .i64 (runF p l).1.tx, .int .i64 (runF p l).1.time, .int .i64 (runF p l).1.unit, .int .i64 (runF p l).1.data, .slice A (runF p l).1.devs.length c], .int .i64 ((runF p l).2.1 : Nat), .int .i64 (runF p l).2.2]) ∧
      IsPool w' (Btw (w.heap.size + 1) w'.heap.size) (.agg #[.int .i64 (runF p l).1.tx, .int .i64 (runF p l).1.time, .int .i64 (runF p l).1.unit, .int .i64 (runF p l).1.data, .slice A (runF p l).1.devs.length c]) (runF p l).1 ∧ RBox w' w.heap.size u0 u1 u2 u3 u4 ∧ Below w.heap.size w w' ∧ w.heap.size < w'.heap.size := by
  obtain ⟨hr, hB, hz⟩ := boxed_of w u0 u1 u2 u3 u4
  refine (run_any (boxed w u0 u1 u2 u3 u4) v vl p l S (fun b hb => by have := hS b hb; rw [hz]; omega) (h.below hB hS) hok (hl.keep (flat_stable _) (fun _ h => h) (keep_below hB hS)) hln).mono ?_
  rintro e w' ⟨v', rfl, hI, hB'⟩
  rw [hz] at hI hB'
  obtain ⟨A, c, rfl, _, _⟩ := id hI
  have hz' := hB'.size
  rw [hz] at hz'
  exact ⟨A, c, rfl, hI, hr.below hB' (by omega), hB.trans (hB'.mono (by omega)), Nat.lt_of_succ_le hz'⟩
/-- A box is made, then two pools are compared. -/
theorem same_boxed (w : World) (u0 u1 u2 u3 u4 : Value) (v1 v2 : Value) (d e : Pool) (S1 S2 : Nat → Prop) (hS1 : ∀ b, S1 b → b < w.heap.size) (hS2 : ∀ b, S2 b → b < w.heap.size) (h1 : IsPool w S1 v1 d) (h2 : IsPool w S2 v2 e) (hn : d.devs.length ≤ 1099511627776) (hm : ∀ k, k < d.devs.length → (nth dev0 d.devs k).maps.length ≤ 140737488355328) :
    Calls Try.prog 11 #[v1, v2] (boxed w u0 u1 u2 u3 u4) fun x w' => x = .returned (.bool (decide (d = e))) ∧ RBox w' w.heap.size u0 u1 u2 u3 u4 ∧ Below w.heap.size w w' ∧ w.heap.size < w'.heap.size := by
  obtain ⟨hr, hB, hz⟩ := boxed_of w u0 u1 u2 u3 u4
  refine (samePool_any (boxed w u0 u1 u2 u3 u4) S1 S2 v1 v2 d e (fun b hb => by have := hS1 b hb; rw [hz]; omega) (fun b hb => by have := hS2 b hb; rw [hz]; omega) (h1.below hB hS1) (h2.below hB hS2) hn hm).mono ?_
  rintro x w' ⟨rfl, hB'⟩
  rw [hz] at hB'
  have hz' := hB'.size
  rw [hz] at hz'
  exact ⟨rfl, hr.below hB' (by omega), hB.trans (hB'.mono (by omega)), Nat.lt_of_succ_le hz'⟩
/-- The cells of another box, behind the making of a box. -/
theorem boxed_cells (w : World) (u0 u1 u2 u3 u4 : Value) {b : Nat} {v0 v1 v2 v3 v4 : Value} (h : RBox w b v0 v1 v2 v3 v4) : RBox (boxed w u0 u1 u2 u3 u4) b v0 v1 v2 v3 v4 := by
  have hlt : b < w.heap.size := (Array.getElem?_eq_some_iff.1 h).1
  exact h.below (boxed_of w u0 u1 u2 u3 u4).2.1 hlt
theorem pool_own {w : World} {base c : Nat} {A : Option Addr} {p : Pool} {M : Nat → Value} (h : OwnDevs w base (.slice A p.devs.length c) p.devs M) : IsPool w (Lt w.heap.size) (.agg #[.int .i64 p.tx, .int .i64 p.time, .int .i64 p.unit, .int .i64 p.data, .slice A p.devs.length c]) p := by
  obtain ⟨A', c', e, hc, hr⟩ := h.isl (S := Lt w.heap.size) (fun b _ hb => hb)
  injection e with e1 _ e3
  subst e1 e3
  exact ⟨A, c, rfl, hc, hr⟩
set_option maxRecDepth 100000 in
set_option maxHeartbeats 400000 in
theorem right_bad (w : World) (v1 va vb : Value) (p : Pool) (a b : List Mop) (h1 : IsPool w (Lt w.heap.size) v1 p) (hok : p.ok) (ha : IsOps w (Lt w.heap.size) va a) (hb : IsOps w (Lt w.heap.size) vb b) (hla : a.length ≤ 281474976710656) (hlb : b.length ≤ 281474976710656)
    (hfp : fewN p = 1) (hfa : fewO a = 1) (hfb : fewO b = 1) (hd : p.data ≤ 3000) (hc : poolChk p ≠ 0) :
    Calls Try.prog 3 #[v1, va, vb] w fun e w' => e = .returned (.bool true) ∧ Below w.heap.size w w' := by
  obtain ⟨A, c, hv⟩ : ∃ A c, v1 = .agg #[.int .i64 p.tx, .int .i64 p.time, .int .i64 p.unit, .int .i64 p.data, .slice A p.devs.length c] := by obtain ⟨A, c, h, _⟩ := h1; exact ⟨A, c, h⟩
  have HAH := Lib.hid (ahead hv h1 hok ha hb hla hlb)
  subst hv
  have hk0 : Below (w.heap.size + 1) (w.alloc (poolBox p A p.devs.length c)) (w.alloc (poolBox p A p.devs.length c)) := Below.refl _ _
  unfold Ahead at HAH
  rw [hfp, hfa, hfb] at HAH
  obtain ⟨hn1, hm1⟩ := fewN_len hfp
  have HCP := Lib.hid (fun w' hB => copy_own w' (Lt w.heap.size) _ p (fun b hb => Nat.lt_of_lt_of_le hb (HAH.out w' hB).1.size) (HAH.out w' hB).2.2.2.2.2.2.1 (by omega) (fun k hk => by have := hm1 k hk; omega))
  have HRUN := Lib.hid (fun w' u0 u1 u2 u3 u4 hB => run_boxed w' u0 u1 u2 u3 u4 _ va p a (Lt w.heap.size) (fun b hb => Nat.lt_of_lt_of_le hb (HAH.out w' hB).1.size) (HAH.out w' hB).2.2.2.2.2.2.1 hok (HAH.out w' hB).2.2.2.2.2.2.2.1 hla)
  have HCK := Lib.hid (fun w' hB => check_any w' (Lt w.heap.size) _ p (fun b hb => Nat.lt_of_lt_of_le hb (HAH.out w' hB).1.size) (HAH.out w' hB).2.2.2.2.2.2.1 hok)
  have HSM := Lib.hid (fun w' u0 u1 u2 u3 u4 v2 S2 hB hS2 h2 => same_boxed w' u0 u1 u2 u3 u4 _ v2 p p (Lt w.heap.size) S2 (fun b hb => Nat.lt_of_lt_of_le hb (HAH.out w' hB).1.size) hS2 (HAH.out w' hB).2.2.2.2.2.2.1 h2 (by omega) (fun k hk => by have := hm1 k hk; omega))
  have hr : runF p a = (pool0, 0, poolChk p) := by unfold runF; rw [if_pos hc]
  have hpp : decide (p = p) = true := decide_eq_true rfl
  rw [hpp] at HSM
  rw [hr] at HRUN
  clear hpp
  have HSZ := Lib.hid (fun (w' : World) (S : Nat → Prop) (v : Value) hS (h : IsPool w' S v pool0) => samePool_any w' S (Lt 0) v _ pool0 pool0 hS (fun b hb => by cases hb) h (pool0_at w' (Lt 0)) (by simp [pool0]) (fun k hk => by simp [pool0] at hk))
  have hpp : decide (pool0 = pool0) = true := decide_eq_true rfl
  rw [hpp] at HSZ
  clear hpp
  generalize poolChk p = fc at *
  have hf2 : (fc != 0) = true := by simpa using hc
  have hdd : decide (3000 < p.data) = false := by simp; omega
  have hf3 : (fc == fc) = true := by simp
  clear h1 hok ha hb hla hlb hfp hfa hfb hc hr hn1 hm1
  dsimp only [poolBox] at hk0 HAH HCP HRUN HCK HSM
  go_enter Try.func3, Try.ntmps3
  have hC := (HAH.out _ hk0).2.1.cells
  obtain ⟨x0, x1, x2, x3, x4⟩ := hC
  go_wp2_with (first
    | (go_at_call 6; refine (HAH.out _ hk0).2.2.2.1.mono ?_; rintro e w2 ⟨rfl, hB2⟩; have hk2 := hk0.trans (hB2.mono (by simp)); have hC := (HAH.out _ hk2).2.1.cells; clear x0 x1 x2 x3 x4; obtain ⟨x0, x1, x2, x3, x4⟩ := hC)
    | (go_at_call 7; with_reducible refine (HAH.out _ hk2).2.2.2.2.1.mono ?_; rintro e w3 ⟨rfl, rfl⟩)
    | (go_at_call 7; with_reducible refine (HAH.out _ hk2).2.2.2.2.2.1.mono ?_; rintro e w3 ⟨rfl, rfl⟩)
    | (go_at_call 9; refine (HCP.out _ hk2).mono ?_; rintro e w4 ⟨A4, c4, M4, rfl, ho4, hB4⟩; have hk4 := hk2.trans (hB4.mono (HAH.out _ hk2).2.2.1); have hC := (HAH.out _ hk4).2.1; have hz4 : w.heap.size < w4.heap.size := (HAH.out _ hk4).2.2.1; have hn4 : ¬ w.heap.size = w4.heap.size := (by omega); clear x0 x1 x2 x3 x4; have HO4 := Lib.hid ho4; obtain ⟨x0, x1, x2, x3, x4⟩ := hC.cells; clear hC ho4)
    | (go_at_call 10; refine (HRUN.out w4 (.int .i64 p.tx) (.int .i64 p.time) (.int .i64 p.unit) (.int .i64 p.data) (.slice A4 p.devs.length c4) hk4).mono ?_; rintro e w6 ⟨A6, c6, rfl, hI6, hr6, hB6, hz6⟩; have hk6 := hk4.trans (hB6.mono hz4); have hC := (HAH.out _ hk6).2.1; have hz46 : w4.heap.size < w6.heap.size := hz6; have hz06 : w.heap.size < w6.heap.size := (by omega); have hn6 : ¬ w.heap.size = w6.heap.size := (by omega); have hn46 : ¬ w4.heap.size = w6.heap.size := (by omega); clear x0 x1 x2 x3 x4; obtain ⟨x0, x1, x2, x3, x4⟩ := hC.cells; obtain ⟨y0, y1, y2, y3, y4⟩ := hr6.cells; have HI6 := Lib.hid hI6; have HW6 := Lib.hid (pool_own (HO4.out.below hB6)); clear hC hI6 hr6)
    | (go_at_call 12; with_reducible refine (HCK.out _ hk9).mono ?_; rintro e w10 ⟨rfl, hB10⟩; have hk10 := hk9.trans (hB10.mono (HAH.out _ hk9).2.2.1); have hq10 := hB9.trans (hB10.mono hB9.size); obtain ⟨y0, y1, y2, y3, y4⟩ := (HR8.out.below hq10 hz8).cells; clear x0 x1 x2 x3 x4)
    | (go_at_call 12; with_reducible refine (HCK.out _ hk8).mono ?_; rintro e w9 ⟨rfl, hB9⟩; have hk9 := hk8.trans (hB9.mono (HAH.out _ hk8).2.2.1); have hC := (HAH.out _ hk9).2.1; clear x0 x1 x2 x3 x4; obtain ⟨x0, x1, x2, x3, x4⟩ := hC.cells; clear hC)
    | (go_at_call 11; have hx := HSZ.out w10 (Lt w6.heap.size) _ (fun b hb => by have h1 : b < w6.heap.size := hb; have := hq10.size; omega) ((pool_keep HI6.out (fun b hb => hb.2) Keep.refl).below (hB8.trans (hq10.mono (by omega))) (fun _ h => h)); with_reducible refine hx.mono ?_; clear hx; rintro e w11 ⟨rfl, hB11⟩; have hk11 := hk10.trans (hB11.mono (HAH.out _ hk10).2.2.1))
    | (go_at_call 11; have hx := HSM.out w6 (.int .i64 pool0.tx) (.int .i64 pool0.time) (.int .i64 pool0.unit) (.int .i64 pool0.data) (.slice A6 pool0.devs.length c6) _ (Lt w6.heap.size) hk6 (fun b hb => hb) HW6.out; with_reducible refine hx.mono ?_; clear hx; rintro e w8 ⟨rfl, hr8, hB8, hz8⟩; have hk8 := hk6.trans (hB8.mono (HAH.out _ hk6).2.2.1); have hC := (HAH.out _ hk8).2.1; clear x0 x1 x2 x3 x4 y0 y1 y2 y3 y4; obtain ⟨x0, x1, x2, x3, x4⟩ := hC.cells; have HR8 := Lib.hid hr8; clear hC hr8)
    | (go_at_call 8; refine (lives49 _).mono ?_; rintro e w12 ⟨rfl, hB12⟩; have hk12 := hk11.trans (hB12.mono (HAH.out _ hk11).2.2.1)))
  go_ret
  exact ⟨rfl, (HAH.out _ hk12).1⟩
end Go.Proofs.Ytjclcjhmdohemaa

/- scantlinglaw49.ModelRight where an op fails. Condition: the numbers fit into Go's int, and no slice is longer than the reach. -/
namespace Go.Proofs.Ytjclcjhmdohemaa
open Go.RowKit
attribute [local go_sem] Oper.semAt_some

set_option maxRecDepth 100000 in
set_option maxHeartbeats 400000 in
theorem right_err (w : World) (v1 va vb : Value) (p : Pool) (a b : List Mop) (h1 : IsPool w (Lt w.heap.size) v1 p) (hok : p.ok) (ha : IsOps w (Lt w.heap.size) va a) (hb : IsOps w (Lt w.heap.size) vb b) (hla : a.length ≤ 281474976710656) (hlb : b.length ≤ 281474976710656)
    (hfp : fewN p = 1) (hfa : fewO a = 1) (hfb : fewO b = 1) (hd : p.data ≤ 3000) (hc : poolChk p = 0) (he : (runF p a).2.2 ≠ 0) :
    Calls Try.prog 3 #[v1, va, vb] w fun e w' => e = .returned (.bool true) ∧ Below w.heap.size w w' := by
  obtain ⟨A, c, hv⟩ : ∃ A c, v1 = .agg #[.int .i64 p.tx, .int .i64 p.time, .int .i64 p.unit, .int .i64 p.data, .slice A p.devs.length c] := by obtain ⟨A, c, h, _⟩ := h1; exact ⟨A, c, h⟩
  have HAH := Lib.hid (ahead hv h1 hok ha hb hla hlb)
  subst hv
  have hk0 : Below (w.heap.size + 1) (w.alloc (poolBox p A p.devs.length c)) (w.alloc (poolBox p A p.devs.length c)) := Below.refl _ _
  unfold Ahead at HAH
  rw [hfp, hfa, hfb] at HAH
  obtain ⟨hn1, hm1⟩ := fewN_len hfp
  have HCP := Lib.hid (fun w' hB => copy_own w' (Lt w.heap.size) _ p (fun b hb => Nat.lt_of_lt_of_le hb (HAH.out w' hB).1.size) (HAH.out w' hB).2.2.2.2.2.2.1 (by omega) (fun k hk => by have := hm1 k hk; omega))
  have HRUN := Lib.hid (fun w' u0 u1 u2 u3 u4 hB => run_boxed w' u0 u1 u2 u3 u4 _ va p a (Lt w.heap.size) (fun b hb => Nat.lt_of_lt_of_le hb (HAH.out w' hB).1.size) (HAH.out w' hB).2.2.2.2.2.2.1 hok (HAH.out w' hB).2.2.2.2.2.2.2.1 hla)
  have HCK := Lib.hid (fun w' hB => check_any w' (Lt w.heap.size) _ p (fun b hb => Nat.lt_of_lt_of_le hb (HAH.out w' hB).1.size) (HAH.out w' hB).2.2.2.2.2.2.1 hok)
  have HSM := Lib.hid (fun w' u0 u1 u2 u3 u4 v2 S2 hB hS2 h2 => same_boxed w' u0 u1 u2 u3 u4 _ v2 p p (Lt w.heap.size) S2 (fun b hb => Nat.lt_of_lt_of_le hb (HAH.out w' hB).1.size) hS2 (HAH.out w' hB).2.2.2.2.2.2.1 h2 (by omega) (fun k hk => by have := hm1 k hk; omega))
  have hpp : decide (p = p) = true := decide_eq_true rfl
  rw [hpp] at HSM
  clear hpp
  rw [hc] at HCK
  obtain ⟨hqc, _, hlt⟩ := run_right (a := a) hc
  have hlt := hlt he
  generalize hR : runF p a = R at *
  obtain ⟨q, n, fe⟩ := R
  clear hR
  dsimp only at *
  have hqok := fit_ok (fit_iff.1 hqc)
  have HCQ := Lib.hid (fun (w' : World) (S : Nat → Prop) (v : Value) (hS : ∀ b, S b → b < w'.heap.size) (h : IsPool w' S v q) => check_any w' S v q hS h hqok)
  rw [hqc] at HCQ
  obtain ⟨Aa, ca, hva⟩ : ∃ Aa ca, va = .slice Aa a.length ca := by obtain ⟨Aa, ca, e, _⟩ := ha; exact ⟨Aa, ca, e⟩
  subst hva
  generalize a.length = na at *
  have hf4 : (fe == 0) = false := by simpa using he
  have hf5 : ((n : Int) == (na : Int)) = false := by simp; omega
  have hdd : decide (3000 < p.data) = false := by simp; omega
  clear h1 hok ha hb hla hlb hfp hfa hfb hc he hn1 hm1 hqc hqok hlt
  dsimp only [poolBox] at hk0 HAH HCP HRUN HCK HSM
  go_enter Try.func3, Try.ntmps3
  have hC := (HAH.out _ hk0).2.1.cells
  obtain ⟨x0, x1, x2, x3, x4⟩ := hC
  go_wp2_with (first
    | (go_at_call 6; refine (HAH.out _ hk0).2.2.2.1.mono ?_; rintro e w2 ⟨rfl, hB2⟩; have hk2 := hk0.trans (hB2.mono (by simp)); have hC := (HAH.out _ hk2).2.1.cells; clear x0 x1 x2 x3 x4; obtain ⟨x0, x1, x2, x3, x4⟩ := hC)
    | (go_at_call 7; with_reducible refine (HAH.out _ hk2).2.2.2.2.1.mono ?_; rintro e w3 ⟨rfl, rfl⟩)
    | (go_at_call 7; with_reducible refine (HAH.out _ hk2).2.2.2.2.2.1.mono ?_; rintro e w3 ⟨rfl, rfl⟩)
    | (go_at_call 9; refine (HCP.out _ hk2).mono ?_; rintro e w4 ⟨A4, c4, M4, rfl, ho4, hB4⟩; have hk4 := hk2.trans (hB4.mono (HAH.out _ hk2).2.2.1); have hC := (HAH.out _ hk4).2.1; have hz4 : w.heap.size < w4.heap.size := (HAH.out _ hk4).2.2.1; have hn4 : ¬ w.heap.size = w4.heap.size := (by omega); clear x0 x1 x2 x3 x4; have HO4 := Lib.hid ho4; obtain ⟨x0, x1, x2, x3, x4⟩ := hC.cells; clear hC ho4)
    | (go_at_call 10; refine (HRUN.out w4 (.int .i64 p.tx) (.int .i64 p.time) (.int .i64 p.unit) (.int .i64 p.data) (.slice A4 p.devs.length c4) hk4).mono ?_; rintro e w6 ⟨A6, c6, rfl, hI6, hr6, hB6, hz6⟩; have hk6 := hk4.trans (hB6.mono hz4); have hC := (HAH.out _ hk6).2.1; have hz46 : w4.heap.size < w6.heap.size := hz6; have hz06 : w.heap.size < w6.heap.size := (by omega); have hn6 : ¬ w.heap.size = w6.heap.size := (by omega); have hn46 : ¬ w4.heap.size = w6.heap.size := (by omega); clear x0 x1 x2 x3 x4; obtain ⟨x0, x1, x2, x3, x4⟩ := hC.cells; obtain ⟨y0, y1, y2, y3, y4⟩ := hr6.cells; have HI6 := Lib.hid hI6; have HW6 := Lib.hid (pool_own (HO4.out.below hB6)); clear hC hI6 hr6)
    | (go_at_call 11; have hx := HSM.out w6 (.int .i64 q.tx) (.int .i64 q.time) (.int .i64 q.unit) (.int .i64 q.data) (.slice A6 q.devs.length c6) _ (Lt w6.heap.size) hk6 (fun b hb => hb) HW6.out; with_reducible refine hx.mono ?_; clear hx; rintro e w8 ⟨rfl, hr8, hB8, hz8⟩; have hk8 := hk6.trans (hB8.mono (HAH.out _ hk6).2.2.1); have hC := (HAH.out _ hk8).2.1; clear x0 x1 x2 x3 x4 y0 y1 y2 y3 y4; obtain ⟨x0, x1, x2, x3, x4⟩ := hC.cells; have HR8 := Lib.hid hr8; clear hC hr8)
    | (go_at_call 12; with_reducible refine (HCK.out _ hk8).mono ?_; rintro e w9 ⟨rfl, hB9⟩; have hk9 := hk8.trans (hB9.mono (HAH.out _ hk8).2.2.1); clear x0 x1 x2 x3 x4; obtain ⟨y0, y1, y2, y3, y4⟩ := (HR8.out.below hB9 hz8).cells)
    | (go_at_call 12; have hx := HCQ.out w9 (Lt w6.heap.size) _ (fun b hb => by have h1 : b < w6.heap.size := hb; have := hB9.size; omega) ((pool_keep HI6.out (fun b hb => hb.2) Keep.refl).below (hB8.trans (hB9.mono (by omega))) (fun _ h => h)); with_reducible refine hx.mono ?_; clear hx; rintro e w10 ⟨rfl, hB10⟩; have hk10 := hk9.trans (hB10.mono (HAH.out _ hk9).2.2.1))
    | (go_at_call 8; refine (lives49 _).mono ?_; rintro e w12 ⟨rfl, hB12⟩; have hk12 := hk10.trans (hB12.mono (HAH.out _ hk10).2.2.1)))
  go_ret
  exact ⟨rfl, (HAH.out _ hk12).1⟩
end Go.Proofs.Ytjclcjhmdohemaa

/- 'append(out, s...)', out nil or the call's own, s nil or at an address. No condition: for any program. -/
namespace Go.Proofs.Ytjclcjhmdohemaa
open Go Go.RowKit
theorem run_append_owned_nil {P : Program} {w : World} (base : Nat) (t ty e : TypeId) (i : TypeInfo) (size : Nat) (ht : P.underlying t = some (.slice e)) (hi : P.info? e = some i)
    (v : Value) (n : Nat) (xs : List Value) (c : Nat) (hown : w.ownsRow base e size v n xs) :
    (Builtin.append_ #[t, t] ty #[v, .slice none 0 c]).run P w = .ok v w := by
  rcases hown.2 with ⟨rfl, rfl⟩ | ⟨g, cap, cur, rfl, _, _, hnc, _⟩
  · simp [Builtin.append_, run_underlying ht, sizeOf, typeInfo, hi, Builtin.lenOf, Builtin.firstCells]
  · simp [Builtin.append_, run_underlying ht, sizeOf, typeInfo, hi, Builtin.lenOf, Builtin.firstCells, hnc, storeCells]
theorem wpList_append_opt {P : Program} {w : World} {ops : Array Oper} {rest : List Oper} {o : Oper} {a : Act} {Q : Exit → Act → World → Prop} {t e size bytes : Nat} {z : Value}
    (hu : P.underlying t = some (.slice e)) (hinfo : (P.info? e).map (fun i => (i.zero, i.size, i.bytes)) = some (some z, size, bytes)) (hz : z.cells.size = size) (hsz : 0 < size) (hby : 0 < bytes)
    (hg : o.guard = none) (s y : Operand) (hop : o.op = Op.call { callee := Callee.builtin Builtin.append, args := #[s, y], argTypes := #[t, t] })
    (base : Nat) (v : Value) (n : Nat) (xs : List Value) (hs : a.eval s = v) (hown : w.ownsRow base e size v n xs) (ad : Option Addr) (m c : Nat) (news : List Value) (hy : a.eval y = .slice ad m c)
    (hl : news.length = m * size) (hc : ∀ d, ad = some d → ∀ j u, news[j]? = some u → w.cell? (d.add j) = some u) (h1 : ∀ u ∈ news, u.oneCell' = true) (hb : (n + m) * bytes ≤ 140737488355328) (hbase : base ≤ w.heap.size) (hno : ad = none → m = 0)
    (hK : ∀ A cap w', w'.ownsRow base e size (.slice A (n + m) cap) (n + m) (xs ++ news) → w.grownBy w' v.ownBlock → wpList P ops Q rest (a.put o.dst (.slice A (n + m) cap)) w') :
    wpList P ops Q (o :: rest) a w := by
  cases ad with
  | some d => exact wpList_append_cells hu hinfo hz hsz hby hg s y hop base v n xs hs hown d m c news hy hl (hc d rfl) h1 hb hbase hK
  | none =>
    obtain rfl := hno rfl
    obtain ⟨i0, hi, _, hz1, _⟩ := info_parts hinfo
    obtain rfl : news = [] := List.eq_nil_of_length_eq_zero (by omega)
    obtain ⟨A, cap, rfl, _⟩ := own_form0 hown
    have hKK := hK A cap w (by simpa using hown) (World.grownBy.refl w _)
    rw [Nat.add_zero] at hKK
    refine wpList_plain hg fun K hK => ?_
    have hrun := run_append_owned_nil (P := P) (w := w) base t o.type e i0 size hu hi _ n xs c hown
    unfold Oper.wp
    simp [execOp, hop, resolve, invoke, builtin, hs, hy, hrun, Result.andThen]
    refine hK _ _ ?_
    exact hKK
/-- A guarded operation whose guard lets it by. -/
theorem wpList_ungd {P : Program} {w : World} {ops : Array Oper} {rest : List Oper} {o : Oper} {a : Act} {Q : Exit → Act → World → Prop} (hw : Region.wanted o (yielded ops a.tmps) = true)
    (h : wpList P ops Q ({ o with guard := none } :: rest) a w) : wpList P ops Q (o :: rest) a w := by
  unfold wpList at h ⊢
  rw [if_pos hw]
  rw [if_pos (by rfl)] at h
  exact h
end Go.Proofs.Ytjclcjhmdohemaa

/- Two lists of ops joined in one, and a box made at whatever time meanwhile. Condition: the lists are within the reach. -/
namespace Go.Proofs.Ytjclcjhmdohemaa
open Go Go.RowKit

section
variable {P : Program} {ops : Array Oper} {Q : Exit → Act → World → Prop} {md : Region.Mode} {S : World → Prop} {T : Nat → Bool}
/-- Two operations may come up. -/
theorem wpTill_two (i j : Nat) {oi oj : Oper} {n : Nat} {listed : Array Bool} {a : Act} {w : World} (hr : Region.ready md ops listed = [i, j]) (hi : ops[i]? = some oi) (hj : ops[j]? = some oj)
    (h1 : ∀ K' : Act → World → Prop, Hid (∀ a w, (T i = false → S w) → ((T i = false → S w) → wpTill P md ops Q T S n (listed.setIfInBounds i true) a w) → K' a w) → if Region.wanted oi (yielded ops a.tmps) = true then Oper.wp P oi a w K' Q else K' (a.put oi.dst undef) w)
    (h2 : ∀ K' : Act → World → Prop, Hid (∀ a w, (T j = false → S w) → ((T j = false → S w) → wpTill P md ops Q T S n (listed.setIfInBounds j true) a w) → K' a w) → if Region.wanted oj (yielded ops a.tmps) = true then Oper.wp P oj a w K' Q else K' (a.put oj.dst undef) w) :
    wpTill P md ops Q T S (n + 1) listed a w := by
  refine ⟨fun h0 => (by rw [h0] at hr; cases hr), fun x hx => ?_⟩
  rw [hr] at hx
  rcases List.mem_cons.1 hx with rfl | hx
  · exact wpOp_step hi (fun K' hK => h1 K' (Lib.hid fun a w g1 g2 => hK a w ⟨g1, g2 g1⟩))
  · obtain rfl : x = j := by simpa using hx
    exact wpOp_step hj (fun K' hK => h2 K' (Lib.hid fun a w g1 g2 => hK a w ⟨g1, g2 g1⟩))
end
theorem step_append_opt {P : Program} {w : World} {ops : Array Oper} {o : Oper} {a : Act} {K : Act → World → Prop} {Q : Exit → Act → World → Prop} {F : Prop} {t e size bytes : Nat} {z : Value}
    (hu : P.underlying t = some (.slice e)) (hinfo : (P.info? e).map (fun i => (i.zero, i.size, i.bytes)) = some (some z, size, bytes)) (hz : z.cells.size = size) (hsz : 0 < size) (hby : 0 < bytes)
    (hg : o.guard = none) (s y : Operand) (hop : o.op = Op.call { callee := Callee.builtin Builtin.append, args := #[s, y], argTypes := #[t, t] })
    (base : Nat) (v : Value) (n : Nat) (xs : List Value) (hs : a.eval s = v) (hown : w.ownsRow base e size v n xs) (ad : Option Addr) (m c : Nat) (news : List Value) (hy : a.eval y = .slice ad m c)
    (hl : news.length = m * size) (hc : ∀ d, ad = some d → ∀ j u, news[j]? = some u → w.cell? (d.add j) = some u) (h1 : ∀ u ∈ news, u.oneCell' = true) (hb : (n + m) * bytes ≤ 140737488355328) (hbase : base ≤ w.heap.size) (hno : ad = none → m = 0)
    (hK : ∀ A cap w', w'.ownsRow base e size (.slice A (n + m) cap) (n + m) (xs ++ news) → w.grownBy w' v.ownBlock → (∀ x, (Value.slice A (n + m) cap).ownBlock = some x → v.ownBlock = some x ∨ x = w.heap.size) → K (a.put o.dst (.slice A (n + m) cap)) w') :
    if Region.wanted o (yielded ops a.tmps) = true then Oper.wp P o a w K Q else F := by
  have hw : Region.wanted o (yielded ops a.tmps) = true := by simp [Region.wanted, hg]
  rw [if_pos hw]
  obtain ⟨i0, hi, hz0, hz1, hz2⟩ := info_parts hinfo
  have hm : n + m ≤ maxLen := by
    have := Nat.mul_le_mul_left (n + m) hby
    unfold maxLen; omega
  cases ad with
  | some d =>
    obtain ⟨v', w', hr, h2, h3, _, h5⟩ := run_append_own_at (P := P) w base t o.type e i0 z size bytes hu hi hz0 hz1 hz2 hz hsz v n xs hown d m c news hl (hc d rfl) h1 hm hb hbase
    obtain ⟨A, cap, rfl, _⟩ := own_form0 h2
    unfold Oper.wp execOp
    simp only [hop, resolve, invoke, builtin, Sem.run_bind, Sem.run_pure, Result.andThen_ok, List.map_toArray, List.map_cons, List.map_nil, hs, hy, hr]
    refine hK A cap w' h2 h3 (fun x hx => ?_)
    rcases h5 with h5 | h5
    · exact .inl (h5 ▸ hx)
    · right
      rw [h5] at hx
      injection hx with hx
      exact hx.symm
  | none =>
    obtain rfl := hno rfl
    obtain rfl : news = [] := List.eq_nil_of_length_eq_zero (by omega)
    obtain ⟨A, cap, rfl, _⟩ := own_form0 hown
    have hKK := hK A cap w (by simpa using hown) (World.grownBy.refl w _) (fun x hx => .inl hx)
    have hrun := run_append_owned_nil (P := P) (w := w) base t o.type e i0 size hu hi _ n xs c hown
    unfold Oper.wp execOp
    simp only [hop, resolve, invoke, builtin, Sem.run_bind, Sem.run_pure, Result.andThen_ok, List.map_toArray, List.map_cons, List.map_nil, hs, hy, hrun]
    exact hKK
theorem info_mop : (Try.prog.info? 37).map (fun i => (i.zero, i.size, i.bytes)) = some (some (.agg #[.int .i64 0, .int .i64 0, .int .i64 0, .int .i64 0]), 4, 32) := by kernel_rfl
theorem mop_ones (l : List Mop) : ∀ u ∈ flats Mop.enc l, u.oneCell' = true := fun u hu => by
  obtain ⟨x, _, hx⟩ := List.mem_flatMap.1 hu
  simp only [Mop.enc, List.mem_cons, List.not_mem_nil, or_false] at hx
  rcases hx with rfl | rfl | rfl | rfl <;> rfl
theorem flat_mops {w : World} {S : Nat → Prop} {l : List Mop} {xs : List Value} (h : CellsOf (Flat Mop.enc) 4 mop0 w S l xs) : xs = flats Mop.enc l := by
  apply List.ext_getElem?
  intro i
  by_cases hi : i < l.length * 4
  · obtain ⟨cs, _, hr, hg⟩ := h.2 (i / 4) (by omega)
    obtain rfl : cs = _ := hr
    have h2 := flats_get (d := mop0) Mop.enc_len l (i / 4) (i % 4)
    have hl : i % 4 < (Mop.enc (nth mop0 l (i / 4))).length := by rw [Mop.enc_len]; omega
    have e : i / 4 * 4 + i % 4 = i := by omega
    have a1 := hg (i % 4) (by omega)
    have a2 := h2 _ (by omega) (List.getElem?_eq_getElem hl)
    rw [e] at a1 a2
    rw [a2]
    exact a1.trans (List.getElem?_eq_getElem hl)
  · rw [List.getElem?_eq_none (by rw [h.1]; omega), List.getElem?_eq_none (by rw [flats_length Mop.enc_len]; omega)]
theorem ops_src {w : World} {S : Nat → Prop} {A : Option Addr} {n c : Nat} {l : List Mop} (h : IsOps w S (.slice A n c) l) :
    n = l.length ∧ (∀ d, A = some d → ∀ j u, (flats Mop.enc l)[j]? = some u → w.cell? (d.add j) = some u) ∧ (A = none → n = 0) := by
  obtain ⟨hn, hc, hr⟩ := IsSl.slice_ h
  refine ⟨hn, fun d hd j u hj => ?_, fun e => ?_⟩
  · subst hd
    obtain ⟨xs, hx, hcl⟩ := some_cellsOf hr
    rw [flat_mops hx] at hcl
    exact hcl j u hj
  · subst e
    rcases Nat.eq_zero_or_pos l.length with h0 | h0
    · omega
    · obtain ⟨_, _, e, _⟩ := hr h0
      cases e
/-- Midway: what is joined so far. -/
def Mid (wA wc : World) (V : Value) (n : Nat) (xs : List Value) : Prop := Below wA.heap.size wA wc ∧ wc.ownsRow wA.heap.size 37 4 V n xs
/-- The box is there, apart from it. -/
def Box14 (wA wc : World) (V : Value) (g : Nat) : Prop := wA.heap.size ≤ g ∧ RBox wc g (.int .i64 0) (.int .i64 0) (.int .i64 0) (.int .i64 0) (.slice none 0 0) ∧ V.ownBlock ≠ some g
theorem Box14.lt {wA wc : World} {V : Value} {g : Nat} (h : Box14 wA wc V g) : g < wc.heap.size := (Array.getElem?_eq_some_iff.1 h.2.1).1
theorem mid_start (wA : World) : Mid wA wA.drew (.slice none 0 0) 0 [] := ⟨(Below.refl wA.heap.size wA).drew, rfl, .inl ⟨rfl, rfl⟩⟩
theorem mid_slice {wA wc : World} {V : Value} {n : Nat} {xs : List Value} (h : Mid wA wc V n xs) (W : World) (hW : wc.alloc (.cells #[] 37) = W) :
    Mid wA W (.slice (some ⟨wc.heap.size, 0, none⟩) 0 0) 0 [] ∧ ∀ g, Box14 wA wc V g → Box14 wA W (.slice (some ⟨wc.heap.size, 0, none⟩) 0 0) g := by
  subst hW
  refine ⟨⟨h.1.alloc h.1.size _, World.ownsRow_made wc #[] 0 h.1.size (by simp [maxLen]) rfl⟩, fun g hg => ⟨hg.1, ?_, ?_⟩⟩
  · exact (Below.heap_alloc wc _ g hg.lt).trans hg.2.1
  · have := hg.lt
    simp [Value.ownBlock]
    omega
theorem mid_box {wA wc : World} {V : Value} {n : Nat} {xs : List Value} (h : Mid wA wc V n xs) (W : World) (hW : wc.alloc (.cells #[.int .i64 0, .int .i64 0, .int .i64 0, .int .i64 0, .slice none 0 0] 24) = W) :
    Mid wA W V n xs ∧ Box14 wA W V wc.heap.size := by
  subst hW
  refine ⟨⟨h.1.alloc h.1.size _, h.2.alloc _⟩, h.1.size, heap_alloc_new wc _, fun e => ?_⟩
  have := (h.2.lt _ e).2
  omega
theorem mid_app {wA wc W : World} {V V' : Value} {n m : Nat} {xs ys : List Value} (h : Mid wA wc V n xs) (ho : W.ownsRow wA.heap.size 37 4 V' m ys) (hg : wc.grownBy W V.ownBlock) (hb : ∀ x, V'.ownBlock = some x → V.ownBlock = some x ∨ x = wc.heap.size) :
    Mid wA W V' m ys ∧ ∀ g, Box14 wA wc V g → Box14 wA W V' g := by
  refine ⟨⟨h.1.grown hg h.1.size (fun k hk => (h.2.lt k hk).1), ho⟩, fun g hb0 => ⟨hb0.1, ?_, fun e => ?_⟩⟩
  · exact (hg.block g hb0.lt (fun e => hb0.2.2 e.symm)).trans hb0.2.1
  · rcases hb g e with h1 | h1
    · exact hb0.2.2 h1
    · have := hb0.lt
      omega
/-- Behind the run. -/
def Ran (wA wc : World) (lo : Nat) (v : Value) (s : Pool) : Prop := Below wA.heap.size wA wc ∧ wA.heap.size ≤ lo ∧ lo ≤ wc.heap.size ∧ IsPool wc (Btw lo wc.heap.size) v s
theorem mid_run {wA wc : World} {V v : Value} {p : Pool} {a b : List Mop} {S : Nat → Prop} (h : Mid wA wc V (a.length + b.length) (flats Mop.enc a ++ flats Mop.enc b)) (hp : ∀ w', Below wA.heap.size wA w' → IsPool w' S v p) (hS : ∀ b, S b → b < wA.heap.size) (hc : poolChk p = 0) (hl : a.length + b.length ≤ 281474976710656) :
    Calls Try.prog 10 #[v, V] wc fun e w' => ∃ A c, e = .returned (.tuple #[.agg #[.int .i64 (runF p (a ++ b)).1.tx, .int .i64 (runF p (a ++ b)).1.time, .int .i64 (runF p (a ++ b)).1.unit, .int .i64 (runF p (a ++ b)).1.data, .slice A (runF p (a ++ b)).1.devs.length c], .int .i64 ((runF p (a ++ b)).2.1 : Nat), .int .i64 (runF p (a ++ b)).2.2]) ∧
      Below wc.heap.size wc w' ∧ Ran wA w' wc.heap.size (.agg #[.int .i64 (runF p (a ++ b)).1.tx, .int .i64 (runF p (a ++ b)).1.time, .int .i64 (runF p (a ++ b)).1.unit, .int .i64 (runF p (a ++ b)).1.data, .slice A (runF p (a ++ b)).1.devs.length c]) (runF p (a ++ b)).1 ∧
      (∀ g, Box14 wA wc V g → wA.heap.size ≤ g ∧ g < wc.heap.size ∧ RBox w' g (.int .i64 0) (.int .i64 0) (.int .i64 0) (.int .i64 0) (.slice none 0 0)) := by
  have hz := h.1.size
  have hlen : a.length + b.length = (a ++ b).length := by simp
  have ho := h.2
  rw [← flats_append, hlen] at ho
  have hI : IsOps wc (Lt wc.heap.size) V (a ++ b) := (IsSl.own Mop.enc_len ho (by omega)).sub (flat_stable _) (fun _ h => h.2)
  refine (run_good wc (Lt wc.heap.size) v V p (a ++ b) (fun _ h => h) (pool_keep (hp wc h.1) (fun b hb => by have := hS b hb; show b < wc.heap.size; omega) Keep.refl) hI (by omega) hc).mono ?_
  rintro e w' ⟨v', rfl, hq, hB⟩
  obtain ⟨A, c, rfl, _, _⟩ := id hq
  exact ⟨A, c, rfl, hB, ⟨h.1.trans (hB.mono hz), hz, hB.size, hq⟩, fun g hg => ⟨hg.1, hg.lt, (hB.block g hg.lt).trans hg.2.1⟩⟩
/-- The pool lies in its box. -/
theorem ran_put {wA wd : World} {lo g c : Nat} {A : Option Addr} {s : Pool} {n : Nat} (h : Ran wA wd lo (.agg #[.int .i64 s.tx, .int .i64 s.time, .int .i64 s.unit, .int .i64 s.data, .slice A n c]) s) (hg : wA.heap.size ≤ g) (hb : RBox wd g (.int .i64 0) (.int .i64 0) (.int .i64 0) (.int .i64 0) (.slice none 0 0)) (hf : g < lo) (W : World)
    (hW : (((((wd.setCell ⟨g, 0, none⟩ (.int .i64 s.tx)).setCell ⟨g, 1, none⟩ (.int .i64 s.time)).setCell ⟨g, 2, none⟩ (.int .i64 s.unit)).setCell ⟨g, 3, none⟩ (.int .i64 s.data)).setCell ⟨g, 4, none⟩ (.slice A n c)) = W) :
    Below wA.heap.size wA W ∧ RBox W g (.int .i64 s.tx) (.int .i64 s.time) (.int .i64 s.unit) (.int .i64 s.data) (.slice A n c) ∧ IsPool W (Lt W.heap.size) (.agg #[.int .i64 s.tx, .int .i64 s.time, .int .i64 s.unit, .int .i64 s.data, .slice A n c]) s := by
  subst hW
  refine ⟨below5 h.1 hg _ _ _ _ _, set5 hb _ _ _ _ _, pool_keep h.2.2.2 (fun b hb => by have h1 := hb.2; unfold Lt; rw [size5]; exact h1) (keep5 (fun e => by have := e.1; omega) _ _ _ _ _)⟩
/-- Its box is made at last. -/
theorem ran_new {wA wd : World} {lo c : Nat} {A : Option Addr} {s : Pool} {n : Nat} (h : Ran wA wd lo (.agg #[.int .i64 s.tx, .int .i64 s.time, .int .i64 s.unit, .int .i64 s.data, .slice A n c]) s) (W : World)
    (hW : wd.alloc (.cells #[.int .i64 0, .int .i64 0, .int .i64 0, .int .i64 0, .slice none 0 0] 24) = W) :
    Below wA.heap.size wA W ∧ RBox W wd.heap.size (.int .i64 0) (.int .i64 0) (.int .i64 0) (.int .i64 0) (.slice none 0 0) ∧ wA.heap.size ≤ wd.heap.size ∧ IsPool W (Lt wd.heap.size) (.agg #[.int .i64 s.tx, .int .i64 s.time, .int .i64 s.unit, .int .i64 s.data, .slice A n c]) s := by
  subst hW
  exact ⟨h.1.alloc h.1.size _, heap_alloc_new wd _, h.1.size, pool_keep h.2.2.2 (fun b hb => hb.2) (keep_alloc (fun b hb => hb.2) _)⟩
theorem ran_put2 {wA wd we : World} {c : Nat} {A : Option Addr} {s : Pool} {n : Nat} (h : Below wA.heap.size wA we ∧ RBox we wd.heap.size (.int .i64 0) (.int .i64 0) (.int .i64 0) (.int .i64 0) (.slice none 0 0) ∧ wA.heap.size ≤ wd.heap.size ∧ IsPool we (Lt wd.heap.size) (.agg #[.int .i64 s.tx, .int .i64 s.time, .int .i64 s.unit, .int .i64 s.data, .slice A n c]) s) (W : World)
    (hW : (((((we.setCell ⟨wd.heap.size, 0, none⟩ (.int .i64 s.tx)).setCell ⟨wd.heap.size, 1, none⟩ (.int .i64 s.time)).setCell ⟨wd.heap.size, 2, none⟩ (.int .i64 s.unit)).setCell ⟨wd.heap.size, 3, none⟩ (.int .i64 s.data)).setCell ⟨wd.heap.size, 4, none⟩ (.slice A n c)) = W) :
    Below wA.heap.size wA W ∧ RBox W wd.heap.size (.int .i64 s.tx) (.int .i64 s.time) (.int .i64 s.unit) (.int .i64 s.data) (.slice A n c) ∧ IsPool W (Lt W.heap.size) (.agg #[.int .i64 s.tx, .int .i64 s.time, .int .i64 s.unit, .int .i64 s.data, .slice A n c]) s := by
  subst hW
  have hlt := (Array.getElem?_eq_some_iff.1 h.2.1).1
  refine ⟨below5 h.1 h.2.2.1 _ _ _ _ _, set5 h.2.1 _ _ _ _ _, pool_keep h.2.2.2 (fun b hb => by have h1 : b < wd.heap.size := hb; unfold Lt; rw [size5]; omega) (keep5 (fun e => by have h1 : wd.heap.size < wd.heap.size := e; omega) _ _ _ _ _)⟩
end Go.Proofs.Ytjclcjhmdohemaa

/- scantlinglaw49.ModelRight where all is done (printed by tools/right14.py). Condition: the numbers fit into Go's int, and no slice is longer than the reach. -/
namespace Go.Proofs.Ytjclcjhmdohemaa
open Go.RowKit
attribute [local go_sem] Oper.semAt_some

set_option maxRecDepth 100000 in
set_option maxHeartbeats 3200000 in
theorem right_done (w : World) (v1 va vb : Value) (p : Pool) (a b : List Mop) (h1 : IsPool w (Lt w.heap.size) v1 p) (hok : p.ok) (ha : IsOps w (Lt w.heap.size) va a) (hb : IsOps w (Lt w.heap.size) vb b) (hla : a.length ≤ 281474976710656) (hlb : b.length ≤ 281474976710656)
    (hfp : fewN p = 1) (hfa : fewO a = 1) (hfb : fewO b = 1) (hd : p.data ≤ 3000) (hc : poolChk p = 0) (he : (runF p a).2.2 = 0) :
    Calls Try.prog 3 #[v1, va, vb] w fun e w' => e = .returned (.bool true) ∧ Below w.heap.size w w' := by
  obtain ⟨A, c, hv⟩ : ∃ A c, v1 = .agg #[.int .i64 p.tx, .int .i64 p.time, .int .i64 p.unit, .int .i64 p.data, .slice A p.devs.length c] := by obtain ⟨A, c, h, _⟩ := h1; exact ⟨A, c, h⟩
  have HAH := Lib.hid (ahead hv h1 hok ha hb hla hlb)
  subst hv
  have hk0 : Below (w.heap.size + 1) (w.alloc (poolBox p A p.devs.length c)) (w.alloc (poolBox p A p.devs.length c)) := Below.refl _ _
  unfold Ahead at HAH
  rw [hfp, hfa, hfb] at HAH
  obtain ⟨hn1, hm1⟩ := fewN_len hfp
  have HCP := Lib.hid (fun w' hB => copy_own w' (Lt w.heap.size) _ p (fun b hb => Nat.lt_of_lt_of_le hb (HAH.out w' hB).1.size) (HAH.out w' hB).2.2.2.2.2.2.1 (by omega) (fun k hk => by have := hm1 k hk; omega))
  have HRUN := Lib.hid (fun w' u0 u1 u2 u3 u4 hB => run_boxed w' u0 u1 u2 u3 u4 _ va p a (Lt w.heap.size) (fun b hb => Nat.lt_of_lt_of_le hb (HAH.out w' hB).1.size) (HAH.out w' hB).2.2.2.2.2.2.1 hok (HAH.out w' hB).2.2.2.2.2.2.2.1 hla)
  have HCK := Lib.hid (fun w' hB => check_any w' (Lt w.heap.size) _ p (fun b hb => Nat.lt_of_lt_of_le hb (HAH.out w' hB).1.size) (HAH.out w' hB).2.2.2.2.2.2.1 hok)
  have HSM := Lib.hid (fun w' u0 u1 u2 u3 u4 v2 S2 hB hS2 h2 => same_boxed w' u0 u1 u2 u3 u4 _ v2 p p (Lt w.heap.size) S2 (fun b hb => Nat.lt_of_lt_of_le hb (HAH.out w' hB).1.size) hS2 (HAH.out w' hB).2.2.2.2.2.2.1 h2 (by omega) (fun k hk => by have := hm1 k hk; omega))
  have hpp : decide (p = p) = true := decide_eq_true rfl
  rw [hpp] at HSM
  clear hpp
  rw [hc] at HCK
  obtain ⟨hqc, hn0, _⟩ := run_right (a := a) hc
  have hna := hn0 he
  clear hn0
  have hpt := run_parts (b := b) hc he
  have hlA := fewO_len hfa
  have hlB := fewO_len hfb
  generalize hR : runF p a = R at *
  obtain ⟨q, n, fe⟩ := R
  clear hR
  dsimp only at *
  subst he
  subst hna
  have hqok := fit_ok (fit_iff.1 hqc)
  have HCQ := Lib.hid (fun (w' : World) (S : Nat → Prop) (v : Value) (hS : ∀ b, S b → b < w'.heap.size) (h : IsPool w' S v q) => check_any w' S v q hS h hqok)
  rw [hqc] at HCQ
  obtain ⟨hrc, hk1, hk2⟩ := run_right (a := b) hqc
  have HRB := Lib.hid (fun (w' : World) (v : Value) (h : IsPool w' (Lt w'.heap.size) v q) hB => run_any w' v vb q b (Lt w'.heap.size) (fun _ h => h) h hqok ((HAH.out w' hB).2.2.2.2.2.2.2.2.sub (flat_stable _) (fun x (hx : x < w.heap.size) => Nat.lt_of_lt_of_le hx (HAH.out w' hB).1.size)) hlb)
  have HMR := Lib.hid (fun (wA wc : World) (V : Value) (hM : Mid wA wc V (a.length + b.length) (flats Mop.enc a ++ flats Mop.enc b)) (hkA : ∀ w', Below wA.heap.size wA w' → Below (w.heap.size + 1) (w.alloc (poolBox p A p.devs.length c)) w') => mid_run (wA := wA) (wc := wc) (V := V) (p := p) (a := a) (b := b) (S := Lt w.heap.size) hM (fun w' hw' => (HAH.out w' (hkA w' hw')).2.2.2.2.2.2.1) (fun x (hx : x < w.heap.size) => Nat.lt_of_lt_of_le hx (HAH.out wA (hkA wA (Below.refl _ _))).1.size) hc (by omega))
  rw [hpt] at HMR
  generalize hR : runF q b = R at *
  obtain ⟨r, k, f⟩ := R
  clear hR hpt
  dsimp only at *
  have hkb : k ≤ b.length := by
    by_cases e : f = 0
    · have := hk1 e; omega
    · have := hk2 e; omega
  have hrl := pool_len hrc
  have HSR := Lib.hid (fun (w' : World) (v1 v2 : Value) (h1 : IsPool w' (Lt w'.heap.size) v1 r) (h2 : IsPool w' (Lt w'.heap.size) v2 r) => samePool_any w' (Lt w'.heap.size) (Lt w'.heap.size) v1 v2 r r (fun _ h => h) (fun _ h => h) h1 h2 (by omega) (fun k hk => by have := maps_len hrc hk; omega))
  have hpp : decide (r = r) = true := decide_eq_true rfl
  rw [hpp] at HSR
  clear hpp hrl
  obtain ⟨Aa, ca, hva⟩ : ∃ Aa ca, va = .slice Aa a.length ca := by obtain ⟨Aa, ca, e, _⟩ := ha; exact ⟨Aa, ca, e⟩
  obtain ⟨Ab, cb, hvb⟩ : ∃ Ab cb, vb = .slice Ab b.length cb := by obtain ⟨Ab, cb, e, _⟩ := hb; exact ⟨Ab, cb, e⟩
  subst hva hvb
  have hf6 : ((a.length : Int) + (k : Int) == ((a.length + k : Nat) : Int)) = true := by simp
  have hnk : (a.length : Int) + (k : Int) < 1000 := by omega
  have hla4 : (flats Mop.enc a).length = a.length * 4 := flats_length Mop.enc_len a
  have hlb4 : (flats Mop.enc b).length = b.length * 4 := flats_length Mop.enc_len b
  have HLA := Lib.hid hla4
  have HLB := Lib.hid hlb4
  have hdd : decide (3000 < p.data) = false := by simp; omega
  clear h1 hok ha hb hla hlb hfp hfa hfb hc hn1 hm1 hqc hqok hrc hk1 hk2 hla4 hlb4
  dsimp only [poolBox] at hk0 HAH HCP HRUN HCK HSM
  go_enter Try.func3, Try.ntmps3
  have hC := (HAH.out _ hk0).2.1.cells
  obtain ⟨x0, x1, x2, x3, x4⟩ := hC
  go_wp2_with (first
    | (go_at_call 6; refine (HAH.out _ hk0).2.2.2.1.mono ?_; rintro e w2 ⟨rfl, hB2⟩; have hk2 := hk0.trans (hB2.mono (by simp)); have hC := (HAH.out _ hk2).2.1.cells; clear x0 x1 x2 x3 x4; obtain ⟨x0, x1, x2, x3, x4⟩ := hC)
    | (go_at_call 7; with_reducible refine (HAH.out _ hk2).2.2.2.2.1.mono ?_; rintro e w3 ⟨rfl, rfl⟩)
    | (go_at_call 7; with_reducible refine (HAH.out _ hk2).2.2.2.2.2.1.mono ?_; rintro e w3 ⟨rfl, rfl⟩)
    | (go_at_call 9; refine (HCP.out _ hk2).mono ?_; rintro e w4 ⟨A4, c4, M4, rfl, ho4, hB4⟩; have hk4 := hk2.trans (hB4.mono (HAH.out _ hk2).2.2.1); have hC := (HAH.out _ hk4).2.1; have hz4 : w.heap.size < w4.heap.size := (HAH.out _ hk4).2.2.1; have hn4 : ¬ w.heap.size = w4.heap.size := (by omega); clear x0 x1 x2 x3 x4; have HO4 := Lib.hid ho4; obtain ⟨x0, x1, x2, x3, x4⟩ := hC.cells; clear hC ho4)
    | (go_at_call 10; go_loud (have hx := (HRUN.out w4 (.int .i64 p.tx) (.int .i64 p.time) (.int .i64 p.unit) (.int .i64 p.data) (.slice A4 p.devs.length c4) hk4); with_reducible refine hx.mono ?_; clear hx); rintro e w6 ⟨A6, c6, rfl, hI6, hr6, hB6, hz6⟩; have hk6 := hk4.trans (hB6.mono hz4); have hC := (HAH.out _ hk6).2.1; have hz46 : w4.heap.size < w6.heap.size := hz6; have hz06 : w.heap.size < w6.heap.size := (by omega); have hn6 : ¬ w.heap.size = w6.heap.size := (by omega); have hn46 : ¬ w4.heap.size = w6.heap.size := (by omega); clear x0 x1 x2 x3 x4; obtain ⟨x0, x1, x2, x3, x4⟩ := hC.cells; obtain ⟨y0, y1, y2, y3, y4⟩ := hr6.cells; have HI6 := Lib.hid hI6; have HW6 := Lib.hid (pool_own (HO4.out.below hB6)); clear hC hI6 hr6)
    | (go_at_call 11; have hx := HSM.out w6 (.int .i64 q.tx) (.int .i64 q.time) (.int .i64 q.unit) (.int .i64 q.data) (.slice A6 q.devs.length c6) _ (Lt w6.heap.size) hk6 (fun b hb => hb) HW6.out; with_reducible refine hx.mono ?_; clear hx; rintro e w8 ⟨rfl, hr8, hB8, hz8⟩; have hk8 := hk6.trans (hB8.mono (HAH.out _ hk6).2.2.1); have hC := (HAH.out _ hk8).2.1; clear x0 x1 x2 x3 x4 y0 y1 y2 y3 y4; obtain ⟨x0, x1, x2, x3, x4⟩ := hC.cells; have HR8 := Lib.hid hr8; clear hC hr8)
    | (go_at_call 12; with_reducible refine (HCK.out _ hk8).mono ?_; rintro e w9 ⟨rfl, hB9⟩; have hk9 := hk8.trans (hB9.mono (HAH.out _ hk8).2.2.1); clear x0 x1 x2 x3 x4; obtain ⟨y0, y1, y2, y3, y4⟩ := (HR8.out.below hB9 hz8).cells)
    | (go_at_call 12; go_loud (have hx := HCQ.out w9 (Lt w6.heap.size) _ (fun b hb => by have h1 : b < w6.heap.size := hb; have := hB9.size; omega) ((pool_keep HI6.out (fun b hb => hb.2) Keep.refl).below (hB8.trans (hB9.mono (by omega))) (fun _ h => h)); with_reducible refine hx.mono ?_; clear hx); rintro e w10 ⟨rfl, hB10⟩; have hk10 := hk9.trans (hB10.mono (HAH.out _ hk9).2.2.1); go_loud (have HQ10 := Lib.hid (pool_keep ((pool_keep HI6.out (fun b hb => hb.2) Keep.refl).below (hB8.trans ((hB9.trans (hB10.mono hB9.size)).mono (by omega))) (fun _ h => h)) (fun b (hb : b < w6.heap.size) => show b < w10.heap.size by have := hB8.size; have := hB9.size; have := hB10.size; omega) Keep.refl)); clear y0 y1 y2 y3 y4; obtain ⟨y0, y1, y2, y3, y4⟩ := (HR8.out.below (hB9.trans (hB10.mono hB9.size)) hz8).cells)
    | (go_at_call 10; go_loud (have hx := HRB.out w10 _ HQ10.out hk10; with_reducible refine hx.mono ?_; clear hx); rintro e w13 ⟨v13, rfl, ⟨A13, c13, rfl, hc13, hr13⟩, hB13⟩; have hk13 := hk10.trans (hB13.mono (HAH.out _ hk10).2.2.1); have HR13 := Lib.hid hr13; clear hr13))
  obtain ⟨wA, hwA⟩ : ∃ x, w13.alloc (.cells #[.int .i64 r.tx, .int .i64 r.time, .int .i64 r.unit, .int .i64 r.data, .slice A13 r.devs.length c13] 24) = x := ⟨_, rfl⟩
  rw [hwA]
  have hz13 := (HAH.out _ hk13).2.2.1
  have hkA := hk13.alloc hz13 (.cells #[.int .i64 r.tx, .int .i64 r.time, .int .i64 r.unit, .int .i64 r.data, .slice A13 r.devs.length c13] 24)
  rw [hwA] at hkA
  have hrA : RBox wA w13.heap.size (.int .i64 r.tx) (.int .i64 r.time) (.int .i64 r.unit) (.int .i64 r.data) (.slice A13 r.devs.length c13) := by rw [← hwA]; exact heap_alloc_new w13 _
  have hIA : IsPool wA (Lt wA.heap.size) (.agg #[.int .i64 r.tx, .int .i64 r.time, .int .i64 r.unit, .int .i64 r.data, .slice A13 r.devs.length c13]) r := by
    rw [← hwA]
    exact pool_keep (p := r) ⟨A13, c13, rfl, hc13, HR13.out⟩ (fun x hx => by have := hx.2; show x < _; simp; omega) (keep_alloc (fun x hx => hx.2) _)
  have hzA := (HAH.out _ hkA).2.2.1
  have hlA13 : w13.heap.size < wA.heap.size := (Array.getElem?_eq_some_iff.1 hrA).1
  have HUA := Lib.hid (fun w' (hB : Below wA.heap.size wA w') => HAH.out w' (hkA.trans (hB.mono hzA)))
  have HKA := Lib.hid (fun w' (hB : Below wA.heap.size wA w') => hkA.trans (hB.mono hzA))
  have HRA := Lib.hid (fun w' (hB : Below wA.heap.size wA w') => hrA.below hB hlA13)
  have HIA := Lib.hid (fun w' (hB : Below wA.heap.size wA w') => pool_keep (hIA.below hB (fun _ h => h)) (fun x (hx : x < wA.heap.size) => show x < w'.heap.size from Nat.lt_of_lt_of_le hx hB.size) Keep.refl)
  clear hrA hIA hwA HQ10 HR13 HI6 HW6 HR8 y0 y1 y2 y3 y4
  have hm := mid_start wA
  refine wp_region_till (T := fun _ => false) (S := fun w' => Below wA.heap.size wA w') (by kernel_rfl) hm.1 (fun hHeld => ?_)
  obtain ⟨w20, hw20⟩ : ∃ x, wA.drew = x := ⟨_, rfl⟩
  clear hHeld
  rw [hw20] at hm ⊢
  have hHeld := hm.1
  clear hw20
  refine wpTill_put 0 91 (oi := _) (v := ?_) rfl rfl (by kernel_rfl) (by kernel_rfl) (by kernel_rfl) (by kernel_rfl) (fun _ _ _ h => h) (by rfl) hHeld ?_ ?_
  rotate_left
  · (intro w' hSw; obtain ⟨x0, x1, x2, x3, x4⟩ := (HUA.out w' hSw).2.1.cells; go_simp; (try with_reducible rfl))
  (try simp only [Act.put, List.setIfInBounds_toArray, List.set_cons_zero, List.set_cons_succ, Nat.zero_add])
  refine wpTill_put 2 93 (oi := _) (v := ?_) rfl rfl (by kernel_rfl) (by kernel_rfl) (by kernel_rfl) (by kernel_rfl) (fun _ _ _ h => h) (by rfl) hHeld ?_ ?_
  rotate_left
  · (intro w' hSw; go_simp; (try with_reducible rfl))
  (try simp only [Act.put, List.setIfInBounds_toArray, List.set_cons_zero, List.set_cons_succ, Nat.zero_add])
  refine wpTill_put 4 95 (oi := _) (v := ?_) rfl rfl (by kernel_rfl) (by kernel_rfl) (by kernel_rfl) (by kernel_rfl) (fun _ _ _ h => h) (by rfl) hHeld ?_ ?_
  rotate_left
  · (intro w' hSw; go_simp; (try with_reducible rfl))
  (try simp only [Act.put, List.setIfInBounds_toArray, List.set_cons_zero, List.set_cons_succ, Nat.zero_add])
  refine wpTill_two 1 11 (oi := _) (oj := _) (by kernel_rfl) rfl rfl (fun K hK => ?_) (fun K hK => ?_)
  · skip
    go_simp
    obtain ⟨w21, hwn⟩ : ∃ x, w20.alloc (.cells #[] 37) = x := ⟨_, rfl⟩
    have hmn := mid_slice hm w21 hwn
    rw [hwn]
    have hm := hmn.1
    clear hmn hwn
    have hHeld := hm.1
    refine hK.out _ _ (fun _ => hHeld) (fun _ => ?_)
    clear hK K
    (try simp only [Act.put, List.setIfInBounds_toArray, List.set_cons_zero, List.set_cons_succ, Nat.zero_add])
    refine wpTill_two 3 11 (oi := _) (oj := _) (by kernel_rfl) rfl rfl (fun K hK => ?_) (fun K hK => ?_)
    · skip
      have hsr := ops_src (HUA.out _ hm.1).2.2.2.2.2.2.2.1
      refine step_append_opt Try.underlying25 info_mop rfl (by omega) (by omega) rfl (.tmp 92) (.tmp 93) rfl wA.heap.size _ 0 [] rfl hm.2 Aa a.length ca (flats Mop.enc a) rfl HLA.out hsr.2.1 (mop_ones a) (by omega) hm.1.size hsr.2.2 ?_
      intro A23 c23 w22 hown hgr hbl
      have hmn := mid_app hm hown hgr hbl
      have hm := hmn.1
      clear hmn hown hgr hbl hsr
      simp only [Nat.zero_add, List.nil_append] at hm
      have hHeld := hm.1
      refine hK.out _ _ (fun _ => hHeld) (fun _ => ?_)
      clear hK K
      (try simp only [Act.put, List.setIfInBounds_toArray, List.set_cons_zero, List.set_cons_succ, Nat.zero_add])
      refine wpTill_two 5 11 (oi := _) (oj := _) (by kernel_rfl) rfl rfl (fun K hK => ?_) (fun K hK => ?_)
      · skip
        have hsr := ops_src (HUA.out _ hm.1).2.2.2.2.2.2.2.2
        refine step_append_opt Try.underlying25 info_mop rfl (by omega) (by omega) rfl (.tmp 94) (.tmp 95) rfl wA.heap.size _ a.length (flats Mop.enc a) rfl hm.2 Ab b.length cb (flats Mop.enc b) rfl HLB.out hsr.2.1 (mop_ones b) (by omega) hm.1.size hsr.2.2 ?_
        intro A25 c25 w23 hown hgr hbl
        have hmn := mid_app hm hown hgr hbl
        have hm := hmn.1
        clear hmn hown hgr hbl hsr
        have hHeld := hm.1
        refine hK.out _ _ (fun _ => hHeld) (fun _ => ?_)
        clear hK K
        (try simp only [Act.put, List.setIfInBounds_toArray, List.set_cons_zero, List.set_cons_succ, Nat.zero_add])
        refine wpTill_two 6 11 (oi := _) (oj := _) (by kernel_rfl) rfl rfl (fun K hK => ?_) (fun K hK => ?_)
        · skip
          go_simp
          refine (HMR.out wA w23 _ hm (fun w' h => HKA.out w' h)).mono ?_
          rintro e w24 ⟨A14, c14, rfl, hBn, hran, hbn⟩
          clear hbn
          have hm := hran.1
          have hHeld := hran.1
          refine hK.out _ _ (fun _ => hHeld) (fun _ => ?_)
          clear hK K
          (try simp only [Act.put, List.setIfInBounds_toArray, List.set_cons_zero, List.set_cons_succ, Nat.zero_add])
          refine wpTill_put 7 90 (oi := _) (v := ?_) rfl rfl (by kernel_rfl) (by kernel_rfl) (by kernel_rfl) (by kernel_rfl) (fun _ _ _ h => h) (by rfl) hHeld ?_ ?_
          rotate_left
          · (intro w' hSw; go_simp; (try with_reducible rfl))
          (try simp only [Act.put, List.setIfInBounds_toArray, List.set_cons_zero, List.set_cons_succ, Nat.zero_add])
          refine wpTill_put 8 98 (oi := _) (v := ?_) rfl rfl (by kernel_rfl) (by kernel_rfl) (by kernel_rfl) (by kernel_rfl) (fun _ _ _ h => h) (by rfl) hHeld ?_ ?_
          rotate_left
          · (intro w' hSw; go_simp; (try with_reducible rfl))
          (try simp only [Act.put, List.setIfInBounds_toArray, List.set_cons_zero, List.set_cons_succ, Nat.zero_add])
          refine wpTill_put 9 99 (oi := _) (v := ?_) rfl rfl (by kernel_rfl) (by kernel_rfl) (by kernel_rfl) (by kernel_rfl) (fun _ _ _ h => h) (by rfl) hHeld ?_ ?_
          rotate_left
          · (intro w' hSw; go_simp; (try with_reducible rfl))
          (try simp only [Act.put, List.setIfInBounds_toArray, List.set_cons_zero, List.set_cons_succ, Nat.zero_add])
          refine wpTill_put 10 100 (oi := _) (v := ?_) rfl rfl (by kernel_rfl) (by kernel_rfl) (by kernel_rfl) (by kernel_rfl) (fun _ _ _ h => h) (by rfl) hHeld ?_ ?_
          rotate_left
          · (intro w' hSw; go_simp; (try with_reducible rfl))
          (try simp only [Act.put, List.setIfInBounds_toArray, List.set_cons_zero, List.set_cons_succ, Nat.zero_add])
          refine wpTill_one 11 (o := _) (by kernel_rfl) rfl (fun K hK => ?_)
          go_simp
          obtain ⟨w25, hwn⟩ : ∃ x, w24.alloc (.cells #[.int .i64 0, .int .i64 0, .int .i64 0, .int .i64 0, .slice none 0 0] 24) = x := ⟨_, rfl⟩
          have hq := ran_new hran w25 hwn
          rw [hwn]
          clear hwn
          have hHeld := hq.1
          refine hK.out _ _ (fun _ => hHeld) (fun _ => ?_)
          clear hK K
          (try simp only [Act.put, List.setIfInBounds_toArray, List.set_cons_zero, List.set_cons_succ, Nat.zero_add])
          refine wpTill_one 12 (o := _) (by kernel_rfl) rfl (fun K hK => ?_)
          have hbx := hq.2.1
          obtain ⟨z0, z1, z2, z3, z4⟩ := hbx.cells
          have f0 := hbx.free 0
          have f1 := hbx.free 1
          have f2 := hbx.free 2
          have f3 := hbx.free 3
          have f4 := hbx.free 4
          go_simp
          obtain ⟨wB, hwB⟩ : ∃ x, (((((w25.setCell ⟨w24.heap.size, 0, none⟩ (.int .i64 r.tx)).setCell ⟨w24.heap.size, 1, none⟩ (.int .i64 r.time)).setCell ⟨w24.heap.size, 2, none⟩ (.int .i64 r.unit)).setCell ⟨w24.heap.size, 3, none⟩ (.int .i64 r.data)).setCell ⟨w24.heap.size, 4, none⟩ (.slice A14 r.devs.length c14)) = x := ⟨_, rfl⟩
          have hF := ran_put2 hq wB hwB
          rw [hwB]
          clear z0 z1 z2 z3 z4 f0 f1 f2 f3 f4 hbx hwB hHeld
          have hHeld := hF.1
          refine hK.out _ _ (fun _ => hHeld) (fun _ => ?_)
          clear hK K
          (try simp only [Act.put, List.setIfInBounds_toArray, List.set_cons_zero, List.set_cons_succ, Nat.zero_add])
          refine wpTill_put 13 15 (oi := _) (v := ?_) rfl rfl (by kernel_rfl) (by kernel_rfl) (by kernel_rfl) (by kernel_rfl) (fun _ _ _ h => h) (by rfl) hHeld ?_ ?_
          rotate_left
          · (intro w' hSw; go_simp; (try with_reducible rfl))
          (try simp only [Act.put, List.setIfInBounds_toArray, List.set_cons_zero, List.set_cons_succ, Nat.zero_add])
          refine wpTill_put 14 16 (oi := _) (v := ?_) rfl rfl (by kernel_rfl) (by kernel_rfl) (by kernel_rfl) (by kernel_rfl) (fun _ _ _ h => h) (by rfl) hHeld ?_ ?_
          rotate_left
          · (intro w' hSw; go_simp; (try with_reducible rfl))
          (try simp only [Act.put, List.setIfInBounds_toArray, List.set_cons_zero, List.set_cons_succ, Nat.zero_add])
          refine wpTill_done (by kernel_rfl) ?_ _
          have hkB := HKA.out wB hF.1
          have hIB := HIA.out wB hF.1
          obtain ⟨r0, r1, r2, r3, r4⟩ := (HRA.out wB hF.1).cells
          obtain ⟨z0, z1, z2, z3, z4⟩ := hF.2.1.cells
          have hIS := hF.2.2
          have HIB := Lib.hid hIB
          have HIS := Lib.hid hIS
          clear hF hIB hIS hHeld hm
          go_wp2_with (first
            | (go_at_call 11; have hx := HSR.out wB _ _ HIB.out HIS.out; with_reducible refine hx.mono ?_; clear hx; rintro e w50 ⟨rfl, hB50⟩; have hk50 := hkB.trans (hB50.mono (HAH.out _ hkB).2.2.1))
            | (go_at_call 8; refine (lives49 _).mono ?_; rintro e w51 ⟨rfl, hB51⟩; have hk51 := hk50.trans (hB51.mono (HAH.out _ hk50).2.2.1)))
          go_ret
          exact ⟨rfl, (HAH.out _ hk51).1⟩
        · skip
          go_simp
          obtain ⟨w26, hwn⟩ : ∃ x, w23.alloc (.cells #[.int .i64 0, .int .i64 0, .int .i64 0, .int .i64 0, .slice none 0 0] 24) = x := ⟨_, rfl⟩
          have hmn := mid_box hm w26 hwn
          rw [hwn]
          have hb14 := hmn.2
          have hm := hmn.1
          clear hmn hwn
          have hHeld := hm.1
          refine hK.out _ _ (fun _ => hHeld) (fun _ => ?_)
          clear hK K
          (try simp only [Act.put, List.setIfInBounds_toArray, List.set_cons_zero, List.set_cons_succ, Nat.zero_add])
          refine wpTill_one 6 (o := _) (by kernel_rfl) rfl (fun K hK => ?_)
          go_simp
          refine (HMR.out wA w26 _ hm (fun w' h => HKA.out w' h)).mono ?_
          rintro e w27 ⟨A14, c14, rfl, hBn, hran, hbn⟩
          have hz := hbn _ hb14
          clear hbn
          have hm := hran.1
          have hHeld := hran.1
          refine hK.out _ _ (fun _ => hHeld) (fun _ => ?_)
          clear hK K
          (try simp only [Act.put, List.setIfInBounds_toArray, List.set_cons_zero, List.set_cons_succ, Nat.zero_add])
          refine wpTill_put 7 90 (oi := _) (v := ?_) rfl rfl (by kernel_rfl) (by kernel_rfl) (by kernel_rfl) (by kernel_rfl) (fun _ _ _ h => h) (by rfl) hHeld ?_ ?_
          rotate_left
          · (intro w' hSw; go_simp; (try with_reducible rfl))
          (try simp only [Act.put, List.setIfInBounds_toArray, List.set_cons_zero, List.set_cons_succ, Nat.zero_add])
          refine wpTill_put 8 98 (oi := _) (v := ?_) rfl rfl (by kernel_rfl) (by kernel_rfl) (by kernel_rfl) (by kernel_rfl) (fun _ _ _ h => h) (by rfl) hHeld ?_ ?_
          rotate_left
          · (intro w' hSw; go_simp; (try with_reducible rfl))
          (try simp only [Act.put, List.setIfInBounds_toArray, List.set_cons_zero, List.set_cons_succ, Nat.zero_add])
          refine wpTill_put 9 99 (oi := _) (v := ?_) rfl rfl (by kernel_rfl) (by kernel_rfl) (by kernel_rfl) (by kernel_rfl) (fun _ _ _ h => h) (by rfl) hHeld ?_ ?_
          rotate_left
          · (intro w' hSw; go_simp; (try with_reducible rfl))
          (try simp only [Act.put, List.setIfInBounds_toArray, List.set_cons_zero, List.set_cons_succ, Nat.zero_add])
          refine wpTill_put 10 100 (oi := _) (v := ?_) rfl rfl (by kernel_rfl) (by kernel_rfl) (by kernel_rfl) (by kernel_rfl) (fun _ _ _ h => h) (by rfl) hHeld ?_ ?_
          rotate_left
          · (intro w' hSw; go_simp; (try with_reducible rfl))
          (try simp only [Act.put, List.setIfInBounds_toArray, List.set_cons_zero, List.set_cons_succ, Nat.zero_add])
          refine wpTill_one 12 (o := _) (by kernel_rfl) rfl (fun K hK => ?_)
          have hbx := hz.2.2
          obtain ⟨z0, z1, z2, z3, z4⟩ := hbx.cells
          have f0 := hbx.free 0
          have f1 := hbx.free 1
          have f2 := hbx.free 2
          have f3 := hbx.free 3
          have f4 := hbx.free 4
          go_simp
          obtain ⟨wB, hwB⟩ : ∃ x, (((((w27.setCell ⟨w23.heap.size, 0, none⟩ (.int .i64 r.tx)).setCell ⟨w23.heap.size, 1, none⟩ (.int .i64 r.time)).setCell ⟨w23.heap.size, 2, none⟩ (.int .i64 r.unit)).setCell ⟨w23.heap.size, 3, none⟩ (.int .i64 r.data)).setCell ⟨w23.heap.size, 4, none⟩ (.slice A14 r.devs.length c14)) = x := ⟨_, rfl⟩
          have hF := ran_put hran hz.1 hz.2.2 hz.2.1 wB hwB
          rw [hwB]
          clear z0 z1 z2 z3 z4 f0 f1 f2 f3 f4 hbx hwB hHeld
          have hHeld := hF.1
          refine hK.out _ _ (fun _ => hHeld) (fun _ => ?_)
          clear hK K
          (try simp only [Act.put, List.setIfInBounds_toArray, List.set_cons_zero, List.set_cons_succ, Nat.zero_add])
          refine wpTill_put 13 15 (oi := _) (v := ?_) rfl rfl (by kernel_rfl) (by kernel_rfl) (by kernel_rfl) (by kernel_rfl) (fun _ _ _ h => h) (by rfl) hHeld ?_ ?_
          rotate_left
          · (intro w' hSw; go_simp; (try with_reducible rfl))
          (try simp only [Act.put, List.setIfInBounds_toArray, List.set_cons_zero, List.set_cons_succ, Nat.zero_add])
          refine wpTill_put 14 16 (oi := _) (v := ?_) rfl rfl (by kernel_rfl) (by kernel_rfl) (by kernel_rfl) (by kernel_rfl) (fun _ _ _ h => h) (by rfl) hHeld ?_ ?_
          rotate_left
          · (intro w' hSw; go_simp; (try with_reducible rfl))
          (try simp only [Act.put, List.setIfInBounds_toArray, List.set_cons_zero, List.set_cons_succ, Nat.zero_add])
          refine wpTill_done (by kernel_rfl) ?_ _
          have hkB := HKA.out wB hF.1
          have hIB := HIA.out wB hF.1
          obtain ⟨r0, r1, r2, r3, r4⟩ := (HRA.out wB hF.1).cells
          obtain ⟨z0, z1, z2, z3, z4⟩ := hF.2.1.cells
          have hIS := hF.2.2
          have HIB := Lib.hid hIB
          have HIS := Lib.hid hIS
          clear hF hIB hIS hHeld hm
          go_wp2_with (first
            | (go_at_call 11; have hx := HSR.out wB _ _ HIB.out HIS.out; with_reducible refine hx.mono ?_; clear hx; rintro e w50 ⟨rfl, hB50⟩; have hk50 := hkB.trans (hB50.mono (HAH.out _ hkB).2.2.1))
            | (go_at_call 8; refine (lives49 _).mono ?_; rintro e w51 ⟨rfl, hB51⟩; have hk51 := hk50.trans (hB51.mono (HAH.out _ hk50).2.2.1)))
          go_ret
          exact ⟨rfl, (HAH.out _ hk51).1⟩
      · skip
        go_simp
        obtain ⟨w28, hwn⟩ : ∃ x, w22.alloc (.cells #[.int .i64 0, .int .i64 0, .int .i64 0, .int .i64 0, .slice none 0 0] 24) = x := ⟨_, rfl⟩
        have hmn := mid_box hm w28 hwn
        rw [hwn]
        have hb14 := hmn.2
        have hm := hmn.1
        clear hmn hwn
        have hHeld := hm.1
        refine hK.out _ _ (fun _ => hHeld) (fun _ => ?_)
        clear hK K
        (try simp only [Act.put, List.setIfInBounds_toArray, List.set_cons_zero, List.set_cons_succ, Nat.zero_add])
        refine wpTill_one 5 (o := _) (by kernel_rfl) rfl (fun K hK => ?_)
        have hsr := ops_src (HUA.out _ hm.1).2.2.2.2.2.2.2.2
        refine step_append_opt Try.underlying25 info_mop rfl (by omega) (by omega) rfl (.tmp 94) (.tmp 95) rfl wA.heap.size _ a.length (flats Mop.enc a) rfl hm.2 Ab b.length cb (flats Mop.enc b) rfl HLB.out hsr.2.1 (mop_ones b) (by omega) hm.1.size hsr.2.2 ?_
        intro A25 c25 w29 hown hgr hbl
        have hmn := mid_app hm hown hgr hbl
        have hb14 := hmn.2 _ hb14
        have hm := hmn.1
        clear hmn hown hgr hbl hsr
        have hHeld := hm.1
        refine hK.out _ _ (fun _ => hHeld) (fun _ => ?_)
        clear hK K
        (try simp only [Act.put, List.setIfInBounds_toArray, List.set_cons_zero, List.set_cons_succ, Nat.zero_add])
        refine wpTill_one 6 (o := _) (by kernel_rfl) rfl (fun K hK => ?_)
        go_simp
        refine (HMR.out wA w29 _ hm (fun w' h => HKA.out w' h)).mono ?_
        rintro e w30 ⟨A14, c14, rfl, hBn, hran, hbn⟩
        have hz := hbn _ hb14
        clear hbn
        have hm := hran.1
        have hHeld := hran.1
        refine hK.out _ _ (fun _ => hHeld) (fun _ => ?_)
        clear hK K
        (try simp only [Act.put, List.setIfInBounds_toArray, List.set_cons_zero, List.set_cons_succ, Nat.zero_add])
        refine wpTill_put 7 90 (oi := _) (v := ?_) rfl rfl (by kernel_rfl) (by kernel_rfl) (by kernel_rfl) (by kernel_rfl) (fun _ _ _ h => h) (by rfl) hHeld ?_ ?_
        rotate_left
        · (intro w' hSw; go_simp; (try with_reducible rfl))
        (try simp only [Act.put, List.setIfInBounds_toArray, List.set_cons_zero, List.set_cons_succ, Nat.zero_add])
        refine wpTill_put 8 98 (oi := _) (v := ?_) rfl rfl (by kernel_rfl) (by kernel_rfl) (by kernel_rfl) (by kernel_rfl) (fun _ _ _ h => h) (by rfl) hHeld ?_ ?_
        rotate_left
        · (intro w' hSw; go_simp; (try with_reducible rfl))
        (try simp only [Act.put, List.setIfInBounds_toArray, List.set_cons_zero, List.set_cons_succ, Nat.zero_add])
        refine wpTill_put 9 99 (oi := _) (v := ?_) rfl rfl (by kernel_rfl) (by kernel_rfl) (by kernel_rfl) (by kernel_rfl) (fun _ _ _ h => h) (by rfl) hHeld ?_ ?_
        rotate_left
        · (intro w' hSw; go_simp; (try with_reducible rfl))
        (try simp only [Act.put, List.setIfInBounds_toArray, List.set_cons_zero, List.set_cons_succ, Nat.zero_add])
        refine wpTill_put 10 100 (oi := _) (v := ?_) rfl rfl (by kernel_rfl) (by kernel_rfl) (by kernel_rfl) (by kernel_rfl) (fun _ _ _ h => h) (by rfl) hHeld ?_ ?_
        rotate_left
        · (intro w' hSw; go_simp; (try with_reducible rfl))
        (try simp only [Act.put, List.setIfInBounds_toArray, List.set_cons_zero, List.set_cons_succ, Nat.zero_add])
        refine wpTill_one 12 (o := _) (by kernel_rfl) rfl (fun K hK => ?_)
        have hbx := hz.2.2
        obtain ⟨z0, z1, z2, z3, z4⟩ := hbx.cells
        have f0 := hbx.free 0
        have f1 := hbx.free 1
        have f2 := hbx.free 2
        have f3 := hbx.free 3
        have f4 := hbx.free 4
        go_simp
        obtain ⟨wB, hwB⟩ : ∃ x, (((((w30.setCell ⟨w22.heap.size, 0, none⟩ (.int .i64 r.tx)).setCell ⟨w22.heap.size, 1, none⟩ (.int .i64 r.time)).setCell ⟨w22.heap.size, 2, none⟩ (.int .i64 r.unit)).setCell ⟨w22.heap.size, 3, none⟩ (.int .i64 r.data)).setCell ⟨w22.heap.size, 4, none⟩ (.slice A14 r.devs.length c14)) = x := ⟨_, rfl⟩
        have hF := ran_put hran hz.1 hz.2.2 hz.2.1 wB hwB
        rw [hwB]
        clear z0 z1 z2 z3 z4 f0 f1 f2 f3 f4 hbx hwB hHeld
        have hHeld := hF.1
        refine hK.out _ _ (fun _ => hHeld) (fun _ => ?_)
        clear hK K
        (try simp only [Act.put, List.setIfInBounds_toArray, List.set_cons_zero, List.set_cons_succ, Nat.zero_add])
        refine wpTill_put 13 15 (oi := _) (v := ?_) rfl rfl (by kernel_rfl) (by kernel_rfl) (by kernel_rfl) (by kernel_rfl) (fun _ _ _ h => h) (by rfl) hHeld ?_ ?_
        rotate_left
        · (intro w' hSw; go_simp; (try with_reducible rfl))
        (try simp only [Act.put, List.setIfInBounds_toArray, List.set_cons_zero, List.set_cons_succ, Nat.zero_add])
        refine wpTill_put 14 16 (oi := _) (v := ?_) rfl rfl (by kernel_rfl) (by kernel_rfl) (by kernel_rfl) (by kernel_rfl) (fun _ _ _ h => h) (by rfl) hHeld ?_ ?_
        rotate_left
        · (intro w' hSw; go_simp; (try with_reducible rfl))
        (try simp only [Act.put, List.setIfInBounds_toArray, List.set_cons_zero, List.set_cons_succ, Nat.zero_add])
        refine wpTill_done (by kernel_rfl) ?_ _
        have hkB := HKA.out wB hF.1
        have hIB := HIA.out wB hF.1
        obtain ⟨r0, r1, r2, r3, r4⟩ := (HRA.out wB hF.1).cells
        obtain ⟨z0, z1, z2, z3, z4⟩ := hF.2.1.cells
        have hIS := hF.2.2
        have HIB := Lib.hid hIB
        have HIS := Lib.hid hIS
        clear hF hIB hIS hHeld hm
        go_wp2_with (first
          | (go_at_call 11; have hx := HSR.out wB _ _ HIB.out HIS.out; with_reducible refine hx.mono ?_; clear hx; rintro e w50 ⟨rfl, hB50⟩; have hk50 := hkB.trans (hB50.mono (HAH.out _ hkB).2.2.1))
          | (go_at_call 8; refine (lives49 _).mono ?_; rintro e w51 ⟨rfl, hB51⟩; have hk51 := hk50.trans (hB51.mono (HAH.out _ hk50).2.2.1)))
        go_ret
        exact ⟨rfl, (HAH.out _ hk51).1⟩
    · skip
      go_simp
      obtain ⟨w31, hwn⟩ : ∃ x, w21.alloc (.cells #[.int .i64 0, .int .i64 0, .int .i64 0, .int .i64 0, .slice none 0 0] 24) = x := ⟨_, rfl⟩
      have hmn := mid_box hm w31 hwn
      rw [hwn]
      have hb14 := hmn.2
      have hm := hmn.1
      clear hmn hwn
      have hHeld := hm.1
      refine hK.out _ _ (fun _ => hHeld) (fun _ => ?_)
      clear hK K
      (try simp only [Act.put, List.setIfInBounds_toArray, List.set_cons_zero, List.set_cons_succ, Nat.zero_add])
      refine wpTill_one 3 (o := _) (by kernel_rfl) rfl (fun K hK => ?_)
      have hsr := ops_src (HUA.out _ hm.1).2.2.2.2.2.2.2.1
      refine step_append_opt Try.underlying25 info_mop rfl (by omega) (by omega) rfl (.tmp 92) (.tmp 93) rfl wA.heap.size _ 0 [] rfl hm.2 Aa a.length ca (flats Mop.enc a) rfl HLA.out hsr.2.1 (mop_ones a) (by omega) hm.1.size hsr.2.2 ?_
      intro A23 c23 w32 hown hgr hbl
      have hmn := mid_app hm hown hgr hbl
      have hb14 := hmn.2 _ hb14
      have hm := hmn.1
      clear hmn hown hgr hbl hsr
      simp only [Nat.zero_add, List.nil_append] at hm hb14
      have hHeld := hm.1
      refine hK.out _ _ (fun _ => hHeld) (fun _ => ?_)
      clear hK K
      (try simp only [Act.put, List.setIfInBounds_toArray, List.set_cons_zero, List.set_cons_succ, Nat.zero_add])
      refine wpTill_one 5 (o := _) (by kernel_rfl) rfl (fun K hK => ?_)
      have hsr := ops_src (HUA.out _ hm.1).2.2.2.2.2.2.2.2
      refine step_append_opt Try.underlying25 info_mop rfl (by omega) (by omega) rfl (.tmp 94) (.tmp 95) rfl wA.heap.size _ a.length (flats Mop.enc a) rfl hm.2 Ab b.length cb (flats Mop.enc b) rfl HLB.out hsr.2.1 (mop_ones b) (by omega) hm.1.size hsr.2.2 ?_
      intro A25 c25 w33 hown hgr hbl
      have hmn := mid_app hm hown hgr hbl
      have hb14 := hmn.2 _ hb14
      have hm := hmn.1
      clear hmn hown hgr hbl hsr
      have hHeld := hm.1
      refine hK.out _ _ (fun _ => hHeld) (fun _ => ?_)
      clear hK K
      (try simp only [Act.put, List.setIfInBounds_toArray, List.set_cons_zero, List.set_cons_succ, Nat.zero_add])
      refine wpTill_one 6 (o := _) (by kernel_rfl) rfl (fun K hK => ?_)
      go_simp
      refine (HMR.out wA w33 _ hm (fun w' h => HKA.out w' h)).mono ?_
      rintro e w34 ⟨A14, c14, rfl, hBn, hran, hbn⟩
      have hz := hbn _ hb14
      clear hbn
      have hm := hran.1
      have hHeld := hran.1
      refine hK.out _ _ (fun _ => hHeld) (fun _ => ?_)
      clear hK K
      (try simp only [Act.put, List.setIfInBounds_toArray, List.set_cons_zero, List.set_cons_succ, Nat.zero_add])
      refine wpTill_put 7 90 (oi := _) (v := ?_) rfl rfl (by kernel_rfl) (by kernel_rfl) (by kernel_rfl) (by kernel_rfl) (fun _ _ _ h => h) (by rfl) hHeld ?_ ?_
      rotate_left
      · (intro w' hSw; go_simp; (try with_reducible rfl))
      (try simp only [Act.put, List.setIfInBounds_toArray, List.set_cons_zero, List.set_cons_succ, Nat.zero_add])
      refine wpTill_put 8 98 (oi := _) (v := ?_) rfl rfl (by kernel_rfl) (by kernel_rfl) (by kernel_rfl) (by kernel_rfl) (fun _ _ _ h => h) (by rfl) hHeld ?_ ?_
      rotate_left
      · (intro w' hSw; go_simp; (try with_reducible rfl))
      (try simp only [Act.put, List.setIfInBounds_toArray, List.set_cons_zero, List.set_cons_succ, Nat.zero_add])
      refine wpTill_put 9 99 (oi := _) (v := ?_) rfl rfl (by kernel_rfl) (by kernel_rfl) (by kernel_rfl) (by kernel_rfl) (fun _ _ _ h => h) (by rfl) hHeld ?_ ?_
      rotate_left
      · (intro w' hSw; go_simp; (try with_reducible rfl))
      (try simp only [Act.put, List.setIfInBounds_toArray, List.set_cons_zero, List.set_cons_succ, Nat.zero_add])
      refine wpTill_put 10 100 (oi := _) (v := ?_) rfl rfl (by kernel_rfl) (by kernel_rfl) (by kernel_rfl) (by kernel_rfl) (fun _ _ _ h => h) (by rfl) hHeld ?_ ?_
      rotate_left
      · (intro w' hSw; go_simp; (try with_reducible rfl))
      (try simp only [Act.put, List.setIfInBounds_toArray, List.set_cons_zero, List.set_cons_succ, Nat.zero_add])
      refine wpTill_one 12 (o := _) (by kernel_rfl) rfl (fun K hK => ?_)
      have hbx := hz.2.2
      obtain ⟨z0, z1, z2, z3, z4⟩ := hbx.cells
      have f0 := hbx.free 0
      have f1 := hbx.free 1
      have f2 := hbx.free 2
      have f3 := hbx.free 3
      have f4 := hbx.free 4
      go_simp
      obtain ⟨wB, hwB⟩ : ∃ x, (((((w34.setCell ⟨w21.heap.size, 0, none⟩ (.int .i64 r.tx)).setCell ⟨w21.heap.size, 1, none⟩ (.int .i64 r.time)).setCell ⟨w21.heap.size, 2, none⟩ (.int .i64 r.unit)).setCell ⟨w21.heap.size, 3, none⟩ (.int .i64 r.data)).setCell ⟨w21.heap.size, 4, none⟩ (.slice A14 r.devs.length c14)) = x := ⟨_, rfl⟩
      have hF := ran_put hran hz.1 hz.2.2 hz.2.1 wB hwB
      rw [hwB]
      clear z0 z1 z2 z3 z4 f0 f1 f2 f3 f4 hbx hwB hHeld
      have hHeld := hF.1
      refine hK.out _ _ (fun _ => hHeld) (fun _ => ?_)
      clear hK K
      (try simp only [Act.put, List.setIfInBounds_toArray, List.set_cons_zero, List.set_cons_succ, Nat.zero_add])
      refine wpTill_put 13 15 (oi := _) (v := ?_) rfl rfl (by kernel_rfl) (by kernel_rfl) (by kernel_rfl) (by kernel_rfl) (fun _ _ _ h => h) (by rfl) hHeld ?_ ?_
      rotate_left
      · (intro w' hSw; go_simp; (try with_reducible rfl))
      (try simp only [Act.put, List.setIfInBounds_toArray, List.set_cons_zero, List.set_cons_succ, Nat.zero_add])
      refine wpTill_put 14 16 (oi := _) (v := ?_) rfl rfl (by kernel_rfl) (by kernel_rfl) (by kernel_rfl) (by kernel_rfl) (fun _ _ _ h => h) (by rfl) hHeld ?_ ?_
      rotate_left
      · (intro w' hSw; go_simp; (try with_reducible rfl))
      (try simp only [Act.put, List.setIfInBounds_toArray, List.set_cons_zero, List.set_cons_succ, Nat.zero_add])
      refine wpTill_done (by kernel_rfl) ?_ _
      have hkB := HKA.out wB hF.1
      have hIB := HIA.out wB hF.1
      obtain ⟨r0, r1, r2, r3, r4⟩ := (HRA.out wB hF.1).cells
      obtain ⟨z0, z1, z2, z3, z4⟩ := hF.2.1.cells
      have hIS := hF.2.2
      have HIB := Lib.hid hIB
      have HIS := Lib.hid hIS
      clear hF hIB hIS hHeld hm
      go_wp2_with (first
        | (go_at_call 11; have hx := HSR.out wB _ _ HIB.out HIS.out; with_reducible refine hx.mono ?_; clear hx; rintro e w50 ⟨rfl, hB50⟩; have hk50 := hkB.trans (hB50.mono (HAH.out _ hkB).2.2.1))
        | (go_at_call 8; refine (lives49 _).mono ?_; rintro e w51 ⟨rfl, hB51⟩; have hk51 := hk50.trans (hB51.mono (HAH.out _ hk50).2.2.1)))
      go_ret
      exact ⟨rfl, (HAH.out _ hk51).1⟩
  · skip
    go_simp
    obtain ⟨w35, hwn⟩ : ∃ x, w20.alloc (.cells #[.int .i64 0, .int .i64 0, .int .i64 0, .int .i64 0, .slice none 0 0] 24) = x := ⟨_, rfl⟩
    have hmn := mid_box hm w35 hwn
    rw [hwn]
    have hb14 := hmn.2
    have hm := hmn.1
    clear hmn hwn
    have hHeld := hm.1
    refine hK.out _ _ (fun _ => hHeld) (fun _ => ?_)
    clear hK K
    (try simp only [Act.put, List.setIfInBounds_toArray, List.set_cons_zero, List.set_cons_succ, Nat.zero_add])
    refine wpTill_one 1 (o := _) (by kernel_rfl) rfl (fun K hK => ?_)
    go_simp
    obtain ⟨w36, hwn⟩ : ∃ x, w35.alloc (.cells #[] 37) = x := ⟨_, rfl⟩
    have hmn := mid_slice hm w36 hwn
    rw [hwn]
    have hb14 := hmn.2 _ hb14
    have hm := hmn.1
    clear hmn hwn
    have hHeld := hm.1
    refine hK.out _ _ (fun _ => hHeld) (fun _ => ?_)
    clear hK K
    (try simp only [Act.put, List.setIfInBounds_toArray, List.set_cons_zero, List.set_cons_succ, Nat.zero_add])
    refine wpTill_one 3 (o := _) (by kernel_rfl) rfl (fun K hK => ?_)
    have hsr := ops_src (HUA.out _ hm.1).2.2.2.2.2.2.2.1
    refine step_append_opt Try.underlying25 info_mop rfl (by omega) (by omega) rfl (.tmp 92) (.tmp 93) rfl wA.heap.size _ 0 [] rfl hm.2 Aa a.length ca (flats Mop.enc a) rfl HLA.out hsr.2.1 (mop_ones a) (by omega) hm.1.size hsr.2.2 ?_
    intro A23 c23 w37 hown hgr hbl
    have hmn := mid_app hm hown hgr hbl
    have hb14 := hmn.2 _ hb14
    have hm := hmn.1
    clear hmn hown hgr hbl hsr
    simp only [Nat.zero_add, List.nil_append] at hm hb14
    have hHeld := hm.1
    refine hK.out _ _ (fun _ => hHeld) (fun _ => ?_)
    clear hK K
    (try simp only [Act.put, List.setIfInBounds_toArray, List.set_cons_zero, List.set_cons_succ, Nat.zero_add])
    refine wpTill_one 5 (o := _) (by kernel_rfl) rfl (fun K hK => ?_)
    have hsr := ops_src (HUA.out _ hm.1).2.2.2.2.2.2.2.2
    refine step_append_opt Try.underlying25 info_mop rfl (by omega) (by omega) rfl (.tmp 94) (.tmp 95) rfl wA.heap.size _ a.length (flats Mop.enc a) rfl hm.2 Ab b.length cb (flats Mop.enc b) rfl HLB.out hsr.2.1 (mop_ones b) (by omega) hm.1.size hsr.2.2 ?_
    intro A25 c25 w38 hown hgr hbl
    have hmn := mid_app hm hown hgr hbl
    have hb14 := hmn.2 _ hb14
    have hm := hmn.1
    clear hmn hown hgr hbl hsr
    have hHeld := hm.1
    refine hK.out _ _ (fun _ => hHeld) (fun _ => ?_)
    clear hK K
    (try simp only [Act.put, List.setIfInBounds_toArray, List.set_cons_zero, List.set_cons_succ, Nat.zero_add])
    refine wpTill_one 6 (o := _) (by kernel_rfl) rfl (fun K hK => ?_)
    go_simp
    refine (HMR.out wA w38 _ hm (fun w' h => HKA.out w' h)).mono ?_
    rintro e w39 ⟨A14, c14, rfl, hBn, hran, hbn⟩
    have hz := hbn _ hb14
    clear hbn
    have hm := hran.1
    have hHeld := hran.1
    refine hK.out _ _ (fun _ => hHeld) (fun _ => ?_)
    clear hK K
    (try simp only [Act.put, List.setIfInBounds_toArray, List.set_cons_zero, List.set_cons_succ, Nat.zero_add])
    refine wpTill_put 7 90 (oi := _) (v := ?_) rfl rfl (by kernel_rfl) (by kernel_rfl) (by kernel_rfl) (by kernel_rfl) (fun _ _ _ h => h) (by rfl) hHeld ?_ ?_
    rotate_left
    · (intro w' hSw; go_simp; (try with_reducible rfl))
    (try simp only [Act.put, List.setIfInBounds_toArray, List.set_cons_zero, List.set_cons_succ, Nat.zero_add])
    refine wpTill_put 8 98 (oi := _) (v := ?_) rfl rfl (by kernel_rfl) (by kernel_rfl) (by kernel_rfl) (by kernel_rfl) (fun _ _ _ h => h) (by rfl) hHeld ?_ ?_
    rotate_left
    · (intro w' hSw; go_simp; (try with_reducible rfl))
    (try simp only [Act.put, List.setIfInBounds_toArray, List.set_cons_zero, List.set_cons_succ, Nat.zero_add])
    refine wpTill_put 9 99 (oi := _) (v := ?_) rfl rfl (by kernel_rfl) (by kernel_rfl) (by kernel_rfl) (by kernel_rfl) (fun _ _ _ h => h) (by rfl) hHeld ?_ ?_
    rotate_left
    · (intro w' hSw; go_simp; (try with_reducible rfl))
    (try simp only [Act.put, List.setIfInBounds_toArray, List.set_cons_zero, List.set_cons_succ, Nat.zero_add])
    refine wpTill_put 10 100 (oi := _) (v := ?_) rfl rfl (by kernel_rfl) (by kernel_rfl) (by kernel_rfl) (by kernel_rfl) (fun _ _ _ h => h) (by rfl) hHeld ?_ ?_
    rotate_left
    · (intro w' hSw; go_simp; (try with_reducible rfl))
    (try simp only [Act.put, List.setIfInBounds_toArray, List.set_cons_zero, List.set_cons_succ, Nat.zero_add])
    refine wpTill_one 12 (o := _) (by kernel_rfl) rfl (fun K hK => ?_)
    have hbx := hz.2.2
    obtain ⟨z0, z1, z2, z3, z4⟩ := hbx.cells
    have f0 := hbx.free 0
    have f1 := hbx.free 1
    have f2 := hbx.free 2
    have f3 := hbx.free 3
    have f4 := hbx.free 4
    go_simp
    obtain ⟨wB, hwB⟩ : ∃ x, (((((w39.setCell ⟨w20.heap.size, 0, none⟩ (.int .i64 r.tx)).setCell ⟨w20.heap.size, 1, none⟩ (.int .i64 r.time)).setCell ⟨w20.heap.size, 2, none⟩ (.int .i64 r.unit)).setCell ⟨w20.heap.size, 3, none⟩ (.int .i64 r.data)).setCell ⟨w20.heap.size, 4, none⟩ (.slice A14 r.devs.length c14)) = x := ⟨_, rfl⟩
    have hF := ran_put hran hz.1 hz.2.2 hz.2.1 wB hwB
    rw [hwB]
    clear z0 z1 z2 z3 z4 f0 f1 f2 f3 f4 hbx hwB hHeld
    have hHeld := hF.1
    refine hK.out _ _ (fun _ => hHeld) (fun _ => ?_)
    clear hK K
    (try simp only [Act.put, List.setIfInBounds_toArray, List.set_cons_zero, List.set_cons_succ, Nat.zero_add])
    refine wpTill_put 13 15 (oi := _) (v := ?_) rfl rfl (by kernel_rfl) (by kernel_rfl) (by kernel_rfl) (by kernel_rfl) (fun _ _ _ h => h) (by rfl) hHeld ?_ ?_
    rotate_left
    · (intro w' hSw; go_simp; (try with_reducible rfl))
    (try simp only [Act.put, List.setIfInBounds_toArray, List.set_cons_zero, List.set_cons_succ, Nat.zero_add])
    refine wpTill_put 14 16 (oi := _) (v := ?_) rfl rfl (by kernel_rfl) (by kernel_rfl) (by kernel_rfl) (by kernel_rfl) (fun _ _ _ h => h) (by rfl) hHeld ?_ ?_
    rotate_left
    · (intro w' hSw; go_simp; (try with_reducible rfl))
    (try simp only [Act.put, List.setIfInBounds_toArray, List.set_cons_zero, List.set_cons_succ, Nat.zero_add])
    refine wpTill_done (by kernel_rfl) ?_ _
    have hkB := HKA.out wB hF.1
    have hIB := HIA.out wB hF.1
    obtain ⟨r0, r1, r2, r3, r4⟩ := (HRA.out wB hF.1).cells
    obtain ⟨z0, z1, z2, z3, z4⟩ := hF.2.1.cells
    have hIS := hF.2.2
    have HIB := Lib.hid hIB
    have HIS := Lib.hid hIS
    clear hF hIB hIS hHeld hm
    go_wp2_with (first
      | (go_at_call 11; have hx := HSR.out wB _ _ HIB.out HIS.out; with_reducible refine hx.mono ?_; clear hx; rintro e w50 ⟨rfl, hB50⟩; have hk50 := hkB.trans (hB50.mono (HAH.out _ hkB).2.2.1))
      | (go_at_call 8; refine (lives49 _).mono ?_; rintro e w51 ⟨rfl, hB51⟩; have hk51 := hk50.trans (hB51.mono (HAH.out _ hk50).2.2.1)))
    go_ret
    exact ⟨rfl, (HAH.out _ hk51).1⟩
end Go.Proofs.Ytjclcjhmdohemaa

/- scantlinglaw49.ModelRight says yes of every input. Condition: the numbers fit into Go's int, and no slice is longer than the reach. -/
namespace Go.Proofs.Ytjclcjhmdohemaa
open Go.RowKit

theorem modelRight_walk (w : World) (v1 va vb : Value) (p : Pool) (a b : List Mop) (h1 : IsPool w (Lt w.heap.size) v1 p) (hok : p.ok) (ha : IsOps w (Lt w.heap.size) va a) (hb : IsOps w (Lt w.heap.size) vb b) (hla : a.length ≤ 281474976710656) (hlb : b.length ≤ 281474976710656) :
    Calls Try.prog 3 #[v1, va, vb] w fun e w' => e = .returned (.bool true) ∧ Below w.heap.size w w' := by
  by_cases hf : fewN p = 0 ∨ fewO a = 0 ∨ fewO b = 0 ∨ 3000 < p.data
  · exact right_far w v1 va vb p a b h1 hok ha hb hla hlb hf
  · have hfp := (fewN_one p).resolve_left (fun e => hf (.inl e))
    have hfa := (fewO_one a).resolve_left (fun e => hf (.inr (.inl e)))
    have hfb := (fewO_one b).resolve_left (fun e => hf (.inr (.inr (.inl e))))
    have hd : p.data ≤ 3000 := by
      have : ¬ 3000 < p.data := fun e => hf (.inr (.inr (.inr e)))
      omega
    by_cases hc : poolChk p = 0
    · by_cases he : (runF p a).2.2 = 0
      · exact right_done w v1 va vb p a b h1 hok ha hb hla hlb hfp hfa hfb hd hc he
      · exact right_err w v1 va vb p a b h1 hok ha hb hla hlb hfp hfa hfb hd hc he
    · exact right_bad w v1 va vb p a b h1 hok ha hb hla hlb hfp hfa hfb hd hc
end Go.Proofs.Ytjclcjhmdohemaa

/- From an argument's reading to the words of Base: slices of structs of integers, nested slices, lengths within the reach. No condition: for any program. -/
namespace Go.Proofs.Ytjclcjhmdohemaa
open Go.RowKit Go.ChangeShapes Go.WideShapes Go.Deep

/-- Nothing that the datum holds is longer than the reach. -/
def Weighs {H : Type} (P : Program) (t : TypeId) (d : DataW H) : Prop := ∀ x ∈ d.weights P t, x ≤ reachBytes

theorem weightsAll_mem {H : Type} {P : Program} {e : TypeId} {d : DataW H} {x : Nat} : ∀ {l : List (DataW H)}, d ∈ l → x ∈ d.weights P e → x ∈ DataW.weightsAll P e l := by
  intro l
  induction l with
  | nil => intro h; cases h
  | cons a l ih =>
    intro h hx
    rw [DataW.weightsAll, List.mem_append]
    rcases List.mem_cons.1 h with rfl | h
    · exact .inl hx
    · exact .inr (ih h hx)
theorem weightsEach_mem {H : Type} {P : Program} {d : DataW H} {t : TypeId} {x : Nat} : ∀ {ts : List TypeId} {l : List (DataW H)} {i : Nat}, ts[i]? = some t → l[i]? = some d → x ∈ d.weights P t → x ∈ DataW.weightsEach P ts l := by
  intro ts
  induction ts with
  | nil => intro l i h; simp at h
  | cons a ts ih =>
    intro l i h hl hx
    cases l with
    | nil => simp at hl
    | cons b l =>
      rw [DataW.weightsEach, List.mem_append]
      cases i with
      | zero =>
        simp at h hl
        subst h hl
        exact .inl hx
      | succ i =>
        simp at h hl
        exact .inr (ih h hl hx)

/-- What the reading of a value of type t tells of its cells. -/
def Opens {α : Type} (P : Program) (t : TypeId) (R : Rel α) (ok : α → Prop) : Prop :=
  ∀ (H : Type) (enc : TypeId × Value → H) (w : World) (base : Nat) (spare : Nat → Bool) (held : Bool) (n : Nat) (cs : List Value) (y : DataW H × List MemPlace),
    DataW.trod enc P w base spare held n t cs = some y → Weighs P t y.1 → ∃ a, R w (Lt w.heap.size) cs a ∧ ok a

theorem in64_of_wf {n : Int} (h : (Lit.int .i64 n).wf = true) : In64 n := by
  have := bounds_i64 h
  unfold In64
  omega

/-- A slice as a relation on its one cell. -/
def RSl {α : Type} (R : Rel α) (size : Nat) (d : α) : Rel (List α) := fun w S cs l => ∃ v, cs = [v] ∧ IsSl R size d w S v l
theorem rsl_stable {α : Type} {R : Rel α} {size : Nat} {d : α} (h : Stable R) : Stable (RSl R size d) := by
  rintro w w' S S' cs l hs hk ⟨v, e, hv⟩
  exact ⟨v, e, hv.keep h hs hk⟩

theorem opens_slice {α : Type} {P : Program} {t e : TypeId} {R : Rel α} {ok : α → Prop} {size bytes : Nat} (d : α) (ht : P.underlying t = some (.slice e)) (hC : P.cellsOf e = size) (hsz : 0 < size) (hb : P.bytesOf e = bytes) (h : Opens P e R ok) :
    Opens P t (RSl R size d) (fun l => (∀ a ∈ l, ok a) ∧ l.length * bytes ≤ reachBytes) := by
  intro H enc w base spare held n cs y hy hw
  rcases open_slice ht hy with ⟨rfl, rfl⟩ | ⟨a, len, cap, m, n', D, Pl, rfl, _, hl, _, hm, rfl, hi⟩
  · exact ⟨[], ⟨_, rfl, IsSl.nil_⟩, by simp, by simp⟩
  · have hlm : len ≤ m := by rw [hm]; split <;> omega
    have hmem : ∀ i, i < len → D i ∈ (List.range len).map D := fun i hi => List.mem_map.2 ⟨i, List.mem_range.2 hi, rfl⟩
    have hwe : ∀ i, i < len → Weighs P e (D i) := by
      intro i hi x hx
      refine hw x ?_
      simp only [DataW.weights, ht]
      exact List.mem_cons_of_mem _ (List.mem_append_left _ (weightsAll_mem (hmem i hi) hx))
    have hlen : len * bytes ≤ reachBytes := by
      have := hw (((List.range len).map D).length + ((List.range (m - len)).map fun j => D (len + j)).length |>.mul (P.bytesOf e)) (by
        simp only [DataW.weights, ht]
        exact List.mem_cons_self)
      simp only [List.length_map, List.length_range, hb] at this
      exact Nat.le_trans (Nat.mul_le_mul_right _ (by omega)) this
    have hx : ∀ i, i < len → ∃ x : α, ∃ cs', w.cells? base (a.add (i * size)) size = some cs' ∧ R w (Lt w.heap.size) cs' x ∧ ok x := by
      intro i hil
      obtain ⟨cs', h1, h2⟩ := hi i (by omega)
      rw [hC] at h1
      obtain ⟨x, hx1, hx2⟩ := h H enc w base spare held n' cs' _ h2 (hwe i hil)
      exact ⟨x, cs', h1, hx1, hx2⟩
    haveI : Inhabited α := ⟨d⟩
    obtain ⟨f, hf⟩ := choose_lt hx
    refine ⟨(List.range len).map f, ⟨_, rfl, some a, cap, by simp, by simpa using hl, ?_⟩, ?_, by simpa using hlen⟩
    · intro h0
      simp only [List.length_map, List.length_range] at h0
      obtain ⟨cs0, h1, _, _⟩ := hf 0 h0
      obtain ⟨_, hl0, hc0⟩ := World.cells?_some h1
      have hcell : w.cell? (a.add (0 * size)) = cs0[0]? := by
        have := hc0 0 hsz
        simpa [Addr.add] using this
      obtain ⟨u, hu⟩ : ∃ u, cs0[0]? = some u := ⟨cs0[0]'(by omega), List.getElem?_eq_getElem (by omega)⟩
      rw [hu] at hcell
      have hcell' : w.cell? a = some u := by simpa [Addr.add] using hcell
      obtain ⟨b, off, spot⟩ := a
      obtain rfl : spot = none := World.cell?_spot hcell'
      refine ⟨b, off, rfl, World.block_lt_of_cell? w _ hcell', fun k hk => ?_⟩
      simp only [List.length_map, List.length_range] at hk
      obtain ⟨cs', g1, g2, _⟩ := hf k hk
      obtain ⟨_, g3, g4⟩ := World.cells?_some g1
      refine ⟨cs', g3, ?_, fun j u hu => ?_⟩
      · rw [nth_get d _ k (by simpa using hk)]
        simpa using g2
      · have hj : j < size := by
          have := (List.getElem?_eq_some_iff.1 hu).1
          omega
        have := g4 j hj
        rw [hu, add_add] at this
        have e1 : (⟨b, off, none⟩ : Addr).add (k * size + j) = ⟨b, off + k * size + j, none⟩ := by
          unfold Addr.add
          split
          · rename_i h0
            have : off = off + k * size + j := by omega
            rw [← this]
          · simp only [Addr.mk.injEq, and_true, true_and]; omega
        rw [e1] at this
        exact this
    · intro x hx
      obtain ⟨i, hi, rfl⟩ := List.mem_map.1 hx
      obtain ⟨_, _, _, g⟩ := hf i (List.mem_range.1 hi)
      exact g

/-- A struct of one-cell fields: each field's own reading. -/
theorem struct_fields {H : Type} {enc : TypeId × Value → H} {P : Program} {w : World} {base : Nat} {spare : Nat → Bool} {held : Bool} {n : Nat} {t : TypeId} {fs : Array Field} {cs : List Value} {y : DataW H × List MemPlace}
    (hs : P.underlying t = some (.struct fs)) (hone : oneCellFields P fs = true) (hC : P.cellsOf t = fs.size) (h : DataW.trod enc P w base spare held n t cs = some y) (hw : Weighs P t y.1) :
    cs.length = fs.size ∧ ∀ (i : Nat) (f : Field), fs[i]? = some f → ∃ u m z, cs[i]? = some u ∧ DataW.trod enc P w base spare held m f.type [u] = some z ∧ Weighs P f.type z.1 := by
  obtain ⟨xs, m, _, rfl, hlen, hxl, hf⟩ := DataW.trod_struct hs h
  rw [hC] at hlen
  refine ⟨hlen, fun i f hi => ?_⟩
  obtain ⟨ho, hk⟩ := hone_of hone i f hi
  have hil : i < fs.size := (Array.getElem?_eq_some_iff.1 hi).1
  have h1 := hf i f hi
  have hu : cs[i]? = some (cs[i]'(by omega)) := List.getElem?_eq_getElem (by omega)
  have hx : xs[i]? = some (xs[i]'(by omega)) := List.getElem?_eq_getElem (by omega)
  have hone' : (cs.drop i).take 1 = [cs[i]'(by omega)] := by
    rw [List.drop_eq_getElem_cons (by omega)]
    rfl
  rw [ho, hk, hone', hx] at h1
  refine ⟨_, m, _, hu, h1, fun x hxw => hw x ?_⟩
  simp only [DataW.weights, hs]
  refine weightsEach_mem (i := i) (t := f.type) (d := (xs[i]'(by omega)).1) ?_ ?_ hxw
  · rw [List.getElem?_map]
    have : fs.toList[i]? = some f := by simpa using hi
    rw [this]; rfl
  · rw [List.getElem?_map, hx]; rfl
theorem field_int {H : Type} {enc : TypeId × Value → H} {P : Program} {w : World} {base : Nat} {spare : Nat → Bool} {held : Bool} {n : Nat} {t : TypeId} {u : Value} {y : DataW H × List MemPlace} (ht : P.underlying t = some (.int .i64))
    (h : DataW.trod enc P w base spare held n t [u] = some y) : ∃ k, u = .int .i64 k ∧ In64 k := by
  obtain ⟨k, e, _, hw⟩ := DataW.trod_int ht h
  simp at e
  exact ⟨k, e, in64_of_wf hw⟩
/-- A struct of integers. -/
theorem opens_ints {P : Program} {t : TypeId} {fs : Array Field} (hs : P.underlying t = some (.struct fs)) (hone : oneCellFields P fs = true) (hC : P.cellsOf t = fs.size) (hf : ∀ (i : Nat) (f : Field), fs[i]? = some f → P.underlying f.type = some (.int .i64)) :
    Opens P t (fun _ _ cs (ns : List Int) => cs = ns.map (Value.int .i64) ∧ ns.length = fs.size) (fun ns => ∀ n ∈ ns, In64 n) := by
  intro H enc w base spare held n cs y hy hw
  obtain ⟨hlen, hx⟩ := struct_fields hs hone hC hy hw
  have hg : ∀ i, i < fs.size → ∃ k : Int, cs[i]? = some (.int .i64 k) ∧ In64 k := by
    intro i hi
    have hfi : fs[i]? = some fs[i] := by simp [hi]
    obtain ⟨u, m, z, hu, hz, _⟩ := hx i _ hfi
    obtain ⟨k, rfl, hk⟩ := field_int (hf i _ hfi) hz
    exact ⟨k, hu, hk⟩
  obtain ⟨f, hf'⟩ := choose_lt hg
  refine ⟨(List.range fs.size).map f, ⟨?_, by simp⟩, ?_⟩
  · apply List.ext_getElem?
    intro i
    by_cases hi : i < fs.size
    · rw [(hf' i hi).1]; simp [hi]
    · rw [List.getElem?_eq_none (by omega)]; simp [hi]
  · intro k hk
    obtain ⟨i, hi, rfl⟩ := List.mem_map.1 hk
    exact (hf' i (List.mem_range.1 hi)).2
theorem Opens.mono {α β : Type} {P : Program} {t : TypeId} {R : Rel α} {ok : α → Prop} {R' : Rel β} {ok' : β → Prop} (h : Opens P t R ok) (f : ∀ w S cs a, R w S cs a → ok a → ∃ b, R' w S cs b ∧ ok' b) : Opens P t R' ok' := by
  intro H enc w base spare held n cs y hy hw
  obtain ⟨a, ha, hoa⟩ := h H enc w base spare held n cs y hy hw
  exact f _ _ _ _ ha hoa
/-- A struct of four integers and a slice. -/
theorem opens_four {α : Type} {P : Program} {t ti ts : TypeId} {f0 f1 f2 f3 f4 : Field} {R : Rel (List α)} {ok : List α → Prop} (hs : P.underlying t = some (.struct #[f0, f1, f2, f3, f4])) (hone : oneCellFields P #[f0, f1, f2, f3, f4] = true) (hC : P.cellsOf t = 5)
    (h0 : f0.type = ti) (h1 : f1.type = ti) (h2 : f2.type = ti) (h3 : f3.type = ti) (h4 : f4.type = ts) (hi : P.underlying ti = some (.int .i64)) (h : Opens P ts R ok) :
    Opens P t (fun w S cs (x : Int × Int × Int × Int × List α) => ∃ v, cs = [.int .i64 x.1, .int .i64 x.2.1, .int .i64 x.2.2.1, .int .i64 x.2.2.2.1, v] ∧ R w S [v] x.2.2.2.2)
      (fun x => In64 x.1 ∧ In64 x.2.1 ∧ In64 x.2.2.1 ∧ In64 x.2.2.2.1 ∧ ok x.2.2.2.2) := by
  intro H enc w base spare held n cs y hy hw
  obtain ⟨hlen, hx⟩ := struct_fields hs hone hC hy hw
  obtain ⟨u0, _, _, e0, g0, _⟩ := hx 0 f0 rfl
  obtain ⟨u1, _, _, e1, g1, _⟩ := hx 1 f1 rfl
  obtain ⟨u2, _, _, e2, g2, _⟩ := hx 2 f2 rfl
  obtain ⟨u3, _, _, e3, g3, _⟩ := hx 3 f3 rfl
  obtain ⟨u4, _, _, e4, g4, w4⟩ := hx 4 f4 rfl
  subst h0
  obtain ⟨n0, rfl, k0⟩ := field_int hi g0
  rw [h1] at g1; rw [h2] at g2; rw [h3] at g3; rw [h4] at g4 w4
  obtain ⟨n1, rfl, k1⟩ := field_int hi g1
  obtain ⟨n2, rfl, k2⟩ := field_int hi g2
  obtain ⟨n3, rfl, k3⟩ := field_int hi g3
  obtain ⟨l, hr, hok⟩ := h H enc w base spare held _ [u4] _ g4 w4
  refine ⟨(n0, n1, n2, n3, l), ⟨u4, ?_, hr⟩, k0, k1, k2, k3, hok⟩
  match cs, hlen with
  | [c0, c1, c2, c3, c4], _ =>
    simp at e0 e1 e2 e3 e4
    subst e0 e1 e2 e3 e4
    rfl
end Go.Proofs.Ytjclcjhmdohemaa

/- What the readings of this program's types tell. No condition. -/
namespace Go.Proofs.Ytjclcjhmdohemaa
open Go.RowKit
theorem list3 {α : Type} {l : List α} (h : l.length = 3) : ∃ a b c, l = [a, b, c] := by
  match l, h with
  | [a, b, c], _ => exact ⟨a, b, c, rfl⟩
theorem opens_mp : Opens Try.prog 48 RMp Mp.ok :=
  (opens_ints Try.underlying48 (by kernel_rfl) (by kernel_rfl) (by
    intro i f h
    match i, h with
    | 0, h => simp at h; subst h; exact Try.underlying3
    | 1, h => simp at h; subst h; exact Try.underlying3
    | 2, h => simp at h; subst h; exact Try.underlying3
    | i + 3, h => simp at h)).mono (by
      rintro w S cs ns ⟨rfl, hl⟩ hn
      obtain ⟨a, b, c, rfl⟩ := list3 (by simpa using hl)
      exact ⟨⟨a, b, c⟩, rfl, hn a (by simp), hn b (by simp), hn c (by simp)⟩)
def MapsOk (l : List Mp) : Prop := (∀ m ∈ l, m.ok) ∧ l.length * 24 ≤ reachBytes
theorem MapsOk.len {l : List Mp} (h : MapsOk l) : l.length ≤ 5864062014805 := by have := h.2; unfold reachBytes at this; omega
theorem opens_maps : Opens Try.prog 42 (RSl RMp 3 mp0) MapsOk :=
  opens_slice mp0 Try.underlying42 (by kernel_rfl) (by omega) (by kernel_rfl) opens_mp
/-- What an argument's reading tells. -/
theorem Opens.arg {α : Type} {P : Program} {t : TypeId} {R : Rel α} {ok : α → Prop} (h : Opens P t R ok) {H : Type} {enc : TypeId × Value → H} {w : World} {base : Nat} {spare : Nat → Bool} {held : Bool} {v : Value} {d : DataW H} {p : List MemPlace}
    (ht : DataW.Trod enc P w base spare held t v d p) (hw : Weighs P t d) : ∃ a, R w (Lt w.heap.size) v.cells.toList a ∧ ok a := by
  obtain ⟨n, hn⟩ := ht
  exact h H enc w base spare held n _ _ hn hw
theorem weighs_of {H : Type} {P : Program} {ts : List TypeId} {ds : List (DataW H)} (h : (DataW.weightsEach P ts ds).all (· ≤ reachBytes) = true) {i : Nat} {t : TypeId} {d : DataW H} (ht : ts[i]? = some t) (hd : ds[i]? = some d) : Weighs P t d :=
  fun x hx => by simpa using List.all_eq_true.1 h x (weightsEach_mem ht hd hx)
end Go.Proofs.Ytjclcjhmdohemaa

/- What the readings of devices and pools tell. No condition. -/
namespace Go.Proofs.Ytjclcjhmdohemaa
open Go.RowKit
theorem MapsOk.dev {l : List Mp} (h : MapsOk l) : (∀ m ∈ l, m.ok) ∧ l.length ≤ 5864062014805 := ⟨h.1, h.len⟩
theorem opens_dev : Opens Try.prog 44 RDev Dev.ok :=
  (opens_four (ti := 3) Try.underlying44 (by kernel_rfl) (by kernel_rfl) rfl rfl rfl rfl rfl Try.underlying3 opens_maps).mono (by
    rintro w S cs ⟨a, b, c, d, l⟩ ⟨v, rfl, v', e, A, c', rfl, hc, hr⟩ ⟨o1, o2, o3, o4, o5⟩
    cases e
    exact ⟨⟨a, b, c, d, l⟩, ⟨A, c', rfl, hc, hr⟩, o1, o2, o3, o4, o5.1, o5.len⟩)
def DevsOk (l : List Dev) : Prop := (∀ d ∈ l, d.ok) ∧ l.length * 56 ≤ reachBytes
theorem DevsOk.len {l : List Dev} (h : DevsOk l) : l.length ≤ 5864062014805 := by have := h.2; unfold reachBytes at this; omega
theorem opens_devs : Opens Try.prog 22 (RSl RDev 5 dev0) DevsOk :=
  opens_slice dev0 Try.underlying22 (by kernel_rfl) (by omega) (by kernel_rfl) opens_dev
/-- The cells of a pool by value. -/
def RPool : Rel Pool := fun w S cs p => ∃ A c, cs = [.int .i64 p.tx, .int .i64 p.time, .int .i64 p.unit, .int .i64 p.data, .slice A p.devs.length c] ∧ p.devs.length ≤ c ∧ DevRow w S A p.devs
theorem opens_pool : Opens Try.prog 24 RPool Pool.ok :=
  (opens_four (ti := 3) Try.underlying24 (by kernel_rfl) (by kernel_rfl) rfl rfl rfl rfl rfl Try.underlying3 opens_devs).mono (by
    rintro w S cs ⟨a, b, c, d, l⟩ ⟨v, rfl, v', e, A, c', rfl, hc, hr⟩ ⟨o1, o2, o3, o4, o5⟩
    cases e
    exact ⟨⟨a, b, c, d, l⟩, ⟨A, c', rfl, hc, hr⟩, o1, o2, o3, o4, o5.1, o5.len⟩)
theorem RPool.is {w : World} {S : Nat → Prop} {cs : Array Value} {p : Pool} (h : RPool w S cs.toList p) : IsPool w S (.agg cs) p := by
  obtain ⟨A, c, e, hc, hr⟩ := h
  exact ⟨A, c, by rw [← e], hc, hr⟩
end Go.Proofs.Ytjclcjhmdohemaa

/- What the readings of ops tell. No condition. -/
namespace Go.Proofs.Ytjclcjhmdohemaa
open Go.RowKit
theorem list4 {α : Type} {l : List α} (h : l.length = 4) : ∃ a b c d, l = [a, b, c, d] := by
  match l, h with
  | [a, b, c, d], _ => exact ⟨a, b, c, d, rfl⟩
theorem opens_mop : Opens Try.prog 37 (Flat Mop.enc) Mop.ok :=
  (opens_ints Try.underlying37 (by kernel_rfl) (by kernel_rfl) (by
    intro i f h
    match i, h with
    | 0, h => simp at h; subst h; exact Try.underlying3
    | 1, h => simp at h; subst h; exact Try.underlying3
    | 2, h => simp at h; subst h; exact Try.underlying3
    | 3, h => simp at h; subst h; exact Try.underlying3
    | i + 4, h => simp at h)).mono (by
      rintro w S cs ns ⟨rfl, hl⟩ hn
      obtain ⟨a, b, c, d, rfl⟩ := list4 (by simpa using hl)
      exact ⟨⟨a, b, c, d⟩, rfl, hn a (by simp), hn b (by simp), hn c (by simp), hn d (by simp)⟩)
theorem opens_ops : Opens Try.prog 25 (RSl (Flat Mop.enc) 4 mop0) (fun l => (∀ a ∈ l, Mop.ok a) ∧ l.length * 32 ≤ reachBytes) :=
  opens_slice mop0 Try.underlying25 (by kernel_rfl) (by omega) (by kernel_rfl) opens_mop
end Go.Proofs.Ytjclcjhmdohemaa
