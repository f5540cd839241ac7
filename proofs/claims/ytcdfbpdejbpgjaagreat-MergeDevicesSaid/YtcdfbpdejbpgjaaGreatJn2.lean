import Derived.Test.YtcdfbpdejbpgjaaGreatPBox
import Derived.Test.YtcdfbpdejbpgjaaGreatJn1
import Derived.Deep.QuietTactic
import Derived.BigQuiet
import Derived.Outline
import Derived.Test.YtcdfbpdejbpgjaaGreatWPool3
import Derived.Test.YtcdfbpdejbpgjaaGreatWCloneM
import Derived.Test.YtcdfbpdejbpgjaaGreatModelQ
import Derived.Test.YtcdfbpdejbpgjaaGreatSnapP
import Derived.Test.YtcdfbpdejbpgjaaGreatModelP
import Derived.Test.YtcdfbpdejbpgjaaGreatOwnPut
import Derived.Test.YtcdfbpdejbpgjaaGreatWModel2
import Derived.Test.YtcdfbpdejbpgjaaGreatRegT
import Derived.Deep.Cut
import Derived.Deep.DeepCutAuto
import Derived.Test.YtcdfbpdejbpgjaaGreatWPoolRefs
import Derived.Test.YtcdfbpdejbpgjaaGreatWModel5
import Derived.IntWalk
set_option linter.unusedVariables false
set_option linter.unusedSimpArgs false
/- scantlinglaw18.Few: whether a pool is small enough. Condition: the numbers fit into Go's int. -/
namespace Go.Proofs.YtcdfbpdejbpgjaaGreat
open Go.RowKit
set_option maxRecDepth 100000 in
set_option maxHeartbeats 800000 in
theorem few_any (w : World) (S : Nat → Prop) (v : Value) (p : Pool) (hS : ∀ b, S b → b < w.heap.size) (h : IsPool w S v p) (hok : p.ok) :
    Calls Tryz.prog 4 #[v] w fun e w' => e = .returned (.int .i64 (fewN p)) ∧ Below w.heap.size w w' := by
  obtain ⟨A, c, rfl, _, hr⟩ := h
  have hnl := hok.2.2.2.2.2
  generalize hl0 : p.devs.length = n at *
  have hl := Lib.hid hl0
  clear hl0
  have hB0 : Below w.heap.size w (w.alloc (poolBox p A n c)) := (Below.refl _ _).alloc (Nat.le_refl _) _
  go_enter Tryz.func4, Tryz.ntmps4
  go_wp2_with fail
  go_loop [3, 4] (fun t i => ∃ k : Nat, k ≤ n ∧ k ≤ 201 ∧ i = .int .i64 k ∧ t = .int .i64 (countL (p.devs.take k))) (fun _ i => n - (intOf i).toNat)
  case atStart => exact ⟨0, by omega, by omega, rfl, rfl⟩
  case round =>
    obtain ⟨k, hk, hk2, rfl, rfl⟩ := hrel
    have hs0 := countL_nonneg (p.devs.take k)
    by_cases hlt : k < n ∧ k < 201
    · obtain ⟨b, off, rfl, hb, hc⟩ := devs_cells (hr.keep rdev_stable (fun _ h => h) (keep_below hB0 hS)) (by rw [hl.out]; omega)
      obtain ⟨c0, c1, c2, c3, A', c', c4, hc', hr'⟩ := hc k (by rw [hl.out]; omega)
      have HT := Lib.hid (countL_take p.devs k (by rw [hl.out]; omega))
      have hle := countL_take_bound hok (k + 1) (by omega)
      rw [HT.out] at hle
      have hbs := hS b hb
      have hlt1 := hlt.1
      have hlt2 := hlt.2
      clear hc hr' hlt
      go_wp2
      go_round
      case rel => exact ⟨k + 1, by omega, by omega, by go_num, by rw [HT.out]⟩
      case measure => simp [intOf]; omega
    · have hle := countL_take_bound hok k hk2
      by_cases hlt1 : k < n
      · have hk3 : ¬ k < 201 := by omega
        have e := Lib.hid (fewN_no (p := p) (by rw [hl.out]; omega))
        have hn2 : ¬ n ≤ 200 := by omega
        clear hlt
        go_wp2
        go_ret
        exact ⟨ret_int e.out.symm, hB0⟩
      · have hfin : p.devs.take k = p.devs := List.take_of_length_le (by rw [hl.out]; omega)
        have hcp : p.count = countL (p.devs.take k) := by rw [hfin]; rfl
        have hkn : n ≤ k := by omega
        by_cases hn2 : n ≤ 200
        · by_cases hcc : countL (p.devs.take k) ≤ 2000
          · have e := Lib.hid (fewN_yes (p := p) (by rw [hl.out]; exact hn2) (by rw [hcp]; exact hcc))
            clear hfin hcp hlt
            go_wp2
            go_ret
            exact ⟨ret_int e.out.symm, hB0⟩
          · have e := Lib.hid (fewN_no (p := p) (by rw [hcp]; exact fun h => hcc h.2))
            clear hfin hcp hlt
            go_wp2
            go_ret
            exact ⟨ret_int e.out.symm, hB0⟩
        · have e := Lib.hid (fewN_no (p := p) (by rw [hl.out]; exact fun h => hn2 h.1))
          clear hfin hcp hlt
          go_wp2
          go_ret
          exact ⟨ret_int e.out.symm, hB0⟩
end Go.Proofs.YtcdfbpdejbpgjaaGreat

/- scantlingref18.in, Count, and scantlinglaw18.Few. Conditions: the numbers fit into Go's int, no slice is longer than the reach. -/
namespace Go.Proofs.YtcdfbpdejbpgjaaGreat
open Go.RowKit

theorem rin_any (w : World) (n lo hi : Int) : Calls Tryz.prog 53 #[.int .i64 n, .int .i64 lo, .int .i64 hi] w fun e w' => e = .returned (.bool (inB n lo hi)) ∧ w = w' := by
  by_cases h1 : lo ≤ n
  · by_cases h2 : n ≤ hi
    · rw [inB_yes ⟨h1, h2⟩]
      go_enter Tryz.func53, Tryz.ntmps53
      go_wp2
      go_ret
      exact ⟨rfl, rfl⟩
    · rw [inB_no (fun h => h2 h.2)]
      go_enter Tryz.func53, Tryz.ntmps53
      go_wp2
      go_ret
      exact ⟨rfl, rfl⟩
  · rw [inB_no (fun h => h1 h.1)]
    go_enter Tryz.func53, Tryz.ntmps53
    go_wp2
    go_ret
    exact ⟨rfl, rfl⟩


set_option maxHeartbeats 800000 in
theorem rcount_any (w : World) (S : Nat → Prop) (v : Value) (p : Pool) (hS : ∀ b, S b → b < w.heap.size) (h : IsPool w S v p) (hn : p.devs.length ≤ 1099511627776) (hc0 : p.count ≤ 4611686018427387904) :
    Calls Tryz.prog 17 #[v] w fun e w' => e = .returned (.int .i64 p.count) ∧ Below w.heap.size w w' := by
  obtain ⟨A, c, rfl, _, hr⟩ := h
  generalize hl0 : p.devs.length = n at *
  have hl := Lib.hid hl0
  clear hl0
  have hB0 : Below w.heap.size w (w.alloc (poolBox p A n c)) := (Below.refl _ _).alloc (Nat.le_refl _) _
  go_enter Tryz.func17, Tryz.ntmps17
  go_wp2_with fail
  go_loop [3, 4] (fun t i => ∃ k : Nat, k ≤ n ∧ i = .int .i64 k ∧ t = .int .i64 (countL (p.devs.take k))) (fun _ i => n - (intOf i).toNat)
  case atStart => exact ⟨0, by omega, rfl, rfl⟩
  case round =>
    obtain ⟨k, hk, rfl, rfl⟩ := hrel
    have hs0 := countL_nonneg (p.devs.take k)
    by_cases hlt : k < n
    · obtain ⟨b, off, rfl, hb, hc⟩ := devs_cells (hr.keep rdev_stable (fun _ h => h) (keep_below hB0 hS)) (by rw [hl.out]; omega)
      obtain ⟨c0, c1, c2, c3, A', c', c4, hc', hr'⟩ := hc k (by rw [hl.out]; omega)
      have HT := Lib.hid (countL_take p.devs k (by rw [hl.out]; omega))
      have hle := countL_take_le p.devs (k + 1)
      rw [HT.out] at hle
      have hbs := hS b hb
      have hs1 : countL (p.devs.take k) + ((nth dev0 p.devs k).maps.length : Int) ≤ 4611686018427387904 := Int.le_trans hle hc0
      clear hc hr' hle
      go_wp2
      go_round
      case rel => exact ⟨k + 1, by omega, by go_num, by rw [HT.out]⟩
      case measure => simp [intOf]; omega
    · have hfin : Hid (p.devs.take k = p.devs) := List.take_of_length_le (by rw [hl.out]; omega)
      go_wp2
      go_ret
      exact ⟨ret_int (by rw [hfin.out]; rfl), hB0⟩

end Go.Proofs.YtcdfbpdejbpgjaaGreat

/- pool.Find, scantlingref18.Find: the first device of an id. Condition: no slice is longer than the reach. -/
namespace Go.Proofs.YtcdfbpdejbpgjaaGreat
open Go.RowKit

/-- The place of the first device of an id, or -1. -/
def FoundAt (l : List Dev) (id i : Int) : Prop := (∃ k : Nat, k < l.length ∧ i = k ∧ (nth dev0 l k).id = id ∧ ∀ j, j < k → (nth dev0 l j).id ≠ id) ∨ (i = -1 ∧ ∀ j, j < l.length → (nth dev0 l j).id ≠ id)
def findD (l : List Dev) (id : Int) : Dev := (l.find? (fun d => d.id == id)).getD dev0
def findB (l : List Dev) (id : Int) : Bool := l.any (fun d => d.id == id)
theorem found_yes {l : List Dev} {id : Int} {k : Nat} (hk : k < l.length) (h : (nth dev0 l k).id = id) (hn : ∀ j, j < k → (nth dev0 l j).id ≠ id) : findD l id = nth dev0 l k ∧ findB l id = true := by
  constructor
  · unfold findD
    have : l.find? (fun d => d.id == id) = some (nth dev0 l k) := by
      rw [List.find?_eq_some_iff_getElem]
      refine ⟨by simpa using h, k, hk, (nth_get dev0 l k hk).symm, fun j hj => ?_⟩
      have := hn j hj
      rw [nth_get dev0 l j (by omega)] at this
      simpa using this
    rw [this]; rfl
  · unfold findB
    rw [List.any_eq_true]
    exact ⟨_, nth_mem dev0 l k hk, by simpa using h⟩
theorem found_no {l : List Dev} {id : Int} (hn : ∀ j, j < l.length → (nth dev0 l j).id ≠ id) : findD l id = dev0 ∧ findB l id = false := by
  have hall : ∀ d ∈ l, d.id ≠ id := fun d hd => by
    obtain ⟨j, hj, rfl⟩ := List.getElem_of_mem hd
    have := hn j hj
    rwa [nth_get dev0 l j hj] at this
  constructor
  · unfold findD
    rw [List.find?_eq_none.2 (fun d hd => by simpa using hall d hd)]; rfl
  · unfold findB
    rw [List.any_eq_false]
    exact fun d hd => by simpa using hall d hd

theorem is_any (w : World) (d : Dev) (A : Option Addr) (n c fb : Nat) (id : Int) (hf : w.cell? ⟨fb, 0, none⟩ = some (.int .i64 id)) (hlt : fb < w.heap.size) :
    Calls Tryz.prog 28 #[.agg #[.int .i64 d.id, .int .i64 d.tx, .int .i64 d.made, .int .i64 d.snapped, .slice A n c], .pointer (some ⟨fb, 0, none⟩)] w fun e w' => e = .returned (.bool (d.id == id)) ∧ Below w.heap.size w w' := by
  have hB0 : Below w.heap.size w (w.alloc (.cells #[.int .i64 d.id, .int .i64 d.tx, .int .i64 d.made, .int .i64 d.snapped, .slice A n c] 36)) := (Below.refl _ _).alloc (Nat.le_refl _) _
  go_enter Tryz.func28, Tryz.ntmps28
  go_wp2
  go_ret
  exact ⟨rfl, hB0⟩

set_option maxHeartbeats 800000 in
theorem idxDev_any (w : World) (S : Nat → Prop) (v : Value) (l : List Dev) (fb : Nat) (id : Int) (hS : ∀ b, S b → b < w.heap.size) (h : IsDevs w S v l) (hn : l.length ≤ 1099511627776) (hf : w.cell? ⟨fb, 0, none⟩ = some (.int .i64 id)) (hlf : fb < w.heap.size) :
    Calls Tryz.prog 27 #[v, .func (.func 28) #[] #[.pointer (some ⟨fb, 0, none⟩)]] w fun e w' => ∃ i : Int, e = .returned (.int .i64 i) ∧ FoundAt l id i ∧ Below w.heap.size w w' := by
  obtain ⟨A, c, rfl, _, hr⟩ := h
  generalize hl0 : l.length = n at *
  have hl := Lib.hid hl0
  clear hl0
  go_enter Tryz.func27, Tryz.ntmps27
  go_wp2_with fail
  go_loopw [8] (fun i wr => ∃ k : Nat, k ≤ n ∧ i = .int .i64 k ∧ (∀ j, j < k → (nth dev0 l j).id ≠ id) ∧ Below w.heap.size w wr) (fun i _ => n - (intOf i).toNat)
  case atStart => exact ⟨0, by omega, rfl, fun j hj => absurd hj (by omega), Below.refl _ _⟩
  case round =>
    obtain ⟨k, hk, rfl, hA, hB⟩ := hrel
    have HA := Lib.hid hA
    have hsz := hB.size
    clear hA
    by_cases hlt : k < n
    · obtain ⟨b, off, rfl, hb, hc⟩ := devs_cells (hr.keep rdev_stable (fun _ h => h) (keep_below hB hS)) (by rw [hl.out]; omega)
      obtain ⟨c0, c1, c2, c3, A', c', c4, hc', hr'⟩ := hc k (by rw [hl.out]; omega)
      have hbs := hS b hb
      have hfw : wr.cell? ⟨fb, 0, none⟩ = some (.int .i64 id) := (hB.cell (p := ⟨fb, 0, none⟩) hlf).trans hf
      have hIS := is_any wr (nth dev0 l k) A' (nth dev0 l k).maps.length c' fb id hfw (by omega)
      have HIS := Lib.hid hIS
      clear hc hr' hIS
      by_cases hid : (nth dev0 l k).id = id
      · have hbb : ((nth dev0 l k).id == id) = true := by simp [hid]
        rw [hbb] at HIS
        have HFO : Hid (FoundAt l id k) := Lib.hid (.inl ⟨k, by rw [hl.out]; exact hlt, rfl, hid, HA.out⟩)
        clear hid hbb HA
        generalize nth dev0 l k = d at *
        go_wp2_with (go_at_call 28; refine HIS.out.mono ?_; rintro e w2 ⟨rfl, hB2⟩)
        refine bodyPost_ret (results_tmp rfl _ _ _) rfl ?_
        exact ⟨_, rfl, HFO.out, hB.trans (hB2.mono hsz)⟩
      · have hbb : ((nth dev0 l k).id == id) = false := by simp [hid]
        rw [hbb] at HIS
        have hA2 : ∀ j, j < k + 1 → (nth dev0 l j).id ≠ id := fun j hj => by
          by_cases e : j = k
          · rw [e]; exact hid
          · exact HA.out j (by omega)
        have HA2 := Lib.hid hA2
        clear hid hbb HA hA2
        generalize nth dev0 l k = d at *
        go_wp2_with (go_at_call 28; refine HIS.out.mono ?_; rintro e w2 ⟨rfl, hB2⟩)
        go_roundw
        case rel => exact ⟨k + 1, by omega, by go_num, HA2.out, hB.trans (hB2.mono hsz)⟩
        case measure => simp [intOf]; omega
    · have HFO : Hid (FoundAt l id (-1)) := Lib.hid (.inr ⟨rfl, fun j hj => HA.out j (by rw [hl.out] at hj; omega)⟩)
      clear HA
      go_wp2_with fail
      go_ret
      exact ⟨_, rfl, HFO.out, hB⟩
end Go.Proofs.YtcdfbpdejbpgjaaGreat

/- A device of two others, as plain Lean. No condition: no program is in sight here. -/
namespace Go.Proofs.YtcdfbpdejbpgjaaGreat
open Go.RowKit

theorem chkFrom_fit (data : Int) : ∀ (l : List Mp) (last : Int), IncK Mp.v mp0 l → (∀ m ∈ l, MapFit data m) → (0 < l.length → last < (nth mp0 l 0).v) → chkFrom last l = 0 := by
  intro l
  induction l with
  | nil => intro _ _ _ _; rfl
  | cons m r ih =>
    intro last hi hf hl
    have h1 := (hf m (by simp)).1
    have h2 := hl (by simp)
    rw [nth_cons_zero] at h2
    simp only [chkFrom]
    rw [if_neg (by omega), if_neg (by omega)]
    refine ih m.v (fun i j hij hj => ?_) (fun x hx => hf x (by simp [hx])) (fun h => ?_)
    · have := hi (i + 1) (j + 1) (by omega) (by simp; omega)
      rwa [nth_cons_succ, nth_cons_succ] at this
    · have := hi 0 1 (by omega) (by simp; omega)
      rwa [nth_cons_zero, nth_cons_succ] at this
theorem chk_dev {p : Pool} (h : PoolFit p) {id : Int} : chk (findD p.devs id).maps = 0 ∧ (findD p.devs id).maps.length ≤ 16384 := by
  by_cases hb : ∃ k, k < p.devs.length ∧ (nth dev0 p.devs k).id = id
  · obtain ⟨k, hk, he⟩ := hb
    have hn : ∀ j, j < k → (nth dev0 p.devs j).id ≠ id := fun j hj e => by
      have := h.2.2.2.1 j k hj hk
      omega
    rw [(found_yes hk he hn).1]
    have hd := h.2.2.2.2 _ (nth_mem dev0 p.devs k hk)
    refine ⟨chkFrom_fit p.data _ _ hd.2.2.2.2.1 hd.2.2.2.2.2 (fun h0 => ?_), maps_len (fit_iff.2 h) hk⟩
    have := (hd.2.2.2.2.2 _ (nth_mem mp0 _ 0 h0)).1
    omega
  · rw [(found_no (fun j hj e => hb ⟨j, hj, e⟩)).1]
    exact ⟨rfl, by simp [dev0]⟩
theorem mergeO_le : ∀ (n : Nat) (a b : List Mp), a.length + b.length ≤ n → (mergeO a b).length ≤ a.length + b.length := by
  intro n
  induction n with
  | zero =>
    intro a b h
    have ha : a = [] := List.eq_nil_of_length_eq_zero (by omega)
    have hb : b = [] := List.eq_nil_of_length_eq_zero (by omega)
    subst ha hb
    simp [mergeO]
  | succ n ih =>
    intro a b h
    cases a with
    | nil => simp [mergeO]
    | cons x a =>
      cases b with
      | nil => simp [mergeO]
      | cons y b =>
        simp only [List.length_cons] at h ⊢
        rw [mergeO]
        split
        · have := ih a (y :: b) (by simp only [List.length_cons]; omega)
          simp only [List.length_cons] at this ⊢; omega
        · split
          · have := ih a b (by omega)
            simp only [List.length_cons]; omega
          · have := ih (x :: a) b (by simp only [List.length_cons]; omega)
            simp only [List.length_cons] at this ⊢; omega
/-- What the device of two holds. -/
def overD (p : Pool) (base top : Int) : List Mp := mergeO (findD p.devs base).maps (findD p.devs top).maps
def deviceF (p : Pool) (base top id : Int) : Int × Pool :=
  if (applyF p ⟨1, id, 0, 0⟩).1 ≠ 0 then ((applyF p ⟨1, id, 0, 0⟩).1, pool0)
  else if findB p.devs base = false ∨ findB p.devs top = false then (18, pool0)
  else if 16384 < p.count + (overD p base top).length then (2, pool0)
  else (0, setMaps (applyF p ⟨1, id, 0, 0⟩).2 (dpos p id) (overD p base top))
/-- What Apply made. -/
theorem made_is {p : Pool} {id : Int} (h : (applyF p ⟨1, id, 0, 0⟩).1 = 0) : poolChk p = 0 ∧ (doF p ⟨1, id, 0, 0⟩).1 = 0 ∧ PoolFit (applyF p ⟨1, id, 0, 0⟩).2 ∧ dpos p id < (applyF p ⟨1, id, 0, 0⟩).2.devs.length ∧ (nth dev0 (applyF p ⟨1, id, 0, 0⟩).2.devs (dpos p id)).id = id ∧
    (∀ j, j < (applyF p ⟨1, id, 0, 0⟩).2.devs.length → j ≠ dpos p id → (nth dev0 (applyF p ⟨1, id, 0, 0⟩).2.devs j).id ≠ id) := by
  obtain ⟨h1, h2, h3⟩ := apply_is h
  have hq := apply_fit h
  have hd : doF p ⟨1, id, 0, 0⟩ = createF p ⟨1, id, 0, 0⟩ := by unfold doF; rw [if_pos rfl]
  have hc : createF p ⟨1, id, 0, 0⟩ = (0, addF p id []) := by
    rw [hd] at h2
    unfold createF at h2 ⊢
    split at h2
    · exact absurd h2 (by assumption)
    · split at h2
      · cases h2
      · rename_i a b
        rw [if_neg a, if_neg b]
  have he : (applyF p ⟨1, id, 0, 0⟩).2 = addF p id [] := by rw [h3, hd, hc]
  obtain ⟨_, _, p3, p4⟩ := addF_pos (p := p) (id := id) (m := [])
  have hl : (addF p id []).devs.length = p.devs.length + 1 := insAt_length _ _ _ p3
  rw [he] at hq ⊢
  have hk : dpos p id < (addF p id []).devs.length := by omega
  have hid : (nth dev0 (addF p id []).devs (dpos p id)).id = id := by rw [p4]; rfl
  refine ⟨h1, h2, hq, hk, hid, fun j hj hne e => hne ?_⟩
  exact id_alone hq hj hk (by rw [e, hid])
end Go.Proofs.YtcdfbpdejbpgjaaGreat

/- The reference's place (scantlingref49): where a device stands. Condition: no slice is longer than the reach. -/
namespace Go.Proofs.YtcdfbpdejbpgjaaGreat
open Go.RowKit

/-- Where a device stands, or -1. -/
def placeI (p : Pool) (id : Int) : Int := if dhas p id = true then (dpos p id : Int) else -1
theorem placeI_at {p : Pool} {id : Int} {k : Nat} (hi : IncK Dev.id dev0 p.devs) (hk : k < p.devs.length) (he : (nth dev0 p.devs k).id = id) : placeI p id = k := by
  have h1 : dhas p id = true := (hasK_iff (d := dev0)).2 ⟨k, hk, he⟩
  unfold placeI
  rw [if_pos h1]
  have : k = dpos p id := posK_of (d := dev0) (by omega) (fun j hj => by have := hi j k hj hk; omega) (fun _ => by omega)
  omega
theorem placeI_no {p : Pool} {id : Int} (hn : ∀ j, j < p.devs.length → (nth dev0 p.devs j).id ≠ id) : placeI p id = -1 := by
  unfold placeI
  rw [if_neg]
  intro h
  obtain ⟨k, hk, he⟩ := (hasK_iff (d := dev0)).1 h
  exact hn k hk he
set_option maxHeartbeats 800000 in
theorem rplace_any (w : World) (S : Nat → Prop) (v : Value) (p : Pool) (id : Int) (hS : ∀ b, S b → b < w.heap.size) (h : IsPool w S v p) (hi : IncK Dev.id dev0 p.devs) (hn : p.devs.length ≤ 1099511627776) :
    Calls Tryz.prog 55 #[v, .int .i64 id] w fun e w' => e = .returned (.int .i64 (placeI p id)) ∧ Below w.heap.size w w' := by
  obtain ⟨A, c, rfl, _, hr⟩ := h
  have hw1 : Below w.heap.size w (w.alloc (poolBox p A p.devs.length c)) := (Below.refl _ _).alloc (Nat.le_refl _) _
  have hp1 := PBox.new w p A p.devs.length c
  dsimp only [poolBox] at hw1
  have HAT := Lib.hid (fun k => placeI_at (id := id) (k := k) hi)
  have HNO := Lib.hid (placeI_no (p := p) (id := id))
  clear hi
  generalize hl0 : p.devs.length = n at *
  have hl := Lib.hid hl0
  clear hl0
  generalize placeI p id = r at *
  go_enter Tryz.func55, Tryz.ntmps55
  go_wp2_with fail
  go_loop [5] (fun i => ∃ k : Nat, k ≤ n ∧ i = .int .i64 k ∧ Hid (∀ j, j < k → (nth dev0 p.devs j).id ≠ id)) (fun i => n - (intOf i).toNat)
  case atStart => exact ⟨0, by omega, rfl, Lib.hid fun j hj => absurd hj (by omega)⟩
  case round =>
    obtain ⟨k, hk, rfl, HA⟩ := hrel
    obtain ⟨x0, x1, x2, x3, x4⟩ := hp1.cells
    by_cases hlt : k < n
    · obtain ⟨b, off, rfl, hb, hc⟩ := devs_cells hr (by rw [hl.out]; omega)
      obtain ⟨c0, _⟩ := hc k (by rw [hl.out]; omega)
      have hbs := hS b hb
      clear hc
      have d0 := (hw1.cell (p := ⟨b, off + k * 5, none⟩) hbs).trans c0
      by_cases hid : (nth dev0 p.devs k).id = id
      · have hbb : ((nth dev0 p.devs k).id == id) = true := by simp [hid]
        have HR := Lib.hid (HAT.out k hlt hid)
        clear hid HA
        generalize (nth dev0 p.devs k).id = d at *
        go_wp2_with fail
        go_ret
        exact ⟨by rw [HR.out]; rfl, hw1⟩
      · have hbb : ((nth dev0 p.devs k).id == id) = false := by simp [hid]
        have hA2 : ∀ j, j < k + 1 → (nth dev0 p.devs j).id ≠ id := fun j hj => by
          by_cases e : j = k
          · rw [e]; exact hid
          · exact HA.out j (by omega)
        have HA2 := Lib.hid hA2
        clear hid HA hA2
        generalize (nth dev0 p.devs k).id = d at *
        go_wp2_with fail
        go_round
        case rel => exact ⟨k + 1, by omega, by go_num, HA2⟩
        case measure => simp [intOf]; omega
    · have HR := Lib.hid (HNO.out (fun j hj => HA.out j (by omega)))
      clear HA
      go_wp2_with fail
      go_ret
      exact ⟨by rw [HR.out]; rfl, hw1⟩
end Go.Proofs.YtcdfbpdejbpgjaaGreat

/- append at devices, at mappings: which block the result lies in. Condition: the lists are within the reach. -/
namespace Go.Proofs.YtcdfbpdejbpgjaaGreat
open Go Go.RowKit

theorem step_append_optB {P : Program} {w : World} {ops : Array Oper} {o : Oper} {a : Act} {K : Act → World → Prop} {Q : Exit → Act → World → Prop} {F : Prop} {t e size bytes : Nat} {z : Value}
    (hu : P.underlying t = some (.slice e)) (hinfo : (P.info? e).map (fun i => (i.zero, i.size, i.bytes)) = some (some z, size, bytes)) (hz : z.cells.size = size) (hsz : 0 < size) (hby : 0 < bytes)
    (hg : o.guard = none) (s y : Operand) (hop : o.op = Op.call { callee := Callee.builtin Builtin.append, args := #[s, y], argTypes := #[t, t] })
    (base : Nat) (v : Value) (n : Nat) (xs : List Value) (hs : a.eval s = v) (hown : w.ownsRow base e size v n xs) (ad : Option Addr) (m c : Nat) (news : List Value) (hy : a.eval y = .slice ad m c)
    (hl : news.length = m * size) (hc : ∀ d, ad = some d → ∀ j u, news[j]? = some u → w.cell? (d.add j) = some u) (h1 : ∀ u ∈ news, u.oneCell' = true) (hb : (n + m) * bytes ≤ 140737488355328) (hbase : base ≤ w.heap.size) (hno : ad = none → m = 0)
    (hK : ∀ A cap w', w'.ownsRow base e size (.slice A (n + m) cap) (n + m) (xs ++ news) → w.grownBy w' v.ownBlock → (∀ x, (Value.slice A (n + m) cap).ownBlock = some x → v.ownBlock = some x ∨ x = w.heap.size) → K (a.put o.dst (.slice A (n + m) cap)) w') :
    if Region.wanted o (yielded ops a.tmps) = true then Oper.wp P o a w K Q else F := by
  have hw : Region.wanted o (yielded ops a.tmps) = true := by simp [Region.wanted, hg]
  rw [if_pos hw]
  obtain ⟨i0, hi, hz0, hz1, hz2⟩ := info_parts hinfo
  have hm : n + m ≤ maxLen := by
    have := Nat.mul_le_mul_left (n + m) hby
    unfold maxLen; omega
  cases ad with
  | some d =>
    obtain ⟨v', w', hr, h2, h3, _, h5⟩ := run_append_own_at (P := P) w base t o.type e i0 z size bytes hu hi hz0 hz1 hz2 hz hsz v n xs hown d m c news hl (hc d rfl) h1 hm hb hbase
    obtain ⟨A, cap, rfl, _⟩ := own_form0 h2
    unfold Oper.wp execOp
    simp only [hop, resolve, invoke, builtin, Sem.run_bind, Sem.run_pure, Result.andThen_ok, List.map_toArray, List.map_cons, List.map_nil, hs, hy, hr]
    refine hK A cap w' h2 h3 (fun x hx => ?_)
    rcases h5 with h5 | h5
    · exact .inl (h5 ▸ hx)
    · right
      rw [h5] at hx
      injection hx with hx
      exact hx.symm
  | none =>
    obtain rfl := hno rfl
    obtain rfl : news = [] := List.eq_nil_of_length_eq_zero (by omega)
    obtain ⟨A, cap, rfl, _⟩ := own_form0 hown
    have hKK := hK A cap w (by simpa using hown) (World.grownBy.refl w _) (fun x hx => .inl hx)
    have hrun := run_append_owned_nil (P := P) (w := w) base t o.type e i0 size hu hi _ n xs c hown
    unfold Oper.wp execOp
    simp only [hop, resolve, invoke, builtin, Sem.run_bind, Sem.run_pure, Result.andThen_ok, List.map_toArray, List.map_cons, List.map_nil, hs, hy, hrun]
    exact hKK
theorem wpList_append_optB {P : Program} {w : World} {ops : Array Oper} {rest : List Oper} {o : Oper} {a : Act} {Q : Exit → Act → World → Prop} {t e size bytes : Nat} {z : Value}
    (hu : P.underlying t = some (.slice e)) (hinfo : (P.info? e).map (fun i => (i.zero, i.size, i.bytes)) = some (some z, size, bytes)) (hz : z.cells.size = size) (hsz : 0 < size) (hby : 0 < bytes)
    (hg : o.guard = none) (s y : Operand) (hop : o.op = Op.call { callee := Callee.builtin Builtin.append, args := #[s, y], argTypes := #[t, t] })
    (base : Nat) (v : Value) (n : Nat) (xs : List Value) (hs : a.eval s = v) (hown : w.ownsRow base e size v n xs) (ad : Option Addr) (m c : Nat) (news : List Value) (hy : a.eval y = .slice ad m c)
    (hl : news.length = m * size) (hc : ∀ d, ad = some d → ∀ j u, news[j]? = some u → w.cell? (d.add j) = some u) (h1 : ∀ u ∈ news, u.oneCell' = true) (hb : (n + m) * bytes ≤ 140737488355328) (hbase : base ≤ w.heap.size) (hno : ad = none → m = 0)
    (hK : ∀ A cap w', w'.ownsRow base e size (.slice A (n + m) cap) (n + m) (xs ++ news) → w.grownBy w' v.ownBlock → (∀ x, (Value.slice A (n + m) cap).ownBlock = some x → v.ownBlock = some x ∨ x = w.heap.size) → wpList P ops Q rest (a.put o.dst (.slice A (n + m) cap)) w') :
    wpList P ops Q (o :: rest) a w := by
  refine wpList_plain hg fun K hKK => ?_
  have h := step_append_optB (ops := ops) (o := o) (a := a) (w := w) (K := K) (Q := Q) (F := False) hu hinfo hz hsz hby hg s y hop base v n xs hs hown ad m c news hy hl hc h1 hb hbase hno (fun A cap w' h2 h3 h4 => hKK _ _ (hK A cap w' h2 h3 h4))
  rw [if_pos (by simp [Region.wanted, hg])] at h
  exact h
theorem OwnDevs.insG {w w' : World} {base g' c' i n : Nat} {v u : Value} {l : List Dev} {M : Nat → Value} {xs : List Value} {d : Dev} (hrow0 : w.ownsRow base 36 5 v l.length xs)
    (hc : ∀ j, j < l.length → DevCells xs j (nth dev0 l j) (M j) ∧ OwnMaps w base (M j) (nth dev0 l j).maps ∧ (∀ g, (M j).ownBlock = some g → some g ≠ v.ownBlock))
    (hap : ∀ i j, i < l.length → j < l.length → i ≠ j → ∀ g, (M j).ownBlock = some g → some g ≠ (M i).ownBlock)
    (hi : i ≤ l.length) (hgrow : w.grownBy w' v.ownBlock) (hat : v.ownBlock = some g' ∨ w.heap.size ≤ g') (hn : n = l.length + 1)
    (hrow : w'.ownsRow base 36 5 (.slice (some ⟨g', 0, none⟩) n c') n (insC xs (i * 5) (devCs d u)))
    (hu : OwnMaps w base u d.maps) (huv : ∀ x, u.ownBlock = some x → some x ≠ v.ownBlock) (huM : ∀ j, j < l.length → ∀ x, u.ownBlock = some x → some x ≠ (M j).ownBlock) :
    OwnDevs w' base (.slice (some ⟨g', 0, none⟩) n c') (insAt l i d) (fun j => if j < i then M j else if j = i then u else M (j - 1)) := by
  have hx := own_len hrow0
  have hlen := insAt_length l i d hi
  have hM : ∀ j, j < l.length + 1 → OwnMaps w base (if j < i then M j else if j = i then u else M (j - 1)) (nth dev0 (insAt l i d) j).maps ∧ ∀ x, (if j < i then M j else if j = i then u else M (j - 1)).ownBlock = some x → some x ≠ v.ownBlock := by
    intro j hj
    rw [nth_insAt dev0 l i j d hi]
    by_cases h1 : j < i
    · simp only [if_pos h1]
      exact ⟨(hc j (by omega)).2.1, (hc j (by omega)).2.2⟩
    · simp only [if_neg h1]
      by_cases h2 : j = i
      · simp only [if_pos h2]
        exact ⟨hu, huv⟩
      · simp only [if_neg h2]
        exact ⟨(hc (j - 1) (by omega)).2.1, (hc (j - 1) (by omega)).2.2⟩
  refine ⟨insC xs (i * 5) (devCs d u), by rw [hlen, ← hn]; exact hrow, fun j hj => ?_, fun a b ha hb hab x hxb => ?_⟩
  · rw [hlen] at hj
    obtain ⟨m1, m2⟩ := hM j hj
    refine ⟨?_, m1.kept hgrow (by
      cases hb : (if j < i then M j else if j = i then u else M (j - 1)).ownBlock with
      | none => exact .inl rfl
      | some x => exact .inr (m2 x hb)), fun x hx' he => ?_⟩
    · have gt : ∀ r, r < 5 → (insC xs (i * 5) (devCs d u))[j * 5 + r]? = if j < i then xs[j * 5 + r]? else if j = i then (devCs d u)[r]? else xs[(j - 1) * 5 + r]? := fun r hr => insC_get hx rfl hi hr
      have g0 := gt 0 (by omega)
      rw [nth_insAt dev0 l i j d hi]
      unfold DevCells
      rw [gt 1 (by omega), gt 2 (by omega), gt 3 (by omega), gt 4 (by omega)]
      rw [Nat.add_zero] at g0
      rw [g0]
      by_cases h1 : j < i
      · simp only [if_pos h1]
        exact (hc j (by omega)).1
      · simp only [if_neg h1]
        by_cases h2 : j = i
        · simp only [if_pos h2]
          exact ⟨rfl, rfl, rfl, rfl, rfl⟩
        · simp only [if_neg h2]
          exact (hc (j - 1) (by omega)).1
    · have e : x = g' := by simpa [Value.ownBlock] using he
      rcases hat with h | h
      · exact m2 x hx' (by rw [h, e])
      · have := (m1.lt x hx').2
        omega
  · rw [hlen] at ha hb
    simp only at hxb ⊢
    -- the old index of a place
    by_cases a1 : a < i
    · rw [if_pos a1]
      by_cases b1 : b < i
      · rw [if_pos b1] at hxb; exact hap a b (by omega) (by omega) hab x hxb
      · rw [if_neg b1] at hxb
        by_cases b2 : b = i
        · rw [if_pos b2] at hxb; exact huM a (by omega) x hxb
        · rw [if_neg b2] at hxb; exact hap a (b - 1) (by omega) (by omega) (by omega) x hxb
    · rw [if_neg a1]
      by_cases a2 : a = i
      · rw [if_pos a2]
        intro he
        by_cases b1 : b < i
        · rw [if_pos b1] at hxb; exact huM b (by omega) x he.symm hxb.symm
        · rw [if_neg b1, if_neg (by omega)] at hxb; exact huM (b - 1) (by omega) x he.symm hxb.symm
      · rw [if_neg a2]
        by_cases b1 : b < i
        · rw [if_pos b1] at hxb; exact hap (a - 1) b (by omega) (by omega) (by omega) x hxb
        · rw [if_neg b1] at hxb
          by_cases b2 : b = i
          · rw [if_pos b2] at hxb; exact huM (a - 1) (by omega) x hxb
          · rw [if_neg b2] at hxb; exact hap (a - 1) (b - 1) (by omega) (by omega) (by omega) x hxb
/-- A device more, behind the others. -/
theorem OwnDevs.snoc {w w' : World} {base c' : Nat} {A' : Option Addr} {v u : Value} {l : List Dev} {M : Nat → Value} {xs : List Value} {d : Dev} (hrow0 : w.ownsRow base 36 5 v l.length xs)
    (hc : ∀ j, j < l.length → DevCells xs j (nth dev0 l j) (M j) ∧ OwnMaps w base (M j) (nth dev0 l j).maps ∧ (∀ g, (M j).ownBlock = some g → some g ≠ v.ownBlock))
    (hap : ∀ i j, i < l.length → j < l.length → i ≠ j → ∀ g, (M j).ownBlock = some g → some g ≠ (M i).ownBlock)
    (hgrow : w.grownBy w' v.ownBlock) (hat : ∀ x, (Value.slice A' (l.length + 1) c').ownBlock = some x → v.ownBlock = some x ∨ x = w.heap.size)
    (hrow : w'.ownsRow base 36 5 (.slice A' (l.length + 1) c') (l.length + 1) (xs ++ devCs d u))
    (hu : OwnMaps w base u d.maps) (huv : ∀ x, u.ownBlock = some x → some x ≠ v.ownBlock) (huM : ∀ j, j < l.length → ∀ x, u.ownBlock = some x → some x ≠ (M j).ownBlock) :
    OwnDevs w' base (.slice A' (l.length + 1) c') (l ++ [d]) (fun j => if j < l.length then M j else u) := by
  have hx := own_len hrow0
  obtain ⟨g, cap, hv, _⟩ := own_form hrow (by omega)
  obtain ⟨rfl, _, rfl⟩ : A' = some ⟨g, 0, none⟩ ∧ l.length + 1 = l.length + 1 ∧ c' = cap := by injection hv with h1 h2 h3; exact ⟨h1, rfl, h3⟩
  have e1 : insC xs (l.length * 5) (devCs d u) = xs ++ devCs d u := by
    unfold insC
    rw [List.take_of_length_le (by omega), List.drop_of_length_le (by omega)]
    simp
  have e2 : insAt l l.length d = l ++ [d] := by unfold insAt; simp
  have h := OwnDevs.ins (d := d) (u := u) (i := l.length) hrow0 hc hap (Nat.le_refl _) hgrow (hat g rfl) rfl (by rw [e1]; exact hrow) hu huv huM
  rw [e2] at h
  obtain ⟨ys, h1, h2, h3⟩ := h
  have hM : ∀ j, j < (l ++ [d]).length → (if j < l.length then M j else if j = l.length then u else M (j - 1)) = (if j < l.length then M j else u) := by
    intro j hj
    rw [List.length_append, List.length_singleton] at hj
    by_cases h : j < l.length
    · rw [if_pos h, if_pos h]
    · rw [if_neg h, if_neg h, if_pos (by omega)]
  refine ⟨ys, h1, fun j hj => ?_, fun i j hi hj hij => ?_⟩
  · have := h2 j hj
    simp only [hM j hj] at this
    exact this
  · have := h3 i j hi hj hij
    simp only [hM i hi, hM j hj] at this
    exact this
/-- append of one device that lies in a new block. -/
theorem wpList_append_dev {w : World} {ops : Array Oper} {rest : List Oper} {o : Oper} {a : Act} {Q : Exit → Act → World → Prop} (hg : o.guard = none) (s y : Operand) (hop : o.op = Op.call { callee := Callee.builtin Builtin.append, args := #[s, y], argTypes := #[22, 22] })
    (base : Nat) (v u : Value) (l : List Dev) (M : Nat → Value) (d : Dev) (n : Nat) (hn : l.length = n) (hs : a.eval s = v) (hown : OwnDevs w base v l M) (sz : Nat) (hwz : w.heap.size = sz) (hy : a.eval y = .slice (some ⟨sz, 0, none⟩) 1 1)
    (hu : OwnMaps w base u d.maps) (huv : ∀ x, u.ownBlock = some x → some x ≠ v.ownBlock) (huM : ∀ j, j < l.length → ∀ x, u.ownBlock = some x → some x ≠ (M j).ownBlock)
    (hb : n + 1 ≤ 1099511627776) (hbase : base ≤ w.heap.size)
    (hK : ∀ A cap w', OwnDevs w' base (.slice A (n + 1) cap) (l ++ [d]) (fun j => if j < n then M j else u) → w.grownBy w' v.ownBlock → wpList Tryz.prog ops Q rest (a.put o.dst (.slice A (n + 1) cap)) w') :
    wpList Tryz.prog ops Q (o :: rest) a (w.alloc (.cells (devCs d u).toArray 36)) := by
  subst hn hwz
  have hB : Below w.heap.size w (w.alloc (.cells (devCs d u).toArray 36)) := (Below.refl _ _).alloc (Nat.le_refl _) _
  obtain ⟨xs, hrow0, hc0, hap⟩ := hown.keep hB (Nat.le_refl _)
  obtain ⟨Au, cu, hul, _⟩ := hu.form
  have hu2 := own_below hu hB (fun g hg => (hu.lt g hg).2)
  refine wpList_append_optB Tryz.underlying22 info_dev rfl (by omega) (by omega) hg s y hop base v l.length xs hs hrow0 (some ⟨w.heap.size, 0, none⟩) 1 1 (devCs d u) hy (by rfl) (fun d' hd' => ?_) (fun x hx => ?_) (by omega) (by simp; omega) (fun h => by cases h) ?_
  · obtain rfl : _ = d' := by injection hd'
    exact new_cells w (devCs d u) _
  · simp only [devCs, List.mem_cons, List.not_mem_nil, or_false] at hx
    rcases hx with rfl | rfl | rfl | rfl | rfl
    · rfl
    · rfl
    · rfl
    · rfl
    · rw [hul]; rfl
  · intro A cap w' h2 h3 h4
    refine hK A cap w' (OwnDevs.snoc hrow0 hc0 hap h3 h4 h2 hu2 huv huM) (grown_new h3)
end Go.Proofs.YtcdfbpdejbpgjaaGreat

/- model.Apply, any op. Condition: the pool's numbers fit into Go's int. -/
namespace Go.Proofs.YtcdfbpdejbpgjaaGreat
open Go.RowKit
attribute [local go_sem] Oper.semAt_some

set_option maxRecDepth 100000 in
set_option maxHeartbeats 3200000 in
theorem apply_none (w : World) (S : Nat → Prop) (v : Value) (p : Pool) (o : Mop) (hS : ∀ b, S b → b < w.heap.size) (h : IsPool w S v p) (hok : p.ok) (hc : poolChk p = 0) (hfd : Instr.findNow (.int .i64) (.int .i64 o.kind) kAll.toList 0 = some none)
    (hk : doF p o = (1, p)) :
    Calls Tryz.prog 11 #[v, mopV o] w (ApIs w (applyF p o)) := by
  have hr : applyF p o = if (doF p o).1 ≠ 0 then ((doF p o).1, pool0) else (0, (doF p o).2) := by unfold applyF; rw [if_neg (by simpa using hc)]
  generalize applyF p o = r at *
  have HRR := Lib.hid hr
  have HCK := Lib.hid (fun w' (hB : Below w.heap.size w w') => check_any w' S v p (fun b hb => Nat.lt_of_lt_of_le (hS b hb) hB.size) (h.below hB hS) hok)
  rw [hc] at HCK
  obtain ⟨A, c, rfl, _, _⟩ := h
  have hB3 : Below w.heap.size w (((w.alloc (poolBox p A p.devs.length c)).alloc (opBox o)).alloc zeroBox) := (((Below.refl _ _).alloc (Nat.le_refl _) _).alloc (by simp) _).alloc (by simp; omega) _
  have hr3 : RBox (((w.alloc (poolBox p A p.devs.length c)).alloc (opBox o)).alloc zeroBox) (w.heap.size + 1 + 1) (.int .i64 0) (.int .i64 0) (.int .i64 0) (.int .i64 0) (.slice none 0 0) := by
    have := heap_alloc_new ((w.alloc (poolBox p A p.devs.length c)).alloc (opBox o)) zeroBox
    simp only [World.size_alloc] at this
    exact this
  have hm3 : MBox (((w.alloc (poolBox p A p.devs.length c)).alloc (opBox o)).alloc zeroBox) (w.heap.size + 1) o := by
    have := (MBox.new (w.alloc (poolBox p A p.devs.length c)) o).below ((Below.refl _ _).alloc (Nat.le_refl _) zeroBox) (MBox.new (w.alloc (poolBox p A p.devs.length c)) o).lt
    simp only [World.size_alloc] at this
    exact this
  have hp3 : PBox (((w.alloc (poolBox p A p.devs.length c)).alloc (opBox o)).alloc zeroBox) w.heap.size p A p.devs.length c :=
    (PBox.new w p A p.devs.length c).below (((Below.refl _ _).alloc (Nat.le_refl _) _).alloc (by simp) _) (by simp)
  have HR := Lib.hid (fun w' (hB : Below (w.heap.size + 3) (((w.alloc (poolBox p A p.devs.length c)).alloc (opBox o)).alloc zeroBox) w') => (⟨hr3.below hB (by omega), hm3.below hB (by omega), hp3.below hB (by omega)⟩ : RBox w' (w.heap.size + 1 + 1) (.int .i64 0) (.int .i64 0) (.int .i64 0) (.int .i64 0) (.slice none 0 0) ∧ MBox w' (w.heap.size + 1) o ∧ PBox w' w.heap.size p A p.devs.length c))
  have HB3 := Lib.hid hB3
  have hzs : (((w.alloc (poolBox p A p.devs.length c)).alloc (opBox o)).alloc zeroBox).heap.size = w.heap.size + 3 := by simp
  have HZS := Lib.hid hzs
  have HLK := Lib.hid (fun (w' : World) (r : Nat) (hb : w'.heap[r]? = some (.map kAll 7)) => run_lookK (P := Tryz.prog) (ok := false) (w := w') (z := .nilFunc) Tryz.underlying61 Tryz.underlying3 hb (by kernel_rfl) hfd rfl)
  clear hr3 hm3 hp3 hB3 hzs hr hfd
  dsimp only [poolBox, opBox, zeroBox] at HB3 HR HZS
  clear hok hS hc
  have HR1 := Lib.hid (show r = (1, pool0) by rw [HRR.out, hk]; rfl)
  clear HRR hk
  go_enter Tryz.func11, Tryz.ntmps11
  go_wp2_with (go_at_call 24; refine (HCK.out _ HB3.out).mono ?_; rintro e w4 ⟨rfl, hB4⟩; rw [HZS.out] at hB4; have hB4' : Below w.heap.size w w4 := HB3.out.trans (hB4.mono (by omega)); have hz4 := hB4.size; rw [HZS.out] at hz4)
  have hm4 := (HR.out _ hB4).2.1
  refine wp_region_till (T := fun _ => false) (S := fun w' => Below w4.heap.size w4 w') (by kernel_rfl) (Below.refl w4.heap.size w4).drew (fun hHeld => ?_)
  have hkr : Below w4.heap.size w4 w4.drew := (Below.refl w4.heap.size w4).drew
  refine wpTill_put 1 19 (oi := _) (v := ?_) rfl rfl (by kernel_rfl) (by kernel_rfl) (by kernel_rfl) (by kernel_rfl) (fun _ _ _ h => h) (by rfl) hHeld ?_ ?_
  rotate_left
  · (intro w hSw; go_simp; (try with_reducible rfl))
  (try simp only [Act.put, List.setIfInBounds_toArray, List.set_cons_zero, List.set_cons_succ])
  refine wpTill_put 2 20 (oi := _) (v := ?_) rfl rfl (by kernel_rfl) (by kernel_rfl) (by kernel_rfl) (by kernel_rfl) (fun _ _ _ h => h) (by rfl) hHeld ?_ ?_
  rotate_left
  · (intro w hSw; obtain ⟨y0, y1, y2, y3⟩ := (MBox.below hm4 hSw hm4.lt).cells; go_simp; (try with_reducible rfl))
  (try simp only [Act.put, List.setIfInBounds_toArray, List.set_cons_zero, List.set_cons_succ])
  refine wpTill_one 0 (o := _) (by kernel_rfl) rfl (fun K hK => ?_)
  go_simp
  refine (kinds_b _).mono ?_
  rintro e w5 ⟨rfl, hmp5, hB5⟩
  have hkr := hkr.trans (hB5.mono hkr.size)
  refine hK.out _ _ (fun _ => (Below.refl w4.heap.size w4).drew.trans (hB5.mono (Below.refl w4.heap.size w4).drew.size)) (fun _ => ?_)
  clear hK K hHeld
  (try simp only [Act.put, List.setIfInBounds_toArray, List.set_cons_zero, List.set_cons_succ])
  refine wpTill_more (S' := fun w' => Below w5.heap.size w5 w') (fun _ h => ((Below.refl w4.heap.size w4).drew.trans (hB5.mono (Below.refl w4.heap.size w4).drew.size)).trans (h.mono (hkr.size))) _ _ _ _ ?_
  have hHeld : (fun w' => Below w5.heap.size w5 w') w5 := Below.refl _ _
  refine wpTill_put 3 21 (oi := _) (v := ?_) rfl rfl (by kernel_rfl) (by kernel_rfl) (by kernel_rfl) (by kernel_rfl) (fun _ _ _ h => h) (by rfl) hHeld ?_ ?_
  rotate_left
  · (intro w hSw; have hlk := HLK.out w w4.heap.size ((hSw.block w4.heap.size (Array.getElem?_eq_some_iff.1 hmp5).1).trans hmp5); go_simp; (try with_reducible rfl))
  (try simp only [Act.put, List.setIfInBounds_toArray, List.set_cons_zero, List.set_cons_succ])
  refine wpTill_put 4 17 (oi := _) (v := ?_) rfl rfl (by kernel_rfl) (by kernel_rfl) (by kernel_rfl) (by kernel_rfl) (fun _ _ _ h => h) (by rfl) hHeld ?_ ?_
  rotate_left
  · (intro w hSw; go_simp; (try with_reducible rfl))
  (try simp only [Act.put, List.setIfInBounds_toArray, List.set_cons_zero, List.set_cons_succ])
  refine wpTill_put 5 22 (oi := _) (v := ?_) rfl rfl (by kernel_rfl) (by kernel_rfl) (by kernel_rfl) (by kernel_rfl) (fun _ _ _ h => h) (by rfl) hHeld ?_ ?_
  rotate_left
  · (intro w hSw; go_simp; (try with_reducible rfl))
  (try simp only [Act.put, List.setIfInBounds_toArray, List.set_cons_zero, List.set_cons_succ])
  refine wpTill_put 6 23 (oi := _) (v := ?_) rfl rfl (by kernel_rfl) (by kernel_rfl) (by kernel_rfl) (by kernel_rfl) (fun _ _ _ h => h) (by rfl) hHeld ?_ ?_
  rotate_left
  · (intro w hSw; go_simp; (try with_reducible rfl))
  (try simp only [Act.put, List.setIfInBounds_toArray, List.set_cons_zero, List.set_cons_succ])
  refine wpTill_put 7 7 (oi := _) (v := ?_) rfl rfl (by kernel_rfl) (by kernel_rfl) (by kernel_rfl) (by kernel_rfl) (fun _ _ _ h => h) (by rfl) hHeld ?_ ?_
  rotate_left
  · (intro w hSw; go_simp; (try with_reducible rfl))
  (try simp only [Act.put, List.setIfInBounds_toArray, List.set_cons_zero, List.set_cons_succ])
  refine wpTill_put 8 8 (oi := _) (v := ?_) rfl rfl (by kernel_rfl) (by kernel_rfl) (by kernel_rfl) (by kernel_rfl) (fun _ _ _ h => h) (by rfl) hHeld ?_ ?_
  rotate_left
  · (intro w hSw; go_simp; (try with_reducible rfl))
  (try simp only [Act.put, List.setIfInBounds_toArray, List.set_cons_zero, List.set_cons_succ])
  refine wpTill_done (by kernel_rfl) ?_ _
  have hk5 : Below w.heap.size w w5 := hB4'.trans (hkr.mono (by omega))
  have hB5 := hB4.trans (hkr.mono hz4)
  have hz5 := hk5.size
  obtain ⟨r5, m5, p5⟩ := HR.out _ hB5
  have hr8 := r5
  obtain ⟨x0, x1, x2, x3, x4⟩ := hr8.cells
  have f0 := hr8.free 0
  have f1 := hr8.free 1
  have f2 := hr8.free 2
  have f3 := hr8.free 3
  have f4 := hr8.free 4
  clear hm4 hkr
  go_wp2_with fail
  obtain ⟨q0, q1, q2, q3, q4⟩ := cells5 (set5 hr8 (.int .i64 0) (.int .i64 0) (.int .i64 0) (.int .i64 0) (.slice none 0 0))
  refine bodyPost_ret (v := .tuple #[.agg #[.int .i64 0, .int .i64 0, .int .i64 0, .int .i64 0, .slice none 0 0], .int .i64 1]) (by simp [results, Tryz.results11, go_sem, q0, q1, q2, q3, q4]) rfl ?_
  rw [HR1.out]
  exact ⟨_, rfl, pool0_at _ _, below5 hk5 (by omega) _ _ _ _ _⟩
theorem kfind_none {k : Int} (h1 : k ≠ 1) (h2 : k ≠ 2) (h3 : k ≠ 3) (h4 : k ≠ 4) (h5 : k ≠ 5) (h6 : k ≠ 6) (h7 : k ≠ 7) : Instr.findNow (.int .i64) (.int .i64 k) kAll.toList 0 = some none := by
  rw [kfind, if_neg h1, if_neg h2, if_neg h3, if_neg h4, if_neg h5, if_neg h6, if_neg h7]
theorem apply_any (w : World) (S : Nat → Prop) (v : Value) (p : Pool) (o : Mop) (hS : ∀ b, S b → b < w.heap.size) (h : IsPool w S v p) (hok : p.ok) :
    Calls Tryz.prog 11 #[v, mopV o] w (ApIs w (applyF p o)) := by
  by_cases hc : poolChk p = 0
  · by_cases h1 : o.kind = 1
    · have e : doF p o = createF p o := by unfold doF; rw [if_pos h1]
      exact apply_do w S v p o 45 0 hS h hok hc (by rw [kfind, if_pos h1]) (enters_of Tryz.func45 (by kernel_rfl) rfl) (fun w' base g hO hb => by rw [e]; exact create_any w' base g p o hO hc hb)
    by_cases h2 : o.kind = 2
    · have e : doF p o = snapF p o := by unfold doF; rw [if_neg h1, if_pos h2]
      exact apply_do w S v p o 46 1 hS h hok hc (by rw [kfind, if_neg h1, if_pos h2]) (enters_of Tryz.func46 (by kernel_rfl) rfl) (fun w' base g hO hb => by rw [e]; exact snap_any w' base g p o hO hc hb)
    by_cases h3 : o.kind = 3
    · have e : doF p o = removeF p o := by unfold doF; rw [if_neg h1, if_neg h2, if_pos h3]
      exact apply_do w S v p o 47 2 hS h hok hc (by rw [kfind, if_neg h1, if_neg h2, if_pos h3]) (enters_of Tryz.func47 (by kernel_rfl) rfl) (fun w' base g hO hb => by rw [e]; exact remove_any w' base g p o hO hc hb)
    by_cases h4 : o.kind = 4
    · have e : doF p o = writeF p o := by unfold doF; rw [if_neg h1, if_neg h2, if_neg h3, if_pos h4]
      exact apply_do w S v p o 48 3 hS h hok hc (by rw [kfind, if_neg h1, if_neg h2, if_neg h3, if_pos h4]) (enters_of Tryz.func48 (by kernel_rfl) rfl) (fun w' base g hO hb => by rw [e]; exact writes_any w' base g p o hO hc hb)
    by_cases h5 : o.kind = 5
    · have e : doF p o = discardF p o := by unfold doF; rw [if_neg h1, if_neg h2, if_neg h3, if_neg h4, if_pos h5]
      exact apply_do w S v p o 49 4 hS h hok hc (by rw [kfind, if_neg h1, if_neg h2, if_neg h3, if_neg h4, if_pos h5]) (enters_of Tryz.func49 (by kernel_rfl) rfl) (fun w' base g hO hb => by rw [e]; exact discard_any w' base g p o hO hc hb)
    by_cases h6 : o.kind = 6
    · have e : doF p o = tickF p := by unfold doF; rw [if_neg h1, if_neg h2, if_neg h3, if_neg h4, if_neg h5, if_pos h6]
      exact apply_do w S v p o 50 5 hS h hok hc (by rw [kfind, if_neg h1, if_neg h2, if_neg h3, if_neg h4, if_neg h5, if_pos h6]) (enters_of Tryz.func50 (by kernel_rfl) rfl) (fun w' base g hO hb => by rw [e]; exact tick_any w' base g p o hO hc hb)
    by_cases h7 : o.kind = 7
    · have e : doF p o = growF p o := by unfold doF; rw [if_neg h1, if_neg h2, if_neg h3, if_neg h4, if_neg h5, if_neg h6, if_pos h7]
      exact apply_do w S v p o 51 6 hS h hok hc (by rw [kfind, if_neg h1, if_neg h2, if_neg h3, if_neg h4, if_neg h5, if_neg h6, if_pos h7]) (enters_of Tryz.func51 (by kernel_rfl) rfl) (fun w' base g hO hb => by rw [e]; exact grow_any w' base g p o hO hc hb)
    · exact apply_none w S v p o hS h hok hc (kfind_none h1 h2 h3 h4 h5 h6 h7) (by unfold doF; rw [if_neg h1, if_neg h2, if_neg h3, if_neg h4, if_neg h5, if_neg h6, if_neg h7])
  · exact apply_bad w S v p o hS h hok hc
end Go.Proofs.YtcdfbpdejbpgjaaGreat

/- model.Apply where the op is done: what it returns is the caller's own. Condition: the pool's numbers fit into Go's int. -/
namespace Go.Proofs.YtcdfbpdejbpgjaaGreat
open Go.RowKit
attribute [local go_sem] Oper.semAt_some

/-- What Apply returned is the caller's own. -/
def ApOwn (w : World) (q : Pool) (e : Ending) (w' : World) : Prop := ∃ A c M, e = .returned (.tuple #[.agg #[.int .i64 q.tx, .int .i64 q.time, .int .i64 q.unit, .int .i64 q.data, .slice A q.devs.length c], .int .i64 0]) ∧ OwnDevs w' w.heap.size (.slice A q.devs.length c) q.devs M ∧ Below w.heap.size w w'
theorem OwnDevs.low {w : World} {base base' : Nat} {v : Value} {l : List Dev} {M : Nat → Value} (h : OwnDevs w base v l M) (hb : base' ≤ base) : OwnDevs w base' v l M := by
  obtain ⟨xs, hrow, hc, hap⟩ := h
  exact ⟨xs, own_low hrow hb, fun j hj => ⟨(hc j hj).1, own_low (hc j hj).2.1 hb, (hc j hj).2.2⟩, hap⟩
theorem OwnDevs.touch5 {w : World} {base b : Nat} {v : Value} {l : List Dev} {M : Nat → Value} (h : OwnDevs w base v l M) (hb : b < base) (u0 u1 u2 u3 u4 : Value) : OwnDevs (((((w.setCell ⟨b, 0, none⟩ u0).setCell ⟨b, 1, none⟩ u1).setCell ⟨b, 2, none⟩ u2).setCell ⟨b, 3, none⟩ u3).setCell ⟨b, 4, none⟩ u4) base v l M := by
  obtain ⟨xs, hrow, hc, hap⟩ := h
  exact ⟨xs, own5 hrow hb _ _ _ _ _, fun j hj => ⟨(hc j hj).1, own5 (hc j hj).2.1 hb _ _ _ _ _, (hc j hj).2.2⟩, hap⟩
set_option maxRecDepth 100000 in
set_option maxHeartbeats 6400000 in
theorem apply_done (w : World) (S : Nat → Prop) (v : Value) (p : Pool) (o : Mop) (f i : Nat) (hS : ∀ b, S b → b < w.heap.size) (h : IsPool w S v p) (hok : p.ok) (hc : poolChk p = 0) (hfd : Instr.findNow (.int .i64) (.int .i64 o.kind) kAll.toList 0 = some (some (i, .func (.func f) #[] #[])))
    (eg : ∀ args w, (callFunc f args).run Tryz.prog w = .ok (.enter f args) w) (hdo : ∀ w' base g, OwnP w' base g p → base ≤ w'.heap.size → Calls Tryz.prog f #[.pointer (some ⟨g, 0, none⟩), mopV o] w' (DoIs w' base g (doF p o))) (he : (doF p o).1 = 0) :
    Calls Tryz.prog 11 #[v, mopV o] w (ApOwn w (applyF p o).2) := by
  have hr : applyF p o = if (doF p o).1 ≠ 0 then ((doF p o).1, pool0) else (0, (doF p o).2) := by unfold applyF; rw [if_neg (by simpa using hc)]
  generalize applyF p o = r at *
  have HRR := Lib.hid hr
  have HCK := Lib.hid (fun w' (hB : Below w.heap.size w w') => check_any w' S v p (fun b hb => Nat.lt_of_lt_of_le (hS b hb) hB.size) (h.below hB hS) hok)
  rw [hc] at HCK
  have hln := pool_len hc
  have HCP := Lib.hid (fun w' (hB : Below w.heap.size w w') => copy_own w' S v p (fun b hb => Nat.lt_of_lt_of_le (hS b hb) hB.size) (h.below hB hS) (by omega) (fun k hk => by have := maps_len hc hk; omega))
  obtain ⟨A, c, rfl, _, _⟩ := h
  have hB3 : Below w.heap.size w (((w.alloc (poolBox p A p.devs.length c)).alloc (opBox o)).alloc zeroBox) := (((Below.refl _ _).alloc (Nat.le_refl _) _).alloc (by simp) _).alloc (by simp; omega) _
  have hr3 : RBox (((w.alloc (poolBox p A p.devs.length c)).alloc (opBox o)).alloc zeroBox) (w.heap.size + 1 + 1) (.int .i64 0) (.int .i64 0) (.int .i64 0) (.int .i64 0) (.slice none 0 0) := by
    have := heap_alloc_new ((w.alloc (poolBox p A p.devs.length c)).alloc (opBox o)) zeroBox
    simp only [World.size_alloc] at this
    exact this
  have hm3 : MBox (((w.alloc (poolBox p A p.devs.length c)).alloc (opBox o)).alloc zeroBox) (w.heap.size + 1) o := by
    have := (MBox.new (w.alloc (poolBox p A p.devs.length c)) o).below ((Below.refl _ _).alloc (Nat.le_refl _) zeroBox) (MBox.new (w.alloc (poolBox p A p.devs.length c)) o).lt
    simp only [World.size_alloc] at this
    exact this
  have hp3 : PBox (((w.alloc (poolBox p A p.devs.length c)).alloc (opBox o)).alloc zeroBox) w.heap.size p A p.devs.length c :=
    (PBox.new w p A p.devs.length c).below (((Below.refl _ _).alloc (Nat.le_refl _) _).alloc (by simp) _) (by simp)
  have HR := Lib.hid (fun w' (hB : Below (w.heap.size + 3) (((w.alloc (poolBox p A p.devs.length c)).alloc (opBox o)).alloc zeroBox) w') => (⟨hr3.below hB (by omega), hm3.below hB (by omega), hp3.below hB (by omega)⟩ : RBox w' (w.heap.size + 1 + 1) (.int .i64 0) (.int .i64 0) (.int .i64 0) (.int .i64 0) (.slice none 0 0) ∧ MBox w' (w.heap.size + 1) o ∧ PBox w' w.heap.size p A p.devs.length c))
  have HB3 := Lib.hid hB3
  have hzs : (((w.alloc (poolBox p A p.devs.length c)).alloc (opBox o)).alloc zeroBox).heap.size = w.heap.size + 3 := by simp
  have HZS := Lib.hid hzs
  have HDO := Lib.hid hdo
  have HLK := Lib.hid (fun (w' : World) (r : Nat) (hb : w'.heap[r]? = some (.map kAll 7)) => run_lookK (P := Tryz.prog) (ok := true) (w := w') (z := .nilFunc) Tryz.underlying61 Tryz.underlying3 hb (by kernel_rfl) hfd rfl)
  clear hr3 hm3 hp3 hB3 hzs hdo hr hfd
  dsimp only [poolBox, opBox, zeroBox] at HB3 HR HZS
  generalize hdd : doF p o = dd at *
  clear hdd hc
  clear hok hS
  obtain ⟨fe, d⟩ := dd
  dsimp only at he
  · subst he
    have HR1 := Lib.hid (show r = (0, d) by rw [HRR.out, if_neg (by simp)])
    clear HRR
    go_enter Tryz.func11, Tryz.ntmps11
    go_wp2_with (go_at_call 24; refine (HCK.out _ HB3.out).mono ?_; rintro e w4 ⟨rfl, hB4⟩; rw [HZS.out] at hB4; have hB4' : Below w.heap.size w w4 := HB3.out.trans (hB4.mono (by omega)); have hz4 := hB4.size; rw [HZS.out] at hz4)
    have hm4 := (HR.out _ hB4).2.1
    refine wp_region_till (T := fun _ => false) (S := fun w' => Below w4.heap.size w4 w') (by kernel_rfl) (Below.refl w4.heap.size w4).drew (fun hHeld => ?_)
    have hkr : Below w4.heap.size w4 w4.drew := (Below.refl w4.heap.size w4).drew
    refine wpTill_put 1 19 (oi := _) (v := ?_) rfl rfl (by kernel_rfl) (by kernel_rfl) (by kernel_rfl) (by kernel_rfl) (fun _ _ _ h => h) (by rfl) hHeld ?_ ?_
    rotate_left
    · (intro w hSw; go_simp; (try with_reducible rfl))
    (try simp only [Act.put, List.setIfInBounds_toArray, List.set_cons_zero, List.set_cons_succ])
    refine wpTill_put 2 20 (oi := _) (v := ?_) rfl rfl (by kernel_rfl) (by kernel_rfl) (by kernel_rfl) (by kernel_rfl) (fun _ _ _ h => h) (by rfl) hHeld ?_ ?_
    rotate_left
    · (intro w hSw; obtain ⟨y0, y1, y2, y3⟩ := (MBox.below hm4 hSw hm4.lt).cells; go_simp; (try with_reducible rfl))
    (try simp only [Act.put, List.setIfInBounds_toArray, List.set_cons_zero, List.set_cons_succ])
    refine wpTill_one 0 (o := _) (by kernel_rfl) rfl (fun K hK => ?_)
    go_simp
    refine (kinds_b _).mono ?_
    rintro e w5 ⟨rfl, hmp5, hB5⟩
    have hkr := hkr.trans (hB5.mono hkr.size)
    refine hK.out _ _ (fun _ => (Below.refl w4.heap.size w4).drew.trans (hB5.mono (Below.refl w4.heap.size w4).drew.size)) (fun _ => ?_)
    clear hK K hHeld
    (try simp only [Act.put, List.setIfInBounds_toArray, List.set_cons_zero, List.set_cons_succ])
    refine wpTill_more (S' := fun w' => Below w5.heap.size w5 w') (fun _ h => ((Below.refl w4.heap.size w4).drew.trans (hB5.mono (Below.refl w4.heap.size w4).drew.size)).trans (h.mono (hkr.size))) _ _ _ _ ?_
    have hHeld : (fun w' => Below w5.heap.size w5 w') w5 := Below.refl _ _
    refine wpTill_put 3 21 (oi := _) (v := ?_) rfl rfl (by kernel_rfl) (by kernel_rfl) (by kernel_rfl) (by kernel_rfl) (fun _ _ _ h => h) (by rfl) hHeld ?_ ?_
    rotate_left
    · (intro w hSw; have hlk := HLK.out w w4.heap.size ((hSw.block w4.heap.size (Array.getElem?_eq_some_iff.1 hmp5).1).trans hmp5); go_simp; (try with_reducible rfl))
    (try simp only [Act.put, List.setIfInBounds_toArray, List.set_cons_zero, List.set_cons_succ])
    refine wpTill_put 4 17 (oi := _) (v := ?_) rfl rfl (by kernel_rfl) (by kernel_rfl) (by kernel_rfl) (by kernel_rfl) (fun _ _ _ h => h) (by rfl) hHeld ?_ ?_
    rotate_left
    · (intro w hSw; go_simp; (try with_reducible rfl))
    (try simp only [Act.put, List.setIfInBounds_toArray, List.set_cons_zero, List.set_cons_succ])
    refine wpTill_put 5 22 (oi := _) (v := ?_) rfl rfl (by kernel_rfl) (by kernel_rfl) (by kernel_rfl) (by kernel_rfl) (fun _ _ _ h => h) (by rfl) hHeld ?_ ?_
    rotate_left
    · (intro w hSw; go_simp; (try with_reducible rfl))
    (try simp only [Act.put, List.setIfInBounds_toArray, List.set_cons_zero, List.set_cons_succ])
    refine wpTill_put 6 23 (oi := _) (v := ?_) rfl rfl (by kernel_rfl) (by kernel_rfl) (by kernel_rfl) (by kernel_rfl) (fun _ _ _ h => h) (by rfl) hHeld ?_ ?_
    rotate_left
    · (intro w hSw; go_simp; (try with_reducible rfl))
    (try simp only [Act.put, List.setIfInBounds_toArray, List.set_cons_zero, List.set_cons_succ])
    refine wpTill_put 7 7 (oi := _) (v := ?_) rfl rfl (by kernel_rfl) (by kernel_rfl) (by kernel_rfl) (by kernel_rfl) (fun _ _ _ h => h) (by rfl) hHeld ?_ ?_
    rotate_left
    · (intro w hSw; go_simp; (try with_reducible rfl))
    (try simp only [Act.put, List.setIfInBounds_toArray, List.set_cons_zero, List.set_cons_succ])
    refine wpTill_put 8 8 (oi := _) (v := ?_) rfl rfl (by kernel_rfl) (by kernel_rfl) (by kernel_rfl) (by kernel_rfl) (fun _ _ _ h => h) (by rfl) hHeld ?_ ?_
    rotate_left
    · (intro w hSw; go_simp; (try with_reducible rfl))
    (try simp only [Act.put, List.setIfInBounds_toArray, List.set_cons_zero, List.set_cons_succ])
    refine wpTill_done (by kernel_rfl) ?_ _
    have hk5 : Below w.heap.size w w5 := hB4'.trans (hkr.mono (by omega))
    have hB5 := hB4.trans (hkr.mono hz4)
    have hz5 := hk5.size
    obtain ⟨r5, m5, p5⟩ := HR.out _ hB5
    obtain ⟨x0, x1, x2, x3, x4⟩ := p5.cells
    have hm5l := m5.lt
    have hr5l : w.heap.size + 1 + 1 < w5.heap.size := (Array.getElem?_eq_some_iff.1 r5).1
    clear hm4 hkr
    go_wp2_with (go_at_call 26; refine (HCP.out _ hk5).mono ?_; rintro e w6 ⟨A6, c6, M6, rfl, ho6, hB6⟩; have hz6 := hB6.size; have hk6 := hk5.trans (hB6.mono hz5); clear x0 x1 x2 x3 x4; obtain ⟨y0, y1, y2, y3⟩ := (m5.below hB6 hm5l).cells; have hm6l : w.heap.size + 1 < w6.heap.size := (by omega); have hO6 := own_start ho6)
    refine (HDO.out _ _ _ hO6 (by simp; omega)).mono ?_
    rintro e w8 ⟨rfl, hB8, hO8⟩
    obtain ⟨A8, c8, M8, p8, hg8, od8, _⟩ := hO8 rfl
    have hkk : Below w.heap.size w w8 := (hk6.trans ((Below.refl _ _).alloc hk6.size _)).trans (hB8.mono (by omega))
    have hr8 := (r5.below hB6 hr5l).below (((Below.refl _ _).alloc hz6 _).trans hB8) hr5l
    have HOD := Lib.hid od8
    obtain ⟨x0, x1, x2, x3, x4⟩ := hr8.cells
    obtain ⟨u0, u1, u2, u3, u4⟩ := p8.cells
    have f0 := hr8.free 0
    have f1 := hr8.free 1
    have f2 := hr8.free 2
    have f3 := hr8.free 3
    have f4 := hr8.free 4
    obtain ⟨n8, hn8⟩ : ∃ n, d.devs.length = n := ⟨_, rfl⟩
    rw [hn8] at u4
    have HN8 := Lib.hid hn8
    clear hn8 y0 y1 y2 y3 od8
    go_wp2_with fail
    obtain ⟨q0, q1, q2, q3, q4⟩ := cells5 (set5 hr8 (.int .i64 d.tx) (.int .i64 d.time) (.int .i64 d.unit) (.int .i64 d.data) (.slice A8 n8 c8))
    refine bodyPost_ret (v := .tuple #[.agg #[.int .i64 d.tx, .int .i64 d.time, .int .i64 d.unit, .int .i64 d.data, .slice A8 n8 c8], .int .i64 0]) (by simp [results, Tryz.results11, go_sem, q0, q1, q2, q3, q4]) rfl ?_
    rw [HR1.out]
    have hod := HOD.out
    have hn8 := HN8.out
    subst hn8
    refine ⟨A8, c8, M8, rfl, ?_, below5 hkk (by omega) _ _ _ _ _⟩
    exact (hod.touch5 (by omega) _ _ _ _ _).low (by omega)
end Go.Proofs.YtcdfbpdejbpgjaaGreat

/- The reference's copied (scantlingref49): a pool in new memory. Condition: no slice is longer than the reach. -/
namespace Go.Proofs.YtcdfbpdejbpgjaaGreat
open Go.RowKit
attribute [local go_sem] Oper.semAt_some

theorem maps_src {w : World} {S : Nat → Prop} {A : Option Addr} {n c : Nat} {l : List Mp} (h : IsMaps w S (.slice A n c) l) :
    n = l.length ∧ (∀ d, A = some d → ∀ j u, (flats Mp.enc l)[j]? = some u → w.cell? (d.add j) = some u) ∧ (A = none → n = 0) := by
  obtain ⟨hn, hc, hr⟩ := IsSl.slice_ h
  refine ⟨hn, fun d hd j u hj => ?_, fun e => ?_⟩
  · subst hd
    obtain ⟨xs, hx, hcl⟩ := some_cellsOf hr
    rw [cells_flat Mp.enc_len hx] at hcl
    exact hcl j u hj
  · subst e
    rcases Nat.eq_zero_or_pos l.length with h0 | h0
    · omega
    · obtain ⟨_, _, e, _⟩ := hr h0
      cases e
/-- Block b holds just a device. -/
def DBox (w : World) (b : Nat) (d : Dev) (A : Option Addr) (c : Nat) : Prop := w.heap[b]? = some (.cells #[.int .i64 d.id, .int .i64 d.tx, .int .i64 d.made, .int .i64 d.snapped, .slice A d.maps.length c] 36 (0, 0))
theorem DBox.cells {w : World} {b : Nat} {d : Dev} {A : Option Addr} {c : Nat} (h : DBox w b d A c) : w.cell? ⟨b, 0, none⟩ = some (.int .i64 d.id) ∧ w.cell? ⟨b, 1, none⟩ = some (.int .i64 d.tx) ∧ w.cell? ⟨b, 2, none⟩ = some (.int .i64 d.made) ∧ w.cell? ⟨b, 3, none⟩ = some (.int .i64 d.snapped) ∧ w.cell? ⟨b, 4, none⟩ = some (.slice A d.maps.length c) := by
  unfold DBox at h
  simp [World.cell?, h]
theorem DBox.free {w : World} {b : Nat} {d : Dev} {A : Option Addr} {c : Nat} (h : DBox w b d A c) (i : Nat) : w.frozen? ⟨b, i, none⟩ = false := by unfold DBox at h; simp [World.frozen?, h]
theorem DBox.new (w : World) (d : Dev) (A : Option Addr) (c : Nat) : DBox (w.alloc (.cells #[.int .i64 d.id, .int .i64 d.tx, .int .i64 d.made, .int .i64 d.snapped, .slice A d.maps.length c] 36)) w.heap.size d A c := heap_alloc_new w _
theorem OwnDevs.far_low {w : World} {base : Nat} {v : Value} {l : List Dev} {M : Nat → Value} {x : Nat} (h : OwnDevs w base v l M) (hx : x < base) : Far v l M x :=
  ⟨fun e => by have := (h.lt.1 x e).1; omega, fun j hj e => by have := (h.lt.2 j hj x e).1; omega⟩
/-- Midway in a round: the device's box is made, its mappings are copied. -/
theorem copy_mid {wr w5 : World} {D : Obj} {base m c5 : Nat} {A5 : Option Addr} {ms : List Mp} (hm : ms.length = m)
    (hg5 : ((wr.alloc D).alloc (.cells #[] 40)).grownBy w5 (Value.slice (some ⟨wr.heap.size + 1, 0, none⟩) 0 0).ownBlock)
    (ho5 : w5.ownsRow base 40 3 (.slice A5 (0 + m) c5) (0 + m) ([] ++ flats Mp.enc ms))
    (hb5 : ∀ x, (Value.slice A5 (0 + m) c5).ownBlock = some x → (Value.slice (some ⟨wr.heap.size + 1, 0, none⟩) 0 0).ownBlock = some x ∨ x = ((wr.alloc D).alloc (.cells #[] 40)).heap.size) (u : Value) :
    Below wr.heap.size wr (w5.setCell ⟨wr.heap.size, 4, none⟩ u) ∧ OwnMaps (w5.setCell ⟨wr.heap.size, 4, none⟩ u) base (.slice A5 m c5) ms ∧ (∀ x, (Value.slice A5 m c5).ownBlock = some x → wr.heap.size < x) ∧ wr.heap.size + 2 ≤ w5.heap.size := by
  subst hm
  rw [Nat.zero_add, List.nil_append] at ho5
  rw [Nat.zero_add] at hb5
  have h2 : Below wr.heap.size wr ((wr.alloc D).alloc (.cells #[] 40)) := ((Below.refl _ _).alloc (Nat.le_refl _) _).alloc (by simp) _
  have h3 : ∀ x, (Value.slice A5 ms.length c5).ownBlock = some x → wr.heap.size < x := fun x hx => by
    rcases hb5 x hx with h | h
    · have : wr.heap.size + 1 = x := by simpa [Value.ownBlock] using h
      omega
    · simp at h; omega
  refine ⟨(h2.grown hg5 h2.size (fun k hk => by have : wr.heap.size + 1 = k := by simpa [Value.ownBlock] using hk
                                                omega)).setCell (p := ⟨wr.heap.size, 4, none⟩) (Nat.le_refl _) _, ho5.kept (grownBy_set w5 ⟨wr.heap.size, 4, none⟩ u) (.inr (fun e => by have h4 : wr.heap.size < wr.heap.size := h3 _ e; omega)), h3, ?_⟩
  have := hg5.size
  simp at this
  omega
theorem copy_back {wr w6 wm : World} {base : Nat} {v : Value} (hb : base ≤ wr.heap.size) (h : Below wr.heap.size wr wm) (hg : wm.grownBy w6 v.ownBlock) (hv : ∀ x, v.ownBlock = some x → base ≤ x ∧ x < wr.heap.size) : Below base wm w6 ∧ wm.heap.size ≤ w6.heap.size :=
  ⟨⟨hg.os, hg.tape, hg.output, hg.size, fun j hj => hg.block j (by have := h.size; omega) (fun e => by have := (hv j e.symm).1; omega)⟩, hg.size⟩
/-- A pool of the caller's own, by value. -/
def CopIs (w : World) (p : Pool) (e : Ending) (w' : World) : Prop := ∃ A c M, e = .returned (.agg #[.int .i64 p.tx, .int .i64 p.time, .int .i64 p.unit, .int .i64 p.data, .slice A p.devs.length c]) ∧ OwnDevs w' w.heap.size (.slice A p.devs.length c) p.devs M ∧ Below w.heap.size w w'
set_option maxRecDepth 100000 in
set_option maxHeartbeats 3200000 in
theorem copied_any (w : World) (S : Nat → Prop) (v : Value) (p : Pool) (hS : ∀ b, S b → b < w.heap.size) (h : IsPool w S v p) (hnd : p.devs.length ≤ 4096) (hmk : ∀ k, k < p.devs.length → (nth dev0 p.devs k).maps.length ≤ 16384) :
    Calls Tryz.prog 32 #[v] w (CopIs w p) := by
  obtain ⟨A, c, rfl, hc, hr⟩ := h
  have hB2 : Below w.heap.size w ((w.alloc (poolBox p A p.devs.length c)).alloc zeroBox) := ((Below.refl _ _).alloc (Nat.le_refl _) _).alloc (by simp) _
  have hp2 : PBox ((w.alloc (poolBox p A p.devs.length c)).alloc zeroBox) w.heap.size p A p.devs.length c := (PBox.new w p A p.devs.length c).below ((Below.refl _ _).alloc (Nat.le_refl _) _) (by simp)
  have hr2 : RBox ((w.alloc (poolBox p A p.devs.length c)).alloc zeroBox) (w.heap.size + 1) (.int .i64 0) (.int .i64 0) (.int .i64 0) (.int .i64 0) (.slice none 0 0) := by
    have := heap_alloc_new (w.alloc (poolBox p A p.devs.length c)) zeroBox
    simp only [World.size_alloc] at this
    exact this
  have hz2 : ((w.alloc (poolBox p A p.devs.length c)).alloc zeroBox).heap.size = w.heap.size + 2 := by simp
  dsimp only [poolBox, zeroBox] at hB2 hp2 hr2 hz2
  generalize hl0 : p.devs.length = n at *
  have hl := Lib.hid hl0
  have HMK := Lib.hid hmk
  clear hl0 hmk
  go_enter Tryz.func32, Tryz.ntmps32
  go_wp2_with fail
  generalize (w.alloc (.cells #[.int .i64 p.tx, .int .i64 p.time, .int .i64 p.unit, .int .i64 p.data, .slice A n c] 24)).alloc (.cells #[.int .i64 0, .int .i64 0, .int .i64 0, .int .i64 0, .slice none 0 0] 24) = w2 at *
  have HB2 := Lib.hid hB2
  have HZ2 := Lib.hid hz2
  clear hB2 hz2
  go_loopw [3, 4] (fun o i wr => ∃ k : Nat, i = .int .i64 k ∧ k ≤ n ∧ (∃ M, OwnDevs wr (w.heap.size + 2) o (p.devs.take k) M) ∧ Below (w.heap.size + 2) w2 wr ∧ w.heap.size + 2 ≤ wr.heap.size) (fun _ i _ => n - (intOf i).toNat)
  case atStart => exact ⟨0, rfl, by omega, ⟨fun _ => .slice none 0 0, [], World.ownsRow_nil _ _ _ _, fun j hj => by simp at hj, fun i j hi => by simp at hi⟩, Below.refl _ _, by have := HZ2.out; omega⟩
  case round =>
    obtain ⟨k, rfl, hk, ⟨M, hown⟩, hB, hz⟩ := hrel
    have hpr := hp2.below hB (by omega)
    have hrr := hr2.below hB (by omega)
    obtain ⟨x0, x1, x2, x3, x4⟩ := hpr.cells
    by_cases hlt : k < n
    · have hBw : Below w.heap.size w wr := HB2.out.trans (hB.mono (by omega))
      obtain ⟨b, off, rfl, hb, hcl⟩ := devs_cells (hr.keep rdev_stable (fun _ h => h) (keep_below hBw hS)) (by rw [hl.out]; omega)
      obtain ⟨c0, c1, c2, c3, A', c', c4, hc', hr'⟩ := hcl k (by rw [hl.out]; omega)
      have hbs := hS b hb
      have hmk := HMK.out k hlt
      clear hcl
      have hsrc := maps_src (A := A') (c := c') ⟨A', c', rfl, hc', hr'⟩
      have HMW := Lib.hid (⟨A', c', rfl, hc', hr'⟩ : IsMaps wr S (.slice A' (nth dev0 p.devs k).maps.length c') (nth dev0 p.devs k).maps)
      have HTK := Lib.hid (take_nth dev0 p.devs k (by rw [hl.out]; omega))
      have hkl : (p.devs.take k).length = k := by rw [List.length_take, hl.out]; omega
      have HKL := Lib.hid hkl
      have HOWN := Lib.hid hown
      have HLT := Lib.hid hown.lt
      obtain ⟨Ao, co, rfl⟩ : ∃ A c, u3 = .slice A (p.devs.take k).length c := by obtain ⟨xs, h1, _⟩ := hown; obtain ⟨A, c, h, _⟩ := own_form0 h1; exact ⟨A, c, h⟩
      clear hown hr' hc' hsrc
      generalize nth dev0 p.devs k = d at *
      have hBA : Below wr.heap.size wr ((wr.alloc (.cells #[.int .i64 d.id, .int .i64 d.tx, .int .i64 d.made, .int .i64 d.snapped, .slice A' d.maps.length c'] 36)).alloc (.cells #[] 40)) := ((Below.refl _ _).alloc (Nat.le_refl _) _).alloc (by simp) _
      have hsrc := maps_src (A := A') (c := c') (IsSl.keep rmp_stable HMW.out (fun _ h => h) (keep_below hBA (fun b hb => by have := hS b hb; omega)))
      rw [hkl] at HOWN HLT ⊢
      go_wp2_with (first
        | (at_builtin; have _ := hg5; go_loud (refine wpList_append_dev rfl _ _ rfl (w.heap.size + 2) (.slice Ao k co) (.slice A5 d.maps.length c5) (p.devs.take k) M d k HKL.out rfl (HOWN.out.keep HM.out.1 (Nat.le_refl _)) w5.heap.size (by simp) rfl HM.out.2.1 (fun x hx he => by have := HM.out.2.2.1 x hx; have := (HLT.out.1 x he.symm).2; omega) (fun j hj x hx he => by have := HM.out.2.2.1 x hx; have := (HLT.out.2 j (by rw [HKL.out] at hj; exact hj) x he.symm).2; omega) (by omega) (by simp; have := HM.out.2.2.2; omega) ?_); intro A6 c6 w6 ho6 hg6; have hB6 := copy_back hz HM.out.1 hg6 HLT.out.1)
        | (at_builtin; go_loud (refine wpList_append_optB Tryz.underlying34 info_map rfl (by omega) (by omega) rfl _ _ rfl (w.heap.size + 2) (.slice (some ⟨wr.heap.size + 1, 0, none⟩) 0 0) 0 [] rfl (by have h := World.ownsRow_made (base := w.heap.size + 2) (wr.alloc (.cells #[.int .i64 d.id, .int .i64 d.tx, .int .i64 d.made, .int .i64 d.snapped, .slice A' d.maps.length c'] 36)) #[] 0 (by simp; omega) (by simp [maxLen]) rfl (e := 40) (size := 3); simpa using h) A' d.maps.length c' (flats Mp.enc d.maps) rfl (by rw [flats_length Mp.enc_len]) hsrc.2.1 (maps_one _) (by omega) (by simp; omega) hsrc.2.2 ?_); intro A5 c5 w5 ho5 hg5 hb5; have hbx : DBox w5 wr.heap.size d A' c' := (hg5.block wr.heap.size (by simp; omega) (by simp [Value.ownBlock])).trans ((Below.heap_alloc _ _ _ (by simp)).trans (DBox.new wr d A' c')); obtain ⟨q0, q1, q2, q3, q4⟩ := hbx.cells; have fq := hbx.free 4; have HM := Lib.hid (copy_mid rfl hg5 ho5 hb5 (.slice A5 d.maps.length c5)); clear hb5))
      go_roundw
      case rel => exact ⟨k + 1, by go_num, by omega, ⟨_, by rw [HTK.out]; exact ho6⟩, (hB.trans (HM.out.1.mono hz)).trans hB6.1, by have := hB6.2; have := HM.out.1.size; omega⟩
      case measure => simp [intOf]; omega
    · obtain rfl : k = n := by omega
      have HOWN := Lib.hid hown
      obtain ⟨Ao, co, rfl⟩ : ∃ A c, u3 = .slice A (p.devs.take k).length c := by obtain ⟨xs, h1, _⟩ := hown; obtain ⟨A, c, h, _⟩ := own_form0 h1; exact ⟨A, c, h⟩
      have HFR := Lib.hid (fun i => hpr.free i)
      have hkl : (p.devs.take k).length = k := by rw [List.length_take, hl.out]; omega
      clear hown
      rw [hkl] at HOWN ⊢
      have f4 := HFR.out 4
      obtain ⟨z0, z1, z2, z3, z4⟩ := hrr.cells
      have g0 := hrr.free 0
      have g1 := hrr.free 1
      have g2 := hrr.free 2
      have g3 := hrr.free 3
      have g4 := hrr.free 4
      go_wp2_with fail
      have hrs : RBox (wr.setCell ⟨w.heap.size, 4, none⟩ (.slice Ao k co)) (w.heap.size + 1) (.int .i64 0) (.int .i64 0) (.int .i64 0) (.int .i64 0) (.slice none 0 0) := (Below.heap_setCell wr ⟨w.heap.size, 4, none⟩ _ (w.heap.size + 1) (by simp)).trans hrr
      obtain ⟨q0, q1, q2, q3, q4⟩ := cells5 (set5 hrs (.int .i64 p.tx) (.int .i64 p.time) (.int .i64 p.unit) (.int .i64 p.data) (.slice Ao k co))
      refine bodyPost_ret (v := .agg #[.int .i64 p.tx, .int .i64 p.time, .int .i64 p.unit, .int .i64 p.data, .slice Ao k co]) (by simp [results, Tryz.results32, go_sem, q0, q1, q2, q3, q4]) rfl ?_
      have hBw : Below w.heap.size w wr := HB2.out.trans (hB.mono (by omega))
      have hall := HOWN.out
      rw [List.take_of_length_le (by rw [hl.out]; omega)] at hall
      refine ⟨Ao, co, M, by rw [hl.out], ?_, below5 (hBw.setCell (p := ⟨w.heap.size, 4, none⟩) (Nat.le_refl _) _) (by omega) _ _ _ _ _⟩
      rw [hl.out]
      exact ((hall.kept (grownBy_set wr ⟨w.heap.size, 4, none⟩ _) (hall.far_low (by show w.heap.size < w.heap.size + 2; omega))).touch5 (by omega) _ _ _ _ _).low (by omega)
end Go.Proofs.YtcdfbpdejbpgjaaGreat

/- Regions that draw their order: two operations may come up. Words for a box that stays. No condition: for any program. -/
namespace Go.Proofs.YtcdfbpdejbpgjaaGreat
open Go Go.RowKit

section
variable {P : Program} {ops : Array Oper} {Q : Exit → Act → World → Prop} {md : Region.Mode} {S : World → Prop} {T : Nat → Bool}
/-- Two operations may come up. -/
theorem wpTill_two (i j : Nat) {oi oj : Oper} {n : Nat} {listed : Array Bool} {a : Act} {w : World} (hr : Region.ready md ops listed = [i, j]) (hi : ops[i]? = some oi) (hj : ops[j]? = some oj)
    (h1 : ∀ K' : Act → World → Prop, Hid (∀ a w, (T i = false → S w) → ((T i = false → S w) → wpTill P md ops Q T S n (listed.setIfInBounds i true) a w) → K' a w) → if Region.wanted oi (yielded ops a.tmps) = true then Oper.wp P oi a w K' Q else K' (a.put oi.dst undef) w)
    (h2 : ∀ K' : Act → World → Prop, Hid (∀ a w, (T j = false → S w) → ((T j = false → S w) → wpTill P md ops Q T S n (listed.setIfInBounds j true) a w) → K' a w) → if Region.wanted oj (yielded ops a.tmps) = true then Oper.wp P oj a w K' Q else K' (a.put oj.dst undef) w) :
    wpTill P md ops Q T S (n + 1) listed a w := by
  refine ⟨fun h0 => (by rw [h0] at hr; cases hr), fun x hx => ?_⟩
  rw [hr] at hx
  rcases List.mem_cons.1 hx with rfl | hx
  · exact wpOp_step hi (fun K' hK => h1 K' (Lib.hid fun a w g1 g2 => hK a w ⟨g1, g2 g1⟩))
  · obtain rfl : x = j := by simpa using hx
    exact wpOp_step hj (fun K' hK => h2 K' (Lib.hid fun a w g1 g2 => hK a w ⟨g1, g2 g1⟩))
end
section
variable {P : Program} {ops : Array Oper} {Q : Exit → Act → World → Prop} {md : Region.Mode} {S : World → Prop} {T : Nat → Bool}
/-- An operation that its guard strikes. -/
theorem wpTill_skip (i d : Nat) {oi : Oper} {n : Nat} {listed : Array Bool} {a : Act} {w : World} (hi : ops[i]? = some oi) (hd : oi.dst = some d)
    (hs : Region.noSelect ops = true) (hf : Region.free md ops listed i = true) (hr : (Region.ready md ops listed).contains i = true) (hT : waitB md ops T i = true)
    (hQ : ∀ c a w, Q (.panic c) (a.put oi.dst undef) w → Q (.panic c) a w) (hw : Region.wanted oi (yielded ops a.tmps) = false) (hS : S w)
    (h : wpTill P md ops Q T S n (listed.setIfInBounds i true) (a.put (some d) undef) w) : wpTill P md ops Q T S (n + 1) listed a w :=
  wpTill_first hi (Region.noSelect_spec hs) hQ hT n listed a w (Region.free_spec hi hf) (by simpa using hr) (.inr ⟨hw, rfl⟩) hS (by rw [hd]; exact h)
end
theorem box_up {w w' : World} {g : Nat} {o : Obj} (h : w.heap[g]? = some o) (hB : Below w.heap.size w w') : w'.heap[g]? = some o := (hB.block g (Array.getElem?_eq_some_iff.1 h).1).trans h
theorem box_lt {w : World} {g : Nat} {o : Obj} (h : w.heap[g]? = some o) : g < w.heap.size := (Array.getElem?_eq_some_iff.1 h).1
theorem free_of {w : World} {b : Nat} {cs : Array Value} {t : TypeId} (h : w.heap[b]? = some (.cells cs t (0, 0))) (i : Nat) : w.frozen? ⟨b, i, none⟩ = false := by simp [World.frozen?, h]
end Go.Proofs.YtcdfbpdejbpgjaaGreat

/- The reference's with (scantlingref49): a device more, in its place. Condition: the pool may be, and lies in memory of the call's own. -/
namespace Go.Proofs.YtcdfbpdejbpgjaaGreat
open Go.RowKit
attribute [local go_sem] Oper.semAt_some
set_option linter.unusedSimpArgs false
set_option linter.unusedVariables false

theorem made0 {w : World} {g base : Nat} {t : TypeId} {size : Nat} (h : w.heap[g]? = some (.cells #[] t)) (hb : base ≤ g) : w.ownsRow base t size (.slice (some ⟨g, 0, none⟩) 0 0) 0 [] :=
  ⟨by simp, .inr ⟨g, 0, #[], rfl, hb, h, Nat.le_refl _, by simp, by simp⟩⟩
theorem own_src {w : World} {base e size n k c : Nat} {A : Option Addr} {xs : List Value} (h : w.ownsRow base e size (.slice A n c) k xs) : (∀ d, A = some d → ∀ j u, xs[j]? = some u → w.cell? (d.add j) = some u) ∧ (A = none → n = 0) := by
  have hx := own_len h
  rcases h.2 with ⟨hv, h0⟩ | ⟨g, cap, cur, hv, _⟩
  · injection hv with e1 e2 e3
    subst h0
    have : xs = [] := List.eq_nil_of_length_eq_zero (by omega)
    subst this
    exact ⟨fun d _ j u hj => by simp at hj, fun _ => e2⟩
  · injection hv with e1 e2 e3
    subst e1
    refine ⟨fun d hd j u hj => ?_, fun e => by cases e⟩
    obtain rfl : _ = d := by injection hd
    rw [add_lit, Nat.zero_add]
    have hj2 := (List.getElem?_eq_some_iff.1 hj).1
    have h' : w.ownsRow base e size (.slice (some ⟨g, 0, none⟩) n c) k xs := h
    obtain rfl : n = k := own_n h'
    rw [h'.cellAt j (by omega)]
    exact hj
theorem own_kept5 {w : World} {b base e size : Nat} {v : Value} {n : Nat} {xs : List Value} (h : w.ownsRow base e size v n xs) (hb : v.ownBlock ≠ some b) (u0 u1 u2 u3 u4 : Value) :
    (((((w.setCell ⟨b, 0, none⟩ u0).setCell ⟨b, 1, none⟩ u1).setCell ⟨b, 2, none⟩ u2).setCell ⟨b, 3, none⟩ u3).setCell ⟨b, 4, none⟩ u4).ownsRow base e size v n xs :=
  ((((h.kept (grownBy_set _ ⟨b, 0, none⟩ _) (.inr hb)).kept (grownBy_set _ ⟨b, 1, none⟩ _) (.inr hb)).kept (grownBy_set _ ⟨b, 2, none⟩ _) (.inr hb)).kept (grownBy_set _ ⟨b, 3, none⟩ _) (.inr hb)).kept (grownBy_set _ ⟨b, 4, none⟩ _) (.inr hb)
theorem devCs_one (d : Dev) (A : Option Addr) (n c : Nat) : ∀ u ∈ devCs d (.slice A n c), u.oneCell' = true := by
  intro u hu
  simp only [devCs, List.mem_cons, List.not_mem_nil, or_false] at hu
  rcases hu with rfl | rfl | rfl | rfl | rfl <;> rfl
theorem DBox.below8 {w w' : World} {b : Nat} {d : Dev} {A : Option Addr} {c : Nat} (hB : Below w.heap.size w w') (h : DBox w b d A c) : DBox w' b d A c := box_up h hB
theorem new_src (w : World) (cs : List Value) (e : TypeId) : ∀ d, some (⟨w.heap.size, 0, none⟩ : Addr) = some d → ∀ j u, cs[j]? = some u → (w.alloc (.cells cs.toArray e)).cell? (d.add j) = some u := fun d hd => by
  obtain rfl : _ = d := by injection hd
  exact new_cells w cs e
/-- Where the new device comes to stand. -/
theorem with_pos {p : Pool} {id : Int} (hi : IncK Dev.id dev0 p.devs) (hh : dhas p id = false) {i : Nat} (hle : i ≤ p.devs.length) (h1 : 0 < i → (nth dev0 p.devs (i - 1)).id ≤ id) (h2 : ∀ j, i ≤ j → j < p.devs.length → id < (nth dev0 p.devs j).id) : i = dpos p id := by
  refine posK_of (d := dev0) hle (fun j hj => ?_) (fun h => by have := h2 i (Nat.le_refl _) h; omega)
  have h3 := hi.mono (i := j) (j := i - 1) (by omega) (by omega)
  have h4 := h1 (by omega)
  rcases Int.lt_or_eq_of_le (Int.le_trans h3 h4) with h | h
  · exact h
  · have : dhas p id = true := (hasK_iff (d := dev0)).2 ⟨j, by omega, h⟩
    rw [this] at hh
    cases hh
/-- What with's first statement leaves: the new device in a box, its mappings copied. -/
def NewDevAt (w0 wx : World) (base g : Nat) (d : Dev) (A : Option Addr) (c : Nat) : Prop :=
  DBox wx g d A c ∧ OwnMaps wx base (.slice A d.maps.length c) d.maps ∧ (Value.slice A d.maps.length c).ownBlock ≠ some g ∧ (∀ x, (Value.slice A d.maps.length c).ownBlock = some x → w0.heap.size ≤ x) ∧ Below w0.heap.size w0 wx ∧ w0.heap.size ≤ g
/-- The devices are copied into a new row. -/
theorem row_mid {wc w8 : World} {base m c8 : Nat} {A8 : Option Addr} {xs : List Value} (hg8 : (wc.alloc (.cells #[] 36)).grownBy w8 (Value.slice (some ⟨wc.heap.size, 0, none⟩) 0 0).ownBlock) (ho8 : w8.ownsRow base 36 5 (.slice A8 (0 + m) c8) (0 + m) ([] ++ xs))
    (hb8 : ∀ x, (Value.slice A8 (0 + m) c8).ownBlock = some x → (Value.slice (some ⟨wc.heap.size, 0, none⟩) 0 0).ownBlock = some x ∨ x = (wc.alloc (.cells #[] 36)).heap.size) :
    Below wc.heap.size wc w8 ∧ w8.ownsRow base 36 5 (.slice A8 m c8) m xs ∧ ∀ x, (Value.slice A8 m c8).ownBlock = some x → wc.heap.size ≤ x := by
  rw [Nat.zero_add, List.nil_append] at ho8
  rw [Nat.zero_add] at hb8
  have h2 : Below wc.heap.size wc (wc.alloc (.cells #[] 36)) := (Below.refl _ _).alloc (Nat.le_refl _) _
  refine ⟨h2.grown hg8 h2.size (fun k hk => by have : wc.heap.size = k := by simpa [Value.ownBlock] using hk
                                               omega), ho8, fun x hx => ?_⟩
  rcases hb8 x hx with h | h
  · have : wc.heap.size = x := by simpa [Value.ownBlock] using h
    omega
  · simp at h; omega
/-- The new device stands behind them. -/
theorem row_end {wc w8 w9 : World} {o : Obj} {base n c8 c9 : Nat} {A8 A9 : Option Addr} {ys : List Value} (hB : Below wc.heap.size wc w8) (hlo : ∀ x, (Value.slice A8 n c8).ownBlock = some x → wc.heap.size ≤ x) (hg9 : (w8.alloc o).grownBy w9 (Value.slice A8 n c8).ownBlock)
    (ho9 : w9.ownsRow base 36 5 (.slice A9 (n + 1) c9) (n + 1) ys) (hb9 : ∀ x, (Value.slice A9 (n + 1) c9).ownBlock = some x → (Value.slice A8 n c8).ownBlock = some x ∨ x = (w8.alloc o).heap.size) :
    Below wc.heap.size wc w9 ∧ ∃ g9, A9 = some ⟨g9, 0, none⟩ ∧ wc.heap.size ≤ g9 ∧ n + 1 ≤ c9 := by
  have hz := hB.size
  refine ⟨(hB.alloc hz o).grown hg9 (by simp; omega) (fun k hk => hlo k hk), ?_⟩
  obtain ⟨g9, cap, hv, _, _, hnc⟩ := own_form ho9 (by omega)
  injection hv with e1 e2 e3
  subst e1 e3
  refine ⟨g9, rfl, ?_, hnc⟩
  rcases hb9 g9 rfl with h | h
  · exact hlo g9 h
  · simp at h; omega
/-- The cells of the row while the new device goes down. -/
theorem down_cells {w : World} {base g n c i : Nat} {xs cs : List Value} (h : w.ownsRow base 36 5 (.slice (some ⟨g, 0, none⟩) (n + 1) c) (n + 1) (insC xs (i * 5) cs)) (hx : xs.length = n * 5) (hc : cs.length = 5) (hi : i ≤ n) :
    (∀ r, r < 5 → w.cell? ⟨g, i * 5 + r, none⟩ = cs[r]?) ∧ ∀ j r, j < i → r < 5 → w.cell? ⟨g, j * 5 + r, none⟩ = xs[j * 5 + r]? := by
  refine ⟨fun r hr => ?_, fun j r hj hr => ?_⟩
  · rw [h.cellAt (i * 5 + r) (by omega), insC_get hx hc hi hr, if_neg (by omega), if_pos rfl]
  · rw [h.cellAt (j * 5 + r) (by omega), insC_get hx hc hi hr, if_pos hj]
theorem len_addF (p : Pool) (id : Int) (maps : List Mp) {n : Nat} (h : p.devs.length = n) : (addF p id maps).devs.length = n + 1 := by
  subst h
  exact insAt_length _ _ _ posK_le
def WithIs (w : World) (base n : Nat) (M : Nat → Value) (q : Pool) (e : Ending) (w' : World) : Prop :=
  ∃ A c M', e = .returned (.agg #[.int .i64 q.tx, .int .i64 q.time, .int .i64 q.unit, .int .i64 q.data, .slice A q.devs.length c]) ∧ OwnDevs w' base (.slice A q.devs.length c) q.devs M' ∧ Below w.heap.size w w' ∧
    (∀ x, (Value.slice A q.devs.length c).ownBlock = some x → w.heap.size ≤ x) ∧ ∀ j x, (M' j).ownBlock = some x → (∃ k, k < n ∧ (M k).ownBlock = some x) ∨ w.heap.size ≤ x
theorem with_ret {w wr : World} {base n c9 g9 : Nat} {M M' : Nat → Value} {q : Pool} (hq : q.devs.length = n + 1) (hown : OwnDevs wr base (.slice (some ⟨g9, 0, none⟩) (n + 1) c9) q.devs M') (hM : ∀ j x, (M' j).ownBlock = some x → (∃ k, k < n ∧ (M k).ownBlock = some x) ∨ w.heap.size + 2 ≤ x) (hB : Below w.heap.size w wr) (hold : ∀ k, k < n → ∀ x, (M k).ownBlock = some x → x < w.heap.size)
    (hg9 : w.heap.size + 2 ≤ g9) (W : World) (hW : (((((wr.setCell ⟨w.heap.size, 4, none⟩ (.slice (some ⟨g9, 0, none⟩) (n + 1) c9)).setCell ⟨w.heap.size + 1, 0, none⟩ (.int .i64 q.tx)).setCell ⟨w.heap.size + 1, 1, none⟩ (.int .i64 q.time)).setCell ⟨w.heap.size + 1, 2, none⟩ (.int .i64 q.unit)).setCell ⟨w.heap.size + 1, 3, none⟩ (.int .i64 q.data)).setCell ⟨w.heap.size + 1, 4, none⟩ (.slice (some ⟨g9, 0, none⟩) (n + 1) c9) = W) :
    WithIs w base n M q (.returned (.agg #[.int .i64 q.tx, .int .i64 q.time, .int .i64 q.unit, .int .i64 q.data, .slice (some ⟨g9, 0, none⟩) (n + 1) c9])) W := by
  subst hW
  have hfar : ∀ b, w.heap.size ≤ b → b < w.heap.size + 2 → Far (.slice (some ⟨g9, 0, none⟩) (n + 1) c9) q.devs M' b := fun b h1 h2 => by
    refine ⟨fun e => by have e2 : g9 = b := by simpa [Value.ownBlock] using e
                        omega, fun j _ e => ?_⟩
    rcases hM j b e with ⟨k, hk, h⟩ | h
    · have := hold k hk b h; omega
    · omega
  refine ⟨some ⟨g9, 0, none⟩, c9, M', by rw [hq], ?_, below5 (hB.setCell (p := ⟨w.heap.size, 4, none⟩) (Nat.le_refl _) _) (by omega) _ _ _ _ _, fun x hx => ?_, fun j x hx => ?_⟩
  · rw [hq]
    have f1 := hfar (w.heap.size + 1) (by omega) (by omega)
    exact (((((hown.kept (grownBy_set _ ⟨w.heap.size, 4, none⟩ _) (hfar w.heap.size (by omega) (by omega))).kept (grownBy_set _ ⟨w.heap.size + 1, 0, none⟩ _) f1).kept (grownBy_set _ ⟨w.heap.size + 1, 1, none⟩ _) f1).kept (grownBy_set _ ⟨w.heap.size + 1, 2, none⟩ _) f1).kept (grownBy_set _ ⟨w.heap.size + 1, 3, none⟩ _) f1).kept (grownBy_set _ ⟨w.heap.size + 1, 4, none⟩ _) f1
  · have e2 : g9 = x := by simpa [Value.ownBlock] using hx
    omega
  · rcases hM j x hx with h | h
    · exact .inl h
    · exact .inr (by omega)
/-- The end: the devices lie in the new row, each with its mappings. -/
theorem with_fin {w wc wr : World} {base n c c9 g9 i : Nat} {p : Pool} {A : Option Addr} {M : Nat → Value} {xs : List Value} {id : Int} {maps : List Mp} {u : Value} (hn : p.devs.length = n) (hbase : base ≤ w.heap.size) (hrow0 : wc.ownsRow base 36 5 (.slice A n c) n xs)
    (hc : ∀ j, j < p.devs.length → DevCells xs j (nth dev0 p.devs j) (M j) ∧ OwnMaps wc base (M j) (nth dev0 p.devs j).maps ∧ (∀ g, (M j).ownBlock = some g → some g ≠ (Value.slice A n c).ownBlock)) (hap : ∀ i j, i < p.devs.length → j < p.devs.length → i ≠ j → ∀ g, (M j).ownBlock = some g → some g ≠ (M i).ownBlock)
    (hu : OwnMaps wc (w.heap.size + 2) u maps) (hul : ∀ x, u.ownBlock = some x → w.heap.size + 2 ≤ x ∧ x ≠ g9) (hM : ∀ j, j < n → ∀ x, (M j).ownBlock = some x → x < w.heap.size) (hv : ∀ x, (Value.slice A n c).ownBlock = some x → x < w.heap.size) (hg9 : wc.heap.size ≤ g9)
    (hrow : wr.ownsRow (w.heap.size + 2) 36 5 (.slice (some ⟨g9, 0, none⟩) (n + 1) c9) (n + 1) (insC xs (i * 5) (devCs (newDev p id maps) u))) (hB : Below wc.heap.size wc wr) (hi : i ≤ n) (hp : i = dpos p id) :
    ∃ M', OwnDevs wr base (.slice (some ⟨g9, 0, none⟩) (n + 1) c9) (addF p id maps).devs M' ∧ (∀ j x, (M' j).ownBlock = some x → (∃ k, k < n ∧ (M k).ownBlock = some x) ∨ w.heap.size + 2 ≤ x) := by
  subst hn hp
  have hg : wc.grownBy wr (Value.slice A p.devs.length c).ownBlock := ⟨hB.os, hB.tape, hB.output, hB.size, fun j hj _ => hB.block j hj⟩
  have h := OwnDevs.insG (d := newDev p id maps) (u := u) (i := dpos p id) hrow0 hc hap hi hg (.inr hg9) rfl (own_low hrow (by omega)) (own_low hu (by omega)) (fun x hx e => by have := hul x hx; have := hv x e.symm; omega) (fun j hj x hx e => by have := hul x hx; have := hM j hj x e.symm; omega)
  refine ⟨fun j => if j < dpos p id then M j else if j = dpos p id then u else if j - 1 < p.devs.length then M (j - 1) else .slice none 0 0, ?_, fun j x hx => ?_⟩
  · obtain ⟨ys, h1, h2, h3⟩ := h
    have hlen : (insAt p.devs (dpos p id) (newDev p id maps)).length = p.devs.length + 1 := insAt_length _ _ _ hi
    have hMM : ∀ j, j < (insAt p.devs (dpos p id) (newDev p id maps)).length → (if j < dpos p id then M j else if j = dpos p id then u else if j - 1 < p.devs.length then M (j - 1) else .slice none 0 0) = (if j < dpos p id then M j else if j = dpos p id then u else M (j - 1)) := by
      intro j hj
      by_cases a : j < dpos p id
      · rw [if_pos a, if_pos a]
      · rw [if_neg a, if_neg a]
        by_cases b : j = dpos p id
        · rw [if_pos b, if_pos b]
        · rw [if_neg b, if_neg b, if_pos (by omega)]
    refine ⟨ys, h1, fun j hj => ?_, fun a b ha hb hab => ?_⟩
    · have := h2 j hj
      simp only [← hMM j hj] at this
      exact this
    · have := h3 a b ha hb hab
      simp only [← hMM a ha, ← hMM b hb] at this
      exact this
  · simp only at hx
    split at hx
    · exact .inl ⟨j, by omega, hx⟩
    · split at hx
      · exact .inr (hul x hx).1
      · split at hx
        · exact .inl ⟨j - 1, by assumption, hx⟩
        · cases hx
theorem set5_get (L : List Value) (m j r : Nat) (a b c d e : Value) (hl : m * 5 + 5 ≤ L.length) (hr : r < 5) : (((((L.set (m * 5) a).set (m * 5 + 1) b).set (m * 5 + 2) c).set (m * 5 + 3) d).set (m * 5 + 4) e)[j * 5 + r]? = if j = m then [a, b, c, d, e][r]? else L[j * 5 + r]? := by
  by_cases h : j = m
  · subst h
    rw [if_pos rfl]
    rcases (show r = 0 ∨ r = 1 ∨ r = 2 ∨ r = 3 ∨ r = 4 by omega) with rfl | rfl | rfl | rfl | rfl
    · rw [List.getElem?_set_ne (by omega), List.getElem?_set_ne (by omega), List.getElem?_set_ne (by omega), List.getElem?_set_ne (by omega), Nat.add_zero, List.getElem?_set_self (by omega)]; rfl
    · rw [List.getElem?_set_ne (by omega), List.getElem?_set_ne (by omega), List.getElem?_set_ne (by omega), List.getElem?_set_self (by rw [List.length_set]; omega)]; rfl
    · rw [List.getElem?_set_ne (by omega), List.getElem?_set_ne (by omega), List.getElem?_set_self (by rw [List.length_set, List.length_set]; omega)]; rfl
    · rw [List.getElem?_set_ne (by omega), List.getElem?_set_self (by rw [List.length_set, List.length_set, List.length_set]; omega)]; rfl
    · rw [List.getElem?_set_self (by rw [List.length_set, List.length_set, List.length_set, List.length_set]; omega)]; rfl
  · rw [if_neg h, List.getElem?_set_ne (by omega), List.getElem?_set_ne (by omega), List.getElem?_set_ne (by omega), List.getElem?_set_ne (by omega), List.getElem?_set_ne (by omega)]
theorem down_list {xs : List Value} {n k : Nat} {a b c d e a' b' c' d' e' : Value} (hx : xs.length = n * 5) (hk : k + 1 ≤ n) (h0 : xs[k * 5]? = some a') (h1 : xs[k * 5 + 1]? = some b') (h2 : xs[k * 5 + 2]? = some c') (h3 : xs[k * 5 + 3]? = some d') (h4 : xs[k * 5 + 4]? = some e') :
    ((((((((((insC xs ((k + 1) * 5) [a, b, c, d, e]).set ((k + 1) * 5) a').set ((k + 1) * 5 + 1) b').set ((k + 1) * 5 + 2) c').set ((k + 1) * 5 + 3) d').set ((k + 1) * 5 + 4) e').set (k * 5) a).set (k * 5 + 1) b).set (k * 5 + 2) c).set (k * 5 + 3) d).set (k * 5 + 4) e = insC xs (k * 5) [a, b, c, d, e] := by
  have hl : ∀ i, i ≤ n → (insC xs (i * 5) [a, b, c, d, e]).length = n * 5 + 5 := fun i hi => by unfold insC; simp; omega
  apply List.ext_getElem?
  intro t
  rcases Nat.lt_or_ge t (n * 5 + 5) with ht | ht
  · obtain ⟨j, r, hr, rfl⟩ : ∃ j r, r < 5 ∧ t = j * 5 + r := ⟨t / 5, t % 5, Nat.mod_lt _ (by omega), by omega⟩
    rw [set5_get _ k j r a b c d e (by simp only [List.length_set]; rw [hl _ hk]; omega) hr, set5_get _ (k + 1) j r a' b' c' d' e' (by rw [hl _ hk]; omega) hr, insC_get hx rfl hk hr, insC_get hx rfl (by omega) hr]
    by_cases e1 : j = k
    · subst e1; rw [if_pos rfl, if_neg (by omega), if_pos rfl]
    · rw [if_neg e1]
      by_cases e2 : j = k + 1
      · subst e2
        rw [if_pos rfl, if_neg (by omega), if_neg (by omega), Nat.add_sub_cancel]
        rcases (show r = 0 ∨ r = 1 ∨ r = 2 ∨ r = 3 ∨ r = 4 by omega) with rfl | rfl | rfl | rfl | rfl
        · rw [Nat.add_zero, h0]; rfl
        · rw [h1]; rfl
        · rw [h2]; rfl
        · rw [h3]; rfl
        · rw [h4]; rfl
      · rw [if_neg e2]
        by_cases e3 : j < k
        · rw [if_pos (by omega), if_pos e3]
        · rw [if_neg (by omega), if_neg e2, if_neg e3, if_neg e1]
  · rw [List.getElem?_eq_none (by simp only [List.length_set]; rw [hl _ hk]; omega), List.getElem?_eq_none (by rw [hl _ (by omega)]; omega)]
theorem down_step {w : World} {base g n c k : Nat} {xs : List Value} {l : List Dev} {M : Nat → Value} {nd y : Dev} {u v' : Value} (h : w.ownsRow base 36 5 (.slice (some ⟨g, 0, none⟩) (n + 1) c) (n + 1) (insC xs ((k + 1) * 5) (devCs nd u))) (hx : xs.length = n * 5) (hk : k + 1 ≤ n) (hd : DevCells xs k y (M k)) (_hy : nth dev0 l k = y) (hv : M k = v') (o : Obj) :
    (((((((((((w.setCell ⟨g, (k + 1) * 5, none⟩ (.int .i64 y.id)).setCell ⟨g, (k + 1) * 5 + 1, none⟩ (.int .i64 y.tx)).setCell ⟨g, (k + 1) * 5 + 2, none⟩ (.int .i64 y.made)).setCell ⟨g, (k + 1) * 5 + 3, none⟩ (.int .i64 y.snapped)).setCell ⟨g, (k + 1) * 5 + 4, none⟩ v').setCell ⟨g, k * 5, none⟩ (.int .i64 nd.id)).setCell ⟨g, k * 5 + 1, none⟩ (.int .i64 nd.tx)).setCell ⟨g, k * 5 + 2, none⟩ (.int .i64 nd.made)).setCell ⟨g, k * 5 + 3, none⟩ (.int .i64 nd.snapped)).setCell ⟨g, k * 5 + 4, none⟩ u).alloc o).ownsRow base 36 5 (.slice (some ⟨g, 0, none⟩) (n + 1) c) (n + 1) (insC xs (k * 5) (devCs nd u)) := by
  obtain ⟨d0, d1, d2, d3, d4⟩ := hd
  have e := down_list (a := .int .i64 nd.id) (b := .int .i64 nd.tx) (c := .int .i64 nd.made) (d := .int .i64 nd.snapped) (e := u) hx hk d0 d1 d2 d3 (by rw [d4, hv])
  have hs := ((((((((((h.stored ((k + 1) * 5) (.int .i64 y.id)).1.stored ((k + 1) * 5 + 1) (.int .i64 y.tx)).1.stored ((k + 1) * 5 + 2) (.int .i64 y.made)).1.stored ((k + 1) * 5 + 3) (.int .i64 y.snapped)).1.stored ((k + 1) * 5 + 4) v').1.stored (k * 5) (.int .i64 nd.id)).1.stored (k * 5 + 1) (.int .i64 nd.tx)).1.stored (k * 5 + 2) (.int .i64 nd.made)).1.stored (k * 5 + 3) (.int .i64 nd.snapped)).1.stored (k * 5 + 4) u).1
  have e' : _ = insC xs (k * 5) (devCs nd u) := e
  rw [← e']
  exact hs.alloc o
theorem down_below {wc w : World} {g : Nat} (h : Below wc.heap.size wc w) (hg : wc.heap.size ≤ g) (i0 i1 : Nat) (a b c d e a' b' c' d' e' : Value) (o : Obj) :
    Below wc.heap.size wc (((((((((((w.setCell ⟨g, i0, none⟩ a).setCell ⟨g, i0 + 1, none⟩ b).setCell ⟨g, i0 + 2, none⟩ c).setCell ⟨g, i0 + 3, none⟩ d).setCell ⟨g, i0 + 4, none⟩ e).setCell ⟨g, i1, none⟩ a').setCell ⟨g, i1 + 1, none⟩ b').setCell ⟨g, i1 + 2, none⟩ c').setCell ⟨g, i1 + 3, none⟩ d').setCell ⟨g, i1 + 4, none⟩ e').alloc o) := by
  have h1 : ∀ {w : World} (i : Nat) (u : Value), Below wc.heap.size wc w → Below wc.heap.size wc (w.setCell ⟨g, i, none⟩ u) := fun i u hh => hh.setCell (p := ⟨g, i, none⟩) hg u
  have h2 := h1 (i1 + 4) e' (h1 (i1 + 3) d' (h1 (i1 + 2) c' (h1 (i1 + 1) b' (h1 i1 a' (h1 (i0 + 4) e (h1 (i0 + 3) d (h1 (i0 + 2) c (h1 (i0 + 1) b (h1 i0 a h)))))))))
  exact h2.alloc h2.size o
set_option maxRecDepth 100000 in
set_option maxHeartbeats 3200000 in
theorem with_any (w : World) (base c cm : Nat) (p : Pool) (A Am : Option Addr) (M : Nat → Value) (S : Nat → Prop) (id : Int) (maps : List Mp) (hS : ∀ b, S b → b < w.heap.size) (h3 : OwnDevs w base (.slice A p.devs.length c) p.devs M) (hb : base ≤ w.heap.size) (hm : IsMaps w S (.slice Am maps.length cm) maps) (hnd : p.devs.length ≤ 4096) (hml : maps.length ≤ 16384) (hi : IncK Dev.id dev0 p.devs) (hh : dhas p id = false) :
    Calls Tryz.prog 80 #[.agg #[.int .i64 p.tx, .int .i64 p.time, .int .i64 p.unit, .int .i64 p.data, .slice A p.devs.length c], .int .i64 id, .slice Am maps.length cm] w (WithIs w base p.devs.length M (addF p id maps)) := by
  have hB2 : Below w.heap.size w ((w.alloc (poolBox p A p.devs.length c)).alloc zeroBox) := ((Below.refl _ _).alloc (Nat.le_refl _) _).alloc (by simp) _
  have hp2 : PBox ((w.alloc (poolBox p A p.devs.length c)).alloc zeroBox) w.heap.size p A p.devs.length c := (PBox.new w p A p.devs.length c).below ((Below.refl _ _).alloc (Nat.le_refl _) _) (by simp)
  have hr2 : RBox ((w.alloc (poolBox p A p.devs.length c)).alloc zeroBox) (w.heap.size + 1) (.int .i64 0) (.int .i64 0) (.int .i64 0) (.int .i64 0) (.slice none 0 0) := by
    have := heap_alloc_new (w.alloc (poolBox p A p.devs.length c)) zeroBox
    simp only [World.size_alloc] at this
    exact this
  have hz2 : ((w.alloc (poolBox p A p.devs.length c)).alloc zeroBox).heap.size = w.heap.size + 2 := by simp
  dsimp only [poolBox, zeroBox] at hB2 hp2 hr2 hz2
  have HMS := Lib.hid (fun w' (hB : Below w.heap.size w w') => IsSl.keep rmp_stable hm (fun _ h => h) (keep_below hB hS))
  have HML := Lib.hid (flats_length Mp.enc_len maps)
  clear hm
  have HPOS := Lib.hid (fun i => with_pos (p := p) (id := id) (i := i) hi hh)
  clear hi hh
  generalize hl0 : p.devs.length = n at *
  have hl := Lib.hid hl0
  clear hl0
  go_enter Tryz.func80, Tryz.ntmps80
  go_wp2_with fail
  generalize (w.alloc (.cells #[.int .i64 p.tx, .int .i64 p.time, .int .i64 p.unit, .int .i64 p.data, .slice A n c] 24)).alloc (.cells #[.int .i64 0, .int .i64 0, .int .i64 0, .int .i64 0, .slice none 0 0] 24) = w2 at *
  go_cut [7] (fun s7 wx => ∃ g A5 c5, s7 = .pointer (some ⟨g, 0, none⟩) ∧ NewDevAt w2 wx (w.heap.size + 2) g (newDev p id maps) A5 c5)
  case first =>
    refine wp_region_till (T := fun _ => false) (S := fun w' => Below w2.heap.size w2 w') (by kernel_rfl) (Below.refl w2.heap.size w2).drew (fun hHeld => ?_)
    obtain ⟨w101, hw0⟩ : ∃ x, w2.drew = x := ⟨_, rfl⟩
    rw [hw0] at hHeld ⊢
    have hkA : Below w2.heap.size w2 w101 := hHeld
    clear hHeld hw0
    refine wpTill_put 0 11 (oi := _) (v := ?_) rfl rfl (by kernel_rfl) (by kernel_rfl) (by kernel_rfl) (by kernel_rfl) (fun _ _ _ h => h) (by rfl) hkA ?_ ?_
    rotate_left
    · (intro w2' hSw; go_simp; (try with_reducible rfl))
    (try simp only [Act.put, List.setIfInBounds_toArray, List.set_cons_zero, List.set_cons_succ])
    refine wpTill_put 1 12 (oi := _) (v := ?_) rfl rfl (by kernel_rfl) (by kernel_rfl) (by kernel_rfl) (by kernel_rfl) (fun _ _ _ h => h) (by rfl) hkA ?_ ?_
    rotate_left
    · (intro w2' hSw; go_simp; (try with_reducible rfl))
    (try simp only [Act.put, List.setIfInBounds_toArray, List.set_cons_zero, List.set_cons_succ])
    refine wpTill_put 2 13 (oi := _) (v := ?_) rfl rfl (by kernel_rfl) (by kernel_rfl) (by kernel_rfl) (by kernel_rfl) (fun _ _ _ h => h) (by rfl) hkA ?_ ?_
    rotate_left
    · (intro w2' hSw; obtain ⟨x0, x1, x2, x3, x4⟩ := (hp2.below hSw hp2.lt).cells; go_simp; (try with_reducible rfl))
    (try simp only [Act.put, List.setIfInBounds_toArray, List.set_cons_zero, List.set_cons_succ])
    refine wpTill_put 3 14 (oi := _) (v := ?_) rfl rfl (by kernel_rfl) (by kernel_rfl) (by kernel_rfl) (by kernel_rfl) (fun _ _ _ h => h) (by rfl) hkA ?_ ?_
    rotate_left
    · (intro w2' hSw; go_simp; (try with_reducible rfl))
    (try simp only [Act.put, List.setIfInBounds_toArray, List.set_cons_zero, List.set_cons_succ])
    refine wpTill_put 4 15 (oi := _) (v := ?_) rfl rfl (by kernel_rfl) (by kernel_rfl) (by kernel_rfl) (by kernel_rfl) (fun _ _ _ h => h) (by rfl) hkA ?_ ?_
    rotate_left
    · (intro w2' hSw; obtain ⟨x0, x1, x2, x3, x4⟩ := (hp2.below hSw hp2.lt).cells; go_simp; (try with_reducible rfl))
    (try simp only [Act.put, List.setIfInBounds_toArray, List.set_cons_zero, List.set_cons_succ])
    refine wpTill_put 5 16 (oi := _) (v := ?_) rfl rfl (by kernel_rfl) (by kernel_rfl) (by kernel_rfl) (by kernel_rfl) (fun _ _ _ h => h) (by rfl) hkA ?_ ?_
    rotate_left
    · (intro w2' hSw; go_simp; (try with_reducible rfl))
    (try simp only [Act.put, List.setIfInBounds_toArray, List.set_cons_zero, List.set_cons_succ])
    refine wpTill_put 6 17 (oi := _) (v := ?_) rfl rfl (by kernel_rfl) (by kernel_rfl) (by kernel_rfl) (by kernel_rfl) (fun _ _ _ h => h) (by rfl) hkA ?_ ?_
    rotate_left
    · (intro w2' hSw; obtain ⟨x0, x1, x2, x3, x4⟩ := (hp2.below hSw hp2.lt).cells; go_simp; (try with_reducible rfl))
    (try simp only [Act.put, List.setIfInBounds_toArray, List.set_cons_zero, List.set_cons_succ])
    refine wpTill_put 8 19 (oi := _) (v := ?_) rfl rfl (by kernel_rfl) (by kernel_rfl) (by kernel_rfl) (by kernel_rfl) (fun _ _ _ h => h) (by rfl) hkA ?_ ?_
    rotate_left
    · (intro w2' hSw; go_simp; (try with_reducible rfl))
    (try simp only [Act.put, List.setIfInBounds_toArray, List.set_cons_zero, List.set_cons_succ])
    refine wpTill_two 7 11 (oi := _) (oj := _) (by kernel_rfl) rfl rfl (fun K hK => ?_) (fun K hK => ?_)
    · skip
      go_simp
      obtain ⟨w102, hwn⟩ : ∃ x, w101.alloc (.cells #[] 40) = x := ⟨_, rfl⟩
      have hBn : Below w101.heap.size w101 w102 := by rw [← hwn]; exact (Below.refl _ _).alloc (Nat.le_refl _) _
      have b7 : w102.heap[w101.heap.size]? = some (.cells #[] 40) := by rw [← hwn]; exact heap_alloc_new w101 _
      have hge7 := hkA.size
      have hz7 : w101.heap.size < w102.heap.size := by rw [← hwn]; simp
      have hkA := hkA.trans (hBn.mono hkA.size)
      rw [hwn]
      clear hwn hBn
      refine hK.out _ _ (fun _ => hkA) (fun _ => ?_)
      clear hK K
      (try simp only [Act.put, List.setIfInBounds_toArray, List.set_cons_zero, List.set_cons_succ])
      refine wpTill_two 9 11 (oi := _) (oj := _) (by kernel_rfl) rfl rfl (fun K hK => ?_) (fun K hK => ?_)
      · skip
        have hsr := maps_src (HMS.out w102 (hB2.trans (hkA.mono (by omega))))
        have hzz := box_lt b7
        have hzA := hkA.size
        refine step_append_optB Tryz.underlying34 info_map rfl (by omega) (by omega) rfl (.tmp 18) (.tmp 19) rfl (w.heap.size + 2) (.slice (some ⟨w101.heap.size, 0, none⟩) 0 0) 0 [] rfl (made0 b7 (by omega)) Am maps.length cm (flats Mp.enc maps) rfl HML.out hsr.2.1 (maps_one _) (by omega) (by omega) hsr.2.2 ?_
        intro A5 c5 w103 ho9 hg9 hb9
        rw [Nat.zero_add, List.nil_append] at ho9
        rw [Nat.zero_add] at hb9
        have hlo : ∀ x, (Value.slice A5 maps.length c5).ownBlock = some x → w101.heap.size ≤ x := fun x hx => by
          rcases hb9 x hx with h | h
          · have : w101.heap.size = x := by simpa [Value.ownBlock] using h
            omega
          · omega
        have hkA := hkA.grown hg9 hkA.size (fun x hx => by have : w101.heap.size = x := by simpa [Value.ownBlock] using hx
                                                           omega)
        clear hsr hb9 hg9
        refine hK.out _ _ (fun _ => hkA) (fun _ => ?_)
        clear hK K
        (try simp only [Act.put, List.setIfInBounds_toArray, List.set_cons_zero, List.set_cons_succ])
        refine wpTill_put 10 21 (oi := _) (v := ?_) rfl rfl (by kernel_rfl) (by kernel_rfl) (by kernel_rfl) (by kernel_rfl) (fun _ _ _ h => h) (by rfl) hkA ?_ ?_
        rotate_left
        · (intro w2' hSw; go_simp; (try with_reducible rfl))
        (try simp only [Act.put, List.setIfInBounds_toArray, List.set_cons_zero, List.set_cons_succ])
        refine wpTill_one 11 (o := _) (by kernel_rfl) rfl (fun K hK => ?_)
        go_simp
        obtain ⟨w104, hwn⟩ : ∃ x, w103.alloc (.cells #[.int .i64 0, .int .i64 0, .int .i64 0, .int .i64 0, .slice none 0 0] 36) = x := ⟨_, rfl⟩
        have hBn : Below w103.heap.size w103 w104 := by rw [← hwn]; exact (Below.refl _ _).alloc (Nat.le_refl _) _
        have b11 : w104.heap[w103.heap.size]? = some (.cells #[.int .i64 0, .int .i64 0, .int .i64 0, .int .i64 0, .slice none 0 0] 36) := by rw [← hwn]; exact heap_alloc_new w103 _
        have hge11 := hkA.size
        have hz11 : w103.heap.size < w104.heap.size := by rw [← hwn]; simp
        have hkA := hkA.trans (hBn.mono hkA.size)
        rw [hwn]
        have hne := (show (Value.slice A5 maps.length c5).ownBlock ≠ some (w103.heap.size) from fun e => by have h1 := (ho9.lt _ e).2; omega)
        have ho9 := own_below ho9 hBn (fun x hx => (ho9.lt x hx).2)
        clear hwn hBn
        refine hK.out _ _ (fun _ => hkA) (fun _ => ?_)
        clear hK K
        (try simp only [Act.put, List.setIfInBounds_toArray, List.set_cons_zero, List.set_cons_succ])
        refine wpTill_one 12 (o := _) (by kernel_rfl) rfl (fun K hK => ?_)
        obtain ⟨z0, z1, z2, z3, z4⟩ := cells5 b11
        have f0 := free_of b11 0
        have f1 := free_of b11 1
        have f2 := free_of b11 2
        have f3 := free_of b11 3
        have f4 := free_of b11 4
        go_simp
        obtain ⟨w105, hwn⟩ : ∃ x, (((((w104.setCell ⟨w103.heap.size, 0, none⟩ (.int .i64 id)).setCell ⟨w103.heap.size, 1, none⟩ (.int .i64 p.tx)).setCell ⟨w103.heap.size, 2, none⟩ (.int .i64 p.time)).setCell ⟨w103.heap.size, 3, none⟩ (.int .i64 p.time)).setCell ⟨w103.heap.size, 4, none⟩ (.slice A5 maps.length c5)) = x := ⟨_, rfl⟩
        have hD : NewDevAt w2 w105 (w.heap.size + 2) (w103.heap.size) (newDev p id maps) A5 c5 := by
          rw [← hwn]
          exact ⟨set5 b11 _ _ _ _ _, own_kept5 ho9 hne _ _ _ _ _, hne, fun x hx => by have := hlo x hx; omega, below5 hkA (by omega) _ _ _ _ _, by omega⟩
        have hkA := hD.2.2.2.2.1
        rw [hwn]
        clear z0 z1 z2 z3 z4 f0 f1 f2 f3 f4 hwn
        refine hK.out _ _ (fun _ => hkA) (fun _ => ?_)
        clear hK K
        (try simp only [Act.put, List.setIfInBounds_toArray, List.set_cons_zero, List.set_cons_succ])
        refine wpTill_done (by kernel_rfl) ?_ _
        go_wp2_with fail
        go_meet
        exact ⟨_, _, _, rfl, hD⟩
      · skip
        go_simp
        obtain ⟨w106, hwn⟩ : ∃ x, w102.alloc (.cells #[.int .i64 0, .int .i64 0, .int .i64 0, .int .i64 0, .slice none 0 0] 36) = x := ⟨_, rfl⟩
        have hBn : Below w102.heap.size w102 w106 := by rw [← hwn]; exact (Below.refl _ _).alloc (Nat.le_refl _) _
        have b11 : w106.heap[w102.heap.size]? = some (.cells #[.int .i64 0, .int .i64 0, .int .i64 0, .int .i64 0, .slice none 0 0] 36) := by rw [← hwn]; exact heap_alloc_new w102 _
        have hge11 := hkA.size
        have hz11 : w102.heap.size < w106.heap.size := by rw [← hwn]; simp
        have hkA := hkA.trans (hBn.mono hkA.size)
        rw [hwn]
        have b7 := box_up b7 hBn
        clear hwn hBn
        refine hK.out _ _ (fun _ => hkA) (fun _ => ?_)
        clear hK K
        (try simp only [Act.put, List.setIfInBounds_toArray, List.set_cons_zero, List.set_cons_succ])
        refine wpTill_one 9 (o := _) (by kernel_rfl) rfl (fun K hK => ?_)
        have hsr := maps_src (HMS.out w106 (hB2.trans (hkA.mono (by omega))))
        have hzz := box_lt b7
        have hzA := hkA.size
        have hzb := box_lt b11
        refine step_append_optB Tryz.underlying34 info_map rfl (by omega) (by omega) rfl (.tmp 18) (.tmp 19) rfl (w.heap.size + 2) (.slice (some ⟨w101.heap.size, 0, none⟩) 0 0) 0 [] rfl (made0 b7 (by omega)) Am maps.length cm (flats Mp.enc maps) rfl HML.out hsr.2.1 (maps_one _) (by omega) (by omega) hsr.2.2 ?_
        intro A5 c5 w107 ho9 hg9 hb9
        rw [Nat.zero_add, List.nil_append] at ho9
        rw [Nat.zero_add] at hb9
        have hlo : ∀ x, (Value.slice A5 maps.length c5).ownBlock = some x → w101.heap.size ≤ x := fun x hx => by
          rcases hb9 x hx with h | h
          · have : w101.heap.size = x := by simpa [Value.ownBlock] using h
            omega
          · omega
        have hne : (Value.slice A5 maps.length c5).ownBlock ≠ some (w102.heap.size) := fun e => by
          rcases hb9 _ e with h | h
          · have : w101.heap.size = w102.heap.size := by simpa [Value.ownBlock] using h
            omega
          · omega
        have b11 := (hg9.block _ (box_lt b11) (fun e => by have : w102.heap.size = w101.heap.size := by simpa [Value.ownBlock] using e
                                                           omega)).trans b11
        have hkA := hkA.grown hg9 hkA.size (fun x hx => by have : w101.heap.size = x := by simpa [Value.ownBlock] using hx
                                                           omega)
        clear hsr hb9 hg9
        refine hK.out _ _ (fun _ => hkA) (fun _ => ?_)
        clear hK K
        (try simp only [Act.put, List.setIfInBounds_toArray, List.set_cons_zero, List.set_cons_succ])
        refine wpTill_put 10 21 (oi := _) (v := ?_) rfl rfl (by kernel_rfl) (by kernel_rfl) (by kernel_rfl) (by kernel_rfl) (fun _ _ _ h => h) (by rfl) hkA ?_ ?_
        rotate_left
        · (intro w2' hSw; go_simp; (try with_reducible rfl))
        (try simp only [Act.put, List.setIfInBounds_toArray, List.set_cons_zero, List.set_cons_succ])
        refine wpTill_one 12 (o := _) (by kernel_rfl) rfl (fun K hK => ?_)
        obtain ⟨z0, z1, z2, z3, z4⟩ := cells5 b11
        have f0 := free_of b11 0
        have f1 := free_of b11 1
        have f2 := free_of b11 2
        have f3 := free_of b11 3
        have f4 := free_of b11 4
        go_simp
        obtain ⟨w108, hwn⟩ : ∃ x, (((((w107.setCell ⟨w102.heap.size, 0, none⟩ (.int .i64 id)).setCell ⟨w102.heap.size, 1, none⟩ (.int .i64 p.tx)).setCell ⟨w102.heap.size, 2, none⟩ (.int .i64 p.time)).setCell ⟨w102.heap.size, 3, none⟩ (.int .i64 p.time)).setCell ⟨w102.heap.size, 4, none⟩ (.slice A5 maps.length c5)) = x := ⟨_, rfl⟩
        have hD : NewDevAt w2 w108 (w.heap.size + 2) (w102.heap.size) (newDev p id maps) A5 c5 := by
          rw [← hwn]
          exact ⟨set5 b11 _ _ _ _ _, own_kept5 ho9 hne _ _ _ _ _, hne, fun x hx => by have := hlo x hx; omega, below5 hkA (by omega) _ _ _ _ _, by omega⟩
        have hkA := hD.2.2.2.2.1
        rw [hwn]
        clear z0 z1 z2 z3 z4 f0 f1 f2 f3 f4 hwn
        refine hK.out _ _ (fun _ => hkA) (fun _ => ?_)
        clear hK K
        (try simp only [Act.put, List.setIfInBounds_toArray, List.set_cons_zero, List.set_cons_succ])
        refine wpTill_done (by kernel_rfl) ?_ _
        go_wp2_with fail
        go_meet
        exact ⟨_, _, _, rfl, hD⟩
    · skip
      go_simp
      obtain ⟨w109, hwn⟩ : ∃ x, w101.alloc (.cells #[.int .i64 0, .int .i64 0, .int .i64 0, .int .i64 0, .slice none 0 0] 36) = x := ⟨_, rfl⟩
      have hBn : Below w101.heap.size w101 w109 := by rw [← hwn]; exact (Below.refl _ _).alloc (Nat.le_refl _) _
      have b11 : w109.heap[w101.heap.size]? = some (.cells #[.int .i64 0, .int .i64 0, .int .i64 0, .int .i64 0, .slice none 0 0] 36) := by rw [← hwn]; exact heap_alloc_new w101 _
      have hge11 := hkA.size
      have hz11 : w101.heap.size < w109.heap.size := by rw [← hwn]; simp
      have hkA := hkA.trans (hBn.mono hkA.size)
      rw [hwn]
      clear hwn hBn
      refine hK.out _ _ (fun _ => hkA) (fun _ => ?_)
      clear hK K
      (try simp only [Act.put, List.setIfInBounds_toArray, List.set_cons_zero, List.set_cons_succ])
      refine wpTill_one 7 (o := _) (by kernel_rfl) rfl (fun K hK => ?_)
      go_simp
      obtain ⟨w110, hwn⟩ : ∃ x, w109.alloc (.cells #[] 40) = x := ⟨_, rfl⟩
      have hBn : Below w109.heap.size w109 w110 := by rw [← hwn]; exact (Below.refl _ _).alloc (Nat.le_refl _) _
      have b7 : w110.heap[w109.heap.size]? = some (.cells #[] 40) := by rw [← hwn]; exact heap_alloc_new w109 _
      have hge7 := hkA.size
      have hz7 : w109.heap.size < w110.heap.size := by rw [← hwn]; simp
      have hkA := hkA.trans (hBn.mono hkA.size)
      rw [hwn]
      have b11 := box_up b11 hBn
      clear hwn hBn
      refine hK.out _ _ (fun _ => hkA) (fun _ => ?_)
      clear hK K
      (try simp only [Act.put, List.setIfInBounds_toArray, List.set_cons_zero, List.set_cons_succ])
      refine wpTill_one 9 (o := _) (by kernel_rfl) rfl (fun K hK => ?_)
      have hsr := maps_src (HMS.out w110 (hB2.trans (hkA.mono (by omega))))
      have hzz := box_lt b7
      have hzA := hkA.size
      have hzb := box_lt b11
      refine step_append_optB Tryz.underlying34 info_map rfl (by omega) (by omega) rfl (.tmp 18) (.tmp 19) rfl (w.heap.size + 2) (.slice (some ⟨w109.heap.size, 0, none⟩) 0 0) 0 [] rfl (made0 b7 (by omega)) Am maps.length cm (flats Mp.enc maps) rfl HML.out hsr.2.1 (maps_one _) (by omega) (by omega) hsr.2.2 ?_
      intro A5 c5 w111 ho9 hg9 hb9
      rw [Nat.zero_add, List.nil_append] at ho9
      rw [Nat.zero_add] at hb9
      have hlo : ∀ x, (Value.slice A5 maps.length c5).ownBlock = some x → w109.heap.size ≤ x := fun x hx => by
        rcases hb9 x hx with h | h
        · have : w109.heap.size = x := by simpa [Value.ownBlock] using h
          omega
        · omega
      have hne : (Value.slice A5 maps.length c5).ownBlock ≠ some (w101.heap.size) := fun e => by
        rcases hb9 _ e with h | h
        · have : w109.heap.size = w101.heap.size := by simpa [Value.ownBlock] using h
          omega
        · omega
      have b11 := (hg9.block _ (box_lt b11) (fun e => by have : w101.heap.size = w109.heap.size := by simpa [Value.ownBlock] using e
                                                         omega)).trans b11
      have hkA := hkA.grown hg9 hkA.size (fun x hx => by have : w109.heap.size = x := by simpa [Value.ownBlock] using hx
                                                         omega)
      clear hsr hb9 hg9
      refine hK.out _ _ (fun _ => hkA) (fun _ => ?_)
      clear hK K
      (try simp only [Act.put, List.setIfInBounds_toArray, List.set_cons_zero, List.set_cons_succ])
      refine wpTill_put 10 21 (oi := _) (v := ?_) rfl rfl (by kernel_rfl) (by kernel_rfl) (by kernel_rfl) (by kernel_rfl) (fun _ _ _ h => h) (by rfl) hkA ?_ ?_
      rotate_left
      · (intro w2' hSw; go_simp; (try with_reducible rfl))
      (try simp only [Act.put, List.setIfInBounds_toArray, List.set_cons_zero, List.set_cons_succ])
      refine wpTill_one 12 (o := _) (by kernel_rfl) rfl (fun K hK => ?_)
      obtain ⟨z0, z1, z2, z3, z4⟩ := cells5 b11
      have f0 := free_of b11 0
      have f1 := free_of b11 1
      have f2 := free_of b11 2
      have f3 := free_of b11 3
      have f4 := free_of b11 4
      go_simp
      obtain ⟨w112, hwn⟩ : ∃ x, (((((w111.setCell ⟨w101.heap.size, 0, none⟩ (.int .i64 id)).setCell ⟨w101.heap.size, 1, none⟩ (.int .i64 p.tx)).setCell ⟨w101.heap.size, 2, none⟩ (.int .i64 p.time)).setCell ⟨w101.heap.size, 3, none⟩ (.int .i64 p.time)).setCell ⟨w101.heap.size, 4, none⟩ (.slice A5 maps.length c5)) = x := ⟨_, rfl⟩
      have hD : NewDevAt w2 w112 (w.heap.size + 2) (w101.heap.size) (newDev p id maps) A5 c5 := by
        rw [← hwn]
        exact ⟨set5 b11 _ _ _ _ _, own_kept5 ho9 hne _ _ _ _ _, hne, fun x hx => by have := hlo x hx; omega, below5 hkA (by omega) _ _ _ _ _, by omega⟩
      have hkA := hD.2.2.2.2.1
      rw [hwn]
      clear z0 z1 z2 z3 z4 f0 f1 f2 f3 f4 hwn
      refine hK.out _ _ (fun _ => hkA) (fun _ => ?_)
      clear hK K
      (try simp only [Act.put, List.setIfInBounds_toArray, List.set_cons_zero, List.set_cons_succ])
      refine wpTill_done (by kernel_rfl) ?_ _
      go_wp2_with fail
      go_meet
      exact ⟨_, _, _, rfl, hD⟩
  case rest =>
    obtain ⟨g, A5, c5, rfl, hD, hO, hne, hlo, hBc, hg⟩ := hcut
    have hgc := box_lt hD
    have HMI := Lib.hid (And.intro hne hlo)
    have HD := Lib.hid hD
    obtain ⟨xs, hrow, hc, hap⟩ := h3.keep (hB2.trans (hBc.mono (by omega))) (Nat.le_refl _)
    have hpc := hp2.below hBc hp2.lt
    obtain ⟨x0, x1, x2, x3, x4⟩ := hpc.cells
    have hxs := own_len hrow
    have hsr := own_src hrow
    obtain ⟨y0, y1, y2, y3, y4⟩ := hD.cells
    have HO := Lib.hid hO
    have HRC := Lib.hid (And.intro hc hap)
    have HR0 := Lib.hid hrow
    have hrc := hr2.below hBc (by omega)
    have hrow2 := hrow
    rw [hl.out] at hrow2
    have HFA := Lib.hid (fun i wr c9 g9 => with_fin (c := c) (i := i) (wr := wr) (c9 := c9) (g9 := g9) (id := id) (maps := maps) (u := .slice A5 maps.length c5) hl.out hb hrow2 hc hap hO)
    clear hrow2
    have HH3 := Lib.hid h3.lt
    have HONE := Lib.hid (devs_one hxs (fun j hj => ⟨(hc j hj).1, (hc j hj).2.1⟩))
    have hpl := hpc.lt
    have hBA : Below wc.heap.size wc (wc.alloc (.cells #[] 36)) := (Below.refl _ _).alloc (Nat.le_refl _) _
    have hsr := own_src (own_below hrow hBA (fun x hx => (hrow.lt x hx).2))
    have hwb : w.heap.size + 2 ≤ wc.heap.size := by have := hBc.size; omega
    clear hrow hc hap hO hne hlo hD
    rw [hl.out] at hxs
    have HXS := Lib.hid hxs
    clear hxs
    go_wp2_with (first
      | (at_builtin; have _ := hg8; go_loud (refine wpList_append_optB Tryz.underlying22 info_dev rfl (by omega) (by omega) rfl _ _ rfl (w.heap.size + 2) (.slice A8 n c8) n xs rfl (H8.out.2.1.alloc _) (some ⟨w8.heap.size, 0, none⟩) 1 1 (devCs (newDev p id maps) (.slice A5 maps.length c5)) rfl rfl (new_src w8 (devCs (newDev p id maps) (.slice A5 maps.length c5)) _) (devCs_one _ _ _ _) (by omega) (by have := H8.out.1.size; simp; omega) (fun h => by cases h) ?_); intro A9 c9 w9 ho9 hg9 hb9; have H9 := Lib.hid (row_end H8.out.1 H8.out.2.2 hg9 ho9 hb9); clear hb9)
      | (at_builtin; go_loud (refine wpList_append_optB Tryz.underlying22 info_dev rfl (by omega) (by omega) rfl _ _ rfl (w.heap.size + 2) (.slice (some ⟨wc.heap.size, 0, none⟩) 0 0) 0 [] rfl (World.ownsRow_made wc #[] 0 hwb (by simp [maxLen]) rfl) A n c xs rfl HXS.out hsr.1 HONE.out (by omega) (by simp; omega) hsr.2 ?_); intro A8 c8 w8 ho8 hg8 hb8; have H8 := Lib.hid (row_mid hg8 ho8 hb8); clear hb8; have hd8 := DBox.below8 H8.out.1 HD.out; obtain ⟨y0, y1, y2, y3, y4⟩ := hd8.cells))
    obtain ⟨hB9, g9, rfl, hg9w, hnc9⟩ := H9.out
    have hgcw : w.heap.size < wc.heap.size := hpl
    clear x0 x1 x2 x3 x4 y0 y1 y2 y3 y4 hd8 hg8 hg9 ho8 hsr
    go_loopw [9] (fun i9 wr => ∃ i : Nat, i9 = .int .i64 i ∧ i ≤ n ∧ wr.ownsRow (w.heap.size + 2) 36 5 (.slice (some ⟨g9, 0, none⟩) (n + 1) c9) (n + 1) (insC xs (i * 5) (devCs (newDev p id maps) (.slice A5 maps.length c5))) ∧ Below wc.heap.size wc wr ∧ (∀ j, i ≤ j → j < n → id < (nth dev0 p.devs j).id)) (fun i9 _ => (intOf i9).toNat)
    case atStart =>
      refine ⟨n, ?_, by omega, ?_, hB9, fun j h1 h2 => absurd h1 (by omega)⟩
      · go_num
      · unfold insC
        rw [← HXS.out, List.take_length, List.drop_length, List.append_nil]
        exact ho9
    case round =>
      obtain ⟨i, rfl, hi, hrow, hB, hup⟩ := hrel
      have HUP := Lib.hid hup
      have HROW := Lib.hid hrow
      clear hup
      obtain ⟨hcA, hcB⟩ := down_cells hrow HXS.out rfl hi
      clear hrow
      have hwz := hB.size
      rcases Nat.eq_zero_or_pos i with h0 | h0
      · subst h0
        clear hcA hcB
        go_wp2_with fail
        go_quiet (fail)
        obtain ⟨wq, hwq⟩ : ∃ x, wr.drewN nq = x := ⟨_, rfl⟩
        have hrq : wq.ownsRow (w.heap.size + 2) 36 5 (.slice (some ⟨g9, 0, none⟩) (n + 1) c9) (n + 1) (insC xs ((0) * 5) (devCs (newDev p id maps) (.slice A5 maps.length c5))) := by rw [← hwq]; exact HROW.out
        have hBq : Below wc.heap.size wc wq := by rw [← hwq]; exact below_drewN hB _
        rw [hwq]
        have HRQ := Lib.hid hrq
        clear hwq HROW hB hwz
        have hwz := hBq.size
        clear hrq
        have hfn := HFA.out (0) wq c9 g9 (fun x hx => ⟨by have := HMI.out.2 x hx; omega, fun e => by have := (HO.out.lt x hx).2; omega⟩) (fun j hj x hx => (HH3.out.2 j (by rw [hl.out]; exact hj) x hx).2) (fun x hx => (HH3.out.1 x hx).2) hg9w HRQ.out hBq (by omega) (HPOS.out 0 (by omega) (fun h => absurd h (by omega)) (fun j h1 h2 => HUP.out j h1 h2))
        obtain ⟨M', ho, hM'⟩ := hfn
        have HO' := Lib.hid ho
        have HM' := Lib.hid hM'
        clear ho hM'
        have hpr : PBox wq w.heap.size p A n c := box_up hpc hBq
        have hrr : RBox wq (w.heap.size + 1) (.int .i64 0) (.int .i64 0) (.int .i64 0) (.int .i64 0) (.slice none 0 0) := box_up hrc hBq
        obtain ⟨x0, x1, x2, x3, x4⟩ := hpr.cells
        obtain ⟨z0, z1, z2, z3, z4⟩ := hrr.cells
        have f4 := hpr.free 4
        have g0 := hrr.free 0
        have g1 := hrr.free 1
        have g2 := hrr.free 2
        have g3 := hrr.free 3
        have g4 := hrr.free 4
        go_wp2_with fail
        have hrs : RBox (wq.setCell ⟨w.heap.size, 4, none⟩ (.slice (some ⟨g9, 0, none⟩) (n + 1) c9)) (w.heap.size + 1) (.int .i64 0) (.int .i64 0) (.int .i64 0) (.int .i64 0) (.slice none 0 0) := (Below.heap_setCell wq ⟨w.heap.size, 4, none⟩ _ (w.heap.size + 1) (by simp)).trans hrr
        obtain ⟨q0, q1, q2, q3, q4⟩ := cells5 (set5 hrs (.int .i64 p.tx) (.int .i64 p.time) (.int .i64 p.unit) (.int .i64 p.data) (.slice (some ⟨g9, 0, none⟩) (n + 1) c9))
        refine bodyPost_ret (v := .agg #[.int .i64 p.tx, .int .i64 p.time, .int .i64 p.unit, .int .i64 p.data, .slice (some ⟨g9, 0, none⟩) (n + 1) c9]) (by simp [results, Tryz.results80, go_sem, q0, q1, q2, q3, q4]) rfl ?_
        refine with_ret (q := addF p id maps) (M' := M') (len_addF p id maps hl.out) HO'.out HM'.out ?_ (fun k hk x hx => (HH3.out.2 k (by rw [hl.out]; exact hk) x hx).2) (by omega) _ rfl
        exact hB2.trans ((hBc.trans (hBq.mono (by omega))).mono (by omega))
      · obtain ⟨k, rfl⟩ : ∃ k, i = k + 1 := ⟨i - 1, by omega⟩
        have a0 := hcA 0 (by omega)
        have b0 := hcB k 0 (by omega) (by omega)
        clear hcA hcB
        have HE := Lib.hid (HRC.out.1 k (by rw [hl.out]; omega))
        rw [Nat.add_zero, HE.out.1.1] at b0
        simp only [devCs, Nat.add_zero, List.getElem?_cons_zero] at a0
        have HK := Lib.hid (by rw [hl.out]; omega : k < p.devs.length)
        have hk1 : (0 : Int) < ((k + 1 : Nat) : Int) := by omega
        have hk2 : decide ((0 : Int) < ((k + 1 : Nat) : Int)) = true := decide_eq_true hk1
        obtain ⟨y, hy⟩ : ∃ y, nth dev0 p.devs k = y := ⟨_, rfl⟩
        have HY := Lib.hid hy
        rw [hy] at b0 HE
        clear hy
        by_cases hlt : id < y.id
        · have hlb : decide ((newDev p id maps).id < y.id) = true := decide_eq_true hlt
          go_wp2_with fail
          go_quiet (fail)
          obtain ⟨wq, hwq⟩ : ∃ x, wr.drewN nq = x := ⟨_, rfl⟩
          have hrq : wq.ownsRow (w.heap.size + 2) 36 5 (.slice (some ⟨g9, 0, none⟩) (n + 1) c9) (n + 1) (insC xs ((k + 1) * 5) (devCs (newDev p id maps) (.slice A5 maps.length c5))) := by rw [← hwq]; exact HROW.out
          have hBq : Below wc.heap.size wc wq := by rw [← hwq]; exact below_drewN hB _
          rw [hwq]
          have HRQ := Lib.hid hrq
          clear hwq HROW hB hwz
          have hwz := hBq.size
          obtain ⟨hcA, hcB⟩ := down_cells hrq HXS.out rfl hi
          have a1 := hcA 1 (by omega)
          have a2 := hcA 2 (by omega)
          have a3 := hcA 3 (by omega)
          have a4 := hcA 4 (by omega)
          have b1 := hcB k 1 (by omega) (by omega)
          have b2 := hcB k 2 (by omega) (by omega)
          have b3 := hcB k 3 (by omega) (by omega)
          have b4 := hcB k 4 (by omega) (by omega)
          have a0 := hcA 0 (by omega)
          have b0 := hcB k 0 (by omega) (by omega)
          rw [Nat.add_zero, HE.out.1.1] at b0
          rw [HE.out.1.2.1] at b1
          rw [HE.out.1.2.2.1] at b2
          rw [HE.out.1.2.2.2.1] at b3
          rw [HE.out.1.2.2.2.2] at b4
          simp only [devCs, Nat.add_zero, List.getElem?_cons_zero, List.getElem?_cons_succ] at a0 a1 a2 a3 a4
          obtain ⟨Ak, ck, hMk, _⟩ := HE.out.2.1.form
          have HMK := Lib.hid hMk
          rw [hMk] at b4
          have hgl := (hrq.lt g9 rfl).2
          have hfz := fun o => hrq.frozenAt o
          clear hMk hcA hcB hrq
          go_wp2_with fail
          refine ⟨⟨k, rfl, by omega, down_step HRQ.out HXS.out (by omega) HE.out.1 HY.out HMK.out _, ?_, fun j h1 h2 => ?_⟩, by simp [intOf]⟩
          · exact down_below hBq hg9w _ _ _ _ _ _ _ _ _ _ _ _ _
          · rcases Nat.lt_or_ge k j with h | h
            · exact HUP.out j (by omega) h2
            · obtain rfl : j = k := by omega
              rw [HY.out]; exact hlt
        · have hlb : decide ((newDev p id maps).id < y.id) = false := decide_eq_false hlt
          go_wp2_with fail
          go_quiet (fail)
          obtain ⟨wq, hwq⟩ : ∃ x, wr.drewN nq = x := ⟨_, rfl⟩
          have hrq : wq.ownsRow (w.heap.size + 2) 36 5 (.slice (some ⟨g9, 0, none⟩) (n + 1) c9) (n + 1) (insC xs ((k + 1) * 5) (devCs (newDev p id maps) (.slice A5 maps.length c5))) := by rw [← hwq]; exact HROW.out
          have hBq : Below wc.heap.size wc wq := by rw [← hwq]; exact below_drewN hB _
          rw [hwq]
          have HRQ := Lib.hid hrq
          clear hwq HROW hB hwz
          have hwz := hBq.size
          clear hrq
          have hfn := HFA.out (k + 1) wq c9 g9 (fun x hx => ⟨by have := HMI.out.2 x hx; omega, fun e => by have := (HO.out.lt x hx).2; omega⟩) (fun j hj x hx => (HH3.out.2 j (by rw [hl.out]; exact hj) x hx).2) (fun x hx => (HH3.out.1 x hx).2) hg9w HRQ.out hBq (by omega) (HPOS.out (k + 1) (by omega) (fun _ => by rw [Nat.add_sub_cancel, HY.out]; omega) (fun j h1 h2 => HUP.out j h1 h2))
          obtain ⟨M', ho, hM'⟩ := hfn
          have HO' := Lib.hid ho
          have HM' := Lib.hid hM'
          clear ho hM'
          have hpr : PBox wq w.heap.size p A n c := box_up hpc hBq
          have hrr : RBox wq (w.heap.size + 1) (.int .i64 0) (.int .i64 0) (.int .i64 0) (.int .i64 0) (.slice none 0 0) := box_up hrc hBq
          obtain ⟨x0, x1, x2, x3, x4⟩ := hpr.cells
          obtain ⟨z0, z1, z2, z3, z4⟩ := hrr.cells
          have f4 := hpr.free 4
          have g0 := hrr.free 0
          have g1 := hrr.free 1
          have g2 := hrr.free 2
          have g3 := hrr.free 3
          have g4 := hrr.free 4
          go_wp2_with fail
          have hrs : RBox (wq.setCell ⟨w.heap.size, 4, none⟩ (.slice (some ⟨g9, 0, none⟩) (n + 1) c9)) (w.heap.size + 1) (.int .i64 0) (.int .i64 0) (.int .i64 0) (.int .i64 0) (.slice none 0 0) := (Below.heap_setCell wq ⟨w.heap.size, 4, none⟩ _ (w.heap.size + 1) (by simp)).trans hrr
          obtain ⟨q0, q1, q2, q3, q4⟩ := cells5 (set5 hrs (.int .i64 p.tx) (.int .i64 p.time) (.int .i64 p.unit) (.int .i64 p.data) (.slice (some ⟨g9, 0, none⟩) (n + 1) c9))
          refine bodyPost_ret (v := .agg #[.int .i64 p.tx, .int .i64 p.time, .int .i64 p.unit, .int .i64 p.data, .slice (some ⟨g9, 0, none⟩) (n + 1) c9]) (by simp [results, Tryz.results80, go_sem, q0, q1, q2, q3, q4]) rfl ?_
          refine with_ret (q := addF p id maps) (M' := M') (len_addF p id maps hl.out) HO'.out HM'.out ?_ (fun k hk x hx => (HH3.out.2 k (by rw [hl.out]; exact hk) x hx).2) (by omega) _ rfl
          exact hB2.trans ((hBc.trans (hBq.mono (by omega))).mono (by omega))
end Go.Proofs.YtcdfbpdejbpgjaaGreat

/- scantlingref18.Check returns poolChk, as pool.Check does. Condition: the numbers fit into Go's int, and no slice is longer than the reach. -/
namespace Go.Proofs.YtcdfbpdejbpgjaaGreat
open Go.RowKit

theorem devB_parts {d : Dev} (h : devB d = true) : inB d.id 0 16777215 = true ∧ inB d.tx 0 2147483647 = true ∧ inB d.made 0 16777215 = true ∧ inB d.snapped 0 16777215 = true := by
  simp [devB, timesB] at h; exact ⟨h.1, h.2.1, h.2.2.1, h.2.2.2⟩
theorem devB_not {d : Dev} (h : devB d = false) : inB d.id 0 16777215 = false ∨ (inB d.id 0 16777215 = true ∧ inB d.tx 0 2147483647 = false) ∨ (inB d.id 0 16777215 = true ∧ inB d.tx 0 2147483647 = true ∧ inB d.made 0 16777215 = false) ∨ (inB d.id 0 16777215 = true ∧ inB d.tx 0 2147483647 = true ∧ inB d.made 0 16777215 = true ∧ inB d.snapped 0 16777215 = false) := by
  unfold devB timesB at h
  simp only [List.all_cons, List.all_nil, Bool.and_true] at h
  cases h1 : inB d.id 0 16777215 <;> cases h2 : inB d.tx 0 2147483647 <;> cases h3 : inB d.made 0 16777215 <;> cases h4 : inB d.snapped 0 16777215 <;> simp_all
theorem headB_parts {p : Pool} (h : headB p = true) : inB p.tx 0 2147483647 = true ∧ inB p.time 0 16777215 = true ∧ inB p.unit 1 65536 = true ∧ inB p.data 0 65536 = true := by
  simp [headB, timesB] at h; exact ⟨h.1.1, h.1.2, h.2.1, h.2.2⟩
theorem headB_not {p : Pool} (h : headB p = false) : inB p.tx 0 2147483647 = false ∨ (inB p.tx 0 2147483647 = true ∧ inB p.time 0 16777215 = false) ∨ (inB p.tx 0 2147483647 = true ∧ inB p.time 0 16777215 = true ∧ inB p.unit 1 65536 = false) ∨ (inB p.tx 0 2147483647 = true ∧ inB p.time 0 16777215 = true ∧ inB p.unit 1 65536 = true ∧ inB p.data 0 65536 = false) := by
  unfold headB timesB at h
  simp only [List.all_cons, List.all_nil, Bool.and_true] at h
  cases h1 : inB p.tx 0 2147483647 <;> cases h2 : inB p.time 0 16777215 <;> cases h3 : inB p.unit 1 65536 <;> cases h4 : inB p.data 0 65536 <;> simp_all
theorem mapB_not {data : Int} {m : Mp} (h : mapB data m = false) : inB m.v 0 281474976710655 = false ∨ (inB m.v 0 281474976710655 = true ∧ inB m.b 0 (data - 1) = false) ∨ (inB m.v 0 281474976710655 = true ∧ inB m.b 0 (data - 1) = true ∧ inB m.t 0 16777215 = false) := by
  unfold mapB at h
  cases h3 : inB m.v 0 281474976710655 <;> cases h4 : inB m.b 0 (data - 1) <;> cases h5 : inB m.t 0 16777215 <;> simp_all
theorem devChk_two {d : Dev} {last : Int} (h : devB d = false) : devChk d last = 2 := by unfold devChk; rw [if_pos h]
theorem devChk_eight {d : Dev} {last : Int} (h : devB d = true) (h2 : d.id ≤ last) : devChk d last = 8 := by unfold devChk; rw [if_neg (by simp [h]), if_pos h2]
theorem devChk_zero {d : Dev} {last : Int} (h : devB d = true) (h2 : last < d.id) : devChk d last = 0 := by unfold devChk; rw [if_neg (by simp [h]), if_neg (by omega)]

set_option maxRecDepth 100000 in
set_option maxHeartbeats 3200000 in
theorem rcheck_any (w : World) (S : Nat → Prop) (v : Value) (p : Pool) (hS : ∀ b, S b → b < w.heap.size) (h : IsPool w S v p) (hok : p.ok) :
    Calls Tryz.prog 30 #[v] w fun e w' => e = .returned (.int .i64 (poolChk p)) ∧ Below w.heap.size w w' := by
  have hp0 := h
  obtain ⟨A, c, rfl, hc, hr⟩ := h
  have hnl := hok.2.2.2.2.2
  have hkb := fun k (hk : k < p.devs.length) => (hok.dev hk).2.2.2.2.2
  generalize hl0 : p.devs.length = n at *
  have hl := Lib.hid hl0
  clear hl0
  have HKB := Lib.hid hkb
  clear hkb
  have hw0 : Below w.heap.size w (w.alloc (poolBox p A n c)) := (Below.refl _ _).alloc (Nat.le_refl _) _
  by_cases hh : headB p = true
  · obtain ⟨g1, g2, g3, g4⟩ := headB_parts hh
    have hda := inB_iff.1 g4
    have hd0 := hda.1
    have hd1 := hda.2
    clear hda
    have HH := Lib.hid hh
    clear hh
    by_cases hln : 4096 < n
    · have e : poolChk p = 2 := by
        unfold poolChk
        rw [if_neg (by rw [HH.out]; simp), if_pos (by simp only [sizeB, decide_eq_false_iff_not]; rw [hl.out]; omega)]
      rw [e]
      clear e
      go_enter Tryz.func30, Tryz.ntmps30
      go_wp2_with (go_at_call 53; refine (rin_any _ _ _ _).mono ?_; rintro e w' ⟨rfl, rfl⟩)
      go_ret
      exact ⟨rfl, hw0⟩
    · have hcs := count_small hok (by rw [hl.out]; omega)
      have hct := fun w2 (hB : Below w.heap.size w w2) => rcount_any w2 S (.agg #[.int .i64 p.tx, .int .i64 p.time, .int .i64 p.unit, .int .i64 p.data, .slice A n c]) p (fun b hb => Nat.lt_of_lt_of_le (hS b hb) hB.size)
        (hp0.below hB hS) (by rw [hl.out]; omega) hcs
      have HCT := Lib.hid hct
      have hcn : 0 ≤ p.count := countL_nonneg _
      clear hct hp0
      by_cases hcc : 16384 < p.count
      · have e : poolChk p = 2 := by
          unfold poolChk
          rw [if_neg (by rw [HH.out]; simp), if_pos (by simp only [sizeB, decide_eq_false_iff_not]; omega)]
        rw [e]
        clear e
        go_enter Tryz.func30, Tryz.ntmps30
        go_wp2_with (first
          | (go_at_call 53; refine (rin_any _ _ _ _).mono ?_; rintro e w' ⟨rfl, rfl⟩)
          | (go_at_call 17; refine (HCT.out _ hw0).mono ?_; rintro e w3 ⟨rfl, hB3⟩))
        go_ret
        exact ⟨rfl, hw0.trans (hB3.mono (by simp))⟩
      · have e : poolChk p = devsChk p.data (-1) p.devs := by
          unfold poolChk
          rw [if_neg (by rw [HH.out]; simp), if_neg (by simp only [sizeB, Bool.not_eq_false, decide_eq_true_eq]; rw [hl.out]; omega)]
        rw [e]
        clear e
        go_enter Tryz.func30, Tryz.ntmps30
        go_wp2_with (first
          | (go_at_call 53; refine (rin_any _ _ _ _).mono ?_; rintro e w' ⟨rfl, rfl⟩)
          | (go_at_call 17; refine (HCT.out _ hw0).mono ?_; rintro e w3 ⟨rfl, hB3⟩; have hb3 := hB3.mono (B' := w.heap.size + 1) (by simp)))
        go_loopw [3] (fun i wr => ∃ k : Nat, k ≤ n ∧ i = .int .i64 k ∧ Below (w.heap.size + 1) (w.alloc (poolBox p A n c)) wr ∧ DcAt p.data p.devs k) (fun i _ => n - (intOf i).toNat)
        case atStart => exact ⟨0, by omega, rfl, hb3, DcAt.zero _ _⟩
        case round =>
          clear hB3 hb3 HCT g1 g2 g3 g4
          obtain ⟨k, hk, rfl, hB, hA⟩ := hrel
          have HA := Lib.hid hA
          have hB0 := hw0.trans (hB.mono (by omega))
          have hq := fun o => hB.cell (p := ⟨w.heap.size, o, none⟩) (by simp)
          have hq3 : wr.cell? ⟨w.heap.size, 3, none⟩ = some (.int .i64 p.data) := (hq 3).trans (by simp [World.cell?_alloc_new])
          have hq4 : wr.cell? ⟨w.heap.size, 4, none⟩ = some (.slice A n c) := (hq 4).trans (by simp [World.cell?_alloc_new])
          have hws : w.heap.size < wr.heap.size := by have := hB.size; simp at this; omega
          clear hA hq
          by_cases hlt : k < n
          · obtain ⟨b, off, rfl, hb, hcl⟩ := devs_cells (hr.keep rdev_stable (fun _ h => h) (keep_below hB0 hS)) (by rw [hl.out]; omega)
            obtain ⟨c0, c1, c2, c3, A', c', c4, hc', hr'⟩ := hcl k (by rw [hl.out]; omega)
            have hlt' := hlt
            rw [← hl.out] at hlt'
            have HD := Lib.hid (fun hb => HA.out.dev hlt' hb)
            have HM := Lib.hid (fun h1 hb => HA.out.maps hlt' h1 hb)
            have HN := Lib.hid (fun h1 hb => HA.out.next hlt' h1 hb)
            have hkm := HKB.out k hlt
            have hbs : b < wr.heap.size := by have := hS b hb; have := hB0.size; omega
            have hS' : ∀ b, S b → b < wr.heap.size := fun b hb => by have := hS b hb; omega
            have hlast : (0 < k ∧ decide ((0 : Int) < (k : Int)) = true ∧ wr.cell? ⟨b, off + (k - 1) * 5, none⟩ = some (.int .i64 (lastId p.devs k))) ∨ (¬ 0 < k ∧ decide ((0 : Int) < (k : Int)) = false ∧ Hid (lastId p.devs k = -1)) := by
              by_cases h0 : 0 < k
              · refine .inl ⟨h0, by simp; omega, ?_⟩
                rw [lastId_pos _ h0]
                exact (hcl (k - 1) (by rw [hl.out]; omega)).1
              · refine .inr ⟨h0, by simp; omega, ?_⟩
                obtain rfl : k = 0 := by omega
                rfl
            clear hcl
            generalize lastId p.devs k = last at *
            generalize nth dev0 p.devs k = d at *
            have HB := hB.alloc (by simpa using hB.size) (.cells #[.int .i64 d.id, .int .i64 d.tx, .int .i64 d.made, .int .i64 d.snapped, .slice A' d.maps.length c'] 36)
            by_cases hdB : devB d = true
            · obtain ⟨i1, i2, i3, i4⟩ := devB_parts hdB
              have hid0 := (inB_iff.1 i1).1
              have HDB := Lib.hid hdB
              clear hdB
              by_cases hle : d.id ≤ last
              · rcases hlast with ⟨h0, hd, hlc⟩ | ⟨h0, hd, hl1⟩
                · go_wp2_with (go_at_call 53; refine (rin_any _ _ _ _).mono ?_; rintro e w' ⟨rfl, rfl⟩)
                  go_quiet (fail)
                  go_wp2_with fail
                  go_ret
                  have e8 := devChk_eight HDB.out hle
                  exact ⟨ret_int (by rw [HD.out (by rw [e8]; simp), e8]), hw0.trans (below_drewN (HB.mono (by omega)) _)⟩
                · have := hl1.out; omega
              · have hlt2 : last < d.id := by omega
                have HDZ := Lib.hid (devChk_zero HDB.out hlt2)
                obtain ⟨wo, rfl⟩ : ∃ wo : World, wo = wr := ⟨_, rfl⟩
                have hor : (0 < k ∧ decide ((0 : Int) < (k : Int)) = true ∧ wo.cell? ⟨b, off + (k - 1) * 5, none⟩ = some (.int .i64 last)) ∨ (¬ 0 < k ∧ decide ((0 : Int) < (k : Int)) = false) := by
                  rcases hlast with ⟨h0, hd, hlc⟩ | ⟨h0, hd, _⟩
                  · exact .inl ⟨h0, hd, hlc⟩
                  · exact .inr ⟨h0, hd⟩
                clear hlast
                rcases hor with ⟨h0, hd, hlc⟩ | ⟨h0, hd⟩
                all_goals
                  go_wp2_with (go_at_call 53; refine (rin_any _ _ _ _).mono ?_; rintro e w' ⟨rfl, rfl⟩)
                  go_quiet (fail)
                  go_wp2_with fail
                  clear i1 i2 i3 i4 HDB
                  go_loopw [5] (fun i wr => ∃ j : Nat, j ≤ d.maps.length ∧ i = .int .i64 j ∧ Below (wo.heap.size + 1) (wo.alloc (.cells #[.int .i64 d.id, .int .i64 d.tx, .int .i64 d.made, .int .i64 d.snapped, .slice A' d.maps.length c'] 36)) wr ∧ McAt p.data d.maps j) (fun i _ => d.maps.length - (intOf i).toNat)
                  case atStart => exact ⟨0, by omega, rfl, below_drewN (Below.refl _ _) _, McAt.zero _ _⟩
                  case round =>
                    obtain ⟨j, hj, rfl, hBi, hA2⟩ := hrel
                    have HA2 := Lib.hid hA2
                    have hqd : wr.cell? ⟨wo.heap.size, 4, none⟩ = some (.slice A' d.maps.length c') := (hBi.cell (p := ⟨wo.heap.size, 4, none⟩) (by simp)).trans (by simp [World.cell?_alloc_new])
                    have hqp : wr.cell? ⟨w.heap.size, 3, none⟩ = some (.int .i64 p.data) := (hBi.cell (p := ⟨w.heap.size, 3, none⟩) (by simp; omega)).trans ((World.cell?_alloc_past _ _ _ hws).trans hq3)
                    have hwz : wo.heap.size < wr.heap.size := by have := hBi.size; simp at this; omega
                    have hwr : w.heap.size < wr.heap.size := by omega
                    clear hA2
                    by_cases hjl : j < d.maps.length
                    · obtain ⟨mb, mo, rfl, hmb, hmc⟩ := maps_cells (hr'.keep rmp_stable (fun _ h => h) ((keep_alloc hS' _).trans (keep_below hBi (fun b hb => by have := hS' b hb; omega)))) (by omega)
                      obtain ⟨m0, m1, m2⟩ := hmc j hjl
                      have hmbs : mb < wr.heap.size := by have := hS' mb hmb; omega
                      have HR := Lib.hid (fun hb => HA2.out.range hjl hb)
                      have HO := Lib.hid (fun h1 hb => HA2.out.order hjl h1 hb)
                      have HX := Lib.hid (fun h1 hb => HA2.out.next hjl h1 hb)
                      have hmlast : (0 < j ∧ decide ((0 : Int) < (j : Int)) = true ∧ wr.cell? ⟨mb, mo + (j - 1) * 3, none⟩ = some (.int .i64 (lastV d.maps j))) ∨ (¬ 0 < j ∧ decide ((0 : Int) < (j : Int)) = false ∧ Hid (lastV d.maps j = -1)) := by
                        by_cases h0 : 0 < j
                        · refine .inl ⟨h0, by simp; omega, ?_⟩
                          rw [lastV_pos _ h0]
                          exact (hmc (j - 1) (by omega)).1
                        · refine .inr ⟨h0, by simp; omega, ?_⟩
                          obtain rfl : j = 0 := by omega
                          rfl
                      clear hmc
                      generalize lastV d.maps j = ml at *
                      generalize nth mp0 d.maps j = m at *
                      have HBi := hBi.alloc (by simpa using hBi.size) (.cells #[.int .i64 m.v, .int .i64 m.b, .int .i64 m.t] 40)
                      have hout := hw0.trans ((HB.trans (HBi.mono (by omega))).mono (by omega))
                      by_cases hmB : mapB p.data m = true
                      · have i1 : inB m.v 0 281474976710655 = true := by simp [mapB] at hmB; exact hmB.1
                        have i2 : inB m.b 0 (p.data - 1) = true := by simp [mapB] at hmB; exact hmB.2.1
                        have i3 : inB m.t 0 16777215 = true := by simp [mapB] at hmB; exact hmB.2.2
                        have hmv := (inB_iff.1 i1).1
                        have HMB := Lib.hid hmB
                        clear hmB
                        by_cases hmle : m.v ≤ ml
                        · rcases hmlast with ⟨g0, gd, glc⟩ | ⟨g0, gd, gl1⟩
                          · have e8 := HO.out HMB.out hmle
                            have E8 := Lib.hid e8
                            clear e8
                            go_wp2_with (go_at_call 53; refine (rin_any _ _ _ _).mono ?_; rintro e w' ⟨rfl, rfl⟩)
                            go_quiet (fail)
                            go_wp2_with fail
                            go_ret
                            exact ⟨ret_int (by rw [HM.out HDZ.out (by rw [E8.out]; simp), E8.out]), below_drewN hout _⟩
                          · have := gl1.out; omega
                        · have hmlt : ml < m.v := by omega
                          have hor2 : (0 < j ∧ decide ((0 : Int) < (j : Int)) = true ∧ wr.cell? ⟨mb, mo + (j - 1) * 3, none⟩ = some (.int .i64 ml)) ∨ (¬ 0 < j ∧ decide ((0 : Int) < (j : Int)) = false) := by
                            rcases hmlast with ⟨h0, hd, hlc⟩ | ⟨h0, hd, _⟩
                            · exact .inl ⟨h0, hd, hlc⟩
                            · exact .inr ⟨h0, hd⟩
                          clear hmlast
                          rcases hor2 with ⟨g0, gd, glc⟩ | ⟨g0, gd⟩
                          all_goals
                            go_wp2_with (go_at_call 53; refine (rin_any _ _ _ _).mono ?_; rintro e w' ⟨rfl, rfl⟩)
                            go_quiet (fail)
                            go_wp2_with fail
                            go_roundw
                            case rel => exact ⟨j + 1, by omega, by go_num, below_drewN HBi _, HX.out HMB.out hmlt⟩
                            case measure => simp [intOf]; omega
                      · have hmB' : mapB p.data m = false := by simpa using hmB
                        have hor2 := mapB_not hmB'
                        have E2 := Lib.hid (HR.out hmB')
                        clear hmB hmB' hmlast
                        rcases hor2 with i1 | ⟨i1, i2⟩ | ⟨i1, i2, i3⟩
                        all_goals
                          go_wp2_with (go_at_call 53; refine (rin_any _ _ _ _).mono ?_; rintro e w' ⟨rfl, rfl⟩)
                          go_ret
                          exact ⟨ret_int (by rw [HM.out HDZ.out (by rw [E2.out]; simp), E2.out]), hout⟩
                    · have E0 := Lib.hid (HA2.out.done (by omega))
                      go_wp2_with fail
                      go_roundw
                      case rel => exact ⟨k + 1, by omega, by go_num, HB.trans (hBi.mono (by omega)), HN.out HDZ.out E0.out⟩
                      case measure => simp [intOf]; omega
            · have hdB' : devB d = false := by simpa using hdB
              have HDB := Lib.hid (devChk_two (last := last) hdB')
              have hor := devB_not hdB'
              clear hdB hdB' hlast
              rcases hor with i1 | ⟨i1, i2⟩ | ⟨i1, i2, i3⟩ | ⟨i1, i2, i3, i4⟩
              all_goals
                go_wp2_with (go_at_call 53; refine (rin_any _ _ _ _).mono ?_; rintro e w' ⟨rfl, rfl⟩)
                go_ret
                exact ⟨ret_int (by rw [HD.out (by rw [HDB.out]; simp), HDB.out]), hw0.trans (HB.mono (by omega))⟩
          · go_wp2
            go_ret
            exact ⟨ret_int (HA.out.done (by rw [hl.out]; omega)).symm, hB0⟩
  · have hh' : headB p = false := by simpa using hh
    have e : poolChk p = 2 := by unfold poolChk; rw [if_pos hh']
    rw [e]
    have hor := headB_not hh'
    clear hh hh' e hp0
    rcases hor with h1 | ⟨h1, h2⟩ | ⟨h1, h2, h3⟩ | ⟨h1, h2, h3, h4⟩
    all_goals
      go_enter Tryz.func30, Tryz.ntmps30
      go_wp2_with (go_at_call 53; refine (rin_any _ _ _ _).mono ?_; rintro e w' ⟨rfl, rfl⟩)
      go_ret
      exact ⟨rfl, hw0⟩
end Go.Proofs.YtcdfbpdejbpgjaaGreat

/- scantlingref18.Refs returns the counts of the data blocks, or nothing. Condition: the numbers fit into Go's int, and no slice is longer than the reach. -/
namespace Go.Proofs.YtcdfbpdejbpgjaaGreat
open Go.RowKit

/-- The call's own row of counts. -/
def CntRow (w : World) (base g cap : Nat) (l : List Int) : Prop := w.ownsRow base 3 1 (.slice (some ⟨g, 0, none⟩) l.length cap) l.length (flats encI l)

set_option maxRecDepth 100000 in
set_option maxHeartbeats 3200000 in
theorem rrefs_any (w : World) (S : Nat → Prop) (v : Value) (p : Pool) (hS : ∀ b, S b → b < w.heap.size) (h : IsPool w S v p) (hok : p.ok) :
    Calls Tryz.prog 99 #[v] w fun e w' => ∃ v', e = .returned v' ∧ IsInts w' (Btw w.heap.size w'.heap.size) v' (refsRes p) ∧ Below w.heap.size w w' := by
  have hp0 := h
  obtain ⟨A, c, rfl, hc, hr⟩ := h
  have hck := fun w2 (hB : Below w.heap.size w w2) => rcheck_any w2 S _ p (fun b hb => Nat.lt_of_lt_of_le (hS b hb) hB.size) (hp0.below hB hS) hok
  have HCK := Lib.hid hck
  have hw1 : Below w.heap.size w (w.alloc (.cells #[.int .i64 p.tx, .int .i64 p.time, .int .i64 p.unit, .int .i64 p.data, .slice A p.devs.length c] 24)) := (Below.refl _ _).alloc (Nat.le_refl _) _
  by_cases hz : poolChk p = 0
  · have e : refsRes p = refsOf p := by unfold refsRes; rw [if_pos hz]
    rw [e]
    have hzb : (poolChk p != 0) = false := by simp [hz]
    obtain ⟨q1, q2, _⟩ := poolChk_parts hz
    have hdat : 0 ≤ p.data ∧ p.data ≤ 65536 := by simp [headB] at q1; exact inB_iff.1 q1.2.2
    have hnd : p.devs.length ≤ 4096 := by simp [sizeB] at q2; exact q2.1
    have hpb := pairs_b hz
    have hpf := pairs_few hz
    clear hz e q1 q2 hck
    obtain ⟨i0, hi, hz0, hz1, hz2⟩ := info_parts info_int
    obtain ⟨dn, hdn⟩ := Int.eq_ofNat_of_zero_le hdat.1
    have HDN := Lib.hid hdn
    have hdn2 : dn ≤ 65536 := by omega
    have hri : refsOf p = bumps (List.replicate dn 0) (pairs p.devs) := by unfold refsOf; rw [hdn, Int.toNat_natCast]
    have HRI := Lib.hid hri
    clear hri hdn
    have hmk : ∀ k, k < p.devs.length → (nth dev0 p.devs k).maps.length ≤ 140737488355328 := fun k hk => by have := (hok.dev hk).2.2.2.2.2; omega
    have HPB := Lib.hid hpb
    clear hpb
    go_enter Tryz.func99, Tryz.ntmps99
    go_wp2_with (first
      | (go_at_call 30; refine (HCK.out _ hw1).mono ?_; rintro e w2 ⟨rfl, hB2⟩; have hsz2 := hB2.size; have hB2' := hw1.trans (hB2.mono (by simp)); have hp2 := (PBox.new w p A p.devs.length c).below hB2 (by simp); obtain ⟨x0, x1, x2, x3, x4⟩ := hp2.cells; simp only [World.size_alloc] at hsz2)
      | (at_make; go_loud (refine wpList_make_full _ rfl _ _ 97 rfl (w.heap.size + 1) 3 i0 (.int .i64 0) 1 Tryz.underlying97 hi hz0 hz1 _ _ _ _ dn rfl rfl HDN.out HDN.out (by rw [hz2]; omega) (by unfold maxLen; omega) hsz2 ?_); intro w3 hown hg3; rw [madeInts] at hown))
    have hB3 : Below w2.heap.size w2 w3 := (Below.refl _ w2).grown hg3 (Nat.le_refl _) (fun k e => by cases e)
    have hlt0 : w.heap.size < w2.heap.size := by omega
    have hwz : w2.heap.size ≤ w3.heap.size := hB3.size
    clear hp0 x0 x1 x2 x3 x4
    generalize hl0 : p.devs.length = nd at *
    have hl := Lib.hid hl0
    have HMK := Lib.hid hmk
    clear hl0 hmk
    go_loopw [4] (fun i wr => ∃ k : Nat, k ≤ nd ∧ i = .int .i64 k ∧ Below w2.heap.size w2 wr ∧ wr.ownsRow (w.heap.size + 1) 3 1 (.slice (some ⟨w2.heap.size, 0, none⟩) dn dn) dn (flats encI (bumps (List.replicate dn 0) (upto p.devs k 0)))) (fun i _ => nd - (intOf i).toNat)
    case atStart => exact ⟨0, by omega, rfl, hB3, by rw [upto_zero]; exact hown⟩
    case round =>
      obtain ⟨k, hk, rfl, hBr, hrow⟩ := hrel
      obtain ⟨x0, x1, x2, x3, x4⟩ := (hp2.below hBr hlt0).cells
      by_cases hlt : k < nd
      · have hBw : Below w.heap.size w wr := hB2'.trans (hBr.mono (by omega))
        have hkl : k < p.devs.length := by rw [hl.out]; omega
        have hml := HMK.out k hlt
        have HNX := Lib.hid (upto_next hkl)
        have hmem : ∀ j, j < (nth dev0 p.devs k).maps.length → (k, nth mp0 (nth dev0 p.devs k).maps j) ∈ pairs p.devs := fun j hj => (upto_prefix (j := j + 1) hkl).subset (by rw [upto_succ hj]; simp)
        have hlen : ∀ j, j < (nth dev0 p.devs k).maps.length → (upto p.devs k j).length ≤ 16384 := fun j hj => by have := (upto_prefix (j := j) hkl).length_le; omega
        have HMEM := Lib.hid hmem
        have HLEN := Lib.hid hlen
        clear hmem hlen
        go_wp2_with fail
        go_loopw [5] (fun i w4 => ∃ j : Nat, j ≤ (nth dev0 p.devs k).maps.length ∧ i = .int .i64 j ∧ Below w2.heap.size w2 w4 ∧ w4.ownsRow (w.heap.size + 1) 3 1 (.slice (some ⟨w2.heap.size, 0, none⟩) dn dn) dn (flats encI (bumps (List.replicate dn 0) (upto p.devs k j)))) (fun i _ => (nth dev0 p.devs k).maps.length - (intOf i).toNat)
        case atStart => exact ⟨0, by omega, rfl, hBr, hrow⟩
        case round =>
          clear x0 x1 x2 x3 x4
          obtain ⟨j, hj, rfl, hB4, hrow4⟩ := hrel
          obtain ⟨x0, x1, x2, x3, x4⟩ := (hp2.below hB4 hlt0).cells
          have hB4w : Below w.heap.size w wr := hB2'.trans (hB4.mono (by omega))
          obtain ⟨b, off, rfl, hb, hcl⟩ := devs_cells (hr.keep rdev_stable (fun _ h => h) (keep_below hB4w hS)) (by rw [hl.out]; omega)
          obtain ⟨c0, c1, c2, c3, A', c', c4, hc', hr'⟩ := hcl k (by rw [hl.out]; omega)
          clear hcl
          by_cases hjl : j < (nth dev0 p.devs k).maps.length
          · obtain ⟨mb, mo, rfl, hmb, hmc⟩ := maps_cells hr' (by omega)
            obtain ⟨m0, m1, m2⟩ := hmc j hjl
            have hmm := HPB.out _ (HMEM.out j hjl)
            rw [HDN.out] at hmm
            have HU := Lib.hid (congrArg (bumps (List.replicate dn 0)) (upto_succ hjl))
            have hcb := counts_bound dn (upto p.devs k j) (nth mp0 (nth dev0 p.devs k).maps j).b.toNat
            have hle := HLEN.out j hjl
            have hbl : (bumps (List.replicate dn 0) (upto p.devs k j)).length = dn := by rw [bumps_length, List.length_replicate]
            clear hmc hr'
            simp only at hmm
            generalize nth mp0 (nth dev0 p.devs k).maps j = m at *
            rw [bumps_snoc] at HU
            simp only at HU
            obtain ⟨bn, hbn⟩ := Int.eq_ofNat_of_zero_le hmm.1
            rw [hbn] at m1 HU hcb hmm
            rw [Int.toNat_natCast] at hcb
            have hbd : bn < dn := by omega
            clear hmm hbn
            generalize hcu : bumps (List.replicate dn 0) (upto p.devs k j) = cu at *
            have HCU := Lib.hid hcu
            clear hcu
            have hst := hrow4.stored bn (.int .i64 (nth 0 cu bn + 1))
            have hset : (flats encI cu).set bn (.int .i64 (nth 0 cu bn + 1)) = flats encI (bump cu (bn : Int)) := by
              rw [flats_encI, flats_encI, bump, Int.toNat_natCast, List.map_set]
            rw [hset] at hst
            have hcell : wr.cell? ⟨w2.heap.size, bn, none⟩ = some (.int .i64 (nth 0 cu bn)) := by
              rw [hrow4.cellAt bn (by omega), flats_encI, nth_get 0 cu bn (by omega)]
              simp [hbl, hbd]
            have hfr := hrow4.frozenAt bn
            have HST := Lib.hid hst
            have hc0 := hcb.1
            have hc1 := hcb.2
            clear hst hset hrow4 hcb hbl
            generalize nth 0 cu bn = y at *
            go_wp2_with fail
            refine ⟨⟨j + 1, by omega, by go_num, hB4.setCell (Nat.le_refl _) _, by rw [HU.out]; exact HST.out.1⟩, by simp [intOf]; omega⟩
          · have hje : Hid (upto p.devs k j = upto p.devs (k + 1) 0) := by rw [show j = (nth dev0 p.devs k).maps.length from by omega]; exact HNX.out
            rw [hje.out] at hrow4
            go_wp2_with fail
            go_roundw
            case rel => exact ⟨k + 1, by omega, by go_num, hB4, hrow4⟩
            case measure => simp [intOf]; omega
      · have hfin : bumps (List.replicate dn 0) (upto p.devs k 0) = refsOf p := by rw [upto_zero, List.take_of_length_le (by rw [hl.out]; omega), HRI.out]
        rw [hfin] at hrow
        have HROW := Lib.hid hrow
        clear hrow hfin
        go_wp2_with fail
        go_ret
        have hBz := hBr.size
        refine ⟨_, rfl, ?_, hB2'.trans (hBr.mono (by omega))⟩
        exact (IsSl.own (enc := encI) (d := (0 : Int)) (l := refsOf p) encI_len HROW.out (by omega)).sub (flat_stable _) (fun b hb => ⟨by have := hb.1; omega, hb.2⟩)
  · have e : refsRes p = [] := by unfold refsRes; rw [if_neg hz]
    rw [e]
    have hzb : (poolChk p != 0) = true := by simp [hz]
    clear hz e hck
    go_enter Tryz.func99, Tryz.ntmps99
    go_wp2_with (go_at_call 30; refine (HCK.out _ hw1).mono ?_; rintro e w2 ⟨rfl, hB2⟩)
    go_ret
    exact ⟨_, rfl, IsSl.nil_, hw1.trans (hB2.mono (by simp))⟩
end Go.Proofs.YtcdfbpdejbpgjaaGreat

/- The reference's first, create (scantlingref49). Condition: the pool may be, and lies in memory of the call's own. -/
namespace Go.Proofs.YtcdfbpdejbpgjaaGreat
open Go.RowKit
attribute [local go_sem] Oper.semAt_some
set_option linter.unusedSimpArgs false
set_option linter.unusedVariables false

/-- The first data block that nothing has, or -1. -/
def firstI (l : List Int) : Int := if freeAt l = l.length then -1 else (freeAt l : Int)
theorem firstI_at {l : List Int} {k : Nat} (hk : k < l.length) (h : nth 0 l k = 0) (hlo : ∀ j, j < k → 0 < nth 0 l j) : firstI l = k := by
  have : k = freeAt l := posK_of (d := 0) (by omega) (fun j hj => by have := hlo j hj; omega) (fun _ => by rw [h]; omega)
  unfold firstI
  rw [if_neg (by omega)]
  omega
theorem firstI_no {l : List Int} (hlo : ∀ j, j < l.length → 0 < nth 0 l j) : firstI l = -1 := by
  have : l.length = freeAt l := posK_of (d := 0) (Nat.le_refl _) (fun j hj => by have := hlo j hj; omega) (fun h => by omega)
  unfold firstI
  rw [if_pos this.symm]
set_option maxHeartbeats 1600000 in
theorem rfirst_any (w : World) (S : Nat → Prop) (v : Value) (p : Pool) (hS : ∀ b, S b → b < w.heap.size) (h : IsPool w S v p) (hok : p.ok) (hc : poolChk p = 0) :
    Calls Tryz.prog 100 #[v] w fun e w' => e = .returned (.int .i64 (firstI (refsRes p))) ∧ Below w.heap.size w w' := by
  have hp0 := h
  obtain ⟨A, c, rfl, _, _⟩ := h
  have hw1 : Below w.heap.size w (w.alloc (poolBox p A p.devs.length c)) := (Below.refl _ _).alloc (Nat.le_refl _) _
  have HRF := Lib.hid (rrefs_any (w.alloc (poolBox p A p.devs.length c)) S _ p (fun b hb => Nat.lt_of_lt_of_le (hS b hb) hw1.size) (hp0.below hw1 hS) hok)
  have HNN := Lib.hid (fun j => (refs_nn p j).1)
  have HAT := Lib.hid (fun k => firstI_at (l := refsRes p) (k := k))
  have HNO := Lib.hid (firstI_no (l := refsRes p))
  have hdl : (refsRes p).length ≤ 65536 := by rw [refs_leng hc]; have := (pool_head hc).2.2.2; omega
  dsimp only [poolBox] at hw1 HRF
  clear hp0 hok hc
  generalize firstI (refsRes p) = r at *
  generalize hl0 : (refsRes p) = l at *
  clear hl0
  go_enter Tryz.func100, Tryz.ntmps100
  go_wp2_with (go_at_call 99; refine HRF.out.mono ?_; rintro e w2 ⟨v2, rfl, hI, hB2⟩; have hk2 := hw1.trans (hB2.mono hw1.size); obtain ⟨A2, c2, rfl, _, hr2⟩ := hI; generalize hn0 : l.length = n at *; have hn := Lib.hid hn0; clear hn0)
  go_loop [4] (fun i => ∃ k : Nat, k ≤ n ∧ i = .int .i64 k ∧ Hid (∀ j, j < k → 0 < nth 0 l j)) (fun i => n - (intOf i).toNat)
  case atStart => exact ⟨0, by omega, rfl, Lib.hid fun j hj => absurd hj (by omega)⟩
  case round =>
    obtain ⟨k, hk, rfl, HA⟩ := hrel
    by_cases hlt : k < n
    · obtain ⟨b, off, rfl, hb, hc⟩ := ints_cells hr2 (by rw [hn.out]; omega)
      have c0 := hc k (by rw [hn.out]; omega)
      have hnn := HNN.out k
      clear hc
      by_cases h0 : nth 0 l k = 0
      · have hbb : (nth 0 l k == 0) = true := by simp [h0]
        have HR := Lib.hid (HAT.out k hlt h0 HA.out)
        clear HA h0
        generalize nth 0 l k = y at *
        go_wp2_with fail
        go_ret
        exact ⟨by rw [HR.out]; rfl, hk2⟩
      · have hbb : (nth 0 l k == 0) = false := by simp [h0]
        have HA2 := Lib.hid (show ∀ j, j < k + 1 → 0 < nth 0 l j from fun j hj => by
          by_cases e : j = k
          · rw [e]; omega
          · exact HA.out j (by omega))
        clear HA h0
        generalize nth 0 l k = y at *
        go_wp2_with fail
        go_round
        case rel => exact ⟨k + 1, by omega, by go_num, HA2⟩
        case measure => simp [intOf]; omega
    · have HR := Lib.hid (HNO.out (fun j hj => HA.out j (by omega)))
      clear HA
      go_wp2_with fail
      go_ret
      exact ⟨by rw [HR.out]; rfl, hk2⟩
/-- The blocks that a pool of the caller's own lies in. -/
def Own1 (v : Value) (n : Nat) (M : Nat → Value) (x : Nat) : Prop := v.ownBlock = some x ∨ ∃ j, j < n ∧ (M j).ownBlock = some x
/-- What an op of the reference leaves: a pool of the caller's own, and an error. -/
def DoR (w : World) (base : Nat) (v : Value) (n : Nat) (M : Nat → Value) (r : Int × Pool) (e : Ending) (w' : World) : Prop :=
  ∃ A c M' q, e = .returned (.tuple #[.agg #[.int .i64 q.tx, .int .i64 q.time, .int .i64 q.unit, .int .i64 q.data, .slice A q.devs.length c], .int .i64 r.1]) ∧ OwnDevs w' base (.slice A q.devs.length c) q.devs M' ∧ (r.1 = 0 → q = r.2) ∧ Touch (Own1 v n M) w w' ∧
    ∀ x, Own1 (.slice A q.devs.length c) q.devs.length M' x → Own1 v n M x ∨ w.heap.size ≤ x
theorem own1_lt {w : World} {base n : Nat} {v : Value} {l : List Dev} {M : Nat → Value} (h : OwnDevs w base v l M) (hn : l.length = n) : ∀ x, Own1 v n M x → base ≤ x ∧ x < w.heap.size := by
  subst hn
  rintro x (hx | ⟨j, hj, hx⟩)
  · exact h.lt.1 x hx
  · exact h.lt.2 j hj x hx
theorem far_own1 {v : Value} {l : List Dev} {M : Nat → Value} {x n : Nat} (hn : l.length = n) (h : ¬ Own1 v n M x) : Far v l M x := by
  subst hn
  exact ⟨fun e => h (.inl e), fun j hj e => h (.inr ⟨j, hj, e⟩)⟩
theorem kept5 {w : World} {base b : Nat} {v : Value} {l : List Dev} {M : Nat → Value} (h : OwnDevs w base v l M) (hf : Far v l M b) (u0 u1 u2 u3 u4 : Value) : OwnDevs (((((w.setCell ⟨b, 0, none⟩ u0).setCell ⟨b, 1, none⟩ u1).setCell ⟨b, 2, none⟩ u2).setCell ⟨b, 3, none⟩ u3).setCell ⟨b, 4, none⟩ u4) base v l M := by
  have k : ∀ {W : World} (i : Nat) (u : Value), OwnDevs W base v l M → OwnDevs (W.setCell ⟨b, i, none⟩ u) base v l M := fun i u hh => hh.kept (grownBy_set _ ⟨b, i, none⟩ u) hf
  exact k 4 u4 (k 3 u3 (k 2 u2 (k 1 u1 (k 0 u0 h))))
theorem size5_blk (w : World) (b x : Nat) (hx : x ≠ b) (u0 u1 u2 u3 u4 : Value) : (((((w.setCell ⟨b, 0, none⟩ u0).setCell ⟨b, 1, none⟩ u1).setCell ⟨b, 2, none⟩ u2).setCell ⟨b, 3, none⟩ u3).setCell ⟨b, 4, none⟩ u4).heap[x]? = w.heap[x]? :=
  (Below.heap_setCell _ ⟨b, 4, none⟩ _ x hx).trans ((Below.heap_setCell _ ⟨b, 3, none⟩ _ x hx).trans ((Below.heap_setCell _ ⟨b, 2, none⟩ _ x hx).trans ((Below.heap_setCell _ ⟨b, 1, none⟩ _ x hx).trans (Below.heap_setCell w ⟨b, 0, none⟩ _ x hx))))
theorem touch_set {R : Nat → Prop} {w W : World} {b : Nat} (h : Touch R w W) (hb : w.heap.size ≤ b) (i : Nat) (u : Value) : Touch R w (W.setCell ⟨b, i, none⟩ u) :=
  ⟨h.1, h.2.1, h.2.2.1, by rw [World.size_setCell]; exact h.size, fun x hx hr => (Below.heap_setCell W ⟨b, i, none⟩ u x (by simp only [ne_eq]; omega)).trans (h.block hx hr)⟩
theorem touch5 {R : Nat → Prop} {w W : World} {b : Nat} (h : Touch R w W) (hb : w.heap.size ≤ b) (u0 u1 u2 u3 u4 : Value) : Touch R w (((((W.setCell ⟨b, 0, none⟩ u0).setCell ⟨b, 1, none⟩ u1).setCell ⟨b, 2, none⟩ u2).setCell ⟨b, 3, none⟩ u3).setCell ⟨b, 4, none⟩ u4) :=
  touch_set (touch_set (touch_set (touch_set (touch_set h hb 0 u0) hb 1 u1) hb 2 u2) hb 3 u3) hb 4 u4
theorem do_ret {w W : World} {base n m rb c : Nat} {v : Value} {M Mq : Nat → Value} {r : Int × Pool} {q : Pool} {A : Option Addr} (hown : OwnDevs W base (.slice A m c) q.devs Mq) (hm : q.devs.length = m) (ht : Touch (Own1 v n M) w W) (hrb : w.heap.size ≤ rb) (hne : ¬ Own1 (.slice A m c) m Mq rb) (hq : r.1 = 0 → q = r.2)
    (hfr : ∀ x, Own1 (.slice A m c) m Mq x → Own1 v n M x ∨ w.heap.size ≤ x) {cd : Int} (hcd : cd = r.1) (u0 u1 u2 u3 u4 : Value) :
    DoR w base v n M r (.returned (.tuple #[.agg #[.int .i64 q.tx, .int .i64 q.time, .int .i64 q.unit, .int .i64 q.data, .slice A m c], .int .i64 cd])) (((((W.setCell ⟨rb, 0, none⟩ u0).setCell ⟨rb, 1, none⟩ u1).setCell ⟨rb, 2, none⟩ u2).setCell ⟨rb, 3, none⟩ u3).setCell ⟨rb, 4, none⟩ u4) := by
  subst hm hcd
  exact ⟨A, c, Mq, q, rfl, kept5 hown (far_own1 rfl hne) _ _ _ _ _, hq, touch5 ht hrb _ _ _ _ _, hfr⟩
/-- The box of an op. -/
abbrev op9Box (o : Mop) : Obj := .cells #[.int .i64 o.kind, .int .i64 o.dev, .int .i64 o.arg, .int .i64 o.n] 48
def OBox (w : World) (b : Nat) (o : Mop) : Prop := w.heap[b]? = some (.cells #[.int .i64 o.kind, .int .i64 o.dev, .int .i64 o.arg, .int .i64 o.n] 48 (0, 0))
theorem OBox.cells {w : World} {b : Nat} {o : Mop} (h : OBox w b o) : w.cell? ⟨b, 0, none⟩ = some (.int .i64 o.kind) ∧ w.cell? ⟨b, 1, none⟩ = some (.int .i64 o.dev) ∧ w.cell? ⟨b, 2, none⟩ = some (.int .i64 o.arg) ∧ w.cell? ⟨b, 3, none⟩ = some (.int .i64 o.n) := by
  unfold OBox at h
  simp [World.cell?, h]
/-- The three boxes that an op's function makes at its head. -/
def Three (w W : World) (p : Pool) (A : Option Addr) (n c : Nat) (o : Mop) : Prop :=
  Below w.heap.size w W ∧ PBox W w.heap.size p A n c ∧ OBox W (w.heap.size + 1) o ∧ RBox W (w.heap.size + 1 + 1) (.int .i64 0) (.int .i64 0) (.int .i64 0) (.int .i64 0) (.slice none 0 0) ∧ w.heap.size + 3 ≤ W.heap.size
theorem three_new (w : World) (p : Pool) (A : Option Addr) (n c : Nat) (o : Mop) : Three w (((w.alloc (poolBox p A n c)).alloc (op9Box o)).alloc zeroBox) p A n c o := by
  have h1 := PBox.new w p A n c
  have h2 : OBox ((w.alloc (poolBox p A n c)).alloc (op9Box o)) (w.heap.size + 1) o := by
    have := heap_alloc_new (w.alloc (poolBox p A n c)) (op9Box o)
    simp only [World.size_alloc] at this
    exact this
  have h3 : RBox (((w.alloc (poolBox p A n c)).alloc (op9Box o)).alloc zeroBox) (w.heap.size + 1 + 1) (.int .i64 0) (.int .i64 0) (.int .i64 0) (.int .i64 0) (.slice none 0 0) := by
    have := heap_alloc_new ((w.alloc (poolBox p A n c)).alloc (op9Box o)) zeroBox
    simp only [World.size_alloc] at this
    exact this
  exact ⟨(((Below.refl _ _).alloc (Nat.le_refl _) _).alloc (by simp) _).alloc (by simp; omega) _, (box_up (box_up h1 ((Below.refl _ _).alloc (Nat.le_refl _) _)) ((Below.refl _ _).alloc (Nat.le_refl _) _)), box_up h2 ((Below.refl _ _).alloc (Nat.le_refl _) _), h3, by simp⟩
theorem Three.below {w W W' : World} {p : Pool} {A : Option Addr} {n c : Nat} {o : Mop} (h : Three w W p A n c o) (hB : Below W.heap.size W W') : Three w W' p A n c o :=
  ⟨h.1.trans (hB.mono h.1.size), box_up h.2.1 hB, box_up h.2.2.1 hB, box_up h.2.2.2.1 hB, Nat.le_trans h.2.2.2.2 hB.size⟩
theorem Touch.three {w W : World} {p : Pool} {A : Option Addr} {n c : Nat} {o : Mop} {R : Nat → Prop} (h : Three w W p A n c o) : Touch R w W := Touch.of_below h.1
end Go.Proofs.YtcdfbpdejbpgjaaGreat

/- The reference's create (scantlingref49). Condition: the pool may be, and lies in memory of the call's own. -/
namespace Go.Proofs.YtcdfbpdejbpgjaaGreat

open Go.RowKit
attribute [local go_sem] Oper.semAt_some
set_option linter.unusedSimpArgs false
set_option linter.unusedVariables false

theorem op_ahead {w w3 : World} {base c : Nat} {p : Pool} {A : Option Addr} {M : Nat → Value} {o : Mop} (h3 : OwnDevs w base (.slice A p.devs.length c) p.devs M) (T : Three w w3 p A p.devs.length c o) :
    ∀ w', Below w3.heap.size w3 w' → Three w w' p A p.devs.length c o ∧ OwnDevs w' base (.slice A p.devs.length c) p.devs M ∧ IsPool w' (Lt w.heap.size) (.agg #[.int .i64 p.tx, .int .i64 p.time, .int .i64 p.unit, .int .i64 p.data, .slice A p.devs.length c]) p ∧ w.heap.size + 3 ≤ w'.heap.size := by
  intro w' hB
  have hT := T.below hB
  have h := h3.keep hT.1 (Nat.le_refl _)
  refine ⟨hT, h, ?_, hT.2.2.2.2⟩
  exact pool_keep (OwnP.isp h3) (fun b hb => hb.2) (keep_below hT.1 (fun b hb => hb.2))
/-- The end where nothing was done. -/
theorem do_stop {w W : World} {base n c : Nat} {p : Pool} {A : Option Addr} {M : Nat → Value} {o : Mop} {r : Int × Pool} (hn : p.devs.length = n) (hT : Three w W p A n c o) (hown : OwnDevs W base (.slice A n c) p.devs M) (h0 : OwnDevs w base (.slice A n c) p.devs M) {cd : Int} (hcd : cd = r.1) (hr : r.1 ≠ 0) (u0 u1 u2 u3 u4 : Value) :
    DoR w base (.slice A n c) n M r (.returned (.tuple #[.agg #[.int .i64 p.tx, .int .i64 p.time, .int .i64 p.unit, .int .i64 p.data, .slice A n c], .int .i64 cd])) (((((W.setCell ⟨w.heap.size + 1 + 1, 0, none⟩ u0).setCell ⟨w.heap.size + 1 + 1, 1, none⟩ u1).setCell ⟨w.heap.size + 1 + 1, 2, none⟩ u2).setCell ⟨w.heap.size + 1 + 1, 3, none⟩ u3).setCell ⟨w.heap.size + 1 + 1, 4, none⟩ u4) :=
  do_ret hown hn (Touch.three hT) (by omega) (fun h => by have := own1_lt h0 hn _ h; omega) (fun h => absurd h hr) (fun x hx => .inl hx) hcd _ _ _ _ _
set_option maxRecDepth 100000 in
set_option maxHeartbeats 1600000 in
theorem rcreate_far (w : World) (base c : Nat) (p : Pool) (A : Option Addr) (M : Nat → Value) (o : Mop) (h3 : OwnDevs w base (.slice A p.devs.length c) p.devs M) (hpc : poolChk p = 0) (r : Int × Pool) (hf : freshE p o.dev ≠ 0) (hr : r.1 = freshE p o.dev) :
    Calls Tryz.prog 54 #[.agg #[.int .i64 p.tx, .int .i64 p.time, .int .i64 p.unit, .int .i64 p.data, .slice A p.devs.length c], mopV o] w (DoR w base (.slice A p.devs.length c) p.devs.length M r) := by
  have T := three_new w p A p.devs.length c o
  dsimp only [poolBox, op9Box, zeroBox] at T
  have HAH := Lib.hid (op_ahead h3 T)
  have hln := pool_len hpc
  have HPL := Lib.hid (fun w' (hz : w.heap.size ≤ w'.heap.size) (h : IsPool w' (Lt w.heap.size) (.agg #[.int .i64 p.tx, .int .i64 p.time, .int .i64 p.unit, .int .i64 p.data, .slice A p.devs.length c]) p) => rplace_any w' (Lt w.heap.size) _ p o.dev (fun b (hb : b < w.heap.size) => Nat.lt_of_lt_of_le hb hz) h (incK_devs hpc) (by omega))
  have H3 := Lib.hid h3
  have hcs : (o.dev < 0 ∧ freshE p o.dev = 2) ∨ (¬ o.dev < 0 ∧ 16777215 < o.dev ∧ freshE p o.dev = 2) ∨ (¬ o.dev < 0 ∧ ¬ 16777215 < o.dev ∧ 0 ≤ placeI p o.dev ∧ freshE p o.dev = 17) := by
    unfold freshE at hf ⊢
    by_cases h1 : o.dev < 0
    · exact .inl ⟨h1, by rw [if_pos (.inl h1)]⟩
    · by_cases h2 : 16777215 < o.dev
      · exact .inr (.inl ⟨h1, h2, by rw [if_pos (.inr h2)]⟩)
      · rw [if_neg (by omega)] at hf
        by_cases h3 : dhas p o.dev = true
        · exact .inr (.inr ⟨h1, h2, by unfold placeI; rw [if_pos h3]; omega, by rw [if_neg (by omega), if_pos h3]⟩)
        · rw [if_neg h3] at hf; exact absurd rfl hf
  have HR := Lib.hid hr
  have HF := Lib.hid hf
  clear hr hf h3 hpc
  generalize hfe : freshE p o.dev = fe at *
  clear hfe
  generalize placeI p o.dev = pl at *
  generalize hl0 : p.devs.length = n at *
  have hl := Lib.hid hl0
  clear hl0
  rcases hcs with ⟨d1, d2⟩ | ⟨d1, d2, d3⟩ | ⟨d1, d2, d3, d4⟩
  · have HR2 := Lib.hid (And.intro (show (2 : Int) = r.1 by rw [HR.out, d2]) (show r.1 ≠ 0 by rw [HR.out]; exact HF.out))
    clear HF HR d2
    go_enter Tryz.func54, Tryz.ntmps54
    go_upto_region 1 with fail
    generalize ((w.alloc (.cells #[.int .i64 p.tx, .int .i64 p.time, .int .i64 p.unit, .int .i64 p.data, .slice A n c] 24)).alloc (.cells #[.int .i64 o.kind, .int .i64 o.dev, .int .i64 o.arg, .int .i64 o.n] 48)).alloc (.cells #[.int .i64 0, .int .i64 0, .int .i64 0, .int .i64 0, .slice none 0 0] 24) = w3 at *
    have hk3 := Below.refl w3.heap.size w3
    obtain ⟨x0, x1, x2, x3, x4⟩ := (HAH.out w3 hk3).1.2.1.cells
    obtain ⟨y0, y1, y2, y3⟩ := (HAH.out w3 hk3).1.2.2.1.cells
    obtain ⟨z0, z1, z2, z3, z4⟩ := (HAH.out w3 hk3).1.2.2.2.1.cells
    have f0 := (HAH.out w3 hk3).1.2.2.2.1.free 0
    have f1 := (HAH.out w3 hk3).1.2.2.2.1.free 1
    have f2 := (HAH.out w3 hk3).1.2.2.2.1.free 2
    have f3 := (HAH.out w3 hk3).1.2.2.2.1.free 3
    have f4 := (HAH.out w3 hk3).1.2.2.2.1.free 4
    go_wp2_with fail
    obtain ⟨q0, q1, q2, q3, q4⟩ := cells5 (set5 (HAH.out w3 hk3).1.2.2.2.1 (.int .i64 p.tx) (.int .i64 p.time) (.int .i64 p.unit) (.int .i64 p.data) (.slice A n c))
    refine bodyPost_ret (v := .tuple #[.agg #[.int .i64 p.tx, .int .i64 p.time, .int .i64 p.unit, .int .i64 p.data, .slice A n c], .int .i64 2]) (by simp [results, Tryz.results54, go_sem, q0, q1, q2, q3, q4]) rfl ?_
    exact do_stop hl.out (HAH.out w3 hk3).1 (HAH.out w3 hk3).2.1 H3.out HR2.out.1 HR2.out.2 _ _ _ _ _
  · have HR2 := Lib.hid (And.intro (show (2 : Int) = r.1 by rw [HR.out, d3]) (show r.1 ≠ 0 by rw [HR.out]; exact HF.out))
    clear HF HR d3
    go_enter Tryz.func54, Tryz.ntmps54
    go_upto_region 1 with fail
    generalize ((w.alloc (.cells #[.int .i64 p.tx, .int .i64 p.time, .int .i64 p.unit, .int .i64 p.data, .slice A n c] 24)).alloc (.cells #[.int .i64 o.kind, .int .i64 o.dev, .int .i64 o.arg, .int .i64 o.n] 48)).alloc (.cells #[.int .i64 0, .int .i64 0, .int .i64 0, .int .i64 0, .slice none 0 0] 24) = w3 at *
    have hk3 := Below.refl w3.heap.size w3
    obtain ⟨x0, x1, x2, x3, x4⟩ := (HAH.out w3 hk3).1.2.1.cells
    obtain ⟨y0, y1, y2, y3⟩ := (HAH.out w3 hk3).1.2.2.1.cells
    obtain ⟨z0, z1, z2, z3, z4⟩ := (HAH.out w3 hk3).1.2.2.2.1.cells
    have f0 := (HAH.out w3 hk3).1.2.2.2.1.free 0
    have f1 := (HAH.out w3 hk3).1.2.2.2.1.free 1
    have f2 := (HAH.out w3 hk3).1.2.2.2.1.free 2
    have f3 := (HAH.out w3 hk3).1.2.2.2.1.free 3
    have f4 := (HAH.out w3 hk3).1.2.2.2.1.free 4
    go_wp2_with fail
    obtain ⟨q0, q1, q2, q3, q4⟩ := cells5 (set5 (HAH.out w3 hk3).1.2.2.2.1 (.int .i64 p.tx) (.int .i64 p.time) (.int .i64 p.unit) (.int .i64 p.data) (.slice A n c))
    refine bodyPost_ret (v := .tuple #[.agg #[.int .i64 p.tx, .int .i64 p.time, .int .i64 p.unit, .int .i64 p.data, .slice A n c], .int .i64 2]) (by simp [results, Tryz.results54, go_sem, q0, q1, q2, q3, q4]) rfl ?_
    exact do_stop hl.out (HAH.out w3 hk3).1 (HAH.out w3 hk3).2.1 H3.out HR2.out.1 HR2.out.2 _ _ _ _ _
  · have HR2 := Lib.hid (And.intro (show (17 : Int) = r.1 by rw [HR.out, d4]) (show r.1 ≠ 0 by rw [HR.out]; exact HF.out))
    clear HF HR d4
    go_enter Tryz.func54, Tryz.ntmps54
    go_upto_region 1 with fail
    generalize ((w.alloc (.cells #[.int .i64 p.tx, .int .i64 p.time, .int .i64 p.unit, .int .i64 p.data, .slice A n c] 24)).alloc (.cells #[.int .i64 o.kind, .int .i64 o.dev, .int .i64 o.arg, .int .i64 o.n] 48)).alloc (.cells #[.int .i64 0, .int .i64 0, .int .i64 0, .int .i64 0, .slice none 0 0] 24) = w3 at *
    have hk3 := Below.refl w3.heap.size w3
    obtain ⟨x0, x1, x2, x3, x4⟩ := (HAH.out w3 hk3).1.2.1.cells
    obtain ⟨y0, y1, y2, y3⟩ := (HAH.out w3 hk3).1.2.2.1.cells
    obtain ⟨z0, z1, z2, z3, z4⟩ := (HAH.out w3 hk3).1.2.2.2.1.cells
    have f0 := (HAH.out w3 hk3).1.2.2.2.1.free 0
    have f1 := (HAH.out w3 hk3).1.2.2.2.1.free 1
    have f2 := (HAH.out w3 hk3).1.2.2.2.1.free 2
    have f3 := (HAH.out w3 hk3).1.2.2.2.1.free 3
    have f4 := (HAH.out w3 hk3).1.2.2.2.1.free 4
    go_wp2_with (go_at_call 55; (have hx := HPL.out w3 (HAH.out w3 hk3).1.1.size (HAH.out w3 hk3).2.2.1; with_reducible refine hx.mono ?_; clear hx); rintro e w4 ⟨rfl, hk4⟩; clear x0 x1 x2 x3 x4 y0 y1 y2 y3 z0 z1 z2 z3 z4 f0 f1 f2 f3 f4; obtain ⟨x0, x1, x2, x3, x4⟩ := (HAH.out w4 hk4).1.2.1.cells; obtain ⟨z0, z1, z2, z3, z4⟩ := (HAH.out w4 hk4).1.2.2.2.1.cells; have f0 := (HAH.out w4 hk4).1.2.2.2.1.free 0; have f1 := (HAH.out w4 hk4).1.2.2.2.1.free 1; have f2 := (HAH.out w4 hk4).1.2.2.2.1.free 2; have f3 := (HAH.out w4 hk4).1.2.2.2.1.free 3; have f4 := (HAH.out w4 hk4).1.2.2.2.1.free 4)
    obtain ⟨q0, q1, q2, q3, q4⟩ := cells5 (set5 (HAH.out w4 hk4).1.2.2.2.1 (.int .i64 p.tx) (.int .i64 p.time) (.int .i64 p.unit) (.int .i64 p.data) (.slice A n c))
    refine bodyPost_ret (v := .tuple #[.agg #[.int .i64 p.tx, .int .i64 p.time, .int .i64 p.unit, .int .i64 p.data, .slice A n c], .int .i64 17]) (by simp [results, Tryz.results54, go_sem, q0, q1, q2, q3, q4]) rfl ?_
    exact do_stop hl.out (HAH.out w4 hk4).1 (HAH.out w4 hk4).2.1 H3.out HR2.out.1 HR2.out.2 _ _ _ _ _
/-- The end behind 'with'. -/
theorem do_with {w w4 W : World} {base n c c5 : Nat} {p q : Pool} {A A5 : Option Addr} {M M5 : Nat → Value} {o : Mop} (hT : Three w w4 p A n c o) (hown : OwnDevs W base (.slice A5 q.devs.length c5) q.devs M5) (h0 : OwnDevs w base (.slice A n c) p.devs M) (hn : p.devs.length = n) (ht : Touch (Own1 (.slice A n c) n M) w W)
    (hv5 : ∀ x, (Value.slice A5 q.devs.length c5).ownBlock = some x → w4.heap.size ≤ x) (hM5 : ∀ j x, (M5 j).ownBlock = some x → (∃ k, k < n ∧ (M k).ownBlock = some x) ∨ w4.heap.size ≤ x) (u0 u1 u2 u3 u4 : Value) :
    DoR w base (.slice A n c) n M (0, q) (.returned (.tuple #[.agg #[.int .i64 q.tx, .int .i64 q.time, .int .i64 q.unit, .int .i64 q.data, .slice A5 q.devs.length c5], .int .i64 0])) (((((W.setCell ⟨w.heap.size + 1 + 1, 0, none⟩ u0).setCell ⟨w.heap.size + 1 + 1, 1, none⟩ u1).setCell ⟨w.heap.size + 1 + 1, 2, none⟩ u2).setCell ⟨w.heap.size + 1 + 1, 3, none⟩ u3).setCell ⟨w.heap.size + 1 + 1, 4, none⟩ u4) := by
  have hz := hT.2.2.2.2
  have hlt := own1_lt h0 hn
  refine do_ret hown rfl ht (by omega) (fun h => ?_) (fun _ => rfl) (fun x hx => ?_) rfl _ _ _ _ _
  · rcases h with h | ⟨j, _, h⟩
    · have := hv5 _ h; omega
    · rcases hM5 j _ h with ⟨k, hk, h⟩ | h
      · have := hlt _ (.inr ⟨k, hk, h⟩); omega
      · omega
  · rcases hx with h | ⟨j, _, h⟩
    · have := hv5 _ h; exact .inr (by omega)
    · rcases hM5 j _ h with h | h
      · exact .inl (.inr h)
      · exact .inr (by omega)
/-- A device is made. -/
theorem fresh_no {p : Pool} {id : Int} (h : freshE p id = 0) : 0 ≤ id ∧ id ≤ 16777215 ∧ dhas p id = false ∧ placeI p id = -1 := by
  unfold freshE at h
  split at h
  · omega
  · split at h
    · omega
    · rename_i h1 h2
      exact ⟨by omega, by omega, by simpa using h2, by unfold placeI; rw [if_neg h2]⟩
set_option maxRecDepth 100000 in
set_option maxHeartbeats 1600000 in
theorem rcreate_one (w : World) (base c : Nat) (p : Pool) (A : Option Addr) (M : Nat → Value) (o : Mop) (h3 : OwnDevs w base (.slice A p.devs.length c) p.devs M) (hb : base ≤ w.heap.size) (hpc : poolChk p = 0) (hf : freshE p o.dev = 0) (hk : o.kind = 1) :
    Calls Tryz.prog 54 #[.agg #[.int .i64 p.tx, .int .i64 p.time, .int .i64 p.unit, .int .i64 p.data, .slice A p.devs.length c], mopV o] w (DoR w base (.slice A p.devs.length c) p.devs.length M (createF p o)) := by
  have T := three_new w p A p.devs.length c o
  dsimp only [poolBox, op9Box, zeroBox] at T
  have HAH := Lib.hid (op_ahead h3 T)
  have hln := pool_len hpc
  obtain ⟨d1, d2, d3, d4⟩ := fresh_no hf
  have HPL := Lib.hid (fun w' (hz : w.heap.size ≤ w'.heap.size) (h : IsPool w' (Lt w.heap.size) (.agg #[.int .i64 p.tx, .int .i64 p.time, .int .i64 p.unit, .int .i64 p.data, .slice A p.devs.length c]) p) => rplace_any w' (Lt w.heap.size) _ p o.dev (fun b (hb : b < w.heap.size) => Nat.lt_of_lt_of_le hb hz) h (incK_devs hpc) (by omega))
  rw [d4] at HPL
  have HWI := Lib.hid (fun w' (hz : w.heap.size ≤ w'.heap.size) (h : OwnDevs w' base (.slice A p.devs.length c) p.devs M) => with_any w' base c 0 p A none M (fun _ => False) o.dev [] (fun _ h => h.elim) h (by omega) IsSl.nil_ (by omega) (by simp) (incK_devs hpc) d3)
  have H3 := Lib.hid h3
  have hcr : createF p o = if 4096 ≤ p.devs.length then (2, p) else (0, addF p o.dev []) := by unfold createF; rw [if_neg (by rw [hf]; simp)]
  rw [hcr]
  have hkb : (o.kind == 1) = true := by simp [hk]
  clear h3 hpc hf d3 d4 hcr hk
  generalize hl0 : p.devs.length = n at *
  have hl := Lib.hid hl0
  clear hl0
  have hd1 : ¬ o.dev < 0 := by omega
  have hd2 : ¬ 16777215 < o.dev := by omega
  by_cases hn : 4096 ≤ n
  · have HR2 := Lib.hid (And.intro (show (2 : Int) = (if 4096 ≤ n then ((2 : Int), p) else (0, addF p o.dev [])).1 by rw [if_pos hn]) (show (if 4096 ≤ n then ((2 : Int), p) else (0, addF p o.dev [])).1 ≠ 0 by rw [if_pos hn]; simp))
    generalize (if 4096 ≤ n then ((2 : Int), p) else (0, addF p o.dev [])) = r at *
    go_enter Tryz.func54, Tryz.ntmps54
    go_upto_region 1 with fail
    generalize ((w.alloc (.cells #[.int .i64 p.tx, .int .i64 p.time, .int .i64 p.unit, .int .i64 p.data, .slice A n c] 24)).alloc (.cells #[.int .i64 o.kind, .int .i64 o.dev, .int .i64 o.arg, .int .i64 o.n] 48)).alloc (.cells #[.int .i64 0, .int .i64 0, .int .i64 0, .int .i64 0, .slice none 0 0] 24) = w3 at *
    have hk3 := Below.refl w3.heap.size w3
    obtain ⟨x0, x1, x2, x3, x4⟩ := (HAH.out w3 hk3).1.2.1.cells
    obtain ⟨y0, y1, y2, y3⟩ := (HAH.out w3 hk3).1.2.2.1.cells
    obtain ⟨z0, z1, z2, z3, z4⟩ := (HAH.out w3 hk3).1.2.2.2.1.cells
    have f0 := (HAH.out w3 hk3).1.2.2.2.1.free 0
    have f1 := (HAH.out w3 hk3).1.2.2.2.1.free 1
    have f2 := (HAH.out w3 hk3).1.2.2.2.1.free 2
    have f3 := (HAH.out w3 hk3).1.2.2.2.1.free 3
    have f4 := (HAH.out w3 hk3).1.2.2.2.1.free 4
    go_wp2_with (go_at_call 55; (have hx := HPL.out w3 (HAH.out w3 hk3).1.1.size (HAH.out w3 hk3).2.2.1; with_reducible refine hx.mono ?_; clear hx); rintro e w4 ⟨rfl, hk4⟩; clear x0 x1 x2 x3 x4 y0 y1 y2 y3 z0 z1 z2 z3 z4 f0 f1 f2 f3 f4; obtain ⟨x0, x1, x2, x3, x4⟩ := (HAH.out w4 hk4).1.2.1.cells; obtain ⟨y0, y1, y2, y3⟩ := (HAH.out w4 hk4).1.2.2.1.cells; obtain ⟨z0, z1, z2, z3, z4⟩ := (HAH.out w4 hk4).1.2.2.2.1.cells; have f0 := (HAH.out w4 hk4).1.2.2.2.1.free 0; have f1 := (HAH.out w4 hk4).1.2.2.2.1.free 1; have f2 := (HAH.out w4 hk4).1.2.2.2.1.free 2; have f3 := (HAH.out w4 hk4).1.2.2.2.1.free 3; have f4 := (HAH.out w4 hk4).1.2.2.2.1.free 4)
    obtain ⟨q0, q1, q2, q3, q4⟩ := cells5 (set5 (HAH.out w4 hk4).1.2.2.2.1 (.int .i64 p.tx) (.int .i64 p.time) (.int .i64 p.unit) (.int .i64 p.data) (.slice A n c))
    refine bodyPost_ret (v := .tuple #[.agg #[.int .i64 p.tx, .int .i64 p.time, .int .i64 p.unit, .int .i64 p.data, .slice A n c], .int .i64 2]) (by simp [results, Tryz.results54, go_sem, q0, q1, q2, q3, q4]) rfl ?_
    exact do_stop hl.out (HAH.out w4 hk4).1 (HAH.out w4 hk4).2.1 H3.out HR2.out.1 HR2.out.2 _ _ _ _ _
  · rw [if_neg hn]
    go_enter Tryz.func54, Tryz.ntmps54
    go_upto_region 1 with fail
    generalize ((w.alloc (.cells #[.int .i64 p.tx, .int .i64 p.time, .int .i64 p.unit, .int .i64 p.data, .slice A n c] 24)).alloc (.cells #[.int .i64 o.kind, .int .i64 o.dev, .int .i64 o.arg, .int .i64 o.n] 48)).alloc (.cells #[.int .i64 0, .int .i64 0, .int .i64 0, .int .i64 0, .slice none 0 0] 24) = w3 at *
    have hk3 := Below.refl w3.heap.size w3
    obtain ⟨x0, x1, x2, x3, x4⟩ := (HAH.out w3 hk3).1.2.1.cells
    obtain ⟨y0, y1, y2, y3⟩ := (HAH.out w3 hk3).1.2.2.1.cells
    obtain ⟨z0, z1, z2, z3, z4⟩ := (HAH.out w3 hk3).1.2.2.2.1.cells
    have f0 := (HAH.out w3 hk3).1.2.2.2.1.free 0
    have f1 := (HAH.out w3 hk3).1.2.2.2.1.free 1
    have f2 := (HAH.out w3 hk3).1.2.2.2.1.free 2
    have f3 := (HAH.out w3 hk3).1.2.2.2.1.free 3
    have f4 := (HAH.out w3 hk3).1.2.2.2.1.free 4
    go_wp2_with (first
      | (go_at_call 80; refine (HWI.out w4 (HAH.out w4 hk4).1.1.size (HAH.out w4 hk4).2.1).mono ?_; rintro e w5 ⟨A5, c5, M5, rfl, h5, hB5, hv5, hM5⟩; have hk5 := hk4.trans (hB5.mono hk4.size); have hz5 := hB5.size; clear x0 x1 x2 x3 x4 y0 y1 y2 y3 z0 z1 z2 z3 z4 f0 f1 f2 f3 f4; obtain ⟨z0, z1, z2, z3, z4⟩ := (HAH.out w5 hk5).1.2.2.2.1.cells; have f0 := (HAH.out w5 hk5).1.2.2.2.1.free 0; have f1 := (HAH.out w5 hk5).1.2.2.2.1.free 1; have f2 := (HAH.out w5 hk5).1.2.2.2.1.free 2; have f3 := (HAH.out w5 hk5).1.2.2.2.1.free 3; have f4 := (HAH.out w5 hk5).1.2.2.2.1.free 4)
      | (go_at_call 55; (have hx := HPL.out w3 (HAH.out w3 hk3).1.1.size (HAH.out w3 hk3).2.2.1; with_reducible refine hx.mono ?_; clear hx); rintro e w4 ⟨rfl, hk4⟩; clear x0 x1 x2 x3 x4 y0 y1 y2 y3 z0 z1 z2 z3 z4 f0 f1 f2 f3 f4; obtain ⟨x0, x1, x2, x3, x4⟩ := (HAH.out w4 hk4).1.2.1.cells; obtain ⟨y0, y1, y2, y3⟩ := (HAH.out w4 hk4).1.2.2.1.cells; obtain ⟨z0, z1, z2, z3, z4⟩ := (HAH.out w4 hk4).1.2.2.2.1.cells; have f0 := (HAH.out w4 hk4).1.2.2.2.1.free 0; have f1 := (HAH.out w4 hk4).1.2.2.2.1.free 1; have f2 := (HAH.out w4 hk4).1.2.2.2.1.free 2; have f3 := (HAH.out w4 hk4).1.2.2.2.1.free 3; have f4 := (HAH.out w4 hk4).1.2.2.2.1.free 4))
    obtain ⟨q0, q1, q2, q3, q4⟩ := cells5 (set5 (HAH.out w5 hk5).1.2.2.2.1 (.int .i64 (addF p o.dev []).tx) (.int .i64 (addF p o.dev []).time) (.int .i64 (addF p o.dev []).unit) (.int .i64 (addF p o.dev []).data) (.slice A5 (addF p o.dev []).devs.length c5))
    refine bodyPost_ret (v := .tuple #[.agg #[.int .i64 (addF p o.dev []).tx, .int .i64 (addF p o.dev []).time, .int .i64 (addF p o.dev []).unit, .int .i64 (addF p o.dev []).data, .slice A5 (addF p o.dev []).devs.length c5], .int .i64 0]) (by simp [results, Tryz.results54, go_sem, q0, q1, q2, q3, q4]) rfl ?_
    exact do_with (HAH.out w4 hk4).1 h5 H3.out hl.out (Touch.three (HAH.out w5 hk5).1) hv5 hM5 _ _ _ _ _
end Go.Proofs.YtcdfbpdejbpgjaaGreat

/- The reference's create at a snapshot (scantlingref49). Condition: the pool may be, and lies in memory of the call's own. -/
namespace Go.Proofs.YtcdfbpdejbpgjaaGreat

open Go.RowKit
attribute [local go_sem] Oper.semAt_some
set_option linter.unusedSimpArgs false
set_option linter.unusedVariables false

theorem dhas_stamp {p : Pool} {k : Nat} (hk : k < p.devs.length) (id : Int) : dhas (stampF p k) id = dhas p id := by
  have hn : ∀ j, (nth dev0 (stampF p k).devs j).id = (nth dev0 p.devs j).id := fun j => by
    show (nth dev0 (p.devs.set k _) j).id = _
    rw [nthG_set dev0 _ k j _ hk]
    split
    · rename_i h; rw [h]; rfl
    · rfl
  have hl := len_stamp p k
  rw [Bool.eq_iff_iff, hasK_iff (d := dev0), hasK_iff (d := dev0)]
  constructor
  · rintro ⟨j, hj, he⟩; exact ⟨j, by omega, by rw [← hn]; exact he⟩
  · rintro ⟨j, hj, he⟩; exact ⟨j, by omega, by rw [hn]; exact he⟩
/-- The pool's time goes on, and the origin tells it. -/
theorem stamp9 {w w4 : World} {base g2 n c k : Nat} {p : Pool} {M : Nat → Value} {o : Mop} (hn : p.devs.length = n) (T : Three w w4 p (some ⟨g2, 0, none⟩) n c o) (h0 : OwnDevs w base (.slice (some ⟨g2, 0, none⟩) n c) p.devs M) (h3 : OwnDevs w4 base (.slice (some ⟨g2, 0, none⟩) n c) p.devs M) (hk : k < n) (W : World)
    (hW : (w4.setCell ⟨w.heap.size, 1, none⟩ (.int .i64 (p.time + 1))).setCell ⟨g2, k * 5 + 3, none⟩ (.int .i64 (p.time + 1)) = W) :
    PBox W w.heap.size (stampF p k) (some ⟨g2, 0, none⟩) n c ∧ OBox W (w.heap.size + 1) o ∧ RBox W (w.heap.size + 1 + 1) (.int .i64 0) (.int .i64 0) (.int .i64 0) (.int .i64 0) (.slice none 0 0) ∧ OwnDevs W base (.slice (some ⟨g2, 0, none⟩) n c) (stampF p k).devs M ∧ Touch (Own1 (.slice (some ⟨g2, 0, none⟩) n c) n M) w W ∧ w.heap.size + 3 ≤ W.heap.size := by
  subst hW hn
  have hlt := own1_lt h0 rfl
  have hg2 := (hlt g2 (.inl rfl)).2
  obtain ⟨hB, hP, hO, hR, hz⟩ := T
  have hst := OwnP.stored (q := ⟨p.tx, p.time + 1, p.unit, p.data, p.devs⟩) (i := 1) (u := .int .i64 (p.time + 1)) hP h3 (far_own1 rfl (fun h => by have := hlt _ h; omega)) rfl rfl
  refine ⟨?_, ?_, ?_, ?_, ?_, ?_⟩
  · exact (Below.heap_setCell _ ⟨g2, k * 5 + 3, none⟩ _ _ (by simp only [ne_eq]; omega)).trans hst.1
  · exact (Below.heap_setCell _ ⟨g2, k * 5 + 3, none⟩ _ _ (by simp only [ne_eq]; omega)).trans ((Below.heap_setCell _ ⟨w.heap.size, 1, none⟩ _ _ (by simp)).trans hO)
  · exact (Below.heap_setCell _ ⟨g2, k * 5 + 3, none⟩ _ _ (by simp only [ne_eq]; omega)).trans ((Below.heap_setCell _ ⟨w.heap.size, 1, none⟩ _ _ (by simp only [ne_eq]; omega)).trans hR)
  · exact OwnDevs.snap hst.2.1 hk _
  · exact (touch_set (Touch.of_below hB) (Nat.le_refl _) 1 _).trans (Touch.set_ (p := ⟨g2, k * 5 + 3, none⟩) (.inl rfl))
  · rw [World.size_setCell, World.size_setCell]; exact hz
theorem OwnDevs.cell3 {w : World} {base g n c r : Nat} {l : List Dev} {M : Nat → Value} (h : OwnDevs w base (.slice (some ⟨g, 0, none⟩) n c) l M) (hr : r < l.length) : w.cell? ⟨g, r * 5 + 3, none⟩ = some (.int .i64 (nth dev0 l r).snapped) := by
  obtain ⟨xs, hrow, hc, _⟩ := h
  obtain rfl : n = l.length := own_n hrow
  have hx := own_len hrow
  rw [hrow.cellAt (r * 5 + 3) (by omega)]
  exact (hc r hr).1.2.2.2.1
theorem with_stamp {w : World} {base g2 n c cm k L : Nat} {p : Pool} {Am : Option Addr} {M : Nat → Value} {id : Int} (hn : p.devs.length = n) (hk : k < n) (hb : base ≤ w.heap.size) (h : OwnDevs w base (.slice (some ⟨g2, 0, none⟩) n c) (stampF p k).devs M) (hM : M k = .slice Am L cm) (hfit : PoolFit p) (ht : p.time < 16777215) (hh : dhas p id = false) (hL : (nth dev0 p.devs k).maps.length = L := by rfl) :
    Calls Tryz.prog 80 #[.agg #[.int .i64 (stampF p k).tx, .int .i64 (stampF p k).time, .int .i64 (stampF p k).unit, .int .i64 (stampF p k).data, .slice (some ⟨g2, 0, none⟩) n c], .int .i64 id, .slice Am L cm] w (WithIs w base n M (addF (stampF p k) id (nth dev0 p.devs k).maps)) := by
  subst hn hL
  have hl := len_stamp p k
  have hs := fit_iff.2 (stamp_fit hfit hk ht)
  have h' := h
  obtain ⟨xs, h1, h2, h3⟩ := h'
  have hm := (h2 k (by rw [hl]; exact hk)).2.1
  rw [maps_stamp hk, hM] at hm
  have hml := maps_len (fit_iff.2 hfit) hk
  have hpl := pool_len (fit_iff.2 hfit)
  have hw := with_any w base c cm (stampF p k) (some ⟨g2, 0, none⟩) Am M (Btw base w.heap.size) id (nth dev0 p.devs k).maps (fun b hb => hb.2) (by rw [hl]; exact h) hb (OwnMaps.isl hm (fun b h1 h2 => ⟨h1, h2⟩)) (by rw [hl]; omega) hml (incK_devs hs) (by rw [dhas_stamp hk]; exact hh)
  rw [hl] at hw
  exact hw
set_option maxRecDepth 100000 in
set_option maxHeartbeats 3200000 in
theorem rcreate_snap (w : World) (base c : Nat) (p : Pool) (A : Option Addr) (M : Nat → Value) (o : Mop) (h3 : OwnDevs w base (.slice A p.devs.length c) p.devs M) (hb : base ≤ w.heap.size) (hpc : poolChk p = 0) (hf : freshE p o.dev = 0) (hk : o.kind = 2) :
    Calls Tryz.prog 54 #[.agg #[.int .i64 p.tx, .int .i64 p.time, .int .i64 p.unit, .int .i64 p.data, .slice A p.devs.length c], mopV o] w (DoR w base (.slice A p.devs.length c) p.devs.length M (snapF p o)) := by
  have T := three_new w p A p.devs.length c o
  dsimp only [poolBox, op9Box, zeroBox] at T
  have HAH := Lib.hid (op_ahead h3 T)
  have hln := pool_len hpc
  have hfit := fit_iff.1 hpc
  obtain ⟨d1, d2, d3, d4⟩ := fresh_no hf
  have HPL := Lib.hid (fun w' (hz : w.heap.size ≤ w'.heap.size) (h : IsPool w' (Lt w.heap.size) (.agg #[.int .i64 p.tx, .int .i64 p.time, .int .i64 p.unit, .int .i64 p.data, .slice A p.devs.length c]) p) => rplace_any w' (Lt w.heap.size) _ p o.dev (fun b (hb : b < w.heap.size) => Nat.lt_of_lt_of_le hb hz) h (incK_devs hpc) (by omega))
  rw [d4] at HPL
  have HPA := Lib.hid (fun w' (hz : w.heap.size ≤ w'.heap.size) (h : IsPool w' (Lt w.heap.size) (.agg #[.int .i64 p.tx, .int .i64 p.time, .int .i64 p.unit, .int .i64 p.data, .slice A p.devs.length c]) p) => rplace_any w' (Lt w.heap.size) _ p o.arg (fun b (hb : b < w.heap.size) => Nat.lt_of_lt_of_le hb hz) h (incK_devs hpc) (by omega))
  have H3 := Lib.hid h3
  have hcr : snapF p o = if dhas p o.arg = false then (18, p)
    else if 4096 ≤ p.devs.length ∨ 16777215 ≤ p.time ∨ 16384 < p.count + (nth dev0 p.devs (dpos p o.arg)).maps.length then (2, p)
    else (0, addF (stampF p (dpos p o.arg)) o.dev (nth dev0 p.devs (dpos p o.arg)).maps) := by unfold snapF; rw [if_neg (by rw [hf]; simp)]
  have hkb : (o.kind == 1) = false := by simp [hk]
  have hd1 : ¬ o.dev < 0 := by omega
  have hd2 : ¬ 16777215 < o.dev := by omega
  cases hbb : dhas p o.arg with
  | false =>
    rw [hcr, if_pos hbb]
    have hpl : placeI p o.arg = -1 := by unfold placeI; rw [if_neg (by rw [hbb]; simp)]
    rw [hpl] at HPA
    clear h3 hpc hf d3 d4 hcr hk hfit hbb hpl
    generalize hl0 : p.devs.length = n at *
    have hl := Lib.hid hl0
    clear hl0
    go_enter Tryz.func54, Tryz.ntmps54
    go_upto_region 1 with fail
    generalize ((w.alloc (.cells #[.int .i64 p.tx, .int .i64 p.time, .int .i64 p.unit, .int .i64 p.data, .slice A n c] 24)).alloc (.cells #[.int .i64 o.kind, .int .i64 o.dev, .int .i64 o.arg, .int .i64 o.n] 48)).alloc (.cells #[.int .i64 0, .int .i64 0, .int .i64 0, .int .i64 0, .slice none 0 0] 24) = w3 at *
    have hk3 := Below.refl w3.heap.size w3
    obtain ⟨x0, x1, x2, x3, x4⟩ := (HAH.out w3 hk3).1.2.1.cells
    obtain ⟨y0, y1, y2, y3⟩ := (HAH.out w3 hk3).1.2.2.1.cells
    obtain ⟨z0, z1, z2, z3, z4⟩ := (HAH.out w3 hk3).1.2.2.2.1.cells
    have f0 := (HAH.out w3 hk3).1.2.2.2.1.free 0
    have f1 := (HAH.out w3 hk3).1.2.2.2.1.free 1
    have f2 := (HAH.out w3 hk3).1.2.2.2.1.free 2
    have f3 := (HAH.out w3 hk3).1.2.2.2.1.free 3
    have f4 := (HAH.out w3 hk3).1.2.2.2.1.free 4
    go_wp2_with (first
      | (go_at_call 55; have _ := hk4; (have hx := HPA.out w4 (HAH.out w4 hk4).1.1.size (HAH.out w4 hk4).2.2.1; with_reducible refine hx.mono ?_; clear hx); rintro e w5 ⟨rfl, hB5⟩; have hk5 := hk4.trans (hB5.mono hk4.size); clear x0 x1 x2 x3 x4 y0 y1 y2 y3 z0 z1 z2 z3 z4 f0 f1 f2 f3 f4; obtain ⟨x0, x1, x2, x3, x4⟩ := (HAH.out w5 hk5).1.2.1.cells; obtain ⟨y0, y1, y2, y3⟩ := (HAH.out w5 hk5).1.2.2.1.cells; obtain ⟨z0, z1, z2, z3, z4⟩ := (HAH.out w5 hk5).1.2.2.2.1.cells; have f0 := (HAH.out w5 hk5).1.2.2.2.1.free 0; have f1 := (HAH.out w5 hk5).1.2.2.2.1.free 1; have f2 := (HAH.out w5 hk5).1.2.2.2.1.free 2; have f3 := (HAH.out w5 hk5).1.2.2.2.1.free 3; have f4 := (HAH.out w5 hk5).1.2.2.2.1.free 4)
      | (go_at_call 55; (have hx := HPL.out w3 (HAH.out w3 hk3).1.1.size (HAH.out w3 hk3).2.2.1; with_reducible refine hx.mono ?_; clear hx); rintro e w4 ⟨rfl, hk4⟩; clear x0 x1 x2 x3 x4 y0 y1 y2 y3 z0 z1 z2 z3 z4 f0 f1 f2 f3 f4; obtain ⟨x0, x1, x2, x3, x4⟩ := (HAH.out w4 hk4).1.2.1.cells; obtain ⟨y0, y1, y2, y3⟩ := (HAH.out w4 hk4).1.2.2.1.cells; obtain ⟨z0, z1, z2, z3, z4⟩ := (HAH.out w4 hk4).1.2.2.2.1.cells; have f0 := (HAH.out w4 hk4).1.2.2.2.1.free 0; have f1 := (HAH.out w4 hk4).1.2.2.2.1.free 1; have f2 := (HAH.out w4 hk4).1.2.2.2.1.free 2; have f3 := (HAH.out w4 hk4).1.2.2.2.1.free 3; have f4 := (HAH.out w4 hk4).1.2.2.2.1.free 4))
    obtain ⟨q0, q1, q2, q3, q4⟩ := cells5 (set5 (HAH.out w5 hk5).1.2.2.2.1 (.int .i64 p.tx) (.int .i64 p.time) (.int .i64 p.unit) (.int .i64 p.data) (.slice A n c))
    refine bodyPost_ret (v := .tuple #[.agg #[.int .i64 p.tx, .int .i64 p.time, .int .i64 p.unit, .int .i64 p.data, .slice A n c], .int .i64 18]) (by simp [results, Tryz.results54, go_sem, q0, q1, q2, q3, q4]) rfl ?_
    exact do_stop hl.out (HAH.out w5 hk5).1 (HAH.out w5 hk5).2.1 H3.out rfl (by simp) _ _ _ _ _
  | true =>
    have HFT := Lib.hid hfit
    obtain ⟨hkl, _⟩ := hasK_at (d := dev0) (v := o.arg) (incK_devs hpc) hbb
    have hkl : dpos p o.arg < p.devs.length := hkl
    have hpl : placeI p o.arg = (dpos p o.arg : Int) := by unfold placeI; rw [if_pos hbb]
    rw [hpl] at HPA
    rw [hcr, if_neg (by rw [hbb]; simp)]
    obtain ⟨g2, c2, hv, hbg2, hg2, hnc⟩ : ∃ g2 c2, (Value.slice A p.devs.length c) = .slice (some ⟨g2, 0, none⟩) p.devs.length c2 ∧ base ≤ g2 ∧ g2 < w.heap.size ∧ p.devs.length ≤ c2 := by
      obtain ⟨xs, r1, _⟩ := h3
      exact own_form r1 (by omega)
    injection hv with e1 _ e3
    subst e1 e3
    obtain ⟨_, _, _, Am, cm, hMk, hcm⟩ := h3.cellM hkl
    have HKM := Lib.hid (fun w' (h : OwnDevs w' base (.slice (some ⟨g2, 0, none⟩) p.devs.length c) p.devs M) => h.cellM hkl)
    simp only [hMk] at HKM
    have HMK := Lib.hid hMk
    have HC3 := Lib.hid (fun w' (h : OwnDevs w' base (.slice (some ⟨g2, 0, none⟩) p.devs.length c) p.devs M) => h.cell3 hkl)
    have hml := maps_len hpc hkl
    have hcn := hfit.2.2.1
    have hcn0 : 0 ≤ p.count := countL_nonneg _
    have hhd := pool_head hpc
    have HCT := Lib.hid (fun w' (hz : w.heap.size ≤ w'.heap.size) (h : IsPool w' (Lt w.heap.size) (.agg #[.int .i64 p.tx, .int .i64 p.time, .int .i64 p.unit, .int .i64 p.data, .slice (some ⟨g2, 0, none⟩) p.devs.length c]) p) => rcount_any w' (Lt w.heap.size) _ p (fun b (hb : b < w.heap.size) => Nat.lt_of_lt_of_le hb hz) h (by omega) (by omega))
    have HPC := Lib.hid hpc
    have HHA := Lib.hid d3
    have HS9 := Lib.hid (fun w4 T h => stamp9 (w4 := w4) (k := dpos p o.arg) (c := c) (o := o) rfl T h3 h hkl)
    have HWS := Lib.hid (fun w' (hb : base ≤ w'.heap.size) (h : OwnDevs w' base (.slice (some ⟨g2, 0, none⟩) p.devs.length c) (stampF p (dpos p o.arg)).devs M) (ht : p.time < 16777215) => with_stamp (id := o.dev) rfl hkl hb h hMk hfit ht d3)
    clear h3 hpc hf d3 d4 hcr hk hbb hpl hfit hMk
    have HKL := Lib.hid hkl
    generalize hkk : dpos p o.arg = k at *
    have HKK := Lib.hid hkk
    clear hkk
    generalize hLL : (nth dev0 p.devs k).maps.length = L at *
    have HLL := Lib.hid hLL
    clear hLL
    generalize hl0 : p.devs.length = n at *
    have hl := Lib.hid hl0
    clear hl0
    generalize hpcn : p.count = pc at *
    have HPCN := Lib.hid hpcn
    clear hpcn
    generalize hrr : (if 4096 ≤ n ∨ 16777215 ≤ p.time ∨ 16384 < pc + (L : Int) then ((2 : Int), p) else (0, addF (stampF p k) o.dev (nth dev0 p.devs k).maps)) = r
    have HRR := Lib.hid hrr
    clear hrr
    go_enter Tryz.func54, Tryz.ntmps54
    go_upto_region 1 with fail
    generalize ((w.alloc (.cells #[.int .i64 p.tx, .int .i64 p.time, .int .i64 p.unit, .int .i64 p.data, .slice (some ⟨g2, 0, none⟩) n c] 24)).alloc (.cells #[.int .i64 o.kind, .int .i64 o.dev, .int .i64 o.arg, .int .i64 o.n] 48)).alloc (.cells #[.int .i64 0, .int .i64 0, .int .i64 0, .int .i64 0, .slice none 0 0] 24) = w3 at *
    have hk3 := Below.refl w3.heap.size w3
    obtain ⟨x0, x1, x2, x3, x4⟩ := (HAH.out w3 hk3).1.2.1.cells
    obtain ⟨y0, y1, y2, y3⟩ := (HAH.out w3 hk3).1.2.2.1.cells
    obtain ⟨z0, z1, z2, z3, z4⟩ := (HAH.out w3 hk3).1.2.2.2.1.cells
    have f0 := (HAH.out w3 hk3).1.2.2.2.1.free 0
    have f1 := (HAH.out w3 hk3).1.2.2.2.1.free 1
    have f2 := (HAH.out w3 hk3).1.2.2.2.1.free 2
    have f3 := (HAH.out w3 hk3).1.2.2.2.1.free 3
    have f4 := (HAH.out w3 hk3).1.2.2.2.1.free 4
    go_wp2_with (first
      | (go_at_call 55; have _ := hk4; (have hx := HPA.out w4 (HAH.out w4 hk4).1.1.size (HAH.out w4 hk4).2.2.1; with_reducible refine hx.mono ?_; clear hx); rintro e w5 ⟨rfl, hB5⟩; have hk5 := hk4.trans (hB5.mono hk4.size); clear x0 x1 x2 x3 x4 y0 y1 y2 y3 z0 z1 z2 z3 z4 f0 f1 f2 f3 f4; obtain ⟨x0, x1, x2, x3, x4⟩ := (HAH.out w5 hk5).1.2.1.cells; obtain ⟨y0, y1, y2, y3⟩ := (HAH.out w5 hk5).1.2.2.1.cells; obtain ⟨z0, z1, z2, z3, z4⟩ := (HAH.out w5 hk5).1.2.2.2.1.cells; have f0 := (HAH.out w5 hk5).1.2.2.2.1.free 0; have f1 := (HAH.out w5 hk5).1.2.2.2.1.free 1; have f2 := (HAH.out w5 hk5).1.2.2.2.1.free 2; have f3 := (HAH.out w5 hk5).1.2.2.2.1.free 3; have f4 := (HAH.out w5 hk5).1.2.2.2.1.free 4)
      | (go_at_call 55; (have hx := HPL.out w3 (HAH.out w3 hk3).1.1.size (HAH.out w3 hk3).2.2.1; with_reducible refine hx.mono ?_; clear hx); rintro e w4 ⟨rfl, hk4⟩; clear x0 x1 x2 x3 x4 y0 y1 y2 y3 z0 z1 z2 z3 z4 f0 f1 f2 f3 f4; obtain ⟨x0, x1, x2, x3, x4⟩ := (HAH.out w4 hk4).1.2.1.cells; obtain ⟨y0, y1, y2, y3⟩ := (HAH.out w4 hk4).1.2.2.1.cells; obtain ⟨z0, z1, z2, z3, z4⟩ := (HAH.out w4 hk4).1.2.2.2.1.cells; have f0 := (HAH.out w4 hk4).1.2.2.2.1.free 0; have f1 := (HAH.out w4 hk4).1.2.2.2.1.free 1; have f2 := (HAH.out w4 hk4).1.2.2.2.1.free 2; have f3 := (HAH.out w4 hk4).1.2.2.2.1.free 3; have f4 := (HAH.out w4 hk4).1.2.2.2.1.free 4))
    go_cut [62] (fun s62 wx => s62 = .bool (decide (4096 ≤ n ∨ 16777215 ≤ p.time ∨ 16384 < pc + (L : Int))) ∧ Below w5.heap.size w5 wx)
    case first =>
      clear x0 x1 x2 x3 x4 y0 y1 y2 y3 z0 z1 z2 z3 z4 f0 f1 f2 f3 f4
      by_cases c1 : 4096 ≤ n
      · have a1 : decide (4096 ≤ (n : Int)) = true := decide_eq_true (by omega)
        refine wp_region_till (T := fun _ => false) (S := fun w' => Below w5.heap.size w5 w') (by kernel_rfl) (Below.refl w5.heap.size w5).drew (fun hHeld => ?_)
        obtain ⟨w101, hw0⟩ : ∃ x, w5.drew = x := ⟨_, rfl⟩
        rw [hw0] at hHeld ⊢
        have hkA : Below w5.heap.size w5 w101 := hHeld
        clear hHeld hw0
        refine wpTill_put 0 41 (oi := _) (v := ?_) rfl rfl (by kernel_rfl) (by kernel_rfl) (by kernel_rfl) (by kernel_rfl) (fun _ _ _ h => h) (by rfl) hkA ?_ ?_
        rotate_left
        · (intro w2' hSw; go_simp; (try with_reducible rfl))
        (try simp only [Act.put, List.setIfInBounds_toArray, List.set_cons_zero, List.set_cons_succ])
        refine wpTill_put 1 42 (oi := _) (v := ?_) rfl rfl (by kernel_rfl) (by kernel_rfl) (by kernel_rfl) (by kernel_rfl) (fun _ _ _ h => h) (by rfl) hkA ?_ ?_
        rotate_left
        · (intro w2' hSw; obtain ⟨x0, x1, x2, x3, x4⟩ := (HAH.out w2' (hk5.trans (Below.mono hSw hk5.size))).1.2.1.cells; go_simp; (try with_reducible rfl))
        (try simp only [Act.put, List.setIfInBounds_toArray, List.set_cons_zero, List.set_cons_succ])
        refine wpTill_put 2 43 (oi := _) (v := ?_) rfl rfl (by kernel_rfl) (by kernel_rfl) (by kernel_rfl) (by kernel_rfl) (fun _ _ _ h => h) (by rfl) hkA ?_ ?_
        rotate_left
        · (intro w2' hSw; go_simp; (try with_reducible rfl))
        (try simp only [Act.put, List.setIfInBounds_toArray, List.set_cons_zero, List.set_cons_succ])
        refine wpTill_put 3 44 (oi := _) (v := ?_) rfl rfl (by kernel_rfl) (by kernel_rfl) (by kernel_rfl) (by kernel_rfl) (fun _ _ _ h => h) (by rfl) hkA ?_ ?_
        rotate_left
        · (intro w2' hSw; go_simp; (try with_reducible rfl))
        (try simp only [Act.put, List.setIfInBounds_toArray, List.set_cons_zero, List.set_cons_succ])
        refine wpTill_put 4 45 (oi := _) (v := ?_) rfl rfl (by kernel_rfl) (by kernel_rfl) (by kernel_rfl) (by kernel_rfl) (fun _ _ _ h => h) (by rfl) hkA ?_ ?_
        rotate_left
        · (intro w2' hSw; go_simp; (try with_reducible rfl))
        (try simp only [Act.put, List.setIfInBounds_toArray, List.set_cons_zero, List.set_cons_succ])
        refine wpTill_skip 5 46 (oi := _) rfl rfl (by kernel_rfl) (by kernel_rfl) (by kernel_rfl) (by kernel_rfl) (fun _ _ _ h => h) (by rfl) hkA ?_
        (try simp only [Act.put, List.setIfInBounds_toArray, List.set_cons_zero, List.set_cons_succ])
        refine wpTill_skip 6 47 (oi := _) rfl rfl (by kernel_rfl) (by kernel_rfl) (by kernel_rfl) (by kernel_rfl) (fun _ _ _ h => h) (by rfl) hkA ?_
        (try simp only [Act.put, List.setIfInBounds_toArray, List.set_cons_zero, List.set_cons_succ])
        refine wpTill_skip 7 48 (oi := _) rfl rfl (by kernel_rfl) (by kernel_rfl) (by kernel_rfl) (by kernel_rfl) (fun _ _ _ h => h) (by rfl) hkA ?_
        (try simp only [Act.put, List.setIfInBounds_toArray, List.set_cons_zero, List.set_cons_succ])
        refine wpTill_put 8 49 (oi := _) (v := ?_) rfl rfl (by kernel_rfl) (by kernel_rfl) (by kernel_rfl) (by kernel_rfl) (fun _ _ _ h => h) (by rfl) hkA ?_ ?_
        rotate_left
        · (intro w2' hSw; go_simp; (try with_reducible rfl))
        (try simp only [Act.put, List.setIfInBounds_toArray, List.set_cons_zero, List.set_cons_succ])
        refine wpTill_put 9 50 (oi := _) (v := ?_) rfl rfl (by kernel_rfl) (by kernel_rfl) (by kernel_rfl) (by kernel_rfl) (fun _ _ _ h => h) (by rfl) hkA ?_ ?_
        rotate_left
        · (intro w2' hSw; go_simp; (try with_reducible rfl))
        (try simp only [Act.put, List.setIfInBounds_toArray, List.set_cons_zero, List.set_cons_succ])
        refine wpTill_skip 10 51 (oi := _) rfl rfl (by kernel_rfl) (by kernel_rfl) (by kernel_rfl) (by kernel_rfl) (fun _ _ _ h => h) (by rfl) hkA ?_
        (try simp only [Act.put, List.setIfInBounds_toArray, List.set_cons_zero, List.set_cons_succ])
        refine wpTill_skip 11 52 (oi := _) rfl rfl (by kernel_rfl) (by kernel_rfl) (by kernel_rfl) (by kernel_rfl) (fun _ _ _ h => h) (by rfl) hkA ?_
        (try simp only [Act.put, List.setIfInBounds_toArray, List.set_cons_zero, List.set_cons_succ])
        refine wpTill_skip 12 53 (oi := _) rfl rfl (by kernel_rfl) (by kernel_rfl) (by kernel_rfl) (by kernel_rfl) (fun _ _ _ h => h) (by rfl) hkA ?_
        (try simp only [Act.put, List.setIfInBounds_toArray, List.set_cons_zero, List.set_cons_succ])
        refine wpTill_skip 13 54 (oi := _) rfl rfl (by kernel_rfl) (by kernel_rfl) (by kernel_rfl) (by kernel_rfl) (fun _ _ _ h => h) (by rfl) hkA ?_
        (try simp only [Act.put, List.setIfInBounds_toArray, List.set_cons_zero, List.set_cons_succ])
        refine wpTill_skip 14 55 (oi := _) rfl rfl (by kernel_rfl) (by kernel_rfl) (by kernel_rfl) (by kernel_rfl) (fun _ _ _ h => h) (by rfl) hkA ?_
        (try simp only [Act.put, List.setIfInBounds_toArray, List.set_cons_zero, List.set_cons_succ])
        refine wpTill_skip 15 56 (oi := _) rfl rfl (by kernel_rfl) (by kernel_rfl) (by kernel_rfl) (by kernel_rfl) (fun _ _ _ h => h) (by rfl) hkA ?_
        (try simp only [Act.put, List.setIfInBounds_toArray, List.set_cons_zero, List.set_cons_succ])
        refine wpTill_skip 16 57 (oi := _) rfl rfl (by kernel_rfl) (by kernel_rfl) (by kernel_rfl) (by kernel_rfl) (fun _ _ _ h => h) (by rfl) hkA ?_
        (try simp only [Act.put, List.setIfInBounds_toArray, List.set_cons_zero, List.set_cons_succ])
        refine wpTill_skip 17 58 (oi := _) rfl rfl (by kernel_rfl) (by kernel_rfl) (by kernel_rfl) (by kernel_rfl) (fun _ _ _ h => h) (by rfl) hkA ?_
        (try simp only [Act.put, List.setIfInBounds_toArray, List.set_cons_zero, List.set_cons_succ])
        refine wpTill_skip 18 59 (oi := _) rfl rfl (by kernel_rfl) (by kernel_rfl) (by kernel_rfl) (by kernel_rfl) (fun _ _ _ h => h) (by rfl) hkA ?_
        (try simp only [Act.put, List.setIfInBounds_toArray, List.set_cons_zero, List.set_cons_succ])
        refine wpTill_skip 19 60 (oi := _) rfl rfl (by kernel_rfl) (by kernel_rfl) (by kernel_rfl) (by kernel_rfl) (fun _ _ _ h => h) (by rfl) hkA ?_
        (try simp only [Act.put, List.setIfInBounds_toArray, List.set_cons_zero, List.set_cons_succ])
        refine wpTill_skip 20 61 (oi := _) rfl rfl (by kernel_rfl) (by kernel_rfl) (by kernel_rfl) (by kernel_rfl) (fun _ _ _ h => h) (by rfl) hkA ?_
        (try simp only [Act.put, List.setIfInBounds_toArray, List.set_cons_zero, List.set_cons_succ])
        refine wpTill_put 21 62 (oi := _) (v := ?_) rfl rfl (by kernel_rfl) (by kernel_rfl) (by kernel_rfl) (by kernel_rfl) (fun _ _ _ h => h) (by rfl) hkA ?_ ?_
        rotate_left
        · (intro w2' hSw; go_simp; (try with_reducible rfl))
        (try simp only [Act.put, List.setIfInBounds_toArray, List.set_cons_zero, List.set_cons_succ])
        refine wpTill_done (by kernel_rfl) ?_ _
        go_wp2_with fail
        go_meet
        exact ⟨congrArg Value.bool (decide_eq_true (p := 4096 ≤ n ∨ 16777215 ≤ p.time ∨ 16384 < pc + (L : Int)) (by omega)).symm, hkA⟩
      · have a1 : decide (4096 ≤ (n : Int)) = false := decide_eq_false (by omega)
        by_cases c2 : p.time = 16777215
        · have a2 : (p.time == 16777215) = true := by simp [c2]
          refine wp_region_till (T := fun _ => false) (S := fun w' => Below w5.heap.size w5 w') (by kernel_rfl) (Below.refl w5.heap.size w5).drew (fun hHeld => ?_)
          obtain ⟨w102, hw0⟩ : ∃ x, w5.drew = x := ⟨_, rfl⟩
          rw [hw0] at hHeld ⊢
          have hkA : Below w5.heap.size w5 w102 := hHeld
          clear hHeld hw0
          refine wpTill_put 0 41 (oi := _) (v := ?_) rfl rfl (by kernel_rfl) (by kernel_rfl) (by kernel_rfl) (by kernel_rfl) (fun _ _ _ h => h) (by rfl) hkA ?_ ?_
          rotate_left
          · (intro w2' hSw; go_simp; (try with_reducible rfl))
          (try simp only [Act.put, List.setIfInBounds_toArray, List.set_cons_zero, List.set_cons_succ])
          refine wpTill_put 1 42 (oi := _) (v := ?_) rfl rfl (by kernel_rfl) (by kernel_rfl) (by kernel_rfl) (by kernel_rfl) (fun _ _ _ h => h) (by rfl) hkA ?_ ?_
          rotate_left
          · (intro w2' hSw; obtain ⟨x0, x1, x2, x3, x4⟩ := (HAH.out w2' (hk5.trans (Below.mono hSw hk5.size))).1.2.1.cells; go_simp; (try with_reducible rfl))
          (try simp only [Act.put, List.setIfInBounds_toArray, List.set_cons_zero, List.set_cons_succ])
          refine wpTill_put 2 43 (oi := _) (v := ?_) rfl rfl (by kernel_rfl) (by kernel_rfl) (by kernel_rfl) (by kernel_rfl) (fun _ _ _ h => h) (by rfl) hkA ?_ ?_
          rotate_left
          · (intro w2' hSw; go_simp; (try with_reducible rfl))
          (try simp only [Act.put, List.setIfInBounds_toArray, List.set_cons_zero, List.set_cons_succ])
          refine wpTill_put 3 44 (oi := _) (v := ?_) rfl rfl (by kernel_rfl) (by kernel_rfl) (by kernel_rfl) (by kernel_rfl) (fun _ _ _ h => h) (by rfl) hkA ?_ ?_
          rotate_left
          · (intro w2' hSw; go_simp; (try with_reducible rfl))
          (try simp only [Act.put, List.setIfInBounds_toArray, List.set_cons_zero, List.set_cons_succ])
          refine wpTill_put 4 45 (oi := _) (v := ?_) rfl rfl (by kernel_rfl) (by kernel_rfl) (by kernel_rfl) (by kernel_rfl) (fun _ _ _ h => h) (by rfl) hkA ?_ ?_
          rotate_left
          · (intro w2' hSw; go_simp; (try with_reducible rfl))
          (try simp only [Act.put, List.setIfInBounds_toArray, List.set_cons_zero, List.set_cons_succ])
          refine wpTill_put 5 46 (oi := _) (v := ?_) rfl rfl (by kernel_rfl) (by kernel_rfl) (by kernel_rfl) (by kernel_rfl) (fun _ _ _ h => h) (by rfl) hkA ?_ ?_
          rotate_left
          · (intro w2' hSw; go_simp; (try with_reducible rfl))
          (try simp only [Act.put, List.setIfInBounds_toArray, List.set_cons_zero, List.set_cons_succ])
          refine wpTill_put 6 47 (oi := _) (v := ?_) rfl rfl (by kernel_rfl) (by kernel_rfl) (by kernel_rfl) (by kernel_rfl) (fun _ _ _ h => h) (by rfl) hkA ?_ ?_
          rotate_left
          · (intro w2' hSw; obtain ⟨x0, x1, x2, x3, x4⟩ := (HAH.out w2' (hk5.trans (Below.mono hSw hk5.size))).1.2.1.cells; go_simp; (try with_reducible rfl))
          (try simp only [Act.put, List.setIfInBounds_toArray, List.set_cons_zero, List.set_cons_succ])
          refine wpTill_put 7 48 (oi := _) (v := ?_) rfl rfl (by kernel_rfl) (by kernel_rfl) (by kernel_rfl) (by kernel_rfl) (fun _ _ _ h => h) (by rfl) hkA ?_ ?_
          rotate_left
          · (intro w2' hSw; go_simp; (try with_reducible rfl))
          (try simp only [Act.put, List.setIfInBounds_toArray, List.set_cons_zero, List.set_cons_succ])
          refine wpTill_put 8 49 (oi := _) (v := ?_) rfl rfl (by kernel_rfl) (by kernel_rfl) (by kernel_rfl) (by kernel_rfl) (fun _ _ _ h => h) (by rfl) hkA ?_ ?_
          rotate_left
          · (intro w2' hSw; go_simp; (try with_reducible rfl))
          (try simp only [Act.put, List.setIfInBounds_toArray, List.set_cons_zero, List.set_cons_succ])
          refine wpTill_put 9 50 (oi := _) (v := ?_) rfl rfl (by kernel_rfl) (by kernel_rfl) (by kernel_rfl) (by kernel_rfl) (fun _ _ _ h => h) (by rfl) hkA ?_ ?_
          rotate_left
          · (intro w2' hSw; go_simp; (try with_reducible rfl))
          (try simp only [Act.put, List.setIfInBounds_toArray, List.set_cons_zero, List.set_cons_succ])
          refine wpTill_skip 10 51 (oi := _) rfl rfl (by kernel_rfl) (by kernel_rfl) (by kernel_rfl) (by kernel_rfl) (fun _ _ _ h => h) (by rfl) hkA ?_
          (try simp only [Act.put, List.setIfInBounds_toArray, List.set_cons_zero, List.set_cons_succ])
          refine wpTill_skip 11 52 (oi := _) rfl rfl (by kernel_rfl) (by kernel_rfl) (by kernel_rfl) (by kernel_rfl) (fun _ _ _ h => h) (by rfl) hkA ?_
          (try simp only [Act.put, List.setIfInBounds_toArray, List.set_cons_zero, List.set_cons_succ])
          refine wpTill_skip 12 53 (oi := _) rfl rfl (by kernel_rfl) (by kernel_rfl) (by kernel_rfl) (by kernel_rfl) (fun _ _ _ h => h) (by rfl) hkA ?_
          (try simp only [Act.put, List.setIfInBounds_toArray, List.set_cons_zero, List.set_cons_succ])
          refine wpTill_skip 13 54 (oi := _) rfl rfl (by kernel_rfl) (by kernel_rfl) (by kernel_rfl) (by kernel_rfl) (fun _ _ _ h => h) (by rfl) hkA ?_
          (try simp only [Act.put, List.setIfInBounds_toArray, List.set_cons_zero, List.set_cons_succ])
          refine wpTill_skip 14 55 (oi := _) rfl rfl (by kernel_rfl) (by kernel_rfl) (by kernel_rfl) (by kernel_rfl) (fun _ _ _ h => h) (by rfl) hkA ?_
          (try simp only [Act.put, List.setIfInBounds_toArray, List.set_cons_zero, List.set_cons_succ])
          refine wpTill_skip 15 56 (oi := _) rfl rfl (by kernel_rfl) (by kernel_rfl) (by kernel_rfl) (by kernel_rfl) (fun _ _ _ h => h) (by rfl) hkA ?_
          (try simp only [Act.put, List.setIfInBounds_toArray, List.set_cons_zero, List.set_cons_succ])
          refine wpTill_skip 16 57 (oi := _) rfl rfl (by kernel_rfl) (by kernel_rfl) (by kernel_rfl) (by kernel_rfl) (fun _ _ _ h => h) (by rfl) hkA ?_
          (try simp only [Act.put, List.setIfInBounds_toArray, List.set_cons_zero, List.set_cons_succ])
          refine wpTill_skip 17 58 (oi := _) rfl rfl (by kernel_rfl) (by kernel_rfl) (by kernel_rfl) (by kernel_rfl) (fun _ _ _ h => h) (by rfl) hkA ?_
          (try simp only [Act.put, List.setIfInBounds_toArray, List.set_cons_zero, List.set_cons_succ])
          refine wpTill_skip 18 59 (oi := _) rfl rfl (by kernel_rfl) (by kernel_rfl) (by kernel_rfl) (by kernel_rfl) (fun _ _ _ h => h) (by rfl) hkA ?_
          (try simp only [Act.put, List.setIfInBounds_toArray, List.set_cons_zero, List.set_cons_succ])
          refine wpTill_skip 19 60 (oi := _) rfl rfl (by kernel_rfl) (by kernel_rfl) (by kernel_rfl) (by kernel_rfl) (fun _ _ _ h => h) (by rfl) hkA ?_
          (try simp only [Act.put, List.setIfInBounds_toArray, List.set_cons_zero, List.set_cons_succ])
          refine wpTill_skip 20 61 (oi := _) rfl rfl (by kernel_rfl) (by kernel_rfl) (by kernel_rfl) (by kernel_rfl) (fun _ _ _ h => h) (by rfl) hkA ?_
          (try simp only [Act.put, List.setIfInBounds_toArray, List.set_cons_zero, List.set_cons_succ])
          refine wpTill_put 21 62 (oi := _) (v := ?_) rfl rfl (by kernel_rfl) (by kernel_rfl) (by kernel_rfl) (by kernel_rfl) (fun _ _ _ h => h) (by rfl) hkA ?_ ?_
          rotate_left
          · (intro w2' hSw; go_simp; (try with_reducible rfl))
          (try simp only [Act.put, List.setIfInBounds_toArray, List.set_cons_zero, List.set_cons_succ])
          refine wpTill_done (by kernel_rfl) ?_ _
          go_wp2_with fail
          go_meet
          exact ⟨congrArg Value.bool (decide_eq_true (p := 4096 ≤ n ∨ 16777215 ≤ p.time ∨ 16384 < pc + (L : Int)) (by omega)).symm, hkA⟩
        · have a2 : (p.time == 16777215) = false := by simp [c2]
          have hws : IntKind.i64.wrap (pc + (L : Int)) = pc + (L : Int) := IntWalk.i64_in _ (by omega)
          refine wp_region_till (T := fun _ => false) (S := fun w' => Below w5.heap.size w5 w') (by kernel_rfl) (Below.refl w5.heap.size w5).drew (fun hHeld => ?_)
          obtain ⟨w103, hw0⟩ : ∃ x, w5.drew = x := ⟨_, rfl⟩
          rw [hw0] at hHeld ⊢
          have hkA : Below w5.heap.size w5 w103 := hHeld
          clear hHeld hw0
          refine wpTill_put 0 41 (oi := _) (v := ?_) rfl rfl (by kernel_rfl) (by kernel_rfl) (by kernel_rfl) (by kernel_rfl) (fun _ _ _ h => h) (by rfl) hkA ?_ ?_
          rotate_left
          · (intro w2' hSw; go_simp; (try with_reducible rfl))
          (try simp only [Act.put, List.setIfInBounds_toArray, List.set_cons_zero, List.set_cons_succ])
          refine wpTill_put 1 42 (oi := _) (v := ?_) rfl rfl (by kernel_rfl) (by kernel_rfl) (by kernel_rfl) (by kernel_rfl) (fun _ _ _ h => h) (by rfl) hkA ?_ ?_
          rotate_left
          · (intro w2' hSw; obtain ⟨x0, x1, x2, x3, x4⟩ := (HAH.out w2' (hk5.trans (Below.mono hSw hk5.size))).1.2.1.cells; go_simp; (try with_reducible rfl))
          (try simp only [Act.put, List.setIfInBounds_toArray, List.set_cons_zero, List.set_cons_succ])
          refine wpTill_put 2 43 (oi := _) (v := ?_) rfl rfl (by kernel_rfl) (by kernel_rfl) (by kernel_rfl) (by kernel_rfl) (fun _ _ _ h => h) (by rfl) hkA ?_ ?_
          rotate_left
          · (intro w2' hSw; go_simp; (try with_reducible rfl))
          (try simp only [Act.put, List.setIfInBounds_toArray, List.set_cons_zero, List.set_cons_succ])
          refine wpTill_put 3 44 (oi := _) (v := ?_) rfl rfl (by kernel_rfl) (by kernel_rfl) (by kernel_rfl) (by kernel_rfl) (fun _ _ _ h => h) (by rfl) hkA ?_ ?_
          rotate_left
          · (intro w2' hSw; go_simp; (try with_reducible rfl))
          (try simp only [Act.put, List.setIfInBounds_toArray, List.set_cons_zero, List.set_cons_succ])
          refine wpTill_put 4 45 (oi := _) (v := ?_) rfl rfl (by kernel_rfl) (by kernel_rfl) (by kernel_rfl) (by kernel_rfl) (fun _ _ _ h => h) (by rfl) hkA ?_ ?_
          rotate_left
          · (intro w2' hSw; go_simp; (try with_reducible rfl))
          (try simp only [Act.put, List.setIfInBounds_toArray, List.set_cons_zero, List.set_cons_succ])
          refine wpTill_put 5 46 (oi := _) (v := ?_) rfl rfl (by kernel_rfl) (by kernel_rfl) (by kernel_rfl) (by kernel_rfl) (fun _ _ _ h => h) (by rfl) hkA ?_ ?_
          rotate_left
          · (intro w2' hSw; go_simp; (try with_reducible rfl))
          (try simp only [Act.put, List.setIfInBounds_toArray, List.set_cons_zero, List.set_cons_succ])
          refine wpTill_put 6 47 (oi := _) (v := ?_) rfl rfl (by kernel_rfl) (by kernel_rfl) (by kernel_rfl) (by kernel_rfl) (fun _ _ _ h => h) (by rfl) hkA ?_ ?_
          rotate_left
          · (intro w2' hSw; obtain ⟨x0, x1, x2, x3, x4⟩ := (HAH.out w2' (hk5.trans (Below.mono hSw hk5.size))).1.2.1.cells; go_simp; (try with_reducible rfl))
          (try simp only [Act.put, List.setIfInBounds_toArray, List.set_cons_zero, List.set_cons_succ])
          refine wpTill_put 7 48 (oi := _) (v := ?_) rfl rfl (by kernel_rfl) (by kernel_rfl) (by kernel_rfl) (by kernel_rfl) (fun _ _ _ h => h) (by rfl) hkA ?_ ?_
          rotate_left
          · (intro w2' hSw; go_simp; (try with_reducible rfl))
          (try simp only [Act.put, List.setIfInBounds_toArray, List.set_cons_zero, List.set_cons_succ])
          refine wpTill_put 8 49 (oi := _) (v := ?_) rfl rfl (by kernel_rfl) (by kernel_rfl) (by kernel_rfl) (by kernel_rfl) (fun _ _ _ h => h) (by rfl) hkA ?_ ?_
          rotate_left
          · (intro w2' hSw; go_simp; (try with_reducible rfl))
          (try simp only [Act.put, List.setIfInBounds_toArray, List.set_cons_zero, List.set_cons_succ])
          refine wpTill_put 9 50 (oi := _) (v := ?_) rfl rfl (by kernel_rfl) (by kernel_rfl) (by kernel_rfl) (by kernel_rfl) (fun _ _ _ h => h) (by rfl) hkA ?_ ?_
          rotate_left
          · (intro w2' hSw; go_simp; (try with_reducible rfl))
          (try simp only [Act.put, List.setIfInBounds_toArray, List.set_cons_zero, List.set_cons_succ])
          refine wpTill_put 10 51 (oi := _) (v := ?_) rfl rfl (by kernel_rfl) (by kernel_rfl) (by kernel_rfl) (by kernel_rfl) (fun _ _ _ h => h) (by rfl) hkA ?_ ?_
          rotate_left
          · (intro w2' hSw; obtain ⟨x0, x1, x2, x3, x4⟩ := (HAH.out w2' (hk5.trans (Below.mono hSw hk5.size))).1.2.1.cells; go_simp; (try with_reducible rfl))
          (try simp only [Act.put, List.setIfInBounds_toArray, List.set_cons_zero, List.set_cons_succ])
          refine wpTill_put 12 53 (oi := _) (v := ?_) rfl rfl (by kernel_rfl) (by kernel_rfl) (by kernel_rfl) (by kernel_rfl) (fun _ _ _ h => h) (by rfl) hkA ?_ ?_
          rotate_left
          · (intro w2' hSw; go_simp; (try with_reducible rfl))
          (try simp only [Act.put, List.setIfInBounds_toArray, List.set_cons_zero, List.set_cons_succ])
          refine wpTill_put 13 54 (oi := _) (v := ?_) rfl rfl (by kernel_rfl) (by kernel_rfl) (by kernel_rfl) (by kernel_rfl) (fun _ _ _ h => h) (by rfl) hkA ?_ ?_
          rotate_left
          · (intro w2' hSw; obtain ⟨x0, x1, x2, x3, x4⟩ := (HAH.out w2' (hk5.trans (Below.mono hSw hk5.size))).1.2.1.cells; go_simp; (try with_reducible rfl))
          (try simp only [Act.put, List.setIfInBounds_toArray, List.set_cons_zero, List.set_cons_succ])
          refine wpTill_put 14 55 (oi := _) (v := ?_) rfl rfl (by kernel_rfl) (by kernel_rfl) (by kernel_rfl) (by kernel_rfl) (fun _ _ _ h => h) (by rfl) hkA ?_ ?_
          rotate_left
          · (intro w2' hSw; go_simp; (try with_reducible rfl))
          (try simp only [Act.put, List.setIfInBounds_toArray, List.set_cons_zero, List.set_cons_succ])
          refine wpTill_put 15 56 (oi := _) (v := ?_) rfl rfl (by kernel_rfl) (by kernel_rfl) (by kernel_rfl) (by kernel_rfl) (fun _ _ _ h => h) (by rfl) hkA ?_ ?_
          rotate_left
          · (intro w2' hSw; go_simp; (try with_reducible rfl))
          (try simp only [Act.put, List.setIfInBounds_toArray, List.set_cons_zero, List.set_cons_succ])
          refine wpTill_put 16 57 (oi := _) (v := ?_) rfl rfl (by kernel_rfl) (by kernel_rfl) (by kernel_rfl) (by kernel_rfl) (fun _ _ _ h => h) (by rfl) hkA ?_ ?_
          rotate_left
          · (intro w2' hSw; go_simp; (try with_reducible rfl))
          (try simp only [Act.put, List.setIfInBounds_toArray, List.set_cons_zero, List.set_cons_succ])
          refine wpTill_put 17 58 (oi := _) (v := ?_) rfl rfl (by kernel_rfl) (by kernel_rfl) (by kernel_rfl) (by kernel_rfl) (fun _ _ _ h => h) (by rfl) hkA ?_ ?_
          rotate_left
          · (intro w2' hSw; obtain ⟨m0, _⟩ := HKM.out w2' (HAH.out w2' (hk5.trans (Below.mono hSw hk5.size))).2.1; go_simp; (try with_reducible rfl))
          (try simp only [Act.put, List.setIfInBounds_toArray, List.set_cons_zero, List.set_cons_succ])
          refine wpTill_put 18 59 (oi := _) (v := ?_) rfl rfl (by kernel_rfl) (by kernel_rfl) (by kernel_rfl) (by kernel_rfl) (fun _ _ _ h => h) (by rfl) hkA ?_ ?_
          rotate_left
          · (intro w2' hSw; go_simp; (try with_reducible rfl))
          (try simp only [Act.put, List.setIfInBounds_toArray, List.set_cons_zero, List.set_cons_succ])
          refine wpTill_one 11 (o := _) (by kernel_rfl) rfl (fun K hK => ?_)
          go_simp
          have hkw := hk5.trans (hkA.mono hk5.size)
          refine (HCT.out w103 (HAH.out w103 hkw).1.1.size (HAH.out w103 hkw).2.2.1).mono ?_
          rintro e w104 ⟨rfl, hBn⟩
          have hkA := hkA.trans (hBn.mono hkA.size)
          clear hkw hBn
          refine hK.out _ _ (fun _ => hkA) (fun _ => ?_)
          clear hK K
          (try simp only [Act.put, List.setIfInBounds_toArray, List.set_cons_zero, List.set_cons_succ])
          refine wpTill_put 19 60 (oi := _) (v := ?_) rfl rfl (by kernel_rfl) (by kernel_rfl) (by kernel_rfl) (by kernel_rfl) (fun _ _ _ h => h) (by rfl) hkA ?_ ?_
          rotate_left
          · (intro w2' hSw; go_simp; (try with_reducible rfl))
          (try simp only [Act.put, List.setIfInBounds_toArray, List.set_cons_zero, List.set_cons_succ])
          refine wpTill_put 20 61 (oi := _) (v := ?_) rfl rfl (by kernel_rfl) (by kernel_rfl) (by kernel_rfl) (by kernel_rfl) (fun _ _ _ h => h) (by rfl) hkA ?_ ?_
          rotate_left
          · (intro w2' hSw; go_simp; (try with_reducible rfl))
          (try simp only [Act.put, List.setIfInBounds_toArray, List.set_cons_zero, List.set_cons_succ])
          refine wpTill_put 21 62 (oi := _) (v := ?_) rfl rfl (by kernel_rfl) (by kernel_rfl) (by kernel_rfl) (by kernel_rfl) (fun _ _ _ h => h) (by rfl) hkA ?_ ?_
          rotate_left
          · (intro w2' hSw; go_simp; (try with_reducible rfl))
          (try simp only [Act.put, List.setIfInBounds_toArray, List.set_cons_zero, List.set_cons_succ])
          refine wpTill_done (by kernel_rfl) ?_ _
          go_wp2_with fail
          go_meet
          exact ⟨congrArg Value.bool (decide_eq_decide.2 (by omega)), hkA⟩
    case rest =>
      obtain ⟨rfl, hBc⟩ := hcut
      have hkc := hk5.trans (hBc.mono hk5.size)
      clear x0 x1 x2 x3 x4 y0 y1 y2 y3 z0 z1 z2 z3 z4 f0 f1 f2 f3 f4
      obtain ⟨x0, x1, x2, x3, x4⟩ := (HAH.out wc hkc).1.2.1.cells
      obtain ⟨y0, y1, y2, y3⟩ := (HAH.out wc hkc).1.2.2.1.cells
      obtain ⟨z0, z1, z2, z3, z4⟩ := (HAH.out wc hkc).1.2.2.2.1.cells
      have f0 := (HAH.out wc hkc).1.2.2.2.1.free 0
      have f1 := (HAH.out wc hkc).1.2.2.2.1.free 1
      have f2 := (HAH.out wc hkc).1.2.2.2.1.free 2
      have f3 := (HAH.out wc hkc).1.2.2.2.1.free 3
      have f4 := (HAH.out wc hkc).1.2.2.2.1.free 4
      by_cases hlim : 4096 ≤ n ∨ 16777215 ≤ p.time ∨ 16384 < pc + (L : Int)
      · obtain rfl : r = (2, p) := by rw [← HRR.out, if_pos hlim]
        rw [decide_eq_true hlim]
        clear HRR
        go_wp2_with fail
        obtain ⟨q0, q1, q2, q3, q4⟩ := cells5 (set5 (HAH.out wc hkc).1.2.2.2.1 (.int .i64 p.tx) (.int .i64 p.time) (.int .i64 p.unit) (.int .i64 p.data) (.slice (some ⟨g2, 0, none⟩) n c))
        refine bodyPost_ret (v := .tuple #[.agg #[.int .i64 p.tx, .int .i64 p.time, .int .i64 p.unit, .int .i64 p.data, .slice (some ⟨g2, 0, none⟩) n c], .int .i64 2]) (by simp [results, Tryz.results54, go_sem, q0, q1, q2, q3, q4]) rfl ?_
        exact do_stop hl.out (HAH.out wc hkc).1 (HAH.out wc hkc).2.1 H3.out rfl (by simp) _ _ _ _ _
      · obtain rfl : r = (0, addF (stampF p k) o.dev (nth dev0 p.devs k).maps) := by rw [← HRR.out, if_neg hlim]
        rw [decide_eq_false hlim]
        clear HRR
        obtain ⟨m0, _, m2, _⟩ := HKM.out wc (HAH.out wc hkc).2.1
        have m1 := HC3.out wc (HAH.out wc hkc).2.1
        have fp := (HAH.out wc hkc).1.2.1.free 1
        have ht1 : (0 : Int) ≤ p.time + 1 := by omega
        have ht2 : p.time + 1 < 100000000 := by omega
        go_wp2_with fail
        obtain ⟨w6, hw6⟩ : ∃ x, (wc.setCell ⟨w.heap.size, 1, none⟩ (.int .i64 (p.time + 1))).setCell ⟨g2, k * 5 + 3, none⟩ (.int .i64 (p.time + 1)) = x := ⟨_, rfl⟩
        have hz6 : w6.heap.size = wc.heap.size := by rw [← hw6, World.size_setCell, World.size_setCell]
        have HZ6 := Lib.hid hz6
        obtain ⟨t1, t2, t3, t4, t5, t6⟩ := HS9.out wc (HAH.out wc hkc).1 (HAH.out wc hkc).2.1 w6 hw6
        rw [hw6]
        clear hw6 hz6 x0 x1 x2 x3 x4 y0 y1 y2 y3 z0 z1 z2 z3 z4 f0 f1 f2 f3 f4 m0 m1 m2 fp ht1 ht2
        have HT4 := Lib.hid t4
        have hlk := len_stamp p k
        have HT5 := Lib.hid t5
        have HKS := Lib.hid (fun w2 (hSw : Below w6.heap.size w6 w2) => (OwnDevs.cellM (t4.keep hSw (Nat.le_refl _)) (by rw [hlk, hl.out]; exact hkl)).1)
        simp only [HMK.out] at HKS
        clear t4 t5 hlk
        have htl : p.time < 16777215 := by omega
        refine wp_region_till (T := fun j => j == 10 || j == 11) (S := fun w' => Below w6.heap.size w6 w') (by kernel_rfl) (Below.refl w6.heap.size w6).drew (fun hHeld => ?_)
        obtain ⟨w105, hw0⟩ : ∃ x, w6.drew = x := ⟨_, rfl⟩
        rw [hw0] at hHeld ⊢
        have hkA : Below w6.heap.size w6 w105 := hHeld
        clear hHeld hw0
        refine wpTill_put 0 75 (oi := _) (v := ?_) rfl rfl (by kernel_rfl) (by kernel_rfl) (by kernel_rfl) (by kernel_rfl) (fun _ _ _ h => h) (by rfl) hkA ?_ ?_
        rotate_left
        · (intro w2' hSw; obtain ⟨x0, x1, x2, x3, x4⟩ := PBox.cells (box_up t1 hSw); go_simp; (try with_reducible rfl))
        (try simp only [Act.put, List.setIfInBounds_toArray, List.set_cons_zero, List.set_cons_succ])
        refine wpTill_put 1 76 (oi := _) (v := ?_) rfl rfl (by kernel_rfl) (by kernel_rfl) (by kernel_rfl) (by kernel_rfl) (fun _ _ _ h => h) (by rfl) hkA ?_ ?_
        rotate_left
        · (intro w2' hSw; go_simp; (try with_reducible rfl))
        (try simp only [Act.put, List.setIfInBounds_toArray, List.set_cons_zero, List.set_cons_succ])
        refine wpTill_put 2 77 (oi := _) (v := ?_) rfl rfl (by kernel_rfl) (by kernel_rfl) (by kernel_rfl) (by kernel_rfl) (fun _ _ _ h => h) (by rfl) hkA ?_ ?_
        rotate_left
        · (intro w2' hSw; obtain ⟨y0, y1, y2, y3⟩ := OBox.cells (box_up t2 hSw); go_simp; (try with_reducible rfl))
        (try simp only [Act.put, List.setIfInBounds_toArray, List.set_cons_zero, List.set_cons_succ])
        refine wpTill_put 3 78 (oi := _) (v := ?_) rfl rfl (by kernel_rfl) (by kernel_rfl) (by kernel_rfl) (by kernel_rfl) (fun _ _ _ h => h) (by rfl) hkA ?_ ?_
        rotate_left
        · (intro w2' hSw; go_simp; (try with_reducible rfl))
        (try simp only [Act.put, List.setIfInBounds_toArray, List.set_cons_zero, List.set_cons_succ])
        refine wpTill_put 4 79 (oi := _) (v := ?_) rfl rfl (by kernel_rfl) (by kernel_rfl) (by kernel_rfl) (by kernel_rfl) (fun _ _ _ h => h) (by rfl) hkA ?_ ?_
        rotate_left
        · (intro w2' hSw; obtain ⟨x0, x1, x2, x3, x4⟩ := PBox.cells (box_up t1 hSw); go_simp; (try with_reducible rfl))
        (try simp only [Act.put, List.setIfInBounds_toArray, List.set_cons_zero, List.set_cons_succ])
        refine wpTill_put 5 80 (oi := _) (v := ?_) rfl rfl (by kernel_rfl) (by kernel_rfl) (by kernel_rfl) (by kernel_rfl) (fun _ _ _ h => h) (by rfl) hkA ?_ ?_
        rotate_left
        · (intro w2' hSw; go_simp; (try with_reducible rfl))
        (try simp only [Act.put, List.setIfInBounds_toArray, List.set_cons_zero, List.set_cons_succ])
        refine wpTill_put 6 81 (oi := _) (v := ?_) rfl rfl (by kernel_rfl) (by kernel_rfl) (by kernel_rfl) (by kernel_rfl) (fun _ _ _ h => h) (by rfl) hkA ?_ ?_
        rotate_left
        · (intro w2' hSw; go_simp; (try with_reducible rfl))
        (try simp only [Act.put, List.setIfInBounds_toArray, List.set_cons_zero, List.set_cons_succ])
        refine wpTill_put 7 82 (oi := _) (v := ?_) rfl rfl (by kernel_rfl) (by kernel_rfl) (by kernel_rfl) (by kernel_rfl) (fun _ _ _ h => h) (by rfl) hkA ?_ ?_
        rotate_left
        · (intro w2' hSw; go_simp; (try with_reducible rfl))
        (try simp only [Act.put, List.setIfInBounds_toArray, List.set_cons_zero, List.set_cons_succ])
        refine wpTill_put 8 83 (oi := _) (v := ?_) rfl rfl (by kernel_rfl) (by kernel_rfl) (by kernel_rfl) (by kernel_rfl) (fun _ _ _ h => h) (by rfl) hkA ?_ ?_
        rotate_left
        · (intro w2' hSw; have m0 := HKS.out w2' hSw; go_simp; (try with_reducible rfl))
        (try simp only [Act.put, List.setIfInBounds_toArray, List.set_cons_zero, List.set_cons_succ])
        refine wpTill_one 9 (o := _) (by kernel_rfl) rfl (fun K hK => ?_)
        go_simp
        refine (HWS.out w105 (by have := hkA.size; omega) (HT4.out.keep hkA (Nat.le_refl _)) htl).mono ?_
        rintro e w106 ⟨A5, c5, M5, rfl, h5, hBn, hv5, hM5⟩
        have hzA := hkA.size
        have hkA := hkA.trans (hBn.mono hkA.size)
        have HV5 := Lib.hid (fun x hx => Nat.le_trans (Nat.le_trans (Nat.le_of_eq HZ6.out.symm) hzA) (hv5 x hx))
        have HM5 := Lib.hid (fun j x hx => (hM5 j x hx).imp id (fun h => Nat.le_trans (Nat.le_trans (Nat.le_of_eq HZ6.out.symm) hzA) h))
        clear hv5 hM5 hzA hBn
        refine hK.out _ _ (fun _ => hkA) (fun _ => ?_)
        clear hK K
        (try simp only [Act.put, List.setIfInBounds_toArray, List.set_cons_zero, List.set_cons_succ])
        refine wpTill_one 10 (o := _) (by kernel_rfl) rfl (fun K hK => ?_)
        obtain ⟨z0, z1, z2, z3, z4⟩ := RBox.cells (box_up t3 hkA)
        have f0 := free_of (box_up t3 hkA) 0
        have f1 := free_of (box_up t3 hkA) 1
        have f2 := free_of (box_up t3 hkA) 2
        have f3 := free_of (box_up t3 hkA) 3
        have f4 := free_of (box_up t3 hkA) 4
        go_simp
        obtain ⟨w107, hwn⟩ : ∃ x, (((((w106.setCell ⟨w.heap.size + 1 + 1, 0, none⟩ (.int .i64 (addF (stampF p k) o.dev (nth dev0 p.devs k).maps).tx)).setCell ⟨w.heap.size + 1 + 1, 1, none⟩ (.int .i64 (addF (stampF p k) o.dev (nth dev0 p.devs k).maps).time)).setCell ⟨w.heap.size + 1 + 1, 2, none⟩ (.int .i64 (addF (stampF p k) o.dev (nth dev0 p.devs k).maps).unit)).setCell ⟨w.heap.size + 1 + 1, 3, none⟩ (.int .i64 (addF (stampF p k) o.dev (nth dev0 p.devs k).maps).data)).setCell ⟨w.heap.size + 1 + 1, 4, none⟩ (.slice A5 (addF (stampF p k) o.dev (nth dev0 p.devs k).maps).devs.length c5)) = x := ⟨_, rfl⟩
        have hq5 := cells5 (set5 (box_up t3 hkA) (.int .i64 (addF (stampF p k) o.dev (nth dev0 p.devs k).maps).tx) (.int .i64 (addF (stampF p k) o.dev (nth dev0 p.devs k).maps).time) (.int .i64 (addF (stampF p k) o.dev (nth dev0 p.devs k).maps).unit) (.int .i64 (addF (stampF p k) o.dev (nth dev0 p.devs k).maps).data) (.slice A5 (addF (stampF p k) o.dev (nth dev0 p.devs k).maps).devs.length c5))
        have hfin := do_with (HAH.out wc hkc).1 h5 H3.out hl.out (HT5.out.trans (Touch.of_below hkA)) HV5.out HM5.out (.int .i64 (addF (stampF p k) o.dev (nth dev0 p.devs k).maps).tx) (.int .i64 (addF (stampF p k) o.dev (nth dev0 p.devs k).maps).time) (.int .i64 (addF (stampF p k) o.dev (nth dev0 p.devs k).maps).unit) (.int .i64 (addF (stampF p k) o.dev (nth dev0 p.devs k).maps).data) (.slice A5 (addF (stampF p k) o.dev (nth dev0 p.devs k).maps).devs.length c5)
        rw [hwn] at hq5 hfin ⊢
        clear hwn
        refine hK.out _ _ (fun h => by cases h) (fun _ => ?_)
        clear hK K
        (try simp only [Act.put, List.setIfInBounds_toArray, List.set_cons_zero, List.set_cons_succ])
        refine wpTill_one 11 (o := _) (by kernel_rfl) rfl (fun K hK => ?_)
        go_simp
        refine hK.out _ _ (fun h => by cases h) (fun _ => ?_)
        clear hK K
        (try simp only [Act.put, List.setIfInBounds_toArray, List.set_cons_zero, List.set_cons_succ])
        refine wpTill_done (by kernel_rfl) ?_ _
        go_wp2_with fail
        obtain ⟨q0, q1, q2, q3, q4⟩ := hq5
        refine bodyPost_ret (v := .tuple #[.agg #[.int .i64 (addF (stampF p k) o.dev (nth dev0 p.devs k).maps).tx, .int .i64 (addF (stampF p k) o.dev (nth dev0 p.devs k).maps).time, .int .i64 (addF (stampF p k) o.dev (nth dev0 p.devs k).maps).unit, .int .i64 (addF (stampF p k) o.dev (nth dev0 p.devs k).maps).data, .slice A5 (addF (stampF p k) o.dev (nth dev0 p.devs k).maps).devs.length c5], .int .i64 0]) (by simp [results, Tryz.results54, go_sem, q0, q1, q2, q3, q4]) rfl hfin
end Go.Proofs.YtcdfbpdejbpgjaaGreat
