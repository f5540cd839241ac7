import Derived.Test.YtjclcjhmdohemaaJn1
import Derived.Test.YtjclcjhmdohemaaPBox
import Derived.Test.YtjclcjhmdohemaaSnapP
import Derived.Test.YtjclcjhmdohemaaWCloneM
import Derived.Test.YtjclcjhmdohemaaWPool3
import Derived.Test.YtjclcjhmdohemaaOwnPool
import Derived.RangeFuncBox
import Derived.Test.YtjclcjhmdohemaaWRefsO
import Derived.Test.YtjclcjhmdohemaaMap
import Derived.Deep.Slices
import Derived.Deep.Fields
import Derived.ChangeSame
import Derived.SizedLaws
import Derived.OpenShut
import Derived.Test.YtjclcjhmdohemaaProg
import Derived.Test.YtjclcjhmdohemaaPool
import Derived.Test.YtjclcjhmdohemaaModelP
set_option linter.unusedVariables false
set_option linter.unusedSimpArgs false
/- slices.EqualFunc at devices, pool.Same, scantlingref18.Same: whether two pools are the same. Condition: no slice is longer than the reach. -/
namespace Go.Proofs.Ytjclcjhmdohemaa
open Go.RowKit


set_option maxRecDepth 100000 in
set_option maxHeartbeats 1600000 in
theorem eqDevs_any (w : World) (S1 S2 : Nat → Prop) (v1 v2 : Value) (a b : List Dev) (hS1 : ∀ b, S1 b → b < w.heap.size) (hS2 : ∀ b, S2 b → b < w.heap.size) (h1 : IsDevs w S1 v1 a) (h2 : IsDevs w S2 v2 b) (hn : a.length ≤ 1099511627776) (hm : ∀ k, k < a.length → (nth dev0 a k).maps.length ≤ 140737488355328) :
    Calls Try.prog 19 #[v1, v2, .func (.func 20) #[] #[]] w fun e w' => e = .returned (.bool (decide (a = b))) ∧ Below w.heap.size w w' := by
  obtain ⟨A, c, rfl, hc, hra⟩ := h1
  obtain ⟨B, d, rfl, hd, hrb⟩ := h2
  by_cases hl : b.length = a.length
  · rw [hl]
    generalize hna : a.length = n at *
    have HA := Lib.hid hna
    have HL := Lib.hid hl
    have HM := Lib.hid hm
    clear hna hl hc hd hm
    go_enter Try.func19, Try.ntmps19
    go_wp2_with fail
    go_loopw [17] (fun i wr => ∃ k : Nat, i = .int .i64 k ∧ k ≤ n ∧ (∀ j, j < k → nth dev0 a j = nth dev0 b j) ∧ Below w.heap.size w wr) (fun i _ => n - (intOf i).toNat)
    case atStart => exact ⟨0, rfl, by omega, fun j hj => absurd hj (by omega), Below.refl _ _⟩
    case round =>
      obtain ⟨k, rfl, hk, hsm, hB⟩ := hrel
      have HS := Lib.hid hsm
      clear hsm
      have hsz := hB.size
      by_cases hlt : k < n
      · obtain ⟨ba, oa, rfl, hba, hca⟩ := devs_cells (hra.keep rdev_stable (fun _ h => h) (keep_below hB hS1)) (by rw [HA.out]; omega)
        obtain ⟨a0, a1, a2, a3, Aa, ca, a4, hca', hra'⟩ := hca k (by rw [HA.out]; exact hlt)
        obtain ⟨bb, ob, rfl, hbb, hcb⟩ := devs_cells (hrb.keep rdev_stable (fun _ h => h) (keep_below hB hS2)) (by rw [HL.out]; omega)
        obtain ⟨b0, b1, b2, b3, Ab, cb, b4, hcb', hrb'⟩ := hcb k (by rw [HL.out]; exact hlt)
        have hmk := HM.out k hlt
        have hba2 : ba < wr.heap.size := Nat.lt_of_lt_of_le (hS1 _ hba) hsz
        have hbb2 : bb < wr.heap.size := Nat.lt_of_lt_of_le (hS2 _ hbb) hsz
        have hB2 : Below wr.heap.size wr ((wr.alloc (devBox (nth dev0 a k) Aa ca)).alloc (devBox (nth dev0 b k) Ab cb)) := ((Below.refl _ _).alloc (Nat.le_refl _) _).alloc (by simp) _
        have hsame := same_any ((wr.alloc (devBox (nth dev0 a k) Aa ca)).alloc (devBox (nth dev0 b k) Ab cb)) S1 S2 (devV (nth dev0 a k) Aa ca) (devV (nth dev0 b k) Ab cb) (nth dev0 a k) (nth dev0 b k) (fun b hb => by have := hS1 b hb; simp; omega) (fun b hb => by have := hS2 b hb; simp; omega)
          ⟨Aa, ca, rfl, hca', hra'.keep rmp_stable (fun _ h => h) (keep_below hB2 (fun b hb => by have := hS1 b hb; omega))⟩ ⟨Ab, cb, rfl, hcb', hrb'.keep rmp_stable (fun _ h => h) (keep_below hB2 (fun b hb => by have := hS2 b hb; omega))⟩ hmk
        have hB3 : Below w.heap.size w ((wr.alloc (devBox (nth dev0 a k) Aa ca)).alloc (devBox (nth dev0 b k) Ab cb)) := hB.trans (hB2.mono hsz)
        dsimp only [devV, devBox] at hsame hB3
        have HSM := Lib.hid hsame
        clear hca hcb hsame hra' hrb' hca' hcb'
        by_cases hx : nth dev0 a k = nth dev0 b k
        · have hS2 : ∀ j, j < k + 1 → nth dev0 a j = nth dev0 b j := fun j hj => by
            by_cases e : j = k
            · rw [e]; exact hx
            · exact HS.out j (by omega)
          have HS2 := Lib.hid hS2
          have hxb : decide (nth dev0 a k = nth dev0 b k) = true := decide_eq_true hx
          rw [hxb] at HSM
          clear hx hS2 HS hxb
          generalize nth dev0 a k = x1 at *
          generalize nth dev0 b k = x2 at *
          go_wp2_with (go_at_call 20; refine HSM.out.mono ?_; rintro e w2 ⟨rfl, hB4⟩)
          go_roundw
          case rel => exact ⟨k + 1, by go_num, by omega, HS2.out, hB3.trans (hB4.mono (by simp; omega))⟩
          case measure => simp [intOf]; omega
        · have hne : a ≠ b := fun e => hx (by rw [e])
          have HE := Lib.hid (decide_eq_false hne)
          have hxb : decide (nth dev0 a k = nth dev0 b k) = false := decide_eq_false hx
          rw [hxb] at HSM
          clear hne HS hx hxb
          generalize nth dev0 a k = x1 at *
          generalize nth dev0 b k = x2 at *
          go_wp2_with (go_at_call 20; refine HSM.out.mono ?_; rintro e w2 ⟨rfl, hB4⟩)
          refine bodyPost_ret (results_tmp rfl _ _ _) rfl ?_
          exact ⟨by rw [HE.out]; rfl, hB3.trans (hB4.mono (by simp; omega))⟩
      · have he : a = b := eq_of_nth dev0 (by rw [HA.out, HL.out]) (fun j hj => HS.out j (by rw [HA.out] at hj; omega))
        have HE := Lib.hid (decide_eq_true he)
        clear he HS
        go_wp2_with fail
        go_ret
        exact ⟨by rw [HE.out]; rfl, hB⟩
  · have hne : a ≠ b := fun e => hl (by rw [e])
    have HE := Lib.hid (decide_eq_false hne)
    have hl2 : ¬ a.length = b.length := fun e => hl e.symm
    clear hne
    generalize a.length = n1 at *
    generalize b.length = n2 at *
    go_enter Try.func19, Try.ntmps19
    go_wp2_with fail
    go_ret
    exact ⟨by rw [HE.out]; rfl, Below.refl _ _⟩
end Go.Proofs.Ytjclcjhmdohemaa

/- pool.Same: whether two pools are the same. Condition: no slice is longer than the reach. -/
namespace Go.Proofs.Ytjclcjhmdohemaa
open Go.RowKit

set_option maxRecDepth 100000 in
set_option maxHeartbeats 1600000 in
theorem samePool_any (w : World) (S1 S2 : Nat → Prop) (v1 v2 : Value) (d e : Pool) (hS1 : ∀ b, S1 b → b < w.heap.size) (hS2 : ∀ b, S2 b → b < w.heap.size) (h1 : IsPool w S1 v1 d) (h2 : IsPool w S2 v2 e) (hn : d.devs.length ≤ 1099511627776) (hm : ∀ k, k < d.devs.length → (nth dev0 d.devs k).maps.length ≤ 140737488355328) :
    Calls Try.prog 11 #[v1, v2] w fun x w' => x = .returned (.bool (decide (d = e))) ∧ Below w.heap.size w w' := by
  obtain ⟨A, c, rfl, hc, hra⟩ := h1
  obtain ⟨B, k, rfl, hd, hrb⟩ := h2
  have hB0 : Below w.heap.size w ((w.alloc (poolBox d A d.devs.length c)).alloc (poolBox e B e.devs.length k)) :=
    ((Below.refl _ _).alloc (Nat.le_refl _) _).alloc (by simp) _
  have hm := eqDevs_any ((w.alloc (poolBox d A d.devs.length c)).alloc (poolBox e B e.devs.length k)) S1 S2 _ _ d.devs e.devs (fun b hb => by have := hS1 b hb; simp; omega) (fun b hb => by have := hS2 b hb; simp; omega) ⟨A, c, rfl, hc, hra.keep rdev_stable (fun _ h => h) (keep_below hB0 hS1)⟩ ⟨B, k, rfl, hd, hrb.keep rdev_stable (fun _ h => h) (keep_below hB0 hS2)⟩ hn hm
  dsimp only [poolBox] at hm hB0
  have HM := Lib.hid hm
  have HD := Lib.hid (pool_dec d e)
  clear hm hra hrb hn hc hd
  by_cases g1 : d.tx = e.tx
  · skip
    by_cases g2 : d.time = e.time
    · skip
      by_cases g3 : d.unit = e.unit
      · skip
        by_cases g4 : d.data = e.data
        · skip
          have HE : Hid (decide (d = e) = decide (d.devs = e.devs)) := Lib.hid (by rw [HD.out]; simp [g1, g2, g3, g4])
          have b1 : (d.tx == e.tx) = true := by simp [g1]
          have b2 : (d.time == e.time) = true := by simp [g2]
          have b3 : (d.unit == e.unit) = true := by simp [g3]
          have b4 : (d.data == e.data) = true := by simp [g4]
          clear HD g1 g2 g3 g4
          go_enter Try.func11, Try.ntmps11
          go_wp2_with (go_at_call 19; refine HM.out.mono ?_; rintro x w2 ⟨rfl, hB2⟩)
          go_ret
          exact ⟨by rw [HE.out]; rfl, hB0.trans (hB2.mono (by simp; omega))⟩
        · have HE : Hid (decide (d = e) = false) := Lib.hid (by rw [HD.out]; simp [g4])
          have b1 : (d.tx == e.tx) = true := by simp [g1]
          have b2 : (d.time == e.time) = true := by simp [g2]
          have b3 : (d.unit == e.unit) = true := by simp [g3]
          have b4 : (d.data == e.data) = false := by simp [g4]
          clear HD HM g1 g2 g3 g4
          go_enter Try.func11, Try.ntmps11
          go_wp2
          go_ret
          exact ⟨by rw [HE.out]; rfl, hB0⟩
      · have HE : Hid (decide (d = e) = false) := Lib.hid (by rw [HD.out]; simp [g3])
        have b1 : (d.tx == e.tx) = true := by simp [g1]
        have b2 : (d.time == e.time) = true := by simp [g2]
        have b3 : (d.unit == e.unit) = false := by simp [g3]
        clear HD HM g1 g2 g3
        go_enter Try.func11, Try.ntmps11
        go_wp2
        go_ret
        exact ⟨by rw [HE.out]; rfl, hB0⟩
    · have HE : Hid (decide (d = e) = false) := Lib.hid (by rw [HD.out]; simp [g2])
      have b1 : (d.tx == e.tx) = true := by simp [g1]
      have b2 : (d.time == e.time) = false := by simp [g2]
      clear HD HM g1 g2
      go_enter Try.func11, Try.ntmps11
      go_wp2
      go_ret
      exact ⟨by rw [HE.out]; rfl, hB0⟩
  · have HE : Hid (decide (d = e) = false) := Lib.hid (by rw [HD.out]; simp [g1])
    have b1 : (d.tx == e.tx) = false := by simp [g1]
    clear HD HM g1
    go_enter Try.func11, Try.ntmps11
    go_wp2
    go_ret
    exact ⟨by rw [HE.out]; rfl, hB0⟩
end Go.Proofs.Ytjclcjhmdohemaa

/- scantlinglaw49.ModelRight ahead of its questions. Condition: the numbers fit into Go's int, and no slice is longer than the reach. -/
namespace Go.Proofs.Ytjclcjhmdohemaa
open Go.RowKit
attribute [local go_sem] Oper.semAt_some

theorem IsOps.up {w w' : World} {v : Value} {l : List Mop} (h : IsOps w (Lt w.heap.size) v l) (hB : Below w.heap.size w w') : IsOps w' (Lt w.heap.size) v l := h.keep (flat_stable _) (fun _ h => h) (keep_below hB (fun _ h => h))
theorem fewO_len {l : List Mop} (h : fewO l = 1) : l.length ≤ 60 := by
  unfold fewO at h
  split at h
  · cases h
  · split at h
    · rename_i h2
      rw [List.length_take] at h2
      omega
    · cases h
theorem fewN_one (p : Pool) : fewN p = 0 ∨ fewN p = 1 := by
  unfold fewN
  split
  · exact .inr rfl
  · exact .inl rfl
theorem maps_fewR {l : List Dev} {k : Nat} (h : k < l.length) : ((nth dev0 l k).maps.length : Int) ≤ countL l := by
  have h1 := countL_take l k h
  have h2 := countL_take_le l (k + 1)
  have h3 := countL_nonneg (l.take k)
  omega
theorem fewN_len {p : Pool} (h : fewN p = 1) : p.devs.length ≤ 200 ∧ ∀ k, k < p.devs.length → (nth dev0 p.devs k).maps.length ≤ 2000 := by
  have hf : fewB p = true := by
    unfold fewN at h
    split at h
    · assumption
    · cases h
  simp only [fewB, decide_eq_true_eq] at hf
  obtain ⟨hpn, hpc⟩ := hf
  exact ⟨hpn, fun k hk => by have := maps_fewR hk; unfold Pool.count at hpc; omega⟩
/-- What the law finds ahead of its questions: its box, and the calls of few. -/
def Ahead (w : World) (v1 va vb : Value) (p : Pool) (a b : List Mop) (A : Option Addr) (c : Nat) (W : World) : Prop :=
  ∀ w', Below (w.heap.size + 1) W w' → Below w.heap.size w w' ∧ PBox w' w.heap.size p A p.devs.length c ∧ w.heap.size + 1 ≤ w'.heap.size ∧
    (Calls Try.prog 6 #[v1] w' fun e w2 => e = .returned (.int .i64 (fewN p)) ∧ Below w'.heap.size w' w2) ∧
    (Calls Try.prog 7 #[va] w' fun e w2 => e = .returned (.int .i64 (fewO a)) ∧ w' = w2) ∧
    (Calls Try.prog 7 #[vb] w' fun e w2 => e = .returned (.int .i64 (fewO b)) ∧ w' = w2) ∧
    IsPool w' (Lt w.heap.size) v1 p ∧ IsOps w' (Lt w.heap.size) va a ∧ IsOps w' (Lt w.heap.size) vb b
theorem ahead {w : World} {v1 va vb : Value} {p : Pool} {a b : List Mop} {A : Option Addr} {c : Nat} (_hv : v1 = .agg #[.int .i64 p.tx, .int .i64 p.time, .int .i64 p.unit, .int .i64 p.data, .slice A p.devs.length c]) (h1 : IsPool w (Lt w.heap.size) v1 p) (hok : p.ok) (ha : IsOps w (Lt w.heap.size) va a) (hb : IsOps w (Lt w.heap.size) vb b) (hla : a.length ≤ 281474976710656) (hlb : b.length ≤ 281474976710656) :
    Ahead w v1 va vb p a b A c (w.alloc (poolBox p A p.devs.length c)) := by
  intro w' hB
  have h0 : Below w.heap.size w w' := ((Below.refl w.heap.size w).alloc (Nat.le_refl _) (poolBox p A p.devs.length c)).trans (hB.mono (by omega))
  have hlt : ∀ b, Lt w.heap.size b → b < w'.heap.size := fun b hb => Nat.lt_of_lt_of_le hb h0.size
  have hz := hB.size
  simp only [World.size_alloc] at hz
  exact ⟨h0, (PBox.new w p A p.devs.length c).below hB (by omega), hz, few_any w' (Lt w.heap.size) v1 p hlt (h1.below h0 (fun _ h => h)) hok, few49_any w' (Lt w.heap.size) va a (ha.up h0) hla, few49_any w' (Lt w.heap.size) vb b (hb.up h0) hlb, h1.below h0 (fun _ h => h), ha.up h0, hb.up h0⟩
end Go.Proofs.Ytjclcjhmdohemaa

/- scantlinglaw49.ModelRight where the input is not few. Condition: the numbers fit into Go's int, and no slice is longer than the reach. -/
namespace Go.Proofs.Ytjclcjhmdohemaa
open Go.RowKit
attribute [local go_sem] Oper.semAt_some
set_option maxRecDepth 100000 in
set_option maxHeartbeats 1000000 in
theorem right_far (w : World) (v1 va vb : Value) (p : Pool) (a b : List Mop) (h1 : IsPool w (Lt w.heap.size) v1 p) (hok : p.ok) (ha : IsOps w (Lt w.heap.size) va a) (hb : IsOps w (Lt w.heap.size) vb b) (hla : a.length ≤ 281474976710656) (hlb : b.length ≤ 281474976710656)
    (hf : fewN p = 0 ∨ fewO a = 0 ∨ fewO b = 0 ∨ 3000 < p.data) :
    Calls Try.prog 3 #[v1, va, vb] w fun e w' => e = .returned (.bool true) ∧ Below w.heap.size w w' := by
  obtain ⟨A, c, hv⟩ : ∃ A c, v1 = .agg #[.int .i64 p.tx, .int .i64 p.time, .int .i64 p.unit, .int .i64 p.data, .slice A p.devs.length c] := by obtain ⟨A, c, h, _⟩ := h1; exact ⟨A, c, h⟩
  have HAH := Lib.hid (ahead hv h1 hok ha hb hla hlb)
  subst hv
  have hk0 : Below (w.heap.size + 1) (w.alloc (poolBox p A p.devs.length c)) (w.alloc (poolBox p A p.devs.length c)) := Below.refl _ _
  clear h1 hok ha hb hla hlb
  unfold Ahead at HAH
  generalize fewN p = fp at *
  generalize fewO a = fa at *
  generalize fewO b = fb at *
  have hcs : (fp == 0) = true ∨ ((fp == 0) = false ∧ (fa == 0) = true) ∨ ((fp == 0) = false ∧ (fa == 0) = false ∧ (fb == 0) = true) ∨ ((fp == 0) = false ∧ (fa == 0) = false ∧ (fb == 0) = false ∧ 3000 < p.data) := by
    by_cases e1 : fp = 0
    · exact .inl (by simpa using e1)
    · by_cases e2 : fa = 0
      · exact .inr (.inl ⟨by simpa using e1, by simpa using e2⟩)
      · by_cases e3 : fb = 0
        · exact .inr (.inr (.inl ⟨by simpa using e1, by simpa using e2, by simpa using e3⟩))
        · exact .inr (.inr (.inr ⟨by simpa using e1, by simpa using e2, by simpa using e3, by omega⟩))
  clear hf
  dsimp only [poolBox] at hk0 HAH
  rcases hcs with d1 | ⟨d1, d2⟩ | ⟨d1, d2, d3⟩ | ⟨d1, d2, d3, d4⟩
  all_goals
    go_enter Try.func3, Try.ntmps3
    have hC := (HAH.out _ hk0).2.1.cells
    obtain ⟨x0, x1, x2, x3, x4⟩ := hC
    go_wp2_with (first
      | (go_at_call 6; refine (HAH.out _ hk0).2.2.2.1.mono ?_; rintro e w2 ⟨rfl, hB2⟩; have hk2 := hk0.trans (hB2.mono (by simp)); have hC := (HAH.out _ hk2).2.1.cells; clear x0 x1 x2 x3 x4; obtain ⟨x0, x1, x2, x3, x4⟩ := hC)
      | (go_at_call 7; with_reducible refine (HAH.out _ hk2).2.2.2.2.1.mono ?_; rintro e w3 ⟨rfl, rfl⟩)
      | (go_at_call 7; with_reducible refine (HAH.out _ hk2).2.2.2.2.2.1.mono ?_; rintro e w3 ⟨rfl, rfl⟩)
      | (go_at_call 8; refine (lives49 _).mono ?_; rintro e w5 ⟨rfl, hB5⟩; have hk5 := hk2.trans (hB5.mono (HAH.out _ hk2).2.2.1)))
    go_ret
    exact ⟨rfl, (HAH.out _ hk5).1⟩
end Go.Proofs.Ytjclcjhmdohemaa

/- scantlinglaw49.ModelRight where the pool may not be, or an op fails. Condition: the numbers fit into Go's int, and no slice is longer than the reach. -/
namespace Go.Proofs.Ytjclcjhmdohemaa
open Go.RowKit
attribute [local go_sem] Oper.semAt_some

/-- A pool's fields in a box of their own. -/
abbrev boxed (w : World) (u0 u1 u2 u3 u4 : Value) : World := w.alloc (.cells #[u0, u1, u2, u3, u4] 24)
theorem boxed_of (w : World) (u0 u1 u2 u3 u4 : Value) : RBox (boxed w u0 u1 u2 u3 u4) w.heap.size u0 u1 u2 u3 u4 ∧ Below w.heap.size w (boxed w u0 u1 u2 u3 u4) ∧ (boxed w u0 u1 u2 u3 u4).heap.size = w.heap.size + 1 :=
  ⟨heap_alloc_new w _, (Below.refl w.heap.size w).alloc (Nat.le_refl _) _, by simp⟩
/-- model.Run of whatever pool, of ops that are few. -/
theorem run_any (w : World) (v vl : Value) (p : Pool) (l : List Mop) (S : Nat → Prop) (hS : ∀ b, S b → b < w.heap.size) (h : IsPool w S v p) (hok : p.ok) (hl : IsOps w S vl l) (hln : l.length ≤ 281474976710656) :
    Calls Try.prog 10 #[v, vl] w (RunIs w (runF p l)) := by
  by_cases hc : poolChk p = 0
  · exact run_good w S v vl p l hS h hl hln hc
  · exact run_bad w S v vl p l hS h hok hc
/-- A box is made, then the ops are run. -/
theorem run_boxed (w : World) (u0 u1 u2 u3 u4 : Value) (v vl : Value) (p : Pool) (l : List Mop) (S : Nat → Prop) (hS : ∀ b, S b → b < w.heap.size) (h : IsPool w S v p) (hok : p.ok) (hl : IsOps w S vl l) (hln : l.length ≤ 281474976710656) :
    Calls Try.prog 10 #[v, vl] (boxed w u0 u1 u2 u3 u4) fun e w' => ∃ A c, e = .returned (.tuple #[.agg #[.int .i64 (runF p l).1.tx, .int .i64 (runF p l).1.time, .int .i64 (runF p l).1.unit, .int .i64 (runF p l).1.data, .slice A (runF p l).1.devs.length c], .int .i64 ((runF p l).2.1 : Nat), .int .i64 (runF p l).2.2]) ∧
      IsPool w' (Btw (w.heap.size + 1) w'.heap.size) (.agg #[.int .i64 (runF p l).1.tx, .int .i64 (runF p l).1.time, .int .i64 (runF p l).1.unit, .int .i64 (runF p l).1.data, .slice A (runF p l).1.devs.length c]) (runF p l).1 ∧ RBox w' w.heap.size u0 u1 u2 u3 u4 ∧ Below w.heap.size w w' ∧ w.heap.size < w'.heap.size := by
  obtain ⟨hr, hB, hz⟩ := boxed_of w u0 u1 u2 u3 u4
  refine (run_any (boxed w u0 u1 u2 u3 u4) v vl p l S (fun b hb => by have := hS b hb; rw [hz]; omega) (h.below hB hS) hok (hl.keep (flat_stable _) (fun _ h => h) (keep_below hB hS)) hln).mono ?_
  rintro e w' ⟨v', rfl, hI, hB'⟩
  rw [hz] at hI hB'
  obtain ⟨A, c, rfl, _, _⟩ := id hI
  have hz' := hB'.size
  rw [hz] at hz'
  exact ⟨A, c, rfl, hI, hr.below hB' (by omega), hB.trans (hB'.mono (by omega)), Nat.lt_of_succ_le hz'⟩
/-- A box is made, then two pools are compared. -/
theorem same_boxed (w : World) (u0 u1 u2 u3 u4 : Value) (v1 v2 : Value) (d e : Pool) (S1 S2 : Nat → Prop) (hS1 : ∀ b, S1 b → b < w.heap.size) (hS2 : ∀ b, S2 b → b < w.heap.size) (h1 : IsPool w S1 v1 d) (h2 : IsPool w S2 v2 e) (hn : d.devs.length ≤ 1099511627776) (hm : ∀ k, k < d.devs.length → (nth dev0 d.devs k).maps.length ≤ 140737488355328) :
    Calls Try.prog 11 #[v1, v2] (boxed w u0 u1 u2 u3 u4) fun x w' => x = .returned (.bool (decide (d = e))) ∧ RBox w' w.heap.size u0 u1 u2 u3 u4 ∧ Below w.heap.size w w' ∧ w.heap.size < w'.heap.size := by
  obtain ⟨hr, hB, hz⟩ := boxed_of w u0 u1 u2 u3 u4
  refine (samePool_any (boxed w u0 u1 u2 u3 u4) S1 S2 v1 v2 d e (fun b hb => by have := hS1 b hb; rw [hz]; omega) (fun b hb => by have := hS2 b hb; rw [hz]; omega) (h1.below hB hS1) (h2.below hB hS2) hn hm).mono ?_
  rintro x w' ⟨rfl, hB'⟩
  rw [hz] at hB'
  have hz' := hB'.size
  rw [hz] at hz'
  exact ⟨rfl, hr.below hB' (by omega), hB.trans (hB'.mono (by omega)), Nat.lt_of_succ_le hz'⟩
/-- The cells of another box, behind the making of a box. -/
theorem boxed_cells (w : World) (u0 u1 u2 u3 u4 : Value) {b : Nat} {v0 v1 v2 v3 v4 : Value} (h : RBox w b v0 v1 v2 v3 v4) : RBox (boxed w u0 u1 u2 u3 u4) b v0 v1 v2 v3 v4 := by
  have hlt : b < w.heap.size := (Array.getElem?_eq_some_iff.1 h).1
  exact h.below (boxed_of w u0 u1 u2 u3 u4).2.1 hlt
theorem pool_own {w : World} {base c : Nat} {A : Option Addr} {p : Pool} {M : Nat → Value} (h : OwnDevs w base (.slice A p.devs.length c) p.devs M) : IsPool w (Lt w.heap.size) (.agg #[.int .i64 p.tx, .int .i64 p.time, .int .i64 p.unit, .int .i64 p.data, .slice A p.devs.length c]) p := by
  obtain ⟨A', c', e, hc, hr⟩ := h.isl (S := Lt w.heap.size) (fun b _ hb => hb)
  injection e with e1 _ e3
  subst e1 e3
  exact ⟨A, c, rfl, hc, hr⟩
set_option maxRecDepth 100000 in
set_option maxHeartbeats 400000 in
theorem right_bad (w : World) (v1 va vb : Value) (p : Pool) (a b : List Mop) (h1 : IsPool w (Lt w.heap.size) v1 p) (hok : p.ok) (ha : IsOps w (Lt w.heap.size) va a) (hb : IsOps w (Lt w.heap.size) vb b) (hla : a.length ≤ 281474976710656) (hlb : b.length ≤ 281474976710656)
    (hfp : fewN p = 1) (hfa : fewO a = 1) (hfb : fewO b = 1) (hd : p.data ≤ 3000) (hc : poolChk p ≠ 0) :
    Calls Try.prog 3 #[v1, va, vb] w fun e w' => e = .returned (.bool true) ∧ Below w.heap.size w w' := by
  obtain ⟨A, c, hv⟩ : ∃ A c, v1 = .agg #[.int .i64 p.tx, .int .i64 p.time, .int .i64 p.unit, .int .i64 p.data, .slice A p.devs.length c] := by obtain ⟨A, c, h, _⟩ := h1; exact ⟨A, c, h⟩
  have HAH := Lib.hid (ahead hv h1 hok ha hb hla hlb)
  subst hv
  have hk0 : Below (w.heap.size + 1) (w.alloc (poolBox p A p.devs.length c)) (w.alloc (poolBox p A p.devs.length c)) := Below.refl _ _
  unfold Ahead at HAH
  rw [hfp, hfa, hfb] at HAH
  obtain ⟨hn1, hm1⟩ := fewN_len hfp
  have HCP := Lib.hid (fun w' hB => copy_own w' (Lt w.heap.size) _ p (fun b hb => Nat.lt_of_lt_of_le hb (HAH.out w' hB).1.size) (HAH.out w' hB).2.2.2.2.2.2.1 (by omega) (fun k hk => by have := hm1 k hk; omega))
  have HRUN := Lib.hid (fun w' u0 u1 u2 u3 u4 hB => run_boxed w' u0 u1 u2 u3 u4 _ va p a (Lt w.heap.size) (fun b hb => Nat.lt_of_lt_of_le hb (HAH.out w' hB).1.size) (HAH.out w' hB).2.2.2.2.2.2.1 hok (HAH.out w' hB).2.2.2.2.2.2.2.1 hla)
  have HCK := Lib.hid (fun w' hB => check_any w' (Lt w.heap.size) _ p (fun b hb => Nat.lt_of_lt_of_le hb (HAH.out w' hB).1.size) (HAH.out w' hB).2.2.2.2.2.2.1 hok)
  have HSM := Lib.hid (fun w' u0 u1 u2 u3 u4 v2 S2 hB hS2 h2 => same_boxed w' u0 u1 u2 u3 u4 _ v2 p p (Lt w.heap.size) S2 (fun b hb => Nat.lt_of_lt_of_le hb (HAH.out w' hB).1.size) hS2 (HAH.out w' hB).2.2.2.2.2.2.1 h2 (by omega) (fun k hk => by have := hm1 k hk; omega))
  have hr : runF p a = (pool0, 0, poolChk p) := by unfold runF; rw [if_pos hc]
  have hpp : decide (p = p) = true := decide_eq_true rfl
  rw [hpp] at HSM
  rw [hr] at HRUN
  clear hpp
  have HSZ := Lib.hid (fun (w' : World) (S : Nat → Prop) (v : Value) hS (h : IsPool w' S v pool0) => samePool_any w' S (Lt 0) v _ pool0 pool0 hS (fun b hb => by cases hb) h (pool0_at w' (Lt 0)) (by simp [pool0]) (fun k hk => by simp [pool0] at hk))
  have hpp : decide (pool0 = pool0) = true := decide_eq_true rfl
  rw [hpp] at HSZ
  clear hpp
  generalize poolChk p = fc at *
  have hf2 : (fc != 0) = true := by simpa using hc
  have hdd : decide (3000 < p.data) = false := by simp; omega
  have hf3 : (fc == fc) = true := by simp
  clear h1 hok ha hb hla hlb hfp hfa hfb hc hr hn1 hm1
  dsimp only [poolBox] at hk0 HAH HCP HRUN HCK HSM
  go_enter Try.func3, Try.ntmps3
  have hC := (HAH.out _ hk0).2.1.cells
  obtain ⟨x0, x1, x2, x3, x4⟩ := hC
  go_wp2_with (first
    | (go_at_call 6; refine (HAH.out _ hk0).2.2.2.1.mono ?_; rintro e w2 ⟨rfl, hB2⟩; have hk2 := hk0.trans (hB2.mono (by simp)); have hC := (HAH.out _ hk2).2.1.cells; clear x0 x1 x2 x3 x4; obtain ⟨x0, x1, x2, x3, x4⟩ := hC)
    | (go_at_call 7; with_reducible refine (HAH.out _ hk2).2.2.2.2.1.mono ?_; rintro e w3 ⟨rfl, rfl⟩)
    | (go_at_call 7; with_reducible refine (HAH.out _ hk2).2.2.2.2.2.1.mono ?_; rintro e w3 ⟨rfl, rfl⟩)
    | (go_at_call 9; refine (HCP.out _ hk2).mono ?_; rintro e w4 ⟨A4, c4, M4, rfl, ho4, hB4⟩; have hk4 := hk2.trans (hB4.mono (HAH.out _ hk2).2.2.1); have hC := (HAH.out _ hk4).2.1; have hz4 : w.heap.size < w4.heap.size := (HAH.out _ hk4).2.2.1; have hn4 : ¬ w.heap.size = w4.heap.size := (by omega); clear x0 x1 x2 x3 x4; have HO4 := Lib.hid ho4; obtain ⟨x0, x1, x2, x3, x4⟩ := hC.cells; clear hC ho4)
    | (go_at_call 10; refine (HRUN.out w4 (.int .i64 p.tx) (.int .i64 p.time) (.int .i64 p.unit) (.int .i64 p.data) (.slice A4 p.devs.length c4) hk4).mono ?_; rintro e w6 ⟨A6, c6, rfl, hI6, hr6, hB6, hz6⟩; have hk6 := hk4.trans (hB6.mono hz4); have hC := (HAH.out _ hk6).2.1; have hz46 : w4.heap.size < w6.heap.size := hz6; have hz06 : w.heap.size < w6.heap.size := (by omega); have hn6 : ¬ w.heap.size = w6.heap.size := (by omega); have hn46 : ¬ w4.heap.size = w6.heap.size := (by omega); clear x0 x1 x2 x3 x4; obtain ⟨x0, x1, x2, x3, x4⟩ := hC.cells; obtain ⟨y0, y1, y2, y3, y4⟩ := hr6.cells; have HI6 := Lib.hid hI6; have HW6 := Lib.hid (pool_own (HO4.out.below hB6)); clear hC hI6 hr6)
    | (go_at_call 12; with_reducible refine (HCK.out _ hk9).mono ?_; rintro e w10 ⟨rfl, hB10⟩; have hk10 := hk9.trans (hB10.mono (HAH.out _ hk9).2.2.1); have hq10 := hB9.trans (hB10.mono hB9.size); obtain ⟨y0, y1, y2, y3, y4⟩ := (HR8.out.below hq10 hz8).cells; clear x0 x1 x2 x3 x4)
    | (go_at_call 12; with_reducible refine (HCK.out _ hk8).mono ?_; rintro e w9 ⟨rfl, hB9⟩; have hk9 := hk8.trans (hB9.mono (HAH.out _ hk8).2.2.1); have hC := (HAH.out _ hk9).2.1; clear x0 x1 x2 x3 x4; obtain ⟨x0, x1, x2, x3, x4⟩ := hC.cells; clear hC)
    | (go_at_call 11; have hx := HSZ.out w10 (Lt w6.heap.size) _ (fun b hb => by have h1 : b < w6.heap.size := hb; have := hq10.size; omega) ((pool_keep HI6.out (fun b hb => hb.2) Keep.refl).below (hB8.trans (hq10.mono (by omega))) (fun _ h => h)); with_reducible refine hx.mono ?_; clear hx; rintro e w11 ⟨rfl, hB11⟩; have hk11 := hk10.trans (hB11.mono (HAH.out _ hk10).2.2.1))
    | (go_at_call 11; have hx := HSM.out w6 (.int .i64 pool0.tx) (.int .i64 pool0.time) (.int .i64 pool0.unit) (.int .i64 pool0.data) (.slice A6 pool0.devs.length c6) _ (Lt w6.heap.size) hk6 (fun b hb => hb) HW6.out; with_reducible refine hx.mono ?_; clear hx; rintro e w8 ⟨rfl, hr8, hB8, hz8⟩; have hk8 := hk6.trans (hB8.mono (HAH.out _ hk6).2.2.1); have hC := (HAH.out _ hk8).2.1; clear x0 x1 x2 x3 x4 y0 y1 y2 y3 y4; obtain ⟨x0, x1, x2, x3, x4⟩ := hC.cells; have HR8 := Lib.hid hr8; clear hC hr8)
    | (go_at_call 8; refine (lives49 _).mono ?_; rintro e w12 ⟨rfl, hB12⟩; have hk12 := hk11.trans (hB12.mono (HAH.out _ hk11).2.2.1)))
  go_ret
  exact ⟨rfl, (HAH.out _ hk12).1⟩
end Go.Proofs.Ytjclcjhmdohemaa

/- scantlinglaw49.ModelSnaps where the input is not few, or no snapshot is made. Condition: the numbers fit into Go's int. -/
namespace Go.Proofs.Ytjclcjhmdohemaa
open Go.RowKit
attribute [local go_sem] Oper.semAt_some

/-- What a device was deleted from is the caller's own. -/
theorem delete_own (w : World) (S : Nat → Prop) (v : Value) (p : Pool) (o : Mop) (hS : ∀ b, S b → b < w.heap.size) (h : IsPool w S v p) (hok : p.ok) (hc : poolChk p = 0) (h3 : o.kind = 3) (he : (doF p o).1 = 0) :
    Calls Try.prog 13 #[v, mopV o] w (ApOwn w (applyF p o).2) := by
  have e : doF p o = removeF p o := by unfold doF; rw [if_neg (by omega), if_neg (by omega), if_pos h3]
  exact apply_done w S v p o 38 2 hS h hok hc (by rw [kfind, if_neg (by omega), if_neg (by omega), if_pos h3]) (enters_of Try.func38 (by kernel_rfl) rfl) (fun w' base g hO hb => by rw [e]; exact remove_any w' base g p o hO hc hb) he
/-- What a law of a pool finds ahead of its questions. -/
def AheadP (w : World) (v1 : Value) (p : Pool) (A : Option Addr) (c : Nat) (W : World) : Prop :=
  ∀ w', Below (w.heap.size + 1) W w' → Below w.heap.size w w' ∧ PBox w' w.heap.size p A p.devs.length c ∧ w.heap.size + 1 ≤ w'.heap.size ∧
    (Calls Try.prog 6 #[v1] w' fun e w2 => e = .returned (.int .i64 (fewN p)) ∧ Below w'.heap.size w' w2) ∧ IsPool w' (Lt w.heap.size) v1 p
theorem aheadP {w : World} {v1 : Value} {p : Pool} {A : Option Addr} {c : Nat} (h1 : IsPool w (Lt w.heap.size) v1 p) (hok : p.ok) : AheadP w v1 p A c (w.alloc (poolBox p A p.devs.length c)) := by
  intro w' hB
  have h0 : Below w.heap.size w w' := ((Below.refl w.heap.size w).alloc (Nat.le_refl _) (poolBox p A p.devs.length c)).trans (hB.mono (by omega))
  have hlt : ∀ b, Lt w.heap.size b → b < w'.heap.size := fun b hb => Nat.lt_of_lt_of_le hb h0.size
  have hz := hB.size
  simp only [World.size_alloc] at hz
  exact ⟨h0, (PBox.new w p A p.devs.length c).below hB (by omega), hz, few_any w' (Lt w.heap.size) v1 p hlt (h1.below h0 (fun _ h => h)) hok, h1.below h0 (fun _ h => h)⟩
set_option maxRecDepth 100000 in
set_option maxHeartbeats 1000000 in
theorem snaps_far (w : World) (v1 : Value) (p : Pool) (dev origin : Int) (h1 : IsPool w (Lt w.heap.size) v1 p) (hok : p.ok) (hf : fewN p = 0 ∨ 3000 < p.data) :
    Calls Try.prog 5 #[v1, .int .i64 dev, .int .i64 origin] w fun e w' => e = .returned (.bool true) ∧ Below w.heap.size w w' := by
  obtain ⟨A, c, hv⟩ : ∃ A c, v1 = .agg #[.int .i64 p.tx, .int .i64 p.time, .int .i64 p.unit, .int .i64 p.data, .slice A p.devs.length c] := by obtain ⟨A, c, h, _⟩ := h1; exact ⟨A, c, h⟩
  have HAH := Lib.hid (aheadP (A := A) (c := c) h1 hok)
  subst hv
  have hk0 : Below (w.heap.size + 1) (w.alloc (poolBox p A p.devs.length c)) (w.alloc (poolBox p A p.devs.length c)) := Below.refl _ _
  clear h1 hok
  unfold AheadP at HAH
  generalize fewN p = fp at *
  have hcs : (fp == 0) = true ∨ ((fp == 0) = false ∧ 3000 < p.data) := by
    by_cases e1 : fp = 0
    · exact .inl (by simpa using e1)
    · exact .inr ⟨by simpa using e1, by omega⟩
  clear hf
  dsimp only [poolBox] at hk0 HAH
  rcases hcs with d1 | ⟨d1, d4⟩
  all_goals
    go_enter Try.func5, Try.ntmps5
    have hC := (HAH.out _ hk0).2.1.cells
    obtain ⟨x0, x1, x2, x3, x4⟩ := hC
    go_wp2_with (first
      | (go_at_call 6; refine (HAH.out _ hk0).2.2.2.1.mono ?_; rintro e w2 ⟨rfl, hB2⟩; have hk2 := hk0.trans (hB2.mono (by simp)); have hC := (HAH.out _ hk2).2.1.cells; clear x0 x1 x2 x3 x4; obtain ⟨x0, x1, x2, x3, x4⟩ := hC)
      | (go_at_call 8; refine (lives49 _).mono ?_; rintro e w5 ⟨rfl, hB5⟩; have hk5 := hk2.trans (hB5.mono (HAH.out _ hk2).2.2.1)))
    go_ret
    exact ⟨rfl, (HAH.out _ hk5).1⟩
end Go.Proofs.Ytjclcjhmdohemaa

/- pool.Find, scantlingref18.Find: the first device of an id. Condition: no slice is longer than the reach. -/
namespace Go.Proofs.Ytjclcjhmdohemaa
open Go.RowKit

/-- The place of the first device of an id, or -1. -/
def FoundAt (l : List Dev) (id i : Int) : Prop := (∃ k : Nat, k < l.length ∧ i = k ∧ (nth dev0 l k).id = id ∧ ∀ j, j < k → (nth dev0 l j).id ≠ id) ∨ (i = -1 ∧ ∀ j, j < l.length → (nth dev0 l j).id ≠ id)
def findD (l : List Dev) (id : Int) : Dev := (l.find? (fun d => d.id == id)).getD dev0
def findB (l : List Dev) (id : Int) : Bool := l.any (fun d => d.id == id)
theorem found_yes {l : List Dev} {id : Int} {k : Nat} (hk : k < l.length) (h : (nth dev0 l k).id = id) (hn : ∀ j, j < k → (nth dev0 l j).id ≠ id) : findD l id = nth dev0 l k ∧ findB l id = true := by
  constructor
  · unfold findD
    have : l.find? (fun d => d.id == id) = some (nth dev0 l k) := by
      rw [List.find?_eq_some_iff_getElem]
      refine ⟨by simpa using h, k, hk, (nth_get dev0 l k hk).symm, fun j hj => ?_⟩
      have := hn j hj
      rw [nth_get dev0 l j (by omega)] at this
      simpa using this
    rw [this]; rfl
  · unfold findB
    rw [List.any_eq_true]
    exact ⟨_, nth_mem dev0 l k hk, by simpa using h⟩
theorem found_no {l : List Dev} {id : Int} (hn : ∀ j, j < l.length → (nth dev0 l j).id ≠ id) : findD l id = dev0 ∧ findB l id = false := by
  have hall : ∀ d ∈ l, d.id ≠ id := fun d hd => by
    obtain ⟨j, hj, rfl⟩ := List.getElem_of_mem hd
    have := hn j hj
    rwa [nth_get dev0 l j hj] at this
  constructor
  · unfold findD
    rw [List.find?_eq_none.2 (fun d hd => by simpa using hall d hd)]; rfl
  · unfold findB
    rw [List.any_eq_false]
    exact fun d hd => by simpa using hall d hd

theorem is_any (w : World) (d : Dev) (A : Option Addr) (n c fb : Nat) (id : Int) (hf : w.cell? ⟨fb, 0, none⟩ = some (.int .i64 id)) (hlt : fb < w.heap.size) :
    Calls Try.prog 32 #[.agg #[.int .i64 d.id, .int .i64 d.tx, .int .i64 d.made, .int .i64 d.snapped, .slice A n c], .pointer (some ⟨fb, 0, none⟩)] w fun e w' => e = .returned (.bool (d.id == id)) ∧ Below w.heap.size w w' := by
  have hB0 : Below w.heap.size w (w.alloc (.cells #[.int .i64 d.id, .int .i64 d.tx, .int .i64 d.made, .int .i64 d.snapped, .slice A n c] 44)) := (Below.refl _ _).alloc (Nat.le_refl _) _
  go_enter Try.func32, Try.ntmps32
  go_wp2
  go_ret
  exact ⟨rfl, hB0⟩

set_option maxHeartbeats 800000 in
theorem idxDev_any (w : World) (S : Nat → Prop) (v : Value) (l : List Dev) (fb : Nat) (id : Int) (hS : ∀ b, S b → b < w.heap.size) (h : IsDevs w S v l) (hn : l.length ≤ 1099511627776) (hf : w.cell? ⟨fb, 0, none⟩ = some (.int .i64 id)) (hlf : fb < w.heap.size) :
    Calls Try.prog 31 #[v, .func (.func 32) #[] #[.pointer (some ⟨fb, 0, none⟩)]] w fun e w' => ∃ i : Int, e = .returned (.int .i64 i) ∧ FoundAt l id i ∧ Below w.heap.size w w' := by
  obtain ⟨A, c, rfl, _, hr⟩ := h
  generalize hl0 : l.length = n at *
  have hl := Lib.hid hl0
  clear hl0
  go_enter Try.func31, Try.ntmps31
  go_wp2_with fail
  go_loopw [8] (fun i wr => ∃ k : Nat, k ≤ n ∧ i = .int .i64 k ∧ (∀ j, j < k → (nth dev0 l j).id ≠ id) ∧ Below w.heap.size w wr) (fun i _ => n - (intOf i).toNat)
  case atStart => exact ⟨0, by omega, rfl, fun j hj => absurd hj (by omega), Below.refl _ _⟩
  case round =>
    obtain ⟨k, hk, rfl, hA, hB⟩ := hrel
    have HA := Lib.hid hA
    have hsz := hB.size
    clear hA
    by_cases hlt : k < n
    · obtain ⟨b, off, rfl, hb, hc⟩ := devs_cells (hr.keep rdev_stable (fun _ h => h) (keep_below hB hS)) (by rw [hl.out]; omega)
      obtain ⟨c0, c1, c2, c3, A', c', c4, hc', hr'⟩ := hc k (by rw [hl.out]; omega)
      have hbs := hS b hb
      have hfw : wr.cell? ⟨fb, 0, none⟩ = some (.int .i64 id) := (hB.cell (p := ⟨fb, 0, none⟩) hlf).trans hf
      have hIS := is_any wr (nth dev0 l k) A' (nth dev0 l k).maps.length c' fb id hfw (by omega)
      have HIS := Lib.hid hIS
      clear hc hr' hIS
      by_cases hid : (nth dev0 l k).id = id
      · have hbb : ((nth dev0 l k).id == id) = true := by simp [hid]
        rw [hbb] at HIS
        have HFO : Hid (FoundAt l id k) := Lib.hid (.inl ⟨k, by rw [hl.out]; exact hlt, rfl, hid, HA.out⟩)
        clear hid hbb HA
        generalize nth dev0 l k = d at *
        go_wp2_with (go_at_call 32; refine HIS.out.mono ?_; rintro e w2 ⟨rfl, hB2⟩)
        refine bodyPost_ret (results_tmp rfl _ _ _) rfl ?_
        exact ⟨_, rfl, HFO.out, hB.trans (hB2.mono hsz)⟩
      · have hbb : ((nth dev0 l k).id == id) = false := by simp [hid]
        rw [hbb] at HIS
        have hA2 : ∀ j, j < k + 1 → (nth dev0 l j).id ≠ id := fun j hj => by
          by_cases e : j = k
          · rw [e]; exact hid
          · exact HA.out j (by omega)
        have HA2 := Lib.hid hA2
        clear hid hbb HA hA2
        generalize nth dev0 l k = d at *
        go_wp2_with (go_at_call 32; refine HIS.out.mono ?_; rintro e w2 ⟨rfl, hB2⟩)
        go_roundw
        case rel => exact ⟨k + 1, by omega, by go_num, HA2.out, hB.trans (hB2.mono hsz)⟩
        case measure => simp [intOf]; omega
    · have HFO : Hid (FoundAt l id (-1)) := Lib.hid (.inr ⟨rfl, fun j hj => HA.out j (by rw [hl.out] at hj; omega)⟩)
      clear HA
      go_wp2_with fail
      go_ret
      exact ⟨_, rfl, HFO.out, hB⟩
end Go.Proofs.Ytjclcjhmdohemaa

/- What a snapshot's law asks, of the plain model. No condition: no program is in sight here. -/
namespace Go.Proofs.Ytjclcjhmdohemaa
open Go.RowKit

theorem found_at {p : Pool} {k : Nat} {id : Int} (h : PoolFit p) (hk : k < p.devs.length) (he : (nth dev0 p.devs k).id = id) : findD p.devs id = nth dev0 p.devs k ∧ findB p.devs id = true :=
  found_yes hk he (fun j hj => by have := h.2.2.2.1 j k hj hk; omega)
theorem snap_facts {p : Pool} {dev origin : Int} (h : (applyF p ⟨2, dev, origin, 0⟩).1 = 0) : ∃ k q, applyF p ⟨2, dev, origin, 0⟩ = (0, q) ∧ poolChk p = 0 ∧ poolChk q = 0 ∧ k < p.devs.length ∧ (nth dev0 p.devs k).id = origin ∧ findD p.devs origin = nth dev0 p.devs k ∧ findB p.devs origin = true ∧
    findB q.devs dev = true ∧ (findD q.devs dev).maps = (nth dev0 p.devs k).maps ∧ (findD q.devs dev).made = p.time + 1 ∧ q.time = p.time + 1 ∧ applyF q ⟨3, dev, 0, 0⟩ = (0, stampF p k) ∧ p.time < 16777215 ∧ PoolFit (stampF p k) ∧ (doF q ⟨3, dev, 0, 0⟩).1 = 0 := by
  obtain ⟨hc, _, hnd, hor, ht, hq⟩ := snap_is h
  have hf := fit_iff.1 hc
  obtain ⟨hk, hid⟩ := dpos_lt hf hor
  have hqf : PoolFit (applyF p ⟨2, dev, origin, 0⟩).2 := apply_fit h
  rw [hq] at hqf
  have hs := stamp_fit hf hk ht
  obtain ⟨a1, a2, a3, a4⟩ := addF_pos (p := stampF p (dpos p origin)) (id := dev) (m := (nth dev0 p.devs (dpos p origin)).maps)
  obtain ⟨g1, g2⟩ := found_at hf hk hid
  have hl : dpos (stampF p (dpos p origin)) dev < (addF (stampF p (dpos p origin)) dev (nth dev0 p.devs (dpos p origin)).maps).devs.length := by
    show _ < (insAt _ _ _).length
    rw [insAt_length _ _ _ a3]; omega
  obtain ⟨f1, f2⟩ := found_at (id := dev) hqf hl (by rw [a4]; rfl)
  have hrm := remove_is (p := stampF p (dpos p origin)) (id := dev) (m := (nth dev0 p.devs (dpos p origin)).maps) hqf
  have m1 := f1.trans a4
  exact ⟨dpos p origin, addF (stampF p (dpos p origin)) dev (nth dev0 p.devs (dpos p origin)).maps, Prod.ext h hq, hc, fit_iff.2 hqf, hk, hid, g1, g2, f2, (by rw [m1]; rfl), (by rw [m1]; rfl), rfl, hrm, ht, hs, (apply_is (by rw [hrm])).2.1⟩
end Go.Proofs.Ytjclcjhmdohemaa

/- What is behind a write, in plain Lean: each written block stands alone, and all others are as they were. No condition: no program is in sight here. -/
namespace Go.Proofs.Ytjclcjhmdohemaa
open Go.RowKit

/-- What becomes of device k's mappings as blocks a .. v-1 are written. -/
def Wrote (p : Pool) (k : Nat) (a v : Int) (q : Pool) : Prop :=
  ∃ m, q = setMaps p k m ∧ (∀ f : Mp → Bool, (∀ x : Mp, a ≤ x.v → x.v < v → f x = false) → m.filter f = (mapsOf p k).filter f) ∧ (∀ u, a ≤ u → u < v → ∃ x ∈ m, x.v = u) ∧ ∀ x ∈ m, a ≤ x.v → x.v < v → occD x.b q.devs = 1
theorem setMaps_self {p : Pool} {k : Nat} (hk : k < p.devs.length) : setMaps p k (mapsOf p k) = p := by
  have e : p.devs.set k ⟨(nth dev0 p.devs k).id, (nth dev0 p.devs k).tx, (nth dev0 p.devs k).made, (nth dev0 p.devs k).snapped, mapsOf p k⟩ = p.devs := by
    show p.devs.set k (nth dev0 p.devs k) = p.devs
    rw [nth_get dev0 p.devs k hk]
    exact List.set_getElem_self hk
  show (⟨p.tx, p.time, p.unit, p.data, p.devs.set k _⟩ : Pool) = p
  rw [e]
theorem setMaps_two {p : Pool} {k : Nat} (hk : k < p.devs.length) (m m' : List Mp) : setMaps (setMaps p k m) k m' = setMaps p k m' := by
  have hn : nth dev0 (setMaps p k m).devs k = ⟨(nth dev0 p.devs k).id, (nth dev0 p.devs k).tx, (nth dev0 p.devs k).made, (nth dev0 p.devs k).snapped, m⟩ := by
    have h := nthG_set dev0 p.devs k k ⟨(nth dev0 p.devs k).id, (nth dev0 p.devs k).tx, (nth dev0 p.devs k).made, (nth dev0 p.devs k).snapped, m⟩ hk
    rw [if_pos rfl] at h
    exact h
  show (⟨p.tx, p.time, p.unit, p.data, (p.devs.set k _).set k _⟩ : Pool) = ⟨p.tx, p.time, p.unit, p.data, p.devs.set k _⟩
  rw [hn, List.set_set]
theorem filter_set_out {l : List Mp} {j : Nat} {y : Mp} {f : Mp → Bool} (hj : j < l.length) (h1 : f (nth mp0 l j) = false) (h2 : f y = false) : (l.set j y).filter f = l.filter f := by
  have h := drop_nth mp0 l j hj
  have e : l.filter f = (l.take j ++ l.drop j).filter f := by rw [List.take_append_drop]
  rw [List.set_eq_take_append_cons_drop, if_pos hj, e, h, List.filter_append, List.filter_append, List.filter_cons, List.filter_cons, if_neg (by rw [h2]; simp), if_neg (by rw [h1]; simp)]
theorem filter_ins_out {l : List Mp} {j : Nat} {y : Mp} {f : Mp → Bool} (h2 : f y = false) : (insAt l j y).filter f = l.filter f := by
  have e : l.filter f = (l.take j ++ l.drop j).filter f := by rw [List.take_append_drop]
  rw [e]
  unfold insAt
  rw [List.filter_append, List.filter_append, List.filter_cons, if_neg (by rw [h2]; simp)]
/-- A key stands once. -/
theorem inc_uniq {l : List Mp} (hi : IncK Mp.v mp0 l) {x y : Mp} (hx : x ∈ l) (hy : y ∈ l) (h : x.v = y.v) : x = y := by
  obtain ⟨i, hi', rfl⟩ := List.getElem_of_mem hx
  obtain ⟨j, hj', rfl⟩ := List.getElem_of_mem hy
  rw [← nth_get mp0 l i hi', ← nth_get mp0 l j hj'] at h ⊢
  rcases Nat.lt_trichotomy i j with hlt | rfl | hlt
  · have := hi i j hlt hj'; omega
  · rfl
  · have := hi j i hlt hi'; omega
theorem occM_mem {l : List Mp} {x : Mp} (hx : x ∈ l) : 1 ≤ occM x.b l := by
  obtain ⟨i, hi', rfl⟩ := List.getElem_of_mem hx
  rw [← nth_get mp0 l i hi']
  exact occM_pos hi'
/-- One block more. -/
theorem wr1_wrote {p0 p : Pool} {k : Nat} {a v : Int} (h : PoolFit p) (hk : k < p.devs.length) (hk0 : k < p0.devs.length) (hav : a ≤ v) (hv : 0 ≤ v ∧ v ≤ 281474976710655) (hw : Wrote p0 k a v p) (he : (wr1 p k v).1 = 0) : Wrote p0 k a (v + 1) (wr1 p k v).2 := by
  have hfit := wr1_fit h hk hv he
  obtain ⟨m, hm, hf, hu, ho⟩ := hw
  have hmm : mapsOf p k = m := by rw [hm]; exact setMaps_maps hk0 m
  have hinc := inc_of h hk
  unfold wr1 at he hfit ⊢
  by_cases h1 : hasK Mp.v v (mapsOf p k) = true ∧ cntAt p k (posK Mp.v v (mapsOf p k)) = 1
  · rw [if_pos h1]
    obtain ⟨hj, hje⟩ := hasK_at hinc h1.1
    have hcj := h1.2
    have hmem : nth mp0 (mapsOf p k) (posK Mp.v v (mapsOf p k)) ∈ mapsOf p k := nth_mem mp0 _ _ hj
    have hbf := (map_fit h hk hmem).2.1
    have hcc : occD (nth mp0 (mapsOf p k) (posK Mp.v v (mapsOf p k))).b p.devs = 1 := by
      have e := refs_nth (fit_iff.2 h) (b := (nth mp0 (mapsOf p k) (posK Mp.v v (mapsOf p k))).b.toNat) (by omega)
      rw [← hcj]
      show _ = nth 0 (refsRes p) _
      rw [e, Int.toNat_of_nonneg hbf.1]
    refine ⟨m, hm, fun f hx => hf f fun x h1 h2 => hx x h1 (by omega), fun u h2 h3 => ?_, fun x hx h2 h3 => ?_⟩
    · by_cases e : u = v
      · exact ⟨nth mp0 (mapsOf p k) (posK Mp.v v (mapsOf p k)), by rw [← hmm]; exact hmem, by rw [hje, e]⟩
      · exact hu u h2 (by omega)
    · by_cases e : x.v = v
      · have hxe := inc_uniq hinc (hmm.symm ▸ hx) hmem (by rw [hje, e])
        rw [hxe]
        exact hcc
      · exact ho x hx h2 (by omega)
  · rw [if_neg h1] at he hfit ⊢
    by_cases h2 : hasK Mp.v v (mapsOf p k) = false ∧ 16384 ≤ p.count
    · rw [if_pos h2] at he; cases he
    · rw [if_neg h2] at he hfit ⊢
      by_cases h3 : freeAt (refsRes p) = (refsRes p).length
      · rw [if_pos h3] at he; cases he
      · rw [if_neg h3] at hfit ⊢
        obtain ⟨f1, f2, f3⟩ := free_facts h h3
        generalize hff : freeAt (refsRes p) = fr at *
        have hfree : ∀ x ∈ m, x.b ≠ (fr : Int) := fun x hx e => by
          have h4 := occM_mem hx
          have h5 := occD_ge x.b hk
          have h6 : (nth dev0 p.devs k).maps = m := hmm
          rw [h6, e] at h5
          rw [e] at h4
          omega
        by_cases h4 : hasK Mp.v v (mapsOf p k) = true
        · rw [if_pos h4] at hfit ⊢
          obtain ⟨hj, hje⟩ := hasK_at hinc h4
          have hn1 : cntAt p k (posK Mp.v v (mapsOf p k)) ≠ 1 := fun e => h1 ⟨h4, e⟩
          have hmem : nth mp0 (mapsOf p k) (posK Mp.v v (mapsOf p k)) ∈ mapsOf p k := nth_mem mp0 _ _ hj
          have hbf := (map_fit h hk hmem).2.1
          have hcc : occD (nth mp0 (mapsOf p k) (posK Mp.v v (mapsOf p k))).b p.devs ≠ 1 := by
            have e := refs_nth (fit_iff.2 h) (b := (nth mp0 (mapsOf p k) (posK Mp.v v (mapsOf p k))).b.toNat) (by omega)
            intro e1
            refine hn1 ?_
            show nth 0 (refsRes p) _ = 1
            rw [e, Int.toNat_of_nonneg hbf.1]
            exact e1
          have hocc : ∀ b, occD b (setMaps p k ((mapsOf p k).set (posK Mp.v v (mapsOf p k)) ⟨v, fr, p.time⟩)).devs = occD b p.devs - (if (nth mp0 (mapsOf p k) (posK Mp.v v (mapsOf p k))).b = b then 1 else 0) + (if (fr : Int) = b then 1 else 0) := fun b => by
            rw [setMaps_occ hk, occM_set b _ hj]
            dsimp only
            omega
          have hnew : mapsOf (setMaps p k ((mapsOf p k).set (posK Mp.v v (mapsOf p k)) ⟨v, fr, p.time⟩)) k = (mapsOf p k).set (posK Mp.v v (mapsOf p k)) ⟨v, fr, p.time⟩ := setMaps_maps hk _
          have hinc2 := inc_of hfit.1 hfit.2
          rw [hnew] at hinc2
          have hyin : (⟨v, fr, p.time⟩ : Mp) ∈ (mapsOf p k).set (posK Mp.v v (mapsOf p k)) ⟨v, fr, p.time⟩ := List.mem_set hj _
          generalize hjj : posK Mp.v v (mapsOf p k) = j at *
          rw [hmm] at *
          refine ⟨m.set j ⟨v, fr, p.time⟩, by rw [hm, setMaps_two hk0], fun f hx => ?_, fun u h2 h3 => ?_, fun x hx h2 h3 => ?_⟩
          · rw [filter_set_out hj (hx _ (by omega) (by omega)) (hx _ hav (by simp only; omega))]
            exact hf f fun x h1 h2 => hx x h1 (by omega)
          · by_cases e : u = v
            · exact ⟨_, hyin, e.symm⟩
            · obtain ⟨x, hx, hxv⟩ := hu u h2 (by omega)
              obtain ⟨i, hi, rfl⟩ := List.getElem_of_mem hx
              refine ⟨m[i], ?_, hxv⟩
              have hij : i ≠ j := by
                rintro rfl
                rw [nth_get mp0 m i hi] at hje
                omega
              rw [List.mem_iff_getElem]
              exact ⟨i, by rw [List.length_set]; exact hi, by rw [List.getElem_set_ne (by omega)]⟩
          · rw [hocc]
            by_cases e : x.v = v
            · have hxe := inc_uniq hinc2 hx hyin e
              rw [hxe]
              dsimp only
              rw [if_neg (hfree _ hmem), if_pos rfl, f2]
              omega
            · rcases List.mem_or_eq_of_mem_set hx with hx | hx
              · have ho' := ho x hx h2 (by omega)
                rw [if_neg (fun e2 => hcc (by rw [e2]; exact ho')), if_neg (fun e2 => hfree x hx e2.symm), ho']
                omega
              · exact absurd (by rw [hx]) e
        · have h4' : hasK Mp.v v (mapsOf p k) = false := by simpa using h4
          rw [if_neg h4] at hfit ⊢
          have hocc : ∀ b, occD b (setMaps p k (insAt (mapsOf p k) (posK Mp.v v (mapsOf p k)) ⟨v, fr, p.time⟩)).devs = occD b p.devs + (if (fr : Int) = b then 1 else 0) := fun b => by
            rw [setMaps_occ hk, occM_ins b]
            dsimp only
            omega
          have hno : ∀ x ∈ m, x.v ≠ v := fun x hx e => by
            refine h4 (hasK_iff (d := mp0) |>.2 ?_)
            obtain ⟨i, hi, rfl⟩ := List.getElem_of_mem hx
            rw [hmm]
            exact ⟨i, hi, by rw [nth_get mp0 m i hi]; exact e⟩
          generalize hjj : posK Mp.v v (mapsOf p k) = j at *
          rw [hmm] at *
          refine ⟨insAt m j ⟨v, fr, p.time⟩, by rw [hm, setMaps_two hk0], fun f hx => ?_, fun u h2 h3 => ?_, fun x hx h2 h3 => ?_⟩
          · rw [filter_ins_out (hx _ hav (by simp only; omega))]
            exact hf f fun x h1 h2 => hx x h1 (by omega)
          · by_cases e : u = v
            · exact ⟨_, mem_insAt.2 (.inl rfl), e.symm⟩
            · obtain ⟨x, hx, hxv⟩ := hu u h2 (by omega)
              exact ⟨x, mem_insAt.2 (.inr hx), hxv⟩
          · rw [hocc]
            rcases mem_insAt.1 hx with rfl | hx
            · dsimp only
              rw [if_pos rfl, f2]
              omega
            · have ho' := ho x hx h2 (by have := hno x hx; omega)
              rw [if_neg (fun e2 => hfree x hx e2.symm), ho']
              omega
theorem wrN_wrote : ∀ (n : Nat) {p0 p : Pool} {k : Nat} {a v : Int}, PoolFit p → k < p.devs.length → k < p0.devs.length → a ≤ v → 0 ≤ v → v + n ≤ 281474976710656 → Wrote p0 k a v p → (wrN p k v n).1 = 0 → Wrote p0 k a (v + n) (wrN p k v n).2 := by
  intro n
  induction n with
  | zero => intro p0 p k a v _ _ _ _ _ _ hw _; show Wrote p0 k a (v + ((0 : Nat) : Int)) p; rw [show v + ((0 : Nat) : Int) = v by omega]; exact hw
  | succ n ih =>
    intro p0 p k a v h hk hk0 hav h0 hb hw he
    simp only [wrN] at he ⊢
    by_cases h1 : (wr1 p k v).1 = 0
    · rw [if_neg (by simpa using h1)] at he ⊢
      obtain ⟨f1, f2⟩ := wr1_fit h hk ⟨h0, by omega⟩ h1
      have := ih f1 f2 hk0 (by omega : a ≤ v + 1) (by omega) (by omega) (wr1_wrote h hk hk0 hav ⟨h0, by omega⟩ hw h1) he
      rw [show v + ((n + 1 : Nat) : Int) = v + 1 + n by omega]
      exact this
    · rw [if_pos h1] at he; exact absurd he h1
/-- How many mappings have keys of a range. -/
def inR (a b : Int) (m : Mp) : Bool := decide (a ≤ m.v) && decide (m.v < b)
def cntR (a b : Int) (l : List Mp) : Nat := l.countP (inR a b)
theorem countP_eq_one {l : List Mp} (hi : IncK Mp.v mp0 l) {u : Int} (h : ∃ x ∈ l, x.v = u) : l.countP (fun x => x.v == u) = 1 := by
  have hp := incK_pw.1 hi
  obtain ⟨x, hx, rfl⟩ := h
  clear hi
  induction l with
  | nil => cases hx
  | cons y l ih =>
    rw [List.pairwise_cons] at hp
    rcases List.mem_cons.1 hx with rfl | hx
    · rw [List.countP_cons, if_pos (by simp), List.countP_eq_zero.2]
      intro z hz
      have := hp.1 z hz
      simp only [beq_iff_eq]
      omega
    · rw [List.countP_cons, if_neg (by have := hp.1 x hx; simp only [beq_iff_eq]; omega), ih hp.2 hx]
theorem cntR_all {l : List Mp} (hi : IncK Mp.v mp0 l) (a : Int) : ∀ n : Nat, (∀ u, a ≤ u → u < a + n → ∃ x ∈ l, x.v = u) → cntR a (a + n) l = n := by
  intro n
  induction n with
  | zero =>
    intro _
    unfold cntR
    rw [List.countP_eq_zero]
    intro x _
    simp only [inR, Bool.and_eq_true, decide_eq_true_eq]
    omega
  | succ n ih =>
    intro h
    have h1 := ih (fun u h2 h3 => h u h2 (by omega))
    have h2 := countP_eq_one hi (h (a + n) (by omega) (by omega))
    have h3 : ∀ r : List Mp, cntR a (a + ((n + 1 : Nat) : Int)) r = cntR a (a + n) r + r.countP (fun x => x.v == a + n) := by
      intro r
      unfold cntR
      induction r with
      | nil => rfl
      | cons y r ih2 =>
        rw [List.countP_cons, List.countP_cons, List.countP_cons, ih2]
        have e1 : inR a (a + ((n + 1 : Nat) : Int)) y = true ↔ (a ≤ y.v ∧ y.v < a + n + 1) := by simp only [inR, Bool.and_eq_true, decide_eq_true_eq]; omega
        have e2 : inR a (a + n) y = true ↔ (a ≤ y.v ∧ y.v < a + n) := by simp only [inR, Bool.and_eq_true, decide_eq_true_eq]
        have e3 : (y.v == a + n) = true ↔ y.v = a + n := by simp
        by_cases h5 : inR a (a + n) y = true
        · have h6 := e2.1 h5
          rw [if_pos (e1.2 (by omega)), if_pos h5, if_neg (fun h => by have := e3.1 h; omega)]
          omega
        · by_cases h6 : (y.v == a + n) = true
          · have h7 := e3.1 h6
            rw [if_pos (e1.2 (by omega)), if_neg h5, if_pos h6]
            omega
          · have h10 : ¬ inR a (a + ((n + 1 : Nat) : Int)) y = true := fun hh => by
              have h7 := e1.1 hh
              have h8 : ¬ (a ≤ y.v ∧ y.v < a + n) := fun h => h5 (e2.2 h)
              have h9 : ¬ (y.v = a + n) := fun h => h6 (e3.2 h)
              omega
            rw [if_neg h10, if_neg h5, if_neg h6]
            omega
    rw [h3, h1, h2]
/-- What the law asks. -/
theorem alone_facts {p : Pool} {o : Mop} (h4 : o.kind = 4) (h : (applyF p o).1 = 0) : ∃ k q, applyF p o = (0, q) ∧ poolChk p = 0 ∧ poolChk q = 0 ∧ k < q.devs.length ∧ q.devs.length = p.devs.length ∧ findD q.devs o.dev = nth dev0 q.devs k ∧ findB q.devs o.dev = true ∧
    0 ≤ o.arg ∧ 1 ≤ o.n ∧ o.arg + o.n ≤ 281474976710656 ∧ cntR o.arg (o.arg + o.n) (mapsOf q k) = o.n.toNat ∧ (∀ j, j < (mapsOf q k).length → inR o.arg (o.arg + o.n) (nth mp0 (mapsOf q k) j) = true → nth 0 (refsRes q) (nth mp0 (mapsOf q k) j).b.toNat = 1) ∧
    (∀ j, j < (mapsOf q k).length → 0 ≤ (nth mp0 (mapsOf q k) j).b ∧ (nth mp0 (mapsOf q k) j).b.toNat < (refsRes q).length) ∧
    ∃ x, applyF p ⟨5, o.dev, o.arg, o.n⟩ = (0, x) ∧ applyF q ⟨5, o.dev, o.arg, o.n⟩ = (0, x) ∧ poolChk x = 0 := by
  obtain ⟨hc, hd, hq⟩ := apply_is h
  have hf := fit_iff.1 hc
  have hqf : PoolFit (applyF p o).2 := apply_fit h
  have e4 : doF p o = writeF p o := by unfold doF; rw [if_neg (by omega), if_neg (by omega), if_neg (by omega), if_pos h4]
  rw [e4] at hd hq
  have hb : blkE p o = 0 := by
    rcases Classical.em (blkE p o = 0) with hb | hb
    · exact hb
    · unfold writeF at hd; rw [if_pos hb] at hd; exact absurd hd hb
  unfold writeF at hd hq
  rw [if_neg (by simpa using hb)] at hd hq
  obtain ⟨b1, b2, b3, b4, b5, b6⟩ := blk_ok hb
  obtain ⟨hk, hid⟩ := dpos_lt hf b1
  generalize hkk : dpos p o.dev = k at *
  have hnn : ((o.n.toNat : Nat) : Int) = o.n := Int.toNat_of_nonneg (by omega)
  have hw0 : Wrote p k o.arg o.arg p := ⟨mapsOf p k, (setMaps_self hk).symm, fun f _ => rfl, fun u h1 h2 => by omega, fun x _ h1 h2 => by omega⟩
  have hw := wrN_wrote o.n.toNat hf hk hk (Int.le_refl _) b4 (by omega) hw0 hd
  rw [hnn, ← hq] at hw
  rw [hq] at hqf
  have hR : applyF p o = (0, (wrN p k o.arg o.n.toNat).2) := Prod.ext h hq
  rw [hq] at hw
  generalize (wrN p k o.arg o.n.toNat).2 = q at *
  clear hd hq
  obtain ⟨m, hm, hflt, hu, ho⟩ := hw
  have hql : q.devs.length = p.devs.length := by rw [hm]; show (p.devs.set k _).length = _; rw [List.length_set]
  have hkq : k < q.devs.length := by omega
  have hmm : mapsOf q k = m := by rw [hm]; exact setMaps_maps hk m
  have hidq : ∀ j, (nth dev0 q.devs j).id = (nth dev0 p.devs j).id := fun j => by
    have := nthG_set dev0 p.devs k j ⟨(nth dev0 p.devs k).id, (nth dev0 p.devs k).tx, (nth dev0 p.devs k).made, (nth dev0 p.devs k).snapped, m⟩ hk
    rw [hm]
    show (nth dev0 (p.devs.set k _) j).id = _
    rw [this]
    split
    · rename_i e; rw [e]
    · rfl
  obtain ⟨g1, g2⟩ := found_at (id := o.dev) hqf hkq (by rw [hidq]; exact hid)
  have hqd : dhas q o.dev = true := (hasK_iff (d := dev0)).2 ⟨k, hkq, by rw [hidq]; exact hid⟩
  have hpd : dpos q o.dev = k := by
    obtain ⟨h1, h2⟩ := dpos_lt hqf hqd
    exact id_alone hqf h1 hkq (by rw [h2, hidq, hid])
  have hinc := inc_of hqf hkq
  have hb5 : blkE p ⟨5, o.dev, o.arg, o.n⟩ = 0 := hb
  have hb6 : blkE q ⟨5, o.dev, o.arg, o.n⟩ = 0 := by
    unfold blkE
    dsimp only
    rw [if_neg (by rw [hqd]; simp), if_neg (by omega)]
  have hx : setMaps q k (m.filter fun y => !inOp ⟨5, o.dev, o.arg, o.n⟩ y) = setMaps p k ((mapsOf p k).filter fun y => !inOp ⟨5, o.dev, o.arg, o.n⟩ y) := by
    rw [hm, setMaps_two hk, hflt]
    intro x h1 h2
    simp only [inOp, Bool.not_eq_false', Bool.and_eq_true, decide_eq_true_eq]
    exact ⟨h1, h2⟩
  have d1 : applyF p ⟨5, o.dev, o.arg, o.n⟩ = (0, setMaps p k ((mapsOf p k).filter fun y => !inOp ⟨5, o.dev, o.arg, o.n⟩ y)) := by
    have e5 : doF p ⟨5, o.dev, o.arg, o.n⟩ = (0, setMaps p k ((mapsOf p k).filter fun y => !inOp ⟨5, o.dev, o.arg, o.n⟩ y)) := by
      unfold doF; rw [if_neg (by simp), if_neg (by simp), if_neg (by simp), if_neg (by simp), if_pos rfl]
      unfold discardF
      rw [if_neg (by simpa using hb5)]
      show (0, setMaps p (dpos p o.dev) ((mapsOf p (dpos p o.dev)).filter _)) = _
      rw [hkk]
    unfold applyF
    rw [if_neg (by simpa using hc), e5, if_neg (by simp)]
  have d2 : applyF q ⟨5, o.dev, o.arg, o.n⟩ = (0, setMaps p k ((mapsOf p k).filter fun y => !inOp ⟨5, o.dev, o.arg, o.n⟩ y)) := by
    have e5 : doF q ⟨5, o.dev, o.arg, o.n⟩ = (0, setMaps q k (m.filter fun y => !inOp ⟨5, o.dev, o.arg, o.n⟩ y)) := by
      unfold doF; rw [if_neg (by simp), if_neg (by simp), if_neg (by simp), if_neg (by simp), if_pos rfl]
      unfold discardF
      rw [if_neg (by simpa using hb6)]
      show (0, setMaps q (dpos q o.dev) ((mapsOf q (dpos q o.dev)).filter _)) = _
      rw [hpd, hmm]
    unfold applyF
    rw [if_neg (by simpa using fit_iff.2 hqf), e5, if_neg (by simp), hx]
  refine ⟨k, q, hR, hc, fit_iff.2 hqf, hkq, hql, g1, g2, b4, b2, by omega, ?_, fun j hj hr => ?_, fun j hj => ?_, _, d1, d2, ?_⟩
  · rw [hmm] at hinc ⊢
    have := cntR_all hinc o.arg o.n.toNat (by rw [hnn]; exact hu)
    rw [hnn] at this
    exact this
  · have hmem := nth_mem mp0 _ _ hj
    have hbf := (map_fit hqf hkq hmem).2.1
    rw [refs_nth (fit_iff.2 hqf) (by omega), Int.toNat_of_nonneg hbf.1]
    simp only [inR, Bool.and_eq_true, decide_eq_true_eq] at hr
    exact ho _ (by rw [← hmm]; exact hmem) hr.1 hr.2
  · have hbf := (map_fit hqf hkq (nth_mem mp0 _ _ hj)).2.1
    rw [refs_leng (fit_iff.2 hqf)]
    omega
  · have := apply_fit (p := p) (o := ⟨5, o.dev, o.arg, o.n⟩) (by rw [d1])
    rw [d1] at this
    exact fit_iff.2 this
end Go.Proofs.Ytjclcjhmdohemaa

/- scantlinglaw49.ModelAlone where the input is not few, or nothing is written. Condition: the numbers fit into Go's int. -/
namespace Go.Proofs.Ytjclcjhmdohemaa
open Go.RowKit
attribute [local go_sem] Oper.semAt_some

/-- The block of an op. -/
def OBox (w : World) (b : Nat) (k d a n : Int) : Prop := w.heap[b]? = some (.cells #[.int .i64 k, .int .i64 d, .int .i64 a, .int .i64 n] 37 (0, 0))
theorem OBox.below {w w' : World} {b : Nat} {k d a n : Int} (h : OBox w b k d a n) {B : Nat} (hB : Below B w w') (hb : b < B) : OBox w' b k d a n := (hB.block b hb).trans h
theorem OBox.lt {w : World} {b : Nat} {k d a n : Int} (h : OBox w b k d a n) : b < w.heap.size := (Array.getElem?_eq_some_iff.1 h).1
theorem OBox.cells {w : World} {b : Nat} {k d a n : Int} (h : OBox w b k d a n) : w.cell? ⟨b, 0, none⟩ = some (.int .i64 k) ∧ w.cell? ⟨b, 1, none⟩ = some (.int .i64 d) ∧ w.cell? ⟨b, 2, none⟩ = some (.int .i64 a) ∧ w.cell? ⟨b, 3, none⟩ = some (.int .i64 n) := by
  unfold OBox at h
  simp [World.cell?, h]
theorem OBox.free {w : World} {b : Nat} {k d a n : Int} (h : OBox w b k d a n) (i : Nat) : w.frozen? ⟨b, i, none⟩ = false := by unfold OBox at h; simp [World.frozen?, h]
theorem OBox.set {w : World} {b : Nat} {k d a n : Int} (h : OBox w b k d a n) (k' : Int) : OBox (w.setCell ⟨b, 0, none⟩ (.int .i64 k')) b k' d a n := by
  unfold OBox at h ⊢
  simp [World.setCell, Array.getElem?_modify, h]
/-- One op, alone in a new slice. -/
theorem one_op {w : World} {S : Nat → Prop} {g : Nat} {o : Mop} (hg : w.heap[g]? = some (.cells #[.int .i64 o.kind, .int .i64 o.dev, .int .i64 o.arg, .int .i64 o.n] 37 (0, 0))) (hS : S g) : IsOps w S (.slice (some ⟨g, 0, none⟩) 1 1) [o] := by
  refine ⟨some ⟨g, 0, none⟩, 1, rfl, Nat.le_refl _, fun _ => ⟨g, 0, rfl, hS, fun k hk => ?_⟩⟩
  obtain rfl : k = 0 := by have : k < 1 := hk; omega
  refine ⟨Mop.enc o, rfl, rfl, fun j u hj => ?_⟩
  rw [cell_of_row w g _ _ _ (0, 0) hg]
  simpa [Mop.enc] using hj
set_option maxRecDepth 100000 in
set_option maxHeartbeats 1000000 in
theorem alone_far (w : World) (v1 : Value) (p : Pool) (o : Mop) (h1 : IsPool w (Lt w.heap.size) v1 p) (hok : p.ok) (hf : fewN p = 0 ∨ fewO [⟨4, o.dev, o.arg, o.n⟩] = 0 ∨ 3000 < p.data) :
    Calls Try.prog 4 #[v1, mopV o] w fun e w' => e = .returned (.bool true) ∧ Below w.heap.size w w' := by
  obtain ⟨A, c, hv⟩ : ∃ A c, v1 = .agg #[.int .i64 p.tx, .int .i64 p.time, .int .i64 p.unit, .int .i64 p.data, .slice A p.devs.length c] := by obtain ⟨A, c, h, _⟩ := h1; exact ⟨A, c, h⟩
  have HAH := Lib.hid (aheadP (A := A) (c := c) h1 hok)
  subst hv
  obtain ⟨ok, od, oa, on⟩ := o
  have HFO := Lib.hid (fun (w' : World) (g : Nat) (hg : w'.heap[g]? = some (.cells #[.int .i64 4, .int .i64 od, .int .i64 oa, .int .i64 on] 37 (0, 0))) => few49_any w' (Lt (g + 1)) _ [⟨4, od, oa, on⟩] (one_op hg (Nat.lt_succ_self g)) (by simp))
  clear h1 hok
  unfold AheadP at HAH
  dsimp only at hf HFO
  generalize fewO [⟨4, od, oa, on⟩] = fo at *
  generalize fewN p = fp at *
  dsimp only [poolBox, mopV] at HAH ⊢
  have hcs : (fp == 0) = true ∨ ((fp == 0) = false ∧ ((fo == 0) = true ∨ ((fo == 0) = false ∧ 3000 < p.data))) := by
    by_cases e1 : fp = 0
    · exact .inl (by simpa using e1)
    · refine .inr ⟨by simpa using e1, ?_⟩
      by_cases e2 : fo = 0
      · exact .inl (by simpa using e2)
      · exact .inr ⟨by simpa using e2, by omega⟩
  clear hf
  go_enter Try.func4, Try.ntmps4
  go_wp2_with fail
  obtain ⟨w1, hw1⟩ : ∃ x, (w.alloc (.cells #[.int .i64 p.tx, .int .i64 p.time, .int .i64 p.unit, .int .i64 p.data, .slice A p.devs.length c] 24)).alloc (.cells #[.int .i64 4, .int .i64 od, .int .i64 oa, .int .i64 on] 37) = x := ⟨_, rfl⟩
  have hk1 : Below (w.heap.size + 1) (w.alloc (.cells #[.int .i64 p.tx, .int .i64 p.time, .int .i64 p.unit, .int .i64 p.data, .slice A p.devs.length c] 24)) w1 := by rw [← hw1]; exact (Below.refl _ _).alloc (by simp) _
  have ho1 : OBox w1 (w.heap.size + 1) 4 od oa on := by
    rw [← hw1]
    have h := heap_alloc_new (w.alloc (.cells #[.int .i64 p.tx, .int .i64 p.time, .int .i64 p.unit, .int .i64 p.data, .slice A p.devs.length c] 24)) (.cells #[.int .i64 4, .int .i64 od, .int .i64 oa, .int .i64 on] 37)
    simp only [World.size_alloc] at h
    exact h
  rw [hw1]
  refine (HAH.out _ hk1).2.2.2.1.mono ?_
  rintro e w2 ⟨rfl, hB2⟩
  have hk2 := hk1.trans (hB2.mono (HAH.out _ hk1).2.2.1)
  have ho2 := ho1.below hB2 ho1.lt
  have hl2 := ho2.lt
  obtain ⟨x0, x1, x2, x3, x4⟩ := (HAH.out _ hk2).2.1.cells
  obtain ⟨y0, y1, y2, y3⟩ := ho2.cells
  have hz2 : w.heap.size < w2.heap.size := by omega
  clear hw1 ho1 ho2
  rcases hcs with d1 | ⟨d1, d2⟩
  · go_wp2_with (first
      | (go_at_call 8; refine (lives49 _).mono ?_; rintro e w5 ⟨rfl, hB5⟩; have hk5 := hk2.trans (hB5.mono (HAH.out _ hk2).2.2.1)))
    go_ret
    exact ⟨rfl, (HAH.out _ hk5).1⟩
  · have hk3 : Below (w.heap.size + 1) (w.alloc (.cells #[.int .i64 p.tx, .int .i64 p.time, .int .i64 p.unit, .int .i64 p.data, .slice A p.devs.length c] 24)) (w2.alloc (.cells #[.int .i64 4, .int .i64 od, .int .i64 oa, .int .i64 on] 37)) := hk2.trans ((Below.refl _ _).alloc (by omega) _)
    have hfo := HFO.out (w2.alloc (.cells #[.int .i64 4, .int .i64 od, .int .i64 oa, .int .i64 on] 37)) w2.heap.size (heap_alloc_new _ _)
    have HFW := Lib.hid hfo
    clear hfo
    rcases d2 with d2 | ⟨d2, d3⟩
    · go_wp2_with (first
        | (go_at_call 7; with_reducible refine HFW.out.mono ?_; rintro e w4 ⟨rfl, rfl⟩)
        | (go_at_call 8; refine (lives49 _).mono ?_; rintro e w5 ⟨rfl, hB5⟩; have hk5 := hk3.trans (hB5.mono (HAH.out _ hk3).2.2.1)))
      go_ret
      exact ⟨rfl, (HAH.out _ hk5).1⟩
    · go_wp2_with (first
        | (go_at_call 7; with_reducible refine HFW.out.mono ?_; rintro e w4 ⟨rfl, rfl⟩)
        | (go_at_call 8; refine (lives49 _).mono ?_; rintro e w5 ⟨rfl, hB5⟩; have hk5 := hk3.trans (hB5.mono (HAH.out _ hk3).2.2.1)))
      go_ret
      exact ⟨rfl, (HAH.out _ hk5).1⟩
end Go.Proofs.Ytjclcjhmdohemaa

/- scantlinglaw49.ModelAlone where nothing is written. Condition: the numbers fit into Go's int. -/
namespace Go.Proofs.Ytjclcjhmdohemaa
open Go.RowKit
attribute [local go_sem] Oper.semAt_some

set_option maxRecDepth 100000 in
set_option maxHeartbeats 1000000 in
theorem alone_err (w : World) (v1 : Value) (p : Pool) (o : Mop) (h1 : IsPool w (Lt w.heap.size) v1 p) (hok : p.ok) (hfp : fewN p = 1) (hfo : fewO [⟨4, o.dev, o.arg, o.n⟩] = 1) (hd : p.data ≤ 3000) (he : (applyF p ⟨4, o.dev, o.arg, o.n⟩).1 ≠ 0) :
    Calls Try.prog 4 #[v1, mopV o] w fun e w' => e = .returned (.bool true) ∧ Below w.heap.size w w' := by
  obtain ⟨A, c, hv⟩ : ∃ A c, v1 = .agg #[.int .i64 p.tx, .int .i64 p.time, .int .i64 p.unit, .int .i64 p.data, .slice A p.devs.length c] := by obtain ⟨A, c, h, _⟩ := h1; exact ⟨A, c, h⟩
  have HAH := Lib.hid (aheadP (A := A) (c := c) h1 hok)
  subst hv
  obtain ⟨ok, od, oa, on⟩ := o
  dsimp only at hfo he
  have HFO := Lib.hid (fun (w' : World) (g : Nat) (hg : w'.heap[g]? = some (.cells #[.int .i64 4, .int .i64 od, .int .i64 oa, .int .i64 on] 37 (0, 0))) => few49_any w' (Lt (g + 1)) _ [⟨4, od, oa, on⟩] (one_op hg (Nat.lt_succ_self g)) (by simp))
  unfold AheadP at HAH
  rw [hfp] at HAH
  rw [hfo] at HFO
  have HAP := Lib.hid (fun w' hB => apply_any w' (Lt w.heap.size) _ p ⟨4, od, oa, on⟩ (fun b hb => Nat.lt_of_lt_of_le hb (HAH.out w' hB).1.size) (HAH.out w' hB).2.2.2.2 hok)
  have hr := apply_not he
  generalize applyF p ⟨4, od, oa, on⟩ = R at *
  obtain ⟨fe, q⟩ := R
  dsimp only at hr he
  subst hr
  have HSZ := Lib.hid (fun (w' : World) (u0 u1 u2 u3 u4 : Value) (S : Nat → Prop) (v : Value) hS (h : IsPool w' S v pool0) => same_boxed w' u0 u1 u2 u3 u4 v _ pool0 pool0 S (Lt 0) hS (fun b hb => by cases hb) h (pool0_at w' (Lt 0)) (by simp [pool0]) (fun k hk => by simp [pool0] at hk))
  have hpp : decide (pool0 = pool0) = true := decide_eq_true rfl
  rw [hpp] at HSZ
  have hf2 : (fe != 0) = true := by simpa using he
  have hdd : decide (3000 < p.data) = false := by simp; omega
  clear h1 hok hfp hfo he hpp
  unfold ApIs at HAP
  dsimp only [poolBox, mopV] at HAH HAP ⊢
  go_enter Try.func4, Try.ntmps4
  go_wp2_with fail
  obtain ⟨w1, hw1⟩ : ∃ x, (w.alloc (.cells #[.int .i64 p.tx, .int .i64 p.time, .int .i64 p.unit, .int .i64 p.data, .slice A p.devs.length c] 24)).alloc (.cells #[.int .i64 4, .int .i64 od, .int .i64 oa, .int .i64 on] 37) = x := ⟨_, rfl⟩
  have hk1 : Below (w.heap.size + 1) (w.alloc (.cells #[.int .i64 p.tx, .int .i64 p.time, .int .i64 p.unit, .int .i64 p.data, .slice A p.devs.length c] 24)) w1 := by rw [← hw1]; exact (Below.refl _ _).alloc (by simp) _
  have ho1 : OBox w1 (w.heap.size + 1) 4 od oa on := by
    rw [← hw1]
    have h := heap_alloc_new (w.alloc (.cells #[.int .i64 p.tx, .int .i64 p.time, .int .i64 p.unit, .int .i64 p.data, .slice A p.devs.length c] 24)) (.cells #[.int .i64 4, .int .i64 od, .int .i64 oa, .int .i64 on] 37)
    simp only [World.size_alloc] at h
    exact h
  rw [hw1]
  refine (HAH.out _ hk1).2.2.2.1.mono ?_
  rintro e w2 ⟨rfl, hB2⟩
  have hk2 := hk1.trans (hB2.mono (HAH.out _ hk1).2.2.1)
  have ho2 := ho1.below hB2 ho1.lt
  have hl2 := ho2.lt
  obtain ⟨x0, x1, x2, x3, x4⟩ := (HAH.out _ hk2).2.1.cells
  obtain ⟨y0, y1, y2, y3⟩ := ho2.cells
  have hz2 : w.heap.size < w2.heap.size := by omega
  clear hw1 ho1 ho2
  have hk3 : Below (w.heap.size + 1) (w.alloc (.cells #[.int .i64 p.tx, .int .i64 p.time, .int .i64 p.unit, .int .i64 p.data, .slice A p.devs.length c] 24)) (w2.alloc (.cells #[.int .i64 4, .int .i64 od, .int .i64 oa, .int .i64 on] 37)) := hk2.trans ((Below.refl _ _).alloc (by omega) _)
  have hfo := HFO.out (w2.alloc (.cells #[.int .i64 4, .int .i64 od, .int .i64 oa, .int .i64 on] 37)) w2.heap.size (heap_alloc_new _ _)
  have HFW := Lib.hid hfo
  clear hfo
  go_wp2_with (first
    | (go_at_call 7; with_reducible refine HFW.out.mono ?_; rintro e w3 ⟨rfl, rfl⟩)
    | (go_at_call 13; (have hx := HAP.out _ hk3; with_reducible refine hx.mono ?_; clear hx); rintro e w4 ⟨v4, rfl, ⟨A4, c4, rfl, hc4, hr4⟩, hB4⟩; have hk4 := hk3.trans (hB4.mono (HAH.out _ hk3).2.2.1); have HR4 := Lib.hid hr4; clear hr4 x0 x1 x2 x3 x4 y0 y1 y2 y3)
    | (go_at_call 11; have hx := HSZ.out w4 (.int .i64 pool0.tx) (.int .i64 pool0.time) (.int .i64 pool0.unit) (.int .i64 pool0.data) (.slice A4 pool0.devs.length c4) _ _ (fun b hb => hb.2) ⟨A4, c4, rfl, hc4, HR4.out⟩; with_reducible refine hx.mono ?_; clear hx; rintro e w5 ⟨rfl, _, hB5, _⟩; have hk5 := hk4.trans (hB5.mono (HAH.out _ hk4).2.2.1))
    | (go_at_call 8; refine (lives49 _).mono ?_; rintro e w6 ⟨rfl, hB6⟩; have hk6 := hk5.trans (hB6.mono (HAH.out _ hk5).2.2.1)))
  go_ret
  exact ⟨rfl, (HAH.out _ hk6).1⟩
end Go.Proofs.Ytjclcjhmdohemaa

/- pool.Find: the first device of an id, with mappings of its own. Condition: no slice is longer than the reach. -/
namespace Go.Proofs.Ytjclcjhmdohemaa
open Go.RowKit

theorem isDev0 (w : World) (S : Nat → Prop) : IsDev w S (.agg #[.int .i64 0, .int .i64 0, .int .i64 0, .int .i64 0, .slice none 0 0]) dev0 := ⟨none, 0, rfl, Nat.le_refl _, RowOf.nil_⟩
set_option maxRecDepth 100000 in
set_option maxHeartbeats 3200000 in
theorem find_any (w : World) (S : Nat → Prop) (v : Value) (p : Pool) (id : Int) (hS : ∀ b, S b → b < w.heap.size) (h : IsPool w S v p) (hnd : p.devs.length ≤ 1099511627776) (hmk : ∀ k, k < p.devs.length → (nth dev0 p.devs k).maps.length ≤ 2199023255552) :
    Calls Try.prog 15 #[v, .int .i64 id] w fun e w' => ∃ v', e = .returned (.tuple #[v', .bool (findB p.devs id)]) ∧ IsDev w' (Lt w'.heap.size) v' (findD p.devs id) ∧ Below w.heap.size w w' := by
  obtain ⟨A, c, rfl, hc, hr⟩ := h
  have hB0 : Below w.heap.size w (((w.alloc (poolBox p A p.devs.length c)).alloc (.cells #[.int .i64 id] 3)).alloc (.cells #[.int .i64 0, .int .i64 0, .int .i64 0, .int .i64 0, .slice none 0 0] 44)) := (((Below.refl _ _).alloc (Nat.le_refl _) _).alloc (by simp) _).alloc (by simp; omega) _
  have hp1 : PBox (((w.alloc (poolBox p A p.devs.length c)).alloc (.cells #[.int .i64 id] 3)).alloc (.cells #[.int .i64 0, .int .i64 0, .int .i64 0, .int .i64 0, .slice none 0 0] 44)) w.heap.size p A p.devs.length c := ((PBox.new w p A p.devs.length c).below (Below.alloc (Below.refl _ _) (Nat.le_refl _) _) (by simp)).below (Below.alloc (Below.refl _ _) (Nat.le_refl _) _) (by simp; omega)
  have hz0 : (((w.alloc (poolBox p A p.devs.length c)).alloc (.cells #[.int .i64 id] 3)).alloc (.cells #[.int .i64 0, .int .i64 0, .int .i64 0, .int .i64 0, .slice none 0 0] 44)).heap.size = w.heap.size + 3 := by simp
  have hi0 : (((w.alloc (poolBox p A p.devs.length c)).alloc (.cells #[.int .i64 id] 3)).alloc (.cells #[.int .i64 0, .int .i64 0, .int .i64 0, .int .i64 0, .slice none 0 0] 44)).cell? ⟨w.heap.size + 1, 0, none⟩ = some (.int .i64 id) := by
    rw [World.cell?_alloc_lt _ _ _ (by simp)]
    have := (Boxed.new (w.alloc (poolBox p A p.devs.length c)) 3 (.int .i64 id)).cell
    rw [World.size_alloc] at this
    exact this
  have hd0 : (((w.alloc (poolBox p A p.devs.length c)).alloc (.cells #[.int .i64 id] 3)).alloc (.cells #[.int .i64 0, .int .i64 0, .int .i64 0, .int .i64 0, .slice none 0 0] 44)).heap[w.heap.size + 1 + 1]? = some (.cells #[.int .i64 0, .int .i64 0, .int .i64 0, .int .i64 0, .slice none 0 0] 44 (0, 0)) := by
    have := heap_alloc_new ((w.alloc (poolBox p A p.devs.length c)).alloc (.cells #[.int .i64 id] 3)) (.cells #[.int .i64 0, .int .i64 0, .int .i64 0, .int .i64 0, .slice none 0 0] 44)
    simpa only [World.size_alloc] using this
  have hidx := idxDev_any (((w.alloc (poolBox p A p.devs.length c)).alloc (.cells #[.int .i64 id] 3)).alloc (.cells #[.int .i64 0, .int .i64 0, .int .i64 0, .int .i64 0, .slice none 0 0] 44)) S (.slice A p.devs.length c) p.devs (w.heap.size + 1) id (fun b hb => by have := hS b hb; omega) ⟨A, c, rfl, hc, hr.keep rdev_stable (fun _ h => h) (keep_below hB0 hS)⟩ hnd hi0 (by omega)
  dsimp only [poolBox] at hB0 hp1 hz0 hi0 hd0 hidx
  have HIDX := Lib.hid hidx
  clear hidx
  go_enter Try.func15, Try.ntmps15
  go_wp2_with fail
  refine HIDX.out.mono ?_
  rintro e w2 ⟨i, rfl, hfo, hB2⟩
  have hs2 := hB2.size
  have hB02 := hB0.trans (hB2.mono (by omega))
  obtain ⟨x0, x1, x2, x3, x4⟩ := (hp1.below hB2 (by omega)).cells
  have hd2 : w2.heap[w.heap.size + 1 + 1]? = _ := (hB2.block _ (by omega)).trans hd0
  have z0 : w2.cell? ⟨w.heap.size + 1 + 1, 0, none⟩ = some (.int .i64 0) := by simp [World.cell?, hd2]
  have z1 : w2.cell? ⟨w.heap.size + 1 + 1, 1, none⟩ = some (.int .i64 0) := by simp [World.cell?, hd2]
  have z2 : w2.cell? ⟨w.heap.size + 1 + 1, 2, none⟩ = some (.int .i64 0) := by simp [World.cell?, hd2]
  have z3 : w2.cell? ⟨w.heap.size + 1 + 1, 3, none⟩ = some (.int .i64 0) := by simp [World.cell?, hd2]
  have z4 : w2.cell? ⟨w.heap.size + 1 + 1, 4, none⟩ = some (.slice none 0 0) := by simp [World.cell?, hd2]
  have y0 : w2.frozen? ⟨w.heap.size + 1 + 1, 0, none⟩ = false := by simp [World.frozen?, hd2]
  have y1 : w2.frozen? ⟨w.heap.size + 1 + 1, 1, none⟩ = false := by simp [World.frozen?, hd2]
  have y2 : w2.frozen? ⟨w.heap.size + 1 + 1, 2, none⟩ = false := by simp [World.frozen?, hd2]
  have y3 : w2.frozen? ⟨w.heap.size + 1 + 1, 3, none⟩ = false := by simp [World.frozen?, hd2]
  have y4 : w2.frozen? ⟨w.heap.size + 1 + 1, 4, none⟩ = false := by simp [World.frozen?, hd2]
  rcases hfo with ⟨k, hk, rfl, hid, hn⟩ | ⟨rfl, hn⟩
  · obtain ⟨b, off, rfl, hb, hcl⟩ := devs_cells (hr.keep rdev_stable (fun _ h => h) (keep_below hB02 hS)) (by omega)
    obtain ⟨c0, c1, c2, c3, A', c', c4, hc', hr'⟩ := hcl k hk
    have hbs : b < w.heap.size := hS b hb
    obtain ⟨e1, e2⟩ := found_yes hk hid hn
    have HE1 := Lib.hid e1
    have HE2 := Lib.hid e2
    have hmk2 := hmk k hk
    have hS2 : ∀ b, S b → b < w2.heap.size := fun b hb => by have := hS b hb; omega
    clear e1 e2 hn hd0 hi0 hcl hid
    generalize nth dev0 p.devs k = d at *
    have hcln := cloneMaps (w2.alloc (devBox d A' c')) S (.slice A' d.maps.length c') d.maps (fun b hb => by have := hS2 b hb; simp; omega) ⟨A', c', rfl, hc', hr'.keep rmp_stable (fun _ h => h) (keep_alloc hS2 _)⟩ hmk2
    have hn7 : (w2.alloc (devBox d A' c')).heap[w2.heap.size]? = some (.cells #[.int .i64 d.id, .int .i64 d.tx, .int .i64 d.made, .int .i64 d.snapped, .slice A' d.maps.length c'] 44 (0, 0)) := heap_alloc_new w2 _
    have hd7 : (w2.alloc (devBox d A' c')).heap[w.heap.size + 1 + 1]? = _ := (Below.heap_alloc w2 (devBox d A' c') _ (by omega)).trans hd2
    have hB07 : Below w.heap.size w (w2.alloc (devBox d A' c')) := hB02.alloc (by omega) _
    dsimp only [devBox] at hcln hn7 hd7 hB07
    have HCLN := Lib.hid hcln
    clear hcln hr'
    go_wp2_with (go_at_call 18; refine HCLN.out.mono ?_; rintro e w3 ⟨v3, rfl, _, h3, hB3, _⟩
                 obtain ⟨A3, c3, rfl, hc3, hr3⟩ := h3 (fun b => S b ∨ (w2.heap.size + 1 ≤ b ∧ b < w3.heap.size)) (fun b h1 h2 => .inr ⟨by simpa using h1, h2⟩) (fun b hb => .inl hb)
                 have hsz3 := hB3.size
                 simp only [World.size_alloc] at hsz3
                 have hn3 : w3.heap[w2.heap.size]? = _ := (hB3.block _ (by simp)).trans hn7
                 have hd3 : w3.heap[w.heap.size + 1 + 1]? = _ := (hB3.block _ (by simp; omega)).trans hd7
                 obtain ⟨r0, r1, r2, r3, r4⟩ := cells5 hn3
                 obtain ⟨s0, s1, s2, s3, s4⟩ := cells5 hd3
                 have hfz : w3.frozen? ⟨w2.heap.size, 4, none⟩ = false := by simp [World.frozen?, hn3]
                 have f0 : w3.frozen? ⟨w.heap.size + 1 + 1, 0, none⟩ = false := by simp [World.frozen?, hd3]
                 have f1 : w3.frozen? ⟨w.heap.size + 1 + 1, 1, none⟩ = false := by simp [World.frozen?, hd3]
                 have f2 : w3.frozen? ⟨w.heap.size + 1 + 1, 2, none⟩ = false := by simp [World.frozen?, hd3]
                 have f3 : w3.frozen? ⟨w.heap.size + 1 + 1, 3, none⟩ = false := by simp [World.frozen?, hd3]
                 have f4 : w3.frozen? ⟨w.heap.size + 1 + 1, 4, none⟩ = false := by simp [World.frozen?, hd3]
                 have hne : ¬ w2.heap.size = w.heap.size + 1 + 1 := by omega
                 have hne2 : ¬ w.heap.size + 1 + 1 = w2.heap.size := by omega)
    have hd4 : (w3.setCell ⟨w2.heap.size, 4, none⟩ (.slice A3 d.maps.length c3)).heap[w.heap.size + 1 + 1]? = _ := (Below.heap_setCell w3 ⟨w2.heap.size, 4, none⟩ (.slice A3 d.maps.length c3) _ hne2).trans hd3
    have hs5 := set5 hd4 (.int .i64 d.id) (.int .i64 d.tx) (.int .i64 d.made) (.int .i64 d.snapped) (.slice A3 d.maps.length c3)
    have hb5 := below5 ((hB07.trans (hB3.mono (by simp; omega))).setCell (p := ⟨w2.heap.size, 4, none⟩) (by simp only; omega) (.slice A3 d.maps.length c3)) (b := w.heap.size + 1 + 1) (by omega) (.int .i64 d.id) (.int .i64 d.tx) (.int .i64 d.made) (.int .i64 d.snapped) (.slice A3 d.maps.length c3)
    have hz5 := size5 (w3.setCell ⟨w2.heap.size, 4, none⟩ (.slice A3 d.maps.length c3)) (w.heap.size + 1 + 1) (.int .i64 d.id) (.int .i64 d.tx) (.int .i64 d.made) (.int .i64 d.snapped) (.slice A3 d.maps.length c3)
    have hz4 : (w3.setCell ⟨w2.heap.size, 4, none⟩ (.slice A3 d.maps.length c3)).heap.size = w3.heap.size := by simp [World.setCell]
    have nS : ∀ g i, (g = w2.heap.size ∨ g = w.heap.size + 1 + 1) → ¬ (fun b => S b ∨ (w2.heap.size + 1 ≤ b ∧ b < w3.heap.size)) (⟨g, i, none⟩ : Addr).block := by
      rintro g i hg (h | h)
      · have := hS _ h; simp only at this; omega
      · simp only at h; omega
    have hk5 : Keep (fun b => S b ∨ (w2.heap.size + 1 ≤ b ∧ b < w3.heap.size)) w3 _ := (((((keep_setCell (w := w3) (p := ⟨w2.heap.size, 4, none⟩) (nS _ _ (.inl rfl)) (.slice A3 d.maps.length c3)).trans (keep_setCell (p := ⟨w.heap.size + 1 + 1, 0, none⟩) (nS _ _ (.inr rfl)) (.int .i64 d.id))).trans (keep_setCell (p := ⟨w.heap.size + 1 + 1, 1, none⟩) (nS _ _ (.inr rfl)) (.int .i64 d.tx))).trans (keep_setCell (p := ⟨w.heap.size + 1 + 1, 2, none⟩) (nS _ _ (.inr rfl)) (.int .i64 d.made))).trans (keep_setCell (p := ⟨w.heap.size + 1 + 1, 3, none⟩) (nS _ _ (.inr rfl)) (.int .i64 d.snapped))).trans (keep_setCell (p := ⟨w.heap.size + 1 + 1, 4, none⟩) (nS _ _ (.inr rfl)) (.slice A3 d.maps.length c3))
    generalize (((((w3.setCell ⟨w2.heap.size, 4, none⟩ (.slice A3 d.maps.length c3)).setCell ⟨w.heap.size + 1 + 1, 0, none⟩ (.int .i64 d.id)).setCell ⟨w.heap.size + 1 + 1, 1, none⟩ (.int .i64 d.tx)).setCell ⟨w.heap.size + 1 + 1, 2, none⟩ (.int .i64 d.made)).setCell ⟨w.heap.size + 1 + 1, 3, none⟩ (.int .i64 d.snapped)).setCell ⟨w.heap.size + 1 + 1, 4, none⟩ (.slice A3 d.maps.length c3) = w5 at *
    obtain ⟨r0, r1, r2, r3, r4⟩ := cells5 hs5
    refine bodyPost_ret (v := .tuple #[.agg #[.int .i64 d.id, .int .i64 d.tx, .int .i64 d.made, .int .i64 d.snapped, .slice A3 d.maps.length c3], .bool true]) (by simp [results, Try.results15, go_sem, r0, r1, r2, r3, r4]) rfl ?_
    refine ⟨_, by rw [HE2.out], ?_, hb5⟩
    rw [HE1.out]
    refine ⟨A3, c3, rfl, hc3, hr3.keep rmp_stable (fun b hb => ?_) hk5⟩
    rcases hb with hb | hb
    · have := hS b hb; show b < w5.heap.size; omega
    · show b < w5.heap.size; omega
  · obtain ⟨e1, e2⟩ := found_no (l := p.devs) (id := id) hn
    have HE1 := Lib.hid e1
    have HE2 := Lib.hid e2
    clear e1 e2 hn hd0 hi0
    have hs5 := set5 hd2 (.int .i64 0) (.int .i64 0) (.int .i64 0) (.int .i64 0) (.slice none 0 0)
    have hb5 := below5 hB02 (b := w.heap.size + 1 + 1) (by omega) (.int .i64 0) (.int .i64 0) (.int .i64 0) (.int .i64 0) (.slice none 0 0)
    have HS5 := Lib.hid hs5
    clear hs5 hd2
    go_wp2_with fail
    have hs5 := HS5.out
    generalize ((((w2.setCell ⟨w.heap.size + 1 + 1, 0, none⟩ (.int .i64 0)).setCell ⟨w.heap.size + 1 + 1, 1, none⟩ (.int .i64 0)).setCell ⟨w.heap.size + 1 + 1, 2, none⟩ (.int .i64 0)).setCell ⟨w.heap.size + 1 + 1, 3, none⟩ (.int .i64 0)).setCell ⟨w.heap.size + 1 + 1, 4, none⟩ (.slice none 0 0) = w5 at *
    obtain ⟨r0, r1, r2, r3, r4⟩ := cells5 hs5
    refine bodyPost_ret (v := .tuple #[.agg #[.int .i64 0, .int .i64 0, .int .i64 0, .int .i64 0, .slice none 0 0], .bool false]) (by simp [results, Try.results15, go_sem, r0, r1, r2, r3, r4]) rfl ?_
    exact ⟨_, by rw [HE2.out], by rw [HE1.out]; exact isDev0 _ _, hb5⟩
end Go.Proofs.Ytjclcjhmdohemaa

/- scantlinglaw49.ModelAlone where a write is done. Condition: the numbers fit into Go's int. -/
namespace Go.Proofs.Ytjclcjhmdohemaa
open Go.RowKit
attribute [local go_sem] Oper.semAt_some

theorem cntR_succ (a b : Int) {l : List Mp} {j : Nat} (hj : j < l.length) : cntR a b (l.take (j + 1)) = cntR a b (l.take j) + (if inR a b (nth mp0 l j) = true then 1 else 0) := by
  unfold cntR
  rw [List.take_succ_eq_append_getElem hj, List.countP_append, ← nth_get mp0 l j hj]
  simp [List.countP_cons]
set_option maxRecDepth 100000 in
set_option maxHeartbeats 1000000 in
theorem alone_done (w : World) (v1 : Value) (p : Pool) (o : Mop) (h1 : IsPool w (Lt w.heap.size) v1 p) (hok : p.ok) (hfp : fewN p = 1) (hfo : fewO [⟨4, o.dev, o.arg, o.n⟩] = 1) (hd : p.data ≤ 3000) (he : (applyF p ⟨4, o.dev, o.arg, o.n⟩).1 = 0) :
    Calls Try.prog 4 #[v1, mopV o] w fun e w' => e = .returned (.bool true) ∧ Below w.heap.size w w' := by
  obtain ⟨A, c, hv⟩ : ∃ A c, v1 = .agg #[.int .i64 p.tx, .int .i64 p.time, .int .i64 p.unit, .int .i64 p.data, .slice A p.devs.length c] := by obtain ⟨A, c, h, _⟩ := h1; exact ⟨A, c, h⟩
  have HAH := Lib.hid (aheadP (A := A) (c := c) h1 hok)
  subst hv
  obtain ⟨ok, od, oa, on⟩ := o
  dsimp only at hfo he
  have HFO := Lib.hid (fun (w' : World) (g : Nat) (hg : w'.heap[g]? = some (.cells #[.int .i64 4, .int .i64 od, .int .i64 oa, .int .i64 on] 37 (0, 0))) => few49_any w' (Lt (g + 1)) _ [⟨4, od, oa, on⟩] (one_op hg (Nat.lt_succ_self g)) (by simp))
  unfold AheadP at HAH
  rw [hfp] at HAH
  rw [hfo] at HFO
  have HAP := Lib.hid (fun w' hB => apply_any w' (Lt w.heap.size) _ p ⟨4, od, oa, on⟩ (fun b hb => Nat.lt_of_lt_of_le hb (HAH.out w' hB).1.size) (HAH.out w' hB).2.2.2.2 hok)
  have HAX := Lib.hid (fun w' hB => apply_any w' (Lt w.heap.size) _ p ⟨5, od, oa, on⟩ (fun b hb => Nat.lt_of_lt_of_le hb (HAH.out w' hB).1.size) (HAH.out w' hB).2.2.2.2 hok)
  obtain ⟨k, q, hR, hc, hqc, hk, hql, hfd, hfb, ha0, hn0, hab, hcnt, hone, hin, x, hx1, hx2, hxc⟩ := alone_facts (o := ⟨4, od, oa, on⟩) rfl he
  dsimp only at hfd hfb ha0 hn0 hab hcnt hone hx1 hx2
  rw [hR] at HAP
  rw [hx1] at HAX
  have hqok := fit_ok (fit_iff.1 hqc)
  have hxl := pool_len hxc
  have hqll := pool_len hqc
  have HAY := Lib.hid (fun (w' : World) (S : Nat → Prop) v (hS : ∀ b, S b → b < w'.heap.size) (h : IsPool w' S v q) => apply_any w' S v q ⟨5, od, oa, on⟩ hS h hqok)
  rw [hx2] at HAY
  have HRF := Lib.hid (fun (w' : World) (S : Nat → Prop) v (hS : ∀ b, S b → b < w'.heap.size) (h : IsPool w' S v q) => refs_any w' S v q hS h hqok)
  have HFQ := Lib.hid (fun (w' : World) (S : Nat → Prop) v (hS : ∀ b, S b → b < w'.heap.size) (h : IsPool w' S v q) => find_any w' S v q od hS h (by omega) (fun j hj => by have := maps_len hqc hj; omega))
  rw [hfb, hfd] at HFQ
  have HSM := Lib.hid (fun (w' : World) (S1 S2 : Nat → Prop) (u1 u2 : Value) (h1 : ∀ b, S1 b → b < w'.heap.size) (h2 : ∀ b, S2 b → b < w'.heap.size) (i1 : IsPool w' S1 u1 x) (i2 : IsPool w' S2 u2 x) => samePool_any w' S1 S2 u1 u2 x x h1 h2 i1 i2 (by omega) (fun j hj => by have := maps_len hxc hj; omega))
  rw [decide_eq_true rfl] at HSM
  have hml := maps_len hqc hk
  have hmq : (nth dev0 q.devs k).maps = mapsOf q k := rfl
  rw [hmq] at hml
  unfold IsDev at HFQ
  rw [hmq] at HFQ
  clear hmq
  generalize hmm : mapsOf q k = ml at *
  have HONE := Lib.hid hone
  have HIN := Lib.hid hin
  have HCN := Lib.hid hcnt
  generalize hrr : refsRes q = rs at *
  have hq1 : ((q.devs.length : Int) != (p.devs.length : Int)) = false := by simp; omega
  have hdd : decide (3000 < p.data) = false := by simp; omega
  have HXX := Lib.hid (And.intro hx1 (And.intro hx2 hxc))
  clear h1 hok hfp hfo he hR hx1 hx2 hxc hone hin hcnt hfd hfb hmm hrr hqok hk hc hqc hql
  unfold ApIs at HAP HAX HAY
  dsimp only [poolBox, mopV] at HAH HAP HAX HAY ⊢
  go_enter Try.func4, Try.ntmps4
  go_wp2_with fail
  obtain ⟨w1, hw1⟩ : ∃ x, (w.alloc (.cells #[.int .i64 p.tx, .int .i64 p.time, .int .i64 p.unit, .int .i64 p.data, .slice A p.devs.length c] 24)).alloc (.cells #[.int .i64 4, .int .i64 od, .int .i64 oa, .int .i64 on] 37) = x := ⟨_, rfl⟩
  have hk1 : Below (w.heap.size + 1) (w.alloc (.cells #[.int .i64 p.tx, .int .i64 p.time, .int .i64 p.unit, .int .i64 p.data, .slice A p.devs.length c] 24)) w1 := by rw [← hw1]; exact (Below.refl _ _).alloc (by simp) _
  have ho1 : OBox w1 (w.heap.size + 1) 4 od oa on := by
    rw [← hw1]
    have h := heap_alloc_new (w.alloc (.cells #[.int .i64 p.tx, .int .i64 p.time, .int .i64 p.unit, .int .i64 p.data, .slice A p.devs.length c] 24)) (.cells #[.int .i64 4, .int .i64 od, .int .i64 oa, .int .i64 on] 37)
    simp only [World.size_alloc] at h
    exact h
  rw [hw1]
  refine (HAH.out _ hk1).2.2.2.1.mono ?_
  rintro e w2 ⟨rfl, hB2⟩
  have hk2 := hk1.trans (hB2.mono (HAH.out _ hk1).2.2.1)
  have ho2 := ho1.below hB2 ho1.lt
  have hl2 := ho2.lt
  obtain ⟨x0, x1, x2, x3, x4⟩ := (HAH.out _ hk2).2.1.cells
  obtain ⟨y0, y1, y2, y3⟩ := ho2.cells
  have hz2 : w.heap.size < w2.heap.size := by omega
  clear hw1 ho1
  obtain ⟨w3, hw3⟩ : ∃ x, w2.alloc (.cells #[.int .i64 4, .int .i64 od, .int .i64 oa, .int .i64 on] 37) = x := ⟨_, rfl⟩
  have hB3 : Below w2.heap.size w2 w3 := by rw [← hw3]; exact (Below.refl _ _).alloc (Nat.le_refl _) _
  have hg3 : w3.heap[w2.heap.size]? = some (.cells #[.int .i64 4, .int .i64 od, .int .i64 oa, .int .i64 on] 37 (0, 0)) := by rw [← hw3]; exact heap_alloc_new _ _
  have hk3 := hk2.trans (hB3.mono (HAH.out _ hk2).2.2.1)
  have HO2 := Lib.hid ho2
  clear ho2
  go_wp2_with fail
  (try rw [hw3])
  refine (HFO.out w3 _ hg3).mono ?_
  rintro e _ ⟨rfl, rfl⟩
  have ho3 := HO2.out.below hB3 hl2
  clear hw3 hg3 x0 x1 x2 x3 x4 y0 y1 y2 y3
  obtain ⟨x0, x1, x2, x3, x4⟩ := (HAH.out _ hk3).2.1.cells
  obtain ⟨y0, y1, y2, y3⟩ := ho3.cells
  go_wp2_with fail
  (have hx := HAP.out _ hk3; with_reducible refine hx.mono ?_; clear hx)
  rintro e w4 ⟨v4, rfl, ⟨A4, c4, rfl, hc4, hr4⟩, hB4⟩
  have hl3 := ho3.lt
  have hk4 := hk3.trans (hB4.mono (HAH.out _ hk3).2.2.1)
  have ho4 := ho3.below hB4 ho3.lt
  have hz4 := hB4.size
  have HR4 := Lib.hid hr4
  clear hr4 x0 x1 x2 x3 x4 y0 y1 y2 y3
  go_wp2_with fail
  obtain ⟨w5, hw5⟩ : ∃ x, w4.alloc (.cells #[.int .i64 q.tx, .int .i64 q.time, .int .i64 q.unit, .int .i64 q.data, .slice A4 q.devs.length c4] 24) = x := ⟨_, rfl⟩
  have hB5 : Below w4.heap.size w4 w5 := by rw [← hw5]; exact (Below.refl _ _).alloc (Nat.le_refl _) _
  have hr5 : RBox w5 w4.heap.size (.int .i64 q.tx) (.int .i64 q.time) (.int .i64 q.unit) (.int .i64 q.data) (.slice A4 q.devs.length c4) := by rw [← hw5]; exact heap_alloc_new _ _
  rw [hw5]
  clear hw5
  have hIQ : ∀ w', Below w4.heap.size w4 w' → IsPool w' (Btw w3.heap.size w4.heap.size) (.agg #[.int .i64 q.tx, .int .i64 q.time, .int .i64 q.unit, .int .i64 q.data, .slice A4 q.devs.length c4]) q := fun w' hB => IsPool.below (p := q) ⟨A4, c4, rfl, hc4, HR4.out⟩ hB (fun b hb => hb.2)
  have HIQ := Lib.hid hIQ
  clear hIQ
  have hx := HRF.out w5 _ _ (fun b hb => Nat.lt_of_lt_of_le hb.2 hB5.size) (HIQ.out w5 hB5)
  refine hx.mono ?_
  clear hx
  rintro e w6 ⟨v6, rfl, ⟨A6, c6, rfl, hc6, hr6⟩, hB6⟩
  have hB46 := hB5.trans (hB6.mono hB5.size)
  have hz5 : w4.heap.size < w5.heap.size := (Array.getElem?_eq_some_iff.1 hr5).1
  have hz6 := hB6.size
  have hr56 := hr5.below hB6 hz5
  have ho6 := ho4.below hB46 ho4.lt
  have HR6 := Lib.hid hr6
  obtain ⟨x0, x1, x2, x3, x4⟩ := hr56.cells
  obtain ⟨y0, y1, y2, y3⟩ := ho6.cells
  clear hr6
  go_wp2_with fail
  have hx := HFQ.out w6 _ _ (fun b hb => Nat.lt_of_lt_of_le hb.2 hB46.size) (HIQ.out w6 hB46)
  refine hx.mono ?_
  clear hx
  generalize nth dev0 q.devs k = dv at *
  obtain ⟨vi, vt, vm, vs, vmaps⟩ := dv
  rintro e w7 ⟨v7, rfl, ⟨A7, c7, rfl, hc7, hm7⟩, hB7⟩
  have hB47 := hB46.trans (hB7.mono hB46.size)
  have hk7 := hk4.trans (hB47.mono (HAH.out _ hk4).2.2.1)
  dsimp only at hm7 hc7 ⊢
  have hr7 := hr56.below hB7 (Nat.lt_of_lt_of_le hz5 hz6)
  have ho7 := ho6.below hB7 ho6.lt
  have hz7 := hB7.size
  have hl7 := (HAH.out _ hk7).2.2.1
  have HM7 := Lib.hid hm7
  clear hm7 x0 x1 x2 x3 x4 y0 y1 y2 y3
  have hl7o := ho7.lt
  have hr7l : w4.heap.size < w7.heap.size := (Array.getElem?_eq_some_iff.1 hr7).1
  obtain ⟨w8, hw8⟩ : ∃ x, w7.alloc (.cells #[.int .i64 vi, .int .i64 vt, .int .i64 vm, .int .i64 vs, .slice A7 ml.length c7] 44) = x := ⟨_, rfl⟩
  have hB8 : Below w7.heap.size w7 w8 := by rw [← hw8]; exact (Below.refl _ _).alloc (Nat.le_refl _) _
  have hd8 : w8.heap[w7.heap.size]? = some (.cells #[.int .i64 vi, .int .i64 vt, .int .i64 vm, .int .i64 vs, .slice A7 ml.length c7] 44 (0, 0)) := by rw [← hw8]; exact heap_alloc_new _ _
  have hk8 := hk7.trans (hB8.mono hl7)
  have hB48 := hB47.trans (hB8.mono (by omega))
  have hr8 := hr7.below hB8 hr7l
  have ho8 := ho7.below hB8 hl7o
  have hl8o := ho8.lt
  have hr8l : w4.heap.size < w8.heap.size := (Array.getElem?_eq_some_iff.1 hr8).1
  have hm8 := HM7.out.keep (S' := Lt w7.heap.size) rmp_stable (fun _ h => h) (keep_below hB8 (fun _ h => h))
  have hi8 : IsInts w8 (Btw w5.heap.size w6.heap.size) (.slice A6 rs.length c6) rs := ⟨A6, c6, rfl, hc6, HR6.out.keep (flat_stable _) (fun _ h => h) (keep_below (hB7.trans (hB8.mono hz7)) (fun b hb => hb.2))⟩
  have HM8 := Lib.hid hm8
  have HI8 := Lib.hid hi8
  clear hm8 hi8
  obtain ⟨x0, x1, x2, x3, x4⟩ := (HAH.out _ hk8).2.1.cells
  obtain ⟨z0, z1, z2, z3, z4⟩ := hr8.cells
  obtain ⟨y0, y1, y2, y3⟩ := ho8.cells
  obtain ⟨d0, d1, d2, d3, d4⟩ := cells5 hd8
  go_wp2_with fail
  obtain ⟨nm, hnm⟩ : ∃ n, ml.length = n := ⟨_, rfl⟩
  rw [hnm] at hml d4 ⊢
  have HN := Lib.hid hnm
  clear hnm hw8
  go_loopw [10, 11] (fun t i wr => ∃ j m : Nat, i = .int .i64 j ∧ j ≤ nm ∧ t = .int .i64 (cntR oa (oa + on) (ml.take j)) ∧ wr = w8.drewN m) (fun _ i _ => nm - (intOf i).toNat)
  case atStart => exact ⟨0, 0, rfl, Nat.zero_le _, rfl, rfl⟩
  case round =>
    obtain ⟨j, m, rfl, hj, rfl, rfl⟩ := hrel
    by_cases hlt : j < nm
    · obtain ⟨b7, o7, rfl, hb7, hcc⟩ := maps_cells HM8.out (by rw [HN.out]; omega)
      obtain ⟨m0, m1, m2⟩ := hcc j (by rw [HN.out]; exact hlt)
      have hsucc := cntR_succ oa (oa + on) (l := ml) (by rw [HN.out]; exact hlt)
      have hcl : cntR oa (oa + on) (ml.take j) ≤ j := by
        have := List.countP_le_length (p := inR oa (oa + on)) (l := ml.take j)
        have h2 : (ml.take j).length ≤ j := by rw [List.length_take]; omega
        unfold cntR
        omega
      have hif : inR oa (oa + on) (nth mp0 ml j) = true → nth 0 rs (nth mp0 ml j).b.toNat = 1 := HONE.out j (by rw [HN.out]; exact hlt)
      obtain ⟨hb0, hb1⟩ := HIN.out j (by rw [HN.out]; exact hlt)
      have HSU := Lib.hid hsucc
      have HIF := Lib.hid hif
      clear hsucc hif hcc
      unfold inR at HIF
      obtain ⟨bn, hbn⟩ := Int.eq_ofNat_of_zero_le hb0
      rw [hbn] at HIF m1 hb1
      generalize hmv : (nth mp0 ml j).v = mv at *
      have hir : inR oa (oa + on) (nth mp0 ml j) = (decide (oa ≤ mv) && decide (mv < oa + on)) := by unfold inR; rw [hmv]
      have HIR := Lib.hid hir
      clear hir
      simp only [Int.toNat_natCast] at HIF hb1
      clear hb0 hbn hmv m2
      have hcs : (decide (oa ≤ mv) = false ∧ ¬ oa ≤ mv) ∨ (decide (oa ≤ mv) = true ∧ oa ≤ mv ∧ decide (mv < oa + on) = false ∧ ¬ mv < oa + on) ∨ (decide (oa ≤ mv) = true ∧ oa ≤ mv ∧ decide (mv < oa + on) = true ∧ mv < oa + on) := by
        by_cases e1 : oa ≤ mv
        · by_cases e2 : mv < oa + on
          · exact .inr (.inr ⟨decide_eq_true e1, e1, decide_eq_true e2, e2⟩)
          · exact .inr (.inl ⟨decide_eq_true e1, e1, decide_eq_false e2, e2⟩)
        · exact .inl ⟨decide_eq_false e1, e1⟩
      rcases hcs with ⟨g1, g2⟩ | ⟨g1, g2, g3, g4⟩ | ⟨g1, g2, g3, g4⟩
      · go_wp2_with fail
        go_quiet (fail)
        go_wp2_with fail
        go_roundw
        case rel => exact ⟨j + 1, m + nq, by simp, by omega, by rw [HSU.out, HIR.out, if_neg (by rw [g1]; simp)]; rfl, rfl⟩
        case measure => simp only [intOf]; omega
      · go_wp2_with fail
        go_quiet (fail)
        go_wp2_with fail
        go_roundw
        case rel => exact ⟨j + 1, m + nq, by simp, by omega, by rw [HSU.out, HIR.out, if_neg (by rw [g1, g3]; simp)]; rfl, rfl⟩
        case measure => simp only [intOf]; omega
      · have h1 := HIF.out (by rw [g1, g3]; rfl)
        obtain ⟨b6, o6, rfl, hb6, hci⟩ := ints_cells (by obtain ⟨A', c', e, _, hr⟩ := HI8.out; cases e; exact hr) (by omega)
        have i0 := hci bn hb1
        rw [h1] at i0
        clear h1 hci
        go_wp2_with fail
        go_quiet (fail)
        go_wp2_with fail
        go_roundw
        case rel => exact ⟨j + 1, m + nq, by simp, by omega, by rw [HSU.out, HIR.out, if_pos (by rw [g1, g3]; rfl)]; rfl, rfl⟩
        case measure => simp only [intOf]; omega
    · obtain rfl : j = nm := by omega
      have hcn : (cntR oa (oa + on) (ml.take j) : Int) = on := by
        rw [show ml.take j = ml by rw [← HN.out]; exact List.take_length, HCN.out]
        exact Int.toNat_of_nonneg (by omega)
      rw [hcn]
      have f0 := ho8.free 0
      clear hcn
      go_wp2_with fail
      obtain ⟨w9, hw9⟩ : ∃ x, (w8.drewN m).setCell ⟨w.heap.size + 1, 0, none⟩ (.int .i64 5) = x := ⟨_, rfl⟩
      have ho9 : OBox w9 (w.heap.size + 1) 5 od oa on := by rw [← hw9]; exact OBox.set (w := w8.drewN m) ho8 5
      have hk9 := (below_drewN hk8 m).setCell (p := ⟨w.heap.size + 1, 0, none⟩) (Nat.le_refl _) (.int .i64 5)
      rw [hw9] at hk9
      have hl2' : w.heap.size + 1 < w3.heap.size := hl3
      have hr9 : RBox w9 w4.heap.size (.int .i64 q.tx) (.int .i64 q.time) (.int .i64 q.unit) (.int .i64 q.data) (.slice A4 q.devs.length c4) := by
        rw [← hw9]
        exact (Below.heap_setCell (w8.drewN m) ⟨w.heap.size + 1, 0, none⟩ _ _ (by simp only; omega)).trans hr8
      have hi9 : IsPool w9 (Btw w3.heap.size w4.heap.size) (.agg #[.int .i64 q.tx, .int .i64 q.time, .int .i64 q.unit, .int .i64 q.data, .slice A4 q.devs.length c4]) q := by
        rw [← hw9]
        exact pool_keep (HIQ.out (w8.drewN m) (below_drewN hB48 m)) (fun _ h => h) (keep_setCell (p := ⟨w.heap.size + 1, 0, none⟩) (fun h => absurd h.1 (by simp only; omega)) _)
      have hz9 : w8.heap.size = w9.heap.size := by rw [← hw9]; simp
      have HIQ9 := Lib.hid hi9
      clear hi9
      rw [hw9]
      clear hw9 x0 x1 x2 x3 x4 y0 y1 y2 y3 z0 z1 z2 z3 z4 d0 d1 d2 d3 d4
      have hl9 := (HAH.out _ hk9).2.2.1
      refine (HAX.out _ hk9).mono ?_
      rintro e w10 ⟨v10, rfl, ⟨A10, c10, rfl, hc10, hx10⟩, hB10⟩
      have hk10 := hk9.trans (hB10.mono hl9)
      have hr10 := hr9.below hB10 (by omega)
      have ho10 := ho9.below hB10 ho9.lt
      have hl10 := hB10.size
      have ho10l := ho10.lt
      have hr10l : w4.heap.size < w10.heap.size := (Array.getElem?_eq_some_iff.1 hr10).1
      have HX10 := Lib.hid hx10
      obtain ⟨w11, hw11⟩ : ∃ y, w10.alloc (.cells #[.int .i64 x.tx, .int .i64 x.time, .int .i64 x.unit, .int .i64 x.data, .slice A10 x.devs.length c10] 24) = y := ⟨_, rfl⟩
      have hB11 : Below w10.heap.size w10 w11 := by rw [← hw11]; exact (Below.refl _ _).alloc (Nat.le_refl _) _
      have hr11 : RBox w11 w10.heap.size (.int .i64 x.tx) (.int .i64 x.time) (.int .i64 x.unit) (.int .i64 x.data) (.slice A10 x.devs.length c10) := by rw [← hw11]; exact heap_alloc_new _ _
      have hq11 := hr10.below hB11 hr10l
      have ho11 := ho10.below hB11 ho10l
      have hr11l : w10.heap.size < w11.heap.size := (Array.getElem?_eq_some_iff.1 hr11).1
      have hk11 := hk10.trans (hB11.mono (by omega))
      obtain ⟨z0, z1, z2, z3, z4⟩ := hq11.cells
      obtain ⟨y0, y1, y2, y3⟩ := ho11.cells
      clear hx10
      go_wp2_with fail
      clear hw11 y0 y1 y2 y3 z0 z1 z2 z3 z4
      have hB911 := hB10.trans (hB11.mono hl10)
      have hx := HAY.out w11 _ _ (fun b hb => by have h1 := hb.2; have := hB11.size; omega) (HIQ9.out.below hB911 (fun b hb => by have h1 := hb.2; omega))
      refine hx.mono ?_
      clear hx
      rintro e w12 ⟨v12, rfl, ⟨A12, c12, rfl, hc12, hx12⟩, hB12⟩
      have hk12 := hk11.trans (hB12.mono (by omega))
      have hr12 := hr11.below hB12 hr11l
      have hl12 := hB12.size
      have hr12l : w10.heap.size < w12.heap.size := by omega
      have HX12 := Lib.hid hx12
      obtain ⟨w13, hw13⟩ : ∃ y, w12.alloc (.cells #[.int .i64 x.tx, .int .i64 x.time, .int .i64 x.unit, .int .i64 x.data, .slice A12 x.devs.length c12] 24) = y := ⟨_, rfl⟩
      have hB13 : Below w12.heap.size w12 w13 := by rw [← hw13]; exact (Below.refl _ _).alloc (Nat.le_refl _) _
      have hr13 : RBox w13 w12.heap.size (.int .i64 x.tx) (.int .i64 x.time) (.int .i64 x.unit) (.int .i64 x.data) (.slice A12 x.devs.length c12) := by rw [← hw13]; exact heap_alloc_new _ _
      have hq13 := hr12.below hB13 hr12l
      have hk13 := hk12.trans (hB13.mono (by omega))
      obtain ⟨z0, z1, z2, z3, z4⟩ := hq13.cells
      obtain ⟨y0, y1, y2, y3, y4⟩ := hr13.cells
      clear hx12
      go_wp2_with fail
      clear hw13
      have hB1013 : Below w10.heap.size w10 w13 := hB11.trans ((hB12.mono (by omega)).trans (hB13.mono (by omega)))
      have hx := HSM.out w13 (Btw w9.heap.size w10.heap.size) (Btw w11.heap.size w12.heap.size) _ _ (fun b hb => Nat.lt_of_lt_of_le hb.2 hB1013.size) (fun b hb => Nat.lt_of_lt_of_le hb.2 hB13.size) (IsPool.below (p := x) ⟨A10, c10, rfl, hc10, HX10.out⟩ hB1013 (fun b hb => hb.2)) (IsPool.below (p := x) ⟨A12, c12, rfl, hc12, HX12.out⟩ hB13 (fun b hb => hb.2))
      refine hx.mono ?_
      clear hx
      rintro e w14 ⟨rfl, hB14⟩
      have hk14 := hk13.trans (hB14.mono (HAH.out _ hk13).2.2.1)
      clear y0 y1 y2 y3 y4 z0 z1 z2 z3 z4
      go_wp2_with fail
      refine (lives49 _).mono ?_
      rintro e w15 ⟨rfl, hB15⟩
      have hk15 := hk14.trans (hB15.mono (HAH.out _ hk14).2.2.1)
      go_wp2_with fail
      go_ret
      exact ⟨rfl, (HAH.out _ hk15).1⟩
end Go.Proofs.Ytjclcjhmdohemaa

/- scantlinglaw49.ModelAlone says yes of every input. Condition: the numbers fit into Go's int. -/
namespace Go.Proofs.Ytjclcjhmdohemaa
open Go.RowKit

theorem modelAlone_walk (w : World) (v1 : Value) (p : Pool) (o : Mop) (h1 : IsPool w (Lt w.heap.size) v1 p) (hok : p.ok) :
    Calls Try.prog 4 #[v1, mopV o] w fun e w' => e = .returned (.bool true) ∧ Below w.heap.size w w' := by
  by_cases hf : fewN p = 0 ∨ fewO [⟨4, o.dev, o.arg, o.n⟩] = 0 ∨ 3000 < p.data
  · exact alone_far w v1 p o h1 hok hf
  · have hfp := (fewN_one p).resolve_left (fun e => hf (.inl e))
    have hfo := (fewO_one [⟨4, o.dev, o.arg, o.n⟩]).resolve_left (fun e => hf (.inr (.inl e)))
    have hd : p.data ≤ 3000 := by
      have : ¬ 3000 < p.data := fun e => hf (.inr (.inr e))
      omega
    by_cases he : (applyF p ⟨4, o.dev, o.arg, o.n⟩).1 = 0
    · exact alone_done w v1 p o h1 hok hfp hfo hd he
    · exact alone_err w v1 p o h1 hok hfp hfo hd he
theorem mop_val {w : World} {S : Nat → Prop} {cs : Array Value} {o : Mop} (h : Flat Mop.enc w S cs.toList o) : Value.agg cs = mopV o := by
  have e : cs.toList = Mop.enc o := h
  show Value.agg cs = Value.agg #[.int .i64 o.kind, .int .i64 o.dev, .int .i64 o.arg, .int .i64 o.n]
  congr 1
  exact Array.toList_inj.1 e
theorem modelAlone_row (w : World) (v1 v2 : Value) (p : Pool) (o : Mop) (h1 : IsPool w (Lt w.heap.size) v1 p) (hok : p.ok) (h2 : v2 = mopV o) :
    Calls Try.prog 4 #[v1, v2] w fun e w' => e = .returned (.bool true) ∧ Below w.heap.size w w' := by
  subst h2
  exact modelAlone_walk w v1 p o h1 hok
end Go.Proofs.Ytjclcjhmdohemaa

/- From an argument's reading to the words of Base: slices of structs of integers, nested slices, lengths within the reach. No condition: for any program. -/
namespace Go.Proofs.Ytjclcjhmdohemaa
open Go.RowKit Go.ChangeShapes Go.WideShapes Go.Deep

/-- Nothing that the datum holds is longer than the reach. -/
def Weighs {H : Type} (P : Program) (t : TypeId) (d : DataW H) : Prop := ∀ x ∈ d.weights P t, x ≤ reachBytes

theorem weightsAll_mem {H : Type} {P : Program} {e : TypeId} {d : DataW H} {x : Nat} : ∀ {l : List (DataW H)}, d ∈ l → x ∈ d.weights P e → x ∈ DataW.weightsAll P e l := by
  intro l
  induction l with
  | nil => intro h; cases h
  | cons a l ih =>
    intro h hx
    rw [DataW.weightsAll, List.mem_append]
    rcases List.mem_cons.1 h with rfl | h
    · exact .inl hx
    · exact .inr (ih h hx)
theorem weightsEach_mem {H : Type} {P : Program} {d : DataW H} {t : TypeId} {x : Nat} : ∀ {ts : List TypeId} {l : List (DataW H)} {i : Nat}, ts[i]? = some t → l[i]? = some d → x ∈ d.weights P t → x ∈ DataW.weightsEach P ts l := by
  intro ts
  induction ts with
  | nil => intro l i h; simp at h
  | cons a ts ih =>
    intro l i h hl hx
    cases l with
    | nil => simp at hl
    | cons b l =>
      rw [DataW.weightsEach, List.mem_append]
      cases i with
      | zero =>
        simp at h hl
        subst h hl
        exact .inl hx
      | succ i =>
        simp at h hl
        exact .inr (ih h hl hx)

/-- What the reading of a value of type t tells of its cells. -/
def Opens {α : Type} (P : Program) (t : TypeId) (R : Rel α) (ok : α → Prop) : Prop :=
  ∀ (H : Type) (enc : TypeId × Value → H) (w : World) (base : Nat) (spare : Nat → Bool) (held : Bool) (n : Nat) (cs : List Value) (y : DataW H × List MemPlace),
    DataW.trod enc P w base spare held n t cs = some y → Weighs P t y.1 → ∃ a, R w (Lt w.heap.size) cs a ∧ ok a

theorem in64_of_wf {n : Int} (h : (Lit.int .i64 n).wf = true) : In64 n := by
  have := bounds_i64 h
  unfold In64
  omega

/-- A slice as a relation on its one cell. -/
def RSl {α : Type} (R : Rel α) (size : Nat) (d : α) : Rel (List α) := fun w S cs l => ∃ v, cs = [v] ∧ IsSl R size d w S v l
theorem rsl_stable {α : Type} {R : Rel α} {size : Nat} {d : α} (h : Stable R) : Stable (RSl R size d) := by
  rintro w w' S S' cs l hs hk ⟨v, e, hv⟩
  exact ⟨v, e, hv.keep h hs hk⟩

theorem opens_slice {α : Type} {P : Program} {t e : TypeId} {R : Rel α} {ok : α → Prop} {size bytes : Nat} (d : α) (ht : P.underlying t = some (.slice e)) (hC : P.cellsOf e = size) (hsz : 0 < size) (hb : P.bytesOf e = bytes) (h : Opens P e R ok) :
    Opens P t (RSl R size d) (fun l => (∀ a ∈ l, ok a) ∧ l.length * bytes ≤ reachBytes) := by
  intro H enc w base spare held n cs y hy hw
  rcases open_slice ht hy with ⟨rfl, rfl⟩ | ⟨a, len, cap, m, n', D, Pl, rfl, _, hl, _, hm, rfl, hi⟩
  · exact ⟨[], ⟨_, rfl, IsSl.nil_⟩, by simp, by simp⟩
  · have hlm : len ≤ m := by rw [hm]; split <;> omega
    have hmem : ∀ i, i < len → D i ∈ (List.range len).map D := fun i hi => List.mem_map.2 ⟨i, List.mem_range.2 hi, rfl⟩
    have hwe : ∀ i, i < len → Weighs P e (D i) := by
      intro i hi x hx
      refine hw x ?_
      simp only [DataW.weights, ht]
      exact List.mem_cons_of_mem _ (List.mem_append_left _ (weightsAll_mem (hmem i hi) hx))
    have hlen : len * bytes ≤ reachBytes := by
      have := hw (((List.range len).map D).length + ((List.range (m - len)).map fun j => D (len + j)).length |>.mul (P.bytesOf e)) (by
        simp only [DataW.weights, ht]
        exact List.mem_cons_self)
      simp only [List.length_map, List.length_range, hb] at this
      exact Nat.le_trans (Nat.mul_le_mul_right _ (by omega)) this
    have hx : ∀ i, i < len → ∃ x : α, ∃ cs', w.cells? base (a.add (i * size)) size = some cs' ∧ R w (Lt w.heap.size) cs' x ∧ ok x := by
      intro i hil
      obtain ⟨cs', h1, h2⟩ := hi i (by omega)
      rw [hC] at h1
      obtain ⟨x, hx1, hx2⟩ := h H enc w base spare held n' cs' _ h2 (hwe i hil)
      exact ⟨x, cs', h1, hx1, hx2⟩
    haveI : Inhabited α := ⟨d⟩
    obtain ⟨f, hf⟩ := choose_lt hx
    refine ⟨(List.range len).map f, ⟨_, rfl, some a, cap, by simp, by simpa using hl, ?_⟩, ?_, by simpa using hlen⟩
    · intro h0
      simp only [List.length_map, List.length_range] at h0
      obtain ⟨cs0, h1, _, _⟩ := hf 0 h0
      obtain ⟨_, hl0, hc0⟩ := World.cells?_some h1
      have hcell : w.cell? (a.add (0 * size)) = cs0[0]? := by
        have := hc0 0 hsz
        simpa [Addr.add] using this
      obtain ⟨u, hu⟩ : ∃ u, cs0[0]? = some u := ⟨cs0[0]'(by omega), List.getElem?_eq_getElem (by omega)⟩
      rw [hu] at hcell
      have hcell' : w.cell? a = some u := by simpa [Addr.add] using hcell
      obtain ⟨b, off, spot⟩ := a
      obtain rfl : spot = none := World.cell?_spot hcell'
      refine ⟨b, off, rfl, World.block_lt_of_cell? w _ hcell', fun k hk => ?_⟩
      simp only [List.length_map, List.length_range] at hk
      obtain ⟨cs', g1, g2, _⟩ := hf k hk
      obtain ⟨_, g3, g4⟩ := World.cells?_some g1
      refine ⟨cs', g3, ?_, fun j u hu => ?_⟩
      · rw [nth_get d _ k (by simpa using hk)]
        simpa using g2
      · have hj : j < size := by
          have := (List.getElem?_eq_some_iff.1 hu).1
          omega
        have := g4 j hj
        rw [hu, add_add] at this
        have e1 : (⟨b, off, none⟩ : Addr).add (k * size + j) = ⟨b, off + k * size + j, none⟩ := by
          unfold Addr.add
          split
          · rename_i h0
            have : off = off + k * size + j := by omega
            rw [← this]
          · simp only [Addr.mk.injEq, and_true, true_and]; omega
        rw [e1] at this
        exact this
    · intro x hx
      obtain ⟨i, hi, rfl⟩ := List.mem_map.1 hx
      obtain ⟨_, _, _, g⟩ := hf i (List.mem_range.1 hi)
      exact g

/-- A struct of one-cell fields: each field's own reading. -/
theorem struct_fields {H : Type} {enc : TypeId × Value → H} {P : Program} {w : World} {base : Nat} {spare : Nat → Bool} {held : Bool} {n : Nat} {t : TypeId} {fs : Array Field} {cs : List Value} {y : DataW H × List MemPlace}
    (hs : P.underlying t = some (.struct fs)) (hone : oneCellFields P fs = true) (hC : P.cellsOf t = fs.size) (h : DataW.trod enc P w base spare held n t cs = some y) (hw : Weighs P t y.1) :
    cs.length = fs.size ∧ ∀ (i : Nat) (f : Field), fs[i]? = some f → ∃ u m z, cs[i]? = some u ∧ DataW.trod enc P w base spare held m f.type [u] = some z ∧ Weighs P f.type z.1 := by
  obtain ⟨xs, m, _, rfl, hlen, hxl, hf⟩ := DataW.trod_struct hs h
  rw [hC] at hlen
  refine ⟨hlen, fun i f hi => ?_⟩
  obtain ⟨ho, hk⟩ := hone_of hone i f hi
  have hil : i < fs.size := (Array.getElem?_eq_some_iff.1 hi).1
  have h1 := hf i f hi
  have hu : cs[i]? = some (cs[i]'(by omega)) := List.getElem?_eq_getElem (by omega)
  have hx : xs[i]? = some (xs[i]'(by omega)) := List.getElem?_eq_getElem (by omega)
  have hone' : (cs.drop i).take 1 = [cs[i]'(by omega)] := by
    rw [List.drop_eq_getElem_cons (by omega)]
    rfl
  rw [ho, hk, hone', hx] at h1
  refine ⟨_, m, _, hu, h1, fun x hxw => hw x ?_⟩
  simp only [DataW.weights, hs]
  refine weightsEach_mem (i := i) (t := f.type) (d := (xs[i]'(by omega)).1) ?_ ?_ hxw
  · rw [List.getElem?_map]
    have : fs.toList[i]? = some f := by simpa using hi
    rw [this]; rfl
  · rw [List.getElem?_map, hx]; rfl
theorem field_int {H : Type} {enc : TypeId × Value → H} {P : Program} {w : World} {base : Nat} {spare : Nat → Bool} {held : Bool} {n : Nat} {t : TypeId} {u : Value} {y : DataW H × List MemPlace} (ht : P.underlying t = some (.int .i64))
    (h : DataW.trod enc P w base spare held n t [u] = some y) : ∃ k, u = .int .i64 k ∧ In64 k := by
  obtain ⟨k, e, _, hw⟩ := DataW.trod_int ht h
  simp at e
  exact ⟨k, e, in64_of_wf hw⟩
/-- A struct of integers. -/
theorem opens_ints {P : Program} {t : TypeId} {fs : Array Field} (hs : P.underlying t = some (.struct fs)) (hone : oneCellFields P fs = true) (hC : P.cellsOf t = fs.size) (hf : ∀ (i : Nat) (f : Field), fs[i]? = some f → P.underlying f.type = some (.int .i64)) :
    Opens P t (fun _ _ cs (ns : List Int) => cs = ns.map (Value.int .i64) ∧ ns.length = fs.size) (fun ns => ∀ n ∈ ns, In64 n) := by
  intro H enc w base spare held n cs y hy hw
  obtain ⟨hlen, hx⟩ := struct_fields hs hone hC hy hw
  have hg : ∀ i, i < fs.size → ∃ k : Int, cs[i]? = some (.int .i64 k) ∧ In64 k := by
    intro i hi
    have hfi : fs[i]? = some fs[i] := by simp [hi]
    obtain ⟨u, m, z, hu, hz, _⟩ := hx i _ hfi
    obtain ⟨k, rfl, hk⟩ := field_int (hf i _ hfi) hz
    exact ⟨k, hu, hk⟩
  obtain ⟨f, hf'⟩ := choose_lt hg
  refine ⟨(List.range fs.size).map f, ⟨?_, by simp⟩, ?_⟩
  · apply List.ext_getElem?
    intro i
    by_cases hi : i < fs.size
    · rw [(hf' i hi).1]; simp [hi]
    · rw [List.getElem?_eq_none (by omega)]; simp [hi]
  · intro k hk
    obtain ⟨i, hi, rfl⟩ := List.mem_map.1 hk
    exact (hf' i (List.mem_range.1 hi)).2
theorem Opens.mono {α β : Type} {P : Program} {t : TypeId} {R : Rel α} {ok : α → Prop} {R' : Rel β} {ok' : β → Prop} (h : Opens P t R ok) (f : ∀ w S cs a, R w S cs a → ok a → ∃ b, R' w S cs b ∧ ok' b) : Opens P t R' ok' := by
  intro H enc w base spare held n cs y hy hw
  obtain ⟨a, ha, hoa⟩ := h H enc w base spare held n cs y hy hw
  exact f _ _ _ _ ha hoa
/-- A struct of four integers and a slice. -/
theorem opens_four {α : Type} {P : Program} {t ti ts : TypeId} {f0 f1 f2 f3 f4 : Field} {R : Rel (List α)} {ok : List α → Prop} (hs : P.underlying t = some (.struct #[f0, f1, f2, f3, f4])) (hone : oneCellFields P #[f0, f1, f2, f3, f4] = true) (hC : P.cellsOf t = 5)
    (h0 : f0.type = ti) (h1 : f1.type = ti) (h2 : f2.type = ti) (h3 : f3.type = ti) (h4 : f4.type = ts) (hi : P.underlying ti = some (.int .i64)) (h : Opens P ts R ok) :
    Opens P t (fun w S cs (x : Int × Int × Int × Int × List α) => ∃ v, cs = [.int .i64 x.1, .int .i64 x.2.1, .int .i64 x.2.2.1, .int .i64 x.2.2.2.1, v] ∧ R w S [v] x.2.2.2.2)
      (fun x => In64 x.1 ∧ In64 x.2.1 ∧ In64 x.2.2.1 ∧ In64 x.2.2.2.1 ∧ ok x.2.2.2.2) := by
  intro H enc w base spare held n cs y hy hw
  obtain ⟨hlen, hx⟩ := struct_fields hs hone hC hy hw
  obtain ⟨u0, _, _, e0, g0, _⟩ := hx 0 f0 rfl
  obtain ⟨u1, _, _, e1, g1, _⟩ := hx 1 f1 rfl
  obtain ⟨u2, _, _, e2, g2, _⟩ := hx 2 f2 rfl
  obtain ⟨u3, _, _, e3, g3, _⟩ := hx 3 f3 rfl
  obtain ⟨u4, _, _, e4, g4, w4⟩ := hx 4 f4 rfl
  subst h0
  obtain ⟨n0, rfl, k0⟩ := field_int hi g0
  rw [h1] at g1; rw [h2] at g2; rw [h3] at g3; rw [h4] at g4 w4
  obtain ⟨n1, rfl, k1⟩ := field_int hi g1
  obtain ⟨n2, rfl, k2⟩ := field_int hi g2
  obtain ⟨n3, rfl, k3⟩ := field_int hi g3
  obtain ⟨l, hr, hok⟩ := h H enc w base spare held _ [u4] _ g4 w4
  refine ⟨(n0, n1, n2, n3, l), ⟨u4, ?_, hr⟩, k0, k1, k2, k3, hok⟩
  match cs, hlen with
  | [c0, c1, c2, c3, c4], _ =>
    simp at e0 e1 e2 e3 e4
    subst e0 e1 e2 e3 e4
    rfl
end Go.Proofs.Ytjclcjhmdohemaa

/- What the readings of this program's types tell. No condition. -/
namespace Go.Proofs.Ytjclcjhmdohemaa
open Go.RowKit
theorem list3 {α : Type} {l : List α} (h : l.length = 3) : ∃ a b c, l = [a, b, c] := by
  match l, h with
  | [a, b, c], _ => exact ⟨a, b, c, rfl⟩
theorem opens_mp : Opens Try.prog 48 RMp Mp.ok :=
  (opens_ints Try.underlying48 (by kernel_rfl) (by kernel_rfl) (by
    intro i f h
    match i, h with
    | 0, h => simp at h; subst h; exact Try.underlying3
    | 1, h => simp at h; subst h; exact Try.underlying3
    | 2, h => simp at h; subst h; exact Try.underlying3
    | i + 3, h => simp at h)).mono (by
      rintro w S cs ns ⟨rfl, hl⟩ hn
      obtain ⟨a, b, c, rfl⟩ := list3 (by simpa using hl)
      exact ⟨⟨a, b, c⟩, rfl, hn a (by simp), hn b (by simp), hn c (by simp)⟩)
def MapsOk (l : List Mp) : Prop := (∀ m ∈ l, m.ok) ∧ l.length * 24 ≤ reachBytes
theorem MapsOk.len {l : List Mp} (h : MapsOk l) : l.length ≤ 5864062014805 := by have := h.2; unfold reachBytes at this; omega
theorem opens_maps : Opens Try.prog 42 (RSl RMp 3 mp0) MapsOk :=
  opens_slice mp0 Try.underlying42 (by kernel_rfl) (by omega) (by kernel_rfl) opens_mp
/-- What an argument's reading tells. -/
theorem Opens.arg {α : Type} {P : Program} {t : TypeId} {R : Rel α} {ok : α → Prop} (h : Opens P t R ok) {H : Type} {enc : TypeId × Value → H} {w : World} {base : Nat} {spare : Nat → Bool} {held : Bool} {v : Value} {d : DataW H} {p : List MemPlace}
    (ht : DataW.Trod enc P w base spare held t v d p) (hw : Weighs P t d) : ∃ a, R w (Lt w.heap.size) v.cells.toList a ∧ ok a := by
  obtain ⟨n, hn⟩ := ht
  exact h H enc w base spare held n _ _ hn hw
theorem weighs_of {H : Type} {P : Program} {ts : List TypeId} {ds : List (DataW H)} (h : (DataW.weightsEach P ts ds).all (· ≤ reachBytes) = true) {i : Nat} {t : TypeId} {d : DataW H} (ht : ts[i]? = some t) (hd : ds[i]? = some d) : Weighs P t d :=
  fun x hx => by simpa using List.all_eq_true.1 h x (weightsEach_mem ht hd hx)
end Go.Proofs.Ytjclcjhmdohemaa

/- What the readings of devices and pools tell. No condition. -/
namespace Go.Proofs.Ytjclcjhmdohemaa
open Go.RowKit
theorem MapsOk.dev {l : List Mp} (h : MapsOk l) : (∀ m ∈ l, m.ok) ∧ l.length ≤ 5864062014805 := ⟨h.1, h.len⟩
theorem opens_dev : Opens Try.prog 44 RDev Dev.ok :=
  (opens_four (ti := 3) Try.underlying44 (by kernel_rfl) (by kernel_rfl) rfl rfl rfl rfl rfl Try.underlying3 opens_maps).mono (by
    rintro w S cs ⟨a, b, c, d, l⟩ ⟨v, rfl, v', e, A, c', rfl, hc, hr⟩ ⟨o1, o2, o3, o4, o5⟩
    cases e
    exact ⟨⟨a, b, c, d, l⟩, ⟨A, c', rfl, hc, hr⟩, o1, o2, o3, o4, o5.1, o5.len⟩)
def DevsOk (l : List Dev) : Prop := (∀ d ∈ l, d.ok) ∧ l.length * 56 ≤ reachBytes
theorem DevsOk.len {l : List Dev} (h : DevsOk l) : l.length ≤ 5864062014805 := by have := h.2; unfold reachBytes at this; omega
theorem opens_devs : Opens Try.prog 22 (RSl RDev 5 dev0) DevsOk :=
  opens_slice dev0 Try.underlying22 (by kernel_rfl) (by omega) (by kernel_rfl) opens_dev
/-- The cells of a pool by value. -/
def RPool : Rel Pool := fun w S cs p => ∃ A c, cs = [.int .i64 p.tx, .int .i64 p.time, .int .i64 p.unit, .int .i64 p.data, .slice A p.devs.length c] ∧ p.devs.length ≤ c ∧ DevRow w S A p.devs
theorem opens_pool : Opens Try.prog 24 RPool Pool.ok :=
  (opens_four (ti := 3) Try.underlying24 (by kernel_rfl) (by kernel_rfl) rfl rfl rfl rfl rfl Try.underlying3 opens_devs).mono (by
    rintro w S cs ⟨a, b, c, d, l⟩ ⟨v, rfl, v', e, A, c', rfl, hc, hr⟩ ⟨o1, o2, o3, o4, o5⟩
    cases e
    exact ⟨⟨a, b, c, d, l⟩, ⟨A, c', rfl, hc, hr⟩, o1, o2, o3, o4, o5.1, o5.len⟩)
theorem RPool.is {w : World} {S : Nat → Prop} {cs : Array Value} {p : Pool} (h : RPool w S cs.toList p) : IsPool w S (.agg cs) p := by
  obtain ⟨A, c, e, hc, hr⟩ := h
  exact ⟨A, c, by rw [← e], hc, hr⟩
end Go.Proofs.Ytjclcjhmdohemaa

/- What the readings of ops tell. No condition. -/
namespace Go.Proofs.Ytjclcjhmdohemaa
open Go.RowKit
theorem list4 {α : Type} {l : List α} (h : l.length = 4) : ∃ a b c d, l = [a, b, c, d] := by
  match l, h with
  | [a, b, c, d], _ => exact ⟨a, b, c, d, rfl⟩
theorem opens_mop : Opens Try.prog 37 (Flat Mop.enc) Mop.ok :=
  (opens_ints Try.underlying37 (by kernel_rfl) (by kernel_rfl) (by
    intro i f h
    match i, h with
    | 0, h => simp at h; subst h; exact Try.underlying3
    | 1, h => simp at h; subst h; exact Try.underlying3
    | 2, h => simp at h; subst h; exact Try.underlying3
    | 3, h => simp at h; subst h; exact Try.underlying3
    | i + 4, h => simp at h)).mono (by
      rintro w S cs ns ⟨rfl, hl⟩ hn
      obtain ⟨a, b, c, d, rfl⟩ := list4 (by simpa using hl)
      exact ⟨⟨a, b, c, d⟩, rfl, hn a (by simp), hn b (by simp), hn c (by simp), hn d (by simp)⟩)
theorem opens_ops : Opens Try.prog 25 (RSl (Flat Mop.enc) 4 mop0) (fun l => (∀ a ∈ l, Mop.ok a) ∧ l.length * 32 ≤ reachBytes) :=
  opens_slice mop0 Try.underlying25 (by kernel_rfl) (by omega) (by kernel_rfl) opens_mop
end Go.Proofs.Ytjclcjhmdohemaa
