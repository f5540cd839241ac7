/- rank.Best, scantlinglaw36.few. Condition: the numbers fit into Go's int. -/
import Derived.Test.YtolpgblegbahgaaWRank5
import Derived.Test.YtolpgblegbahgaaWFew
namespace Go.Proofs.Ytolpgblegbahgaa
open Go.RowKit
attribute [local go_sem] Oper.semAt_some

theorem minFrom_mem : ∀ (l : List Cand) (m : Cand), minFrom m l = m ∨ minFrom m l ∈ l := by
  intro l
  induction l with
  | nil => intro m; exact .inl rfl
  | cons x l ih =>
    intro m
    simp only [minFrom]
    by_cases h : cmpC x m < 0
    · rw [if_pos h]
      rcases ih x with e | e
      · rw [e]; exact .inr (by simp)
      · exact .inr (by simp [e])
    · rw [if_neg h]
      rcases ih m with e | e
      · exact .inl e
      · exact .inr (by simp [e])
theorem minC_mem {l : List Cand} (h : 0 < l.length) : minC l ∈ l := by
  cases l with
  | nil => simp at h
  | cons x l =>
    rcases minFrom_mem l x with e | e
    · show minFrom x l ∈ _; rw [e]; simp
    · show minFrom x l ∈ _; simp [e]

set_option maxRecDepth 100000 in
set_option maxHeartbeats 1600000 in
theorem best_any (w : World) (S : Nat → Prop) (v : Value) (l : List Cand) (hS : ∀ b, S b → b < w.heap.size) (h : IsSl RCand 8 cand0 w S v l) (hl0 : 0 < l.length) (hl1 : l.length ≤ 1099511627776) (hfew : ∀ k, k < l.length → (nth cand0 l k).few) (hmk : ∀ c ∈ l, ∀ k, k < c.pool.devs.length → (nth dev0 c.pool.devs k).maps.length ≤ 2199023255552) :
    Calls Try.prog 10 #[v] w fun e w' => ∃ v', e = .returned (.tuple #[v', .bool true]) ∧ IsCand w' (fun b => Btw w.heap.size w'.heap.size b ∧ Thaw w' b) v' (minC l) ∧ Below w.heap.size w w' := by
  have h0 := h
  obtain ⟨A, c, rfl, hc, hr⟩ := h
  have hmem := minC_mem hl0
  have hfm : (minC l).few := by
    obtain ⟨k, hk, e⟩ := List.getElem_of_mem hmem
    have := hfew k hk
    rw [nth_get cand0 l k hk, e] at this
    exact this
  have hB1 : Below w.heap.size w (w.alloc (.cells zeroC 33)) := (Below.refl _ _).alloc (Nat.le_refl _) _
  have hz := heap_alloc_new w (.cells zeroC 33)
  have hmf := minFunc_any (w.alloc (.cells zeroC 33)) S _ l (fun b hb => by have := hS b hb; simp; omega) (h0.keep rcand_stable (fun _ h => h) (keep_below hB1 hS)) hl0 hl1 hfew
  have how := fun w2 (hB : Below w.heap.size w w2) v2 (hv : IsCand w2 S v2 (minC l)) => own_any w2 S v2 (minC l) (fun b hb => by have := hS b hb; have := hB.size; omega) hv hfm.2.1 (hmk _ hmem)
  have HMF := Lib.hid hmf
  have HOW := Lib.hid how
  clear hmf how hr hmk hfew hmem hfm h0
  generalize minC l = m at *
  generalize hln : l.length = n at *
  dsimp only [zeroC] at hB1 hz HMF
  have hnn : ((n : Int) == 0) = false := beq_false_of_ne (by omega)
  go_enter Try.func10, Try.ntmps10
  go_wp2_with (first
    | (go_at_call 17; refine HMF.out.mono ?_; rintro e w2 ⟨v2, rfl, hv2, hB2⟩; have hk2 := hB1.trans (hB2.mono (by simp)); have hz2 := (hB2.block w.heap.size (by simp)).trans hz)
    | (go_at_call 16; refine (HOW.out _ hk2 _ hv2).mono ?_; rintro e w3 ⟨v3, rfl, ⟨Am, nm, rfl, hnm, hrm⟩, hB3⟩; have hk3 := hk2.trans (hB3.mono hk2.size); have hlt3 := hB2.size; have hz3 := (hB3.block w.heap.size (by simp at hlt3; omega)).trans hz2; obtain ⟨⟨z0, z1, z2, z3, z4, z5, z6, z7⟩, g0, g1, g2, g3, g4, g5, g6, g7⟩ := cells8 hz3))
  have hs8 := set8 hz3 (.bool m.super) (.int .i64 m.top) (.int .i64 m.details) (.int .i64 m.pool.tx) (.int .i64 m.pool.time) (.int .i64 m.pool.unit) (.int .i64 m.pool.data) (.slice Am m.pool.devs.length nm)
  have hb8 := below8 hk3 (b := w.heap.size) (Nat.le_refl _) (.bool m.super) (.int .i64 m.top) (.int .i64 m.details) (.int .i64 m.pool.tx) (.int .i64 m.pool.time) (.int .i64 m.pool.unit) (.int .i64 m.pool.data) (.slice Am m.pool.devs.length nm)
  simp only [World.size_alloc] at hlt3
  have hk8 := keep8 (S := fun b => Btw w2.heap.size w3.heap.size b ∧ Thaw w3 b) w3 w.heap.size (fun h => by have h1 : w2.heap.size ≤ w.heap.size := h.1.1; omega) (.bool m.super) (.int .i64 m.top) (.int .i64 m.details) (.int .i64 m.pool.tx) (.int .i64 m.pool.time) (.int .i64 m.pool.unit) (.int .i64 m.pool.data) (.slice Am m.pool.devs.length nm)
  have ht8 := fun k (h : Thaw w3 k) => thaw8 h w.heap.size (.bool m.super) (.int .i64 m.top) (.int .i64 m.details) (.int .i64 m.pool.tx) (.int .i64 m.pool.time) (.int .i64 m.pool.unit) (.int .i64 m.pool.data) (.slice Am m.pool.devs.length nm)
  have hz8 := size8 w3 w.heap.size (.bool m.super) (.int .i64 m.top) (.int .i64 m.details) (.int .i64 m.pool.tx) (.int .i64 m.pool.time) (.int .i64 m.pool.unit) (.int .i64 m.pool.data) (.slice Am m.pool.devs.length nm)
  generalize ((((((((w3.setCell ⟨w.heap.size, 0, none⟩ (.bool m.super)).setCell ⟨w.heap.size, 1, none⟩ (.int .i64 m.top)).setCell ⟨w.heap.size, 2, none⟩ (.int .i64 m.details)).setCell ⟨w.heap.size, 3, none⟩ (.int .i64 m.pool.tx)).setCell ⟨w.heap.size, 4, none⟩ (.int .i64 m.pool.time)).setCell ⟨w.heap.size, 5, none⟩ (.int .i64 m.pool.unit)).setCell ⟨w.heap.size, 6, none⟩ (.int .i64 m.pool.data)).setCell ⟨w.heap.size, 7, none⟩ (.slice Am m.pool.devs.length nm)) = w5 at *
  obtain ⟨⟨r0, r1, r2, r3, r4, r5, r6, r7⟩, _⟩ := cells8 hs8
  refine bodyPost_ret (v := .tuple #[candV m Am nm, .bool true]) (by simp [results, Try.results10, go_sem, r0, r1, r2, r3, r4, r5, r6, r7]) rfl ?_
  refine ⟨_, rfl, ⟨Am, nm, rfl, hnm, hrm.keep rdev_stable (fun b hb => ⟨⟨by have h1 : w2.heap.size ≤ b := hb.1.1; omega, by have h2 : b < w3.heap.size := hb.1.2; omega⟩, ht8 b hb.2⟩) hk8⟩, hb8⟩

theorem best_nil (w : World) (A : Option Addr) (c : Nat) : Calls Try.prog 10 #[.slice A 0 c] w fun e w' => e = .returned (.tuple #[.agg zeroC, .bool false]) ∧ Below w.heap.size w w' := by
  have hB1 : Below w.heap.size w (w.alloc (.cells zeroC 33)) := (Below.refl _ _).alloc (Nat.le_refl _) _
  have hz := heap_alloc_new w (.cells zeroC 33)
  dsimp only [zeroC] at hB1 hz ⊢
  go_enter Try.func10, Try.ntmps10
  go_wp2_with fail
  obtain ⟨⟨r0, r1, r2, r3, r4, r5, r6, r7⟩, _⟩ := cells8 hz
  refine bodyPost_ret (v := .tuple #[.agg zeroC, .bool false]) (by simp [results, Try.results10, go_sem, r0, r1, r2, r3, r4, r5, r6, r7]) rfl ?_
  exact ⟨rfl, hB1⟩

/-- Whether candidates are few and small. -/
def few36 (l : List Cand) : Bool := (l.take 31).all (fun c => fewB c.pool) && decide (l.length ≤ 30)
theorem few36_all {l : List Cand} (h : few36 l = true) : l.length ≤ 30 ∧ ∀ c ∈ l, fewB c.pool = true := by
  simp only [few36, Bool.and_eq_true, decide_eq_true_eq] at h
  refine ⟨h.2, fun c hc => ?_⟩
  rw [List.take_of_length_le (by omega)] at h
  exact List.all_eq_true.1 h.1 c hc

set_option maxRecDepth 100000 in
set_option maxHeartbeats 1600000 in
theorem few36_any (w : World) (S : Nat → Prop) (v : Value) (l : List Cand) (hS : ∀ b, S b → b < w.heap.size) (h : IsSl RCand 8 cand0 w S v l) (hl1 : l.length ≤ 140737488355328) (hok : ∀ c ∈ l, c.pool.ok) :
    Calls Try.prog 4 #[v] w fun e w' => e = .returned (.bool (few36 l)) ∧ Below w.heap.size w w' := by
  obtain ⟨A, c, rfl, hc, hr⟩ := h
  generalize hln : l.length = n at *
  have HLN := Lib.hid hln
  clear hln
  have HOK := Lib.hid hok
  clear hok
  go_enter Try.func4, Try.ntmps4
  go_wp2_with fail
  go_loopw [3] (fun i wr => ∃ k : Nat, k ≤ n ∧ k ≤ 31 ∧ i = .int .i64 k ∧ (l.take k).all (fun c => fewB c.pool) = true ∧ Below w.heap.size w wr) (fun i _ => n - (intOf i).toNat)
  case atStart => exact ⟨0, by omega, by omega, rfl, rfl, Below.refl _ _⟩
  case round =>
    obtain ⟨k, hk, hk31, rfl, hall, hB⟩ := hrel
    have HALL := Lib.hid hall
    clear hall
    have hszw := hB.size
    by_cases hlt : k < n
    · by_cases h31 : k < 31
      · obtain ⟨b, off, rfl, hbS, hcl⟩ := cand_cells (hr.keep rcand_stable (fun _ h => h) (keep_below hB hS)) (by rw [HLN.out]; omega)
        obtain ⟨Ax, nx, ⟨c0, c1, c2, c3, c4, c5, c6, c7⟩, hnx, hrx⟩ := hcl k (by rw [HLN.out]; exact hlt)
        have hmem := nth_mem cand0 l k (by rw [HLN.out]; exact hlt)
        have htk := take_nth cand0 l k (by rw [HLN.out]; exact hlt)
        have hokx := HOK.out _ hmem
        have hbw : b < wr.heap.size := by have := hS b hbS; omega
        clear hcl hmem
        by_cases hfb : fewB (nth cand0 l k).pool = true
        · have hall2 : (l.take (k + 1)).all (fun c => fewB c.pool) = true := by rw [htk, List.all_append, HALL.out]; simp [hfb]
          have HALL2 := Lib.hid hall2
          have hf1 : fewN (nth cand0 l k).pool = 1 := by unfold fewN; rw [if_pos hfb]
          clear hall2 htk hfb
          generalize nth cand0 l k = x at *
          have hfw := few_any wr S _ x.pool (fun b hb => by have := hS b hb; omega) ⟨Ax, nx, rfl, hnx, hrx⟩ hokx
          rw [hf1] at hfw
          have HFW := Lib.hid hfw
          clear hfw hrx hokx hf1
          go_wp2_with (go_at_call 13; refine HFW.out.mono ?_; rintro e w5 ⟨rfl, hB5⟩)
          go_roundw
          case rel => exact ⟨k + 1, by omega, by omega, by go_num, HALL2.out, hB.trans (hB5.mono hszw)⟩
          case measure => simp [intOf]; omega
        · have hno : few36 l = false := by
            have hm : nth cand0 l k ∈ l.take 31 := by
              have h1 : l.take (k + 1) = (l.take 31).take (k + 1) := by rw [List.take_take, Nat.min_eq_left (by omega)]
              have h2 : nth cand0 l k ∈ l.take (k + 1) := by rw [htk]; simp
              rw [h1] at h2
              exact List.mem_of_mem_take h2
            have : (l.take 31).all (fun c => fewB c.pool) = false := by
              rw [List.all_eq_false]
              exact ⟨_, hm, hfb⟩
            unfold few36
            rw [this]; rfl
          have HNO := Lib.hid hno
          have hf1 : fewN (nth cand0 l k).pool = 0 := by unfold fewN; rw [if_neg hfb]
          clear hno htk hfb
          generalize nth cand0 l k = x at *
          have hfw := few_any wr S _ x.pool (fun b hb => by have := hS b hb; omega) ⟨Ax, nx, rfl, hnx, hrx⟩ hokx
          rw [hf1] at hfw
          have HFW := Lib.hid hfw
          clear hfw hrx hokx hf1
          go_wp2_with (go_at_call 13; refine HFW.out.mono ?_; rintro e w5 ⟨rfl, hB5⟩)
          refine bodyPost_ret (results_tmp rfl _ _ _) rfl ?_
          exact ⟨by rw [HNO.out]; rfl, hB.trans (hB5.mono hszw)⟩
      · have hno : few36 l = false := by
          unfold few36
          rw [decide_eq_false (by rw [HLN.out]; omega), Bool.and_false]
        have HNO := Lib.hid hno
        have hle : decide ((n : Int) ≤ 30) = false := by simp; omega
        clear hno
        go_wp2_with fail
        go_ret
        exact ⟨by rw [HNO.out]; simp <;> omega, hB⟩
    · have hkn : k = n := by omega
      have hr' : few36 l = decide ((n : Int) ≤ 30) := by
        unfold few36
        rw [HLN.out]
        have : (l.take 31).all (fun c => fewB c.pool) = true := by
          have h1 := HALL.out
          rw [List.take_of_length_le (by rw [HLN.out]; omega)] at h1
          rw [List.all_eq_true] at h1 ⊢
          exact fun c hc => h1 c (List.mem_of_mem_take hc)
        rw [this, Bool.true_and]
        exact decide_eq_decide.2 (by omega)
      have HRR := Lib.hid hr'
      clear hr'
      go_wp2_with fail
      go_ret
      exact ⟨by rw [HRR.out]; rfl, hB⟩
end Go.Proofs.Ytolpgblegbahgaa
