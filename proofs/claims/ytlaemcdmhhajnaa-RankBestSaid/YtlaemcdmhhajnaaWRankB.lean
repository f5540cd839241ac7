/- scantlinglaw36.RankBest says yes of any candidates. Condition: the numbers fit into Go's int, and no slice is longer than the reach. -/
import Derived.Test.YtlaemcdmhhajnaaWRank7
namespace Go.Proofs.Ytlaemcdmhhajnaa
open Go.RowKit
attribute [local go_sem] Oper.semAt_some

theorem CBox.drew {w : World} {b : Nat} {c : Cand} {A : Option Addr} {n : Nat} (h : CBox w b c A n) : CBox w.drew b c A n := h
set_option maxRecDepth 100000 in
set_option maxHeartbeats 6400000 in
theorem rankBest_walk (w : World) (v : Value) (l : List Cand) (h : IsSl RCand 8 cand0 w (Lt w.heap.size) v l) (hl1 : l.length ≤ 140737488355328) (hok : ∀ c ∈ l, c.pool.ok) :
    Calls Try.prog 4 #[v] w fun e w' => e = .returned (.bool true) ∧ Below w.heap.size w w' := by
  have h0 := h
  obtain ⟨A, c, rfl, hc, hr⟩ := h
  have hS : ∀ b, Lt w.heap.size b → b < w.heap.size := fun _ h => h
  have hfew := few36_any w (Lt w.heap.size) _ l hS h0 hl1 hok
  have HFEW := Lib.hid hfew
  by_cases hf : few36 l = true
  · obtain ⟨hlen, hall⟩ := few36_all hf
    have hfw : ∀ c ∈ l, c.few := fun c hc => (few_of (hok c hc) (hall c hc)).1
    rw [hf] at HFEW
    by_cases hl0 : l.length = 0
    · have hbn := fun w' => best_nil w' A c
      have HBN := Lib.hid hbn
      rw [hl0] at HFEW
      dsimp only [zeroC] at HBN
      rw [hl0]
      clear hfew hl1 hc hr h0 hok hf hall hfw hlen hbn
      go_enter Try.func4, Try.ntmps4
      go_wp2_with (first
        | (go_at_call 5; refine HFEW.out.mono ?_; rintro e w2 ⟨rfl, hB2⟩)
        | (go_at_call 8; refine (HBN.out _).mono ?_; rintro e w3 ⟨rfl, hB3⟩; have hk3 := hB2.trans (hB3.mono hB2.size)))
      have hk4 := hk3.alloc hk3.size (.cells zeroC 26)
      dsimp only [zeroC] at hk4
      generalize w3.alloc _ = w4 at *
      go_loopw [5, 6] (fun t i wr => i = .int .i64 0 ∧ t = .bool true ∧ Below w.heap.size w wr) (fun _ _ _ => 0)
      case atStart => exact ⟨rfl, rfl, hk4⟩
      case round =>
        obtain ⟨rfl, rfl, hB⟩ := hrel
        go_wp2_with (go_at_call 6; refine (lives36 _).mono ?_; rintro e w9 ⟨rfl, hB9⟩; have hk9 := hB.trans (hB9.mono hB.size))
        go_ret
        exact ⟨rfl, hk9⟩
    · have hbest := fun w' (hB : Below w.heap.size w w') => best_any w' (Lt w.heap.size) _ l (fun b hb => Nat.lt_of_lt_of_le hb hB.size) (h0.keep rcand_stable (fun _ h => h) (keep_below hB hS)) (by omega) (by omega) (fun k hk => hfw _ (nth_mem cand0 l k hk)) (fun c hc => (few_of (hok c hc) (hall c hc)).2)
      have HBEST := Lib.hid hbest
      obtain ⟨jb, hjb, hjm⟩ := List.getElem_of_mem (minC_mem (show 0 < l.length by omega))
      have hjn : nth cand0 l jb = minC l := by rw [nth_get cand0 l jb hjb]; exact hjm
      have HJN := Lib.hid hjn
      have hno : ∀ k, k < l.length → ¬ cmpC (nth cand0 l k) (minC l) < 0 := fun k hk => minC_best (nth_mem cand0 l k hk)
      have HNO := Lib.hid hno
      have hmf : (minC l).few := hfw _ (minC_mem (by omega))
      have HMF := Lib.hid hmf
      have HFW := Lib.hid (fun k (hk : k < l.length) => hfw _ (nth_mem cand0 l k hk))
      clear hbest hjm hjn hno hfw hall hok hf hfew h0 hmf
      generalize minC l = m at *
      generalize hln : l.length = n at *
      have HLN := Lib.hid hln
      clear hln
      have hnz : ((n : Int) == 0) = false := beq_false_of_ne (by omega)
      have hgt : decide (0 < n) = true := decide_eq_true (by omega)
      have hgp : 0 < n := by omega
      go_enter Try.func4, Try.ntmps4
      go_wp2_with (first
        | (go_at_call 5; refine HFEW.out.mono ?_; rintro e w2 ⟨rfl, hB2⟩)
        | (go_at_call 8; refine (HBEST.out _ hB2).mono ?_; rintro e w3 ⟨v3, rfl, ⟨Am, nm, rfl, hnm, hrm⟩, hB3⟩; have hk3 := hB2.trans (hB3.mono hB2.size)))
      have hcm := CBox.new w3 m Am nm
      have hB4 := hk3.alloc hk3.size (candBox m Am nm)
      have hrm4 := hrm.keep rdev_stable (fun b hb => hb) (keep_alloc (fun b hb => hb.1.2) (candBox m Am nm))
      dsimp only [candBox, Cand.cells] at hcm hB4 hrm4
      generalize hw4 : w3.alloc _ = w4 at *
      have hs4 : w4.heap.size = w3.heap.size + 1 := by rw [← hw4]; simp
      clear hw4
      have hz3 := hk3.size
      have HRM := Lib.hid hrm4
      clear hrm hrm4
      go_loopw [5, 6] (fun t i wr => ∃ (k : Nat) (bv : Bool), k ≤ n ∧ i = .int .i64 k ∧ t = .bool bv ∧ Below w4.heap.size w4 wr ∧ (jb < k → bv = true)) (fun _ i _ => n - (intOf i).toNat)
      case atStart => exact ⟨0, false, by omega, rfl, rfl, Below.refl _ _, fun h => by omega⟩
      case round =>
        obtain ⟨k, bv, hk, rfl, rfl, hB, hj⟩ := hrel
        have hszw := hB.size
        by_cases hlt : k < n
        · have hBw := hB4.trans (hB.mono hB4.size)
          obtain ⟨b, off, rfl, hbS, hcl⟩ := cand_cells (hr.keep rcand_stable (fun _ h => h) (keep_below hBw hS)) (by rw [HLN.out]; omega)
          obtain ⟨Ax, nx, ⟨c0, c1, c2, c3, c4, c5, c6, c7⟩, hnx, hrx⟩ := hcl k (by rw [HLN.out]; exact hlt)
          have hfx := HFW.out k hlt
          have hnn := HNO.out k hlt
          have hjx : k = jb → nth cand0 l k = m := fun e => by rw [e]; exact HJN.out
          have HJX := Lib.hid hjx
          have hbw0 : b < w.heap.size := hbS
          have hbw : b < wr.heap.size := by have := hBw.size; omega
          have hbx := hcm.below hB (by omega)
          obtain ⟨m0, m1, m2, m3, m4, m5, m6, m7⟩ := hbx.cells
          clear hcl hjx
          generalize nth cand0 l k = x at *
          have hbf := before_any wr.drew (Lt w.heap.size) (fun b => Btw w2.heap.size w3.heap.size b ∧ Thaw w3 b) (candV x Ax nx) (candV m Am nm) x m (fun b hb => by have h1 : b < w.heap.size := hb; have := hBw.size; show b < wr.heap.size; omega) (fun b hb => by have h1 : b < w3.heap.size := hb.1.2; show b < wr.heap.size; omega) ⟨Ax, nx, rfl, hnx, hrx⟩ ⟨Am, nm, rfl, hnm, HRM.out.keep rdev_stable (fun _ h => h) (keep_below (B := w4.heap.size) hB.drew (fun b hb => by have h1 : b < w3.heap.size := hb.1.2; omega))⟩ hfx HMF.out
          rw [decide_eq_false (show ¬ cmpC x m < 0 by omega)] at hbf
          dsimp only [candV, Cand.cells] at hbf
          have HBF := Lib.hid hbf
          have HX : Hid (∀ w', Below wr.heap.size wr w' → w'.cell? ⟨b, off + k * 8, none⟩ = some (.bool x.super) ∧ w'.cell? ⟨b, off + k * 8 + 1, none⟩ = some (.int .i64 x.top) ∧ w'.cell? ⟨b, off + k * 8 + 2, none⟩ = some (.int .i64 x.details) ∧ w'.cell? ⟨b, off + k * 8 + 3, none⟩ = some (.int .i64 x.pool.tx) ∧ w'.cell? ⟨b, off + k * 8 + 4, none⟩ = some (.int .i64 x.pool.time) ∧ w'.cell? ⟨b, off + k * 8 + 5, none⟩ = some (.int .i64 x.pool.unit) ∧ w'.cell? ⟨b, off + k * 8 + 6, none⟩ = some (.int .i64 x.pool.data) ∧ w'.cell? ⟨b, off + k * 8 + 7, none⟩ = some (.slice Ax x.pool.devs.length nx)) := fun w' hB' => by
            have hh := fun o => hB'.cell (p := ⟨b, o, none⟩) hbw
            rw [hh, hh, hh, hh, hh, hh, hh, hh]
            exact ⟨c0, c1, c2, c3, c4, c5, c6, c7⟩
          have HM : Hid (∀ w', Below wr.heap.size wr w' → CBox w' w3.heap.size m Am nm) := fun w' hB' => hbx.below hB' (by omega)
          have kk0 := (Below.refl wr.heap.size wr).drew
          have HJ := Lib.hid hj
          clear hbf hrx hnn hfx hbx hj
          go_wp2_with fail
          go_region_held3 (fun w' => (w'.cell? ⟨b, off + k * 8, none⟩ = some (.bool x.super) ∧ w'.cell? ⟨b, off + k * 8 + 1, none⟩ = some (.int .i64 x.top) ∧ w'.cell? ⟨b, off + k * 8 + 2, none⟩ = some (.int .i64 x.details) ∧ w'.cell? ⟨b, off + k * 8 + 3, none⟩ = some (.int .i64 x.pool.tx) ∧ w'.cell? ⟨b, off + k * 8 + 4, none⟩ = some (.int .i64 x.pool.time) ∧ w'.cell? ⟨b, off + k * 8 + 5, none⟩ = some (.int .i64 x.pool.unit) ∧ w'.cell? ⟨b, off + k * 8 + 6, none⟩ = some (.int .i64 x.pool.data) ∧ w'.cell? ⟨b, off + k * 8 + 7, none⟩ = some (.slice Ax x.pool.devs.length nx)) ∧ (w'.cell? ⟨w3.heap.size, 0, none⟩ = some (.bool m.super) ∧ w'.cell? ⟨w3.heap.size, 1, none⟩ = some (.int .i64 m.top) ∧ w'.cell? ⟨w3.heap.size, 2, none⟩ = some (.int .i64 m.details) ∧ w'.cell? ⟨w3.heap.size, 3, none⟩ = some (.int .i64 m.pool.tx) ∧ w'.cell? ⟨w3.heap.size, 4, none⟩ = some (.int .i64 m.pool.time) ∧ w'.cell? ⟨w3.heap.size, 5, none⟩ = some (.int .i64 m.pool.unit) ∧ w'.cell? ⟨w3.heap.size, 6, none⟩ = some (.int .i64 m.pool.data) ∧ w'.cell? ⟨w3.heap.size, 7, none⟩ = some (.slice Am m.pool.devs.length nm))) (go_keep)
            (first | (go_at_call 7; refine HBF.out.mono ?_; rintro e w5 ⟨rfl, hB5⟩; have kk5 := kk0.trans (hB5.mono (Nat.le_refl _)); obtain ⟨c0, c1, c2, c3, c4, c5, c6, c7⟩ := HX.out _ kk5; obtain ⟨m0, m1, m2, m3, m4, m5, m6, m7⟩ := (HM.out _ kk5).cells))
          go_wp2_with fail
          go_wp2_with fail
          cases bv with
          | true =>
            go_region
            go_wp2_with fail
            refine ⟨⟨k + 1, true, by omega, by go_num, rfl, (hB.trans (kk5.mono hszw)).drew, fun _ => rfl⟩, by simp [intOf]; omega⟩
          | false =>
            by_cases h1 : (x.super == m.super) = true
            · by_cases h2 : (x.top == m.top) = true
              · by_cases h3 : (x.details == m.details) = true
                · by_cases h4 : ((x.pool.devs.length : Int) == (m.pool.devs.length : Int)) = true
                  · have h4' : (x.pool.devs.length == m.pool.devs.length) = true := by simp at h4; simp; omega
                    go_region
                    go_wp2_with fail
                    refine ⟨⟨k + 1, true, by omega, by go_num, rfl, (hB.trans (kk5.mono hszw)).drew, fun _ => rfl⟩, by simp [intOf]; omega⟩
                  · have h4f : ((x.pool.devs.length : Int) == (m.pool.devs.length : Int)) = false := by simpa using h4
                    have h4' : (x.pool.devs.length == m.pool.devs.length) = false := by simp at h4f; simp; omega
                    clear h4
                    have HNE : Hid (jb < k + 1 → False) := fun h => by
                      by_cases e : k = jb
                      · have e2 := HJX.out e
                        rw [e2] at h4f
                        simp at h4f
                      · exact absurd (HJ.out (by omega)) (by simp)
                    go_region
                    go_wp2_with fail
                    refine ⟨⟨k + 1, false, by omega, by go_num, rfl, (hB.trans (kk5.mono hszw)).drew, fun h => (HNE.out h).elim⟩, by simp [intOf]; omega⟩
                · have h3f : (x.details == m.details) = false := by simpa using h3
                  clear h3
                  have HNE : Hid (jb < k + 1 → False) := fun h => by
                    by_cases e : k = jb
                    · have e2 := HJX.out e
                      rw [e2] at h3f
                      simp at h3f
                    · exact absurd (HJ.out (by omega)) (by simp)
                  go_region
                  go_wp2_with fail
                  refine ⟨⟨k + 1, false, by omega, by go_num, rfl, (hB.trans (kk5.mono hszw)).drew, fun h => (HNE.out h).elim⟩, by simp [intOf]; omega⟩
              · have h2f : (x.top == m.top) = false := by simpa using h2
                clear h2
                have HNE : Hid (jb < k + 1 → False) := fun h => by
                  by_cases e : k = jb
                  · have e2 := HJX.out e
                    rw [e2] at h2f
                    simp at h2f
                  · exact absurd (HJ.out (by omega)) (by simp)
                go_region
                go_wp2_with fail
                refine ⟨⟨k + 1, false, by omega, by go_num, rfl, (hB.trans (kk5.mono hszw)).drew, fun h => (HNE.out h).elim⟩, by simp [intOf]; omega⟩
            · have h1f : (x.super == m.super) = false := by simpa using h1
              clear h1
              have HNE : Hid (jb < k + 1 → False) := fun h => by
                by_cases e : k = jb
                · have e2 := HJX.out e
                  rw [e2] at h1f
                  simp at h1f
                · exact absurd (HJ.out (by omega)) (by simp)
              go_region
              go_wp2_with fail
              refine ⟨⟨k + 1, false, by omega, by go_num, rfl, (hB.trans (kk5.mono hszw)).drew, fun h => (HNE.out h).elim⟩, by simp [intOf]; omega⟩
        · have hb : bv = true := hj (by omega)
          subst hb
          go_wp2_with (go_at_call 6; refine (lives36 _).mono ?_; rintro e w9 ⟨rfl, hB9⟩; have hk9 := (hB4.trans (hB.mono hB4.size)).trans (hB9.mono (hB4.trans (hB.mono hB4.size)).size))
          go_ret
          exact ⟨rfl, hk9⟩
  · have hf' : few36 l = false := by simpa using hf
    rw [hf'] at HFEW
    clear hfew hf hf' hl1 hok hr h0
    go_enter Try.func4, Try.ntmps4
    go_wp2_with (first
      | (go_at_call 5; refine HFEW.out.mono ?_; rintro e w2 ⟨rfl, hB2⟩)
      | (go_at_call 6; refine (lives36 _).mono ?_; rintro e w9 ⟨rfl, hB9⟩; have hk9 := hB2.trans (hB9.mono hB2.size)))
    go_ret
    exact ⟨rfl, hk9⟩
end Go.Proofs.Ytlaemcdmhhajnaa
