/- slices.MinFunc at candidates: the first that none is ahead of. Condition: the pools are small. -/
import Derived.Test.YtolpgblegbahgaaWRank4
namespace Go.Proofs.Ytolpgblegbahgaa
open Go.RowKit
attribute [local go_sem] Oper.semAt_some

def minFrom (m : Cand) : List Cand → Cand
  | [] => m
  | x :: l => minFrom (if cmpC x m < 0 then x else m) l
def minC : List Cand → Cand
  | [] => cand0
  | x :: l => minFrom x l
theorem cand_cells {w : World} {S : Nat → Prop} {A : Option Addr} {l : List Cand} (h : RowOf RCand 8 cand0 w S A l) (hl : 0 < l.length) :
    ∃ b off, A = some ⟨b, off, none⟩ ∧ S b ∧ ∀ k, k < l.length → ∃ A' n', (w.cell? ⟨b, off + k * 8, none⟩ = some (.bool (nth cand0 l k).super) ∧ w.cell? ⟨b, off + k * 8 + 1, none⟩ = some (.int .i64 (nth cand0 l k).top) ∧ w.cell? ⟨b, off + k * 8 + 2, none⟩ = some (.int .i64 (nth cand0 l k).details) ∧ w.cell? ⟨b, off + k * 8 + 3, none⟩ = some (.int .i64 (nth cand0 l k).pool.tx) ∧ w.cell? ⟨b, off + k * 8 + 4, none⟩ = some (.int .i64 (nth cand0 l k).pool.time) ∧ w.cell? ⟨b, off + k * 8 + 5, none⟩ = some (.int .i64 (nth cand0 l k).pool.unit) ∧ w.cell? ⟨b, off + k * 8 + 6, none⟩ = some (.int .i64 (nth cand0 l k).pool.data) ∧ w.cell? ⟨b, off + k * 8 + 7, none⟩ = some (.slice A' (nth cand0 l k).pool.devs.length n')) ∧ (nth cand0 l k).pool.devs.length ≤ n' ∧ DevRow w S A' (nth cand0 l k).pool.devs := by
  obtain ⟨b, off, e, hb, hc⟩ := h hl
  refine ⟨b, off, e, hb, fun k hk => ?_⟩
  obtain ⟨cs, _, ⟨A', n', rfl, hn', hr⟩, h3⟩ := hc k hk
  exact ⟨A', n', ⟨h3 0 _ rfl, h3 1 _ rfl, h3 2 _ rfl, h3 3 _ rfl, h3 4 _ rfl, h3 5 _ rfl, h3 6 _ rfl, h3 7 _ rfl⟩, hn', hr⟩
theorem far8 (w : World) {b k : Nat} (hb : k ≠ b) (u0 u1 u2 u3 u4 u5 u6 u7 : Value) : ((((((((w.setCell ⟨b, 0, none⟩ u0).setCell ⟨b, 1, none⟩ u1).setCell ⟨b, 2, none⟩ u2).setCell ⟨b, 3, none⟩ u3).setCell ⟨b, 4, none⟩ u4).setCell ⟨b, 5, none⟩ u5).setCell ⟨b, 6, none⟩ u6).setCell ⟨b, 7, none⟩ u7).heap[k]? = w.heap[k]? := by
  rw [Below.heap_setCell _ _ _ _ (by exact hb), Below.heap_setCell _ _ _ _ (by exact hb), Below.heap_setCell _ _ _ _ (by exact hb), Below.heap_setCell _ _ _ _ (by exact hb), Below.heap_setCell _ _ _ _ (by exact hb), Below.heap_setCell _ _ _ _ (by exact hb), Below.heap_setCell _ _ _ _ (by exact hb), Below.heap_setCell _ _ _ _ (by exact hb)]
abbrev zeroC : Array Value := #[.bool false, .int .i64 0, .int .i64 0, .int .i64 0, .int .i64 0, .int .i64 0, .int .i64 0, .slice none 0 0]

set_option maxRecDepth 100000 in
set_option maxHeartbeats 3200000 in
theorem minFunc_any (w : World) (S : Nat → Prop) (v : Value) (l : List Cand) (hS : ∀ b, S b → b < w.heap.size) (h : IsSl RCand 8 cand0 w S v l) (hl0 : 0 < l.length) (hl1 : l.length ≤ 1099511627776) (hfew : ∀ k, k < l.length → (nth cand0 l k).few) :
    Calls Try.prog 17 #[v, .func (.func 14) #[] #[]] w fun e w' => ∃ v', e = .returned v' ∧ IsCand w' S v' (minC l) ∧ Below w.heap.size w w' := by
  obtain ⟨A, c, rfl, hc, hr⟩ := h
  obtain ⟨b, off, rfl, hbS, hcl⟩ := cand_cells hr hl0
  have hb0 := hS b hbS
  have hM : minC l = minFrom (nth cand0 l 0) (l.drop 1) := by
    cases l with
    | nil => simp at hl0
    | cons x l => rfl
  obtain ⟨A0, n0, ⟨c0, c1, c2, c3, c4, c5, c6, c7⟩, hn0, hr0⟩ := hcl 0 hl0
  rw [Nat.zero_mul, Nat.add_zero] at c0 c1 c2 c3 c4 c5 c6 c7
  have hB2 : Below w.heap.size w ((w.alloc (.cells zeroC 33)).alloc (candBox (nth cand0 l 0) A0 n0)) := ((Below.refl _ _).alloc (Nat.le_refl _) _).alloc (by simp) _
  have hz : ((w.alloc (.cells zeroC 33)).alloc (candBox (nth cand0 l 0) A0 n0)).heap[w.heap.size]? = some (.cells zeroC 33 (0, 0)) := (Below.heap_alloc (w.alloc (.cells zeroC 33)) _ w.heap.size (by simp)).trans (heap_alloc_new w _)
  have hx : CBox ((w.alloc (.cells zeroC 33)).alloc (candBox (nth cand0 l 0) A0 n0)) (w.heap.size + 1) (nth cand0 l 0) A0 n0 := by
    have := CBox.new (w.alloc (.cells zeroC 33)) (nth cand0 l 0) A0 n0
    simpa only [World.size_alloc] using this
  have HCL := Lib.hid hcl
  have HFEW := Lib.hid hfew
  have hf0 := hfew 0 hl0
  have hr0' := hr0.keep rdev_stable (fun _ h => h) (keep_below hB2 hS)
  have HM := Lib.hid hM
  clear hcl hfew hr hM hr0
  dsimp only [candBox, Cand.cells, zeroC] at hB2 hz hx hr0'
  generalize hln : l.length = n at *
  have HLN := Lib.hid hln
  clear hln
  have HF0 := Lib.hid hf0
  have HR0 := Lib.hid hr0'
  clear hf0 hr0'
  generalize hm0 : nth cand0 l 0 = m0 at *
  clear hm0
  go_enter Try.func17, Try.ntmps17
  go_wp2_with fail
  go_loopw [6] (fun i wr => ∃ (k : Nat) (m : Cand) (Am : Option Addr) (nm : Nat), 1 ≤ k ∧ k ≤ n ∧ i = .int .i64 k ∧ minFrom m (l.drop k) = minC l ∧ Below w.heap.size w wr ∧ CBox wr (w.heap.size + 1) m Am nm ∧ m.pool.devs.length ≤ nm ∧ DevRow wr S Am m.pool.devs ∧ m.few ∧ wr.heap[w.heap.size]? = some (.cells zeroC 33 (0, 0))) (fun i _ => n - (intOf i).toNat)
  case atStart => exact ⟨1, m0, A0, n0, by omega, by omega, rfl, HM.out.symm, hB2, hx, hn0, HR0.out, HF0.out, hz⟩
  case round =>
    clear hB2 hz hx c0 c1 c2 c3 c4 c5 c6 c7
    obtain ⟨k, m, Am, nm, hk1, hk, rfl, hmin, hB, hbox, hnm, hrm, hfm, hz⟩ := hrel
    have hbx := hbox.lt
    have hszw := hB.size
    by_cases hlt : k < n
    · obtain ⟨Ax, nx, ⟨c0, c1, c2, c3, c4, c5, c6, c7⟩, hnx, hrx⟩ := HCL.out k hlt
      have hfx := HFEW.out k hlt
      have hnext := congrArg (minFrom m) (drop_nth cand0 l k (by rw [HLN.out]; exact hlt))
      rw [hmin] at hnext
      have hbk := fun o => hB.cell (p := ⟨b, o, none⟩) hb0
      rw [← hbk] at c0 c1 c2 c3 c4 c5 c6 c7
      have hrx' := hrx.keep rdev_stable (fun _ h => h) (keep_below hB hS)
      clear hbk hrx hmin
      generalize nth cand0 l k = x at *
      simp only [minFrom] at hnext
      have hcm := compare_any wr.drew S S _ _ x m (fun b hb => by have := hS b hb; show b < wr.heap.size; omega) (fun b hb => by have := hS b hb; show b < wr.heap.size; omega) ⟨Ax, nx, rfl, hnx, hrx'⟩ ⟨Am, nm, rfl, hnm, hrm⟩ hfx hfm
      have hbw : b < wr.heap.size := by omega
      have HX : Hid (∀ w', Below wr.heap.size wr w' → w'.cell? ⟨b, off + k * 8, none⟩ = some (.bool x.super) ∧ w'.cell? ⟨b, off + k * 8 + 1, none⟩ = some (.int .i64 x.top) ∧ w'.cell? ⟨b, off + k * 8 + 2, none⟩ = some (.int .i64 x.details) ∧ w'.cell? ⟨b, off + k * 8 + 3, none⟩ = some (.int .i64 x.pool.tx) ∧ w'.cell? ⟨b, off + k * 8 + 4, none⟩ = some (.int .i64 x.pool.time) ∧ w'.cell? ⟨b, off + k * 8 + 5, none⟩ = some (.int .i64 x.pool.unit) ∧ w'.cell? ⟨b, off + k * 8 + 6, none⟩ = some (.int .i64 x.pool.data) ∧ w'.cell? ⟨b, off + k * 8 + 7, none⟩ = some (.slice Ax x.pool.devs.length nx)) := fun w' hB' => by
        have hh := fun o => hB'.cell (p := ⟨b, o, none⟩) hbw
        rw [hh, hh, hh, hh, hh, hh, hh, hh]
        exact ⟨c0, c1, c2, c3, c4, c5, c6, c7⟩
      have HB : Hid (∀ w', Below wr.heap.size wr w' → CBox w' (w.heap.size + 1) m Am nm) := fun w' hB' => hbox.below hB' hbx
      have HZ : Hid (∀ w', Below wr.heap.size wr w' → w'.heap[w.heap.size]? = some (.cells zeroC 33 (0, 0))) := fun w' hB' => (hB'.block _ (by omega)).trans hz
      have HRX := Lib.hid hrx'
      have HRM := Lib.hid hrm
      have HN := Lib.hid hnext
      have HFX := Lib.hid hfx
      have HFM := Lib.hid hfm
      dsimp only [candV, Cand.cells] at hcm
      have HCM := Lib.hid hcm
      obtain ⟨m0, m1, m2, m3, m4, m5, m6, m7⟩ := hbox.cells
      clear hcm hrx' hrm hnext hfx hfm hz hbox
      have kk0 := (Below.refl wr.heap.size wr).drew
      by_cases hneg : cmpC x m < 0
      · rw [if_pos hneg] at HN
        generalize cmpC x m = cx at *
        go_wp2_with fail
        go_region_held3 (fun w' => (w'.cell? ⟨b, off + k * 8, none⟩ = some (.bool x.super) ∧ w'.cell? ⟨b, off + k * 8 + 1, none⟩ = some (.int .i64 x.top) ∧ w'.cell? ⟨b, off + k * 8 + 2, none⟩ = some (.int .i64 x.details) ∧ w'.cell? ⟨b, off + k * 8 + 3, none⟩ = some (.int .i64 x.pool.tx) ∧ w'.cell? ⟨b, off + k * 8 + 4, none⟩ = some (.int .i64 x.pool.time) ∧ w'.cell? ⟨b, off + k * 8 + 5, none⟩ = some (.int .i64 x.pool.unit) ∧ w'.cell? ⟨b, off + k * 8 + 6, none⟩ = some (.int .i64 x.pool.data) ∧ w'.cell? ⟨b, off + k * 8 + 7, none⟩ = some (.slice Ax x.pool.devs.length nx)) ∧ (w'.cell? ⟨w.heap.size + 1, 0, none⟩ = some (.bool m.super) ∧ w'.cell? ⟨w.heap.size + 1, 1, none⟩ = some (.int .i64 m.top) ∧ w'.cell? ⟨w.heap.size + 1, 2, none⟩ = some (.int .i64 m.details) ∧ w'.cell? ⟨w.heap.size + 1, 3, none⟩ = some (.int .i64 m.pool.tx) ∧ w'.cell? ⟨w.heap.size + 1, 4, none⟩ = some (.int .i64 m.pool.time) ∧ w'.cell? ⟨w.heap.size + 1, 5, none⟩ = some (.int .i64 m.pool.unit) ∧ w'.cell? ⟨w.heap.size + 1, 6, none⟩ = some (.int .i64 m.pool.data) ∧ w'.cell? ⟨w.heap.size + 1, 7, none⟩ = some (.slice Am m.pool.devs.length nm))) (go_keep)
          (first | (go_at_call 14; refine HCM.out.mono ?_; rintro e w5 ⟨rfl, hB5⟩; have kk5 := kk0.trans (hB5.mono (Nat.le_refl _)); obtain ⟨c0, c1, c2, c3, c4, c5, c6, c7⟩ := HX.out _ kk5; obtain ⟨⟨m0, m1, m2, m3, m4, m5, m6, m7⟩, f0, f1, f2, f3, f4, f5, f6, f7⟩ := cells8 (show w5.heap[w.heap.size + 1]? = _ from HB.out _ kk5); have hs5 := kk5.size; have hne : ¬ w.heap.size + 1 = b := (by omega)))
        go_wp2_with fail
        refine ⟨⟨k + 1, x, Ax, nx, by omega, by omega, by go_num, HN.out.symm, below8 (hB.trans (kk5.mono hszw)) (by omega) (.bool x.super) (.int .i64 x.top) (.int .i64 x.details) (.int .i64 x.pool.tx) (.int .i64 x.pool.time) (.int .i64 x.pool.unit) (.int .i64 x.pool.data) (.slice Ax x.pool.devs.length nx), set8 (HB.out _ kk5) (.bool x.super) (.int .i64 x.top) (.int .i64 x.details) (.int .i64 x.pool.tx) (.int .i64 x.pool.time) (.int .i64 x.pool.unit) (.int .i64 x.pool.data) (.slice Ax x.pool.devs.length nx), hnx, (HRX.out.keep rdev_stable (fun _ h => h) (keep_below kk5 (fun b hb => by have := hS b hb; omega))).keep rdev_stable (fun _ h => h) (keep8 w5 (w.heap.size + 1) (fun h => by have := hS _ h; omega) (.bool x.super) (.int .i64 x.top) (.int .i64 x.details) (.int .i64 x.pool.tx) (.int .i64 x.pool.time) (.int .i64 x.pool.unit) (.int .i64 x.pool.data) (.slice Ax x.pool.devs.length nx)), HFX.out, (far8 w5 (b := w.heap.size + 1) (k := w.heap.size) (by omega) (.bool x.super) (.int .i64 x.top) (.int .i64 x.details) (.int .i64 x.pool.tx) (.int .i64 x.pool.time) (.int .i64 x.pool.unit) (.int .i64 x.pool.data) (.slice Ax x.pool.devs.length nx)).trans (HZ.out _ kk5)⟩, by simp [intOf]; omega⟩
      · rw [if_neg hneg] at HN
        have hnn : ¬ cmpC x m < 0 := hneg
        clear hneg
        generalize cmpC x m = cx at *
        go_wp2_with fail
        go_region_held3 (fun w' => (w'.cell? ⟨b, off + k * 8, none⟩ = some (.bool x.super) ∧ w'.cell? ⟨b, off + k * 8 + 1, none⟩ = some (.int .i64 x.top) ∧ w'.cell? ⟨b, off + k * 8 + 2, none⟩ = some (.int .i64 x.details) ∧ w'.cell? ⟨b, off + k * 8 + 3, none⟩ = some (.int .i64 x.pool.tx) ∧ w'.cell? ⟨b, off + k * 8 + 4, none⟩ = some (.int .i64 x.pool.time) ∧ w'.cell? ⟨b, off + k * 8 + 5, none⟩ = some (.int .i64 x.pool.unit) ∧ w'.cell? ⟨b, off + k * 8 + 6, none⟩ = some (.int .i64 x.pool.data) ∧ w'.cell? ⟨b, off + k * 8 + 7, none⟩ = some (.slice Ax x.pool.devs.length nx)) ∧ (w'.cell? ⟨w.heap.size + 1, 0, none⟩ = some (.bool m.super) ∧ w'.cell? ⟨w.heap.size + 1, 1, none⟩ = some (.int .i64 m.top) ∧ w'.cell? ⟨w.heap.size + 1, 2, none⟩ = some (.int .i64 m.details) ∧ w'.cell? ⟨w.heap.size + 1, 3, none⟩ = some (.int .i64 m.pool.tx) ∧ w'.cell? ⟨w.heap.size + 1, 4, none⟩ = some (.int .i64 m.pool.time) ∧ w'.cell? ⟨w.heap.size + 1, 5, none⟩ = some (.int .i64 m.pool.unit) ∧ w'.cell? ⟨w.heap.size + 1, 6, none⟩ = some (.int .i64 m.pool.data) ∧ w'.cell? ⟨w.heap.size + 1, 7, none⟩ = some (.slice Am m.pool.devs.length nm))) (go_keep)
          (first | (go_at_call 14; refine HCM.out.mono ?_; rintro e w5 ⟨rfl, hB5⟩; have kk5 := kk0.trans (hB5.mono (Nat.le_refl _)); obtain ⟨c0, c1, c2, c3, c4, c5, c6, c7⟩ := HX.out _ kk5; obtain ⟨⟨m0, m1, m2, m3, m4, m5, m6, m7⟩, f0, f1, f2, f3, f4, f5, f6, f7⟩ := cells8 (show w5.heap[w.heap.size + 1]? = _ from HB.out _ kk5)))
        go_wp2_with fail
        refine ⟨⟨k + 1, m, Am, nm, by omega, by omega, by go_num, HN.out.symm, hB.trans (kk5.mono hszw), HB.out _ kk5, hnm, HRM.out.keep rdev_stable (fun _ h => h) (keep_below kk5 (fun b hb => by have := hS b hb; omega)), HFM.out, HZ.out _ kk5⟩, by simp [intOf]; omega⟩
    · have hfin : m = minC l := by
        rw [List.drop_eq_nil_of_le (by rw [HLN.out]; omega)] at hmin
        exact hmin
      have HFIN := Lib.hid hfin
      obtain ⟨⟨m0, m1, m2, m3, m4, m5, m6, m7⟩, f0, f1, f2, f3, f4, f5, f6, f7⟩ := cells8 (show wr.heap[w.heap.size + 1]? = _ from hbox)
      obtain ⟨⟨z0, z1, z2, z3, z4, z5, z6, z7⟩, g0, g1, g2, g3, g4, g5, g6, g7⟩ := cells8 hz
      have hs8 := set8 hz (.bool m.super) (.int .i64 m.top) (.int .i64 m.details) (.int .i64 m.pool.tx) (.int .i64 m.pool.time) (.int .i64 m.pool.unit) (.int .i64 m.pool.data) (.slice Am m.pool.devs.length nm)
      have hb8 := below8 hB (b := w.heap.size) (Nat.le_refl _) (.bool m.super) (.int .i64 m.top) (.int .i64 m.details) (.int .i64 m.pool.tx) (.int .i64 m.pool.time) (.int .i64 m.pool.unit) (.int .i64 m.pool.data) (.slice Am m.pool.devs.length nm)
      have hk8 := keep8 (S := S) wr w.heap.size (fun h => by have := hS _ h; omega) (.bool m.super) (.int .i64 m.top) (.int .i64 m.details) (.int .i64 m.pool.tx) (.int .i64 m.pool.time) (.int .i64 m.pool.unit) (.int .i64 m.pool.data) (.slice Am m.pool.devs.length nm)
      have HRM := Lib.hid hrm
      clear hfin hmin hrm hfm
      go_wp2_with fail
      generalize ((((((((wr.setCell ⟨w.heap.size, 0, none⟩ (.bool m.super)).setCell ⟨w.heap.size, 1, none⟩ (.int .i64 m.top)).setCell ⟨w.heap.size, 2, none⟩ (.int .i64 m.details)).setCell ⟨w.heap.size, 3, none⟩ (.int .i64 m.pool.tx)).setCell ⟨w.heap.size, 4, none⟩ (.int .i64 m.pool.time)).setCell ⟨w.heap.size, 5, none⟩ (.int .i64 m.pool.unit)).setCell ⟨w.heap.size, 6, none⟩ (.int .i64 m.pool.data)).setCell ⟨w.heap.size, 7, none⟩ (.slice Am m.pool.devs.length nm)) = w5 at *
      obtain ⟨⟨r0, r1, r2, r3, r4, r5, r6, r7⟩, _⟩ := cells8 hs8
      refine bodyPost_ret (v := candV m Am nm) (by simp [results, Try.results17, go_sem, r0, r1, r2, r3, r4, r5, r6, r7]) rfl ?_
      refine ⟨_, rfl, ?_, hb8⟩
      rw [← HFIN.out]
      exact ⟨Am, nm, rfl, hnm, HRM.out.keep rdev_stable (fun _ h => h) hk8⟩
end Go.Proofs.Ytolpgblegbahgaa
