/- scantlinglaw36.lives says yes. -/
import Derived.Test.YtlaemcdmhhajnaaRankP
namespace Go.Proofs.Ytlaemcdmhhajnaa
open Go.RowKit
attribute [local go_sem] Oper.semAt_some

/-- A block of candidates as a slice. -/
theorem cands_block {w : World} {S : Nat → Prop} {b c : Nat} {cs : Array Value} {t : TypeId} {fr : Nat × Nat} {l : List Cand} (hg : w.heap[b]? = some (.cells cs t fr)) (hb : S b) (hc : l.length ≤ c)
    (hcs : ∀ k, k < l.length → ∃ A n, (∀ j, j < 8 → cs[k * 8 + j]? = ((nth cand0 l k).cells A n)[j]?) ∧ (nth cand0 l k).pool.devs.length ≤ n ∧ DevRow w S A (nth cand0 l k).pool.devs) :
    IsSl RCand 8 cand0 w S (.slice (some ⟨b, 0, none⟩) l.length c) l := by
  refine ⟨_, _, rfl, hc, fun _ => ⟨b, 0, rfl, hb, fun k hk => ?_⟩⟩
  obtain ⟨A, n, h1, h2, h3⟩ := hcs k hk
  refine ⟨_, rfl, ⟨A, n, rfl, h2, h3⟩, fun j u hu => ?_⟩
  have hj : j < 8 := (List.getElem?_eq_some_iff.1 hu).1
  rw [cell_of_row w b _ cs t fr hg]
  have := h1 j hj
  rw [show 0 + k * 8 + j = k * 8 + j by omega, this]
  simpa using hu
def exP : Pool := ⟨0, 0, 0, 0, []⟩
def exC1 : Cand := ⟨false, 3, 4, exP⟩
def exC2 : Cand := ⟨false, 2, 9, exP⟩
theorem exP_few (b : Bool) (x y : Int) : Cand.few ⟨b, x, y, exP⟩ := ⟨⟨by simp [In64, exP], by simp [In64, exP], by simp [In64, exP], by simp [In64, exP], by simp [exP], by simp [exP]⟩, by simp [exP], by simp [exP, Pool.count, countL]⟩
theorem ex_lt : cmpC exC2 exC1 < 0 := by simp [cmpC, cmpL, orI, exC1, exC2, cmpI, firstI]
theorem ex_min : minC [exC1, exC2] = exC2 := by simp only [minC, minFrom]; rw [if_pos ex_lt]
set_option maxRecDepth 100000 in
set_option maxHeartbeats 1600000 in
theorem lives36 (w : World) : Calls Try.prog 6 #[] w fun e w' => e = .returned (.bool true) ∧ Below w.heap.size w w' := by
  have hB2 : Below w.heap.size w ((w.alloc (candBox exC1 none 0)).alloc (candBox exC2 none 0)) := ((Below.refl _ _).alloc (Nat.le_refl _) _).alloc (by simp) _
  have hc1 : CBox ((w.alloc (candBox exC1 none 0)).alloc (candBox exC2 none 0)) w.heap.size exC1 none 0 := (CBox.new w exC1 none 0).below (Below.alloc (Below.refl _ _) (Nat.le_refl _) _) (by simp)
  have hc2 : CBox ((w.alloc (candBox exC1 none 0)).alloc (candBox exC2 none 0)) (w.heap.size + 1) exC2 none 0 := by
    have := CBox.new (w.alloc (candBox exC1 none 0)) exC2 none 0
    simpa only [World.size_alloc] using this
  have hB3 := hB2.alloc hB2.size (.cells #[.bool false, .int .i64 3, .int .i64 4, .int .i64 0, .int .i64 0, .int .i64 0, .int .i64 0, .slice none 0 0, .bool false, .int .i64 2, .int .i64 9, .int .i64 0, .int .i64 0, .int .i64 0, .int .i64 0, .slice none 0 0] 26)
  have hk3 : Below ((w.alloc (candBox exC1 none 0)).alloc (candBox exC2 none 0)).heap.size ((w.alloc (candBox exC1 none 0)).alloc (candBox exC2 none 0)) (((w.alloc (candBox exC1 none 0)).alloc (candBox exC2 none 0)).alloc (.cells #[.bool false, .int .i64 3, .int .i64 4, .int .i64 0, .int .i64 0, .int .i64 0, .int .i64 0, .slice none 0 0, .bool false, .int .i64 2, .int .i64 9, .int .i64 0, .int .i64 0, .int .i64 0, .int .i64 0, .slice none 0 0] 26)) := (Below.refl _ _).alloc (Nat.le_refl _) _
  have hr3 := heap_alloc_new ((w.alloc (candBox exC1 none 0)).alloc (candBox exC2 none 0)) (.cells #[.bool false, .int .i64 3, .int .i64 4, .int .i64 0, .int .i64 0, .int .i64 0, .int .i64 0, .slice none 0 0, .bool false, .int .i64 2, .int .i64 9, .int .i64 0, .int .i64 0, .int .i64 0, .int .i64 0, .slice none 0 0] 26)
  have hsl : IsSl RCand 8 cand0 (((w.alloc (candBox exC1 none 0)).alloc (candBox exC2 none 0)).alloc (.cells #[.bool false, .int .i64 3, .int .i64 4, .int .i64 0, .int .i64 0, .int .i64 0, .int .i64 0, .slice none 0 0, .bool false, .int .i64 2, .int .i64 9, .int .i64 0, .int .i64 0, .int .i64 0, .int .i64 0, .slice none 0 0] 26)) (fun b => b = w.heap.size + 2) (.slice (some ⟨w.heap.size + 2, 0, none⟩) 2 2) [exC1, exC2] := by
    have hr3' := hr3
    simp only [World.size_alloc] at hr3'
    refine cands_block (l := [exC1, exC2]) hr3' rfl (by simp) (fun k hk => ?_)
    have hk2 : k < 2 := hk
    rcases (by omega : k = 0 ∨ k = 1) with rfl | rfl
    · exact ⟨none, 0, fun j hj => by rcases (by omega : j = 0 ∨ j = 1 ∨ j = 2 ∨ j = 3 ∨ j = 4 ∨ j = 5 ∨ j = 6 ∨ j = 7) with rfl | rfl | rfl | rfl | rfl | rfl | rfl | rfl <;> rfl, by simp [nth, exC1, exP], RowOf.nil_⟩
    · exact ⟨none, 0, fun j hj => by rcases (by omega : j = 0 ∨ j = 1 ∨ j = 2 ∨ j = 3 ∨ j = 4 ∨ j = 5 ∨ j = 6 ∨ j = 7) with rfl | rfl | rfl | rfl | rfl | rfl | rfl | rfl <;> rfl, by simp [nth, exC2, exP], RowOf.nil_⟩
  have hbest := best_any (((w.alloc (candBox exC1 none 0)).alloc (candBox exC2 none 0)).alloc (.cells #[.bool false, .int .i64 3, .int .i64 4, .int .i64 0, .int .i64 0, .int .i64 0, .int .i64 0, .slice none 0 0, .bool false, .int .i64 2, .int .i64 9, .int .i64 0, .int .i64 0, .int .i64 0, .int .i64 0, .slice none 0 0] 26)) (fun b => b = w.heap.size + 2) _ [exC1, exC2] (fun b hb => by subst hb; simp) hsl (by simp) (by simp) (fun k hk => by
    have hk2 : k < 2 := hk
    rcases (by omega : k = 0 ∨ k = 1) with rfl | rfl
    · exact exP_few _ _ _
    · exact exP_few _ _ _) (fun c hc k hk => by
    simp at hc
    rcases hc with rfl | rfl
    · simp [exC1, exP] at hk
    · simp [exC2, exP] at hk)
  rw [ex_min] at hbest
  have hbf21 := fun w' => before_any w' (fun _ => False) (fun _ => False) (candV exC2 none 0) (candV exC1 none 0) exC2 exC1 (fun _ h => h.elim) (fun _ h => h.elim) ⟨none, 0, rfl, by simp [exC2, exP], RowOf.nil_⟩ ⟨none, 0, rfl, by simp [exC1, exP], RowOf.nil_⟩ (exP_few _ _ _) (exP_few _ _ _)
  have hbf12 := fun w' => before_any w' (fun _ => False) (fun _ => False) (candV exC1 none 0) (candV exC2 none 0) exC1 exC2 (fun _ h => h.elim) (fun _ h => h.elim) ⟨none, 0, rfl, by simp [exC1, exP], RowOf.nil_⟩ ⟨none, 0, rfl, by simp [exC2, exP], RowOf.nil_⟩ (exP_few _ _ _) (exP_few _ _ _)
  rw [decide_eq_true ex_lt] at hbf21
  rw [decide_eq_false (ahead_asymm ex_lt)] at hbf12
  dsimp only [candBox, candV, Cand.cells, exC1, exC2, exP, List.length_nil] at hB2 hc1 hc2 hB3 hk3 hbest hbf21 hbf12
  have HBEST := Lib.hid hbest
  have H21 := Lib.hid hbf21
  have H12 := Lib.hid hbf12
  clear hbest hbf21 hbf12 hsl hr3
  have hd1 := hc1.below hk3 (by simp; omega)
  have hd2 := hc2.below hk3 (by simp)
  go_enter Try.func6, Try.ntmps6
  go_wp2_with (first
    | (go_at_call 8; refine HBEST.out.mono ?_; rintro e w4 ⟨v4, rfl, ⟨A4, n4, rfl, hn4, hr4⟩, hB4⟩; have he1 := hd1.below hB4 (by simp <;> omega); have he2 := hd2.below hB4 (by simp <;> omega); have hk4 := hB3.trans (hB4.mono hB3.size); have hs4 := hB4.size; obtain ⟨x0, x1, x2, x3, x4, x5, x6, x7⟩ := he1.cells; obtain ⟨y0, y1, y2, y3, y4, y5, y6, y7⟩ := he2.cells; have hl1 : w.heap.size < w4.heap.size := (by simp at hs4; omega); have hl2 : w.heap.size + 1 < w4.heap.size := (by simp at hs4; omega); dsimp only [List.length_nil])
    | (go_at_call 7; refine (H12.out _).mono ?_; rintro e w7 ⟨rfl, hB7⟩; have hk7 := hk6.trans (hB7.mono hk6.size))
    | (go_at_call 7; refine (H21.out _).mono ?_; rintro e w6 ⟨rfl, hB6⟩; have hk6 := (hk4.alloc hk4.size (candBox exC2 A4 n4)).trans (hB6.mono (hk4.alloc hk4.size (candBox exC2 A4 n4)).size); have hf1 := (he1.below (Below.alloc (Below.refl _ _) (Nat.le_refl _) (candBox exC2 A4 n4)) he1.lt).below hB6 (by simp <;> omega); have hf2 := (he2.below (Below.alloc (Below.refl _ _) (Nat.le_refl _) (candBox exC2 A4 n4)) he2.lt).below hB6 (by simp <;> omega); clear x0 x1 x2 x3 x4 x5 x6 x7 y0 y1 y2 y3 y4 y5 y6 y7; obtain ⟨x0, x1, x2, x3, x4, x5, x6, x7⟩ := hf1.cells; obtain ⟨y0, y1, y2, y3, y4, y5, y6, y7⟩ := hf2.cells; dsimp only [List.length_nil] at x7 y7))
  go_ret
  exact ⟨rfl, hk7⟩
end Go.Proofs.Ytlaemcdmhhajnaa
