/- pool.Find: the first device of an id, with mappings of its own. Condition: no slice is longer than the reach. -/
import Derived.Test.YtobklchhlfhpjaaWFind2
import Derived.RangeFuncBox
namespace Go.Proofs.Ytobklchhlfhpjaa
open Go.RowKit

theorem set5 {w : World} {b : Nat} {t : TypeId} {a0 a1 a2 a3 a4 : Value} (h : w.heap[b]? = some (.cells #[a0, a1, a2, a3, a4] t (0, 0))) (u0 u1 u2 u3 u4 : Value) :
    (((((w.setCell ⟨b, 0, none⟩ u0).setCell ⟨b, 1, none⟩ u1).setCell ⟨b, 2, none⟩ u2).setCell ⟨b, 3, none⟩ u3).setCell ⟨b, 4, none⟩ u4).heap[b]? = some (.cells #[u0, u1, u2, u3, u4] t (0, 0)) := by
  simp [World.setCell, Array.getElem?_modify, h]
theorem below5 {w0 w : World} {B b : Nat} (h : Below B w0 w) (hb : B ≤ b) (u0 u1 u2 u3 u4 : Value) :
    Below B w0 (((((w.setCell ⟨b, 0, none⟩ u0).setCell ⟨b, 1, none⟩ u1).setCell ⟨b, 2, none⟩ u2).setCell ⟨b, 3, none⟩ u3).setCell ⟨b, 4, none⟩ u4) :=
  ((((h.setCell (p := ⟨b, 0, none⟩) hb u0).setCell (p := ⟨b, 1, none⟩) hb u1).setCell (p := ⟨b, 2, none⟩) hb u2).setCell (p := ⟨b, 3, none⟩) hb u3).setCell (p := ⟨b, 4, none⟩) hb u4
theorem size5 (w : World) (b : Nat) (u0 u1 u2 u3 u4 : Value) : (((((w.setCell ⟨b, 0, none⟩ u0).setCell ⟨b, 1, none⟩ u1).setCell ⟨b, 2, none⟩ u2).setCell ⟨b, 3, none⟩ u3).setCell ⟨b, 4, none⟩ u4).heap.size = w.heap.size := by
  simp [World.setCell]
theorem cells5 {w : World} {b : Nat} {t : TypeId} {a0 a1 a2 a3 a4 : Value} (h : w.heap[b]? = some (.cells #[a0, a1, a2, a3, a4] t (0, 0))) :
    w.cell? ⟨b, 0, none⟩ = some a0 ∧ w.cell? ⟨b, 1, none⟩ = some a1 ∧ w.cell? ⟨b, 2, none⟩ = some a2 ∧ w.cell? ⟨b, 3, none⟩ = some a3 ∧ w.cell? ⟨b, 4, none⟩ = some a4 := by
  simp [World.cell?, h]
set_option maxRecDepth 100000 in
set_option maxHeartbeats 3200000 in
theorem find_any (w : World) (S : Nat → Prop) (v : Value) (p : Pool) (id : Int) (hS : ∀ b, S b → b < w.heap.size) (h : IsPool w S v p) (hnd : p.devs.length ≤ 1099511627776) (hmk : ∀ k, k < p.devs.length → (nth dev0 p.devs k).maps.length ≤ 2199023255552) :
    Calls Try.prog 13 #[v, .int .i64 id] w fun e w' => ∃ v', e = .returned (.tuple #[v', .bool (findB p.devs id)]) ∧ IsDev w' (Lt w'.heap.size) v' (findD p.devs id) ∧ Below w.heap.size w w' := by
  obtain ⟨A, c, rfl, hc, hr⟩ := h
  have hB0 : Below w.heap.size w (((w.alloc (poolBox p A p.devs.length c)).alloc (.cells #[.int .i64 id] 3)).alloc (.cells #[.int .i64 0, .int .i64 0, .int .i64 0, .int .i64 0, .slice none 0 0] 40)) := (((Below.refl _ _).alloc (Nat.le_refl _) _).alloc (by simp) _).alloc (by simp; omega) _
  have hp1 : PBox (((w.alloc (poolBox p A p.devs.length c)).alloc (.cells #[.int .i64 id] 3)).alloc (.cells #[.int .i64 0, .int .i64 0, .int .i64 0, .int .i64 0, .slice none 0 0] 40)) w.heap.size p A p.devs.length c := ((PBox.new w p A p.devs.length c).below (Below.alloc (Below.refl _ _) (Nat.le_refl _) _) (by simp)).below (Below.alloc (Below.refl _ _) (Nat.le_refl _) _) (by simp; omega)
  have hz0 : (((w.alloc (poolBox p A p.devs.length c)).alloc (.cells #[.int .i64 id] 3)).alloc (.cells #[.int .i64 0, .int .i64 0, .int .i64 0, .int .i64 0, .slice none 0 0] 40)).heap.size = w.heap.size + 3 := by simp
  have hi0 : (((w.alloc (poolBox p A p.devs.length c)).alloc (.cells #[.int .i64 id] 3)).alloc (.cells #[.int .i64 0, .int .i64 0, .int .i64 0, .int .i64 0, .slice none 0 0] 40)).cell? ⟨w.heap.size + 1, 0, none⟩ = some (.int .i64 id) := by
    rw [World.cell?_alloc_lt _ _ _ (by simp)]
    have := (Boxed.new (w.alloc (poolBox p A p.devs.length c)) 3 (.int .i64 id)).cell
    rw [World.size_alloc] at this
    exact this
  have hd0 : (((w.alloc (poolBox p A p.devs.length c)).alloc (.cells #[.int .i64 id] 3)).alloc (.cells #[.int .i64 0, .int .i64 0, .int .i64 0, .int .i64 0, .slice none 0 0] 40)).heap[w.heap.size + 1 + 1]? = some (.cells #[.int .i64 0, .int .i64 0, .int .i64 0, .int .i64 0, .slice none 0 0] 40 (0, 0)) := by
    have := heap_alloc_new ((w.alloc (poolBox p A p.devs.length c)).alloc (.cells #[.int .i64 id] 3)) (.cells #[.int .i64 0, .int .i64 0, .int .i64 0, .int .i64 0, .slice none 0 0] 40)
    simpa only [World.size_alloc] using this
  have hidx := idxDev_any (((w.alloc (poolBox p A p.devs.length c)).alloc (.cells #[.int .i64 id] 3)).alloc (.cells #[.int .i64 0, .int .i64 0, .int .i64 0, .int .i64 0, .slice none 0 0] 40)) S (.slice A p.devs.length c) p.devs (w.heap.size + 1) id (fun b hb => by have := hS b hb; omega) ⟨A, c, rfl, hc, hr.keep rdev_stable (fun _ h => h) (keep_below hB0 hS)⟩ hnd hi0 (by omega)
  dsimp only [poolBox] at hB0 hp1 hz0 hi0 hd0 hidx
  have HIDX := Lib.hid hidx
  clear hidx
  go_enter Try.func13, Try.ntmps13
  go_wp2_with fail
  refine HIDX.out.mono ?_
  rintro e w2 ⟨i, rfl, hfo, hB2⟩
  have hs2 := hB2.size
  have hB02 := hB0.trans (hB2.mono (by omega))
  obtain ⟨x0, x1, x2, x3, x4⟩ := (hp1.below hB2 (by omega)).cells
  have hd2 : w2.heap[w.heap.size + 1 + 1]? = _ := (hB2.block _ (by omega)).trans hd0
  have z0 : w2.cell? ⟨w.heap.size + 1 + 1, 0, none⟩ = some (.int .i64 0) := by simp [World.cell?, hd2]
  have z1 : w2.cell? ⟨w.heap.size + 1 + 1, 1, none⟩ = some (.int .i64 0) := by simp [World.cell?, hd2]
  have z2 : w2.cell? ⟨w.heap.size + 1 + 1, 2, none⟩ = some (.int .i64 0) := by simp [World.cell?, hd2]
  have z3 : w2.cell? ⟨w.heap.size + 1 + 1, 3, none⟩ = some (.int .i64 0) := by simp [World.cell?, hd2]
  have z4 : w2.cell? ⟨w.heap.size + 1 + 1, 4, none⟩ = some (.slice none 0 0) := by simp [World.cell?, hd2]
  have y0 : w2.frozen? ⟨w.heap.size + 1 + 1, 0, none⟩ = false := by simp [World.frozen?, hd2]
  have y1 : w2.frozen? ⟨w.heap.size + 1 + 1, 1, none⟩ = false := by simp [World.frozen?, hd2]
  have y2 : w2.frozen? ⟨w.heap.size + 1 + 1, 2, none⟩ = false := by simp [World.frozen?, hd2]
  have y3 : w2.frozen? ⟨w.heap.size + 1 + 1, 3, none⟩ = false := by simp [World.frozen?, hd2]
  have y4 : w2.frozen? ⟨w.heap.size + 1 + 1, 4, none⟩ = false := by simp [World.frozen?, hd2]
  rcases hfo with ⟨k, hk, rfl, hid, hn⟩ | ⟨rfl, hn⟩
  · obtain ⟨b, off, rfl, hb, hcl⟩ := devs_cells (hr.keep rdev_stable (fun _ h => h) (keep_below hB02 hS)) (by omega)
    obtain ⟨c0, c1, c2, c3, A', c', c4, hc', hr'⟩ := hcl k hk
    have hbs : b < w.heap.size := hS b hb
    obtain ⟨e1, e2⟩ := found_yes hk hid hn
    have HE1 := Lib.hid e1
    have HE2 := Lib.hid e2
    have hmk2 := hmk k hk
    have hS2 : ∀ b, S b → b < w2.heap.size := fun b hb => by have := hS b hb; omega
    clear e1 e2 hn hd0 hi0 hcl hid
    generalize nth dev0 p.devs k = d at *
    have hcln := cloneMaps (w2.alloc (devBox d A' c')) S (.slice A' d.maps.length c') d.maps (fun b hb => by have := hS2 b hb; simp; omega) ⟨A', c', rfl, hc', hr'.keep rmp_stable (fun _ h => h) (keep_alloc hS2 _)⟩ hmk2
    have hn7 : (w2.alloc (devBox d A' c')).heap[w2.heap.size]? = some (.cells #[.int .i64 d.id, .int .i64 d.tx, .int .i64 d.made, .int .i64 d.snapped, .slice A' d.maps.length c'] 40 (0, 0)) := heap_alloc_new w2 _
    have hd7 : (w2.alloc (devBox d A' c')).heap[w.heap.size + 1 + 1]? = _ := (Below.heap_alloc w2 (devBox d A' c') _ (by omega)).trans hd2
    have hB07 : Below w.heap.size w (w2.alloc (devBox d A' c')) := hB02.alloc (by omega) _
    dsimp only [devBox] at hcln hn7 hd7 hB07
    have HCLN := Lib.hid hcln
    clear hcln hr'
    go_wp2_with (go_at_call 29; refine HCLN.out.mono ?_; rintro e w3 ⟨v3, rfl, _, h3, hB3, _⟩
                 obtain ⟨A3, c3, rfl, hc3, hr3⟩ := h3 (fun b => S b ∨ (w2.heap.size + 1 ≤ b ∧ b < w3.heap.size)) (fun b h1 h2 => .inr ⟨by simpa using h1, h2⟩) (fun b hb => .inl hb)
                 have hsz3 := hB3.size
                 simp only [World.size_alloc] at hsz3
                 have hn3 : w3.heap[w2.heap.size]? = _ := (hB3.block _ (by simp)).trans hn7
                 have hd3 : w3.heap[w.heap.size + 1 + 1]? = _ := (hB3.block _ (by simp; omega)).trans hd7
                 obtain ⟨r0, r1, r2, r3, r4⟩ := cells5 hn3
                 obtain ⟨s0, s1, s2, s3, s4⟩ := cells5 hd3
                 have hfz : w3.frozen? ⟨w2.heap.size, 4, none⟩ = false := by simp [World.frozen?, hn3]
                 have f0 : w3.frozen? ⟨w.heap.size + 1 + 1, 0, none⟩ = false := by simp [World.frozen?, hd3]
                 have f1 : w3.frozen? ⟨w.heap.size + 1 + 1, 1, none⟩ = false := by simp [World.frozen?, hd3]
                 have f2 : w3.frozen? ⟨w.heap.size + 1 + 1, 2, none⟩ = false := by simp [World.frozen?, hd3]
                 have f3 : w3.frozen? ⟨w.heap.size + 1 + 1, 3, none⟩ = false := by simp [World.frozen?, hd3]
                 have f4 : w3.frozen? ⟨w.heap.size + 1 + 1, 4, none⟩ = false := by simp [World.frozen?, hd3]
                 have hne : ¬ w2.heap.size = w.heap.size + 1 + 1 := by omega
                 have hne2 : ¬ w.heap.size + 1 + 1 = w2.heap.size := by omega)
    have hd4 : (w3.setCell ⟨w2.heap.size, 4, none⟩ (.slice A3 d.maps.length c3)).heap[w.heap.size + 1 + 1]? = _ := (Below.heap_setCell w3 ⟨w2.heap.size, 4, none⟩ (.slice A3 d.maps.length c3) _ hne2).trans hd3
    have hs5 := set5 hd4 (.int .i64 d.id) (.int .i64 d.tx) (.int .i64 d.made) (.int .i64 d.snapped) (.slice A3 d.maps.length c3)
    have hb5 := below5 ((hB07.trans (hB3.mono (by simp; omega))).setCell (p := ⟨w2.heap.size, 4, none⟩) (by simp only; omega) (.slice A3 d.maps.length c3)) (b := w.heap.size + 1 + 1) (by omega) (.int .i64 d.id) (.int .i64 d.tx) (.int .i64 d.made) (.int .i64 d.snapped) (.slice A3 d.maps.length c3)
    have hz5 := size5 (w3.setCell ⟨w2.heap.size, 4, none⟩ (.slice A3 d.maps.length c3)) (w.heap.size + 1 + 1) (.int .i64 d.id) (.int .i64 d.tx) (.int .i64 d.made) (.int .i64 d.snapped) (.slice A3 d.maps.length c3)
    have hz4 : (w3.setCell ⟨w2.heap.size, 4, none⟩ (.slice A3 d.maps.length c3)).heap.size = w3.heap.size := by simp [World.setCell]
    have nS : ∀ g i, (g = w2.heap.size ∨ g = w.heap.size + 1 + 1) → ¬ (fun b => S b ∨ (w2.heap.size + 1 ≤ b ∧ b < w3.heap.size)) (⟨g, i, none⟩ : Addr).block := by
      rintro g i hg (h | h)
      · have := hS _ h; simp only at this; omega
      · simp only at h; omega
    have hk5 : Keep (fun b => S b ∨ (w2.heap.size + 1 ≤ b ∧ b < w3.heap.size)) w3 _ := (((((keep_setCell (w := w3) (p := ⟨w2.heap.size, 4, none⟩) (nS _ _ (.inl rfl)) (.slice A3 d.maps.length c3)).trans (keep_setCell (p := ⟨w.heap.size + 1 + 1, 0, none⟩) (nS _ _ (.inr rfl)) (.int .i64 d.id))).trans (keep_setCell (p := ⟨w.heap.size + 1 + 1, 1, none⟩) (nS _ _ (.inr rfl)) (.int .i64 d.tx))).trans (keep_setCell (p := ⟨w.heap.size + 1 + 1, 2, none⟩) (nS _ _ (.inr rfl)) (.int .i64 d.made))).trans (keep_setCell (p := ⟨w.heap.size + 1 + 1, 3, none⟩) (nS _ _ (.inr rfl)) (.int .i64 d.snapped))).trans (keep_setCell (p := ⟨w.heap.size + 1 + 1, 4, none⟩) (nS _ _ (.inr rfl)) (.slice A3 d.maps.length c3))
    generalize (((((w3.setCell ⟨w2.heap.size, 4, none⟩ (.slice A3 d.maps.length c3)).setCell ⟨w.heap.size + 1 + 1, 0, none⟩ (.int .i64 d.id)).setCell ⟨w.heap.size + 1 + 1, 1, none⟩ (.int .i64 d.tx)).setCell ⟨w.heap.size + 1 + 1, 2, none⟩ (.int .i64 d.made)).setCell ⟨w.heap.size + 1 + 1, 3, none⟩ (.int .i64 d.snapped)).setCell ⟨w.heap.size + 1 + 1, 4, none⟩ (.slice A3 d.maps.length c3) = w5 at *
    obtain ⟨r0, r1, r2, r3, r4⟩ := cells5 hs5
    refine bodyPost_ret (v := .tuple #[.agg #[.int .i64 d.id, .int .i64 d.tx, .int .i64 d.made, .int .i64 d.snapped, .slice A3 d.maps.length c3], .bool true]) (by simp [results, Try.results13, go_sem, r0, r1, r2, r3, r4]) rfl ?_
    refine ⟨_, by rw [HE2.out], ?_, hb5⟩
    rw [HE1.out]
    refine ⟨A3, c3, rfl, hc3, hr3.keep rmp_stable (fun b hb => ?_) hk5⟩
    rcases hb with hb | hb
    · have := hS b hb; show b < w5.heap.size; omega
    · show b < w5.heap.size; omega
  · obtain ⟨e1, e2⟩ := found_no (l := p.devs) (id := id) hn
    have HE1 := Lib.hid e1
    have HE2 := Lib.hid e2
    clear e1 e2 hn hd0 hi0
    have hs5 := set5 hd2 (.int .i64 0) (.int .i64 0) (.int .i64 0) (.int .i64 0) (.slice none 0 0)
    have hb5 := below5 hB02 (b := w.heap.size + 1 + 1) (by omega) (.int .i64 0) (.int .i64 0) (.int .i64 0) (.int .i64 0) (.slice none 0 0)
    have HS5 := Lib.hid hs5
    clear hs5 hd2
    go_wp2_with fail
    have hs5 := HS5.out
    generalize ((((w2.setCell ⟨w.heap.size + 1 + 1, 0, none⟩ (.int .i64 0)).setCell ⟨w.heap.size + 1 + 1, 1, none⟩ (.int .i64 0)).setCell ⟨w.heap.size + 1 + 1, 2, none⟩ (.int .i64 0)).setCell ⟨w.heap.size + 1 + 1, 3, none⟩ (.int .i64 0)).setCell ⟨w.heap.size + 1 + 1, 4, none⟩ (.slice none 0 0) = w5 at *
    obtain ⟨r0, r1, r2, r3, r4⟩ := cells5 hs5
    refine bodyPost_ret (v := .tuple #[.agg #[.int .i64 0, .int .i64 0, .int .i64 0, .int .i64 0, .slice none 0 0], .bool false]) (by simp [results, Try.results13, go_sem, r0, r1, r2, r3, r4]) rfl ?_
    exact ⟨_, by rw [HE2.out], by rw [HE1.out]; exact isDev0 _ _, hb5⟩
end Go.Proofs.Ytobklchhlfhpjaa
