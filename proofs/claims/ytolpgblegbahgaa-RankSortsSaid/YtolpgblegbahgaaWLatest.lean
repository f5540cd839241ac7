/- pool.Latest, scantlingref18.Latest: the greatest time of any mapping. Condition: no slice is longer than the reach. -/
import Derived.Test.YtolpgblegbahgaaWIter
import Derived.Test.YtolpgblegbahgaaTri
import Derived.Test.YtolpgblegbahgaaPBox
namespace Go.Proofs.Ytolpgblegbahgaa
open Go.RowKit Go.Shelf
attribute [local go_sem] Oper.semAt_some

def maxT (l : List (Nat × Mp)) : Int := l.foldl (fun t x => max t x.2.t) 0
theorem maxT_snoc (l : List (Nat × Mp)) (x : Nat × Mp) : maxT (l ++ [x]) = max (maxT l) x.2.t := by simp [maxT]
def Pool.latest (p : Pool) : Int := maxT (pairs p.devs)

set_option maxRecDepth 100000 in
set_option maxHeartbeats 3200000 in
theorem latest_any (w : World) (S : Nat → Prop) (v : Value) (p : Pool) (hS : ∀ b, S b → b < w.heap.size) (h : IsPool w S v p) (hok : p.ok) (hnd : p.devs.length ≤ 1099511627776) :
    Calls Try.prog 24 #[v] w fun e w' => e = .returned (.int .i64 p.latest) ∧ Below w.heap.size w w' := by
  obtain ⟨A, c, rfl, hc, hr⟩ := h
  have f3 : Fence.wide.fn 36 := trivial
  refine (callsIn_wide (n := 3)).1 ?_
  refine callsIn_of_wp_marks Try.func24 rfl trivial ?_ rfl
  simp only [Try.ntmps24, List.size_toArray, List.length_cons, List.length_nil, Nat.reduceAdd, Nat.reduceSub, Array.replicate_succ, Array.replicate_zero, List.push_toArray, List.append_toArray, List.nil_append, List.cons_append]
  gi_wp2_with (gi_at_call 36; refine (callsIn_wide.2 (maps_fn _ _ _ _ _)).mono ?_; rintro e w4 ⟨rfl, rfl⟩)
  have q1 := (Boxed.new (w.alloc (poolBox p A p.devs.length c)) 3 (.int .i64 0)).alloc (poolBox p A p.devs.length c)
  have q2 := PBox.new ((w.alloc (poolBox p A p.devs.length c)).alloc (.cells #[.int .i64 0] 3)) p A p.devs.length c
  have hB4 : Below w.heap.size w (((w.alloc (poolBox p A p.devs.length c)).alloc (.cells #[.int .i64 0] 3)).alloc (poolBox p A p.devs.length c)) := (((Below.refl _ w).alloc (Nat.le_refl _) _).alloc (by simp) _).alloc (by simp; omega) _
  have q4 : (((w.alloc (poolBox p A p.devs.length c)).alloc (.cells #[.int .i64 0] 3)).alloc (poolBox p A p.devs.length c)).heap.size = w.heap.size + 3 := by simp
  dsimp only [poolBox] at q1 q2 hB4 q4
  simp only [World.size_alloc] at q1 q2
  generalize ((w.alloc (.cells #[.int .i64 p.tx, .int .i64 p.time, .int .i64 p.unit, .int .i64 p.data, .slice A p.devs.length c] 31)).alloc (.cells #[.int .i64 0] 3)).alloc (.cells #[.int .i64 p.tx, .int .i64 p.time, .int .i64 p.unit, .int .i64 p.data, .slice A p.devs.length c] 31) = w4 at *
  have hS4 : ∀ b, S b → b < w4.heap.size := fun b hb => by have := hS b hb; omega
  refine wpIn_rangeFunc_ownH rfl (by omega) (gf := 42) (lb := #[.pointer (some ⟨w.heap.size + 1 + 1, 0, none⟩)]) rfl trivial (enters_of Try.func42 (by kernel_rfl) rfl)
      (maps_stops Fence.wide 2 trivial rfl (by omega) (w.heap.size + 1 + 1) S A c p.devs (fun _ => True) (fun _ _ => trivial) w4 hS4 (by omega) (fun k hk => by have := (hok.dev hk).2.2.2.2.2; omega) (by omega) q2.cells.2.2.2.2 (hr.keep rdev_stable (fun _ h => h) (keep_below hB4 hS)))
      kpM_t (fun W l o o' hl _ _ _ => kpM_b hS4 W l o' hl) (Below.refl _ _) (fun _ => rfl)
      (fun pre W => Boxed W (w.heap.size + 1) 3 (.int .i64 (maxT (pre.map (·.1)))) ∧ Below w.heap.size w W)
      (fun _ _ _ => False)
      (OwnFrom.and (Own.from (boxed_own _ _ _) _) (ownFrom_below (Nat.le_refl _) (by omega)))
      (fun _ _ _ _ _ hs _ _ => hs)
      ⟨q1, hB4⟩
      (fun x a' W => ∃ Bx, Bx ≠ w.heap.size + 1 ∧ Tri W Bx x.1.2 ∧ a' = { tmps := #[.agg #[.int .i64 p.tx, .int .i64 p.time, .int .i64 p.unit, .int .i64 p.data, .slice A p.devs.length c], .pointer (some ⟨w.heap.size, 0, none⟩), .int .i64 0, .pointer (some ⟨w.heap.size + 1, 0, none⟩), undef, .pointer (some ⟨Bx, 0, none⟩), .agg #[.int .i64 p.tx, .int .i64 p.time, .int .i64 p.unit, .int .i64 p.data, .slice A p.devs.length c], .func (.func 42) #[] #[.pointer (some ⟨w.heap.size + 1 + 1, 0, none⟩)], .int .i64 x.1.1, .agg #[.int .i64 x.1.2.v, .int .i64 x.1.2.b, .int .i64 x.1.2.t], undef, undef, undef, undef, undef], defers := [] })
      (fun x a' _ X Y row hs hg hr => by obtain ⟨Bx, h1, h2, h3⟩ := hs; exact ⟨Bx, h1, tri_own Bx x.1.2 () X Y row h2 hg (fun r e => (hr r e).2), h3⟩)
      ?assign ?body ?done ?stop
  case assign =>
    rintro l pre x W K ⟨hbW, hBW⟩ hK
    dsimp only [encP]
    have hsz := hBW.size
    have hl1 := hbW.lt
    gi_wp2
    exact hK _ _ ((KeepsOthers.alloc _ _).from _) ⟨keep_alloc (fun b hb => by have := hS b hb; omega) _, by simp⟩ ⟨hbW.alloc _, hBW.alloc hsz _⟩ ⟨W.heap.size, by omega, Tri.new W x.1.2, rfl⟩
  case body =>
    rintro l pre x a' W hl ⟨r, hr⟩ ⟨hbW, hBW⟩ ⟨Bx, hBx, hT, rfl⟩ hlt
    have e0 := hbW.cell
    obtain ⟨t0, t1, t2⟩ := hT.cell
    have HX := Lib.hid (maxT_snoc (pre.map (·.1)) x.1)
    generalize hmt : maxT (pre.map (·.1)) = mt at *
    have HMT := Lib.hid hmt
    clear hmt
    have e1 := hbW.frozen
    gi_wp2
    all_goals
      refine ⟨(KeepsOthers.setCell _ _ _).from _, ⟨keep_setCell (fun hs => by have := hS _ hs; simp only at this; omega) _, (KeepsOthers.setCell _ _ _).size⟩, ?_, hBW.setCell (by simp only; omega) _⟩
      rw [List.map_append, List.map_cons, List.map_nil, HX.out]
    · rw [show max mt x.1.2.t = x.1.2.t from by omega]; exact hbW.set _
    · rw [show max mt x.1.2.t = mt from by omega]; exact hbW.set _
  case done =>
    rintro D xs W hD hxs ⟨hbW, hBW⟩ hK
    have e0 := hbW.cell
    gi_wp2
    refine ⟨by simp, .inl ⟨_, _, rfl, run_takeDeferred hK, ?_⟩⟩
    refine ⟨_, results_tmp rfl _ _ _, ?_, ?_⟩
    · unfold Pool.latest; rw [← hxs]; rfl
    · exact hBW.grown (grownBy_putObj' W D _) (by have := hBW.size; omega) (fun k e => by cases e; omega)
  case stop =>
    rintro D c pre W _ _ h _
    exact h.elim

theorem maxT_upto {l : List Dev} {k j : Nat} (hj : j < (nth dev0 l k).maps.length) : maxT (upto l k (j + 1)) = max (maxT (upto l k j)) (nth mp0 (nth dev0 l k).maps j).t := by rw [upto_succ hj, maxT_snoc]

end Go.Proofs.Ytolpgblegbahgaa
