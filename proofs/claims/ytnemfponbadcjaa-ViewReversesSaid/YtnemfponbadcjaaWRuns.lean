/- runs.follows, the adder of runs.grower, runs.Of. Condition: the numbers are small. -/
import Derived.Test.YtnemfponbadcjaaProg
import Derived.Test.YtnemfponbadcjaaRunP
import Derived.Test.YtnemfponbadcjaaRegT
import Derived.Deep.QuietTactic
import Derived.BigQuiet
import Derived.IntWalk
import Derived.StillTailTactics
namespace Go.Proofs.Ytnemfponbadcjaa
open Go.RowKit
attribute [local go_sem] Oper.semAt_some

abbrev rnV (r : Rn) : Value := .agg #[.int .i64 r.v, .int .i64 r.b, .int .i64 r.n, .int .i64 r.t]
abbrev rnC (r : Rn) : Array Value := #[.int .i64 r.v, .int .i64 r.b, .int .i64 r.n, .int .i64 r.t]
set_option maxHeartbeats 800000 in
theorem follows_any (w : World) (p x : Rn) (hp : RnS 1099511627776 p) : Calls Try.prog 40 #[rnV p, rnV x] w fun e w' => e = .returned (.bool (folB p x)) ∧ Below w.heap.size w w' := by
  obtain ⟨p1, p2, p3, p4, p5, p6⟩ := hp
  have hB : Below w.heap.size w ((w.alloc (.cells (rnC p) 58)).alloc (.cells (rnC x) 58)) := ((Below.refl _ _).alloc (Nat.le_refl _) _).alloc (by simp) _
  by_cases h1 : p.v + p.n = x.v
  · have d1 : (p.v + p.n == x.v) = true := by simpa using h1
    by_cases h2 : p.b + p.n = x.b
    · have d2 : (p.b + p.n == x.b) = true := by simpa using h2
      have e : folB p x = decide (p.t = x.t) := by unfold folB; simp [h1, h2]
      have e2 : (p.t == x.t) = decide (p.t = x.t) := by rw [Bool.eq_iff_iff]; simp
      rw [e, ← e2]
      clear h1 h2 e e2
      go_enter Try.func40, Try.ntmps40
      go_wp2
      go_ret
      exact ⟨rfl, hB⟩
    · have d2 : (p.b + p.n == x.b) = false := by simpa using h2
      have e : folB p x = false := by unfold folB; simp [h2]
      rw [e]
      clear h1 h2 e
      go_enter Try.func40, Try.ntmps40
      go_wp2
      go_ret
      exact ⟨rfl, hB⟩
  · have d1 : (p.v + p.n == x.v) = false := by simpa using h1
    have e : folB p x = false := by unfold folB; simp [h1]
    rw [e]
    clear h1 e
    go_enter Try.func40, Try.ntmps40
    go_wp2
    go_ret
    exact ⟨rfl, hB⟩
/-- The captured variable 'out', in block ob, holds the runs l, in blocks behind it. -/
def RunsIs (w : World) (ob : Nat) (l : List Rn) : Prop := ∃ v, One w ob v 55 ∧ w.ownsRow (ob + 1) 58 4 v l.length (flats Rn.enc l)
theorem info_run : (Try.prog.info? 58).map (fun i => (i.zero, i.size, i.bytes)) = some (some (.agg #[.int .i64 0, .int .i64 0, .int .i64 0, .int .i64 0]), 4, 32) := by kernel_rfl
theorem elRn : Elem Try.prog 55 58 4 32 Rn.enc := ⟨Try.underlying55, ⟨_, info_run, rfl⟩, by omega, by omega, Rn.enc_len, Rn.enc_one⟩
theorem sz1 (w : World) (o : Obj) (n : Nat) : ((w.alloc o).drewN n).heap.size = w.heap.size + 1 := by
  show (w.alloc o).heap.size = _
  simp
theorem _root_.Go.World.ownsRow.below2 {w w' : World} {base e size k : Nat} {v : Value} {xs : List Value} (h : w.ownsRow base e size v k xs) (hB : Below w.heap.size w w') : w'.ownsRow base e size v k xs := by
  refine ⟨h.1, ?_⟩
  rcases h.2 with h2 | ⟨g', cap', cur, hv, hb, hg, rest⟩
  · exact .inl h2
  · exact .inr ⟨g', cap', cur, hv, hb, (hB.block g' (Array.getElem?_eq_some_iff.1 hg).1).trans hg, rest⟩
theorem box4 {w : World} {b : Nat} {x y z u : Value} {t : TypeId} (h : w.heap[b]? = some (.cells #[x, y, z, u] t (0, 0))) : w.cell? ⟨b, 0, none⟩ = some x ∧ w.cell? ⟨b, 1, none⟩ = some y ∧ w.cell? ⟨b, 2, none⟩ = some z ∧ w.cell? ⟨b, 3, none⟩ = some u := by
  simp [World.cell?, h]
theorem own_lowR {w : World} {base base' e size : Nat} {v : Value} {n : Nat} {xs : List Value} (h : w.ownsRow base e size v n xs) (hb : base' ≤ base) : w.ownsRow base' e size v n xs := by
  refine ⟨h.1, ?_⟩
  rcases h.2 with h2 | ⟨g, cap, cur, hv, hg, rest⟩
  · exact .inl h2
  · exact .inr ⟨g, cap, cur, hv, by omega, rest⟩
/-- The four cells of the last run. -/
theorem last4 {w : World} {base e g c : Nat} {i : List Rn} {p : Rn} (h : w.ownsRow base e 4 (.slice (some ⟨g, 0, none⟩) (i ++ [p]).length c) (i ++ [p]).length (flats Rn.enc (i ++ [p]))) :
    w.cell? ⟨g, i.length * 4, none⟩ = some (.int .i64 p.v) ∧ w.cell? ⟨g, i.length * 4 + 1, none⟩ = some (.int .i64 p.b) ∧ w.cell? ⟨g, i.length * 4 + 2, none⟩ = some (.int .i64 p.n) ∧ w.cell? ⟨g, i.length * 4 + 3, none⟩ = some (.int .i64 p.t) := by
  have hlen : (i ++ [p]).length = i.length + 1 := by simp
  have hget := fun j u (hj : j < 4) (hu : (Rn.enc p)[j]? = some u) => (h.cellAt (i.length * 4 + j) (by omega)).trans
      (flats_get Rn.enc_len (d := rn0) (i ++ [p]) i.length j u (by omega) (by rw [nth_append_len rn0 i [] p]; exact hu))
  exact ⟨hget 0 _ (by omega) rfl, hget 1 _ (by omega) rfl, hget 2 _ (by omega) rfl, hget 3 _ (by omega) rfl⟩
set_option maxRecDepth 100000 in
set_option maxHeartbeats 1600000 in
theorem adder_any (w : World) (ob : Nat) (l : List Rn) (x : Rn) (hl : l.length ≤ 1099511627776) (hs : ∀ r ∈ l, RnS 1099511627776 r) (hx : RnS 1099511627776 x) (h : RunsIs w ob l) :
    Calls Try.prog 39 #[rnV x, .pointer (some ⟨ob, 0, none⟩)] w fun e w' => e = .returned (.tuple #[]) ∧ RunsIs w' ob (addR l x) ∧ Below ob w w' := by
  obtain ⟨v, hob, h⟩ := h
  have hob0 := hob.cell
  have hobf := hob.free
  have hlt := hob.lt
  obtain ⟨x1, x2, x3, x4, x5, x6⟩ := hx
  rcases List.eq_nil_or_concat l with rfl | ⟨i, p, rfl⟩
  · obtain ⟨A, cap, rfl, _⟩ := own_form0 h
    have hal := (Below.refl w.heap.size w).alloc (Nat.le_refl _) (.cells (rnC x) 58)
    have h' := h.alloc (.cells (rnC x) 58)
    have hob' := hob.alloc (.cells (rnC x) 58)
    go_enter Try.func39, Try.ntmps39
    go_wp2_with fail
    go_quiet (fail)
    go_wp2_with (at_builtin; go_loud (refine wpList_append_one elRn rfl _ _ rfl (ob + 1) (.slice A 0 cap) 0 [] x rfl h' (by rw [sz1]; rfl) (by omega) (by rw [sz1]; omega) ?_); intro A' cap' w1 hown hg; have hg1 := grown_drewN hg; have ho1 := hob'.grown hg1 (own_ne h' (by omega)); have ho2 := ho1.cell; have ho3 := ho1.free)
    go_end0
    refine ⟨rfl, ⟨_, ho1.set_, ownsRow_setCell_below hown (by simp) _⟩, ?_⟩
    exact ((hal.mono (show ob ≤ w.heap.size by omega)).grown hg1 (by simp; omega) (fun k hk => by have := h.lt k hk; omega)).setCell (Nat.le_refl _) _
  · rw [List.concat_eq_append] at *
    have hlen : (i ++ [p]).length = i.length + 1 := by simp
    have hp := hs p (by simp)
    have hfo := fun w' => follows_any w' p x hp
    obtain ⟨p1, p2, p3, p4, p5, p6⟩ := hp
    clear hs
    have hm : i.length + 1 ≤ 1099511627776 := by omega
    obtain ⟨g, cap, rfl, hg1, hg2, hg3⟩ := own_form h (by omega)
    obtain ⟨w1, hw1⟩ : ∃ w1, w.alloc (.cells #[.int .i64 x.v, .int .i64 x.b, .int .i64 x.n, .int .i64 x.t] 58) = w1 := ⟨_, rfl⟩
    have hal : Below w.heap.size w w1 := by rw [← hw1]; exact (Below.refl w.heap.size w).alloc (Nat.le_refl _) _
    have h1 : w1.ownsRow (ob + 1) 58 4 (.slice (some ⟨g, 0, none⟩) (i ++ [p]).length cap) (i ++ [p]).length (flats Rn.enc (i ++ [p])) := by rw [← hw1]; exact h.alloc _
    have hob1 : One w1 ob (.slice (some ⟨g, 0, none⟩) (i ++ [p]).length cap) 55 := by rw [← hw1]; exact hob.alloc _
    have hbx : w1.heap[w.heap.size]? = some (.cells (rnC x) 58 (0, 0)) := by rw [← hw1]; exact heap_alloc_new w _
    have hs1 : w1.heap.size = w.heap.size + 1 := by rw [← hw1]; simp
    have hget := fun w' (hB : Below w1.heap.size w1 w') => (h1.below2 hB : w'.ownsRow (ob + 1) 58 4 (.slice (some ⟨g, 0, none⟩) (i ++ [p]).length cap) (i ++ [p]).length (flats Rn.enc (i ++ [p])))
    have HGET := Lib.hid (fun w' (hB : Below w1.heap.size w1 w') => last4 (hget w' hB))
    have HFRZ := Lib.hid (fun w' (hB : Below w1.heap.size w1 w') => (hget w' hB).frozenAt (i.length * 4 + 2))
    have HOB := Lib.hid (fun w' (hB : Below w1.heap.size w1 w') => (hob1.below hB hob1.lt).cell)
    have HOBF := Lib.hid (fun w' (hB : Below w1.heap.size w1 w') => (hob1.below hB hob1.lt).free)
    have HBX := Lib.hid (fun w' (hB : Below w1.heap.size w1 w') => box4 ((hB.block w.heap.size (by omega)).trans hbx))
    have HH1 := Lib.hid h1
    have HOB1 := Lib.hid hob1
    have HAL := Lib.hid hal
    have HW1 := Lib.hid hw1
    have hg2' : g < w1.heap.size := by omega
    have hob2 : ob < w1.heap.size := by omega
    clear hget h1 hob1 hbx hob hobf h hal hl hw1
    rw [hlen] at hg3 HOB HOB1 hob0
    rw [hlen] at HH1
    obtain ⟨m, hi0⟩ : ∃ m, i.length = m := ⟨_, rfl⟩
    rw [hi0] at hg3 hm HGET HFRZ HOB HOB1 HH1 hob0
    have HI := Lib.hid hi0
    clear hi0 hlen
    have e1 : ((m : Int) + 1 - 1) = (m : Int) := by omega
    have e2 : ((m : Int)).toNat = m := by omega
    have e3 : (m : Int) < ((m + 1 : Nat) : Int) := by omega
    have hg0 : decide ((m : Int) ≥ 0) = true := by simp
    have e4 : (m : Int) < (m : Int) + 1 := by omega
    cases hq : folB p x with
    | true =>
      rw [hq] at hfo
      have HQ := Lib.hid hq
      have HFO := Lib.hid hfo
      clear hq hfo
      go_enter Try.func39, Try.ntmps39
      go_wp2_with fail
      rw [HW1.out]
      refine wp_region_till (T := fun _ => false) (S := fun w' => Below w1.heap.size w1 w') (by kernel_rfl) (Below.refl w1.heap.size w1).drew (fun hHeld => ?_)
      have hkr : Below w1.heap.size w1 w1.drew := (Below.refl w1.heap.size w1).drew
      refine wpTill_put 0 7 (oi := _) (v := ?_) rfl rfl (by kernel_rfl) (by kernel_rfl) (by kernel_rfl) (by kernel_rfl) (fun _ _ _ h => h) (by rfl) hHeld ?_ ?_
      rotate_left
      · (intro w hSw; go_simp; (try with_reducible rfl))
      (try simp only [Act.put, List.setIfInBounds_toArray, List.set_cons_zero, List.set_cons_succ])
      refine wpTill_put 1 8 (oi := _) (v := ?_) rfl rfl (by kernel_rfl) (by kernel_rfl) (by kernel_rfl) (by kernel_rfl) (fun _ _ _ h => h) (by rfl) hHeld ?_ ?_
      rotate_left
      · (intro w hSw; go_simp; (try with_reducible rfl))
      (try simp only [Act.put, List.setIfInBounds_toArray, List.set_cons_zero, List.set_cons_succ])
      refine wpTill_put 2 9 (oi := _) (v := ?_) rfl rfl (by kernel_rfl) (by kernel_rfl) (by kernel_rfl) (by kernel_rfl) (fun _ _ _ h => h) (by rfl) hHeld ?_ ?_
      rotate_left
      · (intro w hSw; go_simp; (try with_reducible rfl))
      (try simp only [Act.put, List.setIfInBounds_toArray, List.set_cons_zero, List.set_cons_succ])
      refine wpTill_put 3 10 (oi := _) (v := ?_) rfl rfl (by kernel_rfl) (by kernel_rfl) (by kernel_rfl) (by kernel_rfl) (fun _ _ _ h => h) (by rfl) hHeld ?_ ?_
      rotate_left
      · (intro w hSw; have l0 := HOB.out _ hSw; go_simp; (try with_reducible rfl))
      (try simp only [Act.put, List.setIfInBounds_toArray, List.set_cons_zero, List.set_cons_succ])
      refine wpTill_put 4 11 (oi := _) (v := ?_) rfl rfl (by kernel_rfl) (by kernel_rfl) (by kernel_rfl) (by kernel_rfl) (fun _ _ _ h => h) (by rfl) hHeld ?_ ?_
      rotate_left
      · (intro w hSw; go_simp; (try with_reducible rfl))
      (try simp only [Act.put, List.setIfInBounds_toArray, List.set_cons_zero, List.set_cons_succ])
      refine wpTill_put 5 12 (oi := _) (v := ?_) rfl rfl (by kernel_rfl) (by kernel_rfl) (by kernel_rfl) (by kernel_rfl) (fun _ _ _ h => h) (by rfl) hHeld ?_ ?_
      rotate_left
      · (intro w hSw; go_simp; (try with_reducible rfl))
      (try simp only [Act.put, List.setIfInBounds_toArray, List.set_cons_zero, List.set_cons_succ])
      refine wpTill_put 6 13 (oi := _) (v := ?_) rfl rfl (by kernel_rfl) (by kernel_rfl) (by kernel_rfl) (by kernel_rfl) (fun _ _ _ h => h) (by rfl) hHeld ?_ ?_
      rotate_left
      · (intro w hSw; obtain ⟨l0, l1, l2, l3⟩ := HGET.out _ hSw; go_simp; (try with_reducible rfl))
      (try simp only [Act.put, List.setIfInBounds_toArray, List.set_cons_zero, List.set_cons_succ])
      refine wpTill_put 7 14 (oi := _) (v := ?_) rfl rfl (by kernel_rfl) (by kernel_rfl) (by kernel_rfl) (by kernel_rfl) (fun _ _ _ h => h) (by rfl) hHeld ?_ ?_
      rotate_left
      · (intro w hSw; obtain ⟨l0, l1, l2, l3⟩ := HBX.out _ hSw; go_simp; (try with_reducible rfl))
      (try simp only [Act.put, List.setIfInBounds_toArray, List.set_cons_zero, List.set_cons_succ])
      refine wpTill_one 8 (o := _) (by kernel_rfl) rfl (fun K hK => ?_)
      go_simp
      refine (HFO.out _).mono ?_
      rintro e w5 ⟨rfl, hB5⟩
      have hkr := hkr.trans (hB5.mono hkr.size)
      refine hK.out _ _ (fun _ => (Below.refl w1.heap.size w1).drew.trans (hB5.mono (Below.refl w1.heap.size w1).drew.size)) (fun _ => ?_)
      clear hK K hHeld
      (try simp only [Act.put, List.setIfInBounds_toArray, List.set_cons_zero, List.set_cons_succ])
      refine wpTill_more (S' := fun w' => Below w5.heap.size w5 w') (fun _ h => ((Below.refl w1.heap.size w1).drew.trans (hB5.mono (Below.refl w1.heap.size w1).drew.size)).trans (h.mono (hkr.size))) _ _ _ _ ?_
      have hHeld : (fun w' => Below w5.heap.size w5 w') w5 := Below.refl _ _
      refine wpTill_put 9 16 (oi := _) (v := ?_) rfl rfl (by kernel_rfl) (by kernel_rfl) (by kernel_rfl) (by kernel_rfl) (fun _ _ _ h => h) (by rfl) hHeld ?_ ?_
      rotate_left
      · (intro w hSw; go_simp; (try with_reducible rfl))
      (try simp only [Act.put, List.setIfInBounds_toArray, List.set_cons_zero, List.set_cons_succ])
      refine wpTill_done (by kernel_rfl) ?_ _
      have HK5 := Lib.hid hkr
      have hgn := HGET.out _ hkr
      obtain ⟨l0, l1, l2, l3⟩ := hgn
      have hwr : IntKind.i64.wrap (p.n + x.n) = p.n + x.n := IntWalk.i64_in _ (by omega)
      have f2 := HFRZ.out _ hkr
      have b0 := (HBX.out _ hkr).2.2.1
      have o0 := HOB.out _ hkr
      have hg5 : g < w5.heap.size := Nat.lt_of_lt_of_le hg2' hkr.size
      go_wp2_with fail
      go_still_tail 10, (by kernel_rfl)
      go_wp2_with fail
      refine bodyPost_ret (results_none rfl _ _ _) rfl ?_
      rw [addR_hit i p x HQ.out]
      have hst := World.ownsRow.stored (w := w5.drew) (HH1.out.below2 hkr.drew) (m * 4 + 2) (.int .i64 (p.n + x.n))
      rw [← HI.out, flats_setN, HI.out] at hst
      refine ⟨rfl, ⟨_, ((HOB1.out.below hkr hob2).drewN 1).far (p := ⟨g, m * 4 + 2, none⟩) (by simp; omega), ?_⟩, ?_⟩
      · rw [List.length_append, HI.out]; exact hst.1
      · exact ((HAL.out.mono (show ob ≤ w.heap.size by omega)).trans (HK5.out.mono (by omega))).grown (grown_drewN (n := 1) hst.2) (by omega) (fun k hk => by cases hk; omega)
    | false =>
      rw [hq] at hfo
      have HQ := Lib.hid hq
      have HFO := Lib.hid hfo
      clear hq hfo
      go_enter Try.func39, Try.ntmps39
      go_wp2_with fail
      rw [HW1.out]
      refine wp_region_till (T := fun _ => false) (S := fun w' => Below w1.heap.size w1 w') (by kernel_rfl) (Below.refl w1.heap.size w1).drew (fun hHeld => ?_)
      have hkr : Below w1.heap.size w1 w1.drew := (Below.refl w1.heap.size w1).drew
      refine wpTill_put 0 7 (oi := _) (v := ?_) rfl rfl (by kernel_rfl) (by kernel_rfl) (by kernel_rfl) (by kernel_rfl) (fun _ _ _ h => h) (by rfl) hHeld ?_ ?_
      rotate_left
      · (intro w hSw; go_simp; (try with_reducible rfl))
      (try simp only [Act.put, List.setIfInBounds_toArray, List.set_cons_zero, List.set_cons_succ])
      refine wpTill_put 1 8 (oi := _) (v := ?_) rfl rfl (by kernel_rfl) (by kernel_rfl) (by kernel_rfl) (by kernel_rfl) (fun _ _ _ h => h) (by rfl) hHeld ?_ ?_
      rotate_left
      · (intro w hSw; go_simp; (try with_reducible rfl))
      (try simp only [Act.put, List.setIfInBounds_toArray, List.set_cons_zero, List.set_cons_succ])
      refine wpTill_put 2 9 (oi := _) (v := ?_) rfl rfl (by kernel_rfl) (by kernel_rfl) (by kernel_rfl) (by kernel_rfl) (fun _ _ _ h => h) (by rfl) hHeld ?_ ?_
      rotate_left
      · (intro w hSw; go_simp; (try with_reducible rfl))
      (try simp only [Act.put, List.setIfInBounds_toArray, List.set_cons_zero, List.set_cons_succ])
      refine wpTill_put 3 10 (oi := _) (v := ?_) rfl rfl (by kernel_rfl) (by kernel_rfl) (by kernel_rfl) (by kernel_rfl) (fun _ _ _ h => h) (by rfl) hHeld ?_ ?_
      rotate_left
      · (intro w hSw; have l0 := HOB.out _ hSw; go_simp; (try with_reducible rfl))
      (try simp only [Act.put, List.setIfInBounds_toArray, List.set_cons_zero, List.set_cons_succ])
      refine wpTill_put 4 11 (oi := _) (v := ?_) rfl rfl (by kernel_rfl) (by kernel_rfl) (by kernel_rfl) (by kernel_rfl) (fun _ _ _ h => h) (by rfl) hHeld ?_ ?_
      rotate_left
      · (intro w hSw; go_simp; (try with_reducible rfl))
      (try simp only [Act.put, List.setIfInBounds_toArray, List.set_cons_zero, List.set_cons_succ])
      refine wpTill_put 5 12 (oi := _) (v := ?_) rfl rfl (by kernel_rfl) (by kernel_rfl) (by kernel_rfl) (by kernel_rfl) (fun _ _ _ h => h) (by rfl) hHeld ?_ ?_
      rotate_left
      · (intro w hSw; go_simp; (try with_reducible rfl))
      (try simp only [Act.put, List.setIfInBounds_toArray, List.set_cons_zero, List.set_cons_succ])
      refine wpTill_put 6 13 (oi := _) (v := ?_) rfl rfl (by kernel_rfl) (by kernel_rfl) (by kernel_rfl) (by kernel_rfl) (fun _ _ _ h => h) (by rfl) hHeld ?_ ?_
      rotate_left
      · (intro w hSw; obtain ⟨l0, l1, l2, l3⟩ := HGET.out _ hSw; go_simp; (try with_reducible rfl))
      (try simp only [Act.put, List.setIfInBounds_toArray, List.set_cons_zero, List.set_cons_succ])
      refine wpTill_put 7 14 (oi := _) (v := ?_) rfl rfl (by kernel_rfl) (by kernel_rfl) (by kernel_rfl) (by kernel_rfl) (fun _ _ _ h => h) (by rfl) hHeld ?_ ?_
      rotate_left
      · (intro w hSw; obtain ⟨l0, l1, l2, l3⟩ := HBX.out _ hSw; go_simp; (try with_reducible rfl))
      (try simp only [Act.put, List.setIfInBounds_toArray, List.set_cons_zero, List.set_cons_succ])
      refine wpTill_one 8 (o := _) (by kernel_rfl) rfl (fun K hK => ?_)
      go_simp
      refine (HFO.out _).mono ?_
      rintro e w5 ⟨rfl, hB5⟩
      have hkr := hkr.trans (hB5.mono hkr.size)
      refine hK.out _ _ (fun _ => (Below.refl w1.heap.size w1).drew.trans (hB5.mono (Below.refl w1.heap.size w1).drew.size)) (fun _ => ?_)
      clear hK K hHeld
      (try simp only [Act.put, List.setIfInBounds_toArray, List.set_cons_zero, List.set_cons_succ])
      refine wpTill_more (S' := fun w' => Below w5.heap.size w5 w') (fun _ h => ((Below.refl w1.heap.size w1).drew.trans (hB5.mono (Below.refl w1.heap.size w1).drew.size)).trans (h.mono (hkr.size))) _ _ _ _ ?_
      have hHeld : (fun w' => Below w5.heap.size w5 w') w5 := Below.refl _ _
      refine wpTill_put 9 16 (oi := _) (v := ?_) rfl rfl (by kernel_rfl) (by kernel_rfl) (by kernel_rfl) (by kernel_rfl) (fun _ _ _ h => h) (by rfl) hHeld ?_ ?_
      rotate_left
      · (intro w hSw; go_simp; (try with_reducible rfl))
      (try simp only [Act.put, List.setIfInBounds_toArray, List.set_cons_zero, List.set_cons_succ])
      refine wpTill_done (by kernel_rfl) ?_ _
      have HK5 := Lib.hid hkr
      obtain ⟨b0, b1, b2, b3⟩ := HBX.out _ hkr
      have o0 := HOB.out _ hkr
      have h5 := HH1.out.below2 hkr
      have hob5 := HOB1.out.below hkr hob2
      have hz5 : ob + 1 ≤ w5.heap.size := by have := HK5.out.size; omega
      go_wp2_with (at_builtin; go_loud (refine wpList_append_one elRn rfl _ _ rfl (ob + 1) (.slice (some ⟨g, 0, none⟩) (m + 1) cap) (m + 1) (i ++ [p]) x rfl h5 rfl (by omega) hz5 ?_); intro A' cap' w6 hown hg; have ho1 := hob5.grown hg (own_ne h5 (by omega)); have ho2 := ho1.cell; have ho3 := ho1.free)
      go_end0
      rw [addR_miss i p x HQ.out]
      refine ⟨rfl, ⟨_, ho1.set_, ?_⟩, ?_⟩
      · rw [List.length_append, List.length_append, HI.out]; exact ownsRow_setCell_below hown (by simp) _
      · exact ((((HAL.out.mono (show ob ≤ w.heap.size by omega)).trans (HK5.out.mono (by omega))).grown hg (by omega) (fun k hk => by have := h5.lt k hk; omega))).setCell (Nat.le_refl _) _
theorem grower_any (w : World) : Calls Try.prog 27 #[] w fun e w' => e = .returned (.tuple #[.func (.func 39) #[] #[.pointer (some ⟨w.heap.size, 0, none⟩)], .func (.func 41) #[] #[.pointer (some ⟨w.heap.size, 0, none⟩)]]) ∧ w' = w.alloc (.cells #[.slice none 0 0] 55) := by
  go_enter Try.func27, Try.ntmps27
  go_wp2
  go_ret2
  exact ⟨rfl, rfl⟩
theorem told_any (w : World) (ob : Nat) (v : Value) (h : w.cell? ⟨ob, 0, none⟩ = some v) : Calls Try.prog 41 #[.pointer (some ⟨ob, 0, none⟩)] w fun e w' => e = .returned v ∧ w = w' := by
  go_enter Try.func41, Try.ntmps41
  go_wp2
  go_ret
  exact ⟨rfl, rfl⟩
/-- A mapping whose numbers are small. -/
def MpS (m : Mp) : Prop := -4611686018427387904 ≤ m.v ∧ m.v ≤ 4611686018427387904 ∧ -4611686018427387904 ≤ m.b ∧ m.b ≤ 4611686018427387904
def OfIs (l : List Mp) (w : World) (e : Ending) (w' : World) : Prop := ∃ A n c, n = (runsOf l).length ∧ e = .returned (.slice A n c) ∧ w'.ownsRow w.heap.size 58 4 (.slice A n c) n (flats Rn.enc (runsOf l)) ∧ Below w.heap.size w w'
set_option maxRecDepth 100000 in
set_option maxHeartbeats 1600000 in
theorem runsOf_any (w : World) (S : Nat → Prop) (v : Value) (l : List Mp) (hS : ∀ b, S b → b < w.heap.size) (h : IsMaps w S v l) (hl1 : l.length ≤ 1099511627776) (hs : ∀ m ∈ l, MpS m) :
    Calls Try.prog 14 #[v] w (OfIs l w) := by
  obtain ⟨A, c, rfl, hc, hr⟩ := h
  have HC := Lib.hid (fun hp => maps_cells hr hp)
  have HSM := Lib.hid (runsOf_small (l := l) hs)
  have HMS := Lib.hid (fun k hk => hs (nth mp0 l k) (nth_mem mp0 l k hk))
  have HRT := Lib.hid (runsOf_take l)
  have HR0 := Lib.hid (show runsOf (l.take 0) = [] from rfl)
  have HRD := Lib.hid (show runsOf (l.take l.length) = runsOf l by rw [List.take_length])
  have hB0 : Below w.heap.size w (w.alloc (.cells #[.slice none 0 0] 55)) := (Below.refl _ _).alloc (Nat.le_refl _) _
  have ho0 : RunsIs (w.alloc (.cells #[.slice none 0 0] 55)) w.heap.size [] := ⟨_, One.new _ _ _, World.ownsRow_nil _ _ _ _⟩
  have HB0 := Lib.hid hB0
  have HO0 := Lib.hid ho0
  unfold OfIs
  obtain ⟨res, hres⟩ : ∃ r, r = runsOf l := ⟨_, rfl⟩
  rw [← hres] at HRD ⊢
  clear hr hs hB0 ho0 hres
  generalize hnn : l.length = n at *
  go_enter Try.func14, Try.ntmps14
  go_wp2_with (go_at_call 27; refine (grower_any _).mono ?_; rintro e w1 ⟨rfl, rfl⟩)
  go_loopw [13] (fun i wr => ∃ k : Nat, i = .int .i64 k ∧ k ≤ n ∧ RunsIs wr w.heap.size (runsOf (l.take k)) ∧ Below w.heap.size w wr) (fun i _ => n - (intOf i).toNat)
  case atStart => exact ⟨0, rfl, by omega, by rw [HR0.out]; exact HO0.out, HB0.out⟩
  case round =>
    obtain ⟨k, rfl, hk, hrow, hB⟩ := hrel
    have hz := hB.size
    by_cases hlt : k < n
    · have hki : (k : Int) < (n : Int) := by omega
      obtain ⟨g, off, rfl, hbS, hcl⟩ := HC.out (by omega)
      have hb0 := hS g hbS
      obtain ⟨c0, c1, c2⟩ := hcl k (by omega)
      rw [← hB.cell (p := ⟨g, off + k * 3, none⟩) hb0] at c0
      rw [← hB.cell (p := ⟨g, off + k * 3 + 1, none⟩) hb0] at c1
      rw [← hB.cell (p := ⟨g, off + k * 3 + 2, none⟩) hb0] at c2
      obtain ⟨s1, s2⟩ := HSM.out k (by omega)
      have hm := HMS.out k (by omega)
      have hrt := HRT.out k (by omega)
      have hal := (Below.refl wr.heap.size wr).alloc (Nat.le_refl _) (.cells #[.int .i64 (nth mp0 l k).v, .int .i64 (nth mp0 l k).b, .int .i64 (nth mp0 l k).t] 54)
      have hro : RunsIs (wr.alloc (.cells #[.int .i64 (nth mp0 l k).v, .int .i64 (nth mp0 l k).b, .int .i64 (nth mp0 l k).t] 54)) w.heap.size (runsOf (l.take k)) := by
        obtain ⟨v, h1, h2⟩ := hrow
        exact ⟨v, h1.alloc _, h2.alloc _⟩
      have had := adder_any _ w.heap.size _ (oneR (nth mp0 l k)) (by omega) (fun r hr => by have := s1 r hr; exact ⟨this.1, this.2.1, this.2.2.1, this.2.2.2.1, this.2.2.2.2.1, by have := this.2.2.2.2.2; omega⟩) ⟨hm.1, hm.2.1, hm.2.2.1, hm.2.2.2, by simp [oneR], by simp [oneR]⟩ hro
      rw [← hrt] at had
      have HAD := Lib.hid had
      have HAL := Lib.hid hal
      clear had hal hro hrt hm s1 s2 hcl hrow
      unfold rnV oneR at HAD
      generalize nth mp0 l k = y at *
      go_wp2_with (go_at_call 39; refine HAD.out.mono ?_; rintro e w5 ⟨rfl, hr5, hB5⟩)
      go_roundw
      case rel => exact ⟨k + 1, by go_num, by omega, hr5, hB.trans ((HAL.out.mono hz).trans hB5)⟩
      case measure => simp [intOf]; omega
    · obtain rfl : k = n := by omega
      rw [HRD.out] at hrow
      obtain ⟨v, h1, h2⟩ := hrow
      obtain ⟨A', c', rfl, _⟩ := own_form0 h2
      have H1 := Lib.hid h1
      have H2 := Lib.hid h2
      have h1c := h1.cell
      clear h1 h2
      go_wp2_with (go_at_call 41; refine (told_any _ _ _ h1c).mono ?_; rintro e w5 ⟨rfl, rfl⟩)
      go_ret
      exact ⟨A', _, c', rfl, rfl, own_lowR H2.out (by omega), hB⟩
end Go.Proofs.Ytnemfponbadcjaa
