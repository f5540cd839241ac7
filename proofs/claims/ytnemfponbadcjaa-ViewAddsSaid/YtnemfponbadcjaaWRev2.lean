/- view.Reverse's order, slices.SortFunc by it. No condition. -/
import Derived.Test.YtnemfponbadcjaaWRev1
import Derived.Test.YtnemfponbadcjaaSortL
namespace Go.Proofs.Ytnemfponbadcjaa
open Go.RowKit Go.Shelf Go.Sort
attribute [local go_sem] Oper.semAt_some

theorem three_ints {w : World} {S : Nat → Prop} {G : Nat} {x y z : Int} {t : TypeId} (hblk : w.heap[G]? = some (.cells #[.int .i64 x, .int .i64 y, .int .i64 z] t (0, 0))) (hG : S G) : IsInts w S (.slice (some ⟨G, 0, none⟩) 3 3) [x, y, z] := by
  refine ⟨some ⟨G, 0, none⟩, 3, rfl, by simp, fun _ => ⟨G, 0, rfl, hG, fun i hi => ?_⟩⟩
  have h2 : i = 0 ∨ i = 1 ∨ i = 2 := by simp at hi; omega
  rcases h2 with rfl | rfl | rfl
  · exact ⟨[.int .i64 x], rfl, rfl, fun j u hu => by
      match j, hu with
      | 0, hu => simp at hu; subst hu; simp [World.cell?, hblk]⟩
  · exact ⟨[.int .i64 y], rfl, rfl, fun j u hu => by
      match j, hu with
      | 0, hu => simp at hu; subst hu; simp [World.cell?, hblk]⟩
  · exact ⟨[.int .i64 z], rfl, rfl, fun j u hu => by
      match j, hu with
      | 0, hu => simp at hu; subst hu; simp [World.cell?, hblk]⟩
theorem grow_end (w : World) (o1 o2 o3 : Obj) : ∃ q os', ((w.alloc o1).alloc o2).drew.alloc o3 = grow (w.drewN q) os' := by
  refine ⟨1, #[o1] ++ #[o2] ++ #[o3], ?_⟩
  rw [alloc_eq_grow, alloc_eq_grow, alloc_eq_grow, grow_grow]
  show grow (grow (w.drewN 1) (#[o1] ++ #[o2])) #[o3] = _
  exact grow_grow _ _ _
set_option maxHeartbeats 1600000 in
theorem revCmp_any (w : World) (x y : Bk) : Calls Try.prog 17 #[.agg (bkC x), .agg (bkC y)] w fun e w' => e = .returned (.int .i64 (cfB x y)) ∧ ∃ q os', w' = grow (w.drewN q) os' := by
  have hc1 := fun w' => cmp_any w' x.b y.b
  have hc2 := fun w' => cmp_any w' x.id y.id
  have hc3 := fun w' => cmp_any w' x.v y.v
  obtain ⟨r, hr⟩ : ∃ r, cfB x y = r := ⟨_, rfl⟩
  have HR := Lib.hid (show orL [cmpI x.b y.b, cmpI x.id y.id, cmpI x.v y.v] = r from hr)
  rw [hr]
  clear hr
  generalize cmpI x.b y.b = c1 at *
  generalize cmpI x.id y.id = c2 at *
  generalize cmpI x.v y.v = c3 at *
  obtain ⟨w1, hw1⟩ : ∃ w1, (w.alloc (.cells #[.int .i64 x.b, .int .i64 x.n, .int .i64 x.id, .int .i64 x.v] 36)).alloc (.cells #[.int .i64 y.b, .int .i64 y.n, .int .i64 y.id, .int .i64 y.v] 36) = w1 := ⟨_, rfl⟩
  have HX := Lib.hid (fun w' (hB : Below w1.heap.size w1 w') => box4 ((hB.block w.heap.size (by rw [← hw1]; simp; omega)).trans (by rw [← hw1]; exact (Below.heap_alloc _ _ _ (by simp)).trans (heap_alloc_new w _))))
  have HY := Lib.hid (fun w' (hB : Below w1.heap.size w1 w') => box4 ((hB.block (w.heap.size + 1) (by rw [← hw1]; simp)).trans (by rw [← hw1]; have := heap_alloc_new (w.alloc (.cells #[.int .i64 x.b, .int .i64 x.n, .int .i64 x.id, .int .i64 x.v] 36)) (.cells #[.int .i64 y.b, .int .i64 y.n, .int .i64 y.id, .int .i64 y.v] 36); rwa [World.size_alloc] at this)))
  have HC1 := Lib.hid hc1
  have HC2 := Lib.hid hc2
  have HC3 := Lib.hid hc3
  have HW1 := Lib.hid hw1
  clear hc1 hc2 hc3 hw1
  go_enter Try.func17, Try.ntmps17
  go_wp2_with fail
  rw [HW1.out]
  refine wp_region_till (T := fun _ => false) (S := fun w' => Below w1.heap.size w1 w') (by kernel_rfl) (Below.refl w1.heap.size w1).drew (fun hHeld => ?_)
  have hkr : Below w1.heap.size w1 w1.drew := (Below.refl w1.heap.size w1).drew
  refine wpTill_put 0 5 (oi := _) (v := ?_) rfl rfl (by kernel_rfl) (by kernel_rfl) (by kernel_rfl) (by kernel_rfl) (fun _ _ _ h => h) (by rfl) hHeld ?_ ?_
  rotate_left
  · (intro w hSw; go_simp; (try with_reducible rfl))
  (try simp only [Act.put, List.setIfInBounds_toArray, List.set_cons_zero, List.set_cons_succ])
  refine wpTill_put 1 6 (oi := _) (v := ?_) rfl rfl (by kernel_rfl) (by kernel_rfl) (by kernel_rfl) (by kernel_rfl) (fun _ _ _ h => h) (by rfl) hHeld ?_ ?_
  rotate_left
  · (intro w hSw; obtain ⟨l0, l1, l2, l3⟩ := HX.out _ hSw; go_simp; (try with_reducible rfl))
  (try simp only [Act.put, List.setIfInBounds_toArray, List.set_cons_zero, List.set_cons_succ])
  refine wpTill_put 2 7 (oi := _) (v := ?_) rfl rfl (by kernel_rfl) (by kernel_rfl) (by kernel_rfl) (by kernel_rfl) (fun _ _ _ h => h) (by rfl) hHeld ?_ ?_
  rotate_left
  · (intro w hSw; go_simp; (try with_reducible rfl))
  (try simp only [Act.put, List.setIfInBounds_toArray, List.set_cons_zero, List.set_cons_succ])
  refine wpTill_put 3 8 (oi := _) (v := ?_) rfl rfl (by kernel_rfl) (by kernel_rfl) (by kernel_rfl) (by kernel_rfl) (fun _ _ _ h => h) (by rfl) hHeld ?_ ?_
  rotate_left
  · (intro w hSw; obtain ⟨l0, l1, l2, l3⟩ := HY.out _ hSw; go_simp; (try with_reducible rfl))
  (try simp only [Act.put, List.setIfInBounds_toArray, List.set_cons_zero, List.set_cons_succ])
  refine wpTill_put 5 10 (oi := _) (v := ?_) rfl rfl (by kernel_rfl) (by kernel_rfl) (by kernel_rfl) (by kernel_rfl) (fun _ _ _ h => h) (by rfl) hHeld ?_ ?_
  rotate_left
  · (intro w hSw; go_simp; (try with_reducible rfl))
  (try simp only [Act.put, List.setIfInBounds_toArray, List.set_cons_zero, List.set_cons_succ])
  refine wpTill_put 6 11 (oi := _) (v := ?_) rfl rfl (by kernel_rfl) (by kernel_rfl) (by kernel_rfl) (by kernel_rfl) (fun _ _ _ h => h) (by rfl) hHeld ?_ ?_
  rotate_left
  · (intro w hSw; obtain ⟨l0, l1, l2, l3⟩ := HX.out _ hSw; go_simp; (try with_reducible rfl))
  (try simp only [Act.put, List.setIfInBounds_toArray, List.set_cons_zero, List.set_cons_succ])
  refine wpTill_put 7 12 (oi := _) (v := ?_) rfl rfl (by kernel_rfl) (by kernel_rfl) (by kernel_rfl) (by kernel_rfl) (fun _ _ _ h => h) (by rfl) hHeld ?_ ?_
  rotate_left
  · (intro w hSw; go_simp; (try with_reducible rfl))
  (try simp only [Act.put, List.setIfInBounds_toArray, List.set_cons_zero, List.set_cons_succ])
  refine wpTill_put 8 13 (oi := _) (v := ?_) rfl rfl (by kernel_rfl) (by kernel_rfl) (by kernel_rfl) (by kernel_rfl) (fun _ _ _ h => h) (by rfl) hHeld ?_ ?_
  rotate_left
  · (intro w hSw; obtain ⟨l0, l1, l2, l3⟩ := HY.out _ hSw; go_simp; (try with_reducible rfl))
  (try simp only [Act.put, List.setIfInBounds_toArray, List.set_cons_zero, List.set_cons_succ])
  refine wpTill_put 10 15 (oi := _) (v := ?_) rfl rfl (by kernel_rfl) (by kernel_rfl) (by kernel_rfl) (by kernel_rfl) (fun _ _ _ h => h) (by rfl) hHeld ?_ ?_
  rotate_left
  · (intro w hSw; go_simp; (try with_reducible rfl))
  (try simp only [Act.put, List.setIfInBounds_toArray, List.set_cons_zero, List.set_cons_succ])
  refine wpTill_put 11 16 (oi := _) (v := ?_) rfl rfl (by kernel_rfl) (by kernel_rfl) (by kernel_rfl) (by kernel_rfl) (fun _ _ _ h => h) (by rfl) hHeld ?_ ?_
  rotate_left
  · (intro w hSw; obtain ⟨l0, l1, l2, l3⟩ := HX.out _ hSw; go_simp; (try with_reducible rfl))
  (try simp only [Act.put, List.setIfInBounds_toArray, List.set_cons_zero, List.set_cons_succ])
  refine wpTill_put 12 17 (oi := _) (v := ?_) rfl rfl (by kernel_rfl) (by kernel_rfl) (by kernel_rfl) (by kernel_rfl) (fun _ _ _ h => h) (by rfl) hHeld ?_ ?_
  rotate_left
  · (intro w hSw; go_simp; (try with_reducible rfl))
  (try simp only [Act.put, List.setIfInBounds_toArray, List.set_cons_zero, List.set_cons_succ])
  refine wpTill_put 13 18 (oi := _) (v := ?_) rfl rfl (by kernel_rfl) (by kernel_rfl) (by kernel_rfl) (by kernel_rfl) (fun _ _ _ h => h) (by rfl) hHeld ?_ ?_
  rotate_left
  · (intro w hSw; obtain ⟨l0, l1, l2, l3⟩ := HY.out _ hSw; go_simp; (try with_reducible rfl))
  (try simp only [Act.put, List.setIfInBounds_toArray, List.set_cons_zero, List.set_cons_succ])
  refine wpTill_one 4 (o := _) (by kernel_rfl) rfl (fun K hK => ?_)
  go_simp
  refine (HC1.out _).mono ?_
  rintro e w5 ⟨rfl, rfl⟩
  refine hK.out _ _ (fun _ => hHeld) (fun _ => ?_)
  clear hK K
  (try simp only [Act.put, List.setIfInBounds_toArray, List.set_cons_zero, List.set_cons_succ])
  refine wpTill_one 9 (o := _) (by kernel_rfl) rfl (fun K hK => ?_)
  go_simp
  refine (HC2.out _).mono ?_
  rintro e w5 ⟨rfl, rfl⟩
  refine hK.out _ _ (fun _ => hHeld) (fun _ => ?_)
  clear hK K
  (try simp only [Act.put, List.setIfInBounds_toArray, List.set_cons_zero, List.set_cons_succ])
  refine wpTill_one 14 (o := _) (by kernel_rfl) rfl (fun K hK => ?_)
  go_simp
  refine (HC3.out _).mono ?_
  rintro e w5 ⟨rfl, rfl⟩
  refine hK.out _ _ (fun _ => hHeld) (fun _ => ?_)
  clear hK K
  (try simp only [Act.put, List.setIfInBounds_toArray, List.set_cons_zero, List.set_cons_succ])
  obtain ⟨w6, hw6⟩ : ∃ x, w1.drew.alloc (.cells #[.int .i64 c1, .int .i64 c2, .int .i64 c3] 3) = x := ⟨_, rfl⟩
  have hBw6 : Below w1.drew.heap.size w1.drew w6 := by rw [← hw6]; exact (Below.refl _ _).alloc (Nat.le_refl _) _
  have hkr := hkr.trans (hBw6.mono hkr.size)
  refine wpTill_one 15 (o := _) (by kernel_rfl) rfl (fun K hK => ?_)
  go_simp
  (try rw [hw6])
  have hii := three_ints (w := w6) (S := fun _ => True) (G := w1.heap.size) (t := 3) (by rw [← hw6]; exact heap_alloc_new _ _) trivial
  refine hK.out _ _ (fun _ => (Below.refl w1.heap.size w1).drew.trans (hBw6.mono (Below.refl w1.heap.size w1).drew.size)) (fun _ => ?_)
  clear hK K hHeld
  (try simp only [Act.put, List.setIfInBounds_toArray, List.set_cons_zero, List.set_cons_succ])
  refine wpTill_more (S' := fun w' => Below w6.heap.size w6 w') (fun _ h => ((Below.refl w1.heap.size w1).drew.trans (hBw6.mono (Below.refl w1.heap.size w1).drew.size)).trans (h.mono (hkr.size))) _ _ _ _ ?_
  have hHeld : (fun w' => Below w6.heap.size w6 w') w6 := Below.refl _ _
  refine wpTill_one 16 (o := _) (by kernel_rfl) rfl (fun K hK => ?_)
  go_simp
  refine (or_any _ _ _ _ hii (by simp)).mono ?_
  rintro e w7 ⟨rfl, rfl⟩
  refine hK.out _ _ (fun _ => hHeld) (fun _ => ?_)
  clear hK K
  (try simp only [Act.put, List.setIfInBounds_toArray, List.set_cons_zero, List.set_cons_succ])
  refine wpTill_put 17 4 (oi := _) (v := ?_) rfl rfl (by kernel_rfl) (by kernel_rfl) (by kernel_rfl) (by kernel_rfl) (fun _ _ _ h => h) (by rfl) hHeld ?_ ?_
  rotate_left
  · (intro w hSw; go_simp; (try with_reducible rfl))
  (try simp only [Act.put, List.setIfInBounds_toArray, List.set_cons_zero, List.set_cons_succ])
  refine wpTill_done (by kernel_rfl) ?_ _
  go_wp2_with fail
  go_ret
  refine ⟨by rw [HR.out]; rfl, ?_⟩
  rw [← hw6, ← HW1.out]
  exact grow_end _ _ _ _
instance : Inhabited Bk := ⟨bk0⟩
theorem info_bk : (Try.prog.info? 36).map (fun i => (i.zero, i.size, i.bytes)) = some (some (.agg #[.int .i64 0, .int .i64 0, .int .i64 0, .int .i64 0]), 4, 32) := by kernel_rfl
theorem elBk : Elem Try.prog 27 36 4 32 Bk.enc := ⟨Try.underlying27, ⟨_, info_bk, rfl⟩, by omega, by omega, Bk.enc_len, Bk.enc_one⟩
theorem rev_lays (w : World) (blk off size : Nat) : CmpLays Try.prog 17 #[] Bk.enc 4 cfB blk off size w := fun _ _ _ _ x y => revCmp_any _ x y
def SortBIs (l : List Bk) (base : Nat) (A : Option Addr) (n c : Nat) (w : World) (e : Ending) (w' : World) : Prop :=
  ∃ l', l'.Perm l ∧ l'.Pairwise (fun x y => aheadB y x = false) ∧ e = .returned (.tuple #[]) ∧ w'.ownsRow base 36 4 (.slice A n c) n (flats Bk.enc l') ∧ RowKit.Below base w w'
theorem sortB_any (w : World) (base : Nat) (A : Option Addr) (n c : Nat) (l : List Bk) (hown : w.ownsRow base 36 4 (.slice A n c) n (flats Bk.enc l)) (hl : l.length = n) (hn : n < 4611686018427387904) :
    Calls Try.prog 16 #[.slice A n c, .func (.func 17) #[] #[]] w (SortBIs l base A n c w) := by
  rcases Nat.eq_zero_or_pos n with h0 | h0
  · subst h0
    obtain rfl : l = [] := List.eq_nil_of_length_eq_zero hl
    have h := AnyF.slices_SortFunc_none sortBacks A c (.func (.func 17) #[] #[]) w
    refine Calls.mono (show Calls Try.prog 16 _ _ _ from h) ?_
    rintro e w' ⟨rfl, rfl⟩
    exact ⟨[], List.Perm.refl _, List.Pairwise.nil, rfl, hown, RowKit.Below.refl _ _⟩
  · obtain ⟨g, cap, hv, hg1, hg2, _⟩ := own_form hown h0
    injection hv with e1 e2 e3
    subst e1 e3
    have hsw : SWO (ltOf cfB) := by
      have : ltOf cfB = aheadB := by funext x y; exact ltB x y
      rw [this]; exact swoB
    have h := AnyQ.slices_SortFunc sortBacks 4 Try.isAgg36 Try.sizeOf36 Bk.enc Bk.enc_len Bk.enc_one cfB hsw 17 #[] g 0 c l.toArray w (enters_of Try.func17 (by kernel_rfl) rfl) (rev_lays w g 0 _) (own_holdsG bk0 Bk.enc_len (by omega) hown) hg2 (by simpa [hl] using hn)
    have h2 : Calls Try.prog 16 #[.slice (some ⟨g, 0, none⟩) l.toArray.size c, .func (.func 17) #[] #[]] w _ := h
    rw [List.size_toArray, hl] at h2
    refine h2.mono ?_
    rintro e w' ⟨rfl, d', m, os, hp, hs, rfl⟩
    obtain ⟨l', rfl⟩ : ∃ l', d' = l'.toArray := ⟨d'.toList, by simp⟩
    obtain ⟨p1, _, p3⟩ := hp
    simp only [List.size_toArray] at p1
    have hl' : l'.length = n := by omega
    obtain ⟨o1, o2⟩ := own_sortedG bk0 Bk.enc_len (by omega) (l' := l') hown hl' m os
    refine ⟨l', ?_, ?_, rfl, o1, o2⟩
    · rw [← hl] at p3
      simpa [List.take_of_length_le, hl, hl'] using p3
    · rw [List.pairwise_iff_getElem]
      intro i j hi hj hij
      have := hs i j (Nat.zero_le _) hij (by omega)
      rw [ltB, elget bk0 l' i hi, elget bk0 l' j hj, nth_get bk0 l' i hi, nth_get bk0 l' j hj] at this
      exact this
end Go.Proofs.Ytnemfponbadcjaa
