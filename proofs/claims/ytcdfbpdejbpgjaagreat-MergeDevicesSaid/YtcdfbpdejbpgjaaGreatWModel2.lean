/- model.add: a device more, in its place. Condition: the pool may be, and lies in memory of the call's own, as do the mappings. -/
import Derived.Test.YtcdfbpdejbpgjaaGreatWModel1
import Derived.Outline
namespace Go.Proofs.YtcdfbpdejbpgjaaGreat
open Go.RowKit
attribute [local go_sem] Oper.semAt_some

theorem devs_one {w : World} {base : Nat} {l : List Dev} {M : Nat → Value} {xs : List Value} (hx : xs.length = l.length * 5) (hc : ∀ j, j < l.length → DevCells xs j (nth dev0 l j) (M j) ∧ OwnMaps w base (M j) (nth dev0 l j).maps) : ∀ u ∈ xs, u.oneCell' = true := by
  intro u hu
  obtain ⟨k, hk, rfl⟩ := List.mem_iff_getElem.1 hu
  have hj : k / 5 < l.length := by omega
  obtain ⟨⟨e0, e1, e2, e3, e4⟩, hm⟩ := hc _ hj
  have hr : k % 5 < 5 := Nat.mod_lt _ (by omega)
  have hkk : k = k / 5 * 5 + k % 5 := by omega
  have hg : xs[k]? = some xs[k] := List.getElem?_eq_getElem hk
  generalize k / 5 = j at *
  have key : ∀ v : Value, xs[k]? = some v → v.oneCell' = true → xs[k].oneCell' = true := fun v h1 h2 => by rw [hg] at h1; injection h1 with h1; rw [h1]; exact h2
  obtain ⟨A, c, hA, _⟩ := hm.form
  rcases (show k % 5 = 0 ∨ k % 5 = 1 ∨ k % 5 = 2 ∨ k % 5 = 3 ∨ k % 5 = 4 by omega) with h | h | h | h | h <;> rw [h] at hkk
  · exact key _ (by rw [hkk]; exact e0) rfl
  · exact key _ (by rw [hkk]; exact e1) rfl
  · exact key _ (by rw [hkk]; exact e2) rfl
  · exact key _ (by rw [hkk]; exact e3) rfl
  · exact key _ (by rw [hkk]; exact e4) (by rw [hA]; rfl)
/-- Blocks apart from g and a row are as they were. -/
def SameFar (w w' : World) (g : Nat) (row : Option Nat) : Prop := ∀ x, x < w.heap.size → x ≠ g → row ≠ some x → w'.heap[x]? = w.heap[x]?
/-- What add's insertion and store leave. -/
theorem add_close {w w1 w2 : World} {o : Obj} {base g g2 n c c2 k : Nat} {p : Pool} {A : Option Addr} {u : Value} {d : Dev} {M : Nat → Value} {xs : List Value} (hn : p.devs.length = n)
    (hb : base ≤ w.heap.size) (hB1 : Below w.heap.size w w1) (hg : base ≤ g) (hgw : g < w.heap.size) (h2 : PBox w2 g p A n c)
    (hr : w1.ownsRow base 36 5 (.slice A n c) n xs) (hc : ∀ j, j < n → DevCells xs j (nth dev0 p.devs j) (M j) ∧ OwnMaps w1 base (M j) (nth dev0 p.devs j).maps ∧ (∀ g, (M j).ownBlock = some g → some g ≠ (Value.slice A n c).ownBlock))
    (hap : ∀ i j, i < n → j < n → i ≠ j → ∀ g, (M j).ownBlock = some g → some g ≠ (M i).ownBlock) (hf : Far (.slice A n c) p.devs M g)
    (hk : k ≤ n) (hu : OwnMaps w1 base u d.maps) (huv : ∀ x, u.ownBlock = some x → some x ≠ (Value.slice A n c).ownBlock) (huM : ∀ j, j < n → ∀ x, u.ownBlock = some x → some x ≠ (M j).ownBlock) (hug : u.ownBlock ≠ some g)
    (hgrow : ((w1.alloc o).drew).grownBy w2 (Value.slice A n c).ownBlock) (hat : (Value.slice A n c).ownBlock = some g2 ∨ g2 = ((w1.alloc o).drew).heap.size)
    (ho2 : w2.ownsRow base 36 5 (.slice (some ⟨g2, 0, none⟩) (n + 1) c2) (n + 1) (insC xs (k * 5) (devCs d u))) :
    OwnP (w2.setCell ⟨g, 4, none⟩ (.slice (some ⟨g2, 0, none⟩) (n + 1) c2)) base g (withDevs p (insAt p.devs k d)) ∧ Below base w (w2.setCell ⟨g, 4, none⟩ (.slice (some ⟨g2, 0, none⟩) (n + 1) c2)) ∧ SameFar w (w2.setCell ⟨g, 4, none⟩ (.slice (some ⟨g2, 0, none⟩) (n + 1) c2)) g (Value.slice A n c).ownBlock := by
  subst hn
  have hz1 := hB1.size
  have hBW : Below w1.heap.size w1 (w1.alloc o).drew := ((Below.refl _ _).alloc (Nat.le_refl _) o).drew
  have hlen : (insAt p.devs k d).length = p.devs.length + 1 := insAt_length _ _ _ hk
  have hins := OwnDevs.ins (l := p.devs) (d := d) (u := u) (i := k) (n := p.devs.length + 1) (own_below hr hBW (fun x hx => (hr.lt x hx).2)) (fun j hj => ⟨(hc j hj).1, own_below (hc j hj).2.1 hBW (fun x hx => ((hc j hj).2.1.lt x hx).2), (hc j hj).2.2⟩) hap hk hgrow hat rfl ho2
    (own_below hu hBW (fun x hx => (hu.lt x hx).2)) huv huM
  have hg2 : g2 ≠ g := by
    rcases hat with h | h
    · intro e; exact hf.1 (by rw [h, e])
    · intro e; simp at h; omega
  have hfar : Far (.slice (some ⟨g2, 0, none⟩) (p.devs.length + 1) c2) (insAt p.devs k d) (fun j => if j < k then M j else if j = k then u else M (j - 1)) g := by
    refine ⟨fun e => hg2 (by simpa [Value.ownBlock] using e), fun j hj => ?_⟩
    rw [hlen] at hj
    simp only
    by_cases h1 : j < k
    · rw [if_pos h1]; exact hf.2 j (by omega)
    · rw [if_neg h1]
      by_cases h2 : j = k
      · rw [if_pos h2]; exact hug
      · rw [if_neg h2]; exact hf.2 (j - 1) (by omega)
  refine ⟨⟨some ⟨g2, 0, none⟩, c2, fun j => if j < k then M j else if j = k then u else M (j - 1), ?_, hg, ?_, ?_⟩, ?_⟩
  · unfold PBox at h2 ⊢
    show _ = some (Obj.cells #[.int .i64 p.tx, .int .i64 p.time, .int .i64 p.unit, .int .i64 p.data, .slice (some ⟨g2, 0, none⟩) (insAt p.devs k d).length c2] _ _)
    rw [hlen]
    simp [World.setCell, Array.getElem?_modify, h2]
  · show OwnDevs _ base (.slice (some ⟨g2, 0, none⟩) (insAt p.devs k d).length c2) (insAt p.devs k d) _
    rw [hlen]
    exact hins.kept (grownBy_set w2 ⟨g, 4, none⟩ _) hfar
  · show Far (.slice (some ⟨g2, 0, none⟩) (insAt p.devs k d).length c2) (insAt p.devs k d) _ g
    rw [hlen]
    exact hfar
  · refine ⟨((((hB1.mono hb).alloc (by omega) o).drew).grown hgrow (by simp; omega) (fun x hx => (hr.lt x hx).1)).setCell (p := ⟨g, 4, none⟩) hg _, fun x hx hxg hxr => ?_⟩
    exact (Below.heap_setCell w2 ⟨g, 4, none⟩ _ x hxg).trans ((hgrow.block x (by simp; omega) (fun e => hxr e.symm)).trans ((Below.heap_alloc w1 o x (by omega)).trans (hB1.block x hx)))
/-- What add leaves. -/
def AddIs (w : World) (base g : Nat) (row : Option Nat) (q : Pool) (e : Ending) (w' : World) : Prop := e = .returned (.tuple #[]) ∧ OwnP w' base g q ∧ Below base w w' ∧ SameFar w w' g row
set_option maxRecDepth 100000 in
set_option maxHeartbeats 3200000 in
theorem add_any (w : World) (base g c : Nat) (p : Pool) (A : Option Addr) (M : Nat → Value) (id : Int) (u : Value) (maps : List Mp) (h1 : PBox w g p A p.devs.length c) (h2 : base ≤ g) (h3 : OwnDevs w base (.slice A p.devs.length c) p.devs M) (h4 : Far (.slice A p.devs.length c) p.devs M g) (hpc : poolChk p = 0)
    (hu : OwnMaps w base u maps) (huv : ∀ x, u.ownBlock = some x → some x ≠ (Value.slice A p.devs.length c).ownBlock) (huM : ∀ j, j < p.devs.length → ∀ x, u.ownBlock = some x → some x ≠ (M j).ownBlock) (hug : u.ownBlock ≠ some g) (hb : base ≤ w.heap.size) :
    Calls Tryz.prog 73 #[.pointer (some ⟨g, 0, none⟩), .int .i64 id, u] w (AddIs w base g (Value.slice A p.devs.length c).ownBlock (addF p id maps)) := by
  have hpl := Lib.hid (place_any w base g p id ⟨A, c, M, h1, h2, h3, h4⟩ hpc)
  have hnn := pool_len hpc
  obtain ⟨Au, cu, rfl, _⟩ := hu.form
  have hde : ∀ x ∈ devCs (newDev p id maps) (.slice Au maps.length cu), x.oneCell' = true := by
    intro x hx
    simp only [devCs, List.mem_cons, List.not_mem_nil, or_false] at hx
    rcases hx with rfl | rfl | rfl | rfl | rfl <;> rfl
  have HDE := Lib.hid hde
  clear hde
  have hle : dpos p id ≤ p.devs.length := posK_le
  have HK := Lib.hid (fun w1 (hB : Below w.heap.size w w1) => (⟨h1.below hB h1.lt, h3.below hB, own_below hu hB (fun x hx => (hu.lt x hx).2)⟩ : PBox w1 g p A p.devs.length c ∧ OwnDevs w1 base (.slice A p.devs.length c) p.devs M ∧ OwnMaps w1 base (.slice Au maps.length cu) maps))
  have hgw := h1.lt
  have HFAR := Lib.hid h4
  have HUV := Lib.hid huv
  have HUM := Lib.hid huM
  have HAD := Lib.hid (show addF p id maps = withDevs p (insAt p.devs (dpos p id) (newDev p id maps)) from rfl)
  clear h1 h3 h4 hu huv huM
  generalize dhas p id = bb at *
  generalize dpos p id = k at *
  generalize addF p id maps = q at *
  go_enter Tryz.func73, Tryz.ntmps73
  go_wp2_with (go_at_call 74; refine hpl.out.mono ?_; rintro e w1 ⟨rfl, hB1⟩)
  obtain ⟨k1, k2, k3⟩ := HK.out _ hB1
  have hz1 := hB1.size
  obtain ⟨xs, r1, r2, r3⟩ := k2
  have hxl := own_len r1
  have hx1 := devs_one hxl (fun j hj => ⟨(r2 j hj).1, (r2 j hj).2.1⟩)
  have HR := Lib.hid r1
  have HR2 := Lib.hid r2
  have HR3 := Lib.hid r3
  have HK3 := Lib.hid k3
  have hgf : (Value.slice A p.devs.length c).ownBlock ≠ some g := HFAR.out.1
  clear r1 r2 r3 k3
  obtain ⟨vb, hvb⟩ : ∃ vb, w1.heap.size = vb := ⟨_, rfl⟩
  have HVB := Lib.hid hvb
  clear hvb
  generalize hnl : p.devs.length = n at *
  have HNL := Lib.hid hnl
  clear hnl
  refine wp_region_till (T := fun j => j == 25) (S := fun w' => PBox w' g p A n c) (by kernel_rfl) (k1) (fun hHeld => ?_)
  refine wpTill_put 0 14 (oi := _) (v := ?_) rfl rfl (by kernel_rfl) (by kernel_rfl) (by kernel_rfl) (by kernel_rfl) (fun _ _ _ h => h) (by rfl) hHeld ?_ ?_
  rotate_left
  · (intro w hSw; go_simp; (try with_reducible rfl))
  (try simp only [Act.put, List.setIfInBounds_toArray, List.set_cons_zero, List.set_cons_succ])
  refine wpTill_put 1 15 (oi := _) (v := ?_) rfl rfl (by kernel_rfl) (by kernel_rfl) (by kernel_rfl) (by kernel_rfl) (fun _ _ _ h => h) (by rfl) hHeld ?_ ?_
  rotate_left
  · (intro w hSw; go_simp; (try with_reducible rfl))
  (try simp only [Act.put, List.setIfInBounds_toArray, List.set_cons_zero, List.set_cons_succ])
  refine wpTill_put 2 16 (oi := _) (v := ?_) rfl rfl (by kernel_rfl) (by kernel_rfl) (by kernel_rfl) (by kernel_rfl) (fun _ _ _ h => h) (by rfl) hHeld ?_ ?_
  rotate_left
  · (intro w hSw; go_simp; (try with_reducible rfl))
  (try simp only [Act.put, List.setIfInBounds_toArray, List.set_cons_zero, List.set_cons_succ])
  refine wpTill_put 3 17 (oi := _) (v := ?_) rfl rfl (by kernel_rfl) (by kernel_rfl) (by kernel_rfl) (by kernel_rfl) (fun _ _ _ h => h) (by rfl) hHeld ?_ ?_
  rotate_left
  · (intro w hSw; go_simp; (try with_reducible rfl))
  (try simp only [Act.put, List.setIfInBounds_toArray, List.set_cons_zero, List.set_cons_succ])
  refine wpTill_put 4 18 (oi := _) (v := ?_) rfl rfl (by kernel_rfl) (by kernel_rfl) (by kernel_rfl) (by kernel_rfl) (fun _ _ _ h => h) (by rfl) hHeld ?_ ?_
  rotate_left
  · (intro w hSw; obtain ⟨l0, l1, l2, l3, l4⟩ := PBox.cells hSw; go_simp; (try with_reducible rfl))
  (try simp only [Act.put, List.setIfInBounds_toArray, List.set_cons_zero, List.set_cons_succ])
  refine wpTill_put 5 19 (oi := _) (v := ?_) rfl rfl (by kernel_rfl) (by kernel_rfl) (by kernel_rfl) (by kernel_rfl) (fun _ _ _ h => h) (by rfl) hHeld ?_ ?_
  rotate_left
  · (intro w hSw; go_simp; (try with_reducible rfl))
  (try simp only [Act.put, List.setIfInBounds_toArray, List.set_cons_zero, List.set_cons_succ])
  refine wpTill_put 6 20 (oi := _) (v := ?_) rfl rfl (by kernel_rfl) (by kernel_rfl) (by kernel_rfl) (by kernel_rfl) (fun _ _ _ h => h) (by rfl) hHeld ?_ ?_
  rotate_left
  · (intro w hSw; go_simp; (try with_reducible rfl))
  (try simp only [Act.put, List.setIfInBounds_toArray, List.set_cons_zero, List.set_cons_succ])
  refine wpTill_put 7 21 (oi := _) (v := ?_) rfl rfl (by kernel_rfl) (by kernel_rfl) (by kernel_rfl) (by kernel_rfl) (fun _ _ _ h => h) (by rfl) hHeld ?_ ?_
  rotate_left
  · (intro w hSw; go_simp; (try with_reducible rfl))
  (try simp only [Act.put, List.setIfInBounds_toArray, List.set_cons_zero, List.set_cons_succ])
  refine wpTill_put 8 22 (oi := _) (v := ?_) rfl rfl (by kernel_rfl) (by kernel_rfl) (by kernel_rfl) (by kernel_rfl) (fun _ _ _ h => h) (by rfl) hHeld ?_ ?_
  rotate_left
  · (intro w hSw; go_simp; (try with_reducible rfl))
  (try simp only [Act.put, List.setIfInBounds_toArray, List.set_cons_zero, List.set_cons_succ])
  refine wpTill_put 9 23 (oi := _) (v := ?_) rfl rfl (by kernel_rfl) (by kernel_rfl) (by kernel_rfl) (by kernel_rfl) (fun _ _ _ h => h) (by rfl) hHeld ?_ ?_
  rotate_left
  · (intro w hSw; go_simp; (try with_reducible rfl))
  (try simp only [Act.put, List.setIfInBounds_toArray, List.set_cons_zero, List.set_cons_succ])
  refine wpTill_put 10 24 (oi := _) (v := ?_) rfl rfl (by kernel_rfl) (by kernel_rfl) (by kernel_rfl) (by kernel_rfl) (fun _ _ _ h => h) (by rfl) hHeld ?_ ?_
  rotate_left
  · (intro w hSw; obtain ⟨l0, l1, l2, l3, l4⟩ := PBox.cells hSw; go_simp; (try with_reducible rfl))
  (try simp only [Act.put, List.setIfInBounds_toArray, List.set_cons_zero, List.set_cons_succ])
  refine wpTill_put 11 25 (oi := _) (v := ?_) rfl rfl (by kernel_rfl) (by kernel_rfl) (by kernel_rfl) (by kernel_rfl) (fun _ _ _ h => h) (by rfl) hHeld ?_ ?_
  rotate_left
  · (intro w hSw; go_simp; (try with_reducible rfl))
  (try simp only [Act.put, List.setIfInBounds_toArray, List.set_cons_zero, List.set_cons_succ])
  refine wpTill_put 12 26 (oi := _) (v := ?_) rfl rfl (by kernel_rfl) (by kernel_rfl) (by kernel_rfl) (by kernel_rfl) (fun _ _ _ h => h) (by rfl) hHeld ?_ ?_
  rotate_left
  · (intro w hSw; go_simp; (try with_reducible rfl))
  (try simp only [Act.put, List.setIfInBounds_toArray, List.set_cons_zero, List.set_cons_succ])
  refine wpTill_put 13 27 (oi := _) (v := ?_) rfl rfl (by kernel_rfl) (by kernel_rfl) (by kernel_rfl) (by kernel_rfl) (fun _ _ _ h => h) (by rfl) hHeld ?_ ?_
  rotate_left
  · (intro w hSw; go_simp; (try with_reducible rfl))
  (try simp only [Act.put, List.setIfInBounds_toArray, List.set_cons_zero, List.set_cons_succ])
  refine wpTill_put 14 28 (oi := _) (v := ?_) rfl rfl (by kernel_rfl) (by kernel_rfl) (by kernel_rfl) (by kernel_rfl) (fun _ _ _ h => h) (by rfl) hHeld ?_ ?_
  rotate_left
  · (intro w hSw; obtain ⟨l0, l1, l2, l3, l4⟩ := PBox.cells hSw; go_simp; (try with_reducible rfl))
  (try simp only [Act.put, List.setIfInBounds_toArray, List.set_cons_zero, List.set_cons_succ])
  refine wpTill_put 15 29 (oi := _) (v := ?_) rfl rfl (by kernel_rfl) (by kernel_rfl) (by kernel_rfl) (by kernel_rfl) (fun _ _ _ h => h) (by rfl) hHeld ?_ ?_
  rotate_left
  · (intro w hSw; go_simp; (try with_reducible rfl))
  (try simp only [Act.put, List.setIfInBounds_toArray, List.set_cons_zero, List.set_cons_succ])
  refine wpTill_put 16 30 (oi := _) (v := ?_) rfl rfl (by kernel_rfl) (by kernel_rfl) (by kernel_rfl) (by kernel_rfl) (fun _ _ _ h => h) (by rfl) hHeld ?_ ?_
  rotate_left
  · (intro w hSw; go_simp; (try with_reducible rfl))
  (try simp only [Act.put, List.setIfInBounds_toArray, List.set_cons_zero, List.set_cons_succ])
  refine wpTill_put 17 31 (oi := _) (v := ?_) rfl rfl (by kernel_rfl) (by kernel_rfl) (by kernel_rfl) (by kernel_rfl) (fun _ _ _ h => h) (by rfl) hHeld ?_ ?_
  rotate_left
  · (intro w hSw; go_simp; (try with_reducible rfl))
  (try simp only [Act.put, List.setIfInBounds_toArray, List.set_cons_zero, List.set_cons_succ])
  refine wpTill_put 18 32 (oi := _) (v := ?_) rfl rfl (by kernel_rfl) (by kernel_rfl) (by kernel_rfl) (by kernel_rfl) (fun _ _ _ h => h) (by rfl) hHeld ?_ ?_
  rotate_left
  · (intro w hSw; obtain ⟨l0, l1, l2, l3, l4⟩ := PBox.cells hSw; go_simp; (try with_reducible rfl))
  (try simp only [Act.put, List.setIfInBounds_toArray, List.set_cons_zero, List.set_cons_succ])
  refine wpTill_put 19 33 (oi := _) (v := ?_) rfl rfl (by kernel_rfl) (by kernel_rfl) (by kernel_rfl) (by kernel_rfl) (fun _ _ _ h => h) (by rfl) hHeld ?_ ?_
  rotate_left
  · (intro w hSw; go_simp; (try with_reducible rfl))
  (try simp only [Act.put, List.setIfInBounds_toArray, List.set_cons_zero, List.set_cons_succ])
  refine wpTill_put 20 34 (oi := _) (v := ?_) rfl rfl (by kernel_rfl) (by kernel_rfl) (by kernel_rfl) (by kernel_rfl) (fun _ _ _ h => h) (by rfl) hHeld ?_ ?_
  rotate_left
  · (intro w hSw; go_simp; (try with_reducible rfl))
  (try simp only [Act.put, List.setIfInBounds_toArray, List.set_cons_zero, List.set_cons_succ])
  refine wpTill_one 21 (o := _) (by kernel_rfl) rfl (fun K hK => ?_)
  go_simp
  refine hK.out _ _ (fun _ => (Below.heap_alloc w1.drew _ g (PBox.lt k1)).trans k1) (fun _ => ?_)
  clear hK K hHeld
  (try simp only [Act.put, List.setIfInBounds_toArray])
  refine wpTill_one 22 (o := _) (by kernel_rfl) rfl (fun K hK => ?_)
  go_simp
  refine (insD_any ((w1.alloc (.cells #[.int .i64 id, .int .i64 p.tx, .int .i64 p.time, .int .i64 p.time, .slice Au maps.length cu] 36)).drew) base (.slice A n c) n k w1.heap.size xs (devCs (newDev p id maps) (.slice Au maps.length cu)) ((HR.out.alloc _).drew) hle (by omega) (by simp; omega) (heap_alloc_new w1 _) (fun e => by have := (HR.out.lt _ e).2; omega) rfl HDE.out hx1).mono ?_
  rintro e w2 ⟨g2, c2, rfl, ho2, hg2, ha2⟩
  have hHeld2 : PBox w2 g p A n c := (hg2.block g (by have := PBox.lt k1; simp; omega) hgf.symm).trans ((Below.heap_alloc w1 _ g (PBox.lt k1)).trans k1)
  have hHeld := hHeld2
  refine hK.out _ _ (fun _ => hHeld) (fun _ => ?_)
  clear hK K
  (try simp only [Act.put, List.setIfInBounds_toArray])
  refine wpTill_one 23 (o := _) (by kernel_rfl) rfl (fun K hK => ?_)
  go_simp
  refine hK.out _ _ (fun _ => hHeld) (fun _ => ?_)
  clear hK K
  (try simp only [Act.put, List.setIfInBounds_toArray])
  refine wpTill_put 24 38 (oi := _) (v := ?_) rfl rfl (by kernel_rfl) (by kernel_rfl) (by kernel_rfl) (by kernel_rfl) (fun _ _ _ h => h) (by rfl) hHeld ?_ ?_
  rotate_left
  · (intro w hSw; go_simp; (try with_reducible rfl))
  (try simp only [Act.put, List.setIfInBounds_toArray, List.set_cons_zero, List.set_cons_succ])
  refine wpTill_one 25 (o := _) (by kernel_rfl) rfl (fun K hK => ?_)
  have hfr := PBox.free hHeld 4; obtain ⟨l0, l1, l2, l3, l4⟩ := PBox.cells hHeld
  go_simp
  refine hK.out _ _ (fun h => by cases h) (fun _ => ?_)
  clear hK K hHeld
  (try simp only [Act.put, List.setIfInBounds_toArray])
  refine wpTill_done (by kernel_rfl) ?_ _
  go_wp2_with fail
  go_end0
  obtain ⟨f1, f2⟩ := add_close HNL.out hb hB1 h2 hgw hHeld2 HR.out HR2.out HR3.out HFAR.out hle HK3.out HUV.out HUM.out hug hg2 ha2 ho2
  exact ⟨rfl, by rw [HAD.out]; exact f1, f2⟩
end Go.Proofs.YtcdfbpdejbpgjaaGreat
