/- slices.Insert at devices: one element, from a block of its own, into a row of the call's own. Condition: the row is within the reach. -/
import Derived.Test.YtcdfbpdejbpgjaaGreatCopyK
import Derived.Test.YtcdfbpdejbpgjaaGreatCloneB
import Derived.Deep.AppendLies
import Derived.Laws.NewBlocks
namespace Go.Proofs.YtcdfbpdejbpgjaaGreat
open Go.RowKit Go.Shelf
attribute [local go_sem] Oper.semAt_some

/-- What slices.Insert leaves of a row of devices. -/
def InsD (w : World) (base : Nat) (v : Value) (n i : Nat) (xs new : List Value) (e : Ending) (w' : World) : Prop :=
  ∃ g c, e = .returned (.slice (some ⟨g, 0, none⟩) (n + 1) c) ∧ w'.ownsRow base 36 5 (.slice (some ⟨g, 0, none⟩) (n + 1) c) (n + 1) (insC xs (i * 5) new) ∧ w.grownBy w' v.ownBlock ∧ (v.ownBlock = some g ∨ g = w.heap.size)
set_option maxRecDepth 100000 in
set_option maxHeartbeats 1600000 in
theorem insD_end (w : World) (base : Nat) (v : Value) (n vb : Nat) (xs new : List Value) (h : w.ownsRow base 36 5 v n xs) (hn : n ≤ 1099511627776) (hb : base ≤ w.heap.size) (hx : w.heap[vb]? = some (.cells new.toArray 36 (0, 0))) (hl : new.length = 5) (h1 : ∀ u ∈ new, u.oneCell' = true) :
    Calls Tryz.prog 88 #[v, .int .i64 n, .slice (some ⟨vb, 0, none⟩) 1 1] w (InsD w base v n n xs new) := by
  obtain ⟨i0, hi0, hz0, hz1, hz2⟩ := info_parts info_dev
  have hnew : ∀ j u, new[j]? = some u → w.cell? ((⟨vb, 0, none⟩ : Addr).add j) = some u := fun j u hj => by
    rw [Addr.add_lit, Nat.zero_add]
    simp [World.cell?, hx, hj]
  have hxl := own_len h
  have hown := Lib.hid h
  have HI := Lib.hid (insC_end (o := n * 5) hxl new)
  obtain ⟨A, c, rfl, hnc⟩ := own_form0 h
  have hA : A = none → n = 0 ∧ c = 0 := fun e => by
    rcases h.2 with ⟨h, h0⟩ | ⟨_, _, _, h, _⟩
    · injection h with _ h2 h3
      exact ⟨h2, h3⟩
    · rw [e] at h; injection h with h; cases h
  clear h hxl hx
  cases A with
  | none =>
    obtain ⟨rfl, rfl⟩ := hA rfl
    go_enter Tryz.func88, Tryz.ntmps88
    go_wp2_with (at_builtin; refine wpList_append_lies _ rfl _ _ 22 rfl base 36 i0 _ 5 56 Tryz.underlying22 hi0 hz0 hz1 hz2 rfl (by omega) _ 0 xs rfl hown.out ⟨vb, 0, none⟩ 1 1 new rfl (by omega) hnew h1 (by omega) (by unfold maxLen; omega) (by omega) hb _ rfl ?_; intro g' c' w1 hown1 hgrow hat hlt)
    go_ret
    exact ⟨g', c', rfl, by rw [HI.out]; simpa using hown1, hgrow, hat⟩
  | some a =>
    clear hA
    go_enter Tryz.func88, Tryz.ntmps88
    go_wp2_with (at_builtin; refine wpList_append_lies _ rfl _ _ 22 rfl base 36 i0 _ 5 56 Tryz.underlying22 hi0 hz0 hz1 hz2 rfl (by omega) _ n xs rfl hown.out ⟨vb, 0, none⟩ 1 1 new rfl (by omega) hnew h1 (by omega) (by unfold maxLen; omega) (by omega) hb _ rfl ?_; intro g' c' w1 hown1 hgrow hat hlt)
    all_goals
      go_ret
      exact ⟨g', c', rfl, by rw [HI.out]; exact hown1, hgrow, hat⟩
set_option maxRecDepth 100000 in
set_option maxHeartbeats 3200000 in
theorem insD_room (w : World) (base g c : Nat) (n i vb : Nat) (xs new : List Value) (h : w.ownsRow base 36 5 (.slice (some ⟨g, 0, none⟩) n c) n xs) (hi : i < n) (hroom : n + 1 ≤ c) (hx : w.heap[vb]? = some (.cells new.toArray 36 (0, 0))) (hvb : vb ≠ g) (hl : new.length = 5) (h1 : ∀ u ∈ new, u.oneCell' = true) (h1x : ∀ u ∈ xs, u.oneCell' = true) :
    Calls Tryz.prog 88 #[.slice (some ⟨g, 0, none⟩) n c, .int .i64 i, .slice (some ⟨vb, 0, none⟩) 1 1] w (InsD w base (.slice (some ⟨g, 0, none⟩) n c) n i xs new) := by
  obtain ⟨cur, hbg, hg, hnc, hcm, hcs, htk⟩ := own_open h
  have hlc := own_len h
  unfold maxLen at hcm
  have hsz : (Tryz.prog.info? 36).map (·.size) = some 5 := by kernel_rfl
  have hso : ∀ w, (Go.sizeOf 36).run Tryz.prog w = .ok 5 w := fun _ => by kernel_rfl
  have hov : ∀ lb cb, (callFunc 102 #[.slice (some ⟨vb, 0, none⟩) 1 1, .slice (some ⟨g, (i + 1) * 5, none⟩) lb cb]).run Tryz.prog w = .ok (.value (.bool false)) w := fun lb cb => by
    rw [run_callFunc_extern (fn := Tryz.f102) (by kernel_rfl) (by kernel_rfl) (by kernel_rfl) (by kernel_rfl) (e := Extern.SlicesOverlaps.overlaps #[22, 22] #[4]) (by kernel_rfl),
      Lib.run_overlaps_apart w 22 4 36 Tryz.underlying22 5 hso ⟨vb, 0, none⟩ ⟨g, (i + 1) * 5, none⟩ 1 1 lb cb hvb 36 36 5 (c * 5) (by simp [World.shape?, hx, hl]) (by simp [World.shape?, hg, hcs]) (by omega) (by simp [World.frozen?, hx]) (by simp [World.frozen?, hx])]
    rfl
  obtain ⟨D, hD⟩ : ∃ D, D = xs.drop (i * 5) := ⟨_, rfl⟩
  have hDl : D.length = (n - i) * 5 := by rw [hD, List.length_drop, hlc]; omega
  have hDc : ∀ j u, D[j]? = some u → w.cell? ⟨g, i * 5 + j, none⟩ = some u := fun j u hj => by
    rw [h.cellAt _ (by
      have := (List.getElem?_eq_some_iff.1 hj).1
      rw [hD, List.length_drop] at this
      omega)]
    rwa [hD, List.getElem?_drop] at hj
  have hcp1 : ∀ ty dc sc, (Builtin.copy_ #[22, 22] ty #[.slice (some ⟨g, (i + 1) * 5, none⟩) (n - i) dc, .slice (some ⟨g, i * 5, none⟩) (n + 1 - i) sc]).run Tryz.prog w.drew = .ok (goInt ((n - i : Nat) : Int)) (w.drew.setRow g (splice cur.toList ((i + 1) * 5) D).toArray) := fun ty dc sc =>
    run_copy_rowK w.drew _ _ ty 36 5 g ((i + 1) * 5) (n - i) dc ⟨g, i * 5, none⟩ (n + 1 - i) sc (n - i) cur 36 D Tryz.underlying22 hsz hg (by simp only [Nat.min_def]; split <;> omega) hDl
      (fun j u hj => by rw [Addr.add_lit]; exact hDc j u hj) (by rw [hDl, hcs]; omega) (fun u hu => h1x u (by rw [hD] at hu; exact List.mem_of_mem_drop hu))
  obtain ⟨c1, hc1⟩ : ∃ c1 : Array Value, c1 = (splice cur.toList ((i + 1) * 5) D).toArray := ⟨_, rfl⟩
  rw [← hc1] at hcp1
  have hc1s : c1.size = c * 5 := by rw [hc1]; simp only [List.size_toArray]; rw [length_splice _ _ _ (by rw [hDl, Array.length_toList, hcs]; omega), Array.length_toList, hcs]
  have hg1 : (w.drew.setRow g c1).heap[g]? = some (.cells c1 36 (0, 0)) := setRow_heap w.drew g cur c1 _ (0, 0) hg
  have hx1 : ∀ j u, new[j]? = some u → (w.drew.setRow g c1).cell? ((⟨vb, 0, none⟩ : Addr).add j) = some u := fun j u hj => by
    rw [Addr.add_lit, Nat.zero_add]
    have e : (w.drew.setRow g c1).heap[vb]? = some (.cells new.toArray 36 (0, 0)) := (setRow_other w.drew g vb c1 hvb).trans hx
    simp [World.cell?, e, hj]
  have hcp2 : ∀ ty dc, (Builtin.copy_ #[22, 22] ty #[.slice (some ⟨g, i * 5, none⟩) (n + 1 - i) dc, .slice (some ⟨vb, 0, none⟩) 1 1]).run Tryz.prog (w.drew.setRow g c1) = .ok (goInt ((1 : Nat) : Int)) ((w.drew.setRow g c1).setRow g (splice c1.toList (i * 5) new).toArray) := fun ty dc =>
    run_copy_rowK (w.drew.setRow g c1) _ _ ty 36 5 g (i * 5) (n + 1 - i) dc ⟨vb, 0, none⟩ 1 1 1 c1 36 new Tryz.underlying22 hsz hg1 (by simp only [Nat.min_def]; split <;> omega) (by omega) hx1 (by rw [hl, hc1s]; omega) h1
  obtain ⟨f1, f2⟩ := insC_room (cur := cur.toList) (xs := xs) (new := new) (n := n) (i := i) (s := 5) (c := c) htk (by rw [Array.length_toList, hcs]) hl (by omega) hroom
  rw [← hD] at f1 f2
  have hfin : ((w.drew.setRow g c1).setRow g (splice c1.toList (i * 5) new).toArray).ownsRow base 36 5 (.slice (some ⟨g, 0, none⟩) (n + 1) c) (n + 1) (insC xs (i * 5) new) := by
    refine own_mk hbg (setRow_heap _ g c1 _ _ (0, 0) hg1) hroom (by unfold maxLen; omega) ?_ ?_
    · rw [hc1]; simp only [List.size_toArray]; exact f2
    · rw [hc1]; simp only; exact f1
  have hgr : w.grownBy ((w.drew.setRow g c1).setRow g (splice c1.toList (i * 5) new).toArray) (some g) := grown_trans (w1 := w.drew.setRow g c1) (grown_drewN (n := 1) (grown_setRow (w := w.drewN 1) g c1)) (grown_setRow g _)
  have HF := Lib.hid hfin
  have HG := Lib.hid hgr
  have hw1 : IntKind.i64.wrap ((i : Int) + 1) = (i : Int) + 1 := by rw [IntKind.wrap_i64]; omega
  have hb1 : (0 : Int) ≤ (i : Int) + 1 := by omega
  have htn : ((i : Int) + 1).toNat = i + 1 := by omega
  have hb2 : ¬ (c = i + 1) := by omega
  have hb3 : (i : Int) ≤ (n : Int) + 1 := by omega
  have hb4 : ¬ (c = i) := by omega
  have hin : i ≤ n := by omega
  have hz2 : ¬ ((i : Int) = (n : Int)) := by omega
  clear hfin hgr f1 f2 hx1 hg1 hc1s hc1 hDc hDl hD htk hcs hlc h hg hx hl h1 h1x hso hsz
  go_enter Tryz.func88, Tryz.ntmps88
  go_wp2_with (simp only [hov])
  go_region_law (refine step_copy_runI rfl _ _ 22 22 rfl _ _ (by simp [Act.eval, Act.put]) (by simp [Act.eval, Act.put]) (hcp1 _ _ _) ?_)
  go_wp2_with (at_builtin; refine wpList_copy_runI _ rfl _ _ 22 22 rfl _ _ rfl rfl (hcp2 _ _) ?_)
  go_ret
  exact ⟨g, c, rfl, HF.out, HG.out, .inl rfl⟩
set_option maxRecDepth 100000 in
set_option maxHeartbeats 3200000 in
theorem insD_grow (w : World) (base g c : Nat) (n i vb : Nat) (xs new : List Value) (h : w.ownsRow base 36 5 (.slice (some ⟨g, 0, none⟩) n c) n xs) (hi : i < n) (hroom : c < n + 1) (hn : n ≤ 1099511627776) (hb : base ≤ w.heap.size) (hx : w.heap[vb]? = some (.cells new.toArray 36 (0, 0))) (hl : new.length = 5) (h1 : ∀ u ∈ new, u.oneCell' = true) (h1x : ∀ u ∈ xs, u.oneCell' = true) :
    Calls Tryz.prog 88 #[.slice (some ⟨g, 0, none⟩) n c, .int .i64 i, .slice (some ⟨vb, 0, none⟩) 1 1] w (InsD w base (.slice (some ⟨g, 0, none⟩) n c) n i xs new) := by
  obtain ⟨cur, hbg, hg, hnc, hcm, hcs, htk⟩ := own_open h
  have hlc := own_len h
  unfold maxLen at hcm
  obtain ⟨i0, hi0, hz0, hzs, hzb⟩ := info_parts info_dev
  have hsz : (Tryz.prog.info? 36).map (·.size) = some 5 := by kernel_rfl
  have hgw : g < w.heap.size := (Array.getElem?_eq_some_iff.1 hg).1
  have hvw : vb < w.heap.size := (Array.getElem?_eq_some_iff.1 hx).1
  obtain ⟨X, hX⟩ : ∃ X, X = xs.take (i * 5) := ⟨_, rfl⟩
  have hXl : X.length = i * 5 := by rw [hX, List.length_take, hlc]; omega
  have hkk : (n : Int) + 1 - (i : Int) = ((n + 1 - i : Nat) : Int) := by omega
  have hik : i + (n + 1 - i) = n + 1 := by omega
  have hold : (Builtin.firstCells i0.size i (.slice (some ⟨g, 0, none⟩) i c)).run Tryz.prog w.drew = .ok X.toArray w.drew := by
    rw [hzs]
    exact run_firstCells_some w.drew 5 i ⟨g, 0, none⟩ i c X (by rw [hXl]) (fun j u hj => by
      rw [Addr.add_lit, Nat.zero_add]
      rw [hX, List.getElem?_take] at hj
      split at hj
      · show w.cell? _ = _
        rw [h.cellAt _ (by omega)]; exact hj
      · cases hj)
  obtain ⟨z, hz⟩ : ∃ z : Value, z = .agg #[.int .i64 0, .int .i64 0, .int .i64 0, .int .i64 0, .slice none 0 0] := ⟨_, rfl⟩
  have hzl : z.cells.size = 5 := by rw [hz]; rfl
  rw [← hz] at hz0
  obtain ⟨G, hG⟩ : ∃ G, G = grownCap w (n + 1) c 36 := ⟨_, rfl⟩
  obtain ⟨ROW, hROW⟩ : ∃ ROW : Array Value, ROW = X.toArray ++ Builtin.zeroCells z.cells (n + 1 - i) ++ Builtin.zeroCells z.cells (G - (n + 1)) := ⟨_, rfl⟩
  have hrz : ∀ ty, (Builtin.append_ #[22, 3] ty #[.slice (some ⟨g, 0, none⟩) i c, .int .i64 ((n : Int) + 1 - (i : Int))]).run Tryz.prog w =
      .ok (.slice (some ⟨w.heap.size, 0, none⟩) (n + 1) G) (w.drew.alloc (.cells ROW 36)) := fun ty => by
    have h := Lib.run_append_grow_zeros (P := Tryz.prog) w 22 3 ty 36 i0 z .i64 .i64 Tryz.underlying22 Tryz.underlying3 hi0 hz0 (some ⟨g, 0, none⟩) i c X hold (n + 1 - i) (by omega) (by omega) (by omega) (by omega) (by rw [hzb]; omega) (by rw [hzb, hik]; exact growslice_fits hroom (by omega))
    rw [hik, ← hG, ← hROW] at h
    rw [hkk]
    exact h
  have hGn : n + 1 ≤ G := by rw [hG]; exact grownCap_ge w _ _ _
  have hG63 : G ≤ 9223372036854775807 := by
    have := grownCap_le_maxLen w (n + 1) c 36 (by unfold maxLen; omega)
    rw [← hG] at this
    unfold maxLen at this
    omega
  have hRs : ROW.size = G * 5 := by
    rw [hROW]
    simp [Builtin.zeroCells, hzl, hXl]
    omega
  have hRt : ROW.toList.take (i * 5) = X := by
    rw [hROW]
    simp only [Array.toList_append, List.append_assoc]
    rw [List.take_append_of_le_length (by omega), List.take_of_length_le (by omega)]
  obtain ⟨W1, hW1⟩ : ∃ W1, W1 = w.drew.alloc (.cells ROW 36) := ⟨_, rfl⟩
  obtain ⟨H, hH⟩ : ∃ H, H = w.heap.size := ⟨_, rfl⟩
  have hgH : g ≠ H := by omega
  have hvH : vb ≠ H := by omega
  have hN : W1.heap[H]? = some (.cells ROW 36 (0, 0)) := by rw [hW1, hH]; exact heap_alloc_new w.drew _
  have hO : ∀ b, b < w.heap.size → W1.heap[b]? = w.heap[b]? := fun b hb' => by rw [hW1]; exact Below.heap_alloc w.drew _ b hb'
  have hx1 : W1.heap[vb]? = some (.cells new.toArray 36 (0, 0)) := (hO vb hvw).trans hx
  have hg1 : W1.heap[g]? = some (.cells cur 36 (0, 0)) := (hO g hgw).trans hg
  have hgr0 : w.grownBy W1 (some g) := by rw [hW1]; exact ⟨rfl, rfl, rfl, by simp, fun k hk _ => Below.heap_alloc w.drew _ k hk⟩
  rw [← hW1, ← hH] at hrz
  have hcpA : ∀ ty dc, (Builtin.copy_ #[22, 22] ty #[.slice (some ⟨H, i * 5, none⟩) (n + 1 - i) dc, .slice (some ⟨vb, 0, none⟩) 1 1]).run Tryz.prog W1 = .ok (goInt ((1 : Nat) : Int)) (W1.setRow H (splice ROW.toList (i * 5) new).toArray) := fun ty dc =>
    run_copy_rowK W1 _ _ ty 36 5 H (i * 5) (n + 1 - i) dc ⟨vb, 0, none⟩ 1 1 1 ROW 36 new Tryz.underlying22 hsz hN (by simp only [Nat.min_def]; split <;> omega) (by omega)
      (fun j u hj => by rw [Addr.add_lit, Nat.zero_add]; simp [World.cell?, hx1, hj]) (by rw [hl, hRs]; omega) h1
  obtain ⟨c1, hc1⟩ : ∃ c1 : Array Value, c1 = (splice ROW.toList (i * 5) new).toArray := ⟨_, rfl⟩
  rw [← hc1] at hcpA
  have hc1s : c1.size = G * 5 := by rw [hc1]; simp only [List.size_toArray]; rw [length_splice _ _ _ (by rw [hl, Array.length_toList, hRs]; omega), Array.length_toList, hRs]
  obtain ⟨W2, hW2⟩ : ∃ W2, W2 = W1.setRow H c1 := ⟨_, rfl⟩
  rw [← hW2] at hcpA
  have hN2 : W2.heap[H]? = some (.cells c1 36 (0, 0)) := by rw [hW2]; exact setRow_heap W1 H ROW c1 _ (0, 0) hN
  have hg2 : W2.heap[g]? = some (.cells cur 36 (0, 0)) := by rw [hW2]; exact (setRow_other W1 H g c1 hgH).trans hg1
  have hgr2 : w.grownBy W2 (some g) := by
    rw [hW2]
    exact ⟨hgr0.os, hgr0.tape, hgr0.output, by rw [setRow_size]; exact hgr0.size, fun k hk hne => (setRow_other W1 H k c1 (by omega)).trans (hgr0.block k hk hne)⟩
  obtain ⟨D, hD⟩ : ∃ D, D = xs.drop (i * 5) := ⟨_, rfl⟩
  have hDl : D.length = (n - i) * 5 := by rw [hD, List.length_drop, hlc]; omega
  have hxc : ∀ j, j < n * 5 → cur[j]? = xs[j]? := fun j hj => by
    rw [← htk, List.getElem?_take, if_pos hj, Array.getElem?_toList]
  have hDc : ∀ j u, D[j]? = some u → W2.cell? ⟨g, i * 5 + j, none⟩ = some u := fun j u hj => by
    have hlt := (List.getElem?_eq_some_iff.1 hj).1
    rw [hD, List.length_drop] at hlt
    have : cur[i * 5 + j]? = some u := by
      rw [hxc _ (by omega)]
      rwa [hD, List.getElem?_drop] at hj
    simp [World.cell?, hg2, this]
  have hcpB : ∀ ty dc sc, (Builtin.copy_ #[22, 22] ty #[.slice (some ⟨H, (i + 1) * 5, none⟩) (n - i) dc, .slice (some ⟨g, i * 5, none⟩) (n - i) sc]).run Tryz.prog W2.drew = .ok (goInt ((n - i : Nat) : Int)) (W2.drew.setRow H (splice c1.toList ((i + 1) * 5) D).toArray) := fun ty dc sc =>
    run_copy_rowK W2.drew _ _ ty 36 5 H ((i + 1) * 5) (n - i) dc ⟨g, i * 5, none⟩ (n - i) sc (n - i) c1 36 D Tryz.underlying22 hsz hN2 (by simp) hDl
      (fun j u hj => by rw [Addr.add_lit]; exact hDc j u hj) (by rw [hDl, hc1s]; omega) (fun u hu => h1x u (by rw [hD] at hu; exact List.mem_of_mem_drop hu))
  obtain ⟨f1, f2⟩ := insC_new (row := ROW.toList) (xs := xs) (new := new) (n := n) (i := i) (s := 5) (c := G) (by rw [hRt, hX]) hlc (by rw [Array.length_toList, hRs]) hl (by omega) hGn
  rw [← hD] at f1 f2
  have hfin : (W2.drew.setRow H (splice c1.toList ((i + 1) * 5) D).toArray).ownsRow base 36 5 (.slice (some ⟨H, 0, none⟩) (n + 1) G) (n + 1) (insC xs (i * 5) new) := by
    refine own_mk (by omega) (setRow_heap _ H c1 _ _ (0, 0) hN2) hGn (by unfold maxLen; omega) ?_ ?_
    · rw [hc1]; simp only [List.size_toArray]; exact f2
    · rw [hc1]; simp only; exact f1
  have hgr : w.grownBy (W2.drew.setRow H (splice c1.toList ((i + 1) * 5) D).toArray) (some g) :=
    ⟨hgr2.os, hgr2.tape, hgr2.output, by rw [setRow_size]; exact hgr2.size, fun k hk hne => (setRow_other W2.drew H k _ (by omega)).trans (hgr2.block k hk hne)⟩
  have HF := Lib.hid hfin
  have HG := Lib.hid hgr
  have HH := Lib.hid hH
  have hw1 : IntKind.i64.wrap ((i : Int) + 1) = (i : Int) + 1 := by rw [IntKind.wrap_i64]; omega
  have hb1 : (0 : Int) ≤ (i : Int) + 1 := by omega
  have htn : ((i : Int) + 1).toNat = i + 1 := by omega
  have hGi : ¬ (G = i) := by omega
  have hGim : ¬ (G = i + 1) := by omega
  have hb3 : (i : Int) ≤ (n : Int) := by omega
  have hb4 : ¬ (c = i) := by omega
  have hin : i ≤ n := by omega
  have hz2 : ¬ ((i : Int) = (n : Int)) := by omega
  have hz3 : (c : Int) < (n : Int) + 1 := by omega
  clear hfin hgr f1 f2 hDc hDl hD hxc hgr2 hg2 hN2 hW2 hc1s hc1 hgr0 hg1 hx1 hO hN hW1 hRt hRs hROW hG hz hzl hz0 hold hkk hik hX hXl htk hcs hlc h hg hx hl h1 h1x hsz hi0 hzs hzb hH hgH hvH hgw hvw hbg hb
  go_enter Tryz.func88, Tryz.ntmps88
  go_wp2_with (first
    | (at_builtin; refine Lib.wpList_append_run _ rfl _ _ _ _ rfl _ _ rfl rfl _ _ (hrz _) ?_)
    | (at_builtin; refine wpList_copy_runI _ rfl _ _ 22 22 rfl _ _ rfl rfl (hcpA _ _) ?_))
  go_region_law (refine step_copy_runI rfl _ _ 22 22 rfl _ _ (by simp [Act.eval, Act.put]) (by simp [Act.eval, Act.put]) (hcpB _ _ _) ?_)
  go_wp2_with fail
  go_ret
  exact ⟨H, G, rfl, HF.out, HG.out, .inr HH.out⟩
theorem insD_any (w : World) (base : Nat) (v : Value) (n i vb : Nat) (xs new : List Value) (h : w.ownsRow base 36 5 v n xs) (hi : i ≤ n) (hn : n ≤ 1099511627776) (hb : base ≤ w.heap.size) (hx : w.heap[vb]? = some (.cells new.toArray 36 (0, 0))) (hvb : v.ownBlock ≠ some vb) (hl : new.length = 5) (h1 : ∀ u ∈ new, u.oneCell' = true) (h1x : ∀ u ∈ xs, u.oneCell' = true) :
    Calls Tryz.prog 88 #[v, .int .i64 i, .slice (some ⟨vb, 0, none⟩) 1 1] w (InsD w base v n i xs new) := by
  rcases Nat.lt_or_ge i n with hlt | hge
  · obtain ⟨g, c, rfl, _, _, _⟩ := own_form h (by omega)
    have hvg : vb ≠ g := fun e => hvb (by rw [e]; rfl)
    rcases Nat.lt_or_ge c (n + 1) with hc | hc
    · exact insD_grow w base g c n i vb xs new h hlt hc hn hb hx hl h1 h1x
    · exact insD_room w base g c n i vb xs new h hlt hc hx hvg hl h1 h1x
  · obtain rfl : i = n := by omega
    exact insD_end w base v i vb xs new h hn hb hx hl h1
end Go.Proofs.YtcdfbpdejbpgjaaGreat
