/- slices.Delete at devices: one element out of a row of the call's own. Condition: the row is within the reach. -/
import Derived.Test.YtcdfbpdejbpgjaaGreatCopyK
import Derived.Test.YtcdfbpdejbpgjaaGreatCloneB
import Derived.ArgAppend
import Derived.Laws.NewBlocks
namespace Go.Proofs.YtcdfbpdejbpgjaaGreat
open Go.RowKit Go.Shelf
attribute [local go_sem] Oper.semAt_some

theorem setCells_setRow (P : Program) {w : World} {g o : Nat} {cur : Array Value} {t : TypeId} {vs : List Value} (hg : w.heap[g]? = some (.cells cur t (0, 0))) (hl : o + vs.length ≤ cur.size) (h1 : ∀ v ∈ vs, v.oneCell' = true) : w.setCells g o vs = w.setRow g (splice cur.toList o vs).toArray := by
  have a := run_storeCells_at P g o t vs 0 cur w hg (by simpa using hl) h1
  have b := run_storeCells_cells (P := P) g o vs 0 w (fun j hj => by
    have : o + j < cur.size := by omega
    simp [World.cell?, hg, this]) (fun j _ => by simp [World.frozen?, hg]) h1
  rw [a] at b
  injection b with _ b
  rw [Nat.add_zero] at b
  rw [← b]
  unfold splice
  simp [List.append_assoc]
theorem step_append_runI {P : Program} {ops : Array Oper} {o : Oper} {a : Act} {w : World} {K : Act → World → Prop} {Q : Exit → Act → World → Prop} {E : Prop}
    (hg : o.guard = none) (d x : Operand) (dT sT : TypeId) (hop : o.op = Op.call { callee := Callee.builtin Builtin.append, args := #[d, x], argTypes := #[dT, sT] })
    (v u : Value) (hd : a.eval d = v) (hx : a.eval x = u) {v' : Value} {w' : World} (hr : (Builtin.append_ #[dT, sT] o.type #[v, u]).run P w = .ok v' w') (hK : K (a.put o.dst v') w') :
    if Region.wanted o (yielded ops a.tmps) = true then Oper.wp P o a w K Q else E := by
  have hw : Region.wanted o (yielded ops a.tmps) = true := by simp [Region.wanted, hg]
  rw [if_pos hw]
  unfold Oper.wp
  simp [execOp, hop, resolve, invoke, builtin, hd, hx, hr, Result.andThen]
  exact hK
/-- One element taken out of a list of cells. -/
def delC (xs : List Value) (o s : Nat) : List Value := xs.take o ++ xs.drop (o + s)
theorem delC_splice {cur xs : List Value} {n i s c : Nat} (hx : cur.take (n * s) = xs) (hc : cur.length = c * s) (hi : i < n) (hnc : n ≤ c) :
    ((splice cur (i * s) (xs.drop (i * s + s))).take (n * s)).take ((n - 1) * s) = delC xs (i * s) s ∧ (splice cur (i * s) (xs.drop (i * s + s))).length = c * s ∧ (xs.drop (i * s + s)).length = (n - 1 - i) * s := by
  obtain ⟨m, rfl⟩ : ∃ m, n = m + 1 := ⟨n - 1, by omega⟩
  have h1 : i * s ≤ m * s := Nat.mul_le_mul_right _ (by omega)
  have h2 : (m + 1) * s ≤ c * s := Nat.mul_le_mul_right _ hnc
  have h3 : (m + 1) * s = m * s + s := by rw [Nat.add_mul, Nat.one_mul]
  have h5 : (m - i) * s = m * s - i * s := Nat.sub_mul _ _ _
  have hxl : xs.length = (m + 1) * s := by rw [← hx, List.length_take]; omega
  have hAx : cur.take (i * s) = xs.take (i * s) := by rw [← hx, List.take_take, Nat.min_eq_left (by omega)]
  have hD : (xs.drop (i * s + s)).length = m * s - i * s := by rw [List.length_drop, hxl]; omega
  rw [Nat.add_sub_cancel]
  refine ⟨?_, ?_, by rw [hD, h5]⟩
  · rw [List.take_take, Nat.min_eq_left (by omega)]
    unfold splice delC
    rw [hAx, ← List.append_assoc, List.take_append_of_le_length (by simp only [List.length_append, List.length_take, hD]; omega), List.take_of_length_le (by simp only [List.length_append, List.length_take, hD]; omega)]
  · rw [length_splice _ _ _ (by rw [hD, hc]; omega), hc]
/-- What slices.Delete leaves of a row of devices. -/
def DelD (w : World) (base g c : Nat) (n i : Nat) (xs : List Value) (e : Ending) (w' : World) : Prop :=
  e = .returned (.slice (some ⟨g, 0, none⟩) (n - 1) c) ∧ w'.ownsRow base 36 5 (.slice (some ⟨g, 0, none⟩) (n - 1) c) (n - 1) (delC xs (i * 5) 5) ∧ w.grownBy w' (some g)
set_option maxRecDepth 100000 in
set_option maxHeartbeats 3200000 in
theorem delD_any (w : World) (base g c : Nat) (m i : Nat) (xs : List Value) (h : w.ownsRow base 36 5 (.slice (some ⟨g, 0, none⟩) (m + 1) c) (m + 1) xs) (hi : i < m + 1) (h1x : ∀ u ∈ xs, u.oneCell' = true) :
    Calls Tryz.prog 75 #[.slice (some ⟨g, 0, none⟩) (m + 1) c, .int .i64 i, .int .i64 ((i : Int) + 1)] w (DelD w base g c (m + 1) i xs) := by
  obtain ⟨cur, hbg, hg, hnc, hcm, hcs, htk⟩ := own_open h
  have hlc := own_len h
  unfold maxLen at hcm
  obtain ⟨i0, hi0, hz0, hzs, hzb⟩ := info_parts info_dev
  obtain ⟨f1, f2, f3⟩ := delC_splice (cur := cur.toList) (xs := xs) (n := m + 1) (i := i) (s := 5) (c := c) htk (by rw [Array.length_toList, hcs]) hi hnc
  obtain ⟨D, hD⟩ : ∃ D, D = xs.drop (i * 5 + 5) := ⟨_, rfl⟩
  rw [← hD] at f1 f2 f3
  rw [Nat.add_sub_cancel] at f1 f3
  have hDc : ∀ j u, D[j]? = some u → w.cell? ⟨g, (i + 1) * 5 + j, none⟩ = some u := fun j u hj => by
    have hlt := (List.getElem?_eq_some_iff.1 hj).1
    rw [hD, List.length_drop] at hlt
    rw [h.cellAt _ (by omega)]
    rw [hD, List.getElem?_drop] at hj
    rw [show (i + 1) * 5 + j = i * 5 + 5 + j by omega]
    exact hj
  have hD1 : ∀ u ∈ D, u.oneCell' = true := fun u hu => h1x u (by rw [hD] at hu; exact List.mem_of_mem_drop hu)
  have hdw : w.drew.heap[g]? = some (.cells cur 36 (0, 0)) := hg
  have hsr := setCells_setRow Tryz.prog (w := w.drew) (o := i * 5) hdw (by rw [f3, hcs]; omega) hD1
  have hap : ∀ ty ad sc, (m - i = 0 ∨ ad = (⟨g, (i + 1) * 5, none⟩ : Addr)) → (Builtin.append_ #[22, 22] ty #[.slice (some ⟨g, 0, none⟩) i c, .slice (some ad) (m - i) sc]).run Tryz.prog w.drew = .ok (.slice (some ⟨g, 0, none⟩) (i + (m - i)) c) (w.drew.setCells g (i * 5) D) := fun ty ad sc had => by
    have hr := run_append_room_cells (P := Tryz.prog) w.drew 22 ty 36 i0 Tryz.underlying22 hi0 g 0 i c ad (m - i) sc D (by rw [hzs]; exact f3) (fun j u hj => by
      rcases had with h0 | rfl
      · rw [h0, Nat.zero_mul] at f3
        rw [List.eq_nil_of_length_eq_zero f3] at hj
        cases hj
      · rw [Addr.add_lit]; exact hDc j u hj) hD1 (by omega) (fun j hj => by
        rw [hzs, Nat.zero_add]
        have : i * 5 + j < cur.size := by rw [f3] at hj; rw [hcs]; omega
        simp [World.cell?, hdw, this]) (fun j _ => by simp [World.frozen?, hdw])
    rw [hzs, Nat.zero_add] at hr
    exact hr
  obtain ⟨c1, hc1⟩ : ∃ c1 : Array Value, c1 = (splice cur.toList (i * 5) D).toArray := ⟨_, rfl⟩
  rw [← hc1] at hsr
  rw [hsr] at hap
  have hc1s : c1.size = c * 5 := by rw [hc1]; simp only [List.size_toArray]; exact f2
  have hg1 : (w.drew.setRow g c1).heap[g]? = some (.cells c1 36 (0, 0)) := setRow_heap w.drew g cur c1 _ (0, 0) hdw
  have hown1 : (w.drew.setRow g c1).ownsRow base 36 5 (.slice (some ⟨g, 0, none⟩) (m + 1) c) (m + 1) (c1.toList.take ((m + 1) * 5)) := own_mk hbg hg1 hnc (by unfold maxLen; omega) hc1s rfl
  have hgr1 : w.grownBy (w.drew.setRow g c1) (some g) := grown_drewN (n := 1) (grown_setRow (w := w.drewN 1) g c1)
  obtain ⟨W1, hW1⟩ : ∃ W1, W1 = w.drew.setRow g c1 := ⟨_, rfl⟩
  have HWE := Lib.hid (fun (e : m - i = 0) => show W1 = w.drew from by
    rw [e, Nat.zero_mul] at f3
    have hD0 := List.eq_nil_of_length_eq_zero f3
    have hcc : c1 = cur := by rw [hc1, hD0]; simp [splice]
    rw [hW1, hcc]
    exact setRow_self w.drew g cur _ (0, 0) hdw)
  rw [← hW1] at hap hown1 hgr1
  obtain ⟨w2, hcl, hown2, hgr2, hsz2⟩ := run_clear_own (P := Tryz.prog) (t := 22) (z := .agg #[.int .i64 0, .int .i64 0, .int .i64 0, .int .i64 0, .slice none 0 0]) hown1 Tryz.underlying22 (fun _ => by kernel_rfl) rfl (by simp [Value.cells, Value.oneCell']) (i := m) (c := c - m) (by omega)
  rw [show m + 1 - m = 1 by omega] at hcl
  have e1 : c1.toList.take ((m + 1) * 5) = (splice cur.toList (i * 5) D).take ((m + 1) * 5) := by rw [hc1]
  rw [e1, f1] at hown2
  have HF := Lib.hid hown2
  have HG := Lib.hid (grown_trans hgr1 hgr2)
  have him : i + (m - i) = m := by omega
  rw [him] at hap
  have hb1 : (i : Int) ≤ (m : Int) + 1 := by omega
  have hb2 : (i : Int) + 1 ≤ (m : Int) + 1 := by omega
  have hb3 : ((i : Int) + 1).toNat = i + 1 := by omega
  have hb4 : ¬ ((i : Int) = (i : Int) + 1) := by omega
  have hb5 : i + 1 ≤ m + 1 := by omega
  have hb6 : i ≤ m := by omega
  have hb7 : m + 1 ≤ c := hnc
  have hb10 : i ≤ c := by omega
  have hb12 : (0 : Int) ≤ (i : Int) + 1 := by omega
  have hb11 : i + 1 ≤ c := by omega
  have hb8 : ¬ (c = m) := by omega
  clear f1 f2 f3 hDc hD1 hdw hsr hc1 hc1s hg1 hown1 hgr1 hown2 hgr2 e1 hD htk hcs hlc h hg h1x hW1 hi0 hz0 hzs hzb hsz2
  by_cases hlast : i = m
  · have h0 : m - i = 0 := by omega
    rw [h0] at hap
    rw [HWE.out h0] at hcl
    have hap2 := fun ty ad sc => hap ty ad sc (.inl rfl)
    clear hap h0
    subst hlast
    by_cases hc1 : c = i + 1
    · subst hc1
      rw [show i + 1 - i = 1 by omega] at hcl
      go_enter Tryz.func75, Tryz.ntmps75
      go_wp2_with fail
      go_region_law (refine step_append_runI rfl _ _ 22 22 rfl _ _ (by simp [Act.eval, Act.put]) (by simp [Act.eval, Act.put]) (hap2 _ _ _) ?_)
      go_wp2_with (simp only [hcl])
      go_ret
      exact ⟨rfl, HF.out, HG.out⟩
    · go_enter Tryz.func75, Tryz.ntmps75
      go_wp2_with fail
      go_region_law (refine step_append_runI rfl _ _ 22 22 rfl _ _ (by simp [Act.eval, Act.put]) (by simp [Act.eval, Act.put]) (hap2 _ _ _) ?_)
      go_wp2_with (simp only [hcl])
      go_ret
      exact ⟨rfl, HF.out, HG.out⟩
  · have hap2 := fun ty sc => hap ty ⟨g, (i + 1) * 5, none⟩ sc (.inr rfl)
    have hb9 : ¬ (c = i + 1) := by omega
    clear hap
    go_enter Tryz.func75, Tryz.ntmps75
    go_wp2_with fail
    go_region_law (refine step_append_runI rfl _ _ 22 22 rfl _ _ (by simp [Act.eval, Act.put]) (by simp [Act.eval, Act.put]) (hap2 _ (c - (i + 1))) ?_)
    go_wp2_with (simp only [hcl])
    go_ret
    exact ⟨rfl, HF.out, HG.out⟩
end Go.Proofs.YtcdfbpdejbpgjaaGreat
