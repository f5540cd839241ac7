/- model.snap. Condition: the pool may be, and lies in memory of the call's own. -/
import Derived.Test.YtcdfbpdejbpgjaaGreatWModel4
import Derived.Test.YtcdfbpdejbpgjaaGreatFitP
import Derived.Test.YtcdfbpdejbpgjaaGreatWCount
namespace Go.Proofs.YtcdfbpdejbpgjaaGreat
open Go.RowKit
attribute [local go_sem] Oper.semAt_some

theorem OwnDevs.snap {w : World} {base g n c r : Nat} {l : List Dev} {M : Nat → Value} (h : OwnDevs w base (.slice (some ⟨g, 0, none⟩) n c) l M) (hr : r < l.length) (t : Int) :
    OwnDevs (w.setCell ⟨g, r * 5 + 3, none⟩ (.int .i64 t)) base (.slice (some ⟨g, 0, none⟩) n c) (l.set r (snapped (nth dev0 l r) t)) M := by
  obtain ⟨xs, hrow, hc, ha⟩ := h
  obtain rfl : n = l.length := own_n hrow
  have hx := own_len hrow
  have hn : ∀ j, nth dev0 (l.set r (snapped (nth dev0 l r) t)) j = if j = r then snapped (nth dev0 l r) t else nth dev0 l j := fun j => nthG_set dev0 l r j _ hr
  refine ⟨xs.set (r * 5 + 3) (.int .i64 t), ?_, fun j hj => ?_, fun i j hi hj => ?_⟩
  · rw [List.length_set]
    exact (hrow.stored _ _).1
  · rw [List.length_set] at hj
    obtain ⟨⟨e0, e1, e2, e3, e4⟩, hm, hb⟩ := hc j hj
    have hk := hm.kept (grownBy_set w ⟨g, r * 5 + 3, none⟩ (.int .i64 t)) (by
      cases hbb : (M j).ownBlock with
      | none => exact .inl rfl
      | some x => exact .inr (hb x hbb))
    rw [hn]
    by_cases e : j = r
    · subst e
      rw [if_pos rfl]
      refine ⟨⟨?_, ?_, ?_, ?_, ?_⟩, hk, hb⟩
      · rw [List.getElem?_set_ne (by omega)]; exact e0
      · rw [List.getElem?_set_ne (by omega)]; exact e1
      · rw [List.getElem?_set_ne (by omega)]; exact e2
      · rw [List.getElem?_set_self (by omega)]; rfl
      · rw [List.getElem?_set_ne (by omega)]; exact e4
    · rw [if_neg e]
      refine ⟨⟨?_, ?_, ?_, ?_, ?_⟩, hk, hb⟩
      · rw [List.getElem?_set_ne (by omega)]; exact e0
      · rw [List.getElem?_set_ne (by omega)]; exact e1
      · rw [List.getElem?_set_ne (by omega)]; exact e2
      · rw [List.getElem?_set_ne (by omega)]; exact e3
      · rw [List.getElem?_set_ne (by omega)]; exact e4
  · rw [List.length_set] at hi hj
    exact ha i j hi hj
/-- The cell that holds a device's mappings. -/
theorem OwnDevs.cellM {w : World} {base g n c r : Nat} {l : List Dev} {M : Nat → Value} (h : OwnDevs w base (.slice (some ⟨g, 0, none⟩) n c) l M) (hr : r < l.length) : w.cell? ⟨g, r * 5 + 4, none⟩ = some (M r) ∧ (w.cell? ⟨g, r * 5 + 3, none⟩).isSome = true ∧ (∀ o, w.frozen? ⟨g, o, none⟩ = false) ∧ ∃ A cm, M r = .slice A (nth dev0 l r).maps.length cm ∧ (nth dev0 l r).maps.length ≤ cm := by
  obtain ⟨xs, hrow, hc, ha⟩ := h
  obtain rfl : n = l.length := own_n hrow
  refine ⟨?_, ?_, fun o => hrow.frozenAt o, own_form0 (hc r hr).2.1⟩
  · rw [hrow.cellAt (r * 5 + 4) (by omega)]
    exact (hc r hr).1.2.2.2.2
  · rw [hrow.cellAt (r * 5 + 3) (by omega), (hc r hr).1.2.2.2.1]; rfl
/-- The two stores of a snapshot. -/
theorem stamp_own {w : World} {base g g2 n c k : Nat} {p : Pool} {M : Nat → Value} (hn : p.devs.length = n) (h1 : PBox w g p (some ⟨g2, 0, none⟩) n c) (h3 : OwnDevs w base (.slice (some ⟨g2, 0, none⟩) n c) p.devs M) (h4 : Far (.slice (some ⟨g2, 0, none⟩) n c) p.devs M g) (hk : k < n) :
    PBox ((w.setCell ⟨g, 1, none⟩ (.int .i64 (p.time + 1))).drew.setCell ⟨g2, k * 5 + 3, none⟩ (.int .i64 (p.time + 1))) g (stampF p k) (some ⟨g2, 0, none⟩) n c ∧ OwnDevs ((w.setCell ⟨g, 1, none⟩ (.int .i64 (p.time + 1))).drew.setCell ⟨g2, k * 5 + 3, none⟩ (.int .i64 (p.time + 1))) base (.slice (some ⟨g2, 0, none⟩) n c) (stampF p k).devs M ∧ Far (.slice (some ⟨g2, 0, none⟩) n c) (stampF p k).devs M g := by
  subst hn
  have hst := OwnP.stored (q := ⟨p.tx, p.time + 1, p.unit, p.data, p.devs⟩) (i := 1) (u := .int .i64 (p.time + 1)) h1 h3 h4 rfl rfl
  have hgg : g ≠ g2 := fun e => h4.1 (by rw [e]; rfl)
  refine ⟨?_, ?_, ?_⟩
  · exact (Below.heap_setCell (w.setCell ⟨g, 1, none⟩ (.int .i64 (p.time + 1))).drew ⟨g2, k * 5 + 3, none⟩ _ g hgg).trans hst.1
  · have h5 := hst.2.1.below (w' := (w.setCell ⟨g, 1, none⟩ (.int .i64 (p.time + 1))).drew) ⟨rfl, rfl, rfl, Nat.le_refl _, fun _ _ => rfl⟩
    exact OwnDevs.snap h5 hk _
  · refine ⟨h4.1, fun j hj => h4.2 j ?_⟩
    have : (stampF p k).devs.length = p.devs.length := by show (p.devs.set k _).length = _; rw [List.length_set]
    omega
theorem dpos_stamp {p : Pool} {k : Nat} (hk : k < p.devs.length) (id : Int) : dpos (stampF p k) id = dpos p id := by
  have hn : ∀ j, (nth dev0 (stampF p k).devs j).id = (nth dev0 p.devs j).id := fun j => by
    have := nthG_set dev0 p.devs k j (snapped (nth dev0 p.devs k) (p.time + 1)) hk
    show (nth dev0 (p.devs.set k _) j).id = _
    rw [this]
    split
    · rename_i h; rw [h]; rfl
    · rfl
  have hl : (stampF p k).devs.length = p.devs.length := by show (p.devs.set k _).length = _; rw [List.length_set]
  refine (posK_of (d := dev0) ?_ (fun j hj => ?_) (fun h => ?_)).symm
  · rw [hl]; exact posK_le
  · rw [hn]; exact posK_below j hj
  · rw [hn]; exact posK_at (by rw [hl] at h; exact h)
theorem maps_stamp {p : Pool} {k : Nat} (hk : k < p.devs.length) (j : Nat) : (nth dev0 (stampF p k).devs j).maps = (nth dev0 p.devs j).maps := by
  have := nthG_set dev0 p.devs k j (snapped (nth dev0 p.devs k) (p.time + 1)) hk
  show (nth dev0 (p.devs.set k _) j).maps = _
  rw [this]
  split
  · rename_i h; rw [h]; rfl
  · rfl
theorem len_stamp (p : Pool) (k : Nat) : (stampF p k).devs.length = p.devs.length := by show (p.devs.set k _).length = _; rw [List.length_set]
set_option maxRecDepth 100000 in
set_option maxHeartbeats 3200000 in
theorem snap_any (w : World) (base g : Nat) (p : Pool) (o : Mop) (h : OwnP w base g p) (hpc : poolChk p = 0) (hb : base ≤ w.heap.size) :
    Calls Tryz.prog 46 #[.pointer (some ⟨g, 0, none⟩), mopV o] w (DoIs w base g (snapF p o)) := by
  obtain ⟨A, c, M, h1, h2, h3, h4⟩ := h
  have hfit := fit_iff.1 hpc
  have hwb : Below w.heap.size w (w.alloc (.cells #[.int .i64 o.kind, .int .i64 o.dev, .int .i64 o.arg, .int .i64 o.n] 44)) := (Below.refl _ _).alloc (Nat.le_refl _) _
  have HMB := Lib.hid (fun w' (hB : Below (w.alloc (.cells #[.int .i64 o.kind, .int .i64 o.dev, .int .i64 o.arg, .int .i64 o.n] 44)).heap.size (w.alloc (.cells #[.int .i64 o.kind, .int .i64 o.dev, .int .i64 o.arg, .int .i64 o.n] 44)) w') => (MBox.new w o).below hB (MBox.new w o).lt)
  have HFR := Lib.hid (fun w' (hB : Below w.heap.size w w') => fresh_any w' base g p o.dev ⟨A, c, M, h1.below hB h1.lt, h2, h3.below hB, h4⟩ hpc)
  have HPL := Lib.hid (fun w' (hB : Below w.heap.size w w') => place_any w' base g p o.arg ⟨A, c, M, h1.below hB h1.lt, h2, h3.below hB, h4⟩ hpc)
  have HCT := Lib.hid (fun w' (hB : Below w.heap.size w w') => count_any w' (Btw base w'.heap.size) _ p (fun b hb => hb.2) (OwnP.isp (h3.below hB)) (by have := pool_len hpc; omega) (by have := hfit.2.2.1; omega))
  have HK := Lib.hid (fun w1 (hB : Below w.heap.size w w1) => (⟨h1.below hB h1.lt, h3.below hB⟩ : PBox w1 g p A p.devs.length c ∧ OwnDevs w1 base (.slice A p.devs.length c) p.devs M))
  have HFAR := Lib.hid h4
  have hgw := h1.lt
  have hnn := pool_len hpc
  have hhd := pool_head hpc
  have hcn := hfit.2.2.1
  have HT := Lib.hid (show snapF p o = if freshE p o.dev ≠ 0 then (freshE p o.dev, p) else if dhas p o.arg = false then (18, p)
    else if 4096 ≤ p.devs.length ∨ 16777215 ≤ p.time ∨ 16384 < p.count + (nth dev0 p.devs (dpos p o.arg)).maps.length then (2, p)
    else (0, addF (stampF p (dpos p o.arg)) o.dev (nth dev0 p.devs (dpos p o.arg)).maps) from rfl)
  have hat := fun hb => hasK_at (d := dev0) (v := o.arg) (incK_devs hpc) hb
  clear h1 h3 h4
  generalize snapF p o = r at *
  unfold mopV
  by_cases hf : freshE p o.dev = 0
  · rw [hf] at HFR
    cases hbb : dhas p o.arg with
    | false =>
      obtain rfl : r = (18, p) := by rw [HT.out, if_neg (by simp [hf]), if_pos hbb]
      rw [hbb] at HPL
      clear HT hat hbb hf HCT
      go_enter Tryz.func46, Tryz.ntmps46
      go_wp2_with (first
        | (go_at_call 72; refine (HFR.out _ hwb).mono ?_; rintro e w2 ⟨rfl, hB2⟩; have hk2 := hwb.trans (hB2.mono hwb.size); obtain ⟨y0, y1, y2, y3⟩ := (HMB.out _ hB2).cells)
        | (go_at_call 74; refine (HPL.out _ hk2).mono ?_; rintro e w3 ⟨rfl, hB3⟩; have hk3 := hk2.trans (hB3.mono hk2.size)))
      go_ret
      exact ⟨rfl, hk3.mono hb, fun h => by cases h⟩
    | true =>
      obtain ⟨hk, _⟩ := hat hbb
      have hk : dpos p o.arg < p.devs.length := hk
      rw [hbb] at HPL
      have hko := (HK.out w (Below.refl _ _)).2
      obtain ⟨g2, c2, hv, hbg2, hg2, _⟩ : ∃ g2 c2, (Value.slice A p.devs.length c) = .slice (some ⟨g2, 0, none⟩) p.devs.length c2 ∧ base ≤ g2 ∧ g2 < w.heap.size ∧ True := by
        obtain ⟨xs, r1, _⟩ := hko
        obtain ⟨g2, c2, h1, h2, h3, _⟩ := own_form r1 (by omega)
        exact ⟨g2, c2, h1, h2, h3, trivial⟩
      injection hv with e1 e2 e3
      subst e1 e3
      obtain ⟨_, _, _, Am, cm, hMk, hcm⟩ := hko.cellM hk
      have HKM := Lib.hid (fun w' (hB : Below w.heap.size w w') => (HK.out w' hB).2.cellM hk)
      simp only [hMk] at HKM
      have HMK := Lib.hid hMk
      have hgg : g ≠ g2 := fun e => HFAR.out.1 (by rw [e]; rfl)
      have hml : (nth dev0 p.devs (dpos p o.arg)).maps.length ≤ 16384 := by
        have h1 := countL_take p.devs _ hk
        have h2 := countL_take_le p.devs (dpos p o.arg + 1)
        have h3 := countL_nonneg (p.devs.take (dpos p o.arg))
        have h4 : countL p.devs ≤ 16384 := hcn
        omega
      have hcn0 : 0 ≤ p.count := countL_nonneg _
      have HDS := Lib.hid (dpos_stamp hk o.dev)
      clear hat hko hMk
      have HPF := Lib.hid (show dpos p o.arg = dpos p o.arg from rfl)
      by_cases hlim : 4096 ≤ p.devs.length ∨ 16777215 ≤ p.time ∨ 16384 < p.count + (nth dev0 p.devs (dpos p o.arg)).maps.length
      · obtain rfl : r = (2, p) := by rw [HT.out, if_neg (by simp [hf]), if_neg (by rw [hbb]; simp), if_pos hlim]
        clear HT hbb hf HPF HDS
        generalize dpos p o.arg = k at *
        generalize (nth dev0 p.devs k).maps.length = L at *
        generalize hnl : p.devs.length = n at *
        generalize p.count = pc at *
        have hl3 : (decide (4096 ≤ (n : Int)) = true) ∨ (decide (4096 ≤ (n : Int)) = false ∧ decide (16777215 ≤ p.time) = true) ∨ (decide (4096 ≤ (n : Int)) = false ∧ decide (16777215 ≤ p.time) = false ∧ decide (16384 < pc + (L : Int)) = true) := by
          simp only [decide_eq_true_eq, decide_eq_false_iff_not]; omega
        clear hnl hlim
        rcases hl3 with a1 | ⟨a1, a2⟩ | ⟨a1, a2, a3⟩
        all_goals
          go_enter Tryz.func46, Tryz.ntmps46
          go_wp2_with (first
            | (go_at_call 72; refine (HFR.out _ hwb).mono ?_; rintro e w2 ⟨rfl, hB2⟩; have hk2 := hwb.trans (hB2.mono hwb.size); obtain ⟨y0, y1, y2, y3⟩ := (HMB.out _ hB2).cells)
            | (go_at_call 74; refine (HPL.out _ hk2).mono ?_; rintro e w3 ⟨rfl, hB3⟩; have hk3 := hk2.trans (hB3.mono hk2.size); obtain ⟨x0, x1, x2, x3, x4⟩ := (HK.out _ hk3).1.cells; obtain ⟨z0, _⟩ := HKM.out _ hk3)
            | (go_at_call 13; refine (HCT.out _ hk3).mono ?_; rintro e w4 ⟨rfl, hB4⟩; have hk4 := hk3.trans (hB4.mono hk3.size)))
          go_ret
          first
            | exact ⟨rfl, hk4.mono hb, fun h => by cases h⟩
            | exact ⟨rfl, hk3.mono hb, fun h => by cases h⟩
      · obtain rfl : r = (0, addF (stampF p (dpos p o.arg)) o.dev (nth dev0 p.devs (dpos p o.arg)).maps) := by rw [HT.out, if_neg (by simp [hf]), if_neg (by rw [hbb]; simp), if_neg hlim]
        clear HT hbb hf HPF
        have hpc2 : poolChk (stampF p (dpos p o.arg)) = 0 := fit_iff.2 (stamp_fit hfit hk (by omega))
        have hmp2 := maps_stamp hk (dpos p o.arg)
        have hln2 := len_stamp p (dpos p o.arg)
        have HSO := Lib.hid (fun w' hB => stamp_own (w := w') (k := dpos p o.arg) rfl (HK.out w' hB).1 (HK.out w' hB).2 HFAR.out hk)
        have HSD := Lib.hid (fun w' hB => OwnP.stored (q := ⟨p.tx, p.time + 1, p.unit, p.data, p.devs⟩) (i := 1) (u := .int .i64 (p.time + 1)) (HK.out w' hB).1 (HK.out w' hB).2 HFAR.out rfl rfl)
        have HPC2 := Lib.hid hpc2
        have HMP2 := Lib.hid hmp2
        have HLN2 := Lib.hid hln2
        clear hpc2 hmp2 hln2 HDS
        generalize hq : addF (stampF p (dpos p o.arg)) o.dev (nth dev0 p.devs (dpos p o.arg)).maps = q at *
        have HQ := Lib.hid hq
        clear hq
        generalize hps : stampF p (dpos p o.arg) = ps at *
        have HPS := Lib.hid hps
        clear hps
        generalize dpos p o.arg = k at *
        generalize hmk : (nth dev0 p.devs k).maps = mk at *
        have HMK2 := Lib.hid hmk
        clear hmk
        generalize hL : mk.length = L at *
        have HL := Lib.hid hL
        clear hL
        generalize hnl : p.devs.length = n at *
        have HNL := Lib.hid hnl
        clear hnl
        generalize p.count = pc at *
        have a1 : decide (4096 ≤ (n : Int)) = false := by simp only [decide_eq_false_iff_not]; omega
        have a2 : decide (16777215 ≤ p.time) = false := by simp only [decide_eq_false_iff_not]; omega
        have a3 : decide (16384 < pc + (L : Int)) = false := by simp only [decide_eq_false_iff_not]; omega
        have hki : (k : Int) < (n : Int) := by omega
        clear hlim
        go_enter Tryz.func46, Tryz.ntmps46
        go_wp2_with (first
          | (go_at_call 72; refine (HFR.out _ hwb).mono ?_; rintro e w2 ⟨rfl, hB2⟩; have hk2 := hwb.trans (hB2.mono hwb.size); obtain ⟨y0, y1, y2, y3⟩ := (HMB.out _ hB2).cells)
          | (go_at_call 74; refine (HPL.out _ hk2).mono ?_; rintro e w3 ⟨rfl, hB3⟩; have hk3 := hk2.trans (hB3.mono hk2.size); obtain ⟨x0, x1, x2, x3, x4⟩ := (HK.out _ hk3).1.cells; obtain ⟨z0, _⟩ := HKM.out _ hk3)
          | (go_at_call 13; refine (HCT.out _ hk3).mono ?_; rintro e w4 ⟨rfl, hB4⟩; have hk4 := hk3.trans (hB4.mono hk3.size); clear x0 x1 x2 x3 x4; obtain ⟨x0, x1, x2, x3, x4⟩ := (HK.out _ hk4).1.cells; have hfr := (HK.out _ hk4).1.free 1))
        have hd5 := HSD.out w4 hk4
        have ho6 := HSO.out w4 hk4
        have hz5 : (w4.setCell ⟨g, 1, none⟩ (.int .i64 (p.time + 1))).cell? ⟨g2, k * 5 + 3, none⟩ = w4.cell? ⟨g2, k * 5 + 3, none⟩ := World.cell?_setCell_other _ _ _ _ (fun e => hgg (congrArg Addr.block e))
        obtain ⟨v5, hv5⟩ : ∃ v, w4.cell? ⟨g2, k * 5 + 3, none⟩ = some v := Option.isSome_iff_exists.1 (HKM.out w4 hk4).2.1
        rw [hv5] at hz5
        have hf5 : (w4.setCell ⟨g, 1, none⟩ (.int .i64 (p.time + 1))).frozen? ⟨g2, k * 5 + 3, none⟩ = false := by rw [World.frozen?_setCell]; exact (HKM.out w4 hk4).2.2.1 _
        have hb6 : Below base w ((w4.setCell ⟨g, 1, none⟩ (.int .i64 (p.time + 1))).drew.setCell ⟨g2, k * 5 + 3, none⟩ (.int .i64 (p.time + 1))) := ((((hk4.mono hb).setCell (p := ⟨g, 1, none⟩) h2 _).drew).setCell (p := ⟨g2, k * 5 + 3, none⟩) hbg2 _)
        have hm6 : MBox ((w4.setCell ⟨g, 1, none⟩ (.int .i64 (p.time + 1))).drew.setCell ⟨g2, k * 5 + 3, none⟩ (.int .i64 (p.time + 1))) w.heap.size o := by
          have hm4 := (HMB.out _ hB2).below (hB3.trans (hB4.mono hB3.size)) (HMB.out _ hB2).lt
          exact (Below.heap_setCell (w4.setCell ⟨g, 1, none⟩ (.int .i64 (p.time + 1))).drew ⟨g2, k * 5 + 3, none⟩ _ w.heap.size (by show w.heap.size ≠ g2; omega)).trans ((Below.heap_setCell w4 ⟨g, 1, none⟩ _ w.heap.size (by show w.heap.size ≠ g; omega)).trans hm4)
        have hsz6 : w.heap.size < ((w4.setCell ⟨g, 1, none⟩ (.int .i64 (p.time + 1))).drew.setCell ⟨g2, k * 5 + 3, none⟩ (.int .i64 (p.time + 1))).heap.size := hm6.lt
        obtain ⟨o1, o2, o3⟩ := ho6
        have hp5 := hd5.1
        clear hd5 hv5 x0 x1 x2 x3 x4 y0 y1 y2 y3 z0 hfr hwb HSD HSO HFR HPL HCT HK HKM HMB
        have HO2 := Lib.hid o2
        have HO1 := Lib.hid o1
        have HO3 := Lib.hid o3
        have HM6 := Lib.hid hm6
        have HB6 := Lib.hid hb6
        clear o1 o2 o3 hm6 hb6
        obtain ⟨w5, hw5⟩ : ∃ w5, w4.setCell ⟨g, 1, none⟩ (.int .i64 (p.time + 1)) = w5 := ⟨_, rfl⟩
        rw [hw5] at hz5 hf5 hp5 HO1 HO2 HM6 HB6 hsz6 ⊢
        clear hw5
        refine wp_region_till (T := fun j => j == 11) (S := fun w' => PBox w' g ⟨p.tx, p.time + 1, p.unit, p.data, p.devs⟩ (some ⟨g2, 0, none⟩) n c) (by kernel_rfl) (hp5) (fun hHeld => ?_)
        refine wpTill_put 0 63 (oi := _) (v := ?_) rfl rfl (by kernel_rfl) (by kernel_rfl) (by kernel_rfl) (by kernel_rfl) (fun _ _ _ h => h) (by rfl) hHeld ?_ ?_
        rotate_left
        · (intro w hSw; go_simp; (try with_reducible rfl))
        (try simp only [Act.put, List.setIfInBounds_toArray, List.set_cons_zero, List.set_cons_succ])
        refine wpTill_put 1 64 (oi := _) (v := ?_) rfl rfl (by kernel_rfl) (by kernel_rfl) (by kernel_rfl) (by kernel_rfl) (fun _ _ _ h => h) (by rfl) hHeld ?_ ?_
        rotate_left
        · (intro w hSw; go_simp; (try with_reducible rfl))
        (try simp only [Act.put, List.setIfInBounds_toArray, List.set_cons_zero, List.set_cons_succ])
        refine wpTill_put 2 65 (oi := _) (v := ?_) rfl rfl (by kernel_rfl) (by kernel_rfl) (by kernel_rfl) (by kernel_rfl) (fun _ _ _ h => h) (by rfl) hHeld ?_ ?_
        rotate_left
        · (intro w hSw; go_simp; (try with_reducible rfl))
        (try simp only [Act.put, List.setIfInBounds_toArray, List.set_cons_zero, List.set_cons_succ])
        refine wpTill_put 3 66 (oi := _) (v := ?_) rfl rfl (by kernel_rfl) (by kernel_rfl) (by kernel_rfl) (by kernel_rfl) (fun _ _ _ h => h) (by rfl) hHeld ?_ ?_
        rotate_left
        · (intro w hSw; obtain ⟨l0, l1, l2, l3, l4⟩ := PBox.cells hSw; go_simp; (try with_reducible rfl))
        (try simp only [Act.put, List.setIfInBounds_toArray, List.set_cons_zero, List.set_cons_succ])
        refine wpTill_put 4 67 (oi := _) (v := ?_) rfl rfl (by kernel_rfl) (by kernel_rfl) (by kernel_rfl) (by kernel_rfl) (fun _ _ _ h => h) (by rfl) hHeld ?_ ?_
        rotate_left
        · (intro w hSw; go_simp; (try with_reducible rfl))
        (try simp only [Act.put, List.setIfInBounds_toArray, List.set_cons_zero, List.set_cons_succ])
        refine wpTill_put 5 68 (oi := _) (v := ?_) rfl rfl (by kernel_rfl) (by kernel_rfl) (by kernel_rfl) (by kernel_rfl) (fun _ _ _ h => h) (by rfl) hHeld ?_ ?_
        rotate_left
        · (intro w hSw; go_simp; (try with_reducible rfl))
        (try simp only [Act.put, List.setIfInBounds_toArray, List.set_cons_zero, List.set_cons_succ])
        refine wpTill_put 6 69 (oi := _) (v := ?_) rfl rfl (by kernel_rfl) (by kernel_rfl) (by kernel_rfl) (by kernel_rfl) (fun _ _ _ h => h) (by rfl) hHeld ?_ ?_
        rotate_left
        · (intro w hSw; go_simp; (try with_reducible rfl))
        (try simp only [Act.put, List.setIfInBounds_toArray, List.set_cons_zero, List.set_cons_succ])
        refine wpTill_put 7 70 (oi := _) (v := ?_) rfl rfl (by kernel_rfl) (by kernel_rfl) (by kernel_rfl) (by kernel_rfl) (fun _ _ _ h => h) (by rfl) hHeld ?_ ?_
        rotate_left
        · (intro w hSw; go_simp; (try with_reducible rfl))
        (try simp only [Act.put, List.setIfInBounds_toArray, List.set_cons_zero, List.set_cons_succ])
        refine wpTill_put 8 71 (oi := _) (v := ?_) rfl rfl (by kernel_rfl) (by kernel_rfl) (by kernel_rfl) (by kernel_rfl) (fun _ _ _ h => h) (by rfl) hHeld ?_ ?_
        rotate_left
        · (intro w hSw; obtain ⟨l0, l1, l2, l3, l4⟩ := PBox.cells hSw; go_simp; (try with_reducible rfl))
        (try simp only [Act.put, List.setIfInBounds_toArray, List.set_cons_zero, List.set_cons_succ])
        refine wpTill_one 9 (o := _) (by kernel_rfl) rfl (fun K hK => ?_)
        go_simp
        refine hK.out _ _ (fun _ => hHeld) (fun _ => ?_)
        clear hK K
        (try simp only [Act.put, List.setIfInBounds_toArray])
        refine wpTill_put 10 73 (oi := _) (v := ?_) rfl rfl (by kernel_rfl) (by kernel_rfl) (by kernel_rfl) (by kernel_rfl) (fun _ _ _ h => h) (by rfl) hHeld ?_ ?_
        rotate_left
        · (intro w hSw; go_simp; (try with_reducible rfl))
        (try simp only [Act.put, List.setIfInBounds_toArray, List.set_cons_zero, List.set_cons_succ])
        refine wpTill_one 11 (o := _) (by kernel_rfl) rfl (fun K hK => ?_)
        go_simp
        refine hK.out _ _ (fun h => by cases h) (fun _ => ?_)
        clear hK K hHeld
        (try simp only [Act.put, List.setIfInBounds_toArray])
        refine wpTill_done (by kernel_rfl) ?_ _
        go_wp2_with fail
        rw [World.setCell_drew] at HO1 HO2 HM6 HB6 hsz6
        obtain ⟨w6, hw6⟩ : ∃ w6, (w5.setCell ⟨g2, k * 5 + 3, none⟩ (.int .i64 (p.time + 1))).drew = w6 := ⟨_, rfl⟩
        rw [hw6] at HO1 HO2 HM6 HB6 hsz6 ⊢
        clear hw6 hp5 hz5 hf5
        have hps2 : ps.devs.length = n := by rw [HLN2.out]
        have HOM := Lib.hid (show OwnMaps w6 base (.slice Am L cm) mk from by
          obtain ⟨xs, _, hc, _⟩ := HO2.out
          have h := (hc k (by rw [hps2]; exact hk)).2.1
          rw [HMK.out] at h
          have e : (nth dev0 ps.devs k).maps = mk := HMP2.out
          rw [e] at h
          exact h)
        have HSL := Lib.hid (HOM.out.isl (S := Btw base w6.heap.size) (fun b h1 h2 => ⟨h1, h2⟩))
        have HMB7 := HM6
        have hm6 := HM6.out
        have hs6 : w6.drew.heap.size = w6.heap.size := rfl
        have hk6 : PBox w6 g ps (some ⟨g2, 0, none⟩) ps.devs.length c := by rw [hps2]; exact HO1.out
        have hd6 : OwnDevs w6 base (.slice (some ⟨g2, 0, none⟩) ps.devs.length c) ps.devs M := by rw [hps2]; exact HO2.out
        have hf6 : Far (.slice (some ⟨g2, 0, none⟩) ps.devs.length c) ps.devs M g := by rw [hps2]; exact HO3.out
        have HAD := Lib.hid (fun w7 A7 c7 (hB7 : Below w6.heap.size w6 w7) (ho7 : OwnMaps w7 w6.heap.size (.slice A7 mk.length c7) mk) => add_any w7 base g c ps (some ⟨g2, 0, none⟩) M o.dev (.slice A7 mk.length c7) mk (hk6.below hB7 hk6.lt) h2 (hd6.below hB7) hf6 HPC2.out (own_low ho7 (by have := HB6.out.size; omega))
          (fun x hx e => by have h1 := (ho7.lt x hx).1; have h2 : g2 = x := by simpa [Value.ownBlock] using e.symm
                            have := HB6.out.size; omega)
          (fun j hj x hx e => by have h1 := (ho7.lt x hx).1; have h2 := (hd6.lt.2 j hj x e.symm).2; omega)
          (fun e => by have h1 := (ho7.lt g e).1; have := hk6.lt; omega) (by have := HB6.out.size; have := hB7.size; omega))
        unfold AddIs at HAD
        have HCL := Lib.hid (cloneMaps_own w6.drew (Btw base w6.heap.size) (.slice Am L cm) mk (fun b hb => hb.2) (HSL.out) (by rw [HL.out]; omega))
        rw [HL.out] at HCL HAD
        clear hk6 hd6 hf6 HO1 HO2 HO3 HSL HOM
        refine wp_region_till (T := fun _ => false) (S := fun w' => MBox w' w.heap.size o) (by kernel_rfl) (hm6) (fun hHeld => ?_)
        refine wpTill_put 0 74 (oi := _) (v := ?_) rfl rfl (by kernel_rfl) (by kernel_rfl) (by kernel_rfl) (by kernel_rfl) (fun _ _ _ h => h) (by rfl) hHeld ?_ ?_
        rotate_left
        · (intro w hSw; go_simp; (try with_reducible rfl))
        (try simp only [Act.put, List.setIfInBounds_toArray, List.set_cons_zero, List.set_cons_succ])
        refine wpTill_put 1 75 (oi := _) (v := ?_) rfl rfl (by kernel_rfl) (by kernel_rfl) (by kernel_rfl) (by kernel_rfl) (fun _ _ _ h => h) (by rfl) hHeld ?_ ?_
        rotate_left
        · (intro w hSw; go_simp; (try with_reducible rfl))
        (try simp only [Act.put, List.setIfInBounds_toArray, List.set_cons_zero, List.set_cons_succ])
        refine wpTill_put 2 76 (oi := _) (v := ?_) rfl rfl (by kernel_rfl) (by kernel_rfl) (by kernel_rfl) (by kernel_rfl) (fun _ _ _ h => h) (by rfl) hHeld ?_ ?_
        rotate_left
        · (intro w hSw; obtain ⟨y0, y1, y2, y3⟩ := MBox.cells hSw; go_simp; (try with_reducible rfl))
        (try simp only [Act.put, List.setIfInBounds_toArray, List.set_cons_zero, List.set_cons_succ])
        refine wpTill_put 3 77 (oi := _) (v := ?_) rfl rfl (by kernel_rfl) (by kernel_rfl) (by kernel_rfl) (by kernel_rfl) (fun _ _ _ h => h) (by rfl) hHeld ?_ ?_
        rotate_left
        · (intro w hSw; go_simp; (try with_reducible rfl))
        (try simp only [Act.put, List.setIfInBounds_toArray, List.set_cons_zero, List.set_cons_succ])
        refine wpTill_one 4 (o := _) (by kernel_rfl) rfl (fun K hK => ?_)
        go_simp
        refine (HCL.out).mono ?_
        rintro e w7 ⟨A7, c7, rfl, ho7, hB7⟩
        have hB7 : Below w6.heap.size w6 w7 := ⟨hB7.os, hB7.tape, hB7.output, hB7.size, hB7.block⟩
        have HO7 := Lib.hid ho7
        have hm7 := hm6.below hB7 hm6.lt
        have hHeld := hm7
        refine hK.out _ _ (fun _ => hHeld) (fun _ => ?_)
        clear hK K
        (try simp only [Act.put, List.setIfInBounds_toArray])
        refine wpTill_one 5 (o := _) (by kernel_rfl) rfl (fun K hK => ?_)
        go_simp
        refine (HAD.out _ _ _ hB7 HO7.out).mono ?_
        rintro e w8 ⟨rfl, hO8, hB8, hF8⟩
        have hm8 : MBox w8 w.heap.size o := (hF8 _ hm7.lt (by omega) (by intro e; simp [Value.ownBlock] at e; omega)).trans hm7
        have hHeld := hm8
        refine hK.out _ _ (fun _ => hHeld) (fun _ => ?_)
        clear hK K
        (try simp only [Act.put, List.setIfInBounds_toArray])
        refine wpTill_done (by kernel_rfl) ?_ _
        go_wp2_with fail
        go_ret
        exact ⟨rfl, (HB6.out.trans (hB7.mono (by have := HB6.out.size; omega))).trans hB8, fun _ => by rw [HQ.out] at hO8; exact hO8⟩
  · obtain rfl : r = (freshE p o.dev, p) := by rw [HT.out, if_pos hf]
    generalize freshE p o.dev = fe at *
    have hf2 : (fe == 0) = false := by simpa using hf
    have hf3 : (fe != 0) = true := by simpa using hf
    clear HT hat HCT HPL
    go_enter Tryz.func46, Tryz.ntmps46
    go_wp2_with (go_at_call 72; refine (HFR.out _ hwb).mono ?_; rintro e w2 ⟨rfl, hB2⟩; have hk2 := hwb.trans (hB2.mono hwb.size))
    go_ret
    exact ⟨rfl, hk2.mono hb, fun h => absurd h hf⟩
end Go.Proofs.YtcdfbpdejbpgjaaGreat
