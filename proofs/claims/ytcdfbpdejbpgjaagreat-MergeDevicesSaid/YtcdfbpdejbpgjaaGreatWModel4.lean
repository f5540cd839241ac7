/- model.tick, grow, remove. Condition: the pool may be, and lies in memory of the call's own. -/
import Derived.Test.YtcdfbpdejbpgjaaGreatWModel3
namespace Go.Proofs.YtcdfbpdejbpgjaaGreat
open Go.RowKit
attribute [local go_sem] Oper.semAt_some

set_option maxRecDepth 100000 in
set_option maxHeartbeats 1600000 in
theorem tick_any (w : World) (base g : Nat) (p : Pool) (o : Mop) (h : OwnP w base g p) (hpc : poolChk p = 0) (hb : base ≤ w.heap.size) :
    Calls Tryz.prog 50 #[.pointer (some ⟨g, 0, none⟩), mopV o] w (DoIs w base g (tickF p)) := by
  obtain ⟨A, c, M, h1, h2, h3, h4⟩ := h
  have hwb : Below w.heap.size w (w.alloc (.cells #[.int .i64 o.kind, .int .i64 o.dev, .int .i64 o.arg, .int .i64 o.n] 44)) := (Below.refl _ _).alloc (Nat.le_refl _) _
  obtain ⟨x0, x1, x2, x3, x4⟩ := (h1.below hwb h1.lt).cells
  have hfr := (h1.below hwb h1.lt).free 0
  have hst := OwnP.stored (q := ⟨p.tx + 1, p.time, p.unit, p.data, p.devs⟩) (i := 0) (u := .int .i64 (p.tx + 1)) (h1.below hwb h1.lt) (h3.below hwb) h4 rfl rfl
  have HST := Lib.hid (⟨A, c, M, hst.1, h2, hst.2.1, hst.2.2⟩ : OwnP _ base g _)
  have hh := pool_head hpc
  have hBf := (hwb.mono hb).setCell (p := ⟨g, 0, none⟩) h2 (.int .i64 (p.tx + 1))
  have HT := Lib.hid (show tickF p = if 2147483647 ≤ p.tx then (2, p) else (0, ⟨p.tx + 1, p.time, p.unit, p.data, p.devs⟩) from rfl)
  clear h1 h3 h4 hst
  generalize tickF p = r at *
  unfold mopV
  by_cases ht : 2147483647 ≤ p.tx
  · obtain rfl : r = (2, p) := by rw [HT.out, if_pos ht]
    clear HT
    go_enter Tryz.func50, Tryz.ntmps50
    go_wp2_with fail
    go_ret
    exact ⟨rfl, hwb.mono hb, fun h => by cases h⟩
  · obtain rfl : r = (0, ⟨p.tx + 1, p.time, p.unit, p.data, p.devs⟩) := by rw [HT.out, if_neg ht]
    have ht2 : p.tx < 2147483647 := by omega
    clear HT
    go_enter Tryz.func50, Tryz.ntmps50
    go_wp2_with fail
    go_ret
    exact ⟨rfl, hBf, fun _ => HST.out⟩
set_option maxRecDepth 100000 in
set_option maxHeartbeats 1600000 in
theorem grow_any (w : World) (base g : Nat) (p : Pool) (o : Mop) (h : OwnP w base g p) (hpc : poolChk p = 0) (hb : base ≤ w.heap.size) :
    Calls Tryz.prog 51 #[.pointer (some ⟨g, 0, none⟩), mopV o] w (DoIs w base g (growF p o)) := by
  obtain ⟨A, c, M, h1, h2, h3, h4⟩ := h
  have hwb : Below w.heap.size w (w.alloc (.cells #[.int .i64 o.kind, .int .i64 o.dev, .int .i64 o.arg, .int .i64 o.n] 44)) := (Below.refl _ _).alloc (Nat.le_refl _) _
  have hwbd : ∀ n, Below w.heap.size w ((w.alloc (.cells #[.int .i64 o.kind, .int .i64 o.dev, .int .i64 o.arg, .int .i64 o.n] 44)).drewN n) := fun n => hwb.trans ⟨rfl, rfl, rfl, Nat.le_refl _, fun _ _ => rfl⟩
  obtain ⟨x0, x1, x2, x3, x4⟩ := (h1.below hwb h1.lt).cells
  have hfr := (h1.below hwb h1.lt).free 3
  have hh := pool_head hpc
  have HST := Lib.hid (fun w' (hB : Below w.heap.size w w') => (by
    have hst := OwnP.stored (q := ⟨p.tx, p.time, p.unit, o.n, p.devs⟩) (i := 3) (u := .int .i64 o.n) (h1.below hB h1.lt) (h3.below hB) h4 rfl rfl
    exact ⟨⟨A, c, M, hst.1, h2, hst.2.1, hst.2.2⟩, (hB.mono hb).setCell (p := ⟨g, 3, none⟩) h2 (.int .i64 o.n)⟩ : OwnP (w'.setCell ⟨g, 3, none⟩ (.int .i64 o.n)) base g ⟨p.tx, p.time, p.unit, o.n, p.devs⟩ ∧ Below base w (w'.setCell ⟨g, 3, none⟩ (.int .i64 o.n))))
  have HT := Lib.hid (show growF p o = if o.n < p.data ∨ 65536 < o.n then (2, p) else (0, ⟨p.tx, p.time, p.unit, o.n, p.devs⟩) from rfl)
  have hgn : g ≠ w.heap.size := by have := h1.lt; omega
  clear h1 h3 h4
  generalize growF p o = r at *
  unfold mopV
  by_cases ht : o.n < p.data ∨ 65536 < o.n
  · obtain rfl : r = (2, p) := by rw [HT.out, if_pos ht]
    clear HT
    by_cases h1 : o.n < p.data
    · have h1' : decide (o.n < p.data) = true := by simpa using h1
      clear ht
      go_enter Tryz.func51, Tryz.ntmps51
      go_wp2_with fail
      go_quiet (fail)
      go_wp2_with fail
      go_ret
      exact ⟨rfl, (hwb.mono hb).trans ⟨rfl, rfl, rfl, Nat.le_refl _, fun _ _ => rfl⟩, fun h => by cases h⟩
    · have h1' : decide (o.n < p.data) = false := by simpa using h1
      have h2' : 65536 < o.n := by omega
      clear ht
      go_enter Tryz.func51, Tryz.ntmps51
      go_wp2_with fail
      go_quiet (fail)
      go_wp2_with fail
      go_ret
      exact ⟨rfl, (hwb.mono hb).trans ⟨rfl, rfl, rfl, Nat.le_refl _, fun _ _ => rfl⟩, fun h => by cases h⟩
  · obtain rfl : r = (0, ⟨p.tx, p.time, p.unit, o.n, p.devs⟩) := by rw [HT.out, if_neg ht]
    have h1' : decide (o.n < p.data) = false := by simp; omega
    have h2' : decide (65536 < o.n) = false := by simp; omega
    clear HT ht
    go_enter Tryz.func51, Tryz.ntmps51
    go_wp2_with fail
    go_quiet (fail)
    go_wp2_with fail
    go_ret
    exact ⟨rfl, (HST.out _ (hwbd _)).2, fun _ => (HST.out _ (hwbd _)).1⟩
/-- What remove's deletion and store leave. -/
theorem rem_close {w w1 w2 : World} {base g g2 n m c k : Nat} {p : Pool} {M : Nat → Value} {xs : List Value} (hn : p.devs.length = n) (hnm : n = m + 1)
    (hb : base ≤ w.heap.size) (hB1 : Below w.heap.size w w1) (hg : base ≤ g) (hgw : g < w.heap.size) (h2 : PBox w1 g p (some ⟨g2, 0, none⟩) n c)
    (hr : w1.ownsRow base 36 5 (.slice (some ⟨g2, 0, none⟩) n c) n xs) (hc : ∀ j, j < n → DevCells xs j (nth dev0 p.devs j) (M j) ∧ OwnMaps w1 base (M j) (nth dev0 p.devs j).maps ∧ (∀ g, (M j).ownBlock = some g → some g ≠ (Value.slice (some ⟨g2, 0, none⟩) n c).ownBlock))
    (hap : ∀ i j, i < n → j < n → i ≠ j → ∀ g, (M j).ownBlock = some g → some g ≠ (M i).ownBlock) (hf : Far (.slice (some ⟨g2, 0, none⟩) n c) p.devs M g)
    (hk : k < n) (hgrow : w1.grownBy w2 (some g2))
    (ho2 : w2.ownsRow base 36 5 (.slice (some ⟨g2, 0, none⟩) m c) m (delC xs (k * 5) 5)) :
    OwnP (w2.setCell ⟨g, 4, none⟩ (.slice (some ⟨g2, 0, none⟩) m c)) base g (withDevs p (delAt p.devs k)) ∧ Below base w (w2.setCell ⟨g, 4, none⟩ (.slice (some ⟨g2, 0, none⟩) m c)) := by
  subst hn
  have hz1 := hB1.size
  have hlen : (delAt p.devs k).length = m := by have := delAt_length p.devs k hk; omega
  have hgg : g2 ≠ g := fun e => hf.1 (by rw [← e]; rfl)
  have hdel := OwnDevs.del (l := p.devs) (i := k) (n := m) hr hc hap hk hgrow hnm.symm ho2
  have h2' : PBox w2 g p (some ⟨g2, 0, none⟩) p.devs.length c := (hgrow.block g (by omega) (fun e => hgg (by injection e with e; exact e.symm))).trans h2
  have hfar : Far (.slice (some ⟨g2, 0, none⟩) m c) (delAt p.devs k) (fun j => if j < k then M j else M (j + 1)) g := by
    refine ⟨fun e => hgg (by simpa [Value.ownBlock] using e), fun j hj => ?_⟩
    simp only
    by_cases h1 : j < k
    · rw [if_pos h1]; exact hf.2 j (by omega)
    · rw [if_neg h1]; exact hf.2 (j + 1) (by omega)
  refine ⟨⟨some ⟨g2, 0, none⟩, c, fun j => if j < k then M j else M (j + 1), ?_, hg, ?_, ?_⟩, ?_⟩
  · unfold PBox at h2' ⊢
    show _ = some (Obj.cells #[.int .i64 p.tx, .int .i64 p.time, .int .i64 p.unit, .int .i64 p.data, .slice (some ⟨g2, 0, none⟩) (delAt p.devs k).length c] _ _)
    rw [hlen]
    simp [World.setCell, Array.getElem?_modify, h2']
  · show OwnDevs _ base (.slice (some ⟨g2, 0, none⟩) (delAt p.devs k).length c) (delAt p.devs k) _
    rw [hlen]
    exact hdel.kept (grownBy_set w2 ⟨g, 4, none⟩ _) hfar
  · show Far (.slice (some ⟨g2, 0, none⟩) (delAt p.devs k).length c) (delAt p.devs k) _ g
    rw [hlen]
    exact hfar
  · exact ((hB1.mono hb).grown hgrow (by omega) (fun x hx => (hr.lt x hx).1)).setCell (p := ⟨g, 4, none⟩) hg _
set_option maxRecDepth 100000 in
set_option maxHeartbeats 1600000 in
theorem remove_any (w : World) (base g : Nat) (p : Pool) (o : Mop) (h : OwnP w base g p) (hpc : poolChk p = 0) (hb : base ≤ w.heap.size) :
    Calls Tryz.prog 47 #[.pointer (some ⟨g, 0, none⟩), mopV o] w (DoIs w base g (removeF p o)) := by
  obtain ⟨A, c, M, h1, h2, h3, h4⟩ := h
  have hwb : Below w.heap.size w (w.alloc (.cells #[.int .i64 o.kind, .int .i64 o.dev, .int .i64 o.arg, .int .i64 o.n] 44)) := (Below.refl _ _).alloc (Nat.le_refl _) _
  have HPL := Lib.hid (fun w' (hB : Below w.heap.size w w') => place_any w' base g p o.dev ⟨A, c, M, h1.below hB h1.lt, h2, h3.below hB, h4⟩ hpc)
  have HT := Lib.hid (show removeF p o = if dhas p o.dev = false then (18, p) else (0, withDevs p (delAt p.devs (dpos p o.dev))) from rfl)
  have hat := fun hb => hasK_at (d := dev0) (v := o.dev) (incK_devs hpc) hb
  have hgw := h1.lt
  have hnn := pool_len hpc
  have HK := Lib.hid (fun w1 (hB : Below w.heap.size w w1) => (⟨h1.below hB h1.lt, h3.below hB⟩ : PBox w1 g p A p.devs.length c ∧ OwnDevs w1 base (.slice A p.devs.length c) p.devs M))
  have HFAR := Lib.hid h4
  clear h1 h3 h4
  generalize removeF p o = r at *
  unfold mopV
  cases hbb : dhas p o.dev with
  | false =>
    obtain rfl : r = (18, p) := by rw [HT.out, if_pos hbb]
    rw [hbb] at HPL
    clear HT hat hbb
    go_enter Tryz.func47, Tryz.ntmps47
    go_wp2_with (go_at_call 74; refine (HPL.out _ hwb).mono ?_; rintro e w1 ⟨rfl, hB1⟩)
    go_ret
    exact ⟨rfl, (hwb.trans (hB1.mono hwb.size)).mono hb, fun h => by cases h⟩
  | true =>
    obtain ⟨hk, _⟩ := hat hbb
    have hk : dpos p o.dev < p.devs.length := hk
    obtain rfl : r = (0, withDevs p (delAt p.devs (dpos p o.dev))) := by rw [HT.out, if_neg (by rw [hbb]; simp)]
    rw [hbb] at HPL
    clear HT hat hbb
    have HQ := Lib.hid (show withDevs p (delAt p.devs (dpos p o.dev)) = withDevs p (delAt p.devs (dpos p o.dev)) from rfl)
    generalize hq : withDevs p (delAt p.devs (dpos p o.dev)) = q at *
    have HQ2 := Lib.hid hq.symm
    clear hq HQ
    generalize dpos p o.dev = k at *
    generalize hnl : p.devs.length = n at *
    have HNL := Lib.hid hnl
    clear hnl
    obtain ⟨m, hm⟩ : ∃ m, n = m + 1 := ⟨n - 1, by omega⟩
    subst hm
    go_enter Tryz.func47, Tryz.ntmps47
    go_wp2_with (go_at_call 74; refine (HPL.out _ hwb).mono ?_; rintro e w1 ⟨rfl, hB1⟩; have hk1 := hwb.trans (hB1.mono hwb.size); obtain ⟨k1, k2⟩ := HK.out _ hk1; obtain ⟨xs, r1, r2, r3⟩ := k2; rw [HNL.out] at r1 r2 r3; obtain ⟨g2, c2, hv, _⟩ := own_form r1 (by omega); injection hv with e1 e2 e3; subst e1 e3; have hxl := own_len r1; have hx1 := devs_one (by rw [HNL.out]; exact hxl) (fun j hj => ⟨(r2 j (by rw [← HNL.out]; exact hj)).1, (r2 j (by rw [← HNL.out]; exact hj)).2.1⟩); have HR := Lib.hid r1; have HR2 := Lib.hid r2; have HR3 := Lib.hid r3; have hgf : g2 ≠ g := (fun e => HFAR.out.1 (by rw [← e]; rfl)); have HDL := Lib.hid (delD_any w1 base g2 c m k xs r1 hk hx1); unfold DelD at HDL; rw [Nat.add_sub_cancel] at HDL; clear r1 r2 r3; obtain ⟨x0, x1, x2, x3, x4⟩ := PBox.cells k1)
    refine HDL.out.mono ?_
    rintro e w2 ⟨rfl, ho2, hg2⟩
    have k2 : PBox w2 g p (some ⟨g2, 0, none⟩) (m + 1) c := (hg2.block g k1.lt (fun e => hgf (by injection e with e; exact e.symm))).trans k1
    have hfr := k2.free 4
    clear x0 x1 x2 x3 x4
    obtain ⟨x0, x1, x2, x3, x4⟩ := k2.cells
    go_wp2_with fail
    go_ret
    have hcl := rem_close HNL.out rfl hb hk1 h2 hgw k1 HR.out HR2.out HR3.out HFAR.out hk hg2 ho2
    rw [← HQ2.out] at hcl
    exact ⟨rfl, hcl.2, fun _ => hcl.1⟩
end Go.Proofs.YtcdfbpdejbpgjaaGreat
