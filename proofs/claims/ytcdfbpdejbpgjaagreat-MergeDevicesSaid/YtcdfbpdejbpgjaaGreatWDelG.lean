/- slices.DeleteFunc at mappings of the call's own, by a predicate that reads one block: and nothing else is touched. Condition: the slice is within the reach. -/
import Derived.Test.YtcdfbpdejbpgjaaGreatWDelF
namespace Go.Proofs.YtcdfbpdejbpgjaaGreat
open Go.RowKit Go.Shelf
attribute [local go_sem] Oper.semAt_some

/-- What a function value says of a mapping, in every world in which block bo is as it was. -/
def PredB (g : Nat) (cb : Array Value) (pf : Mp → Bool) (bo : Nat) (ob : Obj) : Prop :=
  ∀ w' : World, w'.heap[bo]? = some ob → ∀ m : Mp, Calls Tryz.prog g (#[.agg #[.int .i64 m.v, .int .i64 m.b, .int .i64 m.t]] ++ cb) w' fun e w'' => e = .returned (.bool (pf m)) ∧ Below w'.heap.size w' w''
theorem PredB.is {g bo : Nat} {cb : Array Value} {pf : Mp → Bool} {ob : Obj} {w : World} (h : PredB g cb pf bo ob) (hb : w.heap[bo]? = some ob) : PredIs g cb pf w.heap.size w :=
  fun w' hB => h w' ((hB.block bo (Array.getElem?_eq_some_iff.1 hb).1).trans hb)
theorem grown_belowB {w w1 w2 : World} {r : Option Nat} (h : w.grownBy w1 r) (hB : Below w1.heap.size w1 w2) : w.grownBy w2 r :=
  ⟨hB.os.trans h.os, hB.tape.trans h.tape, hB.output.trans h.output, Nat.le_trans h.size hB.size, fun k hk hne => (hB.block k (by have := h.size; omega)).trans (h.block k hk hne)⟩
theorem grown_set1 {w w1 : World} {g i : Nat} {u : Value} (h : w.grownBy w1 (some g)) : w.grownBy (w1.setCell ⟨g, i, none⟩ u) (some g) := grown_trans h ⟨rfl, rfl, rfl, by simp [World.setCell], fun k _ hne => Below.heap_setCell w1 ⟨g, i, none⟩ u k (fun e => hne (by rw [e]))⟩
def DelOwn (pf : Mp → Bool) (l : List Mp) (A : Option Addr) (n c base : Nat) (w : World) (e : Ending) (w' : World) : Prop :=
  e = .returned (.slice A (l.filter fun m => !pf m).length c) ∧ w'.ownsRow base 40 3 (.slice A (l.filter fun m => !pf m).length c) (l.filter fun m => !pf m).length (flats Mp.enc (l.filter fun m => !pf m)) ∧ Below base w w' ∧ w.grownBy w' (Value.slice A n c).ownBlock
set_option maxRecDepth 100000 in
set_option maxHeartbeats 3200000 in
theorem deleteOwn_any (w : World) (base : Nat) (A : Option Addr) (n c : Nat) (l : List Mp) (g : Nat) (cb : Array Value) (pf : Mp → Bool) (bo : Nat) (ob : Obj) (hown : w.ownsRow base 40 3 (.slice A n c) n (flats Mp.enc l)) (hlen : l.length = n) (hl1 : n ≤ 140737488355328)
    (eg : ∀ args w, (callFunc g args).run Tryz.prog w = .ok (.enter g args) w) (hbo : w.heap[bo]? = some ob) (hbg : (Value.slice A n c).ownBlock ≠ some bo) (hbase : base ≤ w.heap.size) (hp : PredB g cb pf bo ob) :
    Calls Tryz.prog 35 #[.slice A n c, .func (.func g) #[] cb] w (DelOwn pf l A n c base w) := by
  have hsl := IsSl.own (d := mp0) Mp.enc_len hown (by omega)
  have hix := indexFunc_any w (Btw base w.heap.size) _ l g cb pf w.heap.size w (fun b hb => hb.2) hsl (by omega) eg (Below.refl _ _) (Nat.le_refl _) (hp.is hbo)
  have HP := Lib.hid hp
  have HBO := Lib.hid hbo
  have hbl : bo < w.heap.size := (Array.getElem?_eq_some_iff.1 hbo).1
  clear hbo
  have HOWN := Lib.hid hown
  have HN := Lib.hid hlen
  clear hsl hp hown hlen
  by_cases hall : ∀ j, j < l.length → pf (nth mp0 l j) = false
  · have hix1 : Calls Tryz.prog 58 #[.slice A n c, .func (.func g) #[] cb] w fun e w' => e = .returned (.int .i64 (-1)) ∧ Below w.heap.size w w' := hix.mono fun e w' h => ⟨by
      rcases h.1 with h | ⟨k, _, h2, h3, _⟩
      · exact h.1
      · exact absurd h3 (by rw [hall k h2]; simp), h.2⟩
    have HIX := Lib.hid hix1
    have hfil : l.filter (fun m => !pf m) = l := List.filter_eq_self.2 fun m hm => by
      obtain ⟨j, hj, rfl⟩ := List.mem_iff_getElem.1 hm
      have := hall j hj
      rw [nth_get mp0 l j hj] at this
      rw [this]; rfl
    have HF := Lib.hid hfil
    clear hix hix1 hall hfil
    go_enter Tryz.func35, Tryz.ntmps35
    go_wp2_with (go_at_call 58; refine HIX.out.mono ?_; rintro e w1 ⟨rfl, hB1⟩)
    go_ret
    unfold DelOwn
    rw [HF.out, HN.out]
    exact ⟨rfl, HOWN.out.below_ hB1, hB1.mono hbase, grown_belowB (World.grownBy.refl w _) hB1⟩
  · have hex : ∃ k : Nat, k < l.length ∧ pf (nth mp0 l k) = true ∧ ∀ j, j < k → pf (nth mp0 l j) = false := by
      refine Classical.byContradiction fun hno => hall fun j => ?_
      induction j using Nat.strongRecOn
      rename_i j ih
      intro hj
      cases hq : pf (nth mp0 l j) with
      | false => rfl
      | true => exact absurd ⟨j, hj, hq, fun i hi => ih i hi (by omega)⟩ hno
    obtain ⟨k, hk, hk1, hk2⟩ := hex
    have hix1 : Calls Tryz.prog 58 #[.slice A n c, .func (.func g) #[] cb] w fun e w' => e = .returned (.int .i64 (k : Nat)) ∧ Below w.heap.size w w' := hix.mono fun e w' h => ⟨by
      rcases h.1 with h | ⟨q, h1, h2, h3, h4⟩
      · rw [h.2 k hk] at hk1; cases hk1
      · have : q = k := by
          rcases Nat.lt_trichotomy q k with h | h | h
          · rw [hk2 q h] at h3; cases h3
          · exact h
          · rw [h4 k h] at hk1; cases hk1
        rw [h1, this], h.2⟩
    have HIX := Lib.hid hix1
    have HD := Lib.hid (Del.start hk hk1 hk2)
    obtain ⟨g0, rfl, hg0⟩ : ∃ g0, A = some ⟨g0, 0, none⟩ ∧ base ≤ g0 ∧ g0 < w.heap.size ∧ n ≤ c := by
      obtain ⟨g0, cap, hv, h1, h2, h3⟩ := own_form HOWN.out (by have := HN.out; omega)
      injection hv with e1 e2 e3
      subst e3
      exact ⟨g0, e1, h1, h2, h3⟩
    obtain ⟨hg1, hg2, hnc⟩ := hg0
    have hkn : k < n := by have := HN.out; omega
    have hk0 : ((k : Int) == -1) = false := by simp
    clear hix hix1 hall hk hk1 hk2
    go_enter Tryz.func35, Tryz.ntmps35
    go_wp2_with (go_at_call 58; refine HIX.out.mono ?_; rintro e w1 ⟨rfl, hB1⟩)
    go_loopw [5, 6] (fun i j wr => ∃ (p q : Nat) (cur : List Mp), i = .int .i64 p ∧ j = .int .i64 q ∧ q ≤ n ∧ p < q ∧ Hid (Del pf l cur p q) ∧ wr.ownsRow base 40 3 (.slice (some ⟨g0, 0, none⟩) n c) n (flats Mp.enc cur) ∧ Below base w wr ∧ Hid (w.grownBy wr (some g0))) (fun _ j _ => n - (intOf j).toNat)
    case atStart => exact ⟨k, k + 1, l, rfl, rfl, by omega, by omega, HD, HOWN.out.below_ hB1, hB1.mono hbase, Lib.hid (grown_belowB (World.grownBy.refl w _) hB1)⟩
    case round =>
      obtain ⟨p, q, cur, rfl, rfl, hq, hpq, HDL, hrow, hB, HGR⟩ := hrel
      have hz := hB.size
      by_cases hlt : q < n
      · have hqi : (q : Int) < (n : Int) := by omega
        have hlc : cur.length = n := by rw [HDL.out.len]; exact HN.out
        obtain ⟨c0, c1, c2⟩ := own3 hrow hlt hlc
        rw [HDL.out.at_] at c0 c1 c2
        have hal : Below wr.heap.size wr (wr.alloc (.cells #[.int .i64 (nth mp0 l q).v, .int .i64 (nth mp0 l q).b, .int .i64 (nth mp0 l q).t] 40)) := (Below.refl _ _).alloc (Nat.le_refl _) _
        have hcall := HP.out (wr.alloc (.cells #[.int .i64 (nth mp0 l q).v, .int .i64 (nth mp0 l q).b, .int .i64 (nth mp0 l q).t] 40)) ((hal.block bo (by have := HGR.out.size; omega)).trans ((HGR.out.block bo hbl (fun e => hbg e.symm)).trans HBO.out)) (nth mp0 l q)
        have HBX := Lib.hid (heap_alloc_new wr (.cells #[.int .i64 (nth mp0 l q).v, .int .i64 (nth mp0 l q).b, .int .i64 (nth mp0 l q).t] 40))
        have HROW := Lib.hid hrow
        have HLC := Lib.hid hlc
        have HAL := Lib.hid hal
        have hgw : g0 < wr.heap.size := by omega
        clear hrow hlc hal
        generalize hy : nth mp0 l q = y at *
        have HY := Lib.hid hy
        clear hy
        cases hq2 : pf y with
        | true =>
          rw [hq2] at hcall
          have HQ := Lib.hid hq2
          have HCA := Lib.hid hcall
          clear hq2 hcall
          go_wp2_with (go_at_fn g; refine HCA.out.mono ?_; rintro e w5 ⟨rfl, hB5⟩)
          go_roundw
          case rel => exact ⟨p, q + 1, cur, rfl, by go_num, by omega, by omega, Lib.hid (HDL.out.skip (by rw [HN.out]; exact hlt) (by rw [HY.out]; exact HQ.out)), (HROW.out.alloc _).below_ hB5, hB.trans ((HAL.out.mono (by omega)).trans (hB5.mono (by simp; omega))), Lib.hid (grown_belowB (grown_belowB HGR.out HAL.out) hB5)⟩
          case measure => simp [intOf]; omega
        | false =>
          rw [hq2] at hcall
          have HQ := Lib.hid hq2
          have HCA := Lib.hid hcall
          have HS : Hid (∀ w5, Below (wr.alloc (.cells #[.int .i64 y.v, .int .i64 y.b, .int .i64 y.t] 40)).heap.size (wr.alloc (.cells #[.int .i64 y.v, .int .i64 y.b, .int .i64 y.t] 40)) w5 → (w5.cell? ⟨wr.heap.size, 0, none⟩ = some (.int .i64 y.v) ∧ w5.cell? ⟨wr.heap.size, 1, none⟩ = some (.int .i64 y.b) ∧ w5.cell? ⟨wr.heap.size, 2, none⟩ = some (.int .i64 y.t)) ∧ (∃ u0 u1 u2, w5.cell? ⟨g0, p * 3, none⟩ = some u0 ∧ w5.cell? ⟨g0, p * 3 + 1, none⟩ = some u1 ∧ w5.cell? ⟨g0, p * 3 + 2, none⟩ = some u2) ∧ (w5.frozen? ⟨g0, p * 3, none⟩ = false ∧ w5.frozen? ⟨g0, p * 3 + 1, none⟩ = false ∧ w5.frozen? ⟨g0, p * 3 + 2, none⟩ = false)) := fun w5 hB5 => by
            have hr5 := (HROW.out.alloc (.cells #[.int .i64 y.v, .int .i64 y.b, .int .i64 y.t] 40)).below_ hB5
            obtain ⟨d0, d1, d2⟩ := own3 hr5 (k := p) (by omega) HLC.out
            exact ⟨box3c ((hB5.block wr.heap.size (by simp)).trans HBX.out), ⟨_, _, _, d0, d1, d2⟩, hr5.frozenAt _, hr5.frozenAt _, hr5.frozenAt _⟩
          clear hq2 hcall
          have hpi : (p : Int) < (n : Int) := by omega
          go_wp2_with (go_at_fn g; refine HCA.out.mono ?_; rintro e w5 ⟨rfl, hB5⟩; obtain ⟨⟨b0, b1, b2⟩, ⟨u0, u1, u2, d0, d1, d2⟩, f0, f1, f2⟩ := HS.out _ hB5)
          go_roundw
          case rel => exact ⟨p + 1, q + 1, cur.set p y, by go_num, by go_num, by omega, by omega, Lib.hid (by have := HDL.out.keep hpq (by rw [HN.out]; exact hlt) (by rw [HY.out]; exact HQ.out); rwa [HY.out] at this), own_set3 ((HROW.out.alloc _).below_ hB5) y (by omega) HLC.out, (((hB.trans ((HAL.out.mono (by omega)).trans (hB5.mono (by simp; omega)))).setCell hg1 _).setCell hg1 _).setCell hg1 _, Lib.hid (grown_set1 (grown_set1 (grown_set1 (grown_belowB (grown_belowB HGR.out HAL.out) hB5))))⟩
          case measure => simp [intOf]; omega
      · obtain rfl : q = n := by omega
        obtain ⟨w6, hcl, hr6, hgr6, hsz6⟩ := run_clear_own (P := Tryz.prog) (t := 34) (z := .agg #[.int .i64 0, .int .i64 0, .int .i64 0]) hrow Tryz.underlying34 zero_map rfl (by intro u hu; simp [Value.cells] at hu; subst hu; rfl) (i := p) (c := c - p) hpq
        have HD2 := Lib.hid (show cur.take p = l.filter (fun m => !pf m) by have := HDL.out; rw [← HN.out] at this; exact this.done)
        have HR6 := Lib.hid hr6
        have HB6 := Lib.hid (hB.grown hgr6 (by omega) (fun k hk => by injection hk with hk; omega))
        have HG6 := Lib.hid (grown_trans HGR.out hgr6)
        have hpc : ¬ p = c := by omega
        have hlp : (cur.take p).length = p := by rw [List.length_take, HDL.out.len, HN.out]; omega
        have HLP := Lib.hid hlp
        clear hr6 hgr6 hrow hlp
        have hpi : (p : Int) ≤ (q : Int) := by omega
        go_wp2_with fail
        go_ret
        unfold DelOwn
        rw [← HD2.out, HLP.out]
        refine ⟨rfl, ?_, HB6.out, HG6.out⟩
        have := HR6.out
        rwa [flats_take3] at this
end Go.Proofs.YtcdfbpdejbpgjaaGreat
