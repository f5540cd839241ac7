/- slices.IndexFunc and slices.DeleteFunc at mappings, by whatever predicate. Condition: the slice is within the reach. -/
import Derived.Test.YtcdfbpdejbpgjaaGreatCloneA
import Derived.Test.YtcdfbpdejbpgjaaGreatClearK
import Derived.Shelf.RegionOpen
import Derived.Outline
namespace Go.Proofs.YtcdfbpdejbpgjaaGreat
open Go.RowKit Go.Shelf
attribute [local go_sem] Oper.semAt_some

/-- What a function value says of a mapping, in every world in which the blocks below B are as in w0. -/
def PredIs (g : Nat) (cb : Array Value) (pf : Mp → Bool) (B : Nat) (w0 : World) : Prop :=
  ∀ w', Below B w0 w' → ∀ m : Mp, Calls Tryz.prog g (#[.agg #[.int .i64 m.v, .int .i64 m.b, .int .i64 m.t]] ++ cb) w' fun e w'' => e = .returned (.bool (pf m)) ∧ Below w'.heap.size w' w''
def IdxIs (pf : Mp → Bool) (l : List Mp) (w : World) (e : Ending) (w' : World) : Prop :=
  ((e = .returned (.int .i64 (-1)) ∧ ∀ j, j < l.length → pf (nth mp0 l j) = false) ∨ (∃ k : Nat, e = .returned (.int .i64 k) ∧ k < l.length ∧ pf (nth mp0 l k) = true ∧ ∀ j, j < k → pf (nth mp0 l j) = false)) ∧ Below w.heap.size w w'
set_option maxHeartbeats 1600000 in
theorem indexFunc_any (w : World) (S : Nat → Prop) (v : Value) (l : List Mp) (g : Nat) (cb : Array Value) (pf : Mp → Bool) (B : Nat) (w0 : World) (hS : ∀ b, S b → b < w.heap.size) (h : IsMaps w S v l) (hl1 : l.length ≤ 140737488355328)
    (eg : ∀ args w, (callFunc g args).run Tryz.prog w = .ok (.enter g args) w) (hB0 : Below B w0 w) (hBw : B ≤ w.heap.size) (hp : PredIs g cb pf B w0) :
    Calls Tryz.prog 58 #[v, .func (.func g) #[] cb] w (IdxIs pf l w) := by
  obtain ⟨A, c, rfl, hc, hr⟩ := h
  have HC := Lib.hid (fun hp => maps_cells hr hp)
  have HP := Lib.hid hp
  clear hr hp
  generalize hnn : l.length = n at *
  have HN := Lib.hid hnn
  clear hnn
  go_enter Tryz.func58, Tryz.ntmps58
  go_wp2_with fail
  go_loopw [8] (fun i wr => ∃ k : Nat, i = .int .i64 k ∧ k ≤ n ∧ Hid (∀ j, j < k → pf (nth mp0 l j) = false) ∧ Below w.heap.size w wr) (fun i _ => n - (intOf i).toNat)
  case atStart => exact ⟨0, rfl, by omega, Lib.hid fun j hj => by omega, Below.refl _ _⟩
  case round =>
    obtain ⟨k, rfl, hk, HLO, hB⟩ := hrel
    have hz := hB.size
    by_cases hlt : k < n
    · obtain ⟨b, off, rfl, hbS, hcl⟩ := HC.out (by omega)
      have hb0 := hS b hbS
      obtain ⟨c0, c1, c2⟩ := hcl k (by omega)
      rw [← hB.cell (p := ⟨b, off + k * 3, none⟩) hb0] at c0
      rw [← hB.cell (p := ⟨b, off + k * 3 + 1, none⟩) hb0] at c1
      rw [← hB.cell (p := ⟨b, off + k * 3 + 2, none⟩) hb0] at c2
      clear hcl
      have hki : (k : Int) < (n : Int) := by omega
      have hcall := HP.out wr (hB0.trans (hB.mono hBw)) (nth mp0 l k)
      generalize hy : nth mp0 l k = y at *
      have HY := Lib.hid hy
      clear hy
      cases hq : pf y with
      | true =>
        rw [hq] at hcall
        have HQ := Lib.hid hq
        have HCA := Lib.hid hcall
        clear hq hcall
        go_wp2_with (go_at_fn g; refine HCA.out.mono ?_; rintro e w5 ⟨rfl, hB5⟩)
        go_ret
        exact ⟨.inr ⟨k, rfl, by rw [HN.out]; exact hlt, by rw [HY.out]; exact HQ.out, HLO.out⟩, hB.trans (hB5.mono hz)⟩
      | false =>
        rw [hq] at hcall
        have HQ := Lib.hid hq
        have HCA := Lib.hid hcall
        clear hq hcall
        go_wp2_with (go_at_fn g; refine HCA.out.mono ?_; rintro e w5 ⟨rfl, hB5⟩)
        go_roundw
        case rel => exact ⟨k + 1, by go_num, by omega, Lib.hid fun j hj => (by rcases Nat.lt_or_ge j k with h | h; exact HLO.out j h; obtain rfl : j = k := (by omega); rw [HY.out]; exact HQ.out), hB.trans (hB5.mono hz)⟩
        case measure => simp [intOf]; omega
    · obtain rfl : k = n := by omega
      go_wp2_with fail
      go_ret
      exact ⟨.inl ⟨rfl, fun j hj => HLO.out j (by rw [HN.out] at hj; exact hj)⟩, hB⟩
theorem box3c {w : World} {b : Nat} {x y z : Value} {t : TypeId} (h : w.heap[b]? = some (.cells #[x, y, z] t (0, 0))) : w.cell? ⟨b, 0, none⟩ = some x ∧ w.cell? ⟨b, 1, none⟩ = some y ∧ w.cell? ⟨b, 2, none⟩ = some z := by
  simp [World.cell?, h]
/-- What DeleteFunc has done behind j elements: i of them are kept. -/
structure Del (pf : Mp → Bool) (l cur : List Mp) (i j : Nat) : Prop where
  len : cur.length = l.length
  le : i ≤ j
  lo : cur.take i = (l.take j).filter fun m => !pf m
  hi : cur.drop j = l.drop j
theorem Del.start {pf : Mp → Bool} {l : List Mp} {k : Nat} (hk : k < l.length) (h1 : pf (nth mp0 l k) = true) (h2 : ∀ j, j < k → pf (nth mp0 l j) = false) : Del pf l l k (k + 1) := by
  refine ⟨rfl, by omega, ?_, rfl⟩
  rw [take_nth mp0 l k hk, List.filter_append]
  have e : (l.take k).filter (fun m => !pf m) = l.take k := List.filter_eq_self.2 fun m hm => by
    obtain ⟨j, hj, rfl⟩ := List.mem_iff_getElem.1 hm
    rw [List.length_take] at hj
    have := h2 j (by omega)
    rw [nth_get mp0 l j (by omega)] at this
    rw [List.getElem_take, this]; rfl
  rw [e]
  simp [h1]
theorem Del.at_ {pf : Mp → Bool} {l cur : List Mp} {i j : Nat} (h : Del pf l cur i j) : nth mp0 cur j = nth mp0 l j := by
  have := congrArg (fun l => nth mp0 l 0) h.hi
  simpa [nth_drop] using this
theorem drop_set {α : Type} (l : List α) (i j : Nat) (x : α) (h : i < j) : (l.set i x).drop j = l.drop j := by
  apply List.ext_getElem?
  intro k
  rw [List.getElem?_drop, List.getElem?_drop, List.getElem?_set_ne (by omega)]
theorem drop_more {α : Type} {l r : List α} {j : Nat} (h : l.drop j = r.drop j) : l.drop (j + 1) = r.drop (j + 1) := by
  rw [← List.drop_drop, ← List.drop_drop, h]
theorem Del.keep {pf : Mp → Bool} {l cur : List Mp} {i j : Nat} (h : Del pf l cur i j) (hij : i < j) (hj : j < l.length) (hp : pf (nth mp0 l j) = false) : Del pf l (cur.set i (nth mp0 l j)) (i + 1) (j + 1) := by
  refine ⟨by rw [List.length_set]; exact h.len, by omega, ?_, ?_⟩
  · rw [take_nth mp0 _ i (by rw [List.length_set, h.len]; omega), take_nth mp0 l j hj, List.filter_append, ← h.lo, List.take_set_of_le (Nat.le_refl _)]
    congr 1
    rw [nth_get mp0 _ i (by rw [List.length_set, h.len]; omega), List.getElem_set_self]
    simp [hp]
  · rw [drop_set _ _ _ _ (by omega)]
    exact drop_more h.hi
theorem Del.skip {pf : Mp → Bool} {l cur : List Mp} {i j : Nat} (h : Del pf l cur i j) (hj : j < l.length) (hp : pf (nth mp0 l j) = true) : Del pf l cur i (j + 1) := by
  refine ⟨h.len, by have := h.le; omega, ?_, drop_more h.hi⟩
  rw [take_nth mp0 l j hj, List.filter_append, ← h.lo]
  simp [hp]
theorem Del.done {pf : Mp → Bool} {l cur : List Mp} {i : Nat} (h : Del pf l cur i l.length) : cur.take i = l.filter fun m => !pf m := by
  have := h.lo
  rwa [List.take_length] at this

def DelIs (pf : Mp → Bool) (l : List Mp) (base : Nat) (w : World) (e : Ending) (w' : World) : Prop :=
  ∃ A' c', e = .returned (.slice A' (l.filter fun m => !pf m).length c') ∧ w'.ownsRow base 40 3 (.slice A' (l.filter fun m => !pf m).length c') (l.filter fun m => !pf m).length (flats Mp.enc (l.filter fun m => !pf m)) ∧ Below base w w'
theorem zero_map : ∀ w, (zeroValue 40).run Tryz.prog w = .ok (.agg #[.int .i64 0, .int .i64 0, .int .i64 0]) w := Tryz.zeroValue40
set_option maxRecDepth 100000 in
set_option maxHeartbeats 3200000 in
theorem deleteFunc_any (w : World) (base : Nat) (A : Option Addr) (n c : Nat) (l : List Mp) (g : Nat) (cb : Array Value) (pf : Mp → Bool) (B : Nat) (w0 : World) (hown : w.ownsRow base 40 3 (.slice A n c) n (flats Mp.enc l)) (hlen : l.length = n) (hl1 : n ≤ 140737488355328)
    (eg : ∀ args w, (callFunc g args).run Tryz.prog w = .ok (.enter g args) w) (hB0 : Below B w0 w) (hBb : B ≤ base) (hbase : base ≤ w.heap.size) (hp : PredIs g cb pf B w0) :
    Calls Tryz.prog 35 #[.slice A n c, .func (.func g) #[] cb] w (DelIs pf l base w) := by
  have hsl := IsSl.own (d := mp0) Mp.enc_len hown (by omega)
  have hix := indexFunc_any w (Btw base w.heap.size) _ l g cb pf B w0 (fun b hb => hb.2) hsl (by omega) eg hB0 (by omega) hp
  have HP := Lib.hid hp
  have HOWN := Lib.hid hown
  have HN := Lib.hid hlen
  clear hsl hp hown hlen
  by_cases hall : ∀ j, j < l.length → pf (nth mp0 l j) = false
  · have hix1 : Calls Tryz.prog 58 #[.slice A n c, .func (.func g) #[] cb] w fun e w' => e = .returned (.int .i64 (-1)) ∧ Below w.heap.size w w' := hix.mono fun e w' h => ⟨by
      rcases h.1 with h | ⟨k, _, h2, h3, _⟩
      · exact h.1
      · exact absurd h3 (by rw [hall k h2]; simp), h.2⟩
    have HIX := Lib.hid hix1
    have hfil : l.filter (fun m => !pf m) = l := List.filter_eq_self.2 fun m hm => by
      obtain ⟨j, hj, rfl⟩ := List.mem_iff_getElem.1 hm
      have := hall j hj
      rw [nth_get mp0 l j hj] at this
      rw [this]; rfl
    have HF := Lib.hid hfil
    clear hix hix1 hall hfil
    go_enter Tryz.func35, Tryz.ntmps35
    go_wp2_with (go_at_call 58; refine HIX.out.mono ?_; rintro e w1 ⟨rfl, hB1⟩)
    go_ret
    unfold DelIs
    rw [HF.out, HN.out]
    exact ⟨A, c, rfl, HOWN.out.below_ hB1, hB1.mono hbase⟩
  · have hex : ∃ k : Nat, k < l.length ∧ pf (nth mp0 l k) = true ∧ ∀ j, j < k → pf (nth mp0 l j) = false := by
      refine Classical.byContradiction fun hno => hall fun j => ?_
      induction j using Nat.strongRecOn
      rename_i j ih
      intro hj
      cases hq : pf (nth mp0 l j) with
      | false => rfl
      | true => exact absurd ⟨j, hj, hq, fun i hi => ih i hi (by omega)⟩ hno
    obtain ⟨k, hk, hk1, hk2⟩ := hex
    have hix1 : Calls Tryz.prog 58 #[.slice A n c, .func (.func g) #[] cb] w fun e w' => e = .returned (.int .i64 (k : Nat)) ∧ Below w.heap.size w w' := hix.mono fun e w' h => ⟨by
      rcases h.1 with h | ⟨q, h1, h2, h3, h4⟩
      · rw [h.2 k hk] at hk1; cases hk1
      · have : q = k := by
          rcases Nat.lt_trichotomy q k with h | h | h
          · rw [hk2 q h] at h3; cases h3
          · exact h
          · rw [h4 k h] at hk1; cases hk1
        rw [h1, this], h.2⟩
    have HIX := Lib.hid hix1
    have HD := Lib.hid (Del.start hk hk1 hk2)
    obtain ⟨g0, rfl, hg0⟩ : ∃ g0, A = some ⟨g0, 0, none⟩ ∧ base ≤ g0 ∧ g0 < w.heap.size ∧ n ≤ c := by
      obtain ⟨g0, cap, hv, h1, h2, h3⟩ := own_form HOWN.out (by have := HN.out; omega)
      injection hv with e1 e2 e3
      subst e3
      exact ⟨g0, e1, h1, h2, h3⟩
    obtain ⟨hg1, hg2, hnc⟩ := hg0
    have hkn : k < n := by have := HN.out; omega
    have hk0 : ((k : Int) == -1) = false := by simp
    clear hix hix1 hall hk hk1 hk2
    go_enter Tryz.func35, Tryz.ntmps35
    go_wp2_with (go_at_call 58; refine HIX.out.mono ?_; rintro e w1 ⟨rfl, hB1⟩)
    go_loopw [5, 6] (fun i j wr => ∃ (p q : Nat) (cur : List Mp), i = .int .i64 p ∧ j = .int .i64 q ∧ q ≤ n ∧ p < q ∧ Hid (Del pf l cur p q) ∧ wr.ownsRow base 40 3 (.slice (some ⟨g0, 0, none⟩) n c) n (flats Mp.enc cur) ∧ Below base w wr) (fun _ j _ => n - (intOf j).toNat)
    case atStart => exact ⟨k, k + 1, l, rfl, rfl, by omega, by omega, HD, HOWN.out.below_ hB1, hB1.mono hbase⟩
    case round =>
      obtain ⟨p, q, cur, rfl, rfl, hq, hpq, HDL, hrow, hB⟩ := hrel
      have hz := hB.size
      by_cases hlt : q < n
      · have hqi : (q : Int) < (n : Int) := by omega
        have hlc : cur.length = n := by rw [HDL.out.len]; exact HN.out
        obtain ⟨c0, c1, c2⟩ := own3 hrow hlt hlc
        rw [HDL.out.at_] at c0 c1 c2
        have hal : Below wr.heap.size wr (wr.alloc (.cells #[.int .i64 (nth mp0 l q).v, .int .i64 (nth mp0 l q).b, .int .i64 (nth mp0 l q).t] 40)) := (Below.refl _ _).alloc (Nat.le_refl _) _
        have hcall := HP.out (wr.alloc (.cells #[.int .i64 (nth mp0 l q).v, .int .i64 (nth mp0 l q).b, .int .i64 (nth mp0 l q).t] 40)) (hB0.trans ((hB.mono hBb).trans (hal.mono (by omega)))) (nth mp0 l q)
        have HBX := Lib.hid (heap_alloc_new wr (.cells #[.int .i64 (nth mp0 l q).v, .int .i64 (nth mp0 l q).b, .int .i64 (nth mp0 l q).t] 40))
        have HROW := Lib.hid hrow
        have HLC := Lib.hid hlc
        have HAL := Lib.hid hal
        have hgw : g0 < wr.heap.size := by omega
        clear hrow hlc hal
        generalize hy : nth mp0 l q = y at *
        have HY := Lib.hid hy
        clear hy
        cases hq2 : pf y with
        | true =>
          rw [hq2] at hcall
          have HQ := Lib.hid hq2
          have HCA := Lib.hid hcall
          clear hq2 hcall
          go_wp2_with (go_at_fn g; refine HCA.out.mono ?_; rintro e w5 ⟨rfl, hB5⟩)
          go_roundw
          case rel => exact ⟨p, q + 1, cur, rfl, by go_num, by omega, by omega, Lib.hid (HDL.out.skip (by rw [HN.out]; exact hlt) (by rw [HY.out]; exact HQ.out)), (HROW.out.alloc _).below_ hB5, hB.trans ((HAL.out.mono (by omega)).trans (hB5.mono (by simp; omega)))⟩
          case measure => simp [intOf]; omega
        | false =>
          rw [hq2] at hcall
          have HQ := Lib.hid hq2
          have HCA := Lib.hid hcall
          have HS : Hid (∀ w5, Below (wr.alloc (.cells #[.int .i64 y.v, .int .i64 y.b, .int .i64 y.t] 40)).heap.size (wr.alloc (.cells #[.int .i64 y.v, .int .i64 y.b, .int .i64 y.t] 40)) w5 → (w5.cell? ⟨wr.heap.size, 0, none⟩ = some (.int .i64 y.v) ∧ w5.cell? ⟨wr.heap.size, 1, none⟩ = some (.int .i64 y.b) ∧ w5.cell? ⟨wr.heap.size, 2, none⟩ = some (.int .i64 y.t)) ∧ (∃ u0 u1 u2, w5.cell? ⟨g0, p * 3, none⟩ = some u0 ∧ w5.cell? ⟨g0, p * 3 + 1, none⟩ = some u1 ∧ w5.cell? ⟨g0, p * 3 + 2, none⟩ = some u2) ∧ (w5.frozen? ⟨g0, p * 3, none⟩ = false ∧ w5.frozen? ⟨g0, p * 3 + 1, none⟩ = false ∧ w5.frozen? ⟨g0, p * 3 + 2, none⟩ = false)) := fun w5 hB5 => by
            have hr5 := (HROW.out.alloc (.cells #[.int .i64 y.v, .int .i64 y.b, .int .i64 y.t] 40)).below_ hB5
            obtain ⟨d0, d1, d2⟩ := own3 hr5 (k := p) (by omega) HLC.out
            exact ⟨box3c ((hB5.block wr.heap.size (by simp)).trans HBX.out), ⟨_, _, _, d0, d1, d2⟩, hr5.frozenAt _, hr5.frozenAt _, hr5.frozenAt _⟩
          clear hq2 hcall
          have hpi : (p : Int) < (n : Int) := by omega
          go_wp2_with (go_at_fn g; refine HCA.out.mono ?_; rintro e w5 ⟨rfl, hB5⟩; obtain ⟨⟨b0, b1, b2⟩, ⟨u0, u1, u2, d0, d1, d2⟩, f0, f1, f2⟩ := HS.out _ hB5)
          go_roundw
          case rel => exact ⟨p + 1, q + 1, cur.set p y, by go_num, by go_num, by omega, by omega, Lib.hid (by have := HDL.out.keep hpq (by rw [HN.out]; exact hlt) (by rw [HY.out]; exact HQ.out); rwa [HY.out] at this), own_set3 ((HROW.out.alloc _).below_ hB5) y (by omega) HLC.out, (((hB.trans ((HAL.out.mono (by omega)).trans (hB5.mono (by simp; omega)))).setCell hg1 _).setCell hg1 _).setCell hg1 _⟩
          case measure => simp [intOf]; omega
      · obtain rfl : q = n := by omega
        obtain ⟨w6, hcl, hr6, hgr6, hsz6⟩ := run_clear_own (P := Tryz.prog) (t := 34) (z := .agg #[.int .i64 0, .int .i64 0, .int .i64 0]) hrow Tryz.underlying34 zero_map rfl (by intro u hu; simp [Value.cells] at hu; subst hu; rfl) (i := p) (c := c - p) hpq
        have HD2 := Lib.hid (show cur.take p = l.filter (fun m => !pf m) by have := HDL.out; rw [← HN.out] at this; exact this.done)
        have HR6 := Lib.hid hr6
        have HB6 := Lib.hid (hB.grown hgr6 (by omega) (fun k hk => by injection hk with hk; omega))
        have hpc : ¬ p = c := by omega
        have hlp : (cur.take p).length = p := by rw [List.length_take, HDL.out.len, HN.out]; omega
        have HLP := Lib.hid hlp
        clear hr6 hgr6 hrow hlp
        have hpi : (p : Int) ≤ (q : Int) := by omega
        go_wp2_with fail
        go_ret
        unfold DelIs
        rw [← HD2.out, HLP.out]
        refine ⟨some ⟨g0, 0, none⟩, c, rfl, ?_, HB6.out⟩
        have := HR6.out
        rwa [flats_take3] at this
end Go.Proofs.YtcdfbpdejbpgjaaGreat
