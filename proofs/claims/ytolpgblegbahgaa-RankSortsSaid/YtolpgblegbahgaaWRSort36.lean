/- scantlingref36.Sort: one by one, behind all that it is not ahead of. Condition: the pools are small. -/
import Derived.Test.YtolpgblegbahgaaWOwn35
import Derived.Test.YtolpgblegbahgaaRankS
import Derived.Test.YtolpgblegbahgaaClearK
import Derived.Deep.Cut
import Derived.Deep.DeepCutAuto
namespace Go.Proofs.Ytolpgblegbahgaa
open Go.RowKit
attribute [local go_sem] Oper.semAt_some
set_option linter.unusedVariables false
set_option linter.unusedSimpArgs false

def ltR (x y : RC) : Bool := ltC x.c y.c
/-- the eight cells of an element stored into a row -/
theorem flats_set8 {l : List RC} {i : Nat} (x : RC) (hi : i < l.length) : ((((((((flats RC.enc l).set (i * 8) (.bool x.c.super)).set (i * 8 + 1) (.int .i64 x.c.top)).set (i * 8 + 2) (.int .i64 x.c.details)).set (i * 8 + 3) (.int .i64 x.c.pool.tx)).set (i * 8 + 4) (.int .i64 x.c.pool.time)).set (i * 8 + 5) (.int .i64 x.c.pool.unit)).set (i * 8 + 6) (.int .i64 x.c.pool.data)).set (i * 8 + 7) (.slice x.A x.c.pool.devs.length x.n) = flats RC.enc (l.set i x) := by
  induction l generalizing i with
  | nil => simp at hi
  | cons m l ih =>
    cases i with
    | zero => rfl
    | succ i =>
      have e : ∀ (a b c d e f g h : Value) (r : List Value) (u : Value) (j : Nat), (a :: b :: c :: d :: e :: f :: g :: h :: r).set (j + 8) u = a :: b :: c :: d :: e :: f :: g :: h :: r.set j u := fun _ _ _ _ _ _ _ _ _ _ _ => rfl
      have e0 : ∀ (m : RC) (r : List RC), flats RC.enc (m :: r) = .bool m.c.super :: .int .i64 m.c.top :: .int .i64 m.c.details :: .int .i64 m.c.pool.tx :: .int .i64 m.c.pool.time :: .int .i64 m.c.pool.unit :: .int .i64 m.c.pool.data :: .slice m.A m.c.pool.devs.length m.n :: flats RC.enc r := fun _ _ => rfl
      rw [List.set_cons_succ, e0, e0, show (i + 1) * 8 = i * 8 + 8 by omega, e, show i * 8 + 8 + 1 = i * 8 + 1 + 8 by omega, e, show i * 8 + 8 + 2 = i * 8 + 2 + 8 by omega, e, show i * 8 + 8 + 3 = i * 8 + 3 + 8 by omega, e, show i * 8 + 8 + 4 = i * 8 + 4 + 8 by omega, e, show i * 8 + 8 + 5 = i * 8 + 5 + 8 by omega, e, show i * 8 + 8 + 6 = i * 8 + 6 + 8 by omega, e, show i * 8 + 8 + 7 = i * 8 + 7 + 8 by omega, e, ih (by simpa using hi)]
theorem own_set8 {w : World} {base e g n cap k : Nat} {l : List RC} (h : w.ownsRow base e 8 (.slice (some ⟨g, 0, none⟩) n cap) n (flats RC.enc l)) (x : RC) (hk : k < n) (hn : l.length = n) :
    ((((((((w.setCell ⟨g, k * 8, none⟩ (.bool x.c.super)).setCell ⟨g, k * 8 + 1, none⟩ (.int .i64 x.c.top)).setCell ⟨g, k * 8 + 2, none⟩ (.int .i64 x.c.details)).setCell ⟨g, k * 8 + 3, none⟩ (.int .i64 x.c.pool.tx)).setCell ⟨g, k * 8 + 4, none⟩ (.int .i64 x.c.pool.time)).setCell ⟨g, k * 8 + 5, none⟩ (.int .i64 x.c.pool.unit)).setCell ⟨g, k * 8 + 6, none⟩ (.int .i64 x.c.pool.data)).setCell ⟨g, k * 8 + 7, none⟩ (.slice x.A x.c.pool.devs.length x.n)).ownsRow base e 8 (.slice (some ⟨g, 0, none⟩) n cap) n (flats RC.enc (l.set k x)) := by
  rw [← flats_set8 x (by omega)]
  exact ((((((((h.stored _ _).1.stored _ _).1.stored _ _).1.stored _ _).1.stored _ _).1.stored _ _).1.stored _ _).1.stored _ _).1
theorem below_set8 {w0 w : World} {B g o : Nat} (h : Below B w0 w) (hb : B ≤ g) (u0 u1 u2 u3 u4 u5 u6 u7 : Value) : Below B w0 ((((((((w.setCell ⟨g, o, none⟩ u0).setCell ⟨g, o + 1, none⟩ u1).setCell ⟨g, o + 2, none⟩ u2).setCell ⟨g, o + 3, none⟩ u3).setCell ⟨g, o + 4, none⟩ u4).setCell ⟨g, o + 5, none⟩ u5).setCell ⟨g, o + 6, none⟩ u6).setCell ⟨g, o + 7, none⟩ u7) :=
  (Below.setCell (p := ⟨g, o + 7, none⟩) (Below.setCell (p := ⟨g, o + 6, none⟩) (Below.setCell (p := ⟨g, o + 5, none⟩) (Below.setCell (p := ⟨g, o + 4, none⟩) (Below.setCell (p := ⟨g, o + 3, none⟩) (Below.setCell (p := ⟨g, o + 2, none⟩) (Below.setCell (p := ⟨g, o + 1, none⟩) (Below.setCell (p := ⟨g, o, none⟩) h hb u0) hb u1) hb u2) hb u3) hb u4) hb u5) hb u6) hb u7)
theorem far_set8 {w : World} {g o b : Nat} (hb : b ≠ g) (u0 u1 u2 u3 u4 u5 u6 u7 : Value) : ((((((((w.setCell ⟨g, o, none⟩ u0).setCell ⟨g, o + 1, none⟩ u1).setCell ⟨g, o + 2, none⟩ u2).setCell ⟨g, o + 3, none⟩ u3).setCell ⟨g, o + 4, none⟩ u4).setCell ⟨g, o + 5, none⟩ u5).setCell ⟨g, o + 6, none⟩ u6).setCell ⟨g, o + 7, none⟩ u7).heap[b]? = w.heap[b]? := by
  rw [Below.heap_setCell _ _ _ _ (by exact hb), Below.heap_setCell _ _ _ _ (by exact hb), Below.heap_setCell _ _ _ _ (by exact hb), Below.heap_setCell _ _ _ _ (by exact hb), Below.heap_setCell _ _ _ _ (by exact hb), Below.heap_setCell _ _ _ _ (by exact hb), Below.heap_setCell _ _ _ _ (by exact hb), Below.heap_setCell _ _ _ _ (by exact hb)]
theorem free8 {w : World} {base e g n cap : Nat} {xs : List Value} (h : w.ownsRow base e 8 (.slice (some ⟨g, 0, none⟩) n cap) n xs) (o : Nat) : w.frozen? ⟨g, o, none⟩ = false ∧ w.frozen? ⟨g, o + 1, none⟩ = false ∧ w.frozen? ⟨g, o + 2, none⟩ = false ∧ w.frozen? ⟨g, o + 3, none⟩ = false ∧ w.frozen? ⟨g, o + 4, none⟩ = false ∧ w.frozen? ⟨g, o + 5, none⟩ = false ∧ w.frozen? ⟨g, o + 6, none⟩ = false ∧ w.frozen? ⟨g, o + 7, none⟩ = false :=
  ⟨h.frozenAt _, h.frozenAt _, h.frozenAt _, h.frozenAt _, h.frozenAt _, h.frozenAt _, h.frozenAt _, h.frozenAt _⟩
theorem swp_mem {l : List RC} {i j : Nat} (hi : i < l.length) (hj : j < l.length) {r : RC} (h : r ∈ swp rc0 l i j) : r ∈ l := by
  unfold swp at h
  rcases List.mem_or_eq_of_mem_set h with h | rfl
  · rcases List.mem_or_eq_of_mem_set h with h | rfl
    · exact h
    · exact nth_mem_rc hj
  · exact nth_mem_rc hi
set_option maxRecDepth 100000 in
set_option maxHeartbeats 6400000 in
theorem rsort_any (w : World) (S : Nat → Prop) (v : Value) (l : List Cand) (hS : ∀ b, S b → b < w.heap.size) (h : IsSl RCand 8 cand0 w S v l) (hl1 : l.length ≤ 1000000) (hfew : ∀ c ∈ l, c.few) :
    Calls Try.prog 7 #[v] w fun e w' => ∃ v', e = .returned v' ∧ IsSl RCand 8 cand0 w' (fun b => S b ∨ Btw w.heap.size w'.heap.size b) v' (refS cand0 ltC [] l) ∧ Below w.heap.size w w' := by
  obtain ⟨A, c, rfl, hc, hr⟩ := h
  obtain ⟨raws, hm, hok, hcl⟩ := raws_of hr
  have hlen : raws.length = l.length := by rw [← hm, List.length_map]
  have HFW : Hid (∀ r ∈ raws, r.at w S ∧ r.c.few) := fun r hr => ⟨hok r hr, hfew _ (by rw [← hm]; exact List.mem_map_of_mem hr)⟩
  have HFIN : Hid ((refS rc0 ltR [] raws).map RC.c = refS cand0 ltC [] l ∧ (refS rc0 ltR [] raws).length = l.length) := by
    show _ ∧ _
    have e := map_refS RC.c rc0 ltC raws
    rw [hm] at e
    refine ⟨e, ?_⟩
    have q : ∀ (r o : List RC), (refS rc0 ltR o r).length = o.length + r.length := by
      intro r
      induction r with
      | nil => intro o; rfl
      | cons x r ih => intro o; rw [refS, ih, insDown_length]; simp; omega
    rw [q, hlen]; simp
  generalize hn : l.length = n at *
  have HN := Lib.hid hn
  have HLEN := Lib.hid hlen
  have HCL := Lib.hid hcl
  clear hn hlen hm hok hcl hr hfew
  obtain ⟨R, hR⟩ : ∃ R, refS rc0 ltR [] raws = R := ⟨_, rfl⟩
  rw [hR] at HFIN
  have HR := Lib.hid hR
  clear hR
  go_enter Try.func7, Try.ntmps7
  go_wp2_with fail
  go_loopw [3, 4] (fun t i wr => ∃ (k : Nat) (out : List RC), k ≤ n ∧ i = .int .i64 k ∧ out.length = k ∧ wr.ownsRow w.heap.size 35 8 t k (flats RC.enc out) ∧ Below w.heap.size w wr ∧ Hid ((∀ r ∈ out, r.at w S ∧ r.c.few) ∧ refS rc0 ltR out (raws.drop k) = R)) (fun _ i _ => n - (intOf i).toNat)
  case atStart => exact ⟨0, [], by omega, rfl, rfl, World.ownsRow_nil _ _ _ _, Below.refl _ _, Lib.hid ⟨by simp, HR.out⟩⟩
  case round =>
    obtain ⟨k, out, hk, rfl, hol, hrow, hB, HO⟩ := hrel
    have hz := hB.size
    obtain ⟨At, ct, rfl, hct⟩ := own_form0 hrow
    have HOL := Lib.hid hol
    clear hol
    by_cases hlt : k < n
    · obtain ⟨b, off, rfl, hb, hq⟩ := HCL.out (by omega)
      have hb0 := hS b hb
      obtain ⟨c0, c1, c2, c3, c4, c5, c6, c7⟩ := hq k hlt
      clear hq
      obtain ⟨x, hx⟩ : ∃ x, nth rc0 raws k = x := ⟨_, rfl⟩
      have HD : Hid (raws.drop k = x :: raws.drop (k + 1)) := by
        show _ = _
        rw [← hx, nth_get rc0 raws k (by rw [HLEN.out]; exact hlt)]
        exact List.drop_eq_getElem_cons _
      have HXW : Hid (x.at w S ∧ x.c.few) := by rw [← hx]; exact HFW.out _ (nth_mem_rc (by rw [HLEN.out]; exact hlt))
      rw [hx] at c0 c1 c2 c3 c4 c5 c6 c7
      clear hx
      have d0 := (hB.cell (p := ⟨b, off + k * 8, none⟩) hb0).trans c0
      have d1 := (hB.cell (p := ⟨b, off + k * 8 + 1, none⟩) hb0).trans c1
      have d2 := (hB.cell (p := ⟨b, off + k * 8 + 2, none⟩) hb0).trans c2
      have d3 := (hB.cell (p := ⟨b, off + k * 8 + 3, none⟩) hb0).trans c3
      have d4 := (hB.cell (p := ⟨b, off + k * 8 + 4, none⟩) hb0).trans c4
      have d5 := (hB.cell (p := ⟨b, off + k * 8 + 5, none⟩) hb0).trans c5
      have d6 := (hB.cell (p := ⟨b, off + k * 8 + 6, none⟩) hb0).trans c6
      have d7 := (hB.cell (p := ⟨b, off + k * 8 + 7, none⟩) hb0).trans c7
      clear c0 c1 c2 c3 c4 c5 c6 c7
      have hwk : IntKind.i64.wrap (k : Int) = (k : Int) := by rw [IntKind.wrap_i64]; omega
      go_wp2_with (at_builtin; go_loud (refine wpList_append_one elRc rfl _ _ rfl w.heap.size (.slice At k ct) k out x rfl hrow rfl (by omega) (by omega) ?_); intro A6 cap6 w6 hown hg)
      have hB6 := hB.grown hg hz (fun j hj => (hrow.lt j hj).1)
      have hz6 := hB6.size
      obtain ⟨g, cap', heq, hg1, hg2, hg3⟩ := own_form hown (by omega)
      simp only [Value.slice.injEq, true_and] at heq
      obtain ⟨rfl, rfl⟩ := heq
      have HOX : Hid (∀ r ∈ out ++ [x], r.at w S ∧ r.c.few) := fun r hr => by
        rcases List.mem_append.1 hr with h | h
        · exact HO.out.1 r h
        · obtain rfl := List.mem_singleton.1 h
          exact HXW.out
      have HNX : Hid (∀ d, insDown rc0 ltR 0 k (out ++ [x]) = d → refS rc0 ltR d (raws.drop (k + 1)) = R) := fun d hd => by
        rw [← HO.out.2, HD.out, refS, ← hd, HOL.out]
      obtain ⟨D, hD⟩ : ∃ D, insDown rc0 ltR 0 k (out ++ [x]) = D := ⟨_, rfl⟩
      have HDD := Lib.hid hD
      have HNX2 := Lib.hid (HNX.out D hD)
      have hxl : (out ++ [x]).length = k + 1 := by rw [List.length_append, HOL.out]; rfl
      have HXL := Lib.hid hxl
      clear hD hxl HNX hrow hg d0 d1 d2 d3 d4 d5 d6 d7
      go_loopw [5] (fun vq wr => ∃ (q : Nat) (dk : List RC), vq = .int .i64 q ∧ q ≤ k ∧ dk.length = k + 1 ∧ wr.ownsRow w.heap.size 35 8 (.slice (some ⟨g, 0, none⟩) (k + 1) cap6) (k + 1) (flats RC.enc dk) ∧ Below w.heap.size w wr ∧ Hid ((∀ r ∈ dk, r.at w S ∧ r.c.few) ∧ insDown rc0 ltR 0 q dk = D)) (fun vq _ => (intOf vq).toNat)
      case atStart => exact ⟨k, out ++ [x], rfl, by omega, HXL.out, hown, hB6, Lib.hid ⟨HOX.out, HDD.out⟩⟩
      case round =>
        obtain ⟨q, dk, rfl, hqk, hdl, hrw, hBs, HQ⟩ := hrel
        have hzs := hBs.size
        by_cases hq0 : 0 < q
        · obtain ⟨q, rfl⟩ : ∃ q', q = q' + 1 := ⟨q - 1, by omega⟩
          have hqa : (0 : Int) < (q : Int) + 1 := by omega
          have hqd : decide ((0 : Int) < (q : Int) + 1) = true := decide_eq_true hqa
          have hqb : (0 : Int) ≤ (q : Int) + 1 := by omega
          have hqc : (q : Int) < (k : Int) := by omega
          have hqe : (q : Int) < (k : Int) + 1 := by omega
          have hwq : IntKind.i64.wrap (q : Int) = (q : Int) := by rw [IntKind.wrap_i64]; omega
          have k1 := own8 hrw (k := q + 1) (by omega) hdl
          have k2 := own8 hrw (k := q) (by omega) hdl
          obtain ⟨a, ha⟩ : ∃ a, nth rc0 dk (q + 1) = a := ⟨_, rfl⟩
          obtain ⟨y, hy⟩ : ∃ a, nth rc0 dk q = a := ⟨_, rfl⟩
          rw [ha] at k1
          rw [hy] at k2
          have ma : a.at w S ∧ a.c.few := HQ.out.1 a (by rw [← ha]; exact nth_mem_rc (by omega))
          have my : y.at w S ∧ y.c.few := HQ.out.1 y (by rw [← hy]; exact nth_mem_rc (by omega))
          have HAY : Hid (nth rc0 dk (q + 1) = a ∧ nth rc0 dk q = y) := ⟨ha, hy⟩
          have HC8 : Hid (∀ w', Below wr.heap.size wr w' → Cells8 w' g ((q + 1) * 8) a ∧ Cells8 w' g (q * 8) y) := fun w' hB' => by
            have hr' := hrw.below_ hB'
            have e1 := own8 hr' (k := q + 1) (by omega) hdl
            have e2 := own8 hr' (k := q) (by omega) hdl
            rw [ha] at e1
            rw [hy] at e2
            exact ⟨e1, e2⟩
          have HBF : Hid (∀ w', Below wr.heap.size wr w' → Calls Try.prog 9 #[.agg a.enc.toArray, .agg y.enc.toArray] w' fun e w'' => e = .returned (.bool (ltR a y)) ∧ Below w'.heap.size w' w'') := fun w' hB' => by
            have hk := hBs.trans (hB'.mono hzs)
            have hk2 := hk.size
            exact rbefore_any w' S S _ _ a.c y.c (fun b hb => by have := hS b hb; omega) (fun b hb => by have := hS b hb; omega) (ma.1.below hk hS).is (my.1.below hk hS).is ma.2 my.2
          have HRW := Lib.hid hrw
          have HDL := Lib.hid hdl
          clear ha hy ma my k1 k2
          dsimp only [RC.enc, RC.cells, Cand.cells] at HBF
          generalize hlr : ltR a y = lr at *
          have HLR := Lib.hid hlr
          clear hlr hrw
          cases hlrc : lr with
          | true =>
            have HLT := Lib.hid (HLR.out.trans hlrc)
            subst hlrc
            go_upto_region 7 with fail
            refine wp_region_till (T := fun _ => false) (S := fun w' => Below wr.heap.size wr w') (by kernel_rfl) (Below.refl wr.heap.size wr).drew (fun hHeld => ?_)
            obtain ⟨w101, hw0⟩ : ∃ x, wr.drew = x := ⟨_, rfl⟩
            rw [hw0] at hHeld ⊢
            have hkA : Below wr.heap.size wr w101 := hHeld
            clear hHeld hw0
            refine wpTill_put 0 23 (oi := _) (v := ?_) rfl rfl (by kernel_rfl) (by kernel_rfl) (by kernel_rfl) (by kernel_rfl) (fun _ _ _ h => h) (by rfl) hkA ?_ ?_
            rotate_left
            · (intro w2' hSw; go_simp; (try with_reducible rfl))
            (try simp only [Act.put, List.setIfInBounds_toArray, List.set_cons_zero, List.set_cons_succ])
            refine wpTill_put 1 24 (oi := _) (v := ?_) rfl rfl (by kernel_rfl) (by kernel_rfl) (by kernel_rfl) (by kernel_rfl) (fun _ _ _ h => h) (by rfl) hkA ?_ ?_
            rotate_left
            · (intro w2' hSw; go_simp; (try with_reducible rfl))
            (try simp only [Act.put, List.setIfInBounds_toArray, List.set_cons_zero, List.set_cons_succ])
            refine wpTill_put 2 25 (oi := _) (v := ?_) rfl rfl (by kernel_rfl) (by kernel_rfl) (by kernel_rfl) (by kernel_rfl) (fun _ _ _ h => h) (by rfl) hkA ?_ ?_
            rotate_left
            · (intro w2' hSw; go_simp; (try with_reducible rfl))
            (try simp only [Act.put, List.setIfInBounds_toArray, List.set_cons_zero, List.set_cons_succ])
            refine wpTill_put 3 26 (oi := _) (v := ?_) rfl rfl (by kernel_rfl) (by kernel_rfl) (by kernel_rfl) (by kernel_rfl) (fun _ _ _ h => h) (by rfl) hkA ?_ ?_
            rotate_left
            · (intro w2' hSw; go_simp; (try with_reducible rfl))
            (try simp only [Act.put, List.setIfInBounds_toArray, List.set_cons_zero, List.set_cons_succ])
            refine wpTill_put 4 27 (oi := _) (v := ?_) rfl rfl (by kernel_rfl) (by kernel_rfl) (by kernel_rfl) (by kernel_rfl) (fun _ _ _ h => h) (by rfl) hkA ?_ ?_
            rotate_left
            · (intro w2' hSw; go_simp; (try with_reducible rfl))
            (try simp only [Act.put, List.setIfInBounds_toArray, List.set_cons_zero, List.set_cons_succ])
            refine wpTill_put 5 28 (oi := _) (v := ?_) rfl rfl (by kernel_rfl) (by kernel_rfl) (by kernel_rfl) (by kernel_rfl) (fun _ _ _ h => h) (by rfl) hkA ?_ ?_
            rotate_left
            · (intro w2' hSw; go_simp; (try with_reducible rfl))
            (try simp only [Act.put, List.setIfInBounds_toArray, List.set_cons_zero, List.set_cons_succ])
            refine wpTill_put 6 29 (oi := _) (v := ?_) rfl rfl (by kernel_rfl) (by kernel_rfl) (by kernel_rfl) (by kernel_rfl) (fun _ _ _ h => h) (by rfl) hkA ?_ ?_
            rotate_left
            · (intro w2' hSw; obtain ⟨⟨c0, c1, c2, c3, c4, c5, c6, c7⟩, e0, e1, e2, e3, e4, e5, e6, e7⟩ := HC8.out _ hSw; go_simp; (try with_reducible rfl))
            (try simp only [Act.put, List.setIfInBounds_toArray, List.set_cons_zero, List.set_cons_succ])
            refine wpTill_put 7 30 (oi := _) (v := ?_) rfl rfl (by kernel_rfl) (by kernel_rfl) (by kernel_rfl) (by kernel_rfl) (fun _ _ _ h => h) (by rfl) hkA ?_ ?_
            rotate_left
            · (intro w2' hSw; go_simp; (try with_reducible rfl))
            (try simp only [Act.put, List.setIfInBounds_toArray, List.set_cons_zero, List.set_cons_succ])
            refine wpTill_put 8 31 (oi := _) (v := ?_) rfl rfl (by kernel_rfl) (by kernel_rfl) (by kernel_rfl) (by kernel_rfl) (fun _ _ _ h => h) (by rfl) hkA ?_ ?_
            rotate_left
            · (intro w2' hSw; go_simp; (try with_reducible rfl))
            (try simp only [Act.put, List.setIfInBounds_toArray, List.set_cons_zero, List.set_cons_succ])
            refine wpTill_put 9 32 (oi := _) (v := ?_) rfl rfl (by kernel_rfl) (by kernel_rfl) (by kernel_rfl) (by kernel_rfl) (fun _ _ _ h => h) (by rfl) hkA ?_ ?_
            rotate_left
            · (intro w2' hSw; go_simp; (try with_reducible rfl))
            (try simp only [Act.put, List.setIfInBounds_toArray, List.set_cons_zero, List.set_cons_succ])
            refine wpTill_put 10 33 (oi := _) (v := ?_) rfl rfl (by kernel_rfl) (by kernel_rfl) (by kernel_rfl) (by kernel_rfl) (fun _ _ _ h => h) (by rfl) hkA ?_ ?_
            rotate_left
            · (intro w2' hSw; go_simp; (try with_reducible rfl))
            (try simp only [Act.put, List.setIfInBounds_toArray, List.set_cons_zero, List.set_cons_succ])
            refine wpTill_put 11 34 (oi := _) (v := ?_) rfl rfl (by kernel_rfl) (by kernel_rfl) (by kernel_rfl) (by kernel_rfl) (fun _ _ _ h => h) (by rfl) hkA ?_ ?_
            rotate_left
            · (intro w2' hSw; obtain ⟨⟨c0, c1, c2, c3, c4, c5, c6, c7⟩, e0, e1, e2, e3, e4, e5, e6, e7⟩ := HC8.out _ hSw; go_simp; (try with_reducible rfl))
            (try simp only [Act.put, List.setIfInBounds_toArray, List.set_cons_zero, List.set_cons_succ])
            refine wpTill_one 12 (o := _) (by kernel_rfl) rfl (fun K hK => ?_)
            go_simp
            refine (HBF.out _ hkA).mono ?_
            rintro e w102 ⟨rfl, hB5⟩
            have hkA := hkA.trans (hB5.mono hkA.size)
            refine hK.out _ _ (fun _ => hkA) (fun _ => ?_)
            clear hK K
            (try simp only [Act.put, List.setIfInBounds_toArray, List.set_cons_zero, List.set_cons_succ])
            refine wpTill_put 13 36 (oi := _) (v := ?_) rfl rfl (by kernel_rfl) (by kernel_rfl) (by kernel_rfl) (by kernel_rfl) (fun _ _ _ h => h) (by rfl) hkA ?_ ?_
            rotate_left
            · (intro w2' hSw; go_simp; (try with_reducible rfl))
            (try simp only [Act.put, List.setIfInBounds_toArray, List.set_cons_zero, List.set_cons_succ])
            refine wpTill_done (by kernel_rfl) ?_ _
            obtain ⟨wz, hwz⟩ : ∃ wz, w102 = wz := ⟨_, rfl⟩
            rw [hwz] at hkA ⊢
            clear hwz
            have hrz := HRW.out.below_ hkA
            have hBz := hBs.trans (hkA.mono hzs)
            obtain ⟨⟨c0, c1, c2, c3, c4, c5, c6, c7⟩, e0, e1, e2, e3, e4, e5, e6, e7⟩ := HC8.out _ hkA
            go_upto_region 10 with fail
            obtain ⟨wb, hwb⟩ : ∃ wb, wz.alloc (.cells #[.bool a.c.super, .int .i64 a.c.top, .int .i64 a.c.details, .int .i64 a.c.pool.tx, .int .i64 a.c.pool.time, .int .i64 a.c.pool.unit, .int .i64 a.c.pool.data, .slice a.A a.c.pool.devs.length a.n] 35) = wb := ⟨_, rfl⟩
            have hbb : Below wz.heap.size wz wb := by rw [← hwb]; exact (Below.refl _ _).alloc (Nat.le_refl _) _
            have hbx : CBoxT 35 wb wz.heap.size a.c a.A a.n := by rw [← hwb]; exact heap_alloc_new wz _
            rw [hwb]
            clear hwb c0 c1 c2 c3 c4 c5 c6 c7 e0 e1 e2 e3 e4 e5 e6 e7
            obtain ⟨⟨c0, c1, c2, c3, c4, c5, c6, c7⟩, e0, e1, e2, e3, e4, e5, e6, e7⟩ := HC8.out _ (hkA.trans (hbb.mono hkA.size))
            have hrb := hrz.below_ hbb
            have hBb := hBz.trans (hbb.mono hBz.size)
            obtain ⟨f0, f1, f2, f3, f4, f5, f6, f7⟩ := free8 hrb ((q + 1) * 8)
            have hgz : g < wz.heap.size := by
              have := hrz.lt g rfl
              omega
            go_upto_region 11 with fail
            obtain ⟨wm, hwm⟩ : ∃ wm, ((((((((wb.setCell ⟨g, (q + 1) * 8, none⟩ (.bool y.c.super)).setCell ⟨g, (q + 1) * 8 + 1, none⟩ (.int .i64 y.c.top)).setCell ⟨g, (q + 1) * 8 + 2, none⟩ (.int .i64 y.c.details)).setCell ⟨g, (q + 1) * 8 + 3, none⟩ (.int .i64 y.c.pool.tx)).setCell ⟨g, (q + 1) * 8 + 4, none⟩ (.int .i64 y.c.pool.time)).setCell ⟨g, (q + 1) * 8 + 5, none⟩ (.int .i64 y.c.pool.unit)).setCell ⟨g, (q + 1) * 8 + 6, none⟩ (.int .i64 y.c.pool.data)).setCell ⟨g, (q + 1) * 8 + 7, none⟩ (.slice y.A y.c.pool.devs.length y.n)) = wm := ⟨_, rfl⟩
            have hrm : wm.ownsRow w.heap.size 35 8 (.slice (some ⟨g, 0, none⟩) (k + 1) cap6) (k + 1) (flats RC.enc (dk.set (q + 1) y)) := by rw [← hwm]; exact own_set8 hrb y (by omega) HDL.out
            have hBm : Below w.heap.size w wm := by rw [← hwm]; exact below_set8 hBb hg1 _ _ _ _ _ _ _ _
            have hbm : CBoxT 35 wm wz.heap.size a.c a.A a.n := by rw [← hwm]; exact (far_set8 (by omega) _ _ _ _ _ _ _ _).trans hbx
            rw [hwm]
            clear hwm c0 c1 c2 c3 c4 c5 c6 c7 e0 e1 e2 e3 e4 e5 e6 e7 f0 f1 f2 f3 f4 f5 f6 f7
            obtain ⟨c0, c1, c2, c3, c4, c5, c6, c7⟩ := hbm.cells
            obtain ⟨f0, f1, f2, f3, f4, f5, f6, f7⟩ := free8 hrm (q * 8)
            obtain ⟨e0, e1, e2, e3, e4, e5, e6, e7⟩ := own8 hrm (k := q) (by omega) (by rw [List.length_set]; exact HDL.out)
            have HRF := Lib.hid (own_set8 hrm a (k := q) (by omega) (by rw [List.length_set]; exact HDL.out))
            have HBF2 := Lib.hid (below_set8 hBm hg1 (o := q * 8) (.bool a.c.super) (.int .i64 a.c.top) (.int .i64 a.c.details) (.int .i64 a.c.pool.tx) (.int .i64 a.c.pool.time) (.int .i64 a.c.pool.unit) (.int .i64 a.c.pool.data) (.slice a.A a.c.pool.devs.length a.n))
            clear hrm hBm hrb hBb hrz hBz hbx hbb
            go_wp2_with fail
            go_roundw
            case rel =>
              have e : (dk.set (q + 1) y).set q a = swp rc0 dk (q + 1) q := by unfold swp; rw [HAY.out.1, HAY.out.2]
              refine ⟨q, (dk.set (q + 1) y).set q a, by go_num, by omega, by rw [List.length_set, List.length_set]; exact HDL.out, HRF.out, HBF2.out, Lib.hid ⟨fun r hr => ?_, ?_⟩⟩
              · rw [e] at hr
                exact HQ.out.1 r (swp_mem (by rw [HDL.out]; omega) (by rw [HDL.out]; omega) hr)
              · rw [e, ← HQ.out.2, insDown, if_pos ⟨by omega, by rw [HAY.out.1, HAY.out.2]; exact HLT.out⟩]
            case measure => simp [intOf]
          | false =>
            have HLT := Lib.hid (HLR.out.trans hlrc)
            subst hlrc
            go_upto_region 7 with fail
            refine wp_region_till (T := fun _ => false) (S := fun w' => Below wr.heap.size wr w') (by kernel_rfl) (Below.refl wr.heap.size wr).drew (fun hHeld => ?_)
            obtain ⟨w103, hw0⟩ : ∃ x, wr.drew = x := ⟨_, rfl⟩
            rw [hw0] at hHeld ⊢
            have hkA : Below wr.heap.size wr w103 := hHeld
            clear hHeld hw0
            refine wpTill_put 0 23 (oi := _) (v := ?_) rfl rfl (by kernel_rfl) (by kernel_rfl) (by kernel_rfl) (by kernel_rfl) (fun _ _ _ h => h) (by rfl) hkA ?_ ?_
            rotate_left
            · (intro w2' hSw; go_simp; (try with_reducible rfl))
            (try simp only [Act.put, List.setIfInBounds_toArray, List.set_cons_zero, List.set_cons_succ])
            refine wpTill_put 1 24 (oi := _) (v := ?_) rfl rfl (by kernel_rfl) (by kernel_rfl) (by kernel_rfl) (by kernel_rfl) (fun _ _ _ h => h) (by rfl) hkA ?_ ?_
            rotate_left
            · (intro w2' hSw; go_simp; (try with_reducible rfl))
            (try simp only [Act.put, List.setIfInBounds_toArray, List.set_cons_zero, List.set_cons_succ])
            refine wpTill_put 2 25 (oi := _) (v := ?_) rfl rfl (by kernel_rfl) (by kernel_rfl) (by kernel_rfl) (by kernel_rfl) (fun _ _ _ h => h) (by rfl) hkA ?_ ?_
            rotate_left
            · (intro w2' hSw; go_simp; (try with_reducible rfl))
            (try simp only [Act.put, List.setIfInBounds_toArray, List.set_cons_zero, List.set_cons_succ])
            refine wpTill_put 3 26 (oi := _) (v := ?_) rfl rfl (by kernel_rfl) (by kernel_rfl) (by kernel_rfl) (by kernel_rfl) (fun _ _ _ h => h) (by rfl) hkA ?_ ?_
            rotate_left
            · (intro w2' hSw; go_simp; (try with_reducible rfl))
            (try simp only [Act.put, List.setIfInBounds_toArray, List.set_cons_zero, List.set_cons_succ])
            refine wpTill_put 4 27 (oi := _) (v := ?_) rfl rfl (by kernel_rfl) (by kernel_rfl) (by kernel_rfl) (by kernel_rfl) (fun _ _ _ h => h) (by rfl) hkA ?_ ?_
            rotate_left
            · (intro w2' hSw; go_simp; (try with_reducible rfl))
            (try simp only [Act.put, List.setIfInBounds_toArray, List.set_cons_zero, List.set_cons_succ])
            refine wpTill_put 5 28 (oi := _) (v := ?_) rfl rfl (by kernel_rfl) (by kernel_rfl) (by kernel_rfl) (by kernel_rfl) (fun _ _ _ h => h) (by rfl) hkA ?_ ?_
            rotate_left
            · (intro w2' hSw; go_simp; (try with_reducible rfl))
            (try simp only [Act.put, List.setIfInBounds_toArray, List.set_cons_zero, List.set_cons_succ])
            refine wpTill_put 6 29 (oi := _) (v := ?_) rfl rfl (by kernel_rfl) (by kernel_rfl) (by kernel_rfl) (by kernel_rfl) (fun _ _ _ h => h) (by rfl) hkA ?_ ?_
            rotate_left
            · (intro w2' hSw; obtain ⟨⟨c0, c1, c2, c3, c4, c5, c6, c7⟩, e0, e1, e2, e3, e4, e5, e6, e7⟩ := HC8.out _ hSw; go_simp; (try with_reducible rfl))
            (try simp only [Act.put, List.setIfInBounds_toArray, List.set_cons_zero, List.set_cons_succ])
            refine wpTill_put 7 30 (oi := _) (v := ?_) rfl rfl (by kernel_rfl) (by kernel_rfl) (by kernel_rfl) (by kernel_rfl) (fun _ _ _ h => h) (by rfl) hkA ?_ ?_
            rotate_left
            · (intro w2' hSw; go_simp; (try with_reducible rfl))
            (try simp only [Act.put, List.setIfInBounds_toArray, List.set_cons_zero, List.set_cons_succ])
            refine wpTill_put 8 31 (oi := _) (v := ?_) rfl rfl (by kernel_rfl) (by kernel_rfl) (by kernel_rfl) (by kernel_rfl) (fun _ _ _ h => h) (by rfl) hkA ?_ ?_
            rotate_left
            · (intro w2' hSw; go_simp; (try with_reducible rfl))
            (try simp only [Act.put, List.setIfInBounds_toArray, List.set_cons_zero, List.set_cons_succ])
            refine wpTill_put 9 32 (oi := _) (v := ?_) rfl rfl (by kernel_rfl) (by kernel_rfl) (by kernel_rfl) (by kernel_rfl) (fun _ _ _ h => h) (by rfl) hkA ?_ ?_
            rotate_left
            · (intro w2' hSw; go_simp; (try with_reducible rfl))
            (try simp only [Act.put, List.setIfInBounds_toArray, List.set_cons_zero, List.set_cons_succ])
            refine wpTill_put 10 33 (oi := _) (v := ?_) rfl rfl (by kernel_rfl) (by kernel_rfl) (by kernel_rfl) (by kernel_rfl) (fun _ _ _ h => h) (by rfl) hkA ?_ ?_
            rotate_left
            · (intro w2' hSw; go_simp; (try with_reducible rfl))
            (try simp only [Act.put, List.setIfInBounds_toArray, List.set_cons_zero, List.set_cons_succ])
            refine wpTill_put 11 34 (oi := _) (v := ?_) rfl rfl (by kernel_rfl) (by kernel_rfl) (by kernel_rfl) (by kernel_rfl) (fun _ _ _ h => h) (by rfl) hkA ?_ ?_
            rotate_left
            · (intro w2' hSw; obtain ⟨⟨c0, c1, c2, c3, c4, c5, c6, c7⟩, e0, e1, e2, e3, e4, e5, e6, e7⟩ := HC8.out _ hSw; go_simp; (try with_reducible rfl))
            (try simp only [Act.put, List.setIfInBounds_toArray, List.set_cons_zero, List.set_cons_succ])
            refine wpTill_one 12 (o := _) (by kernel_rfl) rfl (fun K hK => ?_)
            go_simp
            refine (HBF.out _ hkA).mono ?_
            rintro e w104 ⟨rfl, hB5⟩
            have hkA := hkA.trans (hB5.mono hkA.size)
            refine hK.out _ _ (fun _ => hkA) (fun _ => ?_)
            clear hK K
            (try simp only [Act.put, List.setIfInBounds_toArray, List.set_cons_zero, List.set_cons_succ])
            refine wpTill_put 13 36 (oi := _) (v := ?_) rfl rfl (by kernel_rfl) (by kernel_rfl) (by kernel_rfl) (by kernel_rfl) (fun _ _ _ h => h) (by rfl) hkA ?_ ?_
            rotate_left
            · (intro w2' hSw; go_simp; (try with_reducible rfl))
            (try simp only [Act.put, List.setIfInBounds_toArray, List.set_cons_zero, List.set_cons_succ])
            refine wpTill_done (by kernel_rfl) ?_ _
            obtain ⟨wz, hwz⟩ : ∃ wz, w104 = wz := ⟨_, rfl⟩
            rw [hwz] at hkA ⊢
            clear hwz
            have hrz := HRW.out.below_ hkA
            have hBz := hBs.trans (hkA.mono hzs)
            go_wp2_with fail
            go_roundw
            case rel =>
              refine ⟨k + 1, dk, by omega, by go_num, HDL.out, hrz, hBz, Lib.hid ⟨HQ.out.1, ?_⟩⟩
              have e : dk = D := by
                rw [← HQ.out.2, insDown, if_neg (fun h => by have := h.2; rw [HAY.out.1, HAY.out.2, HLT.out] at this; cases this)]
              rw [e]
              exact HNX2.out
            case measure => simp [intOf]; omega
        · obtain rfl : q = 0 := by omega
          go_upto_region 7 with fail
          go_quiet (fail)
          go_wp2_with fail
          go_roundw
          case rel =>
            refine ⟨k + 1, dk, by omega, by go_num, hdl, hrw, below_drewN hBs _, Lib.hid ⟨HQ.out.1, ?_⟩⟩
            have e : dk = D := by rw [← HQ.out.2, insDown]
            rw [e]
            exact HNX2.out
          case measure => simp [intOf]; omega
    · obtain rfl : k = n := by omega
      go_wp2_with fail
      go_ret
      have e := HO.out.2
      rw [show raws.drop k = [] from List.drop_of_length_le (by rw [HLEN.out]; omega), refS] at e
      subst e
      have hq := raws_is (S := S) (S' := fun b => S b ∨ Btw w.heap.size wr.heap.size b) hrow HOL.out (fun r hr => (HO.out.1 r hr).1.below hB hS) (fun b h => .inl h) (fun b h1 h2 => .inr ⟨h1, h2⟩)
      rw [HFIN.out.1] at hq
      exact ⟨_, rfl, hq, hB⟩
end Go.Proofs.Ytolpgblegbahgaa
