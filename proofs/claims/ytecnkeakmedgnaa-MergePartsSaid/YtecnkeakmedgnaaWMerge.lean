/- delta.merge, as delta.Maps calls it, puts the parts of the two lists into the captured variable. -/
import Derived.Test.YtecnkeakmedgnaaWDelta
import Derived.Deep.RegionHeld3
namespace Go.Proofs.Ytecnkeakmedgnaa
open Go.RowKit

/-- What is there between two rounds. -/
def MgInv (w : World) (S : Nat → Prop) (ob : Nat) (R : List Pt) (v0 v1 : Value) (wr : World) (ra rb : List Mp) : Prop :=
  ∃ A c B d out cnt, v0 = .slice A ra.length c ∧ ra.length ≤ c ∧ MapRow wr S A ra ∧ v1 = .slice B rb.length d ∧ rb.length ≤ d ∧ MapRow wr S B rb ∧ VOk ra ∧ VOk rb ∧
    OutIs wr ob out ∧ Below ob w wr ∧ Hid (glue out (keys ra rb) = R) ∧ Small cnt out ∧ out.length ≤ cnt ∧ cnt + ra.length + rb.length ≤ 1099511627776

/-- What is there while the rest of one list is gone through: k of ra have been taken; rb stands still. -/
def RestInv (w : World) (ob : Nat) (R : List Pt) (wr : World) (k m : Nat) (ks : List (Int × Int)) : Prop :=
  ∃ out cnt, OutIs wr ob out ∧ Below ob w wr ∧ Hid (glue out ks = R) ∧ Small cnt out ∧ out.length ≤ cnt ∧ cnt + (m - k) ≤ 1099511627776
theorem keys_left_at {ra rb : List Mp} {k : Nat} (hk : k < ra.length) (hx : ra = [] ∨ rb = []) : keys (ra.drop k) rb = (3, (nth mp0 ra k).v) :: keys (ra.drop (k + 1)) rb := by
  rcases hx with rfl | rfl
  · simp at hk
  · rw [drop_nth mp0 ra k hk, keys_left _ _ _ (.inl rfl)]
theorem keys_right_at {rb : List Mp} {k : Nat} (hk : k < rb.length) : keys [] (rb.drop k) = (4, (nth mp0 rb k).v) :: keys [] (rb.drop (k + 1)) := by
  rw [drop_nth mp0 rb k hk, keys_right _ _ _ (.inl rfl)]

set_option maxHeartbeats 1600000 in
theorem merge_any (w : World) (S : Nat → Prop) (ob : Nat) (A B : Option Addr) (c d : Nat) (la lb : List Mp) (hS : ∀ b, S b → b < ob) (hc : la.length ≤ c) (hd : lb.length ≤ d)
    (ha : MapRow w S A la) (hb : MapRow w S B lb) (va : VOk la) (vb : VOk lb) (ho : OutIs w ob []) (hn : la.length + lb.length ≤ 1099511627776) :
    Calls Try.prog 29 #[.slice A la.length c, .slice B lb.length d, .func (.func 30) #[] #[], .func (.func 31) #[] #[.pointer (some ⟨ob, 0, none⟩)]] w
      fun e w' => e = .returned (.tuple #[]) ∧ OutIs w' ob (partsOf la lb) ∧ Below ob w w' := by
  have hlt : ob < w.heap.size := by obtain ⟨v, h, _⟩ := ho; exact h.lt
  have H0 : MgInv w S ob (partsOf la lb) (.slice A la.length c) (.slice B lb.length d) w la lb :=
    ⟨A, c, B, d, [], 0, rfl, hc, ha, rfl, hd, hb, va, vb, ho, Below.refl _ _, Lib.hid rfl, Small.nil_ _, Nat.le_refl _, by omega⟩
  clear ho ha hb va vb hc hd hn
  generalize partsOf la lb = R at *
  go_enter Try.func29, Try.ntmps29
  go_wp2_with fail
  go_loopw [0, 1] (fun v0 v1 wr => ∃ ra rb, MgInv w S ob R v0 v1 wr ra rb) (fun v0 v1 _ => lenOf v0 + lenOf v1)
  case atStart => exact ⟨la, lb, H0⟩
  case round =>
    clear H0
    obtain ⟨ra, rb, A1, c1, B1, d1, out, cnt, rfl, hc1, ha1, rfl, hd1, hb1, va1, vb1, ho1, hB1, hR1, hs1, hl1, hn1⟩ := hrel
    by_cases hg : 0 < ra.length ∧ 0 < rb.length
    · obtain ⟨x, ra, rfl⟩ := List.exists_cons_of_length_pos hg.1
      obtain ⟨y, rb, rfl⟩ := List.exists_cons_of_length_pos hg.2
      clear hg
      obtain ⟨b, off, rfl, hbS, x0, x1, x2⟩ := maps_head ha1
      obtain ⟨b', off', rfl, hbS', y0, y1, y2⟩ := maps_head hb1
      have l1 := hS b hbS
      have l2 := hS b' hbS'
      have l3 := hB1.size
      have e1 : ((x :: ra).length : Int) = (ra.length : Int) + 1 := by simp
      have e2 : ((y :: rb).length : Int) = (rb.length : Int) + 1 := by simp
      go_wp2_with fail
      go_region_held3 (fun w' => w'.cell? ⟨b, off, none⟩ = some (.int .i64 x.v) ∧ w'.cell? ⟨b, off + 1, none⟩ = some (.int .i64 x.b) ∧ w'.cell? ⟨b, off + 2, none⟩ = some (.int .i64 x.t) ∧ w'.cell? ⟨b', off', none⟩ = some (.int .i64 y.v) ∧ w'.cell? ⟨b', off' + 1, none⟩ = some (.int .i64 y.b) ∧ w'.cell? ⟨b', off' + 2, none⟩ = some (.int .i64 y.t)) (go_keep)
        (first | (go_at_call 30; refine (key_any _ _ _ _).mono ?_; rintro e w' ⟨rfl, rfl⟩))
      have hW : Below wr.heap.size wr ((wr.alloc (.cells #[.int .i64 x.v, .int .i64 x.b, .int .i64 x.t] 41)).alloc (.cells #[.int .i64 y.v, .int .i64 y.b, .int .i64 y.t] 41)).drew :=
        (((Below.refl _ wr).alloc (Nat.le_refl _) _).alloc (by simp) _).drew
      have hHeld : _ := ‹_ ∧ _›
      obtain ⟨z0, z1, z2, z3, z4, z5⟩ := hHeld
      clear x0 x1 x2 y0 y1 y2
      generalize ((wr.alloc (.cells #[.int .i64 x.v, .int .i64 x.b, .int .i64 x.t] 41)).alloc (.cells #[.int .i64 y.v, .int .i64 y.b, .int .i64 y.t] 41)).drew = W2 at *
      have hO2 := ho1.below hW
      have hB2 := hB1.trans (hW.mono (by omega))
      have hK : ∀ w3, Below ob W2 w3 → Keep S wr w3 := fun w3 hB3 => (keep_below hW (fun b hb => by have := hS b hb; omega)).trans (keep_below hB3 hS)
      have HK := Lib.hid hK
      clear ho1 hB1 hK
      have vx := va1.head
      have vy := vb1.head
      simp only [List.length_cons] at hc1 hd1 hn1
      rcases Int.lt_trichotomy x.v y.v with hxy | hxy | hxy
      · go_wp2_with (go_at_call 31; go_loud (refine (do_any W2 ob _ _ x.v 3 out (by omega) (hs1.mono (by omega)) hO2 (Lib.hid (kind_any W2 _ _ (some x) none ⟨b, off, rfl, z0, z1, z2⟩ rfl))).mono ?_); rintro e w3 ⟨rfl, hO3, hB3⟩)
        go_roundw
        case rel =>
          exact ⟨ra, y :: rb, _, _, _, _, _, cnt + 1, rfl, by omega, RowOf.keep rmp_stable (maps_tail ha1 hc1) (fun _ h => h) (HK.out _ hB3), rfl, by simpa using hd1, RowOf.keep rmp_stable hb1 (fun _ h => h) (HK.out _ hB3), va1.tail, vb1, hO3, hB2.trans hB3,
            Lib.hid (by rw [← hR1.out, keys_lt _ _ _ _ hxy, glue_cons]), hs1.addP_ _ _ vx.1 vx.2, by have := addP_length out 3 x.v; omega, by simp; omega⟩
        case measure => simp [lenOf]
      · have hxy' := Lib.hid hxy
        have hle1 : ¬ x.v < y.v := by omega
        have hle2 : ¬ y.v < x.v := by omega
        have hk := Lib.hid (kind_any W2.drew _ _ (some x) (some y) ⟨b, off, rfl, z0, z1, z2⟩ ⟨b', off', rfl, z3, z4, z5⟩)
        have hd := fun (h : Hid _) => do_any W2.drew ob (.pointer (some ⟨b, off, none⟩)) (.pointer (some ⟨b', off', none⟩)) x.v (kindOf (some x) (some y)) out (by omega) (hs1.mono (by omega)) hO2 h
        have hdo := Lib.hid (hd hk)
        clear hxy hd hk
        go_wp2_with fail
        go_region_held3 (fun w' => Below 0 w' w') (exact Below.refl _ _)
          (first | (go_at_call 31; refine hdo.out.mono ?_; rintro e w3 ⟨rfl, hO3, hB3⟩))
        go_wp2_with fail
        go_quiet (fail)
        have hB4 : Below ob W2 (w3.drewN nq) := ⟨hB3.os, hB3.tape, hB3.output, hB3.size, hB3.block⟩
        have hO4 : OutIs (w3.drewN nq) ob (addP out (kindOf (some x) (some y)) x.v) := hO3
        clear hB3 hO3
        generalize w3.drewN nq = w4 at *
        go_wp2_with fail
        go_roundw
        case rel =>
          exact ⟨ra, rb, _, _, _, _, _, cnt + 1, rfl, by omega, RowOf.keep rmp_stable (maps_tail ha1 hc1) (fun _ h => h) (HK.out _ hB4), rfl, by omega, RowOf.keep rmp_stable (maps_tail hb1 hd1) (fun _ h => h) (HK.out _ hB4), va1.tail, vb1.tail, hO4, hB2.trans hB4,
            Lib.hid (by rw [← hR1.out, keys_eq _ _ _ _ hxy'.out, glue_cons]; rfl), hs1.addP_ _ _ vx.1 vx.2, by have := addP_length out (kindOf (some x) (some y)) x.v; omega, by omega⟩
        case measure => simp [lenOf]; omega
      · go_wp2_with (go_at_call 31; go_loud (refine (do_any W2 ob _ _ y.v 4 out (by omega) (hs1.mono (by omega)) hO2 (Lib.hid (kind_any W2 _ _ none (some y) rfl ⟨b', off', rfl, z3, z4, z5⟩))).mono ?_); rintro e w3 ⟨rfl, hO3, hB3⟩)
        go_roundw
        case rel =>
          exact ⟨x :: ra, rb, _, _, _, _, _, cnt + 1, rfl, by simpa using hc1, RowOf.keep rmp_stable ha1 (fun _ h => h) (HK.out _ hB3), rfl, by omega, RowOf.keep rmp_stable (maps_tail hb1 hd1) (fun _ h => h) (HK.out _ hB3), va1, vb1.tail, hO3, hB2.trans hB3,
            Lib.hid (by rw [← hR1.out, keys_gt _ _ _ _ hxy, glue_cons]), hs1.addP_ _ _ vy.1 vy.2, by have := addP_length out 4 y.v; omega, by simp; omega⟩
        case measure => simp [lenOf]
    · have hx : ra = [] ∨ rb = [] := by
        rcases Nat.eq_zero_or_pos ra.length with h | h
        · exact .inl (List.eq_nil_of_length_eq_zero h)
        · exact .inr (List.eq_nil_of_length_eq_zero (by omega))
      have hx := Lib.hid hx
      obtain ⟨wo, rfl⟩ : ∃ wo : World, wo = wr := ⟨_, rfl⟩
      have hra := Lib.hid (rfl : ra.length = ra.length)
      obtain ⟨n1, hn⟩ : ∃ n, ra.length = n := ⟨_, rfl⟩
      obtain ⟨n2, hm⟩ : ∃ n, rb.length = n := ⟨_, rfl⟩
      rw [hn] at hc1 hn1 hg ⊢
      rw [hm] at hd1 hn1 hg ⊢
      have HN := Lib.hid hn
      have HM := Lib.hid hm
      clear hn hm hra
      have hor : (0 < n1 ∧ decide (0 < n2) = false) ∨ (¬ 0 < n1 ∧ decide (0 < n1) = false) := by
        by_cases h0 : 0 < n1
        · exact .inl ⟨h0, by simp; omega⟩
        · exact .inr ⟨h0, by simp; omega⟩
      have l3 := hB1.size
      rcases hor with ⟨h0, hd0⟩ | ⟨h0, hd0⟩
      all_goals
        go_wp2_with fail
        go_loopw [65] (fun i wr => ∃ k : Nat, i = .int .i64 k ∧ k ≤ n1 ∧ RestInv w ob R wr k (n1 + n2) (keys (ra.drop k) rb)) (fun i _ => n1 - (intOf i).toNat)
        case atStart => exact ⟨0, rfl, by omega, out, cnt, ho1, hB1, hR1, hs1, hl1, by omega⟩
        case round =>
          obtain ⟨k, rfl, hk, out2, cnt2, ho2, hB2, hR2, hs2, hl2, hn2⟩ := hrel
          have l4 := hB2.size
          by_cases hkn : k < n1
          · first
            | (exfalso; omega)
            | (obtain ⟨b, off, rfl, hbS, hc⟩ := maps_cells (RowOf.keep rmp_stable ha1 (fun _ h => h) (keep_back hB1 hB2 hS)) (by rw [HN.out]; omega)
               obtain ⟨c0, c1', c2⟩ := hc k (by rw [HN.out]; exact hkn)
               have l1 := hS b hbS
               have vx := va1.at_ (k := k) (by rw [HN.out]; exact hkn)
               have hks := Lib.hid (keys_left_at (k := k) (by rw [HN.out]; exact hkn) hx.out)
               clear hc ho1
               generalize nth mp0 ra k = x at *
               have hW : Below wr.heap.size wr (wr.alloc (.cells #[.int .i64 x.v, .int .i64 x.b, .int .i64 x.t] 41)).drew := ((Below.refl _ wr).alloc (Nat.le_refl _) _).drew
               have hcell : ∀ o, (wr.alloc (.cells #[.int .i64 x.v, .int .i64 x.b, .int .i64 x.t] 41)).drew.cell? ⟨b, o, none⟩ = wr.cell? ⟨b, o, none⟩ := fun o => hW.cell (p := ⟨b, o, none⟩) (by show b < wr.heap.size; omega)
               have hdo := Lib.hid (do_any _ ob _ _ x.v 3 out2 (by omega) (hs2.mono (by omega)) (ho2.below hW) (Lib.hid (kind_any _ (.pointer (some ⟨b, off + k * 3, none⟩)) (.pointer none) (some x) none ⟨b, off + k * 3, rfl, (hcell _).trans c0, (hcell _).trans c1', (hcell _).trans c2⟩ rfl)))
               clear hcell
               go_wp2_with fail
               go_region_held3 (fun w' => w'.cell? ⟨b, off + k * 3, none⟩ = some (.int .i64 x.v) ∧ w'.cell? ⟨b, off + k * 3 + 1, none⟩ = some (.int .i64 x.b) ∧ w'.cell? ⟨b, off + k * 3 + 2, none⟩ = some (.int .i64 x.t)) (go_keep)
                 (first
                   | (go_at_call 30; refine (key_any _ _ _ _).mono ?_; rintro e w' ⟨rfl, rfl⟩)
                   | (go_at_call 31; refine hdo.out.mono ?_; rintro e w3 ⟨rfl, hO3, hB3⟩; have hk3 := fun o => hB3.cell (p := ⟨b, o, none⟩) l1))
               go_wp2_with fail
               go_roundw
               case rel =>
                 exact ⟨k + 1, by go_num, by omega, addP out2 3 x.v, cnt2 + 1, hO3, hB2.trans ((hW.mono (by omega)).trans hB3), Lib.hid (by rw [← hR2.out, hks.out, glue_cons]), hs2.addP_ _ _ vx.1 vx.2, by have := addP_length out2 3 x.v; omega, by omega⟩
               case measure => simp [intOf]; omega)
          · have hR3 : Hid (glue out2 (keys [] rb) = R) := by
              have := hR2.out
              rw [List.drop_eq_nil_of_le (by rw [HN.out]; omega)] at this
              exact this
            obtain ⟨w3, rfl⟩ : ∃ w3 : World, w3 = wr := ⟨_, rfl⟩
            clear hR2 ho1
            go_wp2_with fail
            go_loopw [82] (fun i wr => ∃ j : Nat, i = .int .i64 j ∧ j ≤ n2 ∧ RestInv w ob R wr j n2 (keys [] (rb.drop j))) (fun i _ => n2 - (intOf i).toNat)
            case atStart => exact ⟨0, rfl, by omega, out2, cnt2, ho2, hB2, hR3, hs2, hl2, by omega⟩
            case round =>
              clear ho2 hs2 hl2
              obtain ⟨j, rfl, hj, out3, cnt3, ho3, hB3, hR4, hs3, hl3, hn3⟩ := hrel
              have l5 := hB3.size
              by_cases hjn : j < n2
              · obtain ⟨b, off, rfl, hbS, hc⟩ := maps_cells (RowOf.keep rmp_stable hb1 (fun _ h => h) (keep_back hB1 hB3 hS)) (by rw [HM.out]; omega)
                obtain ⟨c0, c1', c2⟩ := hc j (by rw [HM.out]; exact hjn)
                have l1 := hS b hbS
                have vx := vb1.at_ (k := j) (by rw [HM.out]; exact hjn)
                have hks := Lib.hid (keys_right_at (rb := rb) (k := j) (by rw [HM.out]; exact hjn))
                clear hc
                generalize nth mp0 rb j = x at *
                have hW : Below wr.heap.size wr (wr.alloc (.cells #[.int .i64 x.v, .int .i64 x.b, .int .i64 x.t] 41)).drew := ((Below.refl _ wr).alloc (Nat.le_refl _) _).drew
                have hcell : ∀ o, (wr.alloc (.cells #[.int .i64 x.v, .int .i64 x.b, .int .i64 x.t] 41)).drew.cell? ⟨b, o, none⟩ = wr.cell? ⟨b, o, none⟩ := fun o => hW.cell (p := ⟨b, o, none⟩) (by show b < wr.heap.size; omega)
                have hdo := Lib.hid (do_any _ ob _ _ x.v 4 out3 (by omega) (hs3.mono (by omega)) (ho3.below hW) (Lib.hid (kind_any _ (.pointer none) (.pointer (some ⟨b, off + j * 3, none⟩)) none (some x) rfl ⟨b, off + j * 3, rfl, (hcell _).trans c0, (hcell _).trans c1', (hcell _).trans c2⟩)))
                clear hcell
                go_wp2_with fail
                go_region_held3 (fun w' => w'.cell? ⟨b, off + j * 3, none⟩ = some (.int .i64 x.v) ∧ w'.cell? ⟨b, off + j * 3 + 1, none⟩ = some (.int .i64 x.b) ∧ w'.cell? ⟨b, off + j * 3 + 2, none⟩ = some (.int .i64 x.t)) (go_keep)
                  (first
                    | (go_at_call 30; refine (key_any _ _ _ _).mono ?_; rintro e w' ⟨rfl, rfl⟩)
                    | (go_at_call 31; refine hdo.out.mono ?_; rintro e w5 ⟨rfl, hO5, hB5⟩; have hk3 := fun o => hB5.cell (p := ⟨b, o, none⟩) l1))
                go_wp2_with fail
                go_roundw
                case rel =>
                  exact ⟨j + 1, by go_num, by omega, addP out3 4 x.v, cnt3 + 1, hO5, hB3.trans ((hW.mono (by omega)).trans hB5), Lib.hid (by rw [← hR4.out, hks.out, glue_cons]), hs3.addP_ _ _ vx.1 vx.2, by have := addP_length out3 4 x.v; omega, by omega⟩
                case measure => simp [intOf]; omega
              · have hfin : Hid (out3 = R) := by
                  have := hR4.out
                  rw [List.drop_eq_nil_of_le (by rw [HM.out]; omega), keys_nil_left] at this
                  exact this
                go_wp2_with fail
                go_end0
                exact ⟨rfl, by rw [← hfin.out]; exact ho3, hB3⟩
end Go.Proofs.Ytecnkeakmedgnaa
