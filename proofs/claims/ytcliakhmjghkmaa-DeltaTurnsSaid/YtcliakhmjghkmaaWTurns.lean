/- scantlinglaw39.DeltaTurns returns true for any two slices of mappings. -/
import Derived.Test.YtcliakhmjghkmaaWSum
import Derived.Test.YtcliakhmjghkmaaWLaw39
namespace Go.Proofs.Ytcliakhmjghkmaa
open Go.RowKit

theorem turn_zero {a b : List Mp} (h : chk a = 0 ∧ chk b = 0) : mapsErr a b = 0 ∧ mapsRes a b = partsOf a b := ⟨by rw [mapsErr_b h.1, h.2], mapsRes_yes h.1 h.2⟩
theorem turn_err {a b : List Mp} (h : ¬ (chk a = 0 ∧ chk b = 0)) : mapsErr a b ≠ 0 ∧ mapsRes a b = [] := by
  refine ⟨?_, mapsRes_no h⟩
  by_cases h1 : chk a = 0
  · rw [mapsErr_b h1]; exact fun h2 => h ⟨h1, h2⟩
  · rw [mapsErr_a h1]; exact h1
theorem small_parts : ∀ n (a b : List Mp) (c : Nat) (out : List Pt), a.length + b.length ≤ n → VOk a → VOk b → Small c out → Small (c + n) (glue out (keys a b)) := by
  intro n
  induction n with
  | zero =>
    intro a b c out h _ _ hs
    obtain rfl : a = [] := List.eq_nil_of_length_eq_zero (by omega)
    obtain rfl : b = [] := List.eq_nil_of_length_eq_zero (by omega)
    rw [keys_nil_left]; exact hs
  | succ n ih =>
    intro a b c out h ha hb hs
    cases a with
    | nil =>
      cases b with
      | nil => rw [keys_nil_left]; exact hs.mono (by omega)
      | cons y b =>
        simp only [List.length_cons] at h
        rw [keys_right y [] b (.inl rfl), glue_cons]
        have := ih [] b (c + 1) _ (by simp; simp at h; omega) ha hb.tail (hs.addP_ 4 y.v hb.head.1 hb.head.2)
        exact this.mono (by omega)
    | cons x a =>
      cases b with
      | nil =>
        simp only [List.length_cons] at h
        rw [keys_left x a [] (.inl rfl), glue_cons]
        have := ih a [] (c + 1) _ (by simp; simp at h; omega) ha.tail hb (hs.addP_ 3 x.v ha.head.1 ha.head.2)
        exact this.mono (by omega)
      | cons y b =>
        simp only [List.length_cons] at h
        rcases Int.lt_trichotomy x.v y.v with hxy | hxy | hxy
        · rw [keys_lt x y a b hxy, glue_cons]
          exact (ih a (y :: b) (c + 1) _ (by simp; omega) ha.tail hb (hs.addP_ 3 x.v ha.head.1 ha.head.2)).mono (by omega)
        · rw [keys_eq x y a b hxy, glue_cons]
          exact (ih a b (c + 1) _ (by omega) ha.tail hb.tail (hs.addP_ _ x.v ha.head.1 ha.head.2)).mono (by omega)
        · rw [keys_gt x y a b hxy, glue_cons]
          exact (ih (x :: a) b (c + 1) _ (by simp; omega) ha hb.tail (hs.addP_ 4 y.v hb.head.1 hb.head.2)).mono (by omega)
theorem parts_small {a b : List Mp} (ha : chk a = 0) (hb : chk b = 0) (hn : a.length + b.length ≤ 4000) : Small 4000 (partsOf a b) := by
  have := small_parts _ a b 0 [] (Nat.le_refl _) (chk_vok ha) (chk_vok hb) (Small.nil_ _)
  exact this.mono (by omega)
theorem parts_len {a b : List Mp} : (partsOf a b).length ≤ a.length + b.length := by
  have h1 := glue_len (keys a b) []
  have h2 := keys_len _ a b (Nat.le_refl _)
  unfold partsOf
  simp at h1
  omega

theorem nth_turn (L : List Pt) (k : Nat) : nth pt0 (L.map turnP) k = turnP (nth pt0 L k) := by
  unfold nth
  by_cases h : k < L.length
  · simp [List.getD, h]
  · simp [List.getD, List.getElem?_eq_none (Nat.le_of_not_lt h)]; rfl

set_option maxRecDepth 100000 in
set_option maxHeartbeats 1600000 in
theorem deltaTurns_walk (w : World) (va vb : Value) (a b : List Mp) (ha : IsMaps w (Lt w.heap.size) va a) (hb : IsMaps w (Lt w.heap.size) vb b) (hna : a.length ≤ 140737488355328) (hnb : b.length ≤ 140737488355328) :
    Calls Try.prog 4 #[va, vb] w fun e w' => e = .returned (.bool true) ∧ Below w.heap.size w w' := by
  obtain ⟨A, c, rfl, hc, hra⟩ := ha
  obtain ⟨B, d, rfl, hd, hrb⟩ := hb
  generalize hla : a.length = n1 at *
  generalize hlb : b.length = n2 at *
  have HA := Lib.hid hla
  have HB := Lib.hid hlb
  clear hla hlb
  by_cases h1 : 2000 < n1
  · go_enter Try.func4, Try.ntmps4
    go_wp2_with (go_at_call 5; refine (lives39 _).mono ?_; rintro e w3 ⟨rfl, hB3⟩)
    go_ret
    exact ⟨rfl, hB3⟩
  · by_cases h2 : 2000 < n2
    · go_enter Try.func4, Try.ntmps4
      go_wp2_with (go_at_call 5; refine (lives39 _).mono ?_; rintro e w3 ⟨rfl, hB3⟩)
      go_ret
      exact ⟨rfl, hB3⟩
    · have ia : ∀ w', Below w.heap.size w w' → IsMaps w' (Lt w.heap.size) (.slice A n1 c) a := fun w' h => ⟨A, c, by rw [HA.out], by rw [HA.out]; exact hc, hra.keep rmp_stable (fun _ h => h) (keep_below h (fun _ h => h))⟩
      have ib : ∀ w', Below w.heap.size w w' → IsMaps w' (Lt w.heap.size) (.slice B n2 d) b := fun w' h => ⟨B, d, by rw [HB.out], by rw [HB.out]; exact hd, hrb.keep rmp_stable (fun _ h => h) (keep_below h (fun _ h => h))⟩
      have IA := Lib.hid ia
      have IB := Lib.hid ib
      clear ia ib hra hrb
      by_cases hok : chk a = 0 ∧ chk b = 0
      · obtain ⟨e1, r1⟩ := turn_zero hok
        obtain ⟨e2, r2⟩ := turn_zero (a := b) (b := a) ⟨hok.2, hok.1⟩
        obtain ⟨e3, r3⟩ := turn_zero (a := a) (b := a) ⟨hok.1, hok.1⟩
        have hch := parts_chain hok.1 hok.2
        have hsm := parts_small hok.1 hok.2 (by rw [HA.out, HB.out]; omega)
        have hsm3 := parts_small hok.1 hok.1 (by rw [HA.out]; omega)
        have hln := parts_len (a := a) (b := b)
        have hln3 := parts_len (a := a) (b := a)
        rw [HA.out, HB.out] at hln
        rw [HA.out] at hln3
        have hs1 := sumK_parts 1 a b
        have hs2 := sumK_parts 2 a b
        have hs3 := sumK_parts 3 a b
        have hs4 := sumK_parts 4 a b
        have hca := cnt_all _ a b (Nat.le_refl _)
        rw [← hs1, ← hs2, ← hs3, ← hs4, HA.out, HB.out] at hca
        have hself := sum_self a
        rw [HA.out] at hself
        have hb1 := sumK_bound 1 hsm
        have hb2 := sumK_bound 2 hsm
        have hb3 := sumK_bound 3 hsm
        have hb4 := sumK_bound 4 hsm
        rw [parts_turn a b] at r2
        have p1 := proMaps w (Lt w.heap.size) _ _ a b (fun _ h => h) (IA.out w (Below.refl _ _)) (IB.out w (Below.refl _ _)) (by rw [HA.out, HB.out]; omega)
        have p2 := fun w1 (hB1 : Below w.heap.size w w1) => proMaps w1 (Lt w.heap.size) _ _ b a (fun _ h => Nat.lt_of_lt_of_le h hB1.size) (IB.out w1 hB1) (IA.out w1 hB1) (by rw [HA.out, HB.out]; omega)
        have p3 := fun w1 (hB1 : Below w.heap.size w w1) => proMaps w1 (Lt w.heap.size) _ _ a a (fun _ h => Nat.lt_of_lt_of_le h hB1.size) (IA.out w1 hB1) (IA.out w1 hB1) (by rw [HA.out]; omega)
        rw [e1, r1] at p1
        rw [e2, r2] at p2
        rw [e3, r3] at p3
        have p1 := Lib.hid p1
        have p2 := Lib.hid p2
        have p3 := Lib.hid p3
        clear e1 e2 e3 r1 r2 r3 hs1 hs2 hs3 hs4 hok
        generalize partsOf a b = L at *
        generalize partsOf a a = L3 at *
        generalize hnl : L.length = n at *
        have HL := Lib.hid hnl
        have HCH := Lib.hid hch
        have HCA := Lib.hid hca
        have HSELF := Lib.hid hself
        have HSM := Lib.hid hsm
        have HSM3 := Lib.hid hsm3
        have HB1 := Lib.hid hb1
        have HB2 := Lib.hid hb2
        have HB3 := Lib.hid hb3
        have HB4 := Lib.hid hb4
        clear hnl hch hca hself hsm hsm3 hb1 hb2 hb3 hb4 HB1 HB2 HB3 HB4
        have g1 : decide ((2000 : Int) < (n1 : Int)) = false := by simp; omega
        have g2 : decide ((2000 : Int) < (n2 : Int)) = false := by simp; omega
        go_enter Try.func4, Try.ntmps4
        go_wp2_with fail
        refine p1.out.mono ?_
        rintro e w1 ⟨v1, rfl, ⟨A1, c1, rfl, hc1, hr1⟩, hB1⟩
        rw [HL.out] at hc1 ⊢
        go_wp2_with fail
        refine (p2.out w1 hB1).mono ?_
        rintro e w2 ⟨v2, rfl, ⟨A2, c2, rfl, hc2, hr2⟩, hB2⟩
        rw [List.length_map, HL.out] at hc2 ⊢
        go_wp2_with fail
        have hB12 := hB1.trans (hB2.mono hB1.size)
        have hW : Below w2.heap.size w2 (w2.alloc (.cells #[.int .i64 0, .int .i64 1, .int .i64 2, .int .i64 4, .int .i64 3] 3)) := (Below.refl _ _).alloc (Nat.le_refl _) _
        have ht : ∀ k : Int, 1 ≤ k → k ≤ 4 → (w2.alloc (.cells #[.int .i64 0, .int .i64 1, .int .i64 2, .int .i64 4, .int .i64 3] 3)).cell? ⟨w2.heap.size, k.toNat, none⟩ = some (.int .i64 (turnK k)) := by
          intro k h1 h4
          rw [World.cell?_alloc_new]
          have : k = 1 ∨ k = 2 ∨ k = 3 ∨ k = 4 := by omega
          rcases this with rfl | rfl | rfl | rfl <;> rfl
        have hrl := hr1.keep rpt_stable (S' := Lt w2.heap.size) (fun _ h => Nat.lt_of_lt_of_le h.2 hB2.size) ((keep_below hB2 (fun _ h => h.2)).trans (keep_below hW (fun _ h => Nat.lt_of_lt_of_le h.2 hB2.size)))
        have hrk := hr2.keep rpt_stable (S' := Lt w2.heap.size) (fun _ h => h.2) (keep_below hW (fun _ h => h.2))
        have HT := Lib.hid ht
        have hBW := hB12.trans (hW.mono hB12.size)
        have hwz : w2.heap.size < (w2.alloc (.cells #[.int .i64 0, .int .i64 1, .int .i64 2, .int .i64 4, .int .i64 3] 3)).heap.size := by simp
        clear hr1 hr2 ht hW hB1 hB2 hB12
        generalize w2.alloc (.cells #[.int .i64 0, .int .i64 1, .int .i64 2, .int .i64 4, .int .i64 3] 3) = W at *
        go_loopw [10] (fun i wr => ∃ k : Nat, i = .int .i64 k ∧ k ≤ n ∧ ∃ m, wr = W.drewN m) (fun i _ => n - (intOf i).toNat)
        case atStart => exact ⟨0, rfl, by omega, 0, rfl⟩
        case round =>
          obtain ⟨k, rfl, hk, m, rfl⟩ := hrel
          by_cases hlt : k < n
          · obtain ⟨ba, oa, rfl, hba, hcl⟩ := parts_cells hrl (by rw [HL.out]; omega)
            obtain ⟨q0, q1, q2⟩ := hcl k (by rw [HL.out]; exact hlt)
            obtain ⟨bb, ob, rfl, hbb, hck⟩ := parts_cells hrk (by rw [List.length_map, HL.out]; omega)
            obtain ⟨s0, s1, s2⟩ := hck k (by rw [List.length_map, HL.out]; exact hlt)
            rw [nth_turn] at s0 s1 s2
            have hx := HCH.out.1 _ (nth_mem pt0 L k (by rw [HL.out]; exact hlt))
            have hxs := HSM.out _ (nth_mem pt0 L k (by rw [HL.out]; exact hlt))
            have ht := HT.out _ hx.1 hx.2.1
            have hbd : ((turnK (nth pt0 L k).k) != (turnK (nth pt0 L k).k)) = false := by simp
            have d1 : decide ((nth pt0 L k).k < 1) = false := by simp; omega
            have d2 : decide (4 < (nth pt0 L k).k) = false := by simp; omega
            have d3 : decide ((nth pt0 L k).n < 1) = false := by simp; omega
            have d4 : ((nth pt0 L k).v != (nth pt0 L k).v) = false := by simp
            have d5 : ((nth pt0 L k).n != (nth pt0 L k).n) = false := by simp
            have hor : (∃ y : Pt, 0 < k ∧ decide ((0 : Int) < (k : Int)) = true ∧ 0 ≤ y.v ∧ y.v ≤ 281474976710655 ∧ 1 ≤ y.n ∧ y.n ≤ 4000 ∧ W.cell? ⟨ba, oa + (k - 1) * 3 + 1, none⟩ = some (.int .i64 y.v) ∧ W.cell? ⟨ba, oa + (k - 1) * 3 + 2, none⟩ = some (.int .i64 y.n) ∧ decide ((nth pt0 L k).v < y.v + y.n) = false) ∨ (¬ 0 < k ∧ decide ((0 : Int) < (k : Int)) = false) := by
              by_cases h0 : 0 < k
              · obtain ⟨y0, y1, y2⟩ := hcl (k - 1) (by rw [HL.out]; omega)
                have hyc := HCH.out.2 (k - 1) (by rw [HL.out]; omega)
                have hys := HSM.out _ (nth_mem pt0 L (k - 1) (by rw [HL.out]; omega))
                rw [show k - 1 + 1 = k from by omega] at hyc
                exact .inl ⟨nth pt0 L (k - 1), h0, by simp; omega, hys.1, hys.2.1, hys.2.2.1, hys.2.2.2, y1, y2, by simp; omega⟩
              · exact .inr ⟨h0, by simp; omega⟩
            clear hcl hck HT
            simp only [turnP] at s0 s1 s2
            generalize nth pt0 L k = x at *
            rcases hor with ⟨y, h0, d7, z0, z1, z2, z3, y1, y2, d6⟩ | ⟨h0, d7⟩
            all_goals
              go_wp2_with fail
              simp only [List.append_eq, List.cons_append, List.nil_append]
              go_quiet (fail)
              go_wp2_with fail
              go_roundw
              case rel => exact ⟨k + 1, by go_num, by omega, by first | exact ⟨_, rfl⟩ | exact dr2 _ _ _⟩
              case measure => simp [intOf]; omega
          · have hBm := below_drewN hBW m
            have qs : ∀ kd s, sumK kd L = s → ∀ w', Below W.heap.size (W.drewN m) w' → Calls Try.prog 11 #[.slice A1 n c1, .int .i64 kd] w' fun e w2 => e = .returned (.int .i64 s) ∧ Below w'.heap.size w' w2 := by
              intro kd s hs w' hB
              subst hs
              exact sum_any w' (Lt w2.heap.size) _ L kd 4000 (fun _ h => by have := hB.size; simp at this; have h' : _ < w2.heap.size := h; omega) ⟨A1, c1, by rw [HL.out], by rw [HL.out]; exact hc1, hrl.keep rpt_stable (fun _ h => h) (keep_below (w := W.drewN m) hB (fun _ h => Nat.lt_trans h hwz))⟩ HSM.out (by rw [HL.out]; omega) (by omega)
            have hs1 := sumK_bound 1 HSM.out
            have hs2 := sumK_bound 2 HSM.out
            have hs3 := sumK_bound 3 HSM.out
            have hs4 := sumK_bound 4 HSM.out
            have hca := HCA.out
            have hse := HSELF.out
            have q1 := qs 1 _ rfl
            have q2 := qs 2 _ rfl
            have q3 := qs 3 _ rfl
            have q4 := qs 4 _ rfl
            generalize sumK 1 L = t1 at *
            generalize sumK 2 L = t2 at *
            generalize sumK 3 L = t3 at *
            generalize sumK 4 L = t4 at *
            have u1 := hs1.1
            have u2 := hs2.1
            have u3 := hs3.1
            have u4 := hs4.1
            have v1 : t1 + t2 + t3 ≤ 2000 := by omega
            have v2 : t1 + t2 + t4 ≤ 2000 := by omega
            have e1 : (t1 + t2 + t3 == (n1 : Int)) = true := by simp; omega
            have e2 : (t1 + t2 + t4 == (n2 : Int)) = true := by simp; omega
            have Q1 := Lib.hid q1
            have Q2 := Lib.hid q2
            have Q3 := Lib.hid q3
            have Q4 := Lib.hid q4
            clear q1 q2 q3 q4 qs hs1 hs2 hs3 hs4 hca hse HCA
            go_wp2_with fail
            refine (p3.out _ hBm).mono ?_
            rintro e w4 ⟨v4, rfl, hP4, hB4⟩
            go_wp2_with fail
            refine (Q1.out w4 hB4).mono ?_
            rintro e w5 ⟨rfl, hB5⟩
            have hB45 := hB4.trans (hB5.mono hB4.size)
            go_wp2_with fail
            refine (Q2.out w5 hB45).mono ?_
            rintro e w6 ⟨rfl, hB6⟩
            have hB46 := hB45.trans (hB6.mono hB45.size)
            have hB56 := hB5.trans (hB6.mono hB5.size)
            have hP6 := hP4.keep rpt_stable (S' := Lt w4.heap.size) (fun _ h => h.2) (keep_below hB56 (fun _ h => h.2))
            go_wp2_with fail
            refine (sum_any w6 (Lt w4.heap.size) _ L3 1 4000 (fun _ h => Nat.lt_of_lt_of_le h hB56.size) hP6 HSM3.out (by omega) (by omega)).mono ?_
            rw [HSELF.out]
            rintro e w7 ⟨rfl, hB7⟩
            have hB47 := hB46.trans (hB7.mono hB46.size)
            go_wp2_with fail
            refine (Q3.out w7 hB47).mono ?_
            rintro e w8 ⟨rfl, hB8⟩
            have hB48 := hB47.trans (hB8.mono hB47.size)
            go_wp2_with fail
            refine (Q4.out w8 hB48).mono ?_
            rintro e w9 ⟨rfl, hB9⟩
            have hB49 := hB48.trans (hB9.mono hB48.size)
            go_wp2_with fail
            refine (lives39 _).mono ?_
            rintro e w10 ⟨rfl, hB10⟩
            go_wp2_with fail
            go_ret
            exact ⟨rfl, hBm.trans ((hB49.trans (hB10.mono hB49.size)).mono hBm.size)⟩
      · have hok' : ¬ (chk b = 0 ∧ chk a = 0) := fun h => hok ⟨h.2, h.1⟩
        obtain ⟨e1, r1⟩ := turn_err hok
        obtain ⟨e2, r2⟩ := turn_err hok'
        have p1 := Lib.hid (proMaps w (Lt w.heap.size) _ _ a b (fun _ h => h) (IA.out w (Below.refl _ _)) (IB.out w (Below.refl _ _)) (by rw [HA.out, HB.out]; omega))
        have p2 := Lib.hid (fun w1 (hB1 : Below w.heap.size w w1) => proMaps w1 (Lt w.heap.size) _ _ b a (fun _ h => Nat.lt_of_lt_of_le h hB1.size) (IB.out w1 hB1) (IA.out w1 hB1) (by rw [HA.out, HB.out]; omega))
        have b1 : (mapsErr a b != 0) = true := by simpa using e1
        have b2 : (mapsErr a b == 0) = false := by simpa using e1
        have b3 : (mapsErr b a == 0) = false := by simpa using e2
        have R1 := Lib.hid r1
        have R2 := Lib.hid r2
        clear e1 e2 r1 r2 hok hok'
        go_enter Try.func4, Try.ntmps4
        go_wp2_with fail
        refine p1.out.mono ?_
        rintro e w1 ⟨v1, rfl, hP1, hB1⟩
        rw [R1.out] at hP1
        obtain ⟨A1, c1, rfl, _, _⟩ := hP1
        go_wp2_with fail
        refine (p2.out w1 hB1).mono ?_
        rintro e w2 ⟨v2, rfl, hP2, hB2⟩
        rw [R2.out] at hP2
        obtain ⟨A2, c2, rfl, _, _⟩ := hP2
        have hB12 := hB1.trans (hB2.mono hB1.size)
        go_wp2_with (go_at_call 5; refine (lives39 _).mono ?_; rintro e w3 ⟨rfl, hB3⟩)
        go_ret
        exact ⟨rfl, hB12.trans (hB3.mono hB12.size)⟩
end Go.Proofs.Ytcliakhmjghkmaa
