/- scantlinglaw52.MergeParts says yes of every input. Condition: the numbers fit into Go's int, and no slice is longer than the reach. -/
import Derived.Test.YtecnkeakmedgnaaWMLists
import Derived.Test.YtecnkeakmedgnaaMPartsP
namespace Go.Proofs.Ytecnkeakmedgnaa
open Go.RowKit Go.Shelf
attribute [local go_sem] Oper.semAt_some

theorem chkAll_a {a b : List Mp} (h : chk a ≠ 0) : chkAll [a, b] = chk a := by simp only [chkAll]; rw [if_pos h]
theorem chkAll_b {a b : List Mp} (h : chk a = 0) : chkAll [a, b] = chk b := by
  simp only [chkAll]
  rw [if_neg (by simpa using h)]
  split <;> omega
set_option maxRecDepth 100000 in
set_option maxHeartbeats 6400000 in
/-- One of the lists may not be. -/
theorem mergeParts_bad (w : World) (va vb : Value) (a b : List Mp) (f t : Int) (ha : IsMaps w (Lt w.heap.size) va a) (hb : IsMaps w (Lt w.heap.size) vb b) (h1 : a.length ≤ 1000) (h2 : b.length ≤ 1000) (h0 : ¬ (chk a = 0 ∧ chk b = 0)) :
    Calls Try.prog 4 #[va, vb, .int .i64 f, .int .i64 t] w fun e w' => e = .returned (.bool true) ∧ Below w.heap.size w w' := by
  obtain ⟨A, ca, rfl, hca, hra⟩ := ha
  have ha : IsMaps w (Lt w.heap.size) (.slice A a.length ca) a := ⟨A, ca, rfl, hca, hra⟩
  obtain ⟨B, cb, rfl, hcb, hrb⟩ := hb
  have hb : IsMaps w (Lt w.heap.size) (.slice B b.length cb) b := ⟨B, cb, rfl, hcb, hrb⟩
  have h1d : decide ((a.length : Int) > 1000) = false := by simp; omega
  have h2d : decide ((b.length : Int) > 1000) = false := by simp; omega
  have hon := fun w' (hB : Below w.heap.size w w') => over_any w' (Lt w'.heap.size) _ (.slice none 0 0) a [] (fun _ h => h) (ha.up hB) IsSl.nil_ (by omega) (by simp)
  have hno := fun w' (hB : Below w.heap.size w w') => over_any w' (Lt w'.heap.size) (.slice none 0 0) _ [] a (fun _ h => h) IsSl.nil_ (ha.up hB) (by simp) (by omega)
  rw [chkAll_nil] at hon
  rw [nil_chkAll] at hno
  have hop := fun w' (hB : Below w.heap.size w w') => over_any w' (Lt w'.heap.size) _ _ a b (fun _ h => h) (ha.up hB) (hb.up hB) (by omega) (by omega)
  have hmp := fun w' (hB : Below w.heap.size w w') => minus_any w' (Lt w'.heap.size) _ _ a b (fun _ h => h) (ha.up hB) (hb.up hB) (by omega) (by omega)
  have hck := fun w' (hB : Below w.heap.size w w') => proChk w' (Lt w'.heap.size) _ a (fun _ h => h) (by omega) (ha.up hB)
  have hcb2 := fun w' (hB : Below w.heap.size w w') => proChk w' (Lt w'.heap.size) _ b (fun _ h => h) (by omega) (hb.up hB)
  have hk0 := Below.refl w.heap.size w
  by_cases hca0 : chk a = 0
  · have hcb0 : chk b ≠ 0 := fun h => h0 ⟨hca0, h⟩
    rw [chkAll_b hca0] at hop hmp
    rw [hca0] at hon hno hck
    have d2 : (chk b != 0) = true := by simpa using hcb0
    unfold ResIs at hon hno hop hmp
    have HON := Lib.hid hon
    have HNO := Lib.hid hno
    have HOP := Lib.hid hop
    have HMP := Lib.hid hmp
    have HCK := Lib.hid hck
    have HCB := Lib.hid hcb2
    clear hon hno hop hmp hck hcb2 ha hb hra hrb hca hcb hcb0 hca0 h0
    generalize chk b = r at *
    generalize a.length = na at *
    generalize b.length = nb at *
    go_enter Try.func4, Try.ntmps4
    go_wp2_with (first
      | (go_at_call 6; have _ := hk4; refine (HOP.out _ hk4).mono ?_; rintro e w5 ⟨A5, n5, c5, hn5, rfl, hown5, hB5⟩; have hk5 := hk4.trans (hB5.mono hk4.size); clear hn5 hown5 hB5 hk4)
      | (go_at_call 6; have _ := hk1; refine (HNO.out _ hk1).mono ?_; rintro e w2 ⟨A2, n2, c2, hn2, rfl, hown2, hB2⟩; have hk2 := hk1.trans (hB2.mono hk1.size); clear hn2 hown2 hB2 hk1)
      | (go_at_call 6; refine (HON.out _ hk0).mono ?_; rintro e w1 ⟨A1, n1, c1, hn1, rfl, hown1, hB1⟩; have hk1 := hk0.trans (hB1.mono hk0.size); clear hn1 hown1 hB1 hk0)
      | (go_at_call 8; refine (HMP.out _ hk5).mono ?_; rintro e w6 ⟨A6, n6, c6, hn6, rfl, hown6, hB6⟩; have hk6 := hk5.trans (hB6.mono hk5.size); clear hn6 hown6 hB6 hk5)
      | (go_at_call 15; have _ := hk6; refine (HCK.out _ hk6).mono ?_; rintro e w7 ⟨rfl, hB7⟩; have hk7 := hk6.trans (hB7.mono hk6.size); clear hk6)
      | (go_at_call 15; have _ := hk3; refine (HCB.out _ hk3).mono ?_; rintro e w4 ⟨rfl, hB4⟩; have hk4 := hk3.trans (hB4.mono hk3.size); clear hk3)
      | (go_at_call 15; have _ := hk2; refine (HCK.out _ hk2).mono ?_; rintro e w3 ⟨rfl, hB3⟩; have hk3 := hk2.trans (hB3.mono hk2.size); clear hk2)
      | (go_at_call 5; refine (lives52 _).mono ?_; rintro e w8 ⟨rfl, hB8⟩))
    go_ret
    exact ⟨rfl, hk7.trans (hB8.mono hk7.size)⟩
  · rw [chkAll_a hca0] at hop hmp
    have d2 : (chk a != 0) = true := by simpa using hca0
    have d3 : (chk a == 0) = false := by simpa using hca0
    unfold ResIs at hon hno hop hmp
    have HON := Lib.hid hon
    have HNO := Lib.hid hno
    have HOP := Lib.hid hop
    have HMP := Lib.hid hmp
    have HCK := Lib.hid hck
    clear hon hno hop hmp hck hcb2 ha hb hra hrb hca hcb hca0 h0
    generalize chk a = r at *
    generalize a.length = na at *
    generalize b.length = nb at *
    go_enter Try.func4, Try.ntmps4
    go_wp2_with (first
      | (go_at_call 6; have _ := hk4; refine (HOP.out _ hk4).mono ?_; rintro e w5 ⟨A5, n5, c5, hn5, rfl, hown5, hB5⟩; have hk5 := hk4.trans (hB5.mono hk4.size); clear hn5 hown5 hB5 hk4)
      | (go_at_call 6; have _ := hk1; refine (HNO.out _ hk1).mono ?_; rintro e w2 ⟨A2, n2, c2, hn2, rfl, hown2, hB2⟩; have hk2 := hk1.trans (hB2.mono hk1.size); clear hn2 hown2 hB2 hk1)
      | (go_at_call 6; refine (HON.out _ hk0).mono ?_; rintro e w1 ⟨A1, n1, c1, hn1, rfl, hown1, hB1⟩; have hk1 := hk0.trans (hB1.mono hk0.size); clear hn1 hown1 hB1 hk0)
      | (go_at_call 8; refine (HMP.out _ hk5).mono ?_; rintro e w6 ⟨A6, n6, c6, hn6, rfl, hown6, hB6⟩; have hk6 := hk5.trans (hB6.mono hk5.size); clear hn6 hown6 hB6 hk5)
      | (go_at_call 15; have _ := hk6; refine (HCK.out _ hk6).mono ?_; rintro e w7 ⟨rfl, hB7⟩; have hk7 := hk6.trans (hB7.mono hk6.size); clear hk6)
      | (go_at_call 15; have _ := hk2; refine (HCK.out _ hk2).mono ?_; rintro e w3 ⟨rfl, hB3⟩; have hk4 := hk2.trans (hB3.mono hk2.size); clear hk2)
      | (go_at_call 5; refine (lives52 _).mono ?_; rintro e w8 ⟨rfl, hB8⟩))
    go_ret
    exact ⟨rfl, hk7.trans (hB8.mono hk7.size)⟩
/-- The cells of a row of the call's own, as a source of an append. -/
theorem own_src {w : World} {base e size n c : Nat} {A : Option Addr} {xs : List Value} (h : w.ownsRow base e size (.slice A n c) n xs) : (∀ d, A = some d → ∀ j u, xs[j]? = some u → w.cell? (d.add j) = some u) ∧ (A = none → n = 0) := by
  rcases h.2 with ⟨hv, h0⟩ | ⟨g, cap, cur, hv, hb, hg, rest⟩
  · injection hv with e1 e2 e3
    subst e1
    exact ⟨fun d hd => (by cases hd), fun _ => h0⟩
  · injection hv with e1 e2 e3
    subst e1
    exact ⟨fun d hd j u hj => (by injection hd with hd; subst hd; exact h.cells rfl j u hj), fun hn => (by cases hn)⟩
theorem own_far {w : World} {base e size n c : Nat} {A : Option Addr} {xs : List Value} (h : w.ownsRow base e size (.slice A n c) n xs) : (Value.slice A n c).ownBlock ≠ some w.heap.size := fun e => by
  have := h.lt _ e
  omega
theorem flats_ones (l : List Mp) : ∀ u ∈ flats Mp.enc l, u.oneCell' = true := fun u hu => by
  obtain ⟨x, _, hx⟩ := List.mem_flatMap.1 hu
  exact Mp.enc_one x u hx
theorem len_beq {n m k a b : Nat} (h1 : n = a) (h2 : m = b) (h : a = b + k) : ((n : Int) == (m : Int) + (k : Int)) = true := by
  subst h1 h2 h
  simp
theorem le_eq {n m k : Nat} (h : n = m) (h2 : m ≤ k) : n ≤ k := by omega
theorem cutR_len (a : List Mp) (f t : Int) : (cutR a f t).length ≤ a.length := by
  unfold cutR
  split
  · exact List.length_filter_le _ _
  · simp
set_option maxRecDepth 100000 in
set_option maxHeartbeats 6400000 in
/-- Both lists are right. -/
theorem mergeParts_good (w : World) (va vb : Value) (a b : List Mp) (f t : Int) (ha : IsMaps w (Lt w.heap.size) va a) (hb : IsMaps w (Lt w.heap.size) vb b) (h1 : a.length ≤ 1000) (h2 : b.length ≤ 1000) (hca0 : chk a = 0) (hcb0 : chk b = 0) (ht : In64 t) :
    Calls Try.prog 4 #[va, vb, .int .i64 f, .int .i64 t] w fun e w' => e = .returned (.bool true) ∧ Below w.heap.size w w' := by
  obtain ⟨A, ca, rfl, hca, hra⟩ := ha
  have ha : IsMaps w (Lt w.heap.size) (.slice A a.length ca) a := ⟨A, ca, rfl, hca, hra⟩
  obtain ⟨B, cb, rfl, hcb, hrb⟩ := hb
  have hb : IsMaps w (Lt w.heap.size) (.slice B b.length cb) b := ⟨B, cb, rfl, hcb, hrb⟩
  have h1d : decide ((a.length : Int) > 1000) = false := by simp; omega
  have h2d : decide ((b.length : Int) > 1000) = false := by simp; omega
  have hon := fun w' (hB : Below w.heap.size w w') => over_any w' (Lt w'.heap.size) _ (.slice none 0 0) a [] (fun _ h => h) (ha.up hB) IsSl.nil_ (by omega) (by simp)
  have hno := fun w' (hB : Below w.heap.size w w') => over_any w' (Lt w'.heap.size) (.slice none 0 0) _ [] a (fun _ h => h) IsSl.nil_ (ha.up hB) (by simp) (by omega)
  rw [chkAll_nil, overR_nil hca0, hca0] at hon
  rw [nil_chkAll, nil_overR hca0, hca0] at hno
  have hck := fun w' (hB : Below w.heap.size w w') => proChk w' (Lt w'.heap.size) _ a (fun _ h => h) (by omega) (ha.up hB)
  have hcb2 := fun w' (hB : Below w.heap.size w w') => proChk w' (Lt w'.heap.size) _ b (fun _ h => h) (by omega) (hb.up hB)
  rw [hca0] at hck
  rw [hcb0] at hcb2
  have hcu1 := fun w' (hB : Below w.heap.size w w') => cut_any w' (Lt w'.heap.size) _ a 0 (bits BinOp.and .i64 f 562949953421311) (fun _ h => h) (ha.up hB) (by omega)
  have hcu2 := fun w' (hB : Below w.heap.size w w') => cut_any w' (Lt w'.heap.size) _ a (bits BinOp.and .i64 f 562949953421311) 4611686018427387904 (fun _ h => h) (ha.up hB) (by omega)
  rw [hca0] at hcu1 hcu2
  have hsa := fun w' v1 (hB : Below w.heap.size w w') (h1 : IsMaps w' (Lt w'.heap.size) v1 a) => (show Calls Try.prog 10 #[v1, .slice A a.length ca] w' fun e w'' => e = .returned (.bool true) ∧ Below w'.heap.size w' w'' from (rsameMaps_any w' _ _ _ _ a a h1 (ha.up hB) (by omega)).mono fun e w'' ⟨he, m, hm⟩ => ⟨by rw [he]; simp, by rw [hm]; exact below_drewN (Below.refl _ _) m⟩)
  have hsp := cut_split hca0 (bits BinOp.and .i64 f 562949953421311)
  have hl7 : (cutR a 0 (bits BinOp.and .i64 f 562949953421311)).length ≤ 1000 := Nat.le_trans (cutR_len _ _ _) h1
  have hl8 : (cutR a (bits BinOp.and .i64 f 562949953421311) 4611686018427387904).length ≤ 1000 := Nat.le_trans (cutR_len _ _ _) h1
  generalize cutR a 0 (bits BinOp.and .i64 f 562949953421311) = l7 at *
  generalize cutR a (bits BinOp.and .i64 f 562949953421311) 4611686018427387904 = l8 at *
  have hmv := fun w' (hB : Below w.heap.size w w') => move_any w' (Lt w'.heap.size) _ a t (fun _ h => h) (ha.up hB) (by omega) (fun _ => ht)
  have hk0 := Below.refl w.heap.size w
  unfold ResIs at hon hno hcu1 hcu2 hmv
  have HMV := Lib.hid hmv
  have hf7 := flats_append (enc := Mp.enc) l7 l8
  rw [hsp] at hf7
  have HF7 := Lib.hid hf7
  have HL7 := Lib.hid hl7
  have HL8 := Lib.hid hl8
  have HT := Lib.hid ht
  have HON := Lib.hid hon
  have HNO := Lib.hid hno
  have HCK := Lib.hid hck
  have HCB := Lib.hid hcb2
  have HC1 := Lib.hid hcu1
  have HC2 := Lib.hid hcu2
  have HSA := Lib.hid hsa
  have HSP := Lib.hid hsp
  have HA := Lib.hid (fun w' (hB : Below w.heap.size w w') => ha.up hB)
  have HB := Lib.hid (fun w' (hB : Below w.heap.size w w') => hb.up hB)
  have HKA := Lib.hid hca0
  have HKB := Lib.hid hcb0
  clear hon hno hck hcb2 hcu1 hcu2 hsa hsp hmv hf7 hl7 hl8 ht ha hb hra hrb hca hcb hcb0 hca0
  generalize hna : a.length = na at *
  generalize hnb : b.length = nb at *
  have HNA := Lib.hid hna
  have HNB := Lib.hid hnb
  clear hna hnb
  go_enter Try.func4, Try.ntmps4
  go_wp2_with (first
    | (go_at_call 6; have _ := hk1; refine (HNO.out _ hk1).mono ?_; rintro e w2 ⟨A2, n2, c2, hn2, rfl, hown2, hB2⟩; have hm2 := own_maps hown2; have hm1 := hm1.up hB2; have hk2 := hk1.trans (hB2.mono hk1.size); clear hn2 hown2 hB2 hk1)
    | (go_at_call 6; refine (HON.out _ hk0).mono ?_; rintro e w1 ⟨A1, n1, c1, hn1, rfl, hown1, hB1⟩; have hm1 := own_maps hown1; have hk1 := hk0.trans (hB1.mono hk0.size); clear hn1 hown1 hB1 hk0)
    | (go_at_call 15; have _ := hk3; refine (HCB.out _ hk3).mono ?_; rintro e w4 ⟨rfl, hB4⟩; have hm1 := hm1.up hB4; have hm2 := hm2.up hB4; have hk4 := hk3.trans (hB4.mono hk3.size); clear hk3 hB4)
    | (go_at_call 15; have _ := hk2; refine (HCK.out _ hk2).mono ?_; rintro e w3 ⟨rfl, hB3⟩; have hm1 := hm1.up hB3; have hm2 := hm2.up hB3; have hk3 := hk2.trans (hB3.mono hk2.size); clear hk2 hB3)
    | (go_at_call 10; have _ := hk4; refine (HSA.out _ _ hk4 hm1).mono ?_; rintro e w5 ⟨rfl, hB5⟩; have hm2 := hm2.up hB5; have hk5 := hk4.trans (hB5.mono hk4.size); clear hk4 hB5 hm1)
    | (go_at_call 10; have _ := hk5; refine (HSA.out _ _ hk5 hm2).mono ?_; rintro e w6 ⟨rfl, hB6⟩; have hk6 := hk5.trans (hB6.mono hk5.size); clear hk5 hB6 hm2)
    | (go_at_call 11; have _ := hk6; refine (HC1.out _ hk6).mono ?_; rintro e w7 ⟨A7, n7, c7, hn7, rfl, hown7, hB7⟩; have hk7 := hk6.trans (hB7.mono hk6.size); have HN7 := Lib.hid hn7; clear hk6 hB7 hn7))
  refine (HC2.out _ hk7).mono ?_
  rintro e w8 ⟨A8, n8, c8, hn8, rfl, hown8, hB8⟩
  have hk8 := hk7.trans (hB8.mono hk7.size)
  have hown7 := hown7.below_ hB8
  have HN8 := Lib.hid hn8
  clear hk7 hB8 hn8
  have hn7 : n7 ≤ 1000 := by rw [HN7.out]; exact HL7.out
  have hn8 : n8 ≤ 1000 := by rw [HN8.out]; exact HL8.out
  have HOE := Lib.hid (World.ownsRow_made (base := w.heap.size) (e := 41) (size := 3) w8 #[] 0 hk8.size (by simp [maxLen]) rfl)
  have ho7 := hown7.alloc (.cells #[] 41)
  have ho8 := hown8.alloc (.cells #[] 41)
  have h8f := own_far hown8
  have HO7 := Lib.hid ho7
  have HO8 := Lib.hid ho8
  have H8F := Lib.hid h8f
  have hkA := hk8.alloc hk8.size (.cells #[] 41)
  have hfl7 : (flats Mp.enc l7).length = n7 * 3 := by rw [flats_length Mp.enc_len, HN7.out]
  have hfl8 : (flats Mp.enc l8).length = n8 * 3 := by rw [flats_length Mp.enc_len, HN8.out]
  have HFL7 := Lib.hid hfl7
  have HFL8 := Lib.hid hfl8
  clear hown7 hown8 ho7 ho8 h8f hk8 hfl7 hfl8
  go_wp2_with (first
    | (at_builtin; have _ := hown9; (refine wpList_ungd (by rfl) ?_; refine wpList_append_opt Try.underlying22 info_map rfl (by omega) (by omega) rfl (.tmp 130) (.tmp 131) rfl w.heap.size _ n7 (flats Mp.enc l7) rfl hown9 A8 n8 c8 (flats Mp.enc l8) rfl HFL8.out (own_src HO89.out).1 (flats_ones l8) (by omega) hk9.size (own_src HO89.out).2 ?_); intro Aa ca' wa howna hga; have hka := hk9.grown hga hk9.size (fun k hk => (hown9.lt k hk).1); rw [← HF7.out] at howna; clear hown9 hga)
    | (at_builtin; (refine wpList_ungd (by rfl) ?_; refine wpList_append_opt Try.underlying22 info_map rfl (by omega) (by omega) rfl (.tmp 128) (.tmp 129) rfl w.heap.size _ 0 [] rfl HOE.out A7 n7 c7 (flats Mp.enc l7) rfl HFL7.out (own_src HO7.out).1 (flats_ones l7) (by omega) hkA.size (own_src HO7.out).2 ?_); intro A9 c9 w9 hown9 hg9; have hk9 := hkA.grown hg9 hkA.size (fun k hk => (HOE.out.lt k hk).1); have HO89 := Lib.hid (HO8.out.kept hg9 (.inr H8F.out)); simp only [Nat.zero_add, List.nil_append] at hown9; clear hg9)
    | (go_at_call 10; refine (HSA.out _ _ hka (own_maps howna)).mono ?_; rintro e wb ⟨rfl, hBb⟩; have hkb := hka.trans (hBb.mono hka.size)))
  clear howna hBb hka hkA hk9 hn7 hn8 HOE HO7 HO8 H8F HFL7 HFL8 HO89
  have hne0 : (bits BinOp.and .i64 f 562949953421311) = (bits BinOp.and .i64 f 562949953421311) := rfl
  have HKM := Lib.hid (over_chk HKA.out HKB.out)
  have hob := fun w' (hB : Below w.heap.size w w') => over_any w' (Lt w'.heap.size) _ _ b a (fun _ h => h) (HB.out w' hB) (HA.out w' hB) (by rw [HNB.out]; omega) (by rw [HNA.out]; omega)
  have hmb := fun w' (hB : Below w.heap.size w w') => minus_any w' (Lt w'.heap.size) _ _ b a (fun _ h => h) (HB.out w' hB) (HA.out w' hB) (by rw [HNB.out]; omega) (by rw [HNA.out]; omega)
  have hc0 : chkAll [b, a] = 0 := by rw [chkAll_b HKB.out]; exact HKA.out
  have ho0 : overR b a = mergeO b a := by unfold overR; rw [if_pos hc0]
  have hm0 : minusR b a = minusF b a := by unfold minusR; rw [if_pos hc0]
  rw [hc0, ho0] at hob
  rw [hc0, hm0] at hmb
  unfold ResIs at hob hmb
  have hln := over_len HKA.out HKB.out
  rw [HNA.out] at hln
  obtain ⟨hs1, hs3⟩ := over_sums HKA.out HKB.out
  rw [HNA.out] at hs1
  have hMl : (mergeO b a).length ≤ 2000 := by have := mergeO_len _ b a (Nat.le_refl _); rw [HNA.out, HNB.out] at this; omega
  have hma := fun w' v (hB : Below w.heap.size w w') (h : IsMaps w' (Lt w'.heap.size) v (mergeO b a)) => proMaps w' (Lt w'.heap.size) v _ (mergeO b a) a (fun _ h => h) h (HA.out w' hB) (by rw [HNA.out]; omega)
  rw [show mapsErr (mergeO b a) a = 0 by rw [mapsErr_b HKM.out]; exact HKA.out, mapsRes_yes HKM.out HKA.out] at hma
  have hsm := parts_small HKM.out HKA.out (by rw [HNA.out]; omega)
  have hpl := parts_len (a := mergeO b a) (b := a)
  have hcm := fun w' v (hB : Below w.heap.size w w') (h : IsMaps w' (Lt w'.heap.size) v (mergeO b a)) => proChk w' (Lt w'.heap.size) v (mergeO b a) (fun _ h => h) (by omega) h
  rw [HKM.out] at hcm
  have hs1c : ∀ (w0 w1 w2 : World) (v : Value), w0.heap.size ≤ w1.heap.size → Below w1.heap.size w1 w2 → IsParts w1 (Btw w0.heap.size w1.heap.size) v (partsOf (mergeO b a) a) → Calls Try.prog 17 #[v, .int .i64 1] w2 fun e w' => e = .returned (.int .i64 (na : Nat)) ∧ Below w2.heap.size w2 w' := fun w0 w1 w2 v _ hB h => by
    have := sum_any w2 (Lt w2.heap.size) v _ 1 4000 (fun _ h => h) (h.keep rpt_stable (fun b hb => Nat.lt_of_lt_of_le hb.2 hB.size) (keep_below hB (fun b hb => hb.2))) hsm (by rw [HNA.out] at hpl; omega) (by omega)
    rwa [hs1] at this
  have hs3c : ∀ (w0 w1 w2 : World) (v : Value) (n : Nat), n = (minusF b a).length → w0.heap.size ≤ w1.heap.size → Below w1.heap.size w1 w2 → IsParts w1 (Btw w0.heap.size w1.heap.size) v (partsOf (mergeO b a) a) → Calls Try.prog 17 #[v, .int .i64 3] w2 fun e w' => e = .returned (.int .i64 (n : Nat)) ∧ Below w2.heap.size w2 w' := fun w0 w1 w2 v n hn _ hB h => by
    have := sum_any w2 (Lt w2.heap.size) v _ 3 4000 (fun _ h => h) (h.keep rpt_stable (fun b hb => Nat.lt_of_lt_of_le hb.2 hB.size) (keep_below hB (fun b hb => hb.2))) hsm (by rw [HNA.out] at hpl; omega) (by omega)
    rw [hs3, ← hn] at this
    exact this
  have HOB := Lib.hid hob
  have HMB := Lib.hid hmb
  have HMA := Lib.hid hma
  have HCM := Lib.hid hcm
  have HS1 := Lib.hid hs1c
  have HS3 := Lib.hid (fun w0 w1 w2 n hn h1 h2 => fun v h => hs3c w0 w1 w2 v n hn h1 h2 h)
  have HLN := Lib.hid hln
  have HLM := Lib.hid (show (minusF b a).length ≤ 1000 from Nat.le_trans (List.length_filter_le _ _) (by rw [HNB.out]; exact h2))
  clear hne0 hob hmb hc0 ho0 hm0 hln hs1 hs3 hMl hma hsm hpl hcm hs1c hs3c
  by_cases hme : moveE a t = 0
  · obtain ⟨t1, t2, t3, t4, t5⟩ := move_there HKA.out hme
    rw [hme, t1] at HMV
    rcases Nat.eq_zero_or_pos na with h0 | h0
    · have ha0 : a = [] := List.eq_nil_of_length_eq_zero (by rw [HNA.out]; exact h0)
      have hm2 := fun nb w' v (h : IsMaps w' (Lt w'.heap.size) v (moveL a t)) => move_any w' (Lt w'.heap.size) v (moveL a t) nb (fun _ h => h) h (by rw [ha0]; simp [moveL]) (fun h => by rw [ha0] at h; simp [moveL] at h)
      have hz : ∀ nb, moveE (moveL a t) nb = 0 := fun nb => by rw [ha0]; rfl
      unfold ResIs at hm2
      have hm2' : ∀ nb w' v (h : IsMaps w' (Lt w'.heap.size) v (moveL a t)), Calls Try.prog 13 #[v, .int .i64 nb] w' fun e w'' => ∃ A n c, e = .returned (.tuple #[.slice A n c, .int .i64 0]) ∧ Below w'.heap.size w' w'' := fun nb w' v h => (hm2 nb w' v h).mono fun e w'' ⟨A, n, c, _, he, _, hB⟩ => ⟨A, n, c, by rw [he, hz], hB⟩
      have HM2 := Lib.hid hm2'
      have h0d : decide ((na : Int) > 0) = false := by simp; omega
      have h0e : decide (0 < na) = false := by simp; omega
      have h0f : ¬ 0 < na := by omega
      clear t1 t2 t3 t4 t5 hme hm2 hm2' hz ha0
      refine (HMV.out _ hkb).mono ?_
      rintro e wm ⟨Am, nm, cm, hnm, rfl, hownm, hBm⟩
      have hmm := own_maps hownm
      have hk10 := hkb.trans (hBm.mono hkb.size)
      clear hnm hownm hBm hkb h0
      go_wp2_with (first
        | (go_at_call 13; refine (HM2.out _ _ _ hmm).mono ?_; rintro e wn ⟨An, nn, cn, rfl, hBn⟩; have hk11 := hk10.trans (hBn.mono hk10.size); clear hBn hk10 hmm)
        | (go_at_call 6; have _ := hk11; refine (HOB.out _ hk11).mono ?_; rintro e wp ⟨Ap, np, cp, hnp, rfl, hownp, hBp⟩; have hmp := own_maps hownp; have HNP := Lib.hid hnp; have hk12 := hk11.trans (hBp.mono hk11.size); clear hk11 hBp hnp hownp)
        | (go_at_call 8; have _ := hk12; refine (HMB.out _ hk12).mono ?_; rintro e wq ⟨Aq, nq, cq, hnq, rfl, hownq, hBq⟩; have hmp := hmp.up hBq; have hlen := len_beq HNP.out hnq HLN.out; have hq2 := le_eq hnq HLM.out; have HNQ := Lib.hid hnq; have hk13 := hk12.trans (hBq.mono hk12.size); clear hk12 hBq hnq hownq)
        | (go_at_call 16; have _ := hk13; refine (HMA.out _ _ hk13 hmp).mono ?_; rintro e wr ⟨vr, rfl, hpr, hBr⟩; have hmp := hmp.up hBr; have hk14 := hk13.trans (hBr.mono hk13.size); clear hk13)
        | (go_at_call 17; have _ := hk14; refine (HS1.out _ _ _ _ hBr.size (Below.refl _ _) hpr).mono ?_; rintro e ws ⟨rfl, hBs⟩; have hmp := hmp.up hBs; have hk15 := hk14.trans (hBs.mono hk14.size); clear hk14)
        | (go_at_call 17; have _ := hk15; refine (HS3.out _ _ _ nq HNQ.out hBr.size hBs _ hpr).mono ?_; rintro e wt ⟨rfl, hBt⟩; have hmp := hmp.up hBt; have hk16 := hk15.trans (hBt.mono hk15.size); clear hk15)
        | (go_at_call 15; have _ := hk16; refine (HCM.out _ _ hk16 hmp).mono ?_; rintro e wu ⟨rfl, hBu⟩; have hk17 := hk16.trans (hBu.mono hk16.size); clear hk16)
        | (go_at_call 5; refine (lives52 _).mono ?_; rintro e wv ⟨rfl, hBv⟩))
      go_ret
      exact ⟨rfl, hk17.trans (hBv.mono hk17.size)⟩
    · have ht5 := t5 (nth mp0 a 0) (nth_mem mp0 a 0 (by rw [HNA.out]; exact h0))
      have hrg := chk_range HKA.out (j := 0) (by rw [HNA.out]; exact h0)
      have hm2 := fun w' v (h : IsMaps w' (Lt w'.heap.size) v (moveL a t)) => move_any w' (Lt w'.heap.size) v (moveL a t) (-t) (fun _ h => h) h (by unfold moveL; rw [List.length_map, HNA.out]; omega) (fun _ => by unfold In64; omega)
      rw [t3, t4] at hm2
      unfold ResIs at hm2
      have HM2 := Lib.hid hm2
      have hb1 : -281474976710655 ≤ t := by omega
      have hb2 : t ≤ 281474976710655 := by omega
      have h0d : decide ((na : Int) > 0) = true := by simp; omega
      clear t1 t2 t3 t4 t5 hme ht5 hrg hm2
      refine (HMV.out _ hkb).mono ?_
      rintro e wm ⟨Am, nm, cm, hnm, rfl, hownm, hBm⟩
      have hmm := own_maps hownm
      have hk10 := hkb.trans (hBm.mono hkb.size)
      clear hnm hownm hBm hkb
      go_wp2_with (first
        | (go_at_call 13; refine (HM2.out _ _ hmm).mono ?_; rintro e wn ⟨An, nn, cn, hnn, rfl, hownn, hBn⟩; have hmn := own_maps hownn; have hk10b := hk10.trans (hBn.mono hk10.size); clear hnn hownn hBn hk10 hmm)
        | (go_at_call 10; refine (HSA.out _ _ hk10b hmn).mono ?_; rintro e wo ⟨rfl, hBo⟩; have hk11 := hk10b.trans (hBo.mono hk10b.size); clear hk10b hBo hmn)
        | (go_at_call 6; have _ := hk11; refine (HOB.out _ hk11).mono ?_; rintro e wp ⟨Ap, np, cp, hnp, rfl, hownp, hBp⟩; have hmp := own_maps hownp; have HNP := Lib.hid hnp; have hk12 := hk11.trans (hBp.mono hk11.size); clear hk11 hBp hnp hownp)
        | (go_at_call 8; have _ := hk12; refine (HMB.out _ hk12).mono ?_; rintro e wq ⟨Aq, nq, cq, hnq, rfl, hownq, hBq⟩; have hmp := hmp.up hBq; have hlen := len_beq HNP.out hnq HLN.out; have hq2 := le_eq hnq HLM.out; have HNQ := Lib.hid hnq; have hk13 := hk12.trans (hBq.mono hk12.size); clear hk12 hBq hnq hownq)
        | (go_at_call 16; have _ := hk13; refine (HMA.out _ _ hk13 hmp).mono ?_; rintro e wr ⟨vr, rfl, hpr, hBr⟩; have hmp := hmp.up hBr; have hk14 := hk13.trans (hBr.mono hk13.size); clear hk13)
        | (go_at_call 17; have _ := hk14; refine (HS1.out _ _ _ _ hBr.size (Below.refl _ _) hpr).mono ?_; rintro e ws ⟨rfl, hBs⟩; have hmp := hmp.up hBs; have hk15 := hk14.trans (hBs.mono hk14.size); clear hk14)
        | (go_at_call 17; have _ := hk15; refine (HS3.out _ _ _ nq HNQ.out hBr.size hBs _ hpr).mono ?_; rintro e wt ⟨rfl, hBt⟩; have hmp := hmp.up hBt; have hk16 := hk15.trans (hBt.mono hk15.size); clear hk15)
        | (go_at_call 15; have _ := hk16; refine (HCM.out _ _ hk16 hmp).mono ?_; rintro e wu ⟨rfl, hBu⟩; have hk17 := hk16.trans (hBu.mono hk16.size); clear hk16)
        | (go_at_call 5; refine (lives52 _).mono ?_; rintro e wv ⟨rfl, hBv⟩))
      go_ret
      exact ⟨rfl, hk17.trans (hBv.mono hk17.size)⟩
  · have hme2 : (moveE a t == 0) = false := by simpa using hme
    clear hme
    generalize moveE a t = re at *
    generalize moveR a t = rl at *
    refine (HMV.out _ hkb).mono ?_
    rintro e wm ⟨Am, nm, cm, hnm, rfl, hownm, hBm⟩
    have hk11 := hkb.trans (hBm.mono hkb.size)
    clear hnm hownm hBm hkb
    go_wp2_with (first
      | (go_at_call 6; have _ := hk11; refine (HOB.out _ hk11).mono ?_; rintro e wp ⟨Ap, np, cp, hnp, rfl, hownp, hBp⟩; have hmp := own_maps hownp; have HNP := Lib.hid hnp; have hk12 := hk11.trans (hBp.mono hk11.size); clear hk11 hBp hnp hownp)
      | (go_at_call 8; have _ := hk12; refine (HMB.out _ hk12).mono ?_; rintro e wq ⟨Aq, nq, cq, hnq, rfl, hownq, hBq⟩; have hmp := hmp.up hBq; have hlen := len_beq HNP.out hnq HLN.out; have hq2 := le_eq hnq HLM.out; have HNQ := Lib.hid hnq; have hk13 := hk12.trans (hBq.mono hk12.size); clear hk12 hBq hnq hownq)
      | (go_at_call 16; have _ := hk13; refine (HMA.out _ _ hk13 hmp).mono ?_; rintro e wr ⟨vr, rfl, hpr, hBr⟩; have hmp := hmp.up hBr; have hk14 := hk13.trans (hBr.mono hk13.size); clear hk13)
      | (go_at_call 17; have _ := hk14; refine (HS1.out _ _ _ _ hBr.size (Below.refl _ _) hpr).mono ?_; rintro e ws ⟨rfl, hBs⟩; have hmp := hmp.up hBs; have hk15 := hk14.trans (hBs.mono hk14.size); clear hk14)
      | (go_at_call 17; have _ := hk15; refine (HS3.out _ _ _ nq HNQ.out hBr.size hBs _ hpr).mono ?_; rintro e wt ⟨rfl, hBt⟩; have hmp := hmp.up hBt; have hk16 := hk15.trans (hBt.mono hk15.size); clear hk15)
      | (go_at_call 15; have _ := hk16; refine (HCM.out _ _ hk16 hmp).mono ?_; rintro e wu ⟨rfl, hBu⟩; have hk17 := hk16.trans (hBu.mono hk16.size); clear hk16)
      | (go_at_call 5; refine (lives52 _).mono ?_; rintro e wv ⟨rfl, hBv⟩))
    go_ret
    exact ⟨rfl, hk17.trans (hBv.mono hk17.size)⟩
set_option maxRecDepth 100000 in
set_option maxHeartbeats 1600000 in
theorem mergeParts_walk (w : World) (va vb : Value) (a b : List Mp) (f t : Int) (ha : IsMaps w (Lt w.heap.size) va a) (hb : IsMaps w (Lt w.heap.size) vb b) (ht : In64 t) :
    Calls Try.prog 4 #[va, vb, .int .i64 f, .int .i64 t] w fun e w' => e = .returned (.bool true) ∧ Below w.heap.size w w' := by
  by_cases h1 : a.length ≤ 1000
  · by_cases h2 : b.length ≤ 1000
    · by_cases h0 : chk a = 0 ∧ chk b = 0
      · exact mergeParts_good w va vb a b f t ha hb h1 h2 h0.1 h0.2 ht
      · exact mergeParts_bad w va vb a b f t ha hb h1 h2 h0
    · obtain ⟨A, ca, rfl, hca, hra⟩ := ha
      obtain ⟨B, cb, rfl, hcb, hrb⟩ := hb
      have h1d : decide ((a.length : Int) > 1000) = false := by simp; omega
      have h2d : decide ((b.length : Int) > 1000) = true := by simp; omega
      clear hra hrb
      go_enter Try.func4, Try.ntmps4
      go_wp2_with (go_at_call 5; refine (lives52 _).mono ?_; rintro e w2 ⟨rfl, hB2⟩)
      go_ret
      exact ⟨rfl, hB2⟩
  · obtain ⟨A, ca, rfl, hca, hra⟩ := ha
    obtain ⟨B, cb, rfl, hcb, hrb⟩ := hb
    have h1d : decide ((a.length : Int) > 1000) = true := by simp; omega
    clear hra hrb
    go_enter Try.func4, Try.ntmps4
    go_wp2_with (go_at_call 5; refine (lives52 _).mono ?_; rintro e w2 ⟨rfl, hB2⟩)
    go_ret
    exact ⟨rfl, hB2⟩
end Go.Proofs.Ytecnkeakmedgnaa
