/- scantlingref51.Torn. Condition: the slices are within the reach. -/
import Derived.Test.YtlogabbnnbcokaaWRefR
import Derived.Deep.DeepCutAuto
namespace Go.Proofs.Ytlogabbnnbcokaa
open Go.RowKit
attribute [local go_sem] Oper.semAt_some

/-- What is left of blocks if the next write is torn. -/
def rtornB (l : List Wr) (B : List (List UInt8)) (n k : Int) : List (List UInt8) :=
  if (withinN n l.length).toNat = l.length ∨ (nth wr0 l (withinN n l.length).toNat).bytes.length ≠ 256 ∨ ¬ (0 ≤ (nth wr0 l (withinN n l.length).toNat).no ∧ (nth wr0 l (withinN n l.length).toNat).no < (B.length : Int)) then doB l B (List.range (withinN n l.length).toNat)
  else wrB (doB l B (List.range (withinN n l.length).toNat)) (nth wr0 l (withinN n l.length).toNat).no (tornB (nth [] (doB l B (List.range (withinN n l.length).toNat)) (nth wr0 l (withinN n l.length).toNat).no.toNat) (nth wr0 l (withinN n l.length).toNat).bytes k)
theorem set_next {xb bj : List UInt8} {i : Nat} (h1 : i < xb.length) (h2 : xb.length = bj.length) : (xb.take i ++ bj.drop i).set i (nth 0 xb i) = xb.take (i + 1) ++ bj.drop (i + 1) := by
  have hl : (xb.take i).length = i := by rw [List.length_take]; omega
  rw [List.set_append_right _ _ (by omega), hl, Nat.sub_self, take_nth 0 xb i h1, List.append_assoc, drop_nth 0 bj i (by omega)]
  rfl
set_option maxRecDepth 100000 in
set_option maxHeartbeats 3200000 in
theorem rtorn_any (w : World) (S0 S : Nat → Prop) (a : Nat) (B : List (List UInt8)) (v : Value) (l : List Wr) (n k : Int) (hS0 : ∀ b, S0 b → b < w.heap.size) (himg : IsRef w S0 a B) (hgd : Good B) (hS : ∀ b, S b → b < w.heap.size) (hl : IsWrs w S v l) (hnl : l.length ≤ 1099511627776) :
    Calls Try.prog 14 #[.pointer (some ⟨a, 0, none⟩), v, .int .i64 n, .int .i64 k] w fun e w' => ∃ a', e = .returned (.pointer (some ⟨a', 0, none⟩)) ∧ OwnRef w' w.heap.size a' (rtornB l B n k) ∧ Below w.heap.size w w' := by
  have hap := rapply_any w S0 S a B v l (max 0 n) hS0 himg hgd hS hl hnl
  obtain ⟨A, c, rfl, hc, hr⟩ := hl
  obtain ⟨V, hV⟩ := wrs_cells hr
  have HV := Lib.hid (show WrsIs w S A l V from hV)
  have hT : rtornB l B n k = rtornB l B n k := rfl
  conv at hT => rhs; unfold rtornB
  have hwm : withinN (max 0 n) l.length = withinN n l.length := by unfold withinN; omega
  rw [hwm] at hap
  obtain ⟨m, hm, hml⟩ := withinN_nat n l.length
  have hmn : (m : Int) = max 0 (min n l.length) := by rw [← hm]; rfl
  rw [hm, Int.toNat_natCast] at hap hT
  have hgo : Good (doB l B (List.range m)) := doB_good hgd _
  have hol : (doB l B (List.range m)).length = B.length := doB_len _ _ _
  have HT := Lib.hid hT
  have HAP := Lib.hid hap
  have HGO := Lib.hid hgo
  have HOL := Lib.hid hol
  clear hap hT hgo hol hV hr himg hm hwm
  generalize rtornB l B n k = res at *
  generalize doB l B (List.range m) = out at *
  have hnz : (if n < 0 then 0 else n) = max 0 n := by split <;> omega
  generalize hn2 : max 0 n = n2 at *
  have HN2 := Lib.hid hn2
  clear hn2 hnz
  go_enter Try.func14, Try.ntmps14
  go_upto_if 14 with fail
  go_cut [2] (fun s2 wx => s2 = .int .i64 n2 ∧ wx = w)
  case first =>
    by_cases h : n < 0
    · have h0 : n2 = 0 := by have := HN2.out; omega
      have H0 := Lib.hid h0
      clear h0
      go_wp2_with fail
      go_meet
      exact ⟨by rw [H0.out], rfl⟩
    · have h0 : n2 = n := by have := HN2.out; omega
      have H0 := Lib.hid h0
      clear h0
      go_wp2_with fail
      go_meet
      exact ⟨by rw [H0.out], rfl⟩
  case rest =>
    obtain ⟨rfl, rfl⟩ := hcut
    have hn20 : 0 ≤ n2 := by have := HN2.out; omega
    by_cases h1 : (l.length : Int) ≤ n2
    · have hme : m = l.length := by have := HN2.out; omega
      rw [if_pos (.inl hme)] at HT
      clear hme hmn
      generalize l.length = nl at *
      go_wp2_with (go_at_call 11; refine HAP.out.mono ?_; rintro e w3 ⟨a3, rfl, hI3, hB3⟩)
      go_ret
      exact ⟨a3, rfl, by rw [HT.out]; exact hI3, hB3⟩
    · have hme : (m : Int) = n2 := by have := HN2.out; omega
      have hmlt : m < l.length := by omega
      subst hme
      obtain ⟨lb, lo, rfl, hSl, hat⟩ := HV.out (by omega)
      have HAT := Lib.hid (fun w' (hB : Below wc.heap.size wc w') => (hat.keep (w' := w') hSl (keep_below hB hS)) m hmlt)
      have hslt := hS lb hSl
      have hmi : (m : Int) < (l.length : Int) := by omega
      clear hat HV hmn
      generalize nth wr0 l m = x at *
      by_cases h2 : x.bytes.length = 256
      · have hb2 : ((x.bytes.length : Int) != 256) = false := by rw [h2]; rfl
        by_cases h3 : 0 ≤ x.no ∧ x.no < (B.length : Int)
        · rw [if_neg (by rintro (h | h | h); exact absurd h (by omega); exact h h2; exact h h3)] at HT
          obtain ⟨j, hj⟩ := Int.eq_ofNat_of_zero_le h3.1
          have hjo : j < out.length := by rw [HOL.out]; omega
          have hbj : (nth [] out j).length = 256 := HGO.out.1 _ (nth_mem [] out j hjo)
          have HRD := Lib.hid (fun w' S' a' (h : IsRef w' S' a' out) => ref3Read_in w' S' a' j out h hjo hbj)
          have HNO := Lib.hid hj
          rw [hj] at HAT HT
          rw [Int.toNat_natCast] at HT
          rw [h2] at HAT
          obtain ⟨kk, hkk, hkk2⟩ := withinN_nat k 256
          have hkk' : withinN k 256 = kk := hkk
          have htb : tornB (nth [] out j) x.bytes k = x.bytes.take kk ++ (nth [] out j).drop kk := by unfold tornB; rw [hkk', Int.toNat_natCast]
          rw [htb] at HT
          have HK := Lib.hid (show (kk : Int) = max 0 (min k 256) from hkk'.symm)
          have HX := Lib.hid h2
          have HBJ := Lib.hid hbj
          clear h2 h3 hj hkk hkk' htb hbj
          generalize x.bytes = xb at *
          generalize nth [] out j = bj at *
          go_wp2_with (first
            | (go_at_call 11; refine HAP.out.mono ?_; rintro e w3 ⟨a3, rfl, hI3, hB3⟩; obtain ⟨c0, c1, _, _⟩ := HAT.out _ hB3; have hlt3 : lb < w3.heap.size := (by have := hB3.size; omega))
            | (go_at_call 24; refine (HRD.out _ (fun _ => True) a3 (hI3.is (fun _ _ _ => trivial))).mono ?_; rintro e w4 ⟨c4, rfl, hc4, hbb4, hB4⟩))
          have hz3 := hB3.size
          clear c0 c1
          go_loopw [12] (fun i wr => ∃ q : Nat, i = .int .i64 q ∧ q ≤ 256 ∧ ((q : Int) ≤ k ∨ q = 0) ∧ ByteBlk wr w3.heap.size (xb.take q ++ bj.drop q) ∧ Below w3.heap.size w3 wr) (fun i _ => 256 - (intOf i).toNat)
          case atStart => exact ⟨0, rfl, by omega, by omega, by simpa using hbb4, hB4⟩
          case round =>
            clear hbb4 hB4
            obtain ⟨q, rfl, hq, hqk, hbb, hB⟩ := hrel
            have hkw := hB3.trans (hB.mono hz3)
            obtain ⟨c0, c1, hvc, hvr⟩ := HAT.out _ hkw
            have hbl : (xb.take q ++ bj.drop q).length = 256 := by rw [List.length_append, List.length_take, List.length_drop, HX.out, HBJ.out]; omega
            by_cases hlt : q < 256 ∧ (q : Int) < k
            · obtain ⟨g1, g2⟩ := hlt
              obtain ⟨vb, vo, hV1, hSv, hvcl⟩ := bytes_cells hvr (by rw [HX.out]; omega)
              have e0 := hvcl q (by rw [HX.out]; exact g1)
              have f0 := hbb.cell (k := q) (by rw [hbl]; exact g1)
              have f1 := hbb.free (k := q) (by rw [hbl]; exact g1)
              have hset := hbb.set (k := q) (by rw [hbl]; exact g1) (nth 0 xb q)
              rw [set_next (by rw [HX.out]; exact g1) (by rw [HX.out, HBJ.out])] at hset
              have HSET := Lib.hid hset
              rw [hV1] at c1
              have hsv := hS vb hSv
              have i1 : (0 : Int) ≤ (q : Int) := by omega
              have i2 : (q : Int) < 256 := by omega
              clear hset hvcl hbb hbl hvr hqk
              go_wp2_with fail
              go_roundw
              case rel => exact ⟨q + 1, by go_num, by omega, by omega, HSET.out, hB.setCell (Nat.le_refl _) _⟩
              case measure => simp [intOf]; omega
            · have hqe : q = kk := by have := HK.out; omega
              have hI4 := hI3.below hB (Nat.le_refl _)
              have HWR := Lib.hid (ref3Write_any wr (fun b => b = w3.heap.size) wc.heap.size a3 out (j : Int) (.slice (some ⟨w3.heap.size, 0, none⟩) 256 c4) (xb.take q ++ bj.drop q) hI4 (by have := hbb.isl (S := fun b => b = w3.heap.size) (c := c4) rfl (by rw [hbl]; exact hc4); rw [hbl] at this; exact this))
              rw [hqe] at HWR
              have HI4 := Lib.hid hI4
              have hzw := hkw.size
              have hltw : lb < wr.heap.size := by omega
              clear hI4 hbb hbl hvr hqe
              by_cases g1 : q < 256
              · have g2 : ¬ (q : Int) < k := fun h => hlt ⟨g1, h⟩
                clear hlt
                go_wp2_with (go_at_call 22; refine HWR.out.mono ?_; rintro e w5 ⟨n5, rfl, hI5, hT5⟩)
                go_ret
                exact ⟨a3, rfl, by rw [HT.out]; exact hI5, (touched_ref HI4.out hT5).2 _ _ hkw (Nat.le_refl _) hzw⟩
              · clear hlt
                by_cases g3 : (q : Int) < k
                · go_wp2_with (go_at_call 22; refine HWR.out.mono ?_; rintro e w5 ⟨n5, rfl, hI5, hT5⟩)
                  go_ret
                  exact ⟨a3, rfl, by rw [HT.out]; exact hI5, (touched_ref HI4.out hT5).2 _ _ hkw (Nat.le_refl _) hzw⟩
                · go_wp2_with (go_at_call 22; refine HWR.out.mono ?_; rintro e w5 ⟨n5, rfl, hI5, hT5⟩)
                  go_ret
                  exact ⟨a3, rfl, by rw [HT.out]; exact hI5, (touched_ref HI4.out hT5).2 _ _ hkw (Nat.le_refl _) hzw⟩
        · rw [if_pos (.inr (.inr h3))] at HT
          have HX := Lib.hid (show ¬ (0 ≤ x.no ∧ x.no < (out.length : Int)) by rw [HOL.out]; exact h3)
          clear h2 h3
          generalize x.bytes.length = xl at *
          go_wp2_with (first
            | (go_at_call 11; refine HAP.out.mono ?_; rintro e w3 ⟨a3, rfl, hI3, hB3⟩; obtain ⟨c0, c1, _, _⟩ := HAT.out _ hB3; have hlt3 : lb < w3.heap.size := (by have := hB3.size; omega); have hI3' := hI3; obtain ⟨_, A9, c9, g9, _⟩ := hI3')
            | (go_at_call 24; refine (ref3Read_out _ _ _ _ _ _ g9.cell HX.out).mono ?_; rintro e w4 ⟨rfl, rfl⟩))
          go_ret
          exact ⟨a3, rfl, by rw [HT.out]; exact hI3, hB3⟩
      · rw [if_pos (.inr (.inl h2))] at HT
        have hb2 : ((x.bytes.length : Int) != 256) = true := by simp; omega
        have hb3 : ((x.bytes.length : Int) == 256) = false := by simp; omega
        clear h2
        generalize x.bytes.length = xl at *
        generalize l.length = nl at *
        go_wp2_with (go_at_call 11; refine HAP.out.mono ?_; rintro e w3 ⟨a3, rfl, hI3, hB3⟩; obtain ⟨c0, c1, _, _⟩ := HAT.out _ hB3)
        go_ret
        exact ⟨a3, rfl, by rw [HT.out]; exact hI3, hB3⟩
end Go.Proofs.Ytlogabbnnbcokaa
