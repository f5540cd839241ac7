/- scantlingref39.Maps returns the parts of two lists of mappings, or the first error, for any two slices of mappings. -/
import Derived.Test.YtobklchhlfhpjaaWMaps
import Derived.Test.YtobklchhlfhpjaaWAdd
namespace Go.Proofs.Ytobklchhlfhpjaa
open Go.RowKit

/-- What is there between two rounds of the reference's merge. -/
def RmInv (w : World) (a b : List Mp) (n1 n2 : Nat) (wr : World) (v : Value) (i k : Nat) : Prop :=
  ∃ out, i ≤ n1 ∧ k ≤ n2 ∧ wr.ownsRow w.heap.size 50 3 v out.length (flats Pt.enc out) ∧ Below w.heap.size w wr ∧ MgAt a b i k out ∧ Small (i + k) out ∧ out.length ≤ i + k
theorem RmInv.step {w : World} {a b : List Mp} {n1 n2 : Nat} {wr w1 : World} {v v' : Value} {i k i' k' : Nat} {out : List Pt} {kd x : Int} (hown : wr.ownsRow w.heap.size 50 3 v out.length (flats Pt.enc out)) (hB : Below w.heap.size w wr)
    (hp : AddPost wr w.heap.size 50 v (addP out kd x) v' w1) (hi : i' ≤ n1) (hk : k' ≤ n2) (hik : i + k + 1 ≤ i' + k') (hs : Small (i + k) out) (hl : out.length ≤ i + k) (hx : 0 ≤ x ∧ x ≤ 281474976710655) (hm : MgAt a b i' k' (addP out kd x)) :
    RmInv w a b n1 n2 w1 v' i' k' :=
  ⟨addP out kd x, hi, hk, hp.1, hB.grown hp.2 hB.size (fun j hj => (hown.lt j hj).1), hm, (hs.addP_ kd x hx.1 hx.2).mono hik, by have := addP_length out kd x; omega⟩

set_option maxHeartbeats 1600000 in
set_option maxRecDepth 100000 in
theorem refMaps (w : World) (S : Nat → Prop) (va vb : Value) (a b : List Mp) (hS : ∀ b, S b → b < w.heap.size) (ha : IsMaps w S va a) (hb : IsMaps w S vb b) (hn : a.length + b.length ≤ 1099511627775) :
    Calls Try.prog 16 #[va, vb] w fun e w' => ∃ v, e = .returned (.tuple #[v, .int .i64 (mapsErr a b)]) ∧ IsParts w' (Btw w.heap.size w'.heap.size) v (mapsRes a b) ∧ Below w.heap.size w w' := by
  have hka := fun n => refChk (w.drewN n) S va a (by omega) (ha.keep rmp_stable (fun _ h => h) (Keep.refl.drewN n))
  have hkb := fun n => refChk (w.drewN n) S vb b (by omega) (hb.keep rmp_stable (fun _ h => h) (Keep.refl.drewN n))
  obtain ⟨A, c, rfl, hc, hra⟩ := ha
  obtain ⟨B, d, rfl, hd, hrb⟩ := hb
  generalize hna : a.length = n1 at *
  generalize hnb : b.length = n2 at *
  have HA := Lib.hid hna
  have HB := Lib.hid hnb
  have HKA := Lib.hid hka
  have HKB := Lib.hid hkb
  clear hna hnb hka hkb
  by_cases h1 : chk a = 0
  · have hb1 : (chk a != 0) = false := by simp [h1]
    have H1 := Lib.hid h1
    clear h1
    by_cases h2 : chk b = 0
    · have hb2 : (chk b != 0) = false := by simp [h2]
      have H2 := Lib.hid h2
      clear h2
      go_enter Try.func16, Try.ntmps16
      go_wp2_with fail
      refine (HKA.out 0).mono ?_
      rintro e w1 ⟨rfl, dn, rfl⟩
      go_wp2_with fail
      refine (HKB.out dn).mono ?_
      rintro e w1 ⟨rfl, dm, rfl⟩
      go_wp2_with fail
      clear HKA HKB
      go_loopw [6, 7, 8] (fun v i k wr => ∃ i' k' : Nat, i = .int .i64 i' ∧ k = .int .i64 k' ∧ RmInv w a b n1 n2 wr v i' k') (fun _ i k _ => (n1 - (intOf i).toNat) + (n2 - (intOf k).toNat))
      case atStart => exact ⟨0, 0, rfl, rfl, [], by omega, by omega, World.ownsRow_nil _ _ _ _, ⟨rfl, rfl, rfl, Nat.le_refl _, fun _ _ => rfl⟩, MgAt.zero a b, Small.nil_ _, Nat.le_refl _⟩
      case round =>
        obtain ⟨i, k, rfl, rfl, out, hi, hk, hown, hB, hM, hs, hl⟩ := hrel
        have HM := Lib.hid hM
        obtain ⟨A', cap', rfl, _⟩ := own_form0 hown
        clear hM
        have hadd := fun nq kd x => refAdd (wr.drewN nq) w.heap.size (.slice A' out.length cap') out kd x hB.size (by omega) (hs.mono (by omega)) hown
        have HADD := Lib.hid hadd
        clear hadd
        have hSr : ∀ b, S b → b < w.heap.size := hS
        have hraw := hra.keep rmp_stable (fun _ h => h) (keep_below hB hS)
        have hrbw := hrb.keep rmp_stable (fun _ h => h) (keep_below hB hS)
        have hdr : ∀ n w', (wr.drewN n).grownBy w' (Value.slice A' out.length cap').ownBlock → wr.grownBy w' (Value.slice A' out.length cap').ownBlock := fun n w' h => grown_drewN h
        have HDR := Lib.hid hdr
        clear hdr hra hrb
        by_cases hin : i < n1
        · obtain ⟨ba, oa, rfl, hba, hca⟩ := maps_cells hraw (by rw [HA.out]; omega)
          obtain ⟨a0, a1, a2⟩ := hca i (by rw [HA.out]; exact hin)
          have vx := (chk_vok H1.out).at_ (k := i) (by rw [HA.out]; exact hin)
          have hin' := hin
          rw [← HA.out] at hin'
          clear hca
          by_cases hkn : k < n2
          · obtain ⟨bb, obb, rfl, hbb, hcb⟩ := maps_cells hrbw (by rw [HB.out]; omega)
            obtain ⟨b0, b1, b2⟩ := hcb k (by rw [HB.out]; exact hkn)
            have vy := (chk_vok H2.out).at_ (k := k) (by rw [HB.out]; exact hkn)
            have hkn' := hkn
            rw [← HB.out] at hkn'
            have hke : ((k : Int) == (n2 : Int)) = false := by simp; omega
            have hie : ((i : Int) == (n1 : Int)) = false := by simp; omega
            clear hcb
            rcases Int.lt_trichotomy (nth mp0 a i).v (nth mp0 b k).v with hxy | hxy | hxy
            · have hd1 : decide ((nth mp0 a i).v < (nth mp0 b k).v) = true := by simpa using hxy
              have HN := Lib.hid (HM.out.left hin' (.inr ⟨hkn', hxy⟩))
              go_wp2_with fail
              go_quiet (fail)
              go_wp2_with (go_at_call 33; refine (HADD.out _ _ _).mono ?_; rintro e w5 ⟨v5, rfl, hp⟩; obtain ⟨A5, cap5, rfl, _⟩ := own_form0 hp.1)
              go_roundw
              case rel => exact ⟨i + 1, k, by go_num, rfl, RmInv.step hown hB ⟨hp.1, HDR.out _ _ hp.2⟩ (by omega) (by omega) (by omega) hs hl vx HN.out⟩
              case measure => simp [intOf]; omega
            · have hd1 : decide ((nth mp0 a i).v < (nth mp0 b k).v) = false := by simp; omega
              have hd2 : decide ((nth mp0 b k).v < (nth mp0 a i).v) = false := by simp; omega
              have HXY := Lib.hid hxy
              clear hxy
              by_cases hbb2 : (nth mp0 a i).b = (nth mp0 b k).b
              · have hd3 : ((nth mp0 a i).b == (nth mp0 b k).b) = true := by simp [hbb2]
                have HN := Lib.hid (HM.out.both hin' hkn' HXY.out (kd := 1) (by rw [if_pos hbb2]))
                clear hbb2
                go_wp2_with fail
                go_quiet (fail)
                go_wp2_with fail
                go_quiet (fail)
                go_wp2_with fail
                go_quiet (fail)
                go_wp2_with (go_at_call 33; refine (HADD.out _ _ _).mono ?_; rintro e w5 ⟨v5, rfl, hp⟩; obtain ⟨A5, cap5, rfl, _⟩ := own_form0 hp.1)
                go_roundw
                case rel => exact ⟨i + 1, k + 1, by go_num, by go_num, RmInv.step hown hB ⟨hp.1, HDR.out _ _ hp.2⟩ (by omega) (by omega) (by omega) hs hl vx HN.out⟩
                case measure => simp [intOf]; omega
              · have hd3 : ((nth mp0 a i).b == (nth mp0 b k).b) = false := by simp [hbb2]
                have HN := Lib.hid (HM.out.both hin' hkn' HXY.out (kd := 2) (by rw [if_neg hbb2]))
                clear hbb2
                go_wp2_with fail
                go_quiet (fail)
                go_wp2_with fail
                go_quiet (fail)
                go_wp2_with fail
                go_quiet (fail)
                go_wp2_with (go_at_call 33; refine (HADD.out _ _ _).mono ?_; rintro e w5 ⟨v5, rfl, hp⟩; obtain ⟨A5, cap5, rfl, _⟩ := own_form0 hp.1)
                go_roundw
                case rel => exact ⟨i + 1, k + 1, by go_num, by go_num, RmInv.step hown hB ⟨hp.1, HDR.out _ _ hp.2⟩ (by omega) (by omega) (by omega) hs hl vx HN.out⟩
                case measure => simp [intOf]; omega
            · have hd1 : decide ((nth mp0 a i).v < (nth mp0 b k).v) = false := by simp; omega
              have hd2 : decide ((nth mp0 b k).v < (nth mp0 a i).v) = true := by simpa using hxy
              have HN := Lib.hid (HM.out.right hkn' (.inr ⟨hin', hxy⟩))
              go_wp2_with fail
              go_quiet (fail)
              go_wp2_with fail
              go_quiet (fail)
              go_wp2_with (go_at_call 33; refine (HADD.out _ _ _).mono ?_; rintro e w5 ⟨v5, rfl, hp⟩; obtain ⟨A5, cap5, rfl, _⟩ := own_form0 hp.1)
              go_roundw
              case rel => exact ⟨i, k + 1, rfl, by go_num, RmInv.step hown hB ⟨hp.1, HDR.out _ _ hp.2⟩ (by omega) (by omega) (by omega) hs hl vy HN.out⟩
              case measure => simp [intOf]; omega
          · have hke : ((k : Int) == (n2 : Int)) = true := by simp; omega
            have hie : ((i : Int) == (n1 : Int)) = false := by simp; omega
            have HN := Lib.hid (HM.out.left hin' (.inl (by rw [HB.out]; omega)))
            go_wp2_with fail
            go_quiet (fail)
            go_wp2_with (go_at_call 33; refine (HADD.out _ _ _).mono ?_; rintro e w5 ⟨v5, rfl, hp⟩; obtain ⟨A5, cap5, rfl, _⟩ := own_form0 hp.1)
            go_roundw
            case rel => exact ⟨i + 1, k, by go_num, rfl, RmInv.step hown hB ⟨hp.1, HDR.out _ _ hp.2⟩ (by omega) (by omega) (by omega) hs hl vx HN.out⟩
            case measure => simp [intOf]; omega
        · by_cases hkn : k < n2
          · obtain ⟨bb, obb, rfl, hbb, hcb⟩ := maps_cells hrbw (by rw [HB.out]; omega)
            obtain ⟨b0, b1, b2⟩ := hcb k (by rw [HB.out]; exact hkn)
            have vy := (chk_vok H2.out).at_ (k := k) (by rw [HB.out]; exact hkn)
            have hkn' := hkn
            rw [← HB.out] at hkn'
            have hke : ((k : Int) == (n2 : Int)) = false := by simp; omega
            have hie : ((i : Int) == (n1 : Int)) = true := by simp; omega
            have hdi : decide (i < n1) = false := by simpa using hin
            have HN := Lib.hid (HM.out.right hkn' (.inl (by rw [HA.out]; omega)))
            clear hcb
            go_wp2_with fail
            go_quiet (fail)
            go_wp2_with fail
            go_quiet (fail)
            go_wp2_with (go_at_call 33; refine (HADD.out _ _ _).mono ?_; rintro e w5 ⟨v5, rfl, hp⟩; obtain ⟨A5, cap5, rfl, _⟩ := own_form0 hp.1)
            go_roundw
            case rel => exact ⟨i, k + 1, rfl, by go_num, RmInv.step hown hB ⟨hp.1, HDR.out _ _ hp.2⟩ (by omega) (by omega) (by omega) hs hl vy HN.out⟩
            case measure => simp [intOf]; omega
          · have HO := Lib.hid (HM.out.done (by rw [HA.out]; omega) (by rw [HB.out]; omega))
            go_wp2_with fail
            go_ret2
            refine ⟨_, ret2_int (by rw [mapsErr_b H1.out, H2.out]), ?_, hB⟩
            rw [mapsRes_yes H1.out H2.out, ← HO.out]
            exact IsSl.own (d := pt0) Pt.enc_len hown (by omega)
    · have hb2 : (chk b != 0) = true := by simp [h2]
      have H2 := Lib.hid h2
      clear h2
      go_enter Try.func16, Try.ntmps16
      go_wp2_with fail
      refine (HKA.out 0).mono ?_
      rintro e w1 ⟨rfl, dn, rfl⟩
      go_wp2_with fail
      refine (HKB.out dn).mono ?_
      rintro e w1 ⟨rfl, dm, rfl⟩
      go_wp2_with fail
      refine (HKB.out _).mono ?_
      rintro e w1 ⟨rfl, dk, rfl⟩
      go_wp2_with fail
      go_ret2
      exact ⟨.slice none 0 0, ret2_int (mapsErr_b H1.out).symm, by rw [mapsRes_no (fun h => H2.out h.2)]; exact IsSl.nil_, ⟨rfl, rfl, rfl, Nat.le_refl _, fun _ _ => rfl⟩⟩
  · have hb1 : (chk a != 0) = true := by simp [h1]
    have H1 := Lib.hid h1
    clear h1
    go_enter Try.func16, Try.ntmps16
    go_wp2_with fail
    refine (HKA.out 0).mono ?_
    rintro e w1 ⟨rfl, dn, rfl⟩
    go_wp2_with fail
    refine (HKA.out dn).mono ?_
    rintro e w1 ⟨rfl, dm, rfl⟩
    go_wp2_with fail
    go_ret2
    exact ⟨.slice none 0 0, ret2_int (mapsErr_a H1.out).symm, by rw [mapsRes_no (fun h => H1.out h.1)]; exact IsSl.nil_, ⟨rfl, rfl, rfl, Nat.le_refl _, fun _ _ => rfl⟩⟩
end Go.Proofs.Ytobklchhlfhpjaa
