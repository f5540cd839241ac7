/- tall.Levels, tall.Nodes: how many nodes a tree has. Condition: the entries are few. -/
import Derived.Test.YtooffkhdanimbaaWSize2
namespace Go.Proofs.Ytooffkhdanimbaa
open Go.RowKit

theorem maxN_bound (t : Int) (leaf : Bool) : 1 ≤ maxN t leaf ∧ maxN t leaf ≤ 18 := by
  unfold maxN
  repeat' split
  all_goals omega
theorem last_int {w : World} {base g n cap m : Nat} {xs : List Int} {k : Int} (h : w.ownsRow base 3 1 (.slice (some ⟨g, 0, none⟩) n cap) n (flats encI (xs ++ [k]))) (hm : xs.length = m) (hn : n = m + 1) : w.cell? ⟨g, m, none⟩ = some (.int .i64 k) := by
  rw [h.cellAt m (by omega), flats_encI, List.map_append, List.getElem?_append_right (by simp; omega)]
  simp [hm]
set_option maxHeartbeats 3200000 in
theorem levels_any (w : World) (t n : Int) (h : 1 ≤ t ∧ t ≤ 5) (h0 : 0 ≤ n) (h1 : n ≤ 32768) :
    Calls Try.prog 31 #[.int .i64 t, .int .i64 n] w fun e w' => ∃ v, e = .returned v ∧ IsInts w' (Btw w.heap.size w'.heap.size) v (levelsN t n) ∧ Below w.heap.size w w' := by
  have hm1 := max_any w t true h
  have hm2 := max_any w t false h
  have e2 : maxN t false = 18 := by simp [maxN]
  rw [e2] at hm2
  have hb := maxN_bound t true
  have ho := over_any w n (maxN t true) h0 (by omega) (by omega) (by omega)
  have hop := overN_pos n (maxN t true)
  have hol := overN_le h0 (show 1 ≤ maxN t true by omega)
  have hL : levelsN t n = levelsUp (overN n (maxN t true)) := rfl
  have HL := Lib.hid hL
  have H1 := Lib.hid hm1
  have H2 := Lib.hid hm2
  have HO := Lib.hid ho
  clear hm1 hm2 ho hL e2
  generalize maxN t true = s at *
  generalize overN n s = k0 at *
  generalize hlv : levelsN t n = lv at *
  have hr0 := World.ownsRow_lit (base := w.heap.size) (e := 3) (size := 1) w #[.int .i64 k0] 1 (Nat.le_refl _) (by simp [maxLen]) rfl
  have hB0 : Below w.heap.size w (w.alloc (.cells #[.int .i64 k0] 3)) := (Below.refl _ _).alloc (Nat.le_refl _) _
  have hsz : (s == 0) = false := beq_false_of_ne (by omega)
  go_enter Try.func31, Try.ntmps31
  go_wp2_with (first
    | (go_at_call 39; refine HO.out.mono ?_; rintro e w' ⟨rfl, rfl⟩)
    | (go_at_call 38; have _ := done1; refine H2.out.mono ?_; rintro e w' ⟨rfl, rfl⟩)
    | (go_at_call 38; refine H1.out.mono ?_; rintro e w' ⟨rfl, rfl⟩; have done1 : True := trivial))
  go_loopw [7] (fun u wr => ∃ (xs : List Int) (k : Int) (m : Nat), xs.length = m ∧ xs ++ levelsUp k = lv ∧ 1 ≤ k ∧ (m : Int) + k ≤ 65536 ∧ wr.ownsRow w.heap.size 3 1 u (m + 1) (flats encI (xs ++ [k])) ∧ Below w.heap.size w wr) (fun u _ => lv.length - lenOf u)
  case atStart => exact ⟨[], k0, 0, rfl, HL.out.symm, by omega, by omega, by simpa [flats, encI] using hr0, hB0⟩
  case round =>
    obtain ⟨xs, k, m, hm, hlv2, hk1, hk2, hrow, hB⟩ := hrel
    have hzw := hB.size
    obtain ⟨g, cap, rfl, hg1, hg2, hg3⟩ := own_form hrow (by omega)
    have q := last_int hrow hm rfl
    have HM := Lib.hid hm
    have e1 : ((m : Int) + 1 - 1).toNat = m := by omega
    clear hm
    by_cases hlt : k > 1
    · have hup := levelsUp_more (show 1 < k from hlt)
      rw [hup] at hlv2
      have HLV := Lib.hid hlv2
      have ho2 := over_any wr k 18 (by omega) (by omega) (by omega) (by omega)
      have HO2 := Lib.hid ho2
      have hp2 := overN_pos k 18
      have hl2 := overN_lt (show 1 < k from hlt)
      clear hup hlv2 ho2
      generalize overN k 18 = k' at *
      go_wp2_with (first
        | (go_at_call 39; refine HO2.out.mono ?_; rintro e w' ⟨rfl, rfl⟩)
        | (at_builtin; go_loud (refine wpList_append_one elInt rfl _ _ rfl w.heap.size (.slice (some ⟨g, 0, none⟩) (m + 1) cap) (m + 1) (xs ++ [k]) k' rfl hrow rfl (by omega) hzw ?_); intro A6 cap6 w6 hown hg))
      go_roundw
      case rel => exact ⟨xs ++ [k], k', m + 1, by rw [List.length_append, HM.out]; rfl, by rw [List.append_assoc]; exact HLV.out, by omega, by omega, hown, hB.grown hg hzw (fun i hi => (hrow.lt i hi).1)⟩
      case measure =>
        have hlen := congrArg List.length HLV.out
        have hpos : 0 < (levelsUp k').length := by
          by_cases hq : 1 < k'
          · rw [levelsUp_more hq]; simp
          · rw [levelsUp_one hq]; simp
        rw [List.length_append, List.length_cons, HM.out] at hlen
        simp only [lenOf]
        omega
    · rw [levelsUp_one (show ¬ 1 < k by omega)] at hlv2
      have HLV := Lib.hid hlv2
      clear hlv2
      go_wp2_with fail
      go_ret
      refine ⟨_, rfl, ?_, hB⟩
      rw [← HLV.out]
      exact IsSl.own (enc := encI) (d := (0 : Int)) encI_len hrow (by omega)
end Go.Proofs.Ytooffkhdanimbaa
