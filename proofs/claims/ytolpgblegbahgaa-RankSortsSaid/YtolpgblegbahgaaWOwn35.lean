/- scantlinglaw35.Own: candidates for the reference, in a row of the call's own. Condition: they are not more than the reach. -/
import Derived.Test.YtolpgblegbahgaaRawC
namespace Go.Proofs.Ytolpgblegbahgaa
open Go.RowKit
attribute [local go_sem] Oper.semAt_some
set_option linter.unusedVariables false
set_option linter.unusedSimpArgs false

theorem info_rcand : (Try.prog.info? 35).map (fun i => (i.zero, i.size, i.bytes)) = some (some (.agg #[.bool false, .int .i64 0, .int .i64 0, .int .i64 0, .int .i64 0, .int .i64 0, .int .i64 0, .slice none 0 0]), 8, 80) := by kernel_rfl
theorem elRc : Elem Try.prog 25 35 8 80 RC.enc := ⟨Try.underlying25, ⟨_, info_rcand, rfl⟩, by omega, by omega, RC.enc_len, RC.enc_one⟩
theorem take_snoc_rc {l : List RC} {k : Nat} (h : k < l.length) : l.take (k + 1) = l.take k ++ [nth rc0 l k] := by
  rw [nth_get rc0 l k h, List.take_add_one, List.getElem?_eq_getElem h]
  rfl
set_option maxRecDepth 100000 in
set_option maxHeartbeats 3200000 in
theorem own35_any (w : World) (S : Nat → Prop) (v : Value) (l : List Cand) (hS : ∀ b, S b → b < w.heap.size) (h : IsSl RCand 8 cand0 w S v l) (hl1 : l.length ≤ 1000000000) :
    Calls Try.prog 6 #[v] w fun e w' => ∃ v', e = .returned v' ∧ IsSl RCand 8 cand0 w' (fun b => S b ∨ Btw w.heap.size w'.heap.size b) v' l ∧ Below w.heap.size w w' := by
  obtain ⟨A, c, rfl, hc, hr⟩ := h
  obtain ⟨raws, hm, hok, hcl⟩ := raws_of hr
  have hlen : raws.length = l.length := by rw [← hm, List.length_map]
  generalize hn : l.length = n at *
  have HN := Lib.hid hn
  have HLEN := Lib.hid hlen
  clear hn hlen
  have HM := Lib.hid hm
  have HOK := Lib.hid hok
  have HCL := Lib.hid hcl
  clear hm hok hcl hr
  go_enter Try.func6, Try.ntmps6
  go_wp2_with fail
  go_loopw [3, 4] (fun t i wr => ∃ k : Nat, k ≤ n ∧ i = .int .i64 k ∧ wr.ownsRow w.heap.size 35 8 t k (flats RC.enc (raws.take k)) ∧ Below w.heap.size w wr) (fun _ i _ => n - (intOf i).toNat)
  case atStart => exact ⟨0, by omega, rfl, World.ownsRow_nil _ _ _ _, Below.refl _ _⟩
  case round =>
    obtain ⟨k, hk, rfl, hrow, hB⟩ := hrel
    have hz := hB.size
    obtain ⟨At, ct, rfl, hct⟩ := own_form0 hrow
    by_cases hlt : k < n
    · obtain ⟨b, off, rfl, hb, hq⟩ := HCL.out (by omega)
      have hb0 := hS b hb
      obtain ⟨c0, c1, c2, c3, c4, c5, c6, c7⟩ := hq k hlt
      have HT := Lib.hid (take_snoc_rc (l := raws) (k := k) (by rw [HLEN.out]; exact hlt))
      clear hq
      obtain ⟨x, hx⟩ : ∃ x, nth rc0 raws k = x := ⟨_, rfl⟩
      rw [hx] at c0 c1 c2 c3 c4 c5 c6 c7 HT
      clear hx
      have d0 := (hB.cell (p := ⟨b, off + k * 8, none⟩) hb0).trans c0
      have d1 := (hB.cell (p := ⟨b, off + k * 8 + 1, none⟩) hb0).trans c1
      have d2 := (hB.cell (p := ⟨b, off + k * 8 + 2, none⟩) hb0).trans c2
      have d3 := (hB.cell (p := ⟨b, off + k * 8 + 3, none⟩) hb0).trans c3
      have d4 := (hB.cell (p := ⟨b, off + k * 8 + 4, none⟩) hb0).trans c4
      have d5 := (hB.cell (p := ⟨b, off + k * 8 + 5, none⟩) hb0).trans c5
      have d6 := (hB.cell (p := ⟨b, off + k * 8 + 6, none⟩) hb0).trans c6
      have d7 := (hB.cell (p := ⟨b, off + k * 8 + 7, none⟩) hb0).trans c7
      clear c0 c1 c2 c3 c4 c5 c6 c7
      go_wp2_with (at_builtin; go_loud (refine wpList_append_one elRc rfl _ _ rfl w.heap.size (.slice At k ct) k (raws.take k) x rfl hrow rfl (by omega) (by omega) ?_); intro A6 cap6 w6 hown hg)
      go_roundw
      case rel => exact ⟨k + 1, by omega, by go_num, by rw [HT.out]; exact hown, hB.grown hg hz (fun j hj => (hrow.lt j hj).1)⟩
      case measure => simp [intOf]; omega
    · obtain rfl : k = n := by omega
      go_wp2_with fail
      go_ret
      have e : raws.take k = raws := List.take_of_length_le (by rw [HLEN.out]; omega)
      rw [e] at hrow
      have hq := raws_is (S := S) (S' := fun b => S b ∨ Btw w.heap.size wr.heap.size b) hrow HLEN.out (fun r hr => (HOK.out r hr).below hB hS) (fun b h => .inl h) (fun b h1 h2 => .inr ⟨h1, h2⟩)
      rw [HM.out] at hq
      exact ⟨_, rfl, hq, hB⟩
end Go.Proofs.Ytolpgblegbahgaa
