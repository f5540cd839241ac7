/- scantlingref39.add puts one virtual block more into parts of the call's own, as addP does. -/
import Derived.Test.YtobklchhlfhpjaaProg
import Derived.Test.YtobklchhlfhpjaaPart
import Derived.Deep.QuietTactic
import Derived.BigQuiet
import Derived.Outline
namespace Go.Proofs.Ytobklchhlfhpjaa
open Go.RowKit
theorem info_refPart : (Try.prog.info? 50).map (fun i => (i.zero, i.size, i.bytes)) = some (some (.agg #[.int .i64 0, .int .i64 0, .int .i64 0]), 3, 24) := by kernel_rfl

def AddPost (w : World) (base e : Nat) (v : Value) (l' : List Pt) (v' : Value) (w' : World) : Prop :=
  w'.ownsRow base e 3 v' l'.length (flats Pt.enc l') ∧ w.grownBy w' v.ownBlock

set_option maxHeartbeats 400000 in
theorem refAdd (w : World) (base : Nat) (v : Value) (l : List Pt) (kd x : Int) (hb : base ≤ w.heap.size) (hl : l.length ≤ 1099511627776) (hs : Small 1099511627776 l)
    (h : w.ownsRow base 50 3 v l.length (flats Pt.enc l)) :
    Calls Try.prog 33 #[v, .int .i64 kd, .int .i64 x] w fun e w' => ∃ v', e = .returned v' ∧ AddPost w base 50 v (addP l kd x) v' w' := by
  obtain ⟨i0, hi, hz0, hz1, hz2⟩ := info_parts info_refPart
  rcases List.eq_nil_or_concat l with rfl | ⟨i, p, rfl⟩
  · obtain ⟨A, cap, rfl, _⟩ := own_form0 h
    go_enter Try.func33, Try.ntmps33
    go_wp2_with fail
    go_quiet (fail)
    go_wp2_with (at_builtin; go_loud (refine wpList_append_own _ rfl _ _ 31 rfl base 50 i0 (.agg #[.int .i64 0, .int .i64 0, .int .i64 0]) 3 24 Try.underlying31 hi hz0 hz1 hz2 rfl (by decide) _ 0 [] rfl (World.ownsRow.alloc (w := w.drewN _) h _) ⟨w.heap.size, 0, none⟩ 1 1 (Pt.enc ⟨kd, x, 1⟩) rfl rfl ?c1 ?c2 ?c3 ?c4 ?c5 ?_))
    case c1 => exact new_cells (w.drewN _) (Pt.enc ⟨kd, x, 1⟩) 50
    case c2 => exact Pt.enc_one _
    case c3 => unfold maxLen; omega
    case c4 => omega
    case c5 => simp; omega
    intro v' w1 hown hgrow _
    go_wp2
    go_ret
    refine ⟨v', rfl, ?_, ?_⟩
    · simpa [addP_nil, flats] using hown
    · exact grown_drewN (grown_new hgrow)
  · rw [List.concat_eq_append] at *
    have hlen : (i ++ [p]).length = i.length + 1 := by simp
    have hp := hs p (by simp)
    clear hs
    have hm : i.length + 1 ≤ 1099511627776 := by omega
    obtain ⟨g, cap, rfl, hg1, hg2, hg3⟩ := own_form h (by omega)
    have hget := fun j u (hj : j < 3) (hu : (Pt.enc p)[j]? = some u) => (h.cellAt (i.length * 3 + j) (by omega)).trans
      (flats_get Pt.enc_len (d := pt0) (i ++ [p]) i.length j u (by omega) (by rw [nth_append_len pt0 i [] p]; exact hu))
    have q0 : w.cell? ⟨g, i.length * 3, none⟩ = _ := hget 0 _ (by omega) rfl
    have q1 := hget 1 _ (by omega) rfl
    have q2 := hget 2 _ (by omega) rfl
    have qf := h.frozenAt (i.length * 3 + 2)
    clear hget hl
    rw [hlen] at h hg3 ⊢
    obtain ⟨m, hi0⟩ : ∃ m, i.length = m := ⟨_, rfl⟩
    rw [hi0] at h hg3 hm q0 q1 q2 qf ⊢
    have HI := Lib.hid hi0
    clear hi0 hlen
    have e1 : ((m : Int) + 1 - 1).toNat = m := by omega
    by_cases hc : p.k = kd ∧ p.v + p.n = x
    · have hkb : (p.k == kd) = true := by simp [hc.1]
      have hvb : (p.v + p.n == x) = true := by simp [hc.2]
      have HC := Lib.hid hc
      clear hc
      go_enter Try.func33, Try.ntmps33
      go_wp2_with fail
      go_quiet (fail)
      go_wp2
      go_ret
      rw [addP_hit i p kd x HC.out.1 HC.out.2]
      have hst := World.ownsRow.stored (w := w.drewN nq) h (m * 3 + 2) (.int .i64 (p.n + 1))
      rw [← HI.out, flats_set] at hst
      refine ⟨_, rfl, ?_, ?_⟩
      · rw [← HI.out]; simpa using hst.1
      · rw [← HI.out]; exact grown_drewN hst.2
    · have HC := Lib.hid hc
      have hor : (p.k == kd) = false ∨ ((p.k == kd) = true ∧ (p.v + p.n == x) = false) := by
        by_cases h1 : p.k = kd
        · exact .inr ⟨by simp [h1], by simp; intro h2; exact hc ⟨h1, h2⟩⟩
        · exact .inl (by simp [h1])
      clear hc
      rcases hor with hkb | ⟨hkb, hvb⟩
      all_goals
        go_enter Try.func33, Try.ntmps33
        go_wp2_with fail
        go_quiet (fail)
        go_wp2_with (at_builtin; go_loud (refine wpList_append_own _ rfl _ _ 31 rfl base 50 i0 (.agg #[.int .i64 0, .int .i64 0, .int .i64 0]) 3 24 Try.underlying31 hi hz0 hz1 hz2 rfl (by decide) _ (m + 1) (flats Pt.enc (i ++ [p])) rfl (World.ownsRow.alloc (w := w.drewN _) h _) ⟨w.heap.size, 0, none⟩ 1 1 (Pt.enc ⟨kd, x, 1⟩) rfl rfl (new_cells (w.drewN _) (Pt.enc ⟨kd, x, 1⟩) 50) (Pt.enc_one _) (by unfold maxLen; omega) (by omega) (by simp; omega) ?_); intro v' w1 hown hgrow _)
        go_ret
        rw [addP_miss i p kd x HC.out]
        refine ⟨v', rfl, ?_, ?_⟩
        · rw [flats_append (i ++ [p]), flats_one]; simpa [HI.out] using hown
        · exact grown_drewN (grown_new hgrow)
end Go.Proofs.Ytobklchhlfhpjaa
