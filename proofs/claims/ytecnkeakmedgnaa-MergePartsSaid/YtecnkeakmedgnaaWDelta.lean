/- The inner functions of delta.Maps: kind, and the two function literals that merge is given. -/
import Derived.Test.YtecnkeakmedgnaaProg
import Derived.Test.YtecnkeakmedgnaaPart
import Derived.Deep.QuietTactic
import Derived.BigQuiet
import Derived.Outline
namespace Go.Proofs.Ytecnkeakmedgnaa
open Go.RowKit
theorem info_Part : (Try.prog.info? 59).map (fun i => (i.zero, i.size, i.bytes)) = some (some (.agg #[.int .i64 0, .int .i64 0, .int .i64 0]), 3, 24) := by kernel_rfl

theorem elPart : Elem Try.prog 36 59 3 24 Pt.enc := ⟨Try.underlying36, ⟨_, info_Part, rfl⟩, by omega, by omega, Pt.enc_len, Pt.enc_one⟩

/-- A pointer to a mapping, or nil. -/
def IsOpt (w : World) (v : Value) : Option Mp → Prop
  | none => v = .pointer none
  | some m => ∃ b off, v = .pointer (some ⟨b, off, none⟩) ∧ w.cell? ⟨b, off, none⟩ = some (.int .i64 m.v) ∧ w.cell? ⟨b, off + 1, none⟩ = some (.int .i64 m.b) ∧ w.cell? ⟨b, off + 2, none⟩ = some (.int .i64 m.t)
def kindOf : Option Mp → Option Mp → Int
  | _, none => 3
  | none, some _ => 4
  | some x, some y => if x.b = y.b then 1 else 2

set_option maxHeartbeats 400000 in
theorem kind_any (w : World) (px py : Value) (ox oy : Option Mp) (hx : IsOpt w px ox) (hy : IsOpt w py oy) :
    Calls Try.prog 32 #[px, py] w fun e w' => e = .returned (.int .i64 (kindOf ox oy)) ∧ ∃ m, w' = w.drewN m := by
  cases oy with
  | none =>
    obtain rfl : py = .pointer none := hy
    cases ox with
    | none =>
      obtain rfl : px = .pointer none := hx
      go_enter Try.func32, Try.ntmps32
      go_wp2
      go_ret
      exact ⟨rfl, 0, rfl⟩
    | some x =>
      obtain ⟨b, off, rfl, c0, c1, c2⟩ := hx
      go_enter Try.func32, Try.ntmps32
      go_wp2
      go_ret
      exact ⟨rfl, 0, rfl⟩
  | some y =>
    obtain ⟨b', off', rfl, d0, d1, d2⟩ := hy
    cases ox with
    | none =>
      obtain rfl : px = .pointer none := hx
      go_enter Try.func32, Try.ntmps32
      go_wp2
      go_ret
      exact ⟨rfl, 0, rfl⟩
    | some x =>
      obtain ⟨b, off, rfl, c0, c1, c2⟩ := hx
      by_cases h : x.b = y.b
      · have hb : (x.b == y.b) = true := by simp [h]
        have e : kindOf (some x) (some y) = 1 := by simp [kindOf, h]
        clear h
        rw [e]
        go_enter Try.func32, Try.ntmps32
        go_wp2
        go_quiet (fail)
        go_wp2
        go_ret
        exact ⟨rfl, _, rfl⟩
      · have hb : (x.b == y.b) = false := by simp [h]
        have e : kindOf (some x) (some y) = 2 := by simp [kindOf, h]
        clear h
        rw [e]
        go_enter Try.func32, Try.ntmps32
        go_wp2
        go_quiet (fail)
        go_wp2
        go_ret
        exact ⟨rfl, _, rfl⟩

theorem key_any (w : World) (x b t : Int) : Calls Try.prog 30 #[.agg #[.int .i64 x, .int .i64 b, .int .i64 t]] w fun e w' => e = .returned (.int .i64 x) ∧ w' = w.alloc (.cells #[.int .i64 x, .int .i64 b, .int .i64 t] 41) := by
  go_enter Try.func30, Try.ntmps30
  go_wp2
  go_ret
  exact ⟨rfl, rfl⟩

/-- The captured variable 'out', in block ob, holds the parts l, in blocks behind it. -/
def OutIs (w : World) (ob : Nat) (l : List Pt) : Prop := ∃ v, One w ob v 36 ∧ w.ownsRow (ob + 1) 59 3 v l.length (flats Pt.enc l)

theorem OutIs.below {w w' : World} {ob : Nat} {l : List Pt} (h : OutIs w ob l) (hb : Below w.heap.size w w') : OutIs w' ob l := by
  obtain ⟨v, h1, h2⟩ := h
  exact ⟨v, h1.below hb h1.lt, h2.kept (row := none) ⟨hb.os, hb.tape, hb.output, hb.size, fun k hk _ => hb.block k hk⟩ (by cases v.ownBlock <;> simp)⟩

set_option maxHeartbeats 800000 in
theorem do_any (w : World) (ob : Nat) (px py : Value) (x kd : Int) (l : List Pt) (hl : l.length ≤ 1099511627776) (hs : Small 1099511627776 l) (h : OutIs w ob l)
    (hk : Hid (Calls Try.prog 32 #[px, py] w fun e w' => e = .returned (.int .i64 kd) ∧ ∃ m, w' = w.drewN m)) :
    Calls Try.prog 31 #[.int .i64 x, px, py, .pointer (some ⟨ob, 0, none⟩)] w fun e w' => e = .returned (.tuple #[]) ∧ OutIs w' ob (addP l kd x) ∧ Below ob w w' := by
  obtain ⟨v, hob, h⟩ := h
  have hob0 := hob.cell
  have hobf := hob.free
  have hlt := hob.lt
  rcases List.eq_nil_or_concat l with rfl | ⟨i, p, rfl⟩
  · obtain ⟨A, cap, rfl, _⟩ := own_form0 h
    go_enter Try.func31, Try.ntmps31
    go_wp2_with (go_at_call 32; refine hk.out.mono ?_; rintro e w' ⟨rfl, dn, rfl⟩)
    go_quiet (fail)
    go_wp2_with (at_builtin; go_loud (refine wpList_append_one elPart rfl _ _ rfl (ob + 1) (.slice A 0 cap) 0 [] ⟨kd, x, 1⟩ rfl h rfl (by omega) (by simp; omega) ?_); intro A' cap' w1 hown hg; have hg1 := grown_drewN hg; have ho1 := hob.grown hg1 (own_ne h (by omega)); have ho2 := ho1.cell; have ho3 := ho1.free)
    go_end0
    refine ⟨rfl, ⟨_, ho1.set_, ownsRow_setCell_below hown (by simp) _⟩, ?_⟩
    exact ((Below.refl ob w).grown hg1 (by omega) (fun k hk => by have := h.lt k hk; omega)).setCell (Nat.le_refl _) _
  · rw [List.concat_eq_append] at *
    have hlen : (i ++ [p]).length = i.length + 1 := by simp
    have hp := hs p (by simp)
    clear hs
    have hm : i.length + 1 ≤ 1099511627776 := by omega
    obtain ⟨g, cap, rfl, hg1, hg2, hg3⟩ := own_form h (by omega)
    have hget := fun j u (hj : j < 3) (hu : (Pt.enc p)[j]? = some u) => (h.cellAt (i.length * 3 + j) (by omega)).trans
      (flats_get Pt.enc_len (d := pt0) (i ++ [p]) i.length j u (by omega) (by rw [nth_append_len pt0 i [] p]; exact hu))
    have q0 : w.cell? ⟨g, i.length * 3, none⟩ = _ := hget 0 _ (by omega) rfl
    have q1 := hget 1 _ (by omega) rfl
    have q2 := hget 2 _ (by omega) rfl
    have qf := h.frozenAt (i.length * 3 + 2)
    clear hget hl
    rw [hlen] at h hg3 hob hob0
    obtain ⟨m, hi0⟩ : ∃ m, i.length = m := ⟨_, rfl⟩
    rw [hi0] at h hg3 hm q0 q1 q2 qf hob hob0
    have HI := Lib.hid hi0
    clear hi0 hlen
    have e1 : ((m : Int) + 1 - 1).toNat = m := by omega
    by_cases hc : p.k = kd ∧ p.v + p.n = x
    · have hkb : (p.k == kd) = true := by simp [hc.1]
      have hvb : (p.v + p.n == x) = true := by simp [hc.2]
      have HC := Lib.hid hc
      clear hc
      go_enter Try.func31, Try.ntmps31
      go_wp2_with (go_at_call 32; refine hk.out.mono ?_; rintro e w' ⟨rfl, dn, rfl⟩)
      go_quiet (fail)
      go_wp2
      refine bodyPost_ret (results_none rfl _ _ _) rfl ?_
      rw [addP_hit i p kd x HC.out.1 HC.out.2]
      have hst := World.ownsRow.stored (w := w.drewN (dn + nq)) h (m * 3 + 2) (.int .i64 (p.n + 1))
      rw [← HI.out, flats_set, HI.out] at hst
      refine ⟨rfl, ⟨_, (hob.drewN (dn + nq)).far (p := ⟨g, m * 3 + 2, none⟩) (by simp; omega), ?_⟩, ?_⟩
      · rw [List.length_append, HI.out]; exact hst.1
      · exact (Below.refl ob w).grown (grown_drewN hst.2) (by omega) (fun k hk => by cases hk; omega)
    · have HC := Lib.hid hc
      have hor : (p.k == kd) = false ∨ ((p.k == kd) = true ∧ (p.v + p.n == x) = false) := by
        by_cases h1 : p.k = kd
        · exact .inr ⟨by simp [h1], by simp; intro h2; exact hc ⟨h1, h2⟩⟩
        · exact .inl (by simp [h1])
      clear hc
      rcases hor with hkb | ⟨hkb, hvb⟩
      all_goals
        go_enter Try.func31, Try.ntmps31
        go_wp2_with (go_at_call 32; refine hk.out.mono ?_; rintro e w' ⟨rfl, dn, rfl⟩)
        go_quiet (fail)
        go_wp2_with (at_builtin; go_loud (refine wpList_append_one elPart rfl _ _ rfl (ob + 1) (.slice (some ⟨g, 0, none⟩) (m + 1) cap) (m + 1) (i ++ [p]) ⟨kd, x, 1⟩ rfl h rfl (by omega) (by simp; omega) ?_); intro A' cap' w1 hown hg; have hg1 := grown_drewN hg; have ho1 := hob.grown hg1 (own_ne h (by omega)); have ho2 := ho1.cell; have ho3 := ho1.free)
        go_end0
        rw [addP_miss i p kd x HC.out]
        refine ⟨rfl, ⟨_, ho1.set_, ?_⟩, ?_⟩
        · rw [List.length_append, List.length_append, HI.out]; exact ownsRow_setCell_below hown (by simp) _
        · exact ((Below.refl ob w).grown hg1 (by omega) (fun k hk => by have := h.lt k hk; omega)).setCell (Nat.le_refl _) _
end Go.Proofs.Ytecnkeakmedgnaa
