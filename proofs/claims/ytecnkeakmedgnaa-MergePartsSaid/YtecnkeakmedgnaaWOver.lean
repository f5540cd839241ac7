/- merge.Over, merge.Minus, merge.Cut. Condition: the slices are within the reach. -/
import Derived.Test.YtecnkeakmedgnaaWMCheck
import Derived.Test.YtecnkeakmedgnaaWSortM
import Derived.Test.YtecnkeakmedgnaaMergeP
import Derived.Test.YtecnkeakmedgnaaAppOpt
namespace Go.Proofs.Ytecnkeakmedgnaa
open Go.RowKit Go.Shelf
attribute [local go_sem] Oper.semAt_some

/-- Mappings in new memory, and an error. -/
def ResIs (r : Int) (l : List Mp) (w : World) (e : Ending) (w' : World) : Prop :=
  ∃ A n c, n = l.length ∧ e = .returned (.tuple #[.slice A n c, .int .i64 r]) ∧ w'.ownsRow w.heap.size 41 3 (.slice A n c) n (flats Mp.enc l) ∧ Below w.heap.size w w'
theorem resNil (r : Int) {w w' : World} (hB : Below w.heap.size w w') : ResIs r [] w (.returned (.tuple #[.slice none 0 0, .int .i64 r])) w' := ⟨none, 0, 0, rfl, rfl, World.ownsRow_nil _ _ _ _, hB⟩
theorem own_low {w : World} {base base' e size : Nat} {v : Value} {n : Nat} {xs : List Value} (h : w.ownsRow base e size v n xs) (hb : base' ≤ base) : w.ownsRow base' e size v n xs := by
  refine ⟨h.1, ?_⟩
  rcases h.2 with h2 | ⟨g, cap, cur, hv, hg, rest⟩
  · exact .inl h2
  · exact .inr ⟨g, cap, cur, hv, by omega, rest⟩
/-- check of two lists, as Over and Minus ask it. -/
theorem check2 (w : World) (S : Nat → Prop) (va vb : Value) (a b : List Mp) (hS : ∀ b, S b → b < w.heap.size) (ha : IsMaps w S va a) (hb : IsMaps w S vb b) (hal : a.length ≤ 140737488355328) (hbl : b.length ≤ 140737488355328) :
    Calls Try.prog 18 #[.slice (some ⟨w.heap.size, 0, none⟩) 2 2] (w.alloc (.cells #[va, vb] 22)) fun e w' => e = .returned (.int .i64 (chkAll [a, b])) ∧ Below w.heap.size w w' := by
  have hB : Below w.heap.size w (w.alloc (.cells #[va, vb] 22)) := (Below.refl _ _).alloc (Nat.le_refl _) _
  have hblk : (w.alloc (.cells #[va, vb] 22)).heap[w.heap.size]? = some (.cells #[va, vb] 22 (0, 0)) := heap_alloc_new w _
  refine (mcheck_any _ S w.heap.size 2 2 (fun k => if k = 0 then va else vb) [a, b] rfl (by omega) (by simp) (fun b hb => Nat.lt_of_lt_of_le (hS b hb) hB.size) (fun k hk => ?_) (fun k hk => ?_) (fun k hk => ?_)).mono fun e w' ⟨he, hB2⟩ => ⟨he, hB.trans (hB2.mono hB.size)⟩
  · match k, hk with
    | 0, _ => exact cell_of_row _ _ 0 _ _ _ hblk
    | 1, _ => exact cell_of_row _ _ 1 _ _ _ hblk
  · match k, hk with
    | 0, _ => exact ha.keep rmp_stable (fun _ h => h) (keep_below hB hS)
    | 1, _ => exact hb.keep rmp_stable (fun _ h => h) (keep_below hB hS)
  · match k, hk with
    | 0, _ => exact hal
    | 1, _ => exact hbl
theorem check1 (w : World) (S : Nat → Prop) (va : Value) (a : List Mp) (hS : ∀ b, S b → b < w.heap.size) (ha : IsMaps w S va a) (hal : a.length ≤ 140737488355328) :
    Calls Try.prog 18 #[.slice (some ⟨w.heap.size, 0, none⟩) 1 1] (w.alloc (.cells #[va] 22)) fun e w' => e = .returned (.int .i64 (chk a)) ∧ Below w.heap.size w w' := by
  have hB : Below w.heap.size w (w.alloc (.cells #[va] 22)) := (Below.refl _ _).alloc (Nat.le_refl _) _
  have hblk : (w.alloc (.cells #[va] 22)).heap[w.heap.size]? = some (.cells #[va] 22 (0, 0)) := heap_alloc_new w _
  have e1 : chkAll [a] = chk a := by simp only [chkAll]; split <;> omega
  rw [← e1]
  refine (mcheck_any _ S w.heap.size 1 1 (fun k => va) [a] rfl (by omega) (by simp) (fun b hb => Nat.lt_of_lt_of_le (hS b hb) hB.size) (fun k hk => ?_) (fun k hk => ?_) (fun k hk => ?_)).mono fun e w' ⟨he, hB2⟩ => ⟨he, hB.trans (hB2.mono hB.size)⟩
  · obtain rfl : k = 0 := by omega
    exact cell_of_row _ _ 0 _ _ _ hblk
  · obtain rfl : k = 0 := by omega
    exact ha.keep rmp_stable (fun _ h => h) (keep_below hB hS)
  · obtain rfl : k = 0 := by omega
    exact hal
theorem chkAll2 {a b : List Mp} (h : chkAll [a, b] = 0) : chk a = 0 ∧ chk b = 0 := by
  simp only [chkAll] at h
  by_cases h1 : chk a = 0
  · by_cases h2 : chk b = 0
    · exact ⟨h1, h2⟩
    · rw [if_neg (by simpa using h1), if_pos h2] at h; exact absurd h h2
  · rw [if_pos h1] at h; exact absurd h h1
def minusR (a b : List Mp) : List Mp := if chkAll [a, b] = 0 then minusF a b else []
def overR (a b : List Mp) : List Mp := if chkAll [a, b] = 0 then mergeO a b else []
def cutR (l : List Mp) (f t : Int) : List Mp := if chk l = 0 then cutF l f t else []
/-- without(a, has(b)). -/
theorem wohas (w : World) (S : Nat → Prop) (va : Value) (A : Option Addr) (c : Nat) (a b : List Mp) (hS : ∀ b, S b → b < w.heap.size) (ha : IsMaps w S va a) (hb : IsMaps w S (.slice A b.length c) b) (hal : a.length ≤ 2199023255552) (hbl : b.length ≤ 140737488355328) (hi : Inc b) :
    Calls Try.prog 19 #[va, .func (.func 34) #[] #[.pointer (some ⟨w.heap.size, 0, none⟩)]] (w.alloc (.cells #[.slice A b.length c] 22)) (WithoutIs (minusF a b) (w.alloc (.cells #[.slice A b.length c] 22))) := by
  have hB : Below w.heap.size w (w.alloc (.cells #[.slice A b.length c] 22)) := (Below.refl _ _).alloc (Nat.le_refl _) _
  exact without_any _ S va a 34 _ (fun m => hasV b m.v) (fun b hb => Nat.lt_of_lt_of_le (hS b hb) hB.size) (ha.keep rmp_stable (fun _ h => h) (keep_below hB hS)) hal enters_has (w.heap.size + 1) _ (Below.refl _ _) (by simp) (has_pred w S A c b hS hb hbl hi)
set_option maxHeartbeats 1600000 in
theorem minus_any (w : World) (S : Nat → Prop) (va vb : Value) (a b : List Mp) (hS : ∀ b, S b → b < w.heap.size) (ha : IsMaps w S va a) (hb : IsMaps w S vb b) (hal : a.length ≤ 2199023255552) (hbl : b.length ≤ 2199023255552) :
    Calls Try.prog 8 #[va, vb] w (ResIs (chkAll [a, b]) (minusR a b) w) := by
  have HCK := Lib.hid (check2 w S va vb a b hS ha hb (by omega) (by omega))
  obtain ⟨A, c, rfl, hc⟩ := hb
  have hb : IsMaps w S (.slice A b.length c) b := ⟨A, c, rfl, hc⟩
  obtain ⟨Aa, ca, rfl, hca⟩ := ha
  have ha : IsMaps w S (.slice Aa a.length ca) a := ⟨Aa, ca, rfl, hca⟩
  have HB0 := Lib.hid (Below.refl w.heap.size w)
  by_cases h0 : chkAll [a, b] = 0
  · have HWO := Lib.hid (fun w' (hB : Below w.heap.size w w') => wohas w' S _ A c a b (fun b hb => Nat.lt_of_lt_of_le (hS b hb) hB.size) (ha.keep rmp_stable (fun _ h => h) (keep_below hB hS)) (hb.keep rmp_stable (fun _ h => h) (keep_below hB hS)) hal (by omega) (chk_inc (chkAll2 h0).2))
    have e : minusR a b = minusF a b := by unfold minusR; rw [if_pos h0]
    unfold WithoutIs at HWO
    rw [h0, e]
    rw [h0] at HCK
    clear e h0 ha hb hc hca
    generalize minusF a b = r at *
    generalize b.length = n at *
    generalize a.length = na at *
    go_enter Try.func8, Try.ntmps8
    go_wp2_with (first
      | (go_at_call 18; refine HCK.out.mono ?_; rintro e w1 ⟨rfl, hB1⟩)
      | (go_at_call 20; refine (has_any _ _ _ _).mono ?_; rintro e w2 ⟨rfl, rfl⟩)
      | (go_at_call 19; refine (HWO.out _ hB1).mono ?_; rintro e w3 ⟨A3, c3, rfl, hown3, hB3⟩))
    go_ret2
    have hz1 := hB1.size
    have hB3' := ((hB1.alloc hz1 _).trans (hB3.mono (by simp; omega)))
    exact ⟨A3, _, c3, rfl, rfl, own_low hown3 (by simp; omega), hB3'⟩
  · have e : minusR a b = [] := by unfold minusR; rw [if_neg h0]
    rw [e]
    have hne : (chkAll [a, b] != 0) = true := by simpa using h0
    clear e h0 ha hb hc hca
    generalize chkAll [a, b] = r at *
    generalize b.length = n at *
    generalize a.length = na at *
    go_enter Try.func8, Try.ntmps8
    go_wp2_with (go_at_call 18; refine HCK.out.mono ?_; rintro e w1 ⟨rfl, hB1⟩)
    go_ret2
    exact resNil r hB1
set_option maxHeartbeats 1600000 in
theorem over_any (w : World) (S : Nat → Prop) (va vb : Value) (a b : List Mp) (hS : ∀ b, S b → b < w.heap.size) (ha : IsMaps w S va a) (hb : IsMaps w S vb b) (hal : a.length ≤ 1000000) (hbl : b.length ≤ 1000000) :
    Calls Try.prog 6 #[va, vb] w (ResIs (chkAll [a, b]) (overR a b) w) := by
  have HCK := Lib.hid (check2 w S va vb a b hS ha hb (by omega) (by omega))
  obtain ⟨A, c, rfl, hc⟩ := hb
  have hb : IsMaps w S (.slice A b.length c) b := ⟨A, c, rfl, hc⟩
  obtain ⟨Aa, ca, rfl, hca⟩ := ha
  have ha : IsMaps w S (.slice Aa a.length ca) a := ⟨Aa, ca, rfl, hca⟩
  have HB0 := Lib.hid (Below.refl w.heap.size w)
  by_cases h0 : chkAll [a, b] = 0
  · have HWO := Lib.hid (fun w' (hB : Below w.heap.size w w') => wohas w' S _ A c a b (fun b hb => Nat.lt_of_lt_of_le (hS b hb) hB.size) (ha.keep rmp_stable (fun _ h => h) (keep_below hB hS)) (hb.keep rmp_stable (fun _ h => h) (keep_below hB hS)) (by omega) (by omega) (chk_inc (chkAll2 h0).2))
    have e : overR a b = mergeO a b := by unfold overR; rw [if_pos h0]
    have hml : (minusF a b).length ≤ 1000000 := Nat.le_trans (List.length_filter_le _ _) hal
    have hsm : ∀ l, l.Perm (minusF a b ++ b) → (∀ i j, i < j → j < l.length → (nth mp0 l i).v ≤ (nth mp0 l j).v) → l = mergeO a b := fun l h1 h2 => sorted_merge (chk_inc (chkAll2 h0).1) (chk_inc (chkAll2 h0).2) h1 h2
    have HSM := Lib.hid hsm
    unfold WithoutIs at HWO
    rw [h0, e]
    rw [h0] at HCK
    have hcl : ∀ w', Below w.heap.size w w' → ∀ d, A = some d → ∀ j u, (flats Mp.enc b)[j]? = some u → w'.cell? (d.add j) = some u := fun w' hB d hd j u hj => by
      subst hd
      obtain ⟨xs, hx, hcl⟩ := some_cellsOf hc.2
      rw [flat_cells hx] at hcl
      have := hcl j u hj
      rw [hB.cell (World.block_lt_of_cell? _ _ this)]
      exact this
    have hno : A = none → b.length = 0 := fun h => by
      subst h
      rcases Nat.eq_zero_or_pos b.length with h0 | h0
      · exact h0
      · obtain ⟨_, _, e, _⟩ := hc.2 h0
        cases e
    have hfl : (flats Mp.enc b).length = b.length * 3 := flats_length Mp.enc_len b
    have hfo : ∀ u ∈ flats Mp.enc b, u.oneCell' = true := fun u hu => by
      obtain ⟨x, _, hx⟩ := List.mem_flatMap.1 hu
      exact Mp.enc_one x u hx
    have HCL := Lib.hid hcl
    have HNO := Lib.hid hno
    have HFL := Lib.hid hfl
    have HFO := Lib.hid hfo
    have HSO := Lib.hid (fun w' base A' n c' (hn : n = (minusF a b ++ b).length) (hown : w'.ownsRow base 41 3 (.slice A' n c') n (flats Mp.enc (minusF a b ++ b))) => sort_any w' base A' n c' (minusF a b ++ b) hown hn.symm (by rw [hn, List.length_append]; omega))
    have HFA := Lib.hid (flats_append (enc := Mp.enc) (minusF a b) b)
    have HLA := Lib.hid (@List.length_append _ (minusF a b) b)
    unfold SortIs at HSO
    clear e h0 ha hb hc hca hsm hcl hno hfl hfo
    generalize mergeO a b = r at *
    generalize flats Mp.enc b = fb at *
    generalize minusF a b ++ b = ab at *
    generalize minusF a b = mb at *
    generalize b.length = n at *
    generalize a.length = na at *
    generalize hml2 : mb.length = nm at *
    have HML := Lib.hid hml2
    clear hml2
    go_enter Try.func6, Try.ntmps6
    go_wp2_with (first
      | (go_at_call 18; refine HCK.out.mono ?_; rintro e w1 ⟨rfl, hB1⟩)
      | (go_at_call 20; refine (has_any _ _ _ _).mono ?_; rintro e w2 ⟨rfl, rfl⟩)
      | (go_at_call 19; refine (HWO.out _ hB1).mono ?_; rintro e w3 ⟨A3, c3, rfl, hown3, hB3⟩; have hz1 := hB1.size; have hB3' := ((hB1.alloc hz1 (.cells #[.slice A n c] 22)).trans (hB3.mono (Nat.le_trans hz1 (by simp)))); have hown3' := own_low (base' := w.heap.size) hown3 (Nat.le_trans hz1 (by simp)))
      | (at_builtin; refine wpList_append_opt Try.underlying22 info_map rfl (by omega) (by omega) rfl _ _ rfl w.heap.size _ nm _ rfl hown3' A n c fb rfl HFL.out (HCL.out _ hB3') HFO.out (by omega) hB3'.size HNO.out ?_; intro A4 c4 w4 hown4 hg4; have hB4 := hB3'.grown hg4 hB3'.size (fun k hk => (hown3'.lt k hk).1); rw [← HFA.out] at hown4)
      | (go_at_call 21; refine (HSO.out _ _ _ _ _ HLA.out.symm hown4).mono ?_; rintro e w5 ⟨l5, hp5, hs5, rfl, hown5, hB5⟩))
    go_ret2
    have hl5 := HSM.out l5 hp5 hs5
    subst hl5
    exact ⟨A4, _, c4, by rw [hp5.length_eq, HLA.out], rfl, hown5, hB4.trans hB5⟩
  · have e : overR a b = [] := by unfold overR; rw [if_neg h0]
    rw [e]
    have hne : (chkAll [a, b] != 0) = true := by simpa using h0
    clear e h0 ha hb hc hca
    generalize chkAll [a, b] = r at *
    generalize b.length = n at *
    generalize a.length = na at *
    go_enter Try.func6, Try.ntmps6
    go_wp2_with (go_at_call 18; refine HCK.out.mono ?_; rintro e w1 ⟨rfl, hB1⟩)
    go_ret2
    exact resNil r hB1
set_option maxHeartbeats 1600000 in
theorem cut_any (w : World) (S : Nat → Prop) (va : Value) (a : List Mp) (f t : Int) (hS : ∀ b, S b → b < w.heap.size) (ha : IsMaps w S va a) (hal : a.length ≤ 2199023255552) :
    Calls Try.prog 11 #[va, .int .i64 f, .int .i64 t] w (ResIs (chk a) (cutR a f t) w) := by
  obtain ⟨Aa, ca, rfl, hca⟩ := ha
  have ha : IsMaps w S (.slice Aa a.length ca) a := ⟨Aa, ca, rfl, hca⟩
  have hB0 : Below w.heap.size w ((w.alloc (.cells #[.int .i64 f] 3)).alloc (.cells #[.int .i64 t] 3)) := ((Below.refl _ _).alloc (Nat.le_refl _) _).alloc (by simp) _
  have o1 : One ((w.alloc (.cells #[.int .i64 f] 3)).alloc (.cells #[.int .i64 t] 3)) w.heap.size (.int .i64 f) 3 := (One.new w (.int .i64 f) 3).alloc _
  have o2 : One ((w.alloc (.cells #[.int .i64 f] 3)).alloc (.cells #[.int .i64 t] 3)) (w.heap.size + 1) (.int .i64 t) 3 := by
    have := One.new (w.alloc (.cells #[.int .i64 f] 3)) (.int .i64 t) 3
    simpa using this
  obtain ⟨w0, hw0⟩ : ∃ w0, w0 = (w.alloc (.cells #[.int .i64 f] 3)).alloc (.cells #[.int .i64 t] 3) := ⟨_, rfl⟩
  have hs0 : w0.heap.size = w.heap.size + 2 := by rw [hw0]; simp
  rw [← hw0] at hB0 o1 o2
  have HCK := Lib.hid (check1 w0 S _ a (fun b hb => Nat.lt_of_lt_of_le (hS b hb) hB0.size) (ha.keep rmp_stable (fun _ h => h) (keep_below hB0 hS)) (by omega))
  have hpr : ∀ w', Below w0.heap.size w0 w' → PredIs 25 #[.pointer (some ⟨w.heap.size, 0, none⟩), .pointer (some ⟨w.heap.size + 1, 0, none⟩)] (outV f t) w'.heap.size w' := fun w' hB => cut_pred w' w.heap.size f t (o1.below hB (by omega)).cell (o2.below hB (by omega)).cell (by have := hB.size; omega)
  have HB0 := Lib.hid hB0
  rw [hw0, World.size_alloc, World.size_alloc] at HCK
  by_cases h0 : chk a = 0
  · have hfe : (a.filter fun m => !outV f t m) = cutF a f t := by
      unfold cutF
      congr 1
      funext m
      unfold outV
      rw [Bool.not_or]
      congr 1
      · rw [Bool.eq_iff_iff]; simp
      · rw [Bool.eq_iff_iff]; simp
    have HWO := Lib.hid (fun w' (hB : Below w0.heap.size w0 w') => without_any w' S _ a 25 _ (outV f t) (fun b hb => Nat.lt_of_lt_of_le (hS b hb) (Nat.le_trans hB0.size hB.size)) (ha.keep rmp_stable (fun _ h => h) (keep_below (hB0.trans (hB.mono hB0.size)) hS)) hal enters_cut w'.heap.size w' (Below.refl _ _) (Nat.le_refl _) (hpr w' hB))
    rw [hfe] at HWO
    have e : cutR a f t = cutF a f t := by unfold cutR; rw [if_pos h0]
    unfold WithoutIs at HWO
    rw [h0, e]
    rw [h0] at HCK
    have HW0 := Lib.hid hw0
    clear e h0 ha hca hpr o1 o2 hB0 hfe hs0 hw0
    generalize cutF a f t = r at *
    generalize a.length = na at *
    go_enter Try.func11, Try.ntmps11
    go_wp2_with (first
      | (go_at_call 18; refine HCK.out.mono ?_; rintro e w1 ⟨rfl, hB1⟩; rw [← World.size_alloc w, ← World.size_alloc, ← HW0.out] at hB1)
      | (go_at_call 19; refine (HWO.out _ hB1).mono ?_; rintro e w3 ⟨A3, c3, rfl, hown3, hB3⟩))
    go_ret2
    have hz := HB0.out.size
    exact ⟨A3, _, c3, rfl, rfl, own_low hown3 (Nat.le_trans hz hB1.size), HB0.out.trans ((hB1.mono hz).trans (hB3.mono (Nat.le_trans hz hB1.size)))⟩
  · have e : cutR a f t = [] := by unfold cutR; rw [if_neg h0]
    rw [e]
    have hne : (chk a != 0) = true := by simpa using h0
    have HW0 := Lib.hid hw0
    clear e h0 ha hca hpr o1 o2 hB0 hs0 hw0
    generalize chk a = r at *
    generalize a.length = na at *
    go_enter Try.func11, Try.ntmps11
    go_wp2_with (go_at_call 18; refine HCK.out.mono ?_; rintro e w1 ⟨rfl, hB1⟩; rw [← World.size_alloc w, ← World.size_alloc, ← HW0.out] at hB1)
    go_ret2
    exact resNil r (HB0.out.trans (hB1.mono HB0.out.size))
end Go.Proofs.Ytecnkeakmedgnaa
