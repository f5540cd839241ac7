/- scantlinglaw18.PoolAdds says yes of every pool. Condition: the numbers fit into Go's int, and no slice is longer than the reach. -/
import Derived.Test.YtlanffolgkpmkaaWLaw18
import Derived.Test.YtlanffolgkpmkaaWRef18
namespace Go.Proofs.Ytlanffolgkpmkaa
open Go.RowKit

def sumI : List Int → Int
  | [] => 0
  | x :: l => x + sumI l
theorem sumI_append (l r : List Int) : sumI (l ++ r) = sumI l + sumI r := by
  induction l with
  | nil => simp [sumI]
  | cons x l ih => simp only [List.cons_append, sumI, ih]; omega
theorem sumI_take (l : List Int) (k : Nat) (h : k < l.length) : sumI (l.take (k + 1)) = sumI (l.take k) + nth 0 l k := by
  rw [take_nth 0 l k h, sumI_append]; simp [sumI]
theorem sumI_set : ∀ (l : List Int) (k : Nat) (u : Int), k < l.length → sumI (l.set k u) = sumI l + u - nth 0 l k := by
  intro l
  induction l with
  | nil => intro k u h; simp at h
  | cons x l ih =>
    intro k u h
    cases k with
    | zero => simp [sumI, nth, List.getD]; omega
    | succ k =>
      have := ih k u (by simpa using h)
      simp only [List.set_cons_succ, sumI, this]
      have : nth 0 (x :: l) (k + 1) = nth 0 l k := by simp [nth, List.getD]
      omega
theorem sumI_bump (l : List Int) (b : Int) (h0 : 0 ≤ b) (h : b < l.length) : sumI (bump l b) = sumI l + 1 := by
  unfold bump
  rw [sumI_set l b.toNat _ (by omega)]
  omega
theorem sumI_bumps : ∀ (ms : List (Nat × Mp)) (l : List Int), (∀ x ∈ ms, 0 ≤ x.2.b ∧ x.2.b < l.length) → sumI (bumps l ms) = sumI l + ms.length := by
  intro ms
  induction ms with
  | nil => intro l _; simp [bumps]
  | cons x ms ih =>
    intro l h
    have hx := h x (by simp)
    have e : bumps l (x :: ms) = bumps (bump l x.2.b) ms := rfl
    rw [e, ih _ (fun y hy => by rw [bump_length]; exact h y (by simp [hy])), sumI_bump _ _ hx.1 hx.2]
    simp only [List.length_cons]
    omega
theorem sumI_zero (n : Nat) : sumI (List.replicate n 0) = 0 := by
  induction n with
  | zero => rfl
  | succ n ih => simp [List.replicate_succ, sumI, ih]
theorem refsOf_length (p : Pool) : (refsOf p).length = p.data.toNat := by unfold refsOf; rw [bumps_length, List.length_replicate]
theorem sumI_refsOf {p : Pool} (h : poolChk p = 0) (h0 : 0 ≤ p.data) : sumI (refsOf p) = p.count := by
  unfold refsOf
  rw [sumI_bumps _ _ (fun x hx => by rw [List.length_replicate]; have := pairs_b h x hx; omega), sumI_zero]
  have := pairsFrom_length p.devs 0
  unfold Pool.count pairs
  omega
theorem refsOf_nth (p : Pool) (hf : (pairs p.devs).length ≤ 16384) (k : Nat) : 0 ≤ nth 0 (refsOf p) k ∧ nth 0 (refsOf p) k ≤ 16384 := by
  have := counts_bound p.data.toNat (pairs p.devs) k
  unfold refsOf
  omega
theorem sumI_take_bound {l : List Int} (h : ∀ k, 0 ≤ nth 0 l k ∧ nth 0 l k ≤ 16384) : ∀ k, k ≤ l.length → 0 ≤ sumI (l.take k) ∧ sumI (l.take k) ≤ k * 16384 := by
  intro k
  induction k with
  | zero => intro _; simp [sumI]
  | succ k ih =>
    intro hk
    have h1 := ih (by omega)
    have h2 := h k
    rw [sumI_take l k (by omega)]
    omega

set_option maxRecDepth 100000 in
set_option maxHeartbeats 1600000 in
theorem poolAdds_walk (w : World) (v : Value) (p : Pool) (h : IsPool w (Lt w.heap.size) v p) (hok : p.ok) :
    Calls Try.prog 3 #[v] w fun e w' => e = .returned (.bool true) ∧ Below w.heap.size w w' := by
  have hIP : ∀ w', Below w.heap.size w w' → IsPool w' (Lt w.heap.size) v p := fun w' hB => h.below hB (fun _ h => h)
  obtain ⟨A, c, rfl, hc, hr⟩ := h
  have hpb : PBox (w.alloc (poolBox p A p.devs.length c)) w.heap.size p A p.devs.length c := PBox.new w p A _ c
  have hB1 : Below w.heap.size w (w.alloc (poolBox p A p.devs.length c)) := (Below.refl _ _).alloc (Nat.le_refl _) _
  have hfew := fun w' hB => few_any w' (Lt w.heap.size) _ p (fun _ h => Nat.lt_of_lt_of_le h (Below.size hB)) (hIP w' hB) hok
  have hrf := fun w' hB => refs_any w' (Lt w.heap.size) _ p (fun _ h => Nat.lt_of_lt_of_le h (Below.size hB)) (hIP w' hB) hok
  have hck := fun w' hB => check_any w' (Lt w.heap.size) _ p (fun _ h => Nat.lt_of_lt_of_le h (Below.size hB)) (hIP w' hB) hok
  have HFEW := Lib.hid hfew
  have HRF := Lib.hid hrf
  have HCK := Lib.hid hck
  have HIP := Lib.hid hIP
  clear hfew hrf hck hIP hr
  by_cases hf : fewB p = true
  · have hf1 : fewN p = 1 := by unfold fewN; rw [if_pos hf]
    rw [hf1] at HFEW
    simp only [fewB, decide_eq_true_eq] at hf
    obtain ⟨hfn, hfc⟩ := hf
    by_cases hz : poolChk p = 0
    · have hzb : (poolChk p != 0) = false := by simp [hz]
      have e : refsRes p = refsOf p := by unfold refsRes; rw [if_pos hz]
      rw [e] at HRF
      obtain ⟨q1, _⟩ := poolChk_parts hz
      have hdat : 0 ≤ p.data ∧ p.data ≤ 65536 := by simp [headB] at q1; exact inB_iff.1 q1.2.2
      have hpf := pairs_few hz
      have hsum := sumI_refsOf hz hdat.1
      have hcnt := fun w' hB => count_any w' (Lt w.heap.size) _ p (fun _ h => Nat.lt_of_lt_of_le h (Below.size hB)) (HIP.out w' hB) (by omega) (by omega)
      have HCNT := Lib.hid hcnt
      have hcn : 0 ≤ p.count ∧ p.count ≤ 2000 := ⟨countL_nonneg _, hfc⟩
      obtain ⟨dn, hdn⟩ := Int.eq_ofNat_of_zero_le hdat.1
      have hlen : (refsOf p).length = dn := by rw [refsOf_length, hdn, Int.toNat_natCast]
      have hdn2 : dn ≤ 65536 := by omega
      have hnb := refsOf_nth p hpf
      have htb := sumI_take_bound hnb
      generalize hL : refsOf p = l at *
      rw [hlen] at htb
      have HLEN := Lib.hid hlen
      have HDN := Lib.hid hdn
      have HNB := Lib.hid hnb
      have HTB := Lib.hid htb
      have HSUM := Lib.hid hsum
      have hdl : ((dn : Int) == p.data) = true := by simp [hdn]
      clear hz e hf1 q1 hsum hcnt hdn hlen hnb htb hL hpf hdat
      go_enter Try.func3, Try.ntmps3
      go_wp2_with (first
        | (go_at_call 6; refine (HFEW.out _ hB1).mono ?_; rintro e w2 ⟨rfl, hB2⟩; have hB2' := hB1.trans (hB2.mono hB1.size); have hp2 := hpb.below hB2 (by simp); obtain ⟨x0, x1, x2, x3, x4⟩ := hp2.cells; clear hB1 hpb)
        | (go_at_call 8; refine (HRF.out _ hB2').mono ?_; rintro e w3 ⟨v3, rfl, ⟨A3, c3, rfl, hc3, hr3⟩, hB3⟩; rw [HLEN.out] at hc3 ⊢; have hB3' := hB2'.trans (hB3.mono hB2'.size); have hp3 := hp2.below hB3 hp2.lt; clear x0 x1 x2 x3 x4; obtain ⟨x0, x1, x2, x3, x4⟩ := hp3.cells; clear hp2)
        | (go_at_call 9; refine (HCK.out _ hB3').mono ?_; rintro e w4 ⟨rfl, hB4⟩; have hB4' := hB3'.trans (hB4.mono hB3'.size); have hp4 := hp3.below hB4 hp3.lt; clear x0 x1 x2 x3 x4; obtain ⟨x0, x1, x2, x3, x4⟩ := hp4.cells; clear hp3))
      have hr4 := hr3.keep (flat_stable _) (fun _ h => h) (keep_below hB4 (fun b hb => hb.2))
      clear hr3
      go_loop [4, 5] (fun t i => ∃ k : Nat, k ≤ dn ∧ i = .int .i64 k ∧ t = .int .i64 (sumI (l.take k))) (fun _ i => dn - (intOf i).toNat)
      case atStart => exact ⟨0, by omega, rfl, rfl⟩
      case round =>
        obtain ⟨k, hk, rfl, rfl⟩ := hrel
        have hsb := HTB.out k hk
        by_cases hlt : k < dn
        · obtain ⟨b, off, rfl, hb, hcl⟩ := ints_cells hr4 (by rw [HLEN.out]; omega)
          have q := hcl k (by rw [HLEN.out]; exact hlt)
          have HT := Lib.hid (sumI_take l k (by rw [HLEN.out]; exact hlt))
          have hnk := HNB.out k
          clear hcl
          generalize nth 0 l k = y at *
          generalize sumI (l.take k) = z at *
          go_wp2_with fail
          go_round
          case rel => exact ⟨k + 1, by omega, by go_num, by rw [HT.out]⟩
          case measure => simp [intOf]; omega
        · have hfin : Hid (sumI (l.take k) = p.count) := by rw [List.take_of_length_le (by rw [HLEN.out]; omega)]; exact HSUM.out
          rw [hfin.out]
          clear hsb hfin
          go_wp2_with (first
            | (go_at_call 10; refine (HCNT.out _ hB4').mono ?_; rintro e w6 ⟨rfl, hB6⟩; have hB6' := hB4'.trans (hB6.mono hB4'.size); have hp6 := hp4.below hB6 hp4.lt; clear x0 x1 x2 x3 x4; obtain ⟨x0, x1, x2, x3, x4⟩ := hp6.cells)
            | (go_at_call 7; refine (lives18 _).mono ?_; rintro e w5 ⟨rfl, hB5⟩; have hB5' := hB6'.trans (hB5.mono hB6'.size)))
          go_ret
          exact ⟨rfl, hB5'⟩
    · have hzb : (poolChk p != 0) = true := by simp [hz]
      have e : refsRes p = [] := by unfold refsRes; rw [if_neg hz]
      rw [e] at HRF
      clear hz e hf1
      go_enter Try.func3, Try.ntmps3
      go_wp2_with (first
        | (go_at_call 6; refine (HFEW.out _ hB1).mono ?_; rintro e w2 ⟨rfl, hB2⟩; have hB2' := hB1.trans (hB2.mono hB1.size); have hp2 := hpb.below hB2 (by simp); obtain ⟨x0, x1, x2, x3, x4⟩ := hp2.cells; clear hB1 hpb)
        | (go_at_call 8; refine (HRF.out _ hB2').mono ?_; rintro e w3 ⟨v3, rfl, ⟨A3, c3, rfl, hc3, hr3⟩, hB3⟩; have hB3' := hB2'.trans (hB3.mono hB2'.size); have hp3 := hp2.below hB3 hp2.lt; clear x0 x1 x2 x3 x4; obtain ⟨x0, x1, x2, x3, x4⟩ := hp3.cells; clear hp2)
        | (go_at_call 9; refine (HCK.out _ hB3').mono ?_; rintro e w4 ⟨rfl, hB4⟩; have hB4' := hB3'.trans (hB4.mono hB3'.size))
        | (go_at_call 7; refine (lives18 _).mono ?_; rintro e w5 ⟨rfl, hB5⟩; have hB5' := hB4'.trans (hB5.mono hB4'.size)))
      go_ret
      exact ⟨rfl, hB5'⟩
  · have hf1 : fewN p = 0 := by unfold fewN; rw [if_neg hf]
    rw [hf1] at HFEW
    clear hf hf1
    go_enter Try.func3, Try.ntmps3
    go_wp2_with (first
      | (go_at_call 6; refine (HFEW.out _ hB1).mono ?_; rintro e w2 ⟨rfl, hB2⟩; have hB2' := hB1.trans (hB2.mono hB1.size))
      | (go_at_call 7; refine (lives18 _).mono ?_; rintro e w5 ⟨rfl, hB5⟩; have hB5' := hB2'.trans (hB5.mono hB2'.size)))
    go_ret
    exact ⟨rfl, hB5'⟩
end Go.Proofs.Ytlanffolgkpmkaa
