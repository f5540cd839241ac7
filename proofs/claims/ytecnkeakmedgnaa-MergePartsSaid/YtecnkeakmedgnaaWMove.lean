/- merge.moves, merge.Move. Condition: the slices are within the reach. -/
import Derived.Test.YtecnkeakmedgnaaWOver
namespace Go.Proofs.Ytecnkeakmedgnaa
open Go.RowKit Go.Shelf
attribute [local go_sem] Oper.semAt_some

theorem moves_any (w : World) (v b : Int) (hv : 0 ≤ v ∧ v ≤ 281474976710655) (hb : In64 b) : Calls Try.prog 28 #[.int .i64 v, .int .i64 b] w fun e w' => e = .returned (.bool (movesB v b)) ∧ w = w' := by
  obtain ⟨h1, h2⟩ := hv
  unfold In64 at hb
  by_cases h3 : b < 0
  · by_cases h4 : b ≥ -281474976710655
    · have hd : decide (b ≥ -281474976710655) = true := by simpa using h4
      by_cases h5 : v + b ≥ 0
      · have e : movesB v b = true := by unfold movesB; simp; omega
        rw [e]
        go_enter Try.func28, Try.ntmps28
        go_wp2_with fail
        go_ret
        exact ⟨by simp, rfl⟩
      · have e : movesB v b = false := by unfold movesB; simp; omega
        rw [e]
        go_enter Try.func28, Try.ntmps28
        go_wp2_with fail
        go_ret
        exact ⟨by simp, rfl⟩
    · have hd : decide (b ≥ -281474976710655) = false := by simpa using h4
      have e : movesB v b = false := by unfold movesB; simp; omega
      rw [e]
      go_enter Try.func28, Try.ntmps28
      go_wp2_with fail
      go_ret
      exact ⟨rfl, rfl⟩
  · by_cases h4 : b ≤ 281474976710655
    · have hd : decide (b ≤ 281474976710655) = true := by simpa using h4
      by_cases h5 : v + b ≤ 281474976710655
      · have e : movesB v b = true := by unfold movesB; simp; omega
        rw [e]
        go_enter Try.func28, Try.ntmps28
        go_wp2_with fail
        go_ret
        exact ⟨by simp, rfl⟩
      · have e : movesB v b = false := by unfold movesB; simp; omega
        rw [e]
        go_enter Try.func28, Try.ntmps28
        go_wp2_with fail
        go_ret
        exact ⟨by simp, rfl⟩
    · have hd : decide (b ≤ 281474976710655) = false := by simpa using h4
      have e : movesB v b = false := by unfold movesB; simp; omega
      rw [e]
      go_enter Try.func28, Try.ntmps28
      go_wp2_with fail
      go_ret
      exact ⟨rfl, rfl⟩
def allMove (l : List Mp) (b : Int) : Bool := l.all fun m => movesB m.v b
def moveE (l : List Mp) (b : Int) : Int := if chk l = 0 then (if allMove l b = true then 0 else 2) else chk l
def moveR (l : List Mp) (b : Int) : List Mp := if chk l = 0 then (if allMove l b = true then moveL l b else []) else []
/-- The first k are moved. -/
def movedL (l : List Mp) (b : Int) (k : Nat) : List Mp := moveL (l.take k) b ++ l.drop k
theorem movedL_len (l : List Mp) (b : Int) (k : Nat) (hk : k ≤ l.length) : (movedL l b k).length = l.length := by unfold movedL moveL; simp; omega
theorem movedL_at (l : List Mp) (b : Int) (k : Nat) (hk : k < l.length) : nth mp0 (movedL l b k) k = nth mp0 l k := by
  unfold movedL
  rw [drop_nth mp0 l k hk]
  have e : (moveL (l.take k) b).length = k := by unfold moveL; simp; omega
  have := nth_append_len mp0 (moveL (l.take k) b) (l.drop (k + 1)) (nth mp0 l k)
  rwa [e] at this
theorem movedL_set (l : List Mp) (b : Int) (k : Nat) (hk : k < l.length) : (movedL l b k).set k ⟨(nth mp0 l k).v + b, (nth mp0 l k).b, (nth mp0 l k).t⟩ = movedL l b (k + 1) := by
  unfold movedL
  have e : (moveL (l.take k) b).length = k := by unfold moveL; simp; omega
  rw [drop_nth mp0 l k hk, List.set_append_right _ _ (by omega), e, Nat.sub_self, List.set_cons_zero, take_nth mp0 l k hk]
  unfold moveL
  simp
theorem movedL_done (l : List Mp) (b : Int) : movedL l b l.length = moveL l b := by unfold movedL; simp
theorem movedL_zero (l : List Mp) (b : Int) : movedL l b 0 = l := by unfold movedL moveL; simp
theorem set_same {l : List Value} {j : Nat} {u : Value} (h : l[j]? = some u) : l.set j u = l := by
  apply List.ext_getElem?
  intro i
  by_cases hi : j = i
  · subst hi
    rw [List.getElem?_set_self (List.getElem?_eq_some_iff.1 h).1, h]
  · rw [List.getElem?_set_ne hi]
/-- The first cell of an element of three stored into a row. -/
theorem own_setV {w : World} {base e g n cap k : Nat} {l : List Mp} {x : Int} (h : w.ownsRow base e 3 (.slice (some ⟨g, 0, none⟩) n cap) n (flats Mp.enc l)) (hk : k < n) (hn : l.length = n) :
    (w.setCell ⟨g, k * 3, none⟩ (.int .i64 x)).ownsRow base e 3 (.slice (some ⟨g, 0, none⟩) n cap) n (flats Mp.enc (l.set k ⟨x, (nth mp0 l k).b, (nth mp0 l k).t⟩)) := by
  subst hn
  rw [← flats_set3 _ hk]
  have h1 := (h.stored (k * 3) (.int .i64 x)).1
  have e1 := flats_get (d := mp0) Mp.enc_len l k 1 _ hk rfl
  have e2 := flats_get (d := mp0) Mp.enc_len l k 2 _ hk rfl
  rw [set_same (j := k * 3 + 1), set_same (j := k * 3 + 2)]
  · exact h1
  · rw [List.getElem?_set_ne (by omega)]; exact e2
  · rw [List.getElem?_set_ne (by omega)]; exact e1
set_option maxRecDepth 100000 in
set_option maxHeartbeats 1600000 in
theorem move_any (w : World) (S : Nat → Prop) (va : Value) (a : List Mp) (b : Int) (hS : ∀ b, S b → b < w.heap.size) (ha : IsMaps w S va a) (hal : a.length ≤ 2199023255552) (hb : 0 < a.length → In64 b) :
    Calls Try.prog 13 #[va, .int .i64 b] w (ResIs (moveE a b) (moveR a b) w) := by
  obtain ⟨Aa, ca, rfl, hca⟩ := ha
  have ha : IsMaps w S (.slice Aa a.length ca) a := ⟨Aa, ca, rfl, hca⟩
  have HCK := Lib.hid (check1 w S _ a hS ha (by omega))
  by_cases h0 : chk a = 0
  · have hcl : ∀ w', Below w.heap.size w w' → Calls Try.prog 27 #[.slice Aa a.length ca] w' fun e w'' => ∃ A n c, n = a.length ∧ e = .returned (.slice A n c) ∧ w''.ownsRow w'.heap.size 41 3 (.slice A n c) n (flats Mp.enc a) ∧ Below w'.heap.size w' w'' := fun w' hB => (cloneMaps w' S _ a (fun b hb => Nat.lt_of_lt_of_le (hS b hb) hB.size) (ha.keep rmp_stable (fun _ h => h) (keep_below hB hS)) hal).mono fun e w' ⟨v', he, _, _, hB, xs, hown, hc⟩ => by
      obtain ⟨A, c, rfl, _⟩ := own_form0 hown
      rw [flat_cells hc] at hown
      exact ⟨A, _, c, rfl, he, hown, hB⟩
    have hmv : ∀ k, k < a.length → ∀ w', Calls Try.prog 28 #[.int .i64 (nth mp0 a k).v, .int .i64 b] w' fun e w'' => e = .returned (.bool (movesB (nth mp0 a k).v b)) ∧ w' = w'' := fun k hk w' => moves_any w' _ b (chk_range h0 hk) (hb (by omega))
    have hrg : ∀ k, k < a.length → 0 ≤ (nth mp0 a k).v ∧ (nth mp0 a k).v ≤ 281474976710655 := fun k hk => chk_range h0 hk
    have e1 : moveE a b = if allMove a b = true then 0 else 2 := by unfold moveE; rw [if_pos h0]
    have e2 : moveR a b = if allMove a b = true then moveL a b else [] := by unfold moveR; rw [if_pos h0]
    have HCL := Lib.hid hcl
    have HMV := Lib.hid hmv
    have HRG := Lib.hid hrg
    have HE1 := Lib.hid e1
    have HE2 := Lib.hid e2
    rw [h0] at HCK
    clear ha hca hcl hmv hrg e1 e2 h0
    obtain ⟨re, hre⟩ : ∃ r, moveE a b = r := ⟨_, rfl⟩
    obtain ⟨rl, hrl⟩ : ∃ r, moveR a b = r := ⟨_, rfl⟩
    rw [hre, hrl]
    rw [hre] at HE1
    rw [hrl] at HE2
    clear hre hrl
    generalize hnn : a.length = n at *
    have HN := Lib.hid hnn
    clear hnn
    go_enter Try.func13, Try.ntmps13
    go_wp2_with (first
      | (go_at_call 18; refine HCK.out.mono ?_; rintro e w1 ⟨rfl, hB1⟩)
      | (go_at_call 27; refine (HCL.out _ hB1).mono ?_; rintro e w2 ⟨A2, n2, c2, rfl, rfl, hown2, hB2⟩))
    have hz1 := hB1.size
    have hown2' := own_low (base' := w.heap.size) hown2 hz1
    have hB2' := hB1.trans (hB2.mono hz1)
    go_loopw [19] (fun i wr => ∃ k : Nat, i = .int .i64 k ∧ k ≤ n2 ∧ Hid (∀ j, j < k → movesB (nth mp0 a j).v b = true) ∧ wr.ownsRow w.heap.size 41 3 (.slice A2 n2 c2) n2 (flats Mp.enc (movedL a b k)) ∧ Below w.heap.size w wr) (fun i _ => n2 - (intOf i).toNat)
    case atStart => exact ⟨0, rfl, by omega, Lib.hid fun j hj => by omega, by rw [movedL_zero]; exact hown2', hB2'⟩
    case round =>
      obtain ⟨k, rfl, hk, HLO, hrow, hB⟩ := hrel
      have hz := hB.size
      by_cases hlt : k < n2
      · have hki : (k : Int) < (n2 : Int) := by omega
        obtain ⟨g, cap, hv, hg1, hg2, _⟩ := own_form hrow (by omega)
        injection hv with e1 e2 e3
        subst e1 e3
        have hlm : (movedL a b k).length = n2 := by rw [movedL_len a b k (by rw [HN.out]; omega)]; exact HN.out
        obtain ⟨c0, _, _⟩ := own3 hrow hlt hlm
        have f0 := hrow.frozenAt (k * 3)
        have hset := own_setV (x := (nth mp0 a k).v + b) hrow hlt hlm
        rw [movedL_at a b k (by rw [HN.out]; exact hlt)] at c0 hset
        rw [movedL_set a b k (by rw [HN.out]; exact hlt)] at hset
        have hmk := fun w' => HMV.out k hlt w'
        obtain ⟨r1, r2⟩ := HRG.out k hlt
        have HSET := Lib.hid hset
        clear hset hrow hlm
        obtain ⟨y, hy⟩ : ∃ y, y = nth mp0 a k := ⟨_, rfl⟩
        have HY := Lib.hid hy
        rw [← hy] at c0 hmk r1 r2 HSET
        clear hy
        cases hq : movesB y.v b with
        | true =>
          have hq2 : -y.v ≤ b ∧ b ≤ 281474976710655 - y.v := by unfold movesB at hq; simpa using hq
          rw [hq] at hmk
          have HMK := Lib.hid hmk
          have HQ := Lib.hid hq
          have hs1 : 0 ≤ y.v + b := by omega
          have hs2 : y.v + b ≤ 281474976710655 := by omega
          clear hmk hq hq2
          go_wp2_with (go_at_call 28; refine (HMK.out _).mono ?_; rintro e w5 ⟨rfl, rfl⟩)
          go_roundw
          case rel => exact ⟨k + 1, by go_num, by omega, Lib.hid fun j hj => (by rcases Nat.lt_or_ge j k with h | h; exact HLO.out j h; obtain rfl : j = k := (by omega); rw [← HY.out]; exact HQ.out), HSET.out, hB.setCell hg1 _⟩
          case measure => simp [intOf]; omega
        | false =>
          rw [hq] at hmk
          have HMK := Lib.hid hmk
          have hna : allMove a b = false := by
            cases hc : allMove a b with
            | false => rfl
            | true =>
              have := List.all_eq_true.1 hc (nth mp0 a k) (nth_mem mp0 a k (by rw [HN.out]; exact hlt))
              rw [← HY.out, hq] at this
              cases this
          have hr1 : re = 2 := by rw [HE1.out, hna]; rfl
          have hr2 : rl = [] := by rw [HE2.out, hna]; rfl
          have HR1 := Lib.hid hr1
          have HR2 := Lib.hid hr2
          clear hmk hq hna hr1 hr2
          go_wp2_with (go_at_call 28; refine (HMK.out _).mono ?_; rintro e w5 ⟨rfl, rfl⟩)
          go_ret2
          rw [HR1.out, HR2.out]
          exact resNil 2 hB
      · obtain rfl : k = n2 := by omega
        have hna : allMove a b = true := List.all_eq_true.2 fun m hm => by
          obtain ⟨j, hj, rfl⟩ := List.mem_iff_getElem.1 hm
          have := HLO.out j (by rw [← HN.out]; exact hj)
          rwa [nth_get mp0 a j hj] at this
        have hr1 : re = 0 := by rw [HE1.out, hna]; rfl
        have hr2 : rl = movedL a b k := by rw [HE2.out, hna, if_pos rfl, ← movedL_done a b, HN.out]
        have HR1 := Lib.hid hr1
        have HR2 := Lib.hid hr2
        have HLM := Lib.hid (show (movedL a b k).length = k by rw [movedL_len a b k (by rw [HN.out]; omega)]; exact HN.out)
        have HROW := Lib.hid hrow
        clear hna hr1 hr2 hrow
        go_wp2_with fail
        go_ret2
        rw [HR1.out, HR2.out]
        exact ⟨A2, _, c2, HLM.out.symm, rfl, HROW.out, hB⟩
  · have e1 : moveE a b = chk a := by unfold moveE; rw [if_neg h0]
    have e2 : moveR a b = [] := by unfold moveR; rw [if_neg h0]
    rw [e1, e2]
    have hne : (chk a != 0) = true := by simpa using h0
    clear e1 e2 h0 ha hca
    generalize chk a = r at *
    generalize a.length = na at *
    go_enter Try.func13, Try.ntmps13
    go_wp2_with (go_at_call 18; refine HCK.out.mono ?_; rintro e w1 ⟨rfl, hB1⟩)
    go_ret2
    exact resNil r hB1
end Go.Proofs.Ytecnkeakmedgnaa
