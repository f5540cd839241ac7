/- The reference's Cut and Move (scantlingref52). Condition: the slices are within the reach. -/
import Derived.Test.YtecnkeakmedgnaaWRef52
namespace Go.Proofs.Ytecnkeakmedgnaa
open Go.RowKit Go.Shelf
attribute [local go_sem] Oper.semAt_some

def inV (f t : Int) (m : Mp) : Bool := decide (f ≤ m.v) && decide (m.v < t)
set_option maxRecDepth 100000 in
set_option maxHeartbeats 1600000 in
theorem rcut_any (w : World) (S : Nat → Prop) (va : Value) (a : List Mp) (f t : Int) (hS : ∀ b, S b → b < w.heap.size) (ha : IsMaps w S va a) (hal : a.length ≤ 2199023255552) :
    Calls Try.prog 12 #[va, .int .i64 f, .int .i64 t] w (ResIs (chk a) (cutR a f t) w) := by
  have HCK := Lib.hid (fun w' (hB : Below w.heap.size w w') => rchk w' S va a (by omega) (ha.keep rmp_stable (fun _ h => h) (keep_below hB hS)))
  have hk0 := Below.refl w.heap.size w
  by_cases h0 : chk a = 0
  · have e : cutR a f t = cutF a f t := by unfold cutR; rw [if_pos h0]
    obtain ⟨A, c, rfl, hc, hr⟩ := ha
    have HC := Lib.hid (fun hp => maps_cells hr hp)
    rw [h0, e]
    rw [h0] at HCK
    clear e h0 hr
    obtain ⟨R, hR⟩ : ∃ R : Nat → List Mp, R = fun k => (a.take k).filter (inV f t) := ⟨_, rfl⟩
    have HDO2 := Lib.hid (show cutF a f t = R a.length by rw [hR]; simp only [List.take_length]; rfl)
    have HFL2 := Lib.hid (show ∀ k, (R k).length ≤ k by rw [hR]; exact fun k => Nat.le_trans (List.length_filter_le _ _) (by rw [List.length_take]; omega))
    have HR0 := Lib.hid (show R 0 = [] by rw [hR]; rfl)
    have HRK := Lib.hid (show ∀ k, k < a.length → R (k + 1) = R k ++ (if inV f t (nth mp0 a k) = true then [nth mp0 a k] else []) by rw [hR]; exact filter_snoc mp0 (inV f t) a)
    clear hR
    obtain ⟨res, hres⟩ : ∃ r, r = cutF a f t := ⟨_, rfl⟩
    rw [← hres] at HDO2 ⊢
    clear hres
    generalize hnn : a.length = n at *
    go_enter Try.func12, Try.ntmps12
    go_wp2_with (go_at_call 26; refine (HCK.out _ hk0).mono ?_; rintro e w1 ⟨rfl, hB1⟩)
    go_loopw [8, 9] (fun o i wr => ∃ k : Nat, i = .int .i64 k ∧ k ≤ n ∧ wr.ownsRow w.heap.size 41 3 o (R k).length (flats Mp.enc (R k)) ∧ Below w.heap.size w wr) (fun _ i _ => n - (intOf i).toNat)
    case atStart => exact ⟨0, rfl, by omega, by rw [HR0.out]; exact World.ownsRow_nil _ _ _ _, hB1⟩
    case round =>
      obtain ⟨k, rfl, hk, hrow, hB⟩ := hrel
      have hz := hB.size
      obtain ⟨Ao, co, rfl, _⟩ := own_form0 hrow
      by_cases hlt : k < n
      · have hki : (k : Int) < (n : Int) := by omega
        obtain ⟨g, off, rfl, hbS, hcl⟩ := HC.out (by omega)
        have hb0 := hS g hbS
        obtain ⟨c0, c1, c2⟩ := hcl k (by omega)
        rw [← hB.cell (p := ⟨g, off + k * 3, none⟩) hb0] at c0
        rw [← hB.cell (p := ⟨g, off + k * 3 + 1, none⟩) hb0] at c1
        rw [← hB.cell (p := ⟨g, off + k * 3 + 2, none⟩) hb0] at c2
        have hrk := HRK.out k (by omega)
        have hfl := HFL2.out k
        have hbw : g < wr.heap.size := by omega
        clear hcl
        generalize nth mp0 a k = y at *
        by_cases h1 : y.v ≥ f
        · have d1 : decide (y.v ≥ f) = true := by simpa using h1
          by_cases h2 : y.v < t
          · have HRK1 := Lib.hid (show R (k + 1) = R k ++ [y] by rw [hrk, if_pos]; unfold inV; simp; omega)
            clear hrk
            generalize hrl : (R k).length = rl at *
            have HRL := Lib.hid hrl
            clear hrl
            have hrow' := hrow
            go_wp2_with (at_builtin; refine wpList_append_one elMp rfl _ _ rfl w.heap.size (.slice Ao rl co) rl (R k) y rfl hrow rfl (by omega) hz ?_; intro A6 cap6 w6 hown hg)
            go_roundw
            case rel => exact ⟨k + 1, by go_num, by omega, by rw [HRK1.out, List.length_append, HRL.out]; exact hown, hB.grown hg hz (fun i hi => (hrow'.lt i hi).1)⟩
            case measure => simp [intOf]; omega
          · have HRK1 := Lib.hid (show R (k + 1) = R k by rw [hrk, if_neg, List.append_nil]; unfold inV; simp; omega)
            clear hrk
            generalize hrl : (R k).length = rl at *
            have HRL := Lib.hid hrl
            clear hrl
            go_wp2_with fail
            go_roundw
            case rel => exact ⟨k + 1, by go_num, by omega, by rw [HRK1.out, HRL.out]; exact hrow, hB⟩
            case measure => simp [intOf]; omega
        · have d1 : decide (y.v ≥ f) = false := by simpa using h1
          have HRK1 := Lib.hid (show R (k + 1) = R k by rw [hrk, if_neg, List.append_nil]; unfold inV; simp; omega)
          clear hrk
          generalize hrl : (R k).length = rl at *
          have HRL := Lib.hid hrl
          clear hrl
          go_wp2_with fail
          go_roundw
          case rel => exact ⟨k + 1, by go_num, by omega, by rw [HRK1.out, HRL.out]; exact hrow, hB⟩
          case measure => simp [intOf]; omega
      · obtain rfl : k = n := by omega
        have HD := Lib.hid (show res = R k from HDO2.out)
        have HROW := Lib.hid hrow
        clear hrow
        go_wp2_with fail
        go_ret2
        rw [HD.out]
        exact ⟨Ao, _, co, rfl, rfl, HROW.out, hB⟩
  · have e : cutR a f t = [] := by unfold cutR; rw [if_neg h0]
    rw [e]
    have hne : (chk a != 0) = true := by simpa using h0
    clear e h0 ha
    generalize chk a = r at *
    go_enter Try.func12, Try.ntmps12
    go_wp2_with (first
      | (go_at_call 26; have _ := hk1; refine (HCK.out _ hk1).mono ?_; rintro e w2 ⟨rfl, hB2⟩)
      | (go_at_call 26; refine (HCK.out _ hk0).mono ?_; rintro e w1 ⟨rfl, hk1⟩))
    go_ret2
    exact resNil r (hk1.trans (hB2.mono hk1.size))
theorem moveL_snoc (l : List Mp) (b : Int) (k : Nat) (hk : k < l.length) : moveL (l.take (k + 1)) b = moveL (l.take k) b ++ [⟨(nth mp0 l k).v + b, (nth mp0 l k).b, (nth mp0 l k).t⟩] := by
  unfold moveL; rw [take_nth mp0 l k hk]; simp
set_option maxRecDepth 100000 in
set_option maxHeartbeats 1600000 in
theorem rmove_any (w : World) (S : Nat → Prop) (va : Value) (a : List Mp) (b : Int) (hS : ∀ b, S b → b < w.heap.size) (ha : IsMaps w S va a) (hal : a.length ≤ 2199023255552) (_hb : In64 b) :
    Calls Try.prog 14 #[va, .int .i64 b] w (ResIs (moveE a b) (moveR a b) w) := by
  have HCK := Lib.hid (fun w' (hB : Below w.heap.size w w') => rchk w' S va a (by omega) (ha.keep rmp_stable (fun _ h => h) (keep_below hB hS)))
  have hk0 := Below.refl w.heap.size w
  by_cases h0 : chk a = 0
  · have hrg : ∀ k, k < a.length → 0 ≤ (nth mp0 a k).v ∧ (nth mp0 a k).v ≤ 281474976710655 := fun k hk => chk_range h0 hk
    have e1 : moveE a b = if allMove a b = true then 0 else 2 := by unfold moveE; rw [if_pos h0]
    have e2 : moveR a b = if allMove a b = true then moveL a b else [] := by unfold moveR; rw [if_pos h0]
    have HRG := Lib.hid hrg
    have HE1 := Lib.hid e1
    have HE2 := Lib.hid e2
    obtain ⟨A, c, rfl, hc, hr⟩ := ha
    have HC := Lib.hid (fun hp => maps_cells hr hp)
    rw [h0] at HCK
    clear e1 e2 h0 hr hrg
    obtain ⟨re, hre⟩ : ∃ r, moveE a b = r := ⟨_, rfl⟩
    obtain ⟨rl, hrl⟩ : ∃ r, moveR a b = r := ⟨_, rfl⟩
    rw [hre, hrl]
    rw [hre] at HE1
    rw [hrl] at HE2
    clear hre hrl
    have HMS := Lib.hid (moveL_snoc a b)
    have HM0 := Lib.hid (show moveL (a.take 0) b = [] from rfl)
    have HML := Lib.hid (show ∀ k, k ≤ a.length → (moveL (a.take k) b).length = k from fun k hk => by unfold moveL; simp; omega)
    have HMD := Lib.hid (show moveL (a.take a.length) b = moveL a b by rw [List.take_length])
    generalize hnn : a.length = n at *
    have HN := Lib.hid hnn
    clear hnn
    go_enter Try.func14, Try.ntmps14
    go_wp2_with (go_at_call 26; refine (HCK.out _ hk0).mono ?_; rintro e w1 ⟨rfl, hB1⟩)
    go_loopw [6, 7] (fun o i wr => ∃ k : Nat, i = .int .i64 k ∧ k ≤ n ∧ Hid (∀ j, j < k → movesB (nth mp0 a j).v b = true) ∧ wr.ownsRow w.heap.size 41 3 o k (flats Mp.enc (moveL (a.take k) b)) ∧ Below w.heap.size w wr) (fun _ i _ => n - (intOf i).toNat)
    case atStart => exact ⟨0, rfl, by omega, Lib.hid fun j hj => by omega, by rw [HM0.out]; exact World.ownsRow_nil _ _ _ _, hB1⟩
    case round =>
      obtain ⟨k, rfl, hk, HLO, hrow, hB⟩ := hrel
      have hz := hB.size
      obtain ⟨Ao, co, rfl, _⟩ := own_form0 hrow
      by_cases hlt : k < n
      · have hki : (k : Int) < (n : Int) := by omega
        obtain ⟨g, off, rfl, hbS, hcl⟩ := HC.out (by omega)
        have hb0 := hS g hbS
        obtain ⟨c0, c1, c2⟩ := hcl k (by omega)
        rw [← hB.cell (p := ⟨g, off + k * 3, none⟩) hb0] at c0
        rw [← hB.cell (p := ⟨g, off + k * 3 + 1, none⟩) hb0] at c1
        rw [← hB.cell (p := ⟨g, off + k * 3 + 2, none⟩) hb0] at c2
        have hms := HMS.out k hlt
        obtain ⟨r1, r2⟩ := HRG.out k hlt
        have hbw : g < wr.heap.size := by omega
        clear hcl
        obtain ⟨y, hy⟩ : ∃ y, y = nth mp0 a k := ⟨_, rfl⟩
        have HY := Lib.hid hy
        rw [← hy] at c0 c1 c2 r1 r2 hms
        clear hy
        have HMS1 := Lib.hid hms
        clear hms
        have hw1 : IntKind.i64.wrap (281474976710655 - y.v) = 281474976710655 - y.v := IntWalk.i64_in _ (by omega)
        have hw2 : IntKind.i64.wrap (-y.v) = -y.v := IntWalk.i64_in _ (by omega)
        by_cases h1 : b > 281474976710655 - y.v
        · have d1 : decide (b > 281474976710655 - y.v) = true := by simpa using h1
          have hna : allMove a b = false := by
            cases hc : allMove a b with
            | false => rfl
            | true =>
              have := List.all_eq_true.1 hc (nth mp0 a k) (nth_mem mp0 a k (by rw [HN.out]; exact hlt))
              rw [← HY.out] at this
              unfold movesB at this
              simp at this
              omega
          have hr1 : re = 2 := by rw [HE1.out, hna]; rfl
          have hr2 : rl = [] := by rw [HE2.out, hna]; rfl
          have HR1 := Lib.hid hr1
          have HR2 := Lib.hid hr2
          clear hna hr1 hr2
          go_wp2_with fail
          go_ret2
          rw [HR1.out, HR2.out]
          exact resNil 2 (hB.alloc hz _)
        · have d1 : decide (b > 281474976710655 - y.v) = false := by simpa using h1
          by_cases h2 : b < -y.v
          · have d2 : decide (b < -y.v) = true := by simpa using h2
            have hna : allMove a b = false := by
              cases hc : allMove a b with
              | false => rfl
              | true =>
                have := List.all_eq_true.1 hc (nth mp0 a k) (nth_mem mp0 a k (by rw [HN.out]; exact hlt))
                rw [← HY.out] at this
                unfold movesB at this
                simp at this
                omega
            have hr1 : re = 2 := by rw [HE1.out, hna]; rfl
            have hr2 : rl = [] := by rw [HE2.out, hna]; rfl
            have HR1 := Lib.hid hr1
            have HR2 := Lib.hid hr2
            clear hna hr1 hr2
            go_wp2_with fail
            go_ret2
            rw [HR1.out, HR2.out]
            exact resNil 2 (hB.alloc hz _)
          · have d2 : decide (b < -y.v) = false := by simpa using h2
            have hq : movesB y.v b = true := by unfold movesB; simp; omega
            have HQ := Lib.hid hq
            clear hq
            have hs1 : 0 ≤ y.v + b := by omega
            have hs2 : y.v + b ≤ 281474976710655 := by omega
            have hB1' := hB.alloc hz (.cells #[.int .i64 (y.v + b), .int .i64 y.b, .int .i64 y.t] 41)
            have hrow2 := hrow.alloc (.cells #[.int .i64 (y.v + b), .int .i64 y.b, .int .i64 y.t] 41)
            go_wp2_with (at_builtin; go_loud (refine wpList_append_one elMp rfl _ _ rfl w.heap.size (.slice Ao k co) k (moveL (a.take k) b) ⟨y.v + b, y.b, y.t⟩ rfl hrow2 (by rw [World.size_alloc]; rfl) (by omega) hB1'.size ?_); intro A6 cap6 w6 hown hg)
            go_roundw
            case rel => exact ⟨k + 1, by go_num, by omega, Lib.hid fun j hj => (by rcases Nat.lt_or_ge j k with h | h; exact HLO.out j h; obtain rfl : j = k := (by omega); rw [← HY.out]; exact HQ.out), by rw [HMS1.out]; exact hown, hB1'.grown hg hB1'.size (fun i hi => (hrow.lt i hi).1)⟩
            case measure => simp [intOf]; omega
      · obtain rfl : k = n := by omega
        have hna : allMove a b = true := List.all_eq_true.2 fun m hm => by
          obtain ⟨j, hj, rfl⟩ := List.mem_iff_getElem.1 hm
          have := HLO.out j (by rw [← HN.out]; exact hj)
          rwa [nth_get mp0 a j hj] at this
        have hr1 : re = 0 := by rw [HE1.out, hna]; rfl
        have hr2 : rl = moveL (a.take k) b := by rw [HE2.out, hna, if_pos rfl, ← HMD.out]
        have HR1 := Lib.hid hr1
        have HR2 := Lib.hid hr2
        have HROW := Lib.hid hrow
        clear hna hr1 hr2 hrow
        go_wp2_with fail
        go_ret2
        rw [HR1.out, HR2.out]
        exact ⟨Ao, _, co, (HML.out k (Nat.le_refl _)).symm, rfl, HROW.out, hB⟩
  · have e1 : moveE a b = chk a := by unfold moveE; rw [if_neg h0]
    have e2 : moveR a b = [] := by unfold moveR; rw [if_neg h0]
    rw [e1, e2]
    have hne : (chk a != 0) = true := by simpa using h0
    clear e1 e2 h0 ha
    generalize chk a = r at *
    go_enter Try.func14, Try.ntmps14
    go_wp2_with (first
      | (go_at_call 26; have _ := hk1; refine (HCK.out _ hk1).mono ?_; rintro e w2 ⟨rfl, hB2⟩)
      | (go_at_call 26; refine (HCK.out _ hk0).mono ?_; rintro e w1 ⟨rfl, hk1⟩))
    go_ret2
    exact resNil r (hk1.trans (hB2.mono hk1.size))
end Go.Proofs.Ytecnkeakmedgnaa
