/- The reference's Minus, Cut and Move (scantlingref52). Condition: the slices are within the reach. -/
import Derived.Test.YtecnkeakmedgnaaWMove
import Derived.Deep.RegionHeld3
import Derived.IntWalk
namespace Go.Proofs.Ytecnkeakmedgnaa
open Go.RowKit Go.Shelf
attribute [local go_sem] Oper.semAt_some

theorem elMp : Elem Try.prog 22 41 3 24 Mp.enc := ⟨Try.underlying22, ⟨_, info_map, rfl⟩, by omega, by omega, Mp.enc_len, Mp.enc_one⟩
theorem rchk (w : World) (S : Nat → Prop) (v : Value) (l : List Mp) (hn : l.length ≤ 140737488355328) (h : IsMaps w S v l) :
    Calls Try.prog 26 #[v] w fun e w' => e = .returned (.int .i64 (chk l)) ∧ Below w.heap.size w w' := (refChk w S v l hn h).mono fun _ _ ⟨he, m, hm⟩ => ⟨he, by rw [hm]; exact below_drewN (Below.refl _ _) _⟩
set_option maxHeartbeats 800000 in
theorem rbad_any (w : World) (S : Nat → Prop) (va vb : Value) (a b : List Mp) (hS : ∀ b, S b → b < w.heap.size) (ha : IsMaps w S va a) (hb : IsMaps w S vb b) (hal : a.length ≤ 140737488355328) (hbl : b.length ≤ 140737488355328) :
    Calls Try.prog 23 #[va, vb] w fun e w' => e = .returned (.int .i64 (chkAll [a, b])) ∧ Below w.heap.size w w' := by
  have HA := Lib.hid (fun w' (hB : Below w.heap.size w w') => rchk w' S va a hal (ha.keep rmp_stable (fun _ h => h) (keep_below hB hS)))
  have HB := Lib.hid (fun w' (hB : Below w.heap.size w w') => rchk w' S vb b hbl (hb.keep rmp_stable (fun _ h => h) (keep_below hB hS)))
  have hk0 := Below.refl w.heap.size w
  clear ha hb
  by_cases h1 : chk a = 0
  · have e : chkAll [a, b] = chk b := by
      simp only [chkAll]
      rw [if_neg (by simpa using h1)]
      split <;> omega
    rw [e]
    rw [h1] at HA
    clear h1 e
    generalize chk b = r at *
    go_enter Try.func23, Try.ntmps23
    go_wp2_with (first
      | (go_at_call 26; have _ := hk1; refine (HB.out _ hk1).mono ?_; rintro e w2 ⟨rfl, hB2⟩)
      | (go_at_call 26; refine (HA.out _ hk0).mono ?_; rintro e w1 ⟨rfl, hk1⟩))
    go_ret
    exact ⟨rfl, hk1.trans (hB2.mono hk1.size)⟩
  · have e : chkAll [a, b] = chk a := by simp only [chkAll]; rw [if_pos h1]
    rw [e]
    have hne : (chk a != 0) = true := by simpa using h1
    clear e h1
    generalize chk a = r at *
    go_enter Try.func23, Try.ntmps23
    go_wp2_with (first
      | (go_at_call 26; have _ := hk1; refine (HA.out _ hk1).mono ?_; rintro e w2 ⟨rfl, hB2⟩)
      | (go_at_call 26; refine (HA.out _ hk0).mono ?_; rintro e w1 ⟨rfl, hk1⟩))
    go_ret
    exact ⟨rfl, hk1.trans (hB2.mono hk1.size)⟩
set_option maxHeartbeats 800000 in
theorem rhas_any (w : World) (S : Nat → Prop) (v : Value) (l : List Mp) (x : Int) (h : IsMaps w S v l) (hn : l.length ≤ 140737488355328) :
    Calls Try.prog 24 #[v, .int .i64 x] w fun e w' => e = .returned (.bool (hasV l x)) ∧ w = w' := by
  obtain ⟨A, c, rfl, hc, hr⟩ := h
  have HC := Lib.hid (fun hp => maps_cells hr hp)
  clear hr
  generalize hnn : l.length = n at *
  have HN := Lib.hid hnn
  clear hnn
  go_enter Try.func24, Try.ntmps24
  go_wp2_with fail
  go_loop [5] (fun i => ∃ k : Nat, i = .int .i64 k ∧ k ≤ n ∧ Hid (∀ j, j < k → (nth mp0 l j).v ≠ x)) (fun i => n - (intOf i).toNat)
  case atStart => exact ⟨0, rfl, by omega, Lib.hid fun j hj => by omega⟩
  case round =>
    obtain ⟨k, rfl, hk, HLO⟩ := hrel
    by_cases hlt : k < n
    · obtain ⟨b, off, rfl, hbS, hcl⟩ := HC.out (by omega)
      obtain ⟨c0, _, _⟩ := hcl k (by omega)
      have hki : (k : Int) < (n : Int) := by omega
      clear hcl
      by_cases hx : (nth mp0 l k).v = x
      · have HX := Lib.hid (show hasV l x = true from hasV_iff.2 ⟨k, by rw [HN.out]; exact hlt, hx⟩)
        have hbx : ((nth mp0 l k).v == x) = true := by simpa using hx
        clear hx
        go_wp2_with fail
        go_ret
        exact ⟨by rw [HX.out]; rfl, rfl⟩
      · have HX := Lib.hid hx
        have hbx : ((nth mp0 l k).v == x) = false := by simpa using hx
        clear hx
        go_wp2_with fail
        go_round
        case rel => exact ⟨k + 1, by go_num, by omega, Lib.hid fun j hj => (by rcases Nat.lt_or_ge j k with h | h; exact HLO.out j h; obtain rfl : j = k := (by omega); exact HX.out)⟩
        case measure => simp [intOf]; omega
    · obtain rfl : k = n := by omega
      have hx : hasV l x = false := by
        rw [← Bool.not_eq_true, hasV_iff]
        rintro ⟨j, hj, he⟩
        exact HLO.out j (by rw [← HN.out]; exact hj) he
      have HX := Lib.hid hx
      clear hx
      go_wp2_with fail
      go_ret
      exact ⟨by rw [HX.out]; rfl, rfl⟩
theorem filter_snoc {α : Type} (d : α) (p : α → Bool) (l : List α) (k : Nat) (hk : k < l.length) : (l.take (k + 1)).filter p = (l.take k).filter p ++ (if p (nth d l k) = true then [nth d l k] else []) := by
  rw [take_nth d l k hk, List.filter_append]
  congr 1
  by_cases h : p (nth d l k) = true <;> simp [h]
set_option maxRecDepth 100000 in
set_option maxHeartbeats 1600000 in
theorem rminus_any (w : World) (S : Nat → Prop) (va vb : Value) (a b : List Mp) (hS : ∀ b, S b → b < w.heap.size) (ha : IsMaps w S va a) (hb : IsMaps w S vb b) (hal : a.length ≤ 2199023255552) (hbl : b.length ≤ 2199023255552) :
    Calls Try.prog 9 #[va, vb] w (ResIs (chkAll [a, b]) (minusR a b) w) := by
  have HCK := Lib.hid (rbad_any w S va vb a b hS ha hb (by omega) (by omega))
  by_cases h0 : chkAll [a, b] = 0
  · have e : minusR a b = minusF a b := by unfold minusR; rw [if_pos h0]
    have HHA := Lib.hid (fun w' (hB : Below w.heap.size w w') x => rhas_any w' S vb b x (hb.keep rmp_stable (fun _ h => h) (keep_below hB hS)) (by omega))
    obtain ⟨A, c, rfl, hc, hr⟩ := ha
    have HC := Lib.hid (fun hp => maps_cells hr hp)
    rw [h0, e]
    rw [h0] at HCK
    have HFS := Lib.hid (filter_snoc mp0 (fun m => !hasV b m.v) a)
    have HDO := Lib.hid (show minusF a b = (a.take a.length).filter fun m => !hasV b m.v by unfold minusF; rw [List.take_length])
    have hfl : ∀ k, ((a.take k).filter fun m => !hasV b m.v).length ≤ k := fun k => Nat.le_trans (List.length_filter_le _ _) (by rw [List.length_take]; omega)
    have HFL := Lib.hid hfl
    clear e h0 hb hr hfl
    obtain ⟨R, hR⟩ : ∃ R : Nat → List Mp, R = fun k => (a.take k).filter fun m => !hasV b m.v := ⟨_, rfl⟩
    have HR := Lib.hid hR
    have HDO2 := Lib.hid (show minusF a b = R a.length by rw [HR.out]; exact HDO.out)
    have HFL2 := Lib.hid (show ∀ k, (R k).length ≤ k by rw [HR.out]; exact HFL.out)
    have HR0 := Lib.hid (show R 0 = [] by rw [HR.out]; rfl)
    have HRK := Lib.hid (show ∀ k, k < a.length → R (k + 1) = R k ++ (if (!hasV b (nth mp0 a k).v) = true then [nth mp0 a k] else []) by rw [HR.out]; exact HFS.out)
    clear hR HR HDO HFL HFS
    obtain ⟨res, hres⟩ : ∃ r, r = minusF a b := ⟨_, rfl⟩
    rw [← hres] at HDO2 ⊢
    clear hres
    generalize hnn : a.length = n at *
    have HN := Lib.hid hnn
    clear hnn
    go_enter Try.func9, Try.ntmps9
    go_wp2_with (go_at_call 23; refine HCK.out.mono ?_; rintro e w1 ⟨rfl, hB1⟩)
    go_loopw [7, 8] (fun o i wr => ∃ k : Nat, i = .int .i64 k ∧ k ≤ n ∧ wr.ownsRow w.heap.size 41 3 o (R k).length (flats Mp.enc (R k)) ∧ Below w.heap.size w wr) (fun _ i _ => n - (intOf i).toNat)
    case atStart => exact ⟨0, rfl, by omega, by rw [HR0.out]; exact World.ownsRow_nil _ _ _ _, hB1⟩
    case round =>
      obtain ⟨k, rfl, hk, hrow, hB⟩ := hrel
      have hz := hB.size
      obtain ⟨Ao, co, rfl, _⟩ := own_form0 hrow
      by_cases hlt : k < n
      · have hki : (k : Int) < (n : Int) := by omega
        obtain ⟨g, off, rfl, hbS, hcl⟩ := HC.out (by omega)
        have hb0 := hS g hbS
        obtain ⟨c0, c1, c2⟩ := hcl k (by omega)
        rw [← hB.cell (p := ⟨g, off + k * 3, none⟩) hb0] at c0
        rw [← hB.cell (p := ⟨g, off + k * 3 + 1, none⟩) hb0] at c1
        rw [← hB.cell (p := ⟨g, off + k * 3 + 2, none⟩) hb0] at c2
        have hha := HHA.out wr hB (nth mp0 a k).v
        have hrk := HRK.out k (by omega)
        have hfl := HFL2.out k
        have hbw : g < wr.heap.size := by omega
        clear hcl
        generalize nth mp0 a k = y at *
        cases hq : hasV b y.v with
        | true =>
          rw [hq] at hha hrk
          have HRK1 := Lib.hid (show R (k + 1) = R k by rw [hrk]; simp)
          have HHA1 := Lib.hid hha
          clear hq hha hrk
          generalize hrl : (R k).length = rl at *
          go_wp2_with (go_at_call 24; refine HHA1.out.mono ?_; rintro e w5 ⟨rfl, rfl⟩)
          go_roundw
          case rel => exact ⟨k + 1, by go_num, by omega, by rw [HRK1.out, hrl]; exact hrow, hB⟩
          case measure => simp [intOf]; omega
        | false =>
          rw [hq] at hha hrk
          have HRK1 := Lib.hid (show R (k + 1) = R k ++ [y] by rw [hrk]; simp)
          have HHA1 := Lib.hid hha
          clear hq hha hrk
          generalize hrl : (R k).length = rl at *
          have HRL := Lib.hid hrl
          clear hrl
          have hrow' := hrow
          go_wp2_with (first
            | (go_at_call 24; refine HHA1.out.mono ?_; rintro e w5 ⟨rfl, rfl⟩)
            | (at_builtin; refine wpList_append_one elMp rfl _ _ rfl w.heap.size (.slice Ao rl co) rl (R k) y rfl hrow rfl (by omega) hz ?_; intro A6 cap6 w6 hown hg))
          go_roundw
          case rel => exact ⟨k + 1, by go_num, by omega, by rw [HRK1.out, List.length_append, HRL.out]; exact hown, hB.grown hg hz (fun i hi => (hrow'.lt i hi).1)⟩
          case measure => simp [intOf]; omega
      · obtain rfl : k = n := by omega
        have HD := Lib.hid (show res = R k from HDO2.out)
        have HROW := Lib.hid hrow
        clear hrow
        go_wp2_with fail
        go_ret2
        rw [HD.out]
        exact ⟨Ao, _, co, rfl, rfl, HROW.out, hB⟩
  · have e : minusR a b = [] := by unfold minusR; rw [if_neg h0]
    rw [e]
    have hne : (chkAll [a, b] != 0) = true := by simpa using h0
    clear e h0 ha hb
    generalize chkAll [a, b] = r at *
    go_enter Try.func9, Try.ntmps9
    go_wp2_with (go_at_call 23; refine HCK.out.mono ?_; rintro e w1 ⟨rfl, hB1⟩)
    go_ret2
    exact resNil r hB1
end Go.Proofs.Ytecnkeakmedgnaa
