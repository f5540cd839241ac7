/- replay.at: its iterator yields the writes at the places that are there; replay.within. Condition: the slices are within the reach. -/
import Derived.Test.YtlogabbnnbcokaaWDo3
import Derived.Test.YtlogabbnnbcokaaInts
namespace Go.Proofs.Ytlogabbnnbcokaa
open Go.RowKit Go.Shelf
attribute [local go_sem] Oper.semAt_some

def withinN (n most : Int) : Int := max 0 (min n most)
theorem within_any (w : World) (n m : Int) : Calls Try.prog 21 #[.int .i64 n, .int .i64 m] w fun e w' => e = .returned (.int .i64 (withinN n m)) ∧ w = w' := by
  have e : withinN n m = max 0 (min n m) := rfl
  have HE := Lib.hid e
  clear e
  go_enter Try.func21, Try.ntmps21
  go_wp2
  all_goals
    go_ret
    exact ⟨ret_int (by rw [HE.out]; omega), rfl⟩
/-- The places that are there. -/
def atF (n : Nat) (ps : List Int) : List Nat := ps.filterMap fun p => if 0 ≤ p ∧ p < (n : Int) then some p.toNat else none
theorem atF_snoc_in {n : Nat} {ps : List Int} {p : Nat} (h : p < n) : atF n (ps ++ [(p : Int)]) = atF n ps ++ [p] := by
  unfold atF
  rw [List.filterMap_append]
  simp [h]
theorem atF_snoc_out {n : Nat} {ps : List Int} {p : Int} (h : ¬ (0 ≤ p ∧ p < (n : Int))) : atF n (ps ++ [p]) = atF n ps := by
  unfold atF
  rw [List.filterMap_append]
  simp [h]
theorem atF_len (n : Nat) (ps : List Int) : (atF n ps).length ≤ ps.length := List.length_filterMap_le _ _
theorem atF_prefix (n : Nat) (ps : List Int) (k : Nat) : atF n (ps.take k) <+: atF n ps := by
  unfold atF
  conv => rhs; rw [← List.take_append_drop k ps]
  rw [List.filterMap_append]
  exact List.prefix_append _ _
set_option maxRecDepth 100000 in
set_option maxHeartbeats 4000000 in
theorem atIt_in (F : Fence) (n : Nat) (hf : F.fn 30) (hro : F.round = none) (hn : 1 ≤ n) (lp pb qb : Nat) (S : Nat → Prop) (A Ap : Option Addr) (c cp : Nat) (l : List Wr) (V : Nat → Option Addr × Nat) (ps : List Int) (J Jx : List Nat → World → Prop)
    (hY : ∀ pre x W, x < l.length → J pre W → pre.length < ps.length → YieldAt F (n - 1) Try.prog lp (encW l V x) W fun e W' =>
      (e = .returned (.bool true) ∧ J (pre ++ [x]) W' ∧ KpS S W W') ∨ (e = .returned (.bool false) ∧ Jx (pre ++ [x]) W'))
    (W : World) (_hS : ∀ b, S b → b < W.heap.size) (hnl : l.length ≤ 1099511627776) (hnp : ps.length ≤ 1099511627776) (hSq : S qb)
    (hqb : W.cell? ⟨qb, 0, none⟩ = some (.slice A l.length c)) (hpb : W.cell? ⟨pb, 0, none⟩ = some (.slice Ap ps.length cp)) (hrp : RowOf (Flat fun n : Int => [.int .i64 n]) 1 0 W S Ap ps) (hr : WrsIs W S A l V) (_hJ : AbidesFrom W.heap.size J) (h0 : J [] W) :
    CallsIn F n Try.prog 30 #[.func (.yield lp) #[] #[], .pointer (some ⟨pb, 0, none⟩), .pointer (some ⟨qb, 0, none⟩)] W fun e W' => (∃ v, e = .returned v) ∧
      ((∃ ys, ys = atF l.length ps ∧ J ys W') ∨ (∃ pre, pre <+: atF l.length ps ∧ Jx pre W')) := by
  have HY := Lib.hid hY
  clear hY
  generalize hl0 : l.length = nd at *
  have hl := Lib.hid hl0
  generalize hp0 : ps.length = np at *
  have hp := Lib.hid hp0
  clear hl0 hp0
  refine callsIn_of_wp Try.func30 rfl hf ?_ hro
  simp only [Try.ntmps30, List.size_toArray, List.length_cons, List.length_nil, Nat.reduceAdd, Nat.reduceSub, Array.replicate_succ, Array.replicate_zero, List.push_toArray, List.append_toArray, List.nil_append, List.cons_append]
  gi_wp2
  gi_loopw [8] (fun i wr => ∃ k : Nat, k ≤ np ∧ i = .int .i64 k ∧ J (atF nd (ps.take k)) wr ∧ Keep S W wr ∧ W.heap.size ≤ wr.heap.size) (fun i _ => np - (intOf i).toNat)
  case atStart => exact ⟨0, by omega, rfl, h0, Keep.refl, Nat.le_refl _⟩
  case round =>
    obtain ⟨k, hk, rfl, hJs, hK, hz⟩ := hrel
    by_cases hlt : k < np
    · obtain ⟨pbk, poff, rfl, hpbk, hpc⟩ := ints_cells (hrp.keep (flat_stable _) (fun _ h => h) hK) (by rw [hp.out]; omega)
      have q := hpc k (by rw [hp.out]; exact hlt)
      have HT := Lib.hid (take_nth 0 ps k (by rw [hp.out]; exact hlt))
      have hqc := (hK qb 0 hSq).trans hqb
      clear hpc
      generalize nth 0 ps k = p at *
      by_cases hin : 0 ≤ p ∧ p < (nd : Int)
      · obtain ⟨j, rfl⟩ := Int.eq_ofNat_of_zero_le hin.1
        have hj : j < nd := by omega
        have hj1 : (j : Int) < (nd : Int) := hin.2
        obtain ⟨b, off, rfl, hb, hc⟩ := hr.keep hK (by rw [hl.out]; omega)
        obtain ⟨c0, c1, hc', hr'⟩ := hc j (by rw [hl.out]; omega)
        have HA := Lib.hid (atF_snoc_in (ps := ps.take k) hj)
        have hlen : (atF nd (ps.take k)).length < np := by have h1 := atF_len nd (ps.take k); rw [List.length_take, hp.out] at h1; omega
        obtain ⟨fn, tmps, assign, body, hy, hR⟩ := HY.out (atF nd (ps.take k)) j wr hj hJs hlen
        dsimp only [encW, wrV] at hy
        have HPF := Lib.hid (atF_prefix nd ps (k + 1))
        clear hJs hc hr' hin hlen
        generalize (nth wr0 l j).bytes.length = bl at *
        generalize (nth wr0 l j).no = no at *
        gi_wp2
        refine hR.mono ?_
        rintro e W3 (⟨rfl, hJ3, hk3⟩ | ⟨rfl, hJx3⟩)
        · have hk31 := hk3.1
          have hk32 := hk3.2
          gi_wp2
          go_roundw
          case rel => exact ⟨k + 1, by omega, by go_num, by rw [HT.out, HA.out]; exact hJ3, hK.trans hk31, by omega⟩
          case measure => simp [intOf]; omega
        · gi_wp2
          refine bodyPost_ret (results_none rfl _ _ _) rfl ?_
          exact ⟨⟨_, rfl⟩, .inr ⟨_, by rw [← HA.out, ← HT.out]; exact HPF.out, hJx3⟩⟩
      · have HA := Lib.hid (atF_snoc_out (ps := ps.take k) hin)
        by_cases hp0 : 0 ≤ p
        · have hp1 : (nd : Int) ≤ p := by omega
          clear hin
          gi_wp2
          refine ⟨fun f hfz => (by cases hfz), ?_⟩
          gi_wp2
          go_roundw
          case rel => exact ⟨k + 1, by omega, by go_num, by rw [HT.out, HA.out]; exact hJs, hK, hz⟩
          case measure => simp [intOf]; omega
        · have hd0 : decide (0 ≤ p) = false := by simp; omega
          clear hin
          gi_wp2
          refine ⟨fun f hfz => (by cases hfz), ?_⟩
          gi_wp2
          go_roundw
          case rel => exact ⟨k + 1, by omega, by go_num, by rw [HT.out, HA.out]; exact hJs, hK, hz⟩
          case measure => simp [intOf]; omega
    · obtain rfl : k = np := by omega
      have hfin : Hid (ps.take k = ps) := List.take_of_length_le (by rw [hp.out]; omega)
      gi_wp2
      go_end0
      exact ⟨⟨_, rfl⟩, .inl ⟨_, by rw [hfin.out], hJs⟩⟩
/-- The iterator that replay.at hands back. -/
theorem at_stops (F : Fence) (n : Nat) (hf : F.fn 30) (hro : F.round = none) (hn : 1 ≤ n) (pb qb : Nat) (S : Nat → Prop) (A Ap : Option Addr) (c cp : Nat) (l : List Wr) (V : Nat → Option Addr × Nat) (ps : List Int) (w : World)
    (hS : ∀ b, S b → b < w.heap.size) (hnl : l.length ≤ 1099511627776) (hnp : ps.length ≤ 1099511627776) (hSq : S qb) (hpl : pb < w.heap.size)
    (hqb : w.cell? ⟨qb, 0, none⟩ = some (.slice A l.length c)) (hpb : w.cell? ⟨pb, 0, none⟩ = some (.slice Ap ps.length cp)) (hrp : RowOf (Flat fun n : Int => [.int .i64 n]) 1 0 w S Ap ps) (hr : WrsIs w S A l V) :
    SeqStopsK F n Try.prog 30 #[.pointer (some ⟨pb, 0, none⟩), .pointer (some ⟨qb, 0, none⟩)] (fun x : { k : Nat // k < l.length } => encW l V x.1) (KpS S) (fun xs => xs.map (·.1) = atF l.length ps) (fun pre => pre.map (·.1) <+: atF l.length ps) ps.length w := fun lp J Jx W hW hJ _ hY h0 => by
  have hWS : ∀ b, S b → b < W.heap.size := fun b hb => Nat.lt_of_lt_of_le (hS b hb) hW.size
  refine (atIt_in F n hf hro hn lp pb qb S A Ap c cp l V ps (fun pre W => ∃ pre' : List { k : Nat // k < l.length }, pre'.map (·.1) = pre ∧ J pre' W) (fun pre W => ∃ pre' : List { k : Nat // k < l.length }, pre'.map (·.1) = pre ∧ Jx pre' W) ?_ W hWS hnl hnp hSq
    ((hW.cell (p := ⟨qb, 0, none⟩) (hS qb hSq)).trans hqb) ((hW.cell (p := ⟨pb, 0, none⟩) hpl).trans hpb) (hrp.keep (flat_stable _) (fun _ h => h) (keep_below hW hS)) (hr.keep (keep_below hW hS)) ?_ ⟨[], rfl, h0⟩).mono ?_
  · rintro pre x W1 hx ⟨pre', rfl, hj⟩ hlen
    obtain ⟨fn, tmps, assign, body, hy, hR⟩ := hY pre' ⟨x, hx⟩ W1 hj (by simpa using hlen)
    refine ⟨fn, tmps, assign, body, hy, hR.mono ?_⟩
    rintro e W' (⟨rfl, h1, h2⟩ | ⟨rfl, h1⟩)
    · exact .inl ⟨rfl, ⟨_, by simp, h1⟩, h2⟩
    · exact .inr ⟨rfl, ⟨_, by simp, h1⟩⟩
  · rintro s W1 W2 row ⟨s', rfl, hs⟩ hg hr'
    exact ⟨s', rfl, hJ s' W1 W2 row hs hg hr'⟩
  · rintro e W' ⟨he, ⟨ys, hys, ys', rfl, hj⟩ | ⟨pre, hpre, pre', rfl, hj⟩⟩
    · exact ⟨he, .inl ⟨ys', hys, hj⟩⟩
    · exact ⟨he, .inr ⟨pre', hpre, hj⟩⟩
theorem at_fn (w : World) (A Ap : Option Addr) (n c np cp : Nat) : Calls Try.prog 25 #[.slice A n c, .slice Ap np cp] w fun e w' =>
    e = .returned (.func (.func 30) #[] #[.pointer (some ⟨w.heap.size + 1, 0, none⟩), .pointer (some ⟨w.heap.size, 0, none⟩)]) ∧ w' = (w.alloc (.cells #[.slice A n c] 23)).alloc (.cells #[.slice Ap np cp] 24) := by
  go_enter Try.func25, Try.ntmps25
  go_wp2
  go_ret
  exact ⟨by simp, rfl⟩
end Go.Proofs.Ytlogabbnnbcokaa
