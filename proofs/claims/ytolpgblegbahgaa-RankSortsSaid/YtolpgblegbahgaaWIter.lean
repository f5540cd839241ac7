/- pool.maps goes over all mappings of a pool, device by device, for whatever loop body keeps the pool's memory. Condition: the body keeps it. -/
import Derived.Test.YtolpgblegbahgaaProg
import Derived.Test.YtolpgblegbahgaaInts
import Derived.Deep.QuietTactic
import Derived.BigQuiet
import Derived.Outline
import Derived.RangeFuncNested
import Derived.RangeFuncBound
import Derived.RangeFuncCalls
import Derived.RangeFuncLeaves
import Derived.Shelf.Abstract
import Derived.Shelf.RegionOpen
import Derived.OwnWalkIn
import Derived.TacticsInMore
import Derived.LoopNIn
import Derived.LoopIn
namespace Go.Proofs.Ytolpgblegbahgaa
open Go.RowKit Go.Shelf
attribute [local go_sem] Oper.semAt_some

/-- All mappings with their devices' places. -/
def pairsFrom : Nat → List Dev → List (Nat × Mp)
  | _, [] => []
  | i, d :: r => d.maps.map (fun m => (i, m)) ++ pairsFrom (i + 1) r
def pairs (l : List Dev) : List (Nat × Mp) := pairsFrom 0 l
theorem pairsFrom_append : ∀ (a b : List Dev) (i : Nat), pairsFrom i (a ++ b) = pairsFrom i a ++ pairsFrom (i + a.length) b := by
  intro a
  induction a with
  | nil => intro b i; simp [pairsFrom]
  | cons d a ih => intro b i; simp only [List.cons_append, pairsFrom, ih, List.length_cons, List.append_assoc]; rw [show i + 1 + a.length = i + (a.length + 1) from by omega]
/-- What has come when k devices are through, and j mappings of device k. -/
def upto (l : List Dev) (k j : Nat) : List (Nat × Mp) := pairs (l.take k) ++ ((nth dev0 l k).maps.take j).map fun m => (k, m)
theorem upto_zero (l : List Dev) (k : Nat) : upto l k 0 = pairs (l.take k) := by simp [upto]
theorem upto_succ {l : List Dev} {k j : Nat} (hj : j < (nth dev0 l k).maps.length) : upto l k (j + 1) = upto l k j ++ [(k, nth mp0 (nth dev0 l k).maps j)] := by
  unfold upto
  rw [take_nth mp0 _ j hj, List.map_append, ← List.append_assoc]; rfl
theorem upto_full {l : List Dev} {k : Nat} (hk : k < l.length) : upto l k (nth dev0 l k).maps.length = pairs (l.take (k + 1)) := by
  unfold upto pairs
  rw [List.take_of_length_le (Nat.le_refl _), take_nth dev0 l k hk, pairsFrom_append]
  simp [pairsFrom, List.length_take, Nat.min_eq_left (Nat.le_of_lt hk)]
theorem pairs_split {l : List Dev} {k : Nat} (hk : k < l.length) : pairs l = pairs (l.take k) ++ ((nth dev0 l k).maps.map (fun m => (k, m)) ++ pairsFrom (k + 1) (l.drop (k + 1))) := by
  unfold pairs
  have : l = l.take k ++ (nth dev0 l k :: l.drop (k + 1)) := by rw [← drop_nth dev0 l k hk, List.take_append_drop]
  conv => lhs; rw [this]
  rw [pairsFrom_append]
  simp [pairsFrom, List.length_take, Nat.min_eq_left (Nat.le_of_lt hk)]
theorem upto_next {l : List Dev} {k : Nat} (hk : k < l.length) : upto l k (nth dev0 l k).maps.length = upto l (k + 1) 0 := by rw [upto_full hk, upto_zero]
theorem upto_prefix {l : List Dev} {k j : Nat} (hk : k < l.length) : upto l k j <+: pairs l := by
  rw [pairs_split hk]
  unfold upto
  refine (List.prefix_append_right_inj _).2 ?_
  refine List.IsPrefix.trans ?_ (List.prefix_append _ _)
  rw [List.map_take]
  exact List.take_prefix _ _
theorem upto_lt {l : List Dev} {k j : Nat} (hk : k < l.length) (hj : j < (nth dev0 l k).maps.length) : (upto l k j).length < (pairs l).length := by
  have h := (upto_prefix (j := j + 1) hk).length_le
  rw [upto_succ hj] at h
  simp at h
  omega

/-- What a round keeps: the cells of S; and no block goes. -/
def KpM (S : Nat → Prop) (w w' : World) : Prop := Keep S w w' ∧ w.heap.size ≤ w'.heap.size
def encP (x : Nat × Mp) : Array Value := #[.int .i64 x.1, .agg #[.int .i64 x.2.v, .int .i64 x.2.b, .int .i64 x.2.t]]

set_option maxRecDepth 100000 in
set_option maxHeartbeats 2000000 in
theorem mapsIt_in (F : Fence) (n : Nat) (hf : F.fn 42) (hro : F.round = none) (hn : 1 ≤ n) (l pb : Nat) (S : Nat → Prop) (A : Option Addr) (c : Nat) (ds : List Dev) (P : Nat × Mp → Prop) (hP : ∀ x ∈ pairs ds, P x) (J Jx : List (Nat × Mp) → World → Prop)
    (hY : ∀ pre x W, P x → J pre W → pre.length < (pairs ds).length → YieldAt F (n - 1) Try.prog l (encP x) W fun e W' =>
      (e = .returned (.bool true) ∧ J (pre ++ [x]) W' ∧ KpM S W W') ∨ (e = .returned (.bool false) ∧ Jx (pre ++ [x]) W'))
    (W : World) (hS : ∀ b, S b → b < W.heap.size) (hnd : ds.length ≤ 1099511627776) (hnm : ∀ k, k < ds.length → (nth dev0 ds k).maps.length ≤ 140737488355328)
    (hpb : W.cell? ⟨pb, 4, none⟩ = some (.slice A ds.length c)) (hr : DevRow W S A ds) (hJ : AbidesFrom W.heap.size J) (h0 : J [] W) :
    CallsIn F n Try.prog 42 #[.func (.yield l) #[] #[], .pointer (some ⟨pb, 0, none⟩)] W fun e W' => (∃ v, e = .returned v) ∧
      ((∃ ys, ys = pairs ds ∧ J ys W') ∨ (∃ pre, pre <+: pairs ds ∧ Jx pre W')) := by
  have hJa : ∀ s V o, J s V → J s (V.alloc o) := fun s V o h => hJ s V _ none h (World.grownBy_alloc _ _ _) (fun r e => by cases e)
  have HJA := Lib.hid hJa
  have HY := Lib.hid hY
  have HP := Lib.hid hP
  clear hJa hY hP
  generalize hl0 : ds.length = nd at *
  have hl := Lib.hid hl0
  have HNM := Lib.hid hnm
  clear hl0 hnm
  refine callsIn_of_wp Try.func42 rfl hf ?_ hro
  simp only [Try.ntmps42, List.size_toArray, List.length_cons, List.length_nil, Nat.reduceAdd, Nat.reduceSub, Array.replicate_succ, Array.replicate_zero, List.push_toArray, List.append_toArray, List.nil_append, List.cons_append]
  gi_wp2
  gi_loopw [10] (fun i wr => ∃ k : Nat, k ≤ nd ∧ i = .int .i64 k ∧ J (pairs (ds.take k)) wr ∧ Keep S W wr ∧ W.heap.size ≤ wr.heap.size) (fun i _ => nd - (intOf i).toNat)
  case atStart => exact ⟨0, by omega, rfl, h0, Keep.refl, Nat.le_refl _⟩
  case round =>
    obtain ⟨k, hk, rfl, hJs, hK, hz⟩ := hrel
    by_cases hlt : k < nd
    · obtain ⟨b, off, rfl, hb, hc⟩ := devs_cells (hr.keep rdev_stable (fun _ h => h) hK) (by rw [hl.out]; omega)
      obtain ⟨c0, c1, c2, c3, A', c', c4, hc', hr'⟩ := hc k (by rw [hl.out]; omega)
      have hbs : b < wr.heap.size := by have := hS b hb; omega
      have hkl : k < ds.length := by rw [hl.out]; omega
      have hml := HNM.out k hlt
      clear hc
      have hJ1 : J (upto ds k 0) (wr.alloc (.cells #[.int .i64 (nth dev0 ds k).id, .int .i64 (nth dev0 ds k).tx, .int .i64 (nth dev0 ds k).made, .int .i64 (nth dev0 ds k).snapped, .slice A' (nth dev0 ds k).maps.length c'] 50)) := by
        rw [upto_zero]; exact HJA.out _ _ _ hJs
      have hK1 : Keep S W (wr.alloc (.cells #[.int .i64 (nth dev0 ds k).id, .int .i64 (nth dev0 ds k).tx, .int .i64 (nth dev0 ds k).made, .int .i64 (nth dev0 ds k).snapped, .slice A' (nth dev0 ds k).maps.length c'] 50)) :=
        hK.trans (keep_alloc (fun b hb => by have := hS b hb; omega) _)
      have HJ1 := Lib.hid hJ1
      have HUF := Lib.hid (upto_full hkl)
      have hrW : MapRow W S A' (nth dev0 ds k).maps := hr'.keep rmp_stable (fun _ h => h) (fun b o hb => (hK b o hb).symm)
      clear hJ1 hr' hJs
      gi_wp2
      gi_loopw [18] (fun i w2 => ∃ j : Nat, j ≤ (nth dev0 ds k).maps.length ∧ i = .int .i64 j ∧ J (upto ds k j) w2 ∧ Keep S W w2 ∧ W.heap.size ≤ w2.heap.size) (fun i _ => (nth dev0 ds k).maps.length - (intOf i).toNat)
      case atStart => exact ⟨0, by omega, rfl, HJ1.out, hK1, by simp; omega⟩
      case round =>
        obtain ⟨j, hj, rfl, hJ2, hK2, hz2⟩ := hrel
        by_cases hjl : j < (nth dev0 ds k).maps.length
        · obtain ⟨mb, mo, rfl, hmb, hmc⟩ := maps_cells (hrW.keep rmp_stable (fun _ h => h) hK2) (by omega)
          obtain ⟨m0, m1, m2⟩ := hmc j hjl
          have hmbs := hS mb hmb
          have HUS := Lib.hid (upto_succ hjl)
          have hul := upto_lt hkl hjl
          have HUP := Lib.hid (upto_prefix (j := j + 1) hkl)
          have HPX := Lib.hid (HP.out (k, nth mp0 (nth dev0 ds k).maps j) (HUP.out.subset (by rw [HUS.out]; simp)))
          clear hmc
          generalize nth mp0 (nth dev0 ds k).maps j = m at *
          have hKm : Keep S W (wr.alloc (.cells #[.int .i64 m.v, .int .i64 m.b, .int .i64 m.t] 63)) := hK2.trans (keep_alloc (fun b hb => by have := hS b hb; omega) _)
          obtain ⟨fn, tmps, assign, body, hy, hR⟩ := HY.out (upto ds k j) (k, m) (wr.alloc (.cells #[.int .i64 m.v, .int .i64 m.b, .int .i64 m.t] 63)) HPX.out (HJA.out _ _ _ hJ2) hul
          dsimp only [encP] at hy
          clear hJ2 hul
          gi_wp2
          refine hR.mono ?_
          rintro e W3 (⟨rfl, hJ3, hk3⟩ | ⟨rfl, hJx3⟩)
          · have hk31 := hk3.1
            have hk32 := hk3.2
            simp at hk32
            gi_wp2
            go_roundw
            case rel => exact ⟨j + 1, by omega, by go_num, by rw [HUS.out]; exact hJ3, hKm.trans hk31, by omega⟩
            case measure => simp [intOf]; omega
          · gi_wp2
            refine bodyPost_ret (results_none rfl _ _ _) rfl ?_
            exact ⟨⟨_, rfl⟩, .inr ⟨_, by rw [← HUS.out]; exact HUP.out, hJx3⟩⟩
        · have hje : j = (nth dev0 ds k).maps.length := by omega
          have hJ3 : Hid (J (pairs (ds.take (k + 1))) wr) := by rw [hje, HUF.out] at hJ2; exact hJ2
          clear hJ2 hje
          gi_wp2
          go_roundw
          case rel => exact ⟨k + 1, by omega, by go_num, hJ3.out, hK2, hz2⟩
          case measure => simp [intOf]; omega
    · have hfin : ds.take k = ds := List.take_of_length_le (by rw [hl.out]; omega)
      rw [hfin] at hJs
      clear hfin
      gi_wp2
      go_end0
      exact ⟨⟨_, rfl⟩, .inl ⟨_, rfl, hJs⟩⟩

theorem enc_of {P : Nat × Mp → Prop} (x : { x : Nat × Mp // P x }) : (encP x.1).size = 2 := rfl
/-- The iterator that pool.maps hands back: all mappings, in order, or a prefix; for whatever body keeps S. -/
theorem maps_stops (F : Fence) (n : Nat) (hf : F.fn 42) (hro : F.round = none) (hn : 1 ≤ n) (pb : Nat) (S : Nat → Prop) (A : Option Addr) (c : Nat) (ds : List Dev) (P : Nat × Mp → Prop) (hP : ∀ x ∈ pairs ds, P x) (w : World)
    (hS : ∀ b, S b → b < w.heap.size) (hnd : ds.length ≤ 1099511627776) (hnm : ∀ k, k < ds.length → (nth dev0 ds k).maps.length ≤ 140737488355328) (hpl : pb < w.heap.size)
    (hpb : w.cell? ⟨pb, 4, none⟩ = some (.slice A ds.length c)) (hr : DevRow w S A ds) :
    SeqStopsK F n Try.prog 42 #[.pointer (some ⟨pb, 0, none⟩)] (fun x : { x : Nat × Mp // P x } => encP x.1) (KpM S) (fun xs => xs.map (·.1) = pairs ds) (fun pre => pre.map (·.1) <+: pairs ds) (pairs ds).length w := fun l J Jx W hW hJ _ hY h0 => by
  have hWS : ∀ b, S b → b < W.heap.size := fun b hb => Nat.lt_of_lt_of_le (hS b hb) hW.size
  refine (mapsIt_in F n hf hro hn l pb S A c ds P hP (fun pre W => ∃ pre' : List { x : Nat × Mp // P x }, pre'.map (·.1) = pre ∧ J pre' W) (fun pre W => ∃ pre' : List { x : Nat × Mp // P x }, pre'.map (·.1) = pre ∧ Jx pre' W) ?_ W hWS hnd hnm
    ((hW.cell (p := ⟨pb, 4, none⟩) hpl).trans hpb) (hr.keep rdev_stable (fun _ h => h) (keep_below hW hS)) ?_ ⟨[], rfl, h0⟩).mono ?_
  · rintro pre x W1 hx ⟨pre', rfl, hj⟩ hlen
    obtain ⟨fn, tmps, assign, body, hy, hR⟩ := hY pre' ⟨x, hx⟩ W1 hj (by simpa using hlen)
    refine ⟨fn, tmps, assign, body, hy, hR.mono ?_⟩
    rintro e W' (⟨rfl, h1, h2⟩ | ⟨rfl, h1⟩)
    · exact .inl ⟨rfl, ⟨_, by simp, h1⟩, h2⟩
    · exact .inr ⟨rfl, ⟨_, by simp, h1⟩⟩
  · rintro s W1 W2 row ⟨s', rfl, hs⟩ hg hr'
    exact ⟨s', rfl, hJ s' W1 W2 row hs hg hr'⟩
  · rintro e W' ⟨he, ⟨ys, hys, ys', rfl, hj⟩ | ⟨pre, hpre, pre', rfl, hj⟩⟩
    · exact ⟨he, .inl ⟨ys', hys, hj⟩⟩
    · exact ⟨he, .inr ⟨pre', hpre, hj⟩⟩
theorem kpM_t {S : Nat → Prop} {A B C : World} (h : KpM S A B) (k : KpM S B C) : KpM S A C := ⟨h.1.trans k.1, Nat.le_trans h.2 k.2⟩
theorem kpM_b {S : Nat → Prop} {w : World} (hS : ∀ b, S b → b < w.heap.size) (W : World) (l : Nat) (o' : Obj) (hl : w.heap.size ≤ l) : KpM S W (W.putObj l o') :=
  ⟨fun b i hb => by
    have hg := grownBy_putObj' W l o'
    by_cases hbW : b < W.heap.size
    · exact World.cell?_of_block (a := ⟨b, i, none⟩) (hg.block b hbW (fun e => by have := hS b hb; cases e; omega))
    · have := hg.size
      have h1 := hS b hb
      have e1 : W.heap[b]? = none := Array.getElem?_eq_none (by omega)
      have e2 : (W.putObj l o').heap[b]? = none := by
        refine Array.getElem?_eq_none ?_
        have : (W.putObj l o').heap.size = W.heap.size := by simp [World.putObj]
        omega
      simp [World.cell?, e1, e2], (grownBy_putObj' W l o').size⟩
theorem maps_fn (w : World) (p : Pool) (A : Option Addr) (n c : Nat) : Calls Try.prog 36 #[.agg #[.int .i64 p.tx, .int .i64 p.time, .int .i64 p.unit, .int .i64 p.data, .slice A n c]] w fun e w' =>
    e = .returned (.func (.func 42) #[] #[.pointer (some ⟨w.heap.size, 0, none⟩)]) ∧ w' = w.alloc (.cells #[.int .i64 p.tx, .int .i64 p.time, .int .i64 p.unit, .int .i64 p.data, .slice A n c] 31) := by
  go_enter Try.func36, Try.ntmps36
  go_wp2
  go_ret
  exact ⟨rfl, rfl⟩
end Go.Proofs.Ytolpgblegbahgaa
