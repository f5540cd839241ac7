/- slices.Values at writes: its iterator yields each one, in order. Condition: the slice is within the reach. -/
import Derived.Test.YtlogabbnnbcokaaProg
import Derived.Test.YtlogabbnnbcokaaWrites
import Derived.RangeFuncNested
import Derived.RangeFuncBound
import Derived.RangeFuncBox
import Derived.RangeFuncCalls
import Derived.RangeFuncLeaves
import Derived.Shelf.RegionOpen
import Derived.OwnWalkIn
import Derived.TacticsInMore
import Derived.RegionIn
import Derived.LoopNIn
import Derived.LoopIn
namespace Go.Proofs.Ytlogabbnnbcokaa
open Go.RowKit Go.Shelf
attribute [local go_sem] Oper.semAt_some

/-- What a round keeps: the cells of S; and no block goes. -/
def KpS (S : Nat → Prop) (w w' : World) : Prop := Keep S w w' ∧ w.heap.size ≤ w'.heap.size
def encW (l : List Wr) (V : Nat → Option Addr × Nat) (k : Nat) : Array Value := #[wrV (nth wr0 l k) (V k)]
/-- Where a slice of writes lies. -/
def WrsIs (w : World) (S : Nat → Prop) (A : Option Addr) (l : List Wr) (V : Nat → Option Addr × Nat) : Prop := 0 < l.length → ∃ b off, A = some ⟨b, off, none⟩ ∧ S b ∧ WrAt w S b off l V
theorem WrsIs.keep {w w' : World} {S : Nat → Prop} {A : Option Addr} {l : List Wr} {V : Nat → Option Addr × Nat} (h : WrsIs w S A l V) (hk : Keep S w w') : WrsIs w' S A l V := fun hl => by
  obtain ⟨b, off, e, hb, h1⟩ := h hl
  exact ⟨b, off, e, hb, h1.keep hb hk⟩
set_option maxRecDepth 100000 in
set_option maxHeartbeats 2000000 in
theorem valuesIt_in (F : Fence) (n : Nat) (hf : F.fn 28) (hro : F.round = none) (hn : 1 ≤ n) (lp pb : Nat) (S : Nat → Prop) (A : Option Addr) (c : Nat) (l : List Wr) (V : Nat → Option Addr × Nat) (J Jx : List Nat → World → Prop)
    (hY : ∀ pre x W, x < l.length → J pre W → pre.length < l.length → YieldAt F (n - 1) Try.prog lp (encW l V x) W fun e W' =>
      (e = .returned (.bool true) ∧ J (pre ++ [x]) W' ∧ KpS S W W') ∨ (e = .returned (.bool false) ∧ Jx (pre ++ [x]) W'))
    (W : World) (hS : ∀ b, S b → b < W.heap.size) (hnl : l.length ≤ 1099511627776)
    (hpb : W.cell? ⟨pb, 0, none⟩ = some (.slice A l.length c)) (hr : WrsIs W S A l V) (hJ : AbidesFrom W.heap.size J) (h0 : J [] W) :
    CallsIn F n Try.prog 28 #[.func (.yield lp) #[] #[], .pointer (some ⟨pb, 0, none⟩)] W fun e W' => (∃ v, e = .returned v) ∧
      ((∃ ys, ys = List.range l.length ∧ J ys W') ∨ (∃ pre, pre <+: List.range l.length ∧ Jx pre W')) := by
  have hJa : ∀ s V o, J s V → J s (V.alloc o) := fun s V o h => hJ s V _ none h (World.grownBy_alloc _ _ _) (fun r e => by cases e)
  have HJA := Lib.hid hJa
  have HY := Lib.hid hY
  clear hJa hY
  generalize hl0 : l.length = nd at *
  have hl := Lib.hid hl0
  clear hl0
  refine callsIn_of_wp Try.func28 rfl hf ?_ hro
  simp only [Try.ntmps28, List.size_toArray, List.length_cons, List.length_nil, Nat.reduceAdd, Nat.reduceSub, Array.replicate_succ, Array.replicate_zero, List.push_toArray, List.append_toArray, List.nil_append, List.cons_append]
  gi_wp2
  gi_loopw [7] (fun i wr => ∃ k : Nat, k ≤ nd ∧ i = .int .i64 k ∧ J (List.range k) wr ∧ Keep S W wr ∧ W.heap.size ≤ wr.heap.size) (fun i _ => nd - (intOf i).toNat)
  case atStart => exact ⟨0, by omega, rfl, h0, Keep.refl, Nat.le_refl _⟩
  case round =>
    obtain ⟨k, hk, rfl, hJs, hK, hz⟩ := hrel
    by_cases hlt : k < nd
    · obtain ⟨b, off, rfl, hb, hc⟩ := hr.keep hK (by rw [hl.out]; omega)
      obtain ⟨c0, c1, hc', hr'⟩ := hc k (by rw [hl.out]; omega)
      have hbs : b < wr.heap.size := by have := hS b hb; omega
      have hkl : k < l.length := by rw [hl.out]; omega
      clear hc hr'
      have hJ1 : J (List.range k) (wr.alloc (.cells #[.int .i64 (nth wr0 l k).no, .slice (V k).1 (nth wr0 l k).bytes.length (V k).2] 30)) := HJA.out _ _ _ hJs
      have hKm : Keep S W (wr.alloc (.cells #[.int .i64 (nth wr0 l k).no, .slice (V k).1 (nth wr0 l k).bytes.length (V k).2] 30)) := hK.trans (keep_alloc (fun b hb => by have := hS b hb; omega) _)
      obtain ⟨fn, tmps, assign, body, hy, hR⟩ := HY.out (List.range k) k (wr.alloc (.cells #[.int .i64 (nth wr0 l k).no, .slice (V k).1 (nth wr0 l k).bytes.length (V k).2] 30)) (by omega) hJ1 (by rw [List.length_range]; omega)
      dsimp only [encW, wrV] at hy
      clear hJs hJ1
      generalize (nth wr0 l k).bytes.length = bl at *
      generalize (nth wr0 l k).no = no at *
      gi_wp2
      refine hR.mono ?_
      rintro e W3 (⟨rfl, hJ3, hk3⟩ | ⟨rfl, hJx3⟩)
      · have hk31 := hk3.1
        have hk32 := hk3.2
        simp at hk32
        gi_wp2
        go_roundw
        case rel => exact ⟨k + 1, by omega, by go_num, by rw [List.range_succ]; exact hJ3, hKm.trans hk31, by omega⟩
        case measure => simp [intOf]; omega
      · gi_wp2
        refine bodyPost_ret (results_none rfl _ _ _) rfl ?_
        refine ⟨⟨_, rfl⟩, .inr ⟨_, ?_, hJx3⟩⟩
        rw [← List.range_succ]
        obtain ⟨d, rfl⟩ : ∃ d, nd = k + 1 + d := ⟨nd - (k + 1), by omega⟩
        rw [List.range_add]
        exact List.prefix_append _ _
    · obtain rfl : k = nd := by omega
      gi_wp2
      go_end0
      exact ⟨⟨_, rfl⟩, .inl ⟨_, rfl, hJs⟩⟩
/-- slices.Values' iterator: the places of all writes, in order, or a prefix. -/
theorem values_stops (F : Fence) (n : Nat) (hf : F.fn 28) (hro : F.round = none) (hn : 1 ≤ n) (pb : Nat) (S : Nat → Prop) (A : Option Addr) (c : Nat) (l : List Wr) (V : Nat → Option Addr × Nat) (w : World)
    (hS : ∀ b, S b → b < w.heap.size) (hnl : l.length ≤ 1099511627776) (hpl : pb < w.heap.size) (hpb : w.cell? ⟨pb, 0, none⟩ = some (.slice A l.length c)) (hr : WrsIs w S A l V) :
    SeqStopsK F n Try.prog 28 #[.pointer (some ⟨pb, 0, none⟩)] (fun x : { k : Nat // k < l.length } => encW l V x.1) (KpS S) (fun xs => xs.map (·.1) = List.range l.length) (fun pre => pre.map (·.1) <+: List.range l.length) l.length w := fun lp J Jx W hW hJ _ hY h0 => by
  have hWS : ∀ b, S b → b < W.heap.size := fun b hb => Nat.lt_of_lt_of_le (hS b hb) hW.size
  refine (valuesIt_in F n hf hro hn lp pb S A c l V (fun pre W => ∃ pre' : List { k : Nat // k < l.length }, pre'.map (·.1) = pre ∧ J pre' W) (fun pre W => ∃ pre' : List { k : Nat // k < l.length }, pre'.map (·.1) = pre ∧ Jx pre' W) ?_ W hWS hnl
    ((hW.cell (p := ⟨pb, 0, none⟩) hpl).trans hpb) (hr.keep (keep_below hW hS)) ?_ ⟨[], rfl, h0⟩).mono ?_
  · rintro pre x W1 hx ⟨pre', rfl, hj⟩ hlen
    obtain ⟨fn, tmps, assign, body, hy, hR⟩ := hY pre' ⟨x, hx⟩ W1 hj (by simpa using hlen)
    refine ⟨fn, tmps, assign, body, hy, hR.mono ?_⟩
    rintro e W' (⟨rfl, h1, h2⟩ | ⟨rfl, h1⟩)
    · exact .inl ⟨rfl, ⟨_, by simp, h1⟩, h2⟩
    · exact .inr ⟨rfl, ⟨_, by simp, h1⟩⟩
  · rintro s W1 W2 row ⟨s', rfl, hs⟩ hg hr'
    exact ⟨s', rfl, hJ s' W1 W2 row hs hg hr'⟩
  · rintro e W' ⟨he, ⟨ys, hys, ys', rfl, hj⟩ | ⟨pre, hpre, pre', rfl, hj⟩⟩
    · exact ⟨he, .inl ⟨ys', hys, hj⟩⟩
    · exact ⟨he, .inr ⟨pre', hpre, hj⟩⟩
theorem kpS_t {S : Nat → Prop} {A B C : World} (h : KpS S A B) (k : KpS S B C) : KpS S A C := ⟨h.1.trans k.1, Nat.le_trans h.2 k.2⟩
theorem kpS_b {S : Nat → Prop} {w : World} (hS : ∀ b, S b → b < w.heap.size) (W : World) (l : Nat) (o' : Obj) (hl : w.heap.size ≤ l) : KpS S W (W.putObj l o') :=
  ⟨fun b i hb => by
    have hg := grownBy_putObj' W l o'
    by_cases hbW : b < W.heap.size
    · exact World.cell?_of_block (a := ⟨b, i, none⟩) (hg.block b hbW (fun e => by have := hS b hb; cases e; omega))
    · have := hg.size
      have h1 := hS b hb
      have e1 : W.heap[b]? = none := Array.getElem?_eq_none (by omega)
      have e2 : (W.putObj l o').heap[b]? = none := by
        refine Array.getElem?_eq_none ?_
        have : (W.putObj l o').heap.size = W.heap.size := by simp [World.putObj]
        omega
      simp [World.cell?, e1, e2], (grownBy_putObj' W l o').size⟩
theorem values_fn (w : World) (A : Option Addr) (n c : Nat) : Calls Try.prog 20 #[.slice A n c] w fun e w' =>
    e = .returned (.func (.func 28) #[] #[.pointer (some ⟨w.heap.size, 0, none⟩)]) ∧ w' = w.alloc (.cells #[.slice A n c] 23) := by
  go_enter Try.func20, Try.ntmps20
  go_wp2
  go_ret
  exact ⟨rfl, rfl⟩
end Go.Proofs.Ytlogabbnnbcokaa
