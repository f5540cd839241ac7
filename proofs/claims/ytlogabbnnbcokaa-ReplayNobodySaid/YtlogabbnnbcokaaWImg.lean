/- Package image: its objects in memory, and what Of, Bytes, Copy, Blocks, block, Read compute. Condition: the slices are within the reach. -/
import Derived.Test.YtlogabbnnbcokaaWCloneY
import Derived.Outline
namespace Go.Proofs.Ytlogabbnnbcokaa
open Go.RowKit

/-- An image that may be read: one cell at block a holds its bytes. -/
def IsImg (w : World) (S : Nat → Prop) (a : Nat) (bs : List UInt8) : Prop := S a ∧ ∃ A c, w.cell? ⟨a, 0, none⟩ = some (.slice A bs.length c) ∧ bs.length ≤ c ∧ ByteRow w S A bs
/-- An image of the call's own. -/
def OwnImg (w : World) (base a : Nat) (bs : List UInt8) : Prop := base ≤ a ∧ ∃ A c, One w a (.slice A bs.length c) 46 ∧ w.ownsRow base 5 1 (.slice A bs.length c) bs.length (flats encB bs)
section
variable {w w' : World} {S S' : Nat → Prop} {a base B : Nat} {bs : List UInt8}
theorem IsImg.keep (h : IsImg w S a bs) (hs : ∀ b, S b → S' b) (hk : Keep S w w') : IsImg w' S' a bs := by
  obtain ⟨h0, A, c, h1, h2, h3⟩ := h
  exact ⟨hs a h0, A, c, (hk a 0 h0).trans h1, h2, h3.keep (flat_stable _) hs hk⟩
theorem IsImg.below (h : IsImg w S a bs) (hB : Below B w w') (hs : ∀ b, S b → b < B) : IsImg w' S a bs := h.keep (fun _ h => h) (keep_below hB hs)
theorem OwnImg.lt (h : OwnImg w base a bs) : a < w.heap.size := by obtain ⟨_, A, c, h1, _⟩ := h; exact h1.lt
theorem OwnImg.is (h : OwnImg w base a bs) (hS : ∀ b, base ≤ b → b < w.heap.size → S b) : IsImg w S a bs := by
  obtain ⟨h0, A, c, h1, h2⟩ := h
  obtain ⟨A', c', e, hc, hr⟩ := IsSl.own (d := (0 : UInt8)) encB_len h2 (by omega)
  injection e with e1 e2 e3
  subst e1 e3
  exact ⟨hS a h0 h1.lt, A, c, h1.cell, hc, hr.keep (flat_stable _) (fun b hb => hS b hb.1 hb.2) Keep.refl⟩
theorem OwnImg.ne {A : Option Addr} {c n g : Nat} {xs : List Value} (h1 : One w a (.slice A n c) 46) (h2 : w.ownsRow base 5 1 (.slice A n c) n xs) (hg : (Value.slice A n c).ownBlock = some g) : g ≠ a := by
  rintro rfl
  rcases h2.2 with ⟨hv, _⟩ | ⟨g', cap, cur, hv, _, hh, _⟩
  · injection hv with e; subst e; simp [Value.ownBlock] at hg
  · rw [hv] at hg
    have : g' = g := by simpa [Value.ownBlock] using hg
    subst this
    unfold One at h1
    rw [h1] at hh
    injection hh with hh
    injection hh with _ ht
    exact absurd ht (by decide)
theorem OwnImg.below (h : OwnImg w base a bs) (hB : Below B w w') (hb : w.heap.size ≤ B) : OwnImg w' base a bs := by
  have hlt := h.lt
  obtain ⟨h0, A, c, h1, h2⟩ := h
  refine ⟨h0, A, c, h1.below hB (by omega), h2.1, ?_⟩
  rcases h2.2 with h0 | ⟨g, cap, cur, hv, hb', hg, rest⟩
  · exact .inl h0
  · exact .inr ⟨g, cap, cur, hv, hb', (hB.block g (by have := (Array.getElem?_eq_some_iff.1 hg).1; omega)).trans hg, rest⟩
theorem OwnImg.low {base' : Nat} (h : OwnImg w base a bs) (hb : base' ≤ base) : OwnImg w base' a bs := by
  obtain ⟨h0, A, c, h1, h2⟩ := h
  refine ⟨by omega, A, c, h1, h2.1, ?_⟩
  rcases h2.2 with h0 | ⟨g, cap, cur, hv, hb', rest⟩
  · exact .inl h0
  · exact .inr ⟨g, cap, cur, hv, by omega, rest⟩
end
/-- How many blocks of 256 bytes an image of bytes has. -/
def blocksN (n : Nat) : Nat := min (n / 256) 14400
theorem blocksN_le (n : Nat) : blocksN n * 256 ≤ n ∧ blocksN n ≤ 14400 := by unfold blocksN; omega

set_option maxHeartbeats 1600000 in
theorem imageOf_any (w : World) (S : Nat → Prop) (v : Value) (l : List UInt8) (hS : ∀ b, S b → b < w.heap.size) (h : IsBytes w S v l) (hn : l.length ≤ 140737488355328) :
    Calls Try.prog 7 #[v] w fun e w' => ∃ a, e = .returned (.pointer (some ⟨a, 0, none⟩)) ∧ OwnImg w' w.heap.size a (l.take (blocksN l.length * 256)) ∧ Below w.heap.size w w' := by
  obtain ⟨A, c, rfl, hc, hr⟩ := h
  obtain ⟨hb1, hb2⟩ := blocksN_le l.length
  have hlen : (l.take (blocksN l.length * 256)).length = blocksN l.length * 256 := by rw [List.length_take]; omega
  have hdef : min ((l.length : Int) / 256) 14400 = (blocksN l.length : Int) := by unfold blocksN; omega
  have htk : IsBytes w S (.slice A (blocksN l.length * 256) c) (l.take (blocksN l.length * 256)) := by
    refine ⟨A, c, by rw [hlen], by omega, hr.take _⟩
  have hcl := cloneBytes w S _ _ hS htk (by omega)
  rw [hlen] at hcl
  have HCL := Lib.hid hcl
  have HLEN := Lib.hid hlen
  have HDEF := Lib.hid hdef
  clear hcl hlen htk hr hdef
  generalize l.take (blocksN l.length * 256) = bs at *
  generalize hq : l.length = n at *
  clear hq
  have fin : ∀ w1 A1 c1, w1.ownsRow w.heap.size 5 1 (.slice A1 (blocksN n * 256) c1) (blocksN n * 256) (flats encB bs) → Below w.heap.size w w1 → OwnImg (w1.alloc (.cells #[.slice A1 (blocksN n * 256) c1] 46)) w.heap.size w1.heap.size bs ∧ Below w.heap.size w (w1.alloc (.cells #[.slice A1 (blocksN n * 256) c1] 46)) := by
    intro w1 A1 c1 hown hB
    exact ⟨⟨hB.size, A1, c1, by rw [HLEN.out]; exact One.new w1 _ _, by rw [HLEN.out]; exact hown.alloc _⟩, hB.alloc hB.size _⟩
  have FIN := Lib.hid fin
  clear fin
  by_cases h : (n : Int) / 256 ≤ 14400
  · have e1 : n / 256 * 256 = blocksN n * 256 := by unfold blocksN; omega
    have E1 := Lib.hid e1
    clear e1 HDEF
    generalize blocksN n = k at *
    go_enter Try.func7, Try.ntmps7
    go_wp2_with (go_at_call 18; rw [E1.out]; refine HCL.out.mono ?_; rintro e w1 ⟨A1, c1, rfl, hown, hB⟩)
    go_ret
    exact ⟨_, rfl, FIN.out _ _ _ hown hB⟩
  · have e1 : blocksN n = 14400 := by unfold blocksN; omega
    have E2 := Lib.hid (show (3686400 : Nat) = blocksN n * 256 by rw [e1])
    have hb3 : 3686400 ≤ n := by omega
    clear e1 HDEF HLEN hb1 hb2
    generalize blocksN n = k at *
    go_enter Try.func7, Try.ntmps7
    go_wp2_with (go_at_call 18; rw [E2.out]; refine HCL.out.mono ?_; rintro e w1 ⟨A1, c1, rfl, hown, hB⟩)
    go_ret
    exact ⟨_, rfl, FIN.out _ _ _ hown hB⟩
set_option maxHeartbeats 1600000 in
theorem imageBytes_any (w : World) (S : Nat → Prop) (a : Nat) (bs : List UInt8) (hS : ∀ b, S b → b < w.heap.size) (h : IsImg w S a bs) (hn : bs.length ≤ 140737488355328) :
    Calls Try.prog 10 #[.pointer (some ⟨a, 0, none⟩)] w fun e w' => ∃ A c, e = .returned (.slice A bs.length c) ∧ w'.ownsRow w.heap.size 5 1 (.slice A bs.length c) bs.length (flats encB bs) ∧ Below w.heap.size w w' := by
  obtain ⟨h0, A, c, h1, h2, h3⟩ := h
  have HCL := Lib.hid (cloneBytes w S (.slice A bs.length c) bs hS ⟨A, c, rfl, h2, h3⟩ hn)
  clear h3
  generalize bs.length = n at *
  go_enter Try.func10, Try.ntmps10
  go_wp2_with (go_at_call 18; refine HCL.out.mono ?_; rintro e w1 ⟨A1, c1, rfl, hown, hB⟩)
  go_ret
  exact ⟨_, _, rfl, hown, hB⟩
theorem imageBytes_nil (w : World) : Calls Try.prog 10 #[.pointer none] w fun e w' => e = .returned (.slice none 0 0) ∧ w = w' := by
  go_enter Try.func10, Try.ntmps10
  go_wp2
  go_ret
  exact ⟨rfl, rfl⟩
set_option maxHeartbeats 1600000 in
theorem imageCopy_any (w : World) (S : Nat → Prop) (a : Nat) (bs : List UInt8) (hS : ∀ b, S b → b < w.heap.size) (h : IsImg w S a bs) (hn : bs.length ≤ 140737488355328) :
    Calls Try.prog 26 #[.pointer (some ⟨a, 0, none⟩)] w fun e w' => ∃ a', e = .returned (.pointer (some ⟨a', 0, none⟩)) ∧ OwnImg w' w.heap.size a' bs ∧ Below w.heap.size w w' := by
  obtain ⟨h0, A, c, h1, h2, h3⟩ := h
  have HCL := Lib.hid (cloneBytes w S (.slice A bs.length c) bs hS ⟨A, c, rfl, h2, h3⟩ hn)
  clear h3
  generalize hnn : bs.length = n at *
  have HNN := Lib.hid hnn
  clear hnn
  go_enter Try.func26, Try.ntmps26
  go_wp2_with (go_at_call 18; refine HCL.out.mono ?_; rintro e w1 ⟨A1, c1, rfl, hown, hB⟩)
  go_ret
  exact ⟨_, rfl, ⟨hB.size, A1, c1, by rw [HNN.out]; exact One.new w1 _ _, by rw [HNN.out]; exact hown.alloc _⟩, hB.alloc hB.size _⟩
theorem imageCopy_nil (w : World) : Calls Try.prog 26 #[.pointer none] w fun e w' => e = .returned (.pointer none) ∧ w = w' := by
  go_enter Try.func26, Try.ntmps26
  go_wp2
  go_ret
  exact ⟨rfl, rfl⟩
theorem imageBlocks_any (w : World) (a : Nat) (A : Option Addr) (n c : Nat) (h : w.cell? ⟨a, 0, none⟩ = some (.slice A n c)) (_hn : n ≤ 140737488355328) :
    Calls Try.prog 31 #[.pointer (some ⟨a, 0, none⟩)] w fun e w' => e = .returned (.int .i64 ((n : Int) / 256)) ∧ w = w' := by
  go_enter Try.func31, Try.ntmps31
  go_wp2
  go_ret
  exact ⟨rfl, rfl⟩
theorem imageBlocks_nil (w : World) : Calls Try.prog 31 #[.pointer none] w fun e w' => e = .returned (.int .i64 0) ∧ w = w' := by
  go_enter Try.func31, Try.ntmps31
  go_wp2
  go_ret
  exact ⟨rfl, rfl⟩
end Go.Proofs.Ytlogabbnnbcokaa
