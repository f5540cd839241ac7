/- slices.swapRangeCmpFunc at candidates: two stretches exchange their places. Condition: they lie apart and in the row. -/
import Derived.Test.YtolpgblegbahgaaStabP
import Derived.Test.YtolpgblegbahgaaProg
import Derived.Shelf.SlSortCmp.NoneTotal
import Derived.Deep.QuietTactic
import Derived.BigQuiet
namespace Go.Proofs.Ytolpgblegbahgaa
open Go.RowKit Go.Shelf Go.Sort
set_option linter.unusedVariables false
set_option linter.unusedSimpArgs false

theorem swp_arr {α : Type} [Inhabited α] (l : List α) {i j : Nat} (hi : i < l.length) (hj : j < l.length) : Go.Sort.swp l.toArray i j = (swp default l i j).toArray := by
  unfold Go.Sort.swp swp nth
  simp [List.getD, hi, hj]
set_option maxRecDepth 100000 in
set_option maxHeartbeats 3200000 in
theorem swapRange_any {α : Type} [Inhabited α] (enc : α → List Value) (hk : ∀ x, (enc x).length = 8) (h1 : ∀ x, ∀ v ∈ enc x, v.oneCell' = true) (w : World) (blk off cap a b n : Nat) (f : Value) (l : List α)
    (hH : HoldsK enc 8 w blk off l.toArray) (hab : a + n ≤ b) (hb : b + n ≤ l.length) (hsz : l.length < 4611686018427387904) :
    Calls Try.prog 44 #[.slice (some ⟨blk, off, none⟩) l.length cap, .int .i64 a, .int .i64 b, .int .i64 n, f] w fun e w' =>
      e = .returned (.tuple #[]) ∧ ∃ m, w' = putRowK enc 8 (Go.Sort.ahead w m) blk off (swpR default a b 0 n l).toArray := by
  generalize hk8 : (8 : Nat) = k at hH hk ⊢
  have HH : Hid (HoldsK enc k w blk off l.toArray) := hH
  have HK : Hid (∀ x, (enc x).length = k) := hk
  have H1 : Hid (∀ x, ∀ v ∈ enc x, v.oneCell' = true) := h1
  have HST : Hid (w = putRowK enc k (Go.Sort.ahead w 0) blk off l.toArray) := (putRowK_self enc k w blk off l.toArray hH).symm
  have zE : ∀ w, (Go.sizeOf 33).run Try.prog w = .ok k w := by rw [← hk8]; exact Try.sizeOf33
  clear hH hk h1 hk8
  have mixed : Try.prog.follows .mixedOrders = true := by kernel_rfl
  have aE : ∀ w, (isAgg 33).run Try.prog w = .ok true w := Try.isAgg33
  go_enter Try.func44, Try.ntmps44
  go_wp2
  go_loopw [10] (fun vi wr => ∃ (i m : Nat) (dk : List α), vi = .int .i64 i ∧ i ≤ n ∧ dk.length = l.length ∧ wr = putRowK enc k (Go.Sort.ahead w m) blk off dk.toArray ∧ Hid (swpR default a b i (n - i) dk = swpR default a b 0 n l)) (fun vi _ => n - (intOf vi).toNat)
  case atStart => exact ⟨0, 0, l, rfl, by omega, rfl, HST.out, rfl⟩
  case round =>
    obtain ⟨i, m, dk, rfl, hin, hs, rfl, HI⟩ := hrel
    by_cases hlt : i < n
    · have hltz : (i : Int) < (n : Int) := by omega
      obtain ⟨x, hx⟩ : ∃ x, x = a + i := ⟨_, rfl⟩
      obtain ⟨y, hy⟩ : ∃ y, y = b + i := ⟨_, rfl⟩
      have hwx : IntKind.i64.wrap ((a : Int) + (i : Int)) = (x : Int) := by rw [IntKind.wrap_i64]; omega
      have hwy : IntKind.i64.wrap ((b : Int) + (i : Int)) = (y : Int) := by rw [IntKind.wrap_i64]; omega
      have hxz : (x : Int) < (l.length : Int) := by omega
      have hyz : (y : Int) < (l.length : Int) := by omega
      have hxd : x < dk.toArray.size := by simp; omega
      have hyd : y < dk.toArray.size := by simp; omega
      have hds : dk.toArray.size = l.toArray.size := by simp [hs]
      obtain ⟨wr, hwr⟩ : ∃ wr, wr = putRowK enc k (Go.Sort.ahead w m) blk off dk.toArray := ⟨_, rfl⟩
      rw [← hwr]
      have bnd : ∀ x, x < dk.toArray.size → x * k + k ≤ dk.toArray.size * k := fun x hx => by
        have := Nat.mul_le_mul_right k (show x + 1 ≤ dk.toArray.size from hx); rwa [Nat.add_mul, Nat.one_mul] at this
      have hHd : HoldsK enc k wr.drew blk off dk.toArray := by rw [hwr]; exact holdsK_putRowK enc k _ blk off l.toArray dk.toArray (holdsK_ahead enc k w (m + 1) blk off l.toArray HH.out) hds
      have li : Sem.run Try.prog (loadCellsFrom ⟨blk, off + x * k, none⟩ 0 k #[]) wr.drew = .ok (enc dk.toArray[x]!).toArray wr.drew := run_loadCellsFrom_list Try.prog _ _ _ k (HK.out _) (HoldsK.cells hHd HK.out hxd)
      have lj : Sem.run Try.prog (loadCellsFrom ⟨blk, off + y * k, none⟩ 0 k #[]) wr.drew = .ok (enc dk.toArray[y]!).toArray wr.drew := run_loadCellsFrom_list Try.prog _ _ _ k (HK.out _) (HoldsK.cells hHd HK.out hyd)
      have s1 : Sem.run Try.prog (storeCells ⟨blk, off + x * k, none⟩ (enc dk.toArray[y]!) 0) wr.drew = .ok () (wr.drew.setCells blk (off + x * k) (enc dk.toArray[y]!)) := stores_of_holds Try.prog hHd (x * k) _ (by rw [HK.out, size_flatK]; exact bnd x hxd) (H1.out _)
      have s2 : Sem.run Try.prog (storeCells ⟨blk, off + y * k, none⟩ (enc dk.toArray[x]!) 0) (wr.drew.setCells blk (off + x * k) (enc dk.toArray[y]!)) = .ok () ((wr.drew.setCells blk (off + x * k) (enc dk.toArray[y]!)).setCells blk (off + y * k) (enc dk.toArray[x]!)) :=
        stores_of_holds Try.prog (holds_setCells_c hHd (x * k) _ (by rw [HK.out, size_flatK]; exact bnd x hxd)) (y * k) _ (by rw [HK.out, size_setMany, size_flatK]; exact bnd y hyd) (H1.out _)
      have A : Hid (wr = putRowK enc k (Go.Sort.ahead w m) blk off dk.toArray) := hwr
      have hsI : (enc dk.toArray[x]!).length = k := HK.out _
      have hsJ : (enc dk.toArray[y]!).length = k := HK.out _
      have HX : Hid (x = a + i ∧ y = b + i) := ⟨hx, hy⟩
      have HD : Hid (x < dk.toArray.size ∧ y < dk.toArray.size ∧ dk.length = l.length) := ⟨hxd, hyd, hs⟩
      clear hwr hHd bnd hx hy hxd hyd hds hs
      obtain ⟨ci, hci⟩ : ∃ c, c = enc dk.toArray[x]! := ⟨_, rfl⟩
      obtain ⟨cj, hcj⟩ : ∃ c, c = enc dk.toArray[y]! := ⟨_, rfl⟩
      rw [← hcj] at s1
      rw [← hci, ← hcj] at s2
      rw [← hci] at li hsI
      rw [← hcj] at lj hsJ
      have CI : Hid (ci = enc dk.toArray[x]! ∧ cj = enc dk.toArray[y]!) := ⟨hci, hcj⟩
      clear hci hcj
      go_wp2_with fail
      go_big_region_o
      all_goals go_wp2
      go_round
      case measure => (show n - ((i : Int) + 1).toNat < n - ((i : Int)).toNat; omega)
      case rel =>
        refine ⟨i + 1, m + 1, swp default dk x y, by go_num, by omega, by rw [swp_length]; exact HD.out.2.2, ?_, (show _ = _ from ?_)⟩
        · rw [CI.out.1, CI.out.2, A.out, ← swp_arr dk (by simpa using HD.out.1) (by simpa using HD.out.2.1)]
          exact swap_worldK enc k HK.out w m 1 blk off dk.toArray x y HD.out.1 HD.out.2.1
        · rw [← HI.out, show n - i = (n - (i + 1)) + 1 by omega, swpR, HX.out.1, HX.out.2]
    · have hltz : ¬ (i : Int) < (n : Int) := by omega
      go_wp2
      go_end0
      refine ⟨rfl, m, ?_⟩
      rw [← HI.out, show n - i = 0 by omega, swpR]
end Go.Proofs.Ytolpgblegbahgaa
