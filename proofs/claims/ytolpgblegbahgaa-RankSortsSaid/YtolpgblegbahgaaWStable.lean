/- slices.symMergeCmpFunc, stableCmpFunc, SortStableFunc at at most 39 candidates: the row holds what it held, sorted by Go's stable sort (stab). Condition: the comparison leaves all blocks as they were. -/
import Derived.Test.YtolpgblegbahgaaWSymC
namespace Go.Proofs.Ytolpgblegbahgaa
open Go.RowKit Go.Shelf Go.Sort
set_option linter.unusedVariables false
set_option linter.unusedSimpArgs false

theorem symM_any {α : Type} [Inhabited α] (enc : α → List Value) (hk : ∀ x, (enc x).length = 8) (h1 : ∀ x, ∀ v ∈ enc x, v.oneCell' = true) (cf : α → α → Int) (w0 : World) (blk off cap n : Nat) (hcmp : CmpBel enc w0 blk off n 14 cf) (hsz : n < 1000000) :
    ∀ (f : Nat) (w : World) (a m b : Nat) (l : List α), l.length = n → RowAt enc w0 blk off w l → a < m → m < b → b ≤ n → b - a ≤ f →
      Calls Try.prog 40 #[.slice (some ⟨blk, off, none⟩) n cap, .int .i64 a, .int .i64 m, .int .i64 b, .func (.func 14) #[] #[]] w fun e w' => e = .returned (.tuple #[]) ∧ RowAt enc w0 blk off w' (symM default (fun x y => decide (cf x y < 0)) f a m b l) := by
  intro f
  induction f with
  | zero => intro w a m b l hl hR h2 h3 h4 h5; omega
  | succ f ih =>
    intro w a m b l hl hR ham hmb hbn hf
    by_cases hA : m - a = 1
    · have h := symA_any enc hk h1 cf w0 w blk off cap n a m b l hl hR hcmp (by omega) hmb hbn hsz
      rw [symM, if_pos hA]
      exact h
    · by_cases hB : b - m = 1
      · have h := symB_any enc hk h1 cf w0 w blk off cap n a m b l hl hR hcmp (by omega) (by omega) hbn hsz
        rw [symM, if_neg hA, if_pos hB]
        exact h
      · exact symC_any enc hk h1 cf w0 w blk off cap n a m b f l hl hR hcmp (by omega) (by omega) hbn hsz hf ih
set_option maxRecDepth 100000 in
set_option maxHeartbeats 3200000 in
theorem stable_any {α : Type} [Inhabited α] (enc : α → List Value) (hk : ∀ x, (enc x).length = 8) (h1 : ∀ x, ∀ v ∈ enc x, v.oneCell' = true) (cf : α → α → Int) (w0 w : World) (blk off cap n : Nat) (l : List α) (hl : l.length = n) (hn : n ≤ 39)
    (hR : RowAt enc w0 blk off w l) (hcmp : CmpBel enc w0 blk off n 14 cf) :
    Calls Try.prog 33 #[.slice (some ⟨blk, off, none⟩) n cap, .int .i64 n, .func (.func 14) #[] #[]] w fun e w' =>
      e = .returned (.tuple #[]) ∧ RowAt enc w0 blk off w' (stab default (fun x y => decide (cf x y < 0)) l) := by
  have HI : Hid (∀ (w' : World) (d : List α) (a b : Nat), d.length = n → RowAt enc w0 blk off w' d → a ≤ b → b ≤ n → Calls Try.prog 39 #[.slice (some ⟨blk, off, none⟩) n cap, .int .i64 a, .int .i64 b, .func (.func 14) #[] #[]] w' fun e w'' =>
      e = .returned (.tuple #[]) ∧ RowAt enc w0 blk off w'' (insSort default (fun x y => decide (cf x y < 0)) a b d)) := fun w' d a b hd hR hab hb => by
    subst hd
    exact insSort_any enc hk h1 cf w0 w' blk off cap a b d hR hcmp hab hb (by omega)
  have HS := Lib.hid (symM_any enc hk h1 cf w0 blk off cap n hcmp (by omega))
  have HR := Lib.hid hR
  have HL := Lib.hid hl
  have HLEN : Hid (∀ a b (d : List α), (insSort default (fun x y => decide (cf x y < 0)) a b d).length = d.length) := fun a b d => insAll_length _ _ _ _ _ _
  obtain ⟨R, hst⟩ : ∃ R, stab default (fun x y => decide (cf x y < 0)) l = R := ⟨_, rfl⟩
  rw [hst]
  have HST := Lib.hid hst
  clear hR hcmp hk h1 hl hst
  by_cases h20 : n < 20
  · have h20z : ¬ (20 : Int) ≤ (n : Int) := by omega
    have h20y : ¬ (20 : Int) < (n : Int) := by omega
    have HRE : Hid (insSort default (fun x y => decide (cf x y < 0)) 0 n l = R) := by
      show _ = _
      rw [← HST.out, stab, if_pos (by rw [HL.out]; exact h20), HL.out]
    go_enter Try.func33, Try.ntmps33
    go_wp2_with fail
    go_loopw [7, 8] (fun va vb wr => Hid (va = .int .i64 0 ∧ vb = .int .i64 20 ∧ RowAt enc w0 blk off wr l)) (fun _ _ _ => 0)
    case atStart => exact ⟨rfl, rfl, HR.out⟩
    case round =>
      obtain ⟨rfl, rfl, hrow⟩ := hrel.out
      have hx := HI.out _ l 0 n HL.out hrow (by omega) (by omega)
      have HX := Lib.hid hx
      clear hx hrow hrel
      go_wp2_with (go_at_call 39; refine HX.out.mono ?_; rintro e w3 ⟨rfl, hR3⟩; have HR3 := Lib.hid hR3; clear hR3)
      go_loopw [6] (fun vs wr => Hid (vs = .int .i64 20 ∧ RowAt enc w0 blk off wr R)) (fun _ _ => 0)
      case atStart => exact ⟨rfl, by rw [← HRE.out]; exact HR3.out⟩
      case round =>
        obtain ⟨rfl, hrow⟩ := hrel.out
        have HROW := Lib.hid hrow
        clear hrow hrel
        go_wp2_with fail
        go_end0
        exact ⟨rfl, HROW.out⟩
  · have h20z : (20 : Int) ≤ (n : Int) := by omega
    have h40z : ¬ (40 : Int) ≤ (n : Int) := by omega
    have h40y : ¬ (40 : Int) < (n : Int) := by omega
    obtain ⟨l1, hl1⟩ : ∃ x, insSort default (fun x y => decide (cf x y < 0)) 0 20 l = x := ⟨_, rfl⟩
    obtain ⟨l2, hl2⟩ : ∃ x, insSort default (fun x y => decide (cf x y < 0)) 20 n l1 = x := ⟨_, rfl⟩
    have hn1 : l1.length = n := by rw [← hl1, HLEN.out]; exact HL.out
    have hn2 : l2.length = n := by rw [← hl2, HLEN.out]; exact hn1
    have HRE : Hid ((if 20 < n then symM default (fun x y => decide (cf x y < 0)) n 0 20 n l2 else l2) = R) := by
      show _ = _
      rw [← HST.out, stab, if_neg (c := l.length < 20) (by rw [HL.out]; exact h20), HL.out, ← hl2, ← hl1]
    have HL1 := Lib.hid hl1
    have HL2 := Lib.hid hl2
    have HN1 := Lib.hid hn1
    have HN2 := Lib.hid hn2
    clear hl1 hl2 hn1 hn2
    go_enter Try.func33, Try.ntmps33
    go_wp2_with fail
    go_loopw [7, 8] (fun va vb wr => Hid ((va = .int .i64 0 ∧ vb = .int .i64 20 ∧ RowAt enc w0 blk off wr l) ∨ (va = .int .i64 20 ∧ vb = .int .i64 40 ∧ RowAt enc w0 blk off wr l1))) (fun _ vb _ => 40 - (intOf vb).toNat)
    case atStart => exact .inl ⟨rfl, rfl, HR.out⟩
    case round =>
      rcases hrel.out with ⟨rfl, rfl, hrow⟩ | ⟨rfl, rfl, hrow⟩
      · have hx := HI.out _ l 0 20 HL.out hrow (by omega) (by omega)
        have HX := Lib.hid hx
        clear hx hrow hrel
        go_wp2_with (go_at_call 39; refine HX.out.mono ?_; rintro e w3 ⟨rfl, hR3⟩; have HR3 := Lib.hid hR3; clear hR3)
        go_roundw
        case rel => exact Lib.hid (.inr ⟨rfl, rfl, by rw [← HL1.out]; exact HR3.out⟩)
        case measure => simp [intOf]
      · have hx := HI.out _ l1 20 n HN1.out hrow (by omega) (by omega)
        have HX := Lib.hid hx
        clear hx hrow hrel
        go_wp2_with (go_at_call 39; refine HX.out.mono ?_; rintro e w3 ⟨rfl, hR3⟩; have HR3 := Lib.hid hR3; clear hR3)
        go_loopw [6] (fun vs wr => Hid ((vs = .int .i64 20 ∧ RowAt enc w0 blk off wr l2) ∨ (vs = .int .i64 40 ∧ RowAt enc w0 blk off wr R))) (fun vs _ => 40 - (intOf vs).toNat)
        case atStart => exact .inl ⟨rfl, by rw [← HL2.out]; exact HR3.out⟩
        case round =>
          rcases hrel.out with ⟨rfl, hrow⟩ | ⟨rfl, hrow⟩
          · by_cases hlt : 20 < n
            · have hltz : (20 : Int) < (n : Int) := by omega
              have HROW := Lib.hid hrow
              clear hrow hrel
              go_wp2_with fail
              go_loopw [7, 8] (fun va vb wr => Hid (va = .int .i64 0 ∧ vb = .int .i64 40 ∧ RowAt enc w0 blk off wr l2)) (fun _ _ _ => 0)
              case atStart => exact ⟨rfl, rfl, HROW.out⟩
              case round =>
                obtain ⟨rfl, rfl, hrow⟩ := hrel.out
                have hx := HS.out n _ 0 20 n l2 HN2.out hrow (by omega) (by omega) (by omega) (by omega)
                have HX := Lib.hid hx
                clear hx hrow hrel
                go_wp2_with (go_at_call 40; refine HX.out.mono ?_; rintro e w4 ⟨rfl, hR4⟩; have HR4 := Lib.hid hR4; clear hR4)
                go_roundw
                case rel => exact Lib.hid (.inr ⟨rfl, by rw [← HRE.out, if_pos hlt]; exact HR4.out⟩)
                case measure => simp [intOf]
            · have hltz : ¬ (20 : Int) < (n : Int) := by omega
              have HROW := Lib.hid hrow
              clear hrow hrel
              go_wp2_with fail
              go_end0
              exact ⟨rfl, by rw [← HRE.out, if_neg hlt]; exact HROW.out⟩
          · have HROW := Lib.hid hrow
            clear hrow hrel
            go_wp2_with fail
            go_end0
            exact ⟨rfl, HROW.out⟩
theorem sortStable_any {α : Type} [Inhabited α] (enc : α → List Value) (hk : ∀ x, (enc x).length = 8) (h1 : ∀ x, ∀ v ∈ enc x, v.oneCell' = true) (cf : α → α → Int) (w0 w : World) (blk off cap n : Nat) (l : List α) (hl : l.length = n) (hn : n ≤ 39)
    (hR : RowAt enc w0 blk off w l) (hcmp : CmpBel enc w0 blk off n 14 cf) :
    Calls Try.prog 18 #[.slice (some ⟨blk, off, none⟩) n cap, .func (.func 14) #[] #[]] w fun e w' =>
      e = .returned (.tuple #[]) ∧ RowAt enc w0 blk off w' (stab default (fun x y => decide (cf x y < 0)) l) := by
  have HX := Lib.hid (stable_any enc hk h1 cf w0 w blk off cap n l hl hn hR hcmp)
  clear hR hcmp hk h1
  go_enter Try.func18, Try.ntmps18
  go_wp2_with (go_at_call 33; refine HX.out.mono ?_; rintro e w3 ⟨rfl, hR3⟩; have HR3 := Lib.hid hR3; clear hR3)
  go_end0
  exact ⟨rfl, HR3.out⟩
end Go.Proofs.Ytolpgblegbahgaa
