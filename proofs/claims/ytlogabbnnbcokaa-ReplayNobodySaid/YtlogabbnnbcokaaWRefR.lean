/- scantlingref51.Apply, Some. Condition: the slices are within the reach. -/
import Derived.Test.YtlogabbnnbcokaaWTorn2
import Derived.Test.YtlogabbnnbcokaaWRef3C
namespace Go.Proofs.Ytlogabbnnbcokaa
open Go.RowKit
attribute [local go_sem] Oper.semAt_some

/-- What the writes at some places leave of blocks. -/
def doB (l : List Wr) (B : List (List UInt8)) (js : List Nat) : List (List UInt8) := js.foldl (fun B k => wrB B (nth wr0 l k).no (nth wr0 l k).bytes) B
theorem doB_snoc (l : List Wr) (B : List (List UInt8)) (js : List Nat) (k : Nat) : doB l B (js ++ [k]) = wrB (doB l B js) (nth wr0 l k).no (nth wr0 l k).bytes := by simp [doB]
theorem doB_good {l : List Wr} {B : List (List UInt8)} (h : Good B) (js : List Nat) : Good (doB l B js) := by
  induction js generalizing B with
  | nil => exact h
  | cons k js ih => exact ih (wrB_good h _ _)
theorem doB_len (l : List Wr) (B : List (List UInt8)) (js : List Nat) : (doB l B js).length = B.length := by
  induction js generalizing B with
  | nil => rfl
  | cons k js ih =>
    have : doB l B (k :: js) = doB l (wrB B (nth wr0 l k).no (nth wr0 l k).bytes) js := rfl
    rw [this, ih, wrB_len]
set_option maxRecDepth 100000 in
theorem flat_drop {B : List (List UInt8)} (h : Good B) (k : Nat) (hk : k ≤ B.length) : B.flatten.drop (k * 256) = (B.drop k).flatten := by
  obtain ⟨h1, _⟩ := h
  induction B generalizing k with
  | nil => simp at hk; subst hk; rfl
  | cons b B ih =>
    cases k with
    | zero => simp
    | succ k =>
      have hb : b.length = 256 := h1 b (by simp)
      rw [List.flatten_cons, List.drop_succ_cons, ← ih k (by simpa using hk) (fun x hx => h1 x (by simp [hx])) (by simp at *; omega)]
      rw [List.drop_append, hb, show (k + 1) * 256 - 256 = k * 256 by omega, List.drop_of_length_le (by omega), List.nil_append]
theorem blkOf_flat {B : List (List UInt8)} (h : Good B) {k : Nat} (hk : k < B.length) : blkOf B.flatten k = nth [] B k := by
  unfold blkOf
  rw [flat_drop h k (by omega), drop_nth [] B k hk, List.flatten_cons]
  have := h.1 _ (nth_mem [] B k hk)
  rw [List.take_append_of_le_length (by omega), List.take_of_length_le (by omega)]
theorem chunk_flat {B : List (List UInt8)} (h : Good B) : chunk B.flatten (blocksN B.flatten.length) = B := by
  have hl : blocksN B.flatten.length = B.length := by rw [h.flat]; unfold blocksN; have := h.2; omega
  rw [hl]
  apply List.ext_getElem
  · simp [chunk]
  · intro i h1 h2
    simp only [chunk, List.getElem_map, List.getElem_range]
    rw [blkOf_flat h h2, nth_get [] B i h2]
theorem touched_gen {w w' : World} {base e size n a : Nat} {v : Value} {xs : List Value} (h1 : w.cell? ⟨a, 0, none⟩ = some v) (h2 : w.ownsRow base e size v n xs) (ht : Touched w w' a) : (∀ S : Nat → Prop, (∀ b, S b → b < base) → Keep S w w') ∧ (∀ (B : Nat) (w0 : World), Below B w0 w → B ≤ base → B ≤ w.heap.size → Below B w0 w') := by
  obtain ⟨row, hrow, hg, hsz⟩ := ht
  have hr := hrow _ h1
  have hlt := h2.lt
  refine ⟨fun S hS => keep_grown2 hg hsz (fun g hgr hs => ?_), fun B w0 hB hb hbs => hB.grown hg hbs (fun i hi => ?_)⟩
  · have := (hlt g (by rw [hr]; exact hgr)).1
    have := hS g hs
    omega
  · have := (hlt i (by rw [hr]; exact hi)).1; omega
theorem touched_ref {w w' : World} {base a : Nat} {B : List (List UInt8)} (h : OwnRef w base a B) (ht : Touched w w' a) : (∀ S : Nat → Prop, (∀ b, S b → b < base) → Keep S w w') ∧ (∀ (B : Nat) (w0 : World), Below B w0 w → B ≤ base → B ≤ w.heap.size → Below B w0 w') := by
  obtain ⟨h0, A, c, h1, h2⟩ := h
  exact touched_gen h1.cell h2 ht
/-- A copy of a reference's image, by way of its bytes. -/
theorem refCopy (w : World) (S0 : Nat → Prop) (a : Nat) (B : List (List UInt8)) (hS0 : ∀ b, S0 b → b < w.heap.size) (himg : IsRef w S0 a B) (hg : Good B) :
    (Calls Try.prog 12 #[.pointer (some ⟨a, 0, none⟩)] w fun e w1 => ∃ A c n, e = .returned (.slice A n c) ∧ Below w.heap.size w w1 ∧ Calls Try.prog 8 #[.slice A n c] w1 fun e w' => ∃ a', e = .returned (.pointer (some ⟨a', 0, none⟩)) ∧ OwnRef w' w.heap.size a' B ∧ Below w.heap.size w w') := by
  refine (ref3Bytes_any w S0 a B hS0 himg hg).mono ?_
  rintro e w1 ⟨A, c, n, hn, rfl, hown, hB⟩
  subst hn
  refine ⟨A, c, _, rfl, hB, ?_⟩
  have hfl := hg.flat
  have h2 := hg.2
  refine (ref3Of_any w1 (Btw w.heap.size w1.heap.size) _ B.flatten (fun b hb => hb.2) (IsSl.own (d := (0 : UInt8)) encB_len hown (by omega)) (by omega)).mono ?_
  rintro e w' ⟨a', rfl, hr, hB'⟩
  rw [chunk_flat hg] at hr
  have := hB.size
  exact ⟨a', rfl, hr.low this, hB.trans (hB'.mono this)⟩
set_option maxRecDepth 100000 in
set_option maxHeartbeats 3200000 in
theorem rapply_any (w : World) (S0 S : Nat → Prop) (a : Nat) (B : List (List UInt8)) (v : Value) (l : List Wr) (n : Int) (hS0 : ∀ b, S0 b → b < w.heap.size) (himg : IsRef w S0 a B) (hgd : Good B) (hS : ∀ b, S b → b < w.heap.size) (hl : IsWrs w S v l) (hnl : l.length ≤ 1099511627776) :
    Calls Try.prog 11 #[.pointer (some ⟨a, 0, none⟩), v, .int .i64 n] w fun e w' => ∃ a', e = .returned (.pointer (some ⟨a', 0, none⟩)) ∧ OwnRef w' w.heap.size a' (doB l B (List.range (withinN n l.length).toNat)) ∧ Below w.heap.size w w' := by
  have HCP := Lib.hid (refCopy w S0 a B hS0 himg hgd)
  obtain ⟨A, c, rfl, hc, hr⟩ := hl
  obtain ⟨V, hV⟩ := wrs_cells hr
  have HV := Lib.hid (show WrsIs w S A l V from hV)
  clear hr himg hV
  have HM := Lib.hid (show (withinN n l.length).toNat = (withinN n l.length).toNat from rfl)
  have hw0 : withinN n l.length = max 0 (min n l.length) := rfl
  have HW := Lib.hid hw0
  clear hw0
  generalize withinN n l.length = wn at *
  generalize hnn : l.length = nl at *
  have HN := Lib.hid hnn
  clear hnn
  go_enter Try.func11, Try.ntmps11
  go_wp2_with (first
    | (go_at_call 12; refine HCP.out.mono ?_; rintro e w1 ⟨A1, c1, n1, rfl, hB1, hof⟩; have HOF := Lib.hid hof; clear hof)
    | (go_at_call 8; refine HOF.out.mono ?_; rintro e w2 ⟨a2, rfl, hI2, hB2⟩))
  have HI2 := Lib.hid hI2
  clear hI2
  go_loopw [8] (fun i wr => ∃ k : Nat, i = .int .i64 k ∧ k ≤ nl ∧ ((k : Int) ≤ n ∨ k = 0) ∧ OwnRef wr w.heap.size a2 (doB l B (List.range k)) ∧ Below w.heap.size w wr) (fun i _ => nl - (intOf i).toNat)
  case atStart => exact ⟨0, rfl, by omega, by omega, HI2.out, hB2⟩
  case round =>
    obtain ⟨k, rfl, hk, hkn, hI, hB⟩ := hrel
    by_cases hlt : k < nl ∧ (k : Int) < n
    · obtain ⟨h1, h2⟩ := hlt
      obtain ⟨lb, lo, rfl, hSl, hat⟩ := HV.out.keep (keep_below hB hS) (by rw [HN.out]; omega)
      obtain ⟨c0, c1, hvc, hvr⟩ := hat k (by rw [HN.out]; exact h1)
      have HWR := Lib.hid (ref3Write_any wr.drew S w.heap.size a2 _ (nth wr0 l k).no (.slice (V k).1 (nth wr0 l k).bytes.length (V k).2) (nth wr0 l k).bytes hI ⟨_, _, rfl, hvc, hvr⟩)
      have HSN := Lib.hid (doB_snoc l B (List.range k) k)
      have HI := Lib.hid (show OwnRef wr.drew w.heap.size a2 _ from hI)
      have hi1 : (0 : Int) ≤ (k : Int) := by omega
      have hi2 : (k : Int) < (nl : Int) := by omega
      have hslt := hS lb hSl
      clear hat hvc hvr hI hkn
      generalize (nth wr0 l k).bytes.length = xl at *
      go_wp2_with fail
      go_region_held3 (fun w' => w'.cell? ⟨lb, lo + k * 2, none⟩ = some (.int .i64 (nth wr0 l k).no) ∧ w'.cell? ⟨lb, lo + k * 2 + 1, none⟩ = some (.slice (V k).1 xl (V k).2))
        (first | go_keep | (exact ⟨(hkp _ _ hslt).trans c0, (hkp _ _ hslt).trans c1⟩))
        (first | (go_at_call 22; refine HWR.out.mono ?_; rintro e w5 ⟨n5, rfl, hI5, hT5⟩; have hkp := (touched_ref HI.out hT5).1 (Lt w.heap.size) (fun _ h => h)))
      have hbel := (touched_ref HI.out hT5).2 _ _ hB.drew (Nat.le_refl _) hB.size
      go_wp2_with fail
      go_roundw
      case rel => exact ⟨k + 1, by go_num, by omega, by omega, by rw [List.range_succ, HSN.out]; exact hI5, hbel⟩
      case measure => simp [intOf]; omega
    · have hres : wn.toNat = k := by have := HW.out; omega
      have HR := Lib.hid hres
      have HI := Lib.hid hI
      clear hres hI
      by_cases h1 : k < nl
      · have h2 : ¬ (k : Int) < n := fun h => hlt ⟨h1, h⟩
        clear hlt
        go_wp2_with fail
        go_ret
        exact ⟨a2, rfl, by rw [HR.out]; exact HI.out, hB⟩
      · clear hlt
        go_wp2_with fail
        go_ret
        exact ⟨a2, rfl, by rw [HR.out]; exact HI.out, hB⟩
set_option maxRecDepth 100000 in
set_option maxHeartbeats 3200000 in
theorem rsome_any (w : World) (S0 S : Nat → Prop) (a : Nat) (B : List (List UInt8)) (v vp : Value) (l : List Wr) (ps : List Int) (hS0 : ∀ b, S0 b → b < w.heap.size) (himg : IsRef w S0 a B) (hgd : Good B) (hS : ∀ b, S b → b < w.heap.size) (hl : IsWrs w S v l) (hnl : l.length ≤ 1099511627776) (hp : IsInts w S vp ps) (hnp : ps.length ≤ 1099511627776) :
    Calls Try.prog 16 #[.pointer (some ⟨a, 0, none⟩), v, vp] w fun e w' => ∃ a', e = .returned (.pointer (some ⟨a', 0, none⟩)) ∧ OwnRef w' w.heap.size a' (doB l B (atF l.length ps)) ∧ Below w.heap.size w w' := by
  have HCP := Lib.hid (refCopy w S0 a B hS0 himg hgd)
  obtain ⟨A, c, rfl, hc, hr⟩ := hl
  obtain ⟨Ap, cp, rfl, hcp, hrp⟩ := hp
  obtain ⟨V, hV⟩ := wrs_cells hr
  have HV := Lib.hid (show WrsIs w S A l V from hV)
  clear hr himg hV
  generalize hnn : l.length = nl at *
  have HN := Lib.hid hnn
  generalize hmm : ps.length = np at *
  have HP := Lib.hid hmm
  clear hnn hmm
  go_enter Try.func16, Try.ntmps16
  go_wp2_with (first
    | (go_at_call 12; refine HCP.out.mono ?_; rintro e w1 ⟨A1, c1, n1, rfl, hB1, hof⟩; have HOF := Lib.hid hof; clear hof)
    | (go_at_call 8; refine HOF.out.mono ?_; rintro e w2 ⟨a2, rfl, hI2, hB2⟩))
  have HI2 := Lib.hid hI2
  clear hI2
  go_loopw [8] (fun i wr => ∃ k : Nat, i = .int .i64 k ∧ k ≤ np ∧ OwnRef wr w.heap.size a2 (doB l B (atF nl (ps.take k))) ∧ Below w.heap.size w wr) (fun i _ => np - (intOf i).toNat)
  case atStart => exact ⟨0, rfl, by omega, HI2.out, hB2⟩
  case round =>
    obtain ⟨k, rfl, hk, hI, hB⟩ := hrel
    by_cases hlt : k < np
    · obtain ⟨pbk, poff, rfl, hpbk, hpc⟩ := ints_cells (hrp.keep (flat_stable _) (fun _ h => h) (keep_below hB hS)) (by rw [HP.out]; omega)
      have q := hpc k (by rw [HP.out]; exact hlt)
      have HT := Lib.hid (take_nth 0 ps k (by rw [HP.out]; exact hlt))
      have hpslt := hS pbk hpbk
      have hki1 : (0 : Int) ≤ (k : Int) := by omega
      have hki2 : (k : Int) < (np : Int) := by omega
      have hki3 : (k : Int) < (cp : Int) := by omega
      clear hpc
      generalize nth 0 ps k = p at *
      by_cases hin : 0 ≤ p ∧ p < (nl : Int)
      · obtain ⟨j, rfl⟩ := Int.eq_ofNat_of_zero_le hin.1
        have hj : j < nl := by omega
        have HA := Lib.hid (atF_snoc_in (ps := ps.take k) hj)
        obtain ⟨lb, lo, rfl, hSl, hat⟩ := HV.out.keep (keep_below hB hS) (by rw [HN.out]; omega)
        obtain ⟨c0, c1, hvc, hvr⟩ := hat j (by rw [HN.out]; exact hj)
        have HWR := Lib.hid (ref3Write_any wr.drew S w.heap.size a2 _ (nth wr0 l j).no (.slice (V j).1 (nth wr0 l j).bytes.length (V j).2) (nth wr0 l j).bytes hI ⟨_, _, rfl, hvc, hvr⟩)
        have HSN := Lib.hid (doB_snoc l B (atF nl (ps.take k)) j)
        have HI := Lib.hid (show OwnRef wr.drew w.heap.size a2 _ from hI)
        have hi1 : (0 : Int) ≤ (j : Int) := by omega
        have hi2 : (j : Int) < (nl : Int) := by omega
        have hslt := hS lb hSl
        clear hat hvc hvr hI hin
        generalize (nth wr0 l j).bytes.length = xl at *
        go_wp2_with fail
        go_region_held3 (fun w' => w'.cell? ⟨pbk, poff + k, none⟩ = some (.int .i64 j) ∧ w'.cell? ⟨lb, lo + j * 2, none⟩ = some (.int .i64 (nth wr0 l j).no) ∧ w'.cell? ⟨lb, lo + j * 2 + 1, none⟩ = some (.slice (V j).1 xl (V j).2))
          (first | go_keep | (exact ⟨(hkp _ _ hpslt).trans q, (hkp _ _ hslt).trans c0, (hkp _ _ hslt).trans c1⟩))
          (first | (go_at_call 22; refine HWR.out.mono ?_; rintro e w5 ⟨n5, rfl, hI5, hT5⟩; have hkp := (touched_ref HI.out hT5).1 (Lt w.heap.size) (fun _ h => h)))
        have hbel := (touched_ref HI.out hT5).2 _ _ hB.drew (Nat.le_refl _) hB.size
        go_wp2_with fail
        go_roundw
        case rel => exact ⟨k + 1, by go_num, by omega, by rw [HT.out, HA.out, HSN.out]; exact hI5, hbel⟩
        case measure => simp [intOf]; omega
      · have HA := Lib.hid (atF_snoc_out (ps := ps.take k) hin)
        have HI := Lib.hid hI
        clear hI
        by_cases hp0 : 0 ≤ p
        · have hp1 : (nl : Int) ≤ p := by omega
          clear hin
          go_wp2_with fail
          go_roundw
          case rel => exact ⟨k + 1, by go_num, by omega, by rw [HT.out, HA.out]; exact HI.out, hB⟩
          case measure => simp [intOf]; omega
        · have hd0 : decide (0 ≤ p) = false := by simp; omega
          clear hin
          go_wp2_with fail
          go_roundw
          case rel => exact ⟨k + 1, by go_num, by omega, by rw [HT.out, HA.out]; exact HI.out, hB⟩
          case measure => simp [intOf]; omega
    · obtain rfl : k = np := by omega
      have hfin : ps.take k = ps := List.take_of_length_le (by rw [HP.out]; omega)
      rw [hfin] at hI
      have HI := Lib.hid hI
      clear hfin hI
      go_wp2_with fail
      go_ret
      exact ⟨a2, rfl, HI.out, hB⟩
end Go.Proofs.Ytlogabbnnbcokaa
