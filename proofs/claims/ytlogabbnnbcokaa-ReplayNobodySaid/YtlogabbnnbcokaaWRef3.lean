/- Package scantlingref03: its images in memory, and what Of, Bytes, Read, Write compute. Condition: the slices are within the reach. -/
import Derived.Test.YtlogabbnnbcokaaWImg2
import Derived.Deep.RegionLaw
import Derived.Deep.AppendLies
namespace Go.Proofs.Ytlogabbnnbcokaa
open Go.RowKit
attribute [local go_sem] Oper.semAt_some

def encS (b : List UInt8) : List Value := [.string (strB b)]
theorem encS_len (b : List UInt8) : (encS b).length = 1 := rfl
theorem info_str : (Try.prog.info? 9).map (fun i => (i.zero, i.size, i.bytes)) = some (some (.string ByteArray.empty), 1, 16) := by kernel_rfl
/-- A reference's image of the call's own. -/
def OwnRef (w : World) (base a : Nat) (B : List (List UInt8)) : Prop := base ≤ a ∧ ∃ A c, One w a (.slice A B.length c) 49 ∧ w.ownsRow base 9 1 (.slice A B.length c) B.length (flats encS B)
/-- The first n blocks of bytes. -/
def chunk (bs : List UInt8) (n : Nat) : List (List UInt8) := (List.range n).map (blkOf bs)
theorem chunk_len (bs : List UInt8) (n : Nat) : (chunk bs n).length = n := by simp [chunk]
theorem chunk_succ (bs : List UInt8) (n : Nat) : chunk bs (n + 1) = chunk bs n ++ [blkOf bs n] := by simp [chunk, List.range_succ]
section
variable {w w' : World} {base a B : Nat} {L : List (List UInt8)}
theorem OwnRef.lt (h : OwnRef w base a L) : a < w.heap.size := by obtain ⟨_, A, c, h1, _⟩ := h; exact h1.lt
theorem OwnRef.below (h : OwnRef w base a L) (hB : Below B w w') (hb : w.heap.size ≤ B) : OwnRef w' base a L := by
  have hlt := h.lt
  obtain ⟨h0, A, c, h1, h2⟩ := h
  refine ⟨h0, A, c, h1.below hB (by omega), h2.1, ?_⟩
  rcases h2.2 with h0 | ⟨g, cap, cur, hv, hb', hg, rest⟩
  · exact .inl h0
  · exact .inr ⟨g, cap, cur, hv, hb', (hB.block g (by have := (Array.getElem?_eq_some_iff.1 hg).1; omega)).trans hg, rest⟩
theorem OwnRef.low {base' : Nat} (h : OwnRef w base a L) (hb : base' ≤ base) : OwnRef w base' a L := by
  obtain ⟨h0, A, c, h1, h2⟩ := h
  refine ⟨by omega, A, c, h1, h2.1, ?_⟩
  rcases h2.2 with h0 | ⟨g, cap, cur, hv, hb', rest⟩
  · exact .inl h0
  · exact .inr ⟨g, cap, cur, hv, by omega, rest⟩
theorem OwnRef.ne {A : Option Addr} {c n g : Nat} {xs : List Value} (h1 : One w a (.slice A n c) 49) (h2 : w.ownsRow base 9 1 (.slice A n c) n xs) (hg : (Value.slice A n c).ownBlock = some g) : g ≠ a := by
  rintro rfl
  rcases h2.2 with ⟨hv, _⟩ | ⟨g', cap, cur, hv, _, hh, _⟩
  · injection hv with e; subst e; simp [Value.ownBlock] at hg
  · rw [hv] at hg
    have : g' = g := by simpa [Value.ownBlock] using hg
    subst this
    unfold One at h1
    rw [h1] at hh
    injection hh with hh
    injection hh with _ ht
    exact absurd ht (by decide)
end
set_option maxRecDepth 100000 in
theorem ownRef_grow {w w7 : World} {o : Obj} {base a gg cap c : Nat} {A : Option Addr} {L : List (List UInt8)} {b : List UInt8} (h0 : base ≤ a) (h1 : One w a (.slice A L.length c) 49) (h2 : w.ownsRow base 9 1 (.slice A L.length c) L.length (flats encS L)) (hgrow : (w.alloc o).drew.grownBy w7 (Value.slice A L.length c).ownBlock) (hat : (Value.slice A L.length c).ownBlock = some gg ∨ gg = w.heap.size + 1)
    (hown : w7.ownsRow base 9 1 (.slice (some ⟨gg, 0, none⟩) (L.length + 1) cap) (L.length + 1) (flats encS L ++ [.string (strB b)])) :
    OwnRef (w7.setCell ⟨a, 0, none⟩ (.slice (some ⟨gg, 0, none⟩) (L.length + 1) cap)) base a (L ++ [b]) := by
  have hna : (Value.slice A L.length c).ownBlock ≠ some a := fun e => OwnRef.ne h1 h2 e rfl
  have hlt := h1.lt
  have hgg : gg ≠ a := by
    rcases hat with h | h
    · exact OwnRef.ne h1 h2 h
    · omega
  have h7 : One w7 a (.slice A L.length c) 49 := (hgrow.block a (by simp; omega) (Ne.symm hna)).trans ((Below.heap_alloc w o a hlt).trans h1)
  refine ⟨h0, some ⟨gg, 0, none⟩, cap, ?_, ?_⟩
  · rw [List.length_append, List.length_singleton]
    exact h7.set_
  · rw [List.length_append, List.length_singleton, flats_append, flats_one]
    exact hown.kept (row := some a) ⟨rfl, rfl, rfl, by simp [World.setCell], fun k _ hne => Below.heap_setCell w7 ⟨a, 0, none⟩ _ k (fun e => hne (by rw [e]))⟩ (.inr (by simp [Value.ownBlock]; exact hgg))
set_option maxRecDepth 100000 in
set_option maxHeartbeats 3200000 in
theorem ref3Of_any (w : World) (S : Nat → Prop) (v : Value) (l : List UInt8) (hS : ∀ b, S b → b < w.heap.size) (h : IsBytes w S v l) (hn : l.length ≤ 140737488355328) :
    Calls Try.prog 8 #[v] w fun e w' => ∃ a, e = .returned (.pointer (some ⟨a, 0, none⟩)) ∧ OwnRef w' w.heap.size a (chunk l (blocksN l.length)) ∧ Below w.heap.size w w' := by
  obtain ⟨A, c, rfl, hc, hr⟩ := h
  have hk1 : Below w.heap.size w (w.alloc (.cells #[.slice none 0 0] 49)) := (Below.refl _ _).alloc (Nat.le_refl _) _
  have hor : OwnRef (w.alloc (.cells #[.slice none 0 0] 49)) w.heap.size w.heap.size (chunk l 0) := ⟨Nat.le_refl _, none, 0, One.new w _ _, World.ownsRow_nil _ _ _ _⟩
  have HR := Lib.hid hr
  have hbl := blocksN_le l.length
  clear hr
  generalize hnn : l.length = n at *
  have HN := Lib.hid hnn
  have HBN := Lib.hid (show blocksN n = min (n / 256) 14400 from rfl)
  clear hnn
  generalize blocksN n = nb at *
  go_enter Try.func8, Try.ntmps8
  go_wp2_with fail
  go_loopw [0] (fun t wr => ∃ (k : Nat) (A' : Option Addr) (c' m : Nat), t = .slice A' m c' ∧ k ≤ nb ∧ m = n - k * 256 ∧ m ≤ c' ∧ ByteRow w S A' (l.drop (k * 256)) ∧ OwnRef wr w.heap.size w.heap.size (chunk l k) ∧ Below w.heap.size w wr) (fun t _ => match t with | .slice _ m _ => m | _ => 0)
  case atStart => exact ⟨0, A, c, n, rfl, by omega, by omega, hc, by simpa using HR.out, hor, hk1⟩
  case round =>
    clear hor hk1
    obtain ⟨k, A', c', m, rfl, hk, hm, hmc, hrow, hor, hB⟩ := hrel
    have hchl := chunk_len l k
    have hoo := hor
    obtain ⟨h0, Al, cl, h1, h2⟩ := hor
    rw [hchl] at h1
    have hce := h1.cell
    have hdl : (l.drop (k * 256)).length = m := by rw [List.length_drop, HN.out]; omega
    have HDL := Lib.hid hdl
    have HM := Lib.hid hm
    clear hm hdl h0
    by_cases hge : 256 ≤ m ∧ k < 14400
    · obtain ⟨hg1, hg2⟩ := hge
      obtain ⟨b, off, rfl, hSb, _⟩ := bytes_cells hrow (by rw [HDL.out]; omega)
      have hsub : ByteRow wr.drew S (some ⟨b, off, none⟩) (blkOf l k) := (RowOf.take hrow 256).keep (flat_stable _) (fun _ h => h) (keep_below hB.drew hS)
      have hbl2 : (blkOf l k).length = 256 := by unfold blkOf; rw [List.length_take, HDL.out]; omega
      have hcv := conv_bytes (c := c') 22 5 Try.underlying22 Try.underlying5 hsub 9 Try.underlying9
      rw [hbl2] at hcv
      have hnext := RowOf.drop (k := 256) hrow (by rw [HDL.out]; omega) (by rw [HDL.out]; exact hmc)
      rw [List.drop_drop, show k * 256 + 256 = (k + 1) * 256 by omega] at hnext
      have HNX := Lib.hid hnext
      have hgr := fun (w7 : World) (o : Obj) (gg cap : Nat) => ownRef_grow (w := wr) (w7 := w7) (o := o) (base := w.heap.size) (a := w.heap.size) (gg := gg) (cap := cap) (c := cl) (A := Al) (L := chunk l k) (b := blkOf l k) (Nat.le_refl _) (by rw [hchl]; exact h1) h2
      rw [hchl] at hgr h2
      rw [← chunk_succ] at hgr
      have HGR := Lib.hid hgr
      have HH2 := Lib.hid h2
      have hfz := h1.free
      have hal := h1.lt
      have hzz := hB.size
      have hna : (Value.slice Al k cl).ownBlock ≠ some w.heap.size := fun e => OwnRef.ne h1 h2 e rfl
      obtain ⟨i0, hi0, hz0, hz1, hz2⟩ := info_parts info_str
      have i1 : (256 : Int) ≤ (c' : Int) := by omega
      have i2 : (256 : Int) ≤ (m : Int) := by omega
      clear hsub hnext hgr h2 hrow hoo hchl hbl2
      generalize strB (blkOf l k) = sb at *
      have HCA := Lib.hid (fun o => (Below.cell (p := ⟨w.heap.size, 0, none⟩) (((Below.refl wr.heap.size wr).alloc (Nat.le_refl _) o).drew) hal).trans hce)
      have HFA := Lib.hid (fun o => (Below.frozen (p := ⟨w.heap.size, 0, none⟩) (((Below.refl wr.heap.size wr).alloc (Nat.le_refl _) o).drew) hal).trans hfz)
      go_wp2_with fail
      go_region_law
        ((refine step_append_lies _ (by rfl) _ _ _ (by rfl) w.heap.size 9 i0 _ 1 16 Try.underlying47 hi0 hz0 hz1 hz2 rfl (by omega) (.slice Al k cl) k (flats encS (chunk l k)) (by rfl) ((HH2.out.alloc _).drew) ⟨wr.heap.size, 0, none⟩ 1 1 [.string sb] (by rfl) (by rfl) (World.news_of_block (cs := #[.string sb]) (t := 9) (fr := (0, 0)) (heap_alloc_new wr _)) (by simp [Value.oneCell']) (by omega) (by unfold maxLen; omega) (by omega) (by simp; omega) (wr.heap.size + 1) (by simp) ?_; intro gg cap w7 hown1 hgrow hat hlt; have hc7 := (hgrow.cell_far ⟨w.heap.size, 0, none⟩ (by simp; omega) (Ne.symm hna)).trans (HCA.out _); have hfz7 := (hgrow.frozen_far ⟨w.heap.size, 0, none⟩ (by simp; omega) (Ne.symm hna)).trans (HFA.out _)))
      all_goals (
        have hnew := HGR.out w7 _ gg cap hgrow hat hown1
        have hbel : Below w.heap.size w (w7.setCell ⟨w.heap.size, 0, none⟩ (.slice (some ⟨gg, 0, none⟩) (k + 1) cap)) := (((hB.alloc hzz (.cells #[.string sb] 9)).drew).grown hgrow (by simp; omega) (fun i hi => (HH2.out.lt i hi).1)).setCell (p := ⟨w.heap.size, 0, none⟩) (Nat.le_refl _) _
        have HNEW := Lib.hid hnew
        have HBEL := Lib.hid hbel
        have hk' : k + 1 ≤ nb := by
          have h3 := HM.out
          have h4 := HBN.out
          omega
        clear hnew hbel hcv hown1 hgrow hc7 hfz7 hce h1 hfz
        have hnx := HNX.out
        by_cases hcc : c' = 256
        · have hm2 : m = 256 := by omega
          rw [if_pos hcc] at hnx
          have HNX2 := Lib.hid hnx
          subst hm2
          subst hcc
          clear hnx
          go_wp2_with fail
          go_roundw
          case rel => exact ⟨k + 1, some ⟨b, off, none⟩, 0, 0, rfl, hk', by have := HM.out; omega, by omega, HNX2.out, HNEW.out, HBEL.out⟩
          case measure => simp <;> omega
        · rw [if_neg hcc] at hnx
          have HNX2 := Lib.hid hnx
          clear hnx
          go_wp2_with fail
          go_roundw
          case rel => exact ⟨k + 1, some ⟨b, off + 256, none⟩, c' - 256, m - 256, rfl, hk', by have := HM.out; omega, by omega, HNX2.out, HNEW.out, HBEL.out⟩
          case measure => simp <;> omega)
    · have hke : k = nb := by
        have h3 := HM.out
        have h4 := HBN.out
        omega
      have HKE := Lib.hid hke
      have HOO := Lib.hid hoo
      clear hke hoo h2 hrow
      by_cases hg1 : 256 ≤ m
      · have hg2 : ¬ k < 14400 := by omega
        clear hge
        go_wp2_with fail
        go_ret
        exact ⟨_, rfl, by rw [← HKE.out]; exact HOO.out, hB⟩
      · clear hge
        go_wp2_with fail
        go_ret
        exact ⟨_, rfl, by rw [← HKE.out]; exact HOO.out, hB⟩
end Go.Proofs.Ytlogabbnnbcokaa
