/- scantlinglaw52.lives says yes. No condition. -/
import Derived.Test.YtecnkeakmedgnaaWRef52c
import Derived.Test.YtecnkeakmedgnaaWSameM
namespace Go.Proofs.Ytecnkeakmedgnaa
open Go.RowKit Go.Shelf
attribute [local go_sem] Oper.semAt_some

/-- A block of mappings of the call's own reads as them. -/
theorem blockMaps {w : World} {S : Nat → Prop} {g n c : Nat} {cs : Array Value} {t : TypeId} {l : List Mp} (hg : w.heap[g]? = some (.cells cs t (0, 0))) (hcs : cs.toList = flats Mp.enc l) (hn : n = l.length) (hc : n ≤ c) (hS : S g) : IsMaps w S (.slice (some ⟨g, 0, none⟩) n c) l := IsSl.block Mp.enc_len hg hcs hn hc hS
theorem own_maps {w : World} {base n c : Nat} {A : Option Addr} {l : List Mp} {e : TypeId} (h : w.ownsRow base e 3 (.slice A n c) n (flats Mp.enc l)) : IsMaps w (Lt w.heap.size) (.slice A n c) l := (IsSl.own (d := mp0) Mp.enc_len h (by omega)).keep rmp_stable (fun _ h => h.2) Keep.refl
def exA : List Mp := [⟨1, 5, 0⟩, ⟨2, 6, 0⟩]
def exB : List Mp := [⟨2, 9, 0⟩, ⟨3, 7, 0⟩]
def exC : List Mp := [⟨1, 5, 0⟩, ⟨2, 9, 0⟩, ⟨3, 7, 0⟩]
theorem exO : overR exA exB = exC := by
  unfold overR
  rw [if_pos (by rfl)]
  simp [exA, exB, exC, mergeO]
abbrev exAc : Array Value := #[.int .i64 1, .int .i64 5, .int .i64 0, .int .i64 2, .int .i64 6, .int .i64 0]
abbrev exBc : Array Value := #[.int .i64 2, .int .i64 9, .int .i64 0, .int .i64 3, .int .i64 7, .int .i64 0]
abbrev exCc : Array Value := #[.int .i64 1, .int .i64 5, .int .i64 0, .int .i64 2, .int .i64 9, .int .i64 0, .int .i64 3, .int .i64 7, .int .i64 0]
set_option maxHeartbeats 1600000 in
theorem lives52 (w : World) : Calls Try.prog 5 #[] w fun e w' => e = .returned (.bool true) ∧ Below w.heap.size w w' := by
  have hB2 : Below w.heap.size w ((w.alloc (.cells exAc 41)).alloc (.cells exBc 41)) := ((Below.refl _ _).alloc (Nat.le_refl _) _).alloc (by simp) _
  have hA : IsMaps ((w.alloc (.cells exAc 41)).alloc (.cells exBc 41)) (Lt (w.heap.size + 2)) (.slice (some ⟨w.heap.size, 0, none⟩) 2 2) exA := blockMaps (cs := exAc) (t := 41) ((Below.heap_alloc _ _ _ (by simp)).trans (heap_alloc_new w _)) rfl rfl (by omega) (by show w.heap.size < w.heap.size + 2; omega)
  have hBm : IsMaps ((w.alloc (.cells exAc 41)).alloc (.cells exBc 41)) (Lt (w.heap.size + 2)) (.slice (some ⟨w.heap.size + 1, 0, none⟩) 2 2) exB := blockMaps (cs := exBc) (t := 41) (by have := heap_alloc_new (w.alloc (.cells exAc 41)) (.cells exBc 41); rwa [World.size_alloc] at this) rfl rfl (by omega) (by show w.heap.size + 1 < w.heap.size + 2; omega)
  have hov := over_any ((w.alloc (.cells exAc 41)).alloc (.cells exBc 41)) (Lt (w.heap.size + 2)) _ _ exA exB (fun b hb => by rw [World.size_alloc, World.size_alloc]; exact hb) hA hBm (by decide) (by decide)
  rw [exO, show chkAll [exA, exB] = 0 from rfl] at hov
  unfold ResIs at hov
  have HOV := Lib.hid hov
  have HB2 := Lib.hid hB2
  have hsa : ∀ w' A n c, n = exC.length → w'.ownsRow ((w.alloc (.cells exAc 41)).alloc (.cells exBc 41)).heap.size 41 3 (.slice A n c) n (flats Mp.enc exC) → Calls Try.prog 10 #[.slice A n c, .slice (some ⟨w'.heap.size, 0, none⟩) 3 3] (w'.alloc (.cells exCc 41)) fun e w'' => e = .returned (.bool true) ∧ Below w'.heap.size w' w'' := fun w' A n c hn hown => by
    have hB3 : Below w'.heap.size w' (w'.alloc (.cells exCc 41)) := (Below.refl _ _).alloc (Nat.le_refl _) _
    have h2 : IsMaps (w'.alloc (.cells exCc 41)) (fun _ => True) (.slice (some ⟨w'.heap.size, 0, none⟩) 3 3) exC := blockMaps (cs := exCc) (t := 41) (heap_alloc_new w' _) rfl rfl (by omega) trivial
    refine (rsameMaps_any _ _ _ _ _ exC exC ((own_maps hown).keep rmp_stable (fun _ h => h) (keep_below hB3 (fun _ h => h))) h2 (by decide)).mono ?_
    rintro e w'' ⟨rfl, m, rfl⟩
    exact ⟨by simp, below_drewN hB3 m⟩
  have HSA := Lib.hid hsa
  clear hA hBm hov hB2 hsa
  go_enter Try.func5, Try.ntmps5
  go_wp2_with (first
    | (go_at_call 6; refine HOV.out.mono ?_; rintro e w1 ⟨A1, n1, c1, hn1, rfl, hown1, hB1⟩; have HN1 := Lib.hid hn1; clear hn1)
    | (go_at_call 10; refine (HSA.out _ _ _ _ HN1.out hown1).mono ?_; rintro e w2 ⟨rfl, hB2⟩))
  go_ret
  have hk1 := HB2.out.trans (hB1.mono HB2.out.size)
  exact ⟨rfl, hk1.trans (hB2.mono hk1.size)⟩
end Go.Proofs.Ytecnkeakmedgnaa
