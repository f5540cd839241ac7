/- replay.Torn. Condition: the slices are within the reach. -/
import Derived.Test.YtlogabbnnbcokaaWReplay1
import Derived.Deep.RegionHeld3
namespace Go.Proofs.Ytlogabbnnbcokaa
open Go.RowKit Go.Shelf
attribute [local go_sem] Oper.semAt_some

/-- The first k bytes of a write, over those of a block. -/
def tornB (b x : List UInt8) (k : Int) : List UInt8 := x.take (withinN k 256).toNat ++ b.drop (withinN k 256).toNat
instance (n : Nat) (k : Int) : Decidable (hasB n k) := by unfold hasB; infer_instance
/-- What is left if the next write is torn. -/
def tornF (l : List Wr) (bs : List UInt8) (n k : Int) : List UInt8 :=
  if (withinN n l.length).toNat = l.length ∨ (nth wr0 l (withinN n l.length).toNat).bytes.length ≠ 256 ∨ ¬ hasB bs.length (nth wr0 l (withinN n l.length).toNat).no then doF l bs (List.range (withinN n l.length).toNat)
  else wrF (doF l bs (List.range (withinN n l.length).toNat)) (nth wr0 l (withinN n l.length).toNat).no (tornB (blkOf (doF l bs (List.range (withinN n l.length).toNat)) (nth wr0 l (withinN n l.length).toNat).no.toNat) (nth wr0 l (withinN n l.length).toNat).bytes k)
theorem own_at {w w' : World} {base e size g n c k : Nat} {xs : List Value} (h : w.ownsRow base e size (.slice (some ⟨g, 0, none⟩) n c) k xs) (he : w'.heap[g]? = w.heap[g]?) : w'.ownsRow base e size (.slice (some ⟨g, 0, none⟩) n c) k xs := by
  refine ⟨h.1, ?_⟩
  rcases h.2 with ⟨hv, _⟩ | ⟨g', cap, cur, hv, hb, hg, rest⟩
  · injection hv with e1; cases e1
  · injection hv with e1 e2 e3
    injection e1 with e1
    injection e1 with e1
    subst e1 e2 e3
    exact .inr ⟨g, c, cur, rfl, hb, he.trans hg, rest⟩
/-- One write, made by the call, done to an image. -/
theorem torn_do (w : World) (S0 Sb : Nat → Prop) (a g c : Nat) (j : Int) (bs b : List UInt8) (hS0 : ∀ b, S0 b → b < w.heap.size) (himg : IsImg w S0 a bs) (hbn : bs.length ≤ 140737488355328) (hg : ∀ b, Sb b → b < w.heap.size) (hb : IsBytes w Sb (.slice (some ⟨g, 0, none⟩) 256 c) b) (hbl : b.length = 256) :
    Calls Try.prog 19 #[.pointer (some ⟨a, 0, none⟩), .func (.func 28) #[] #[.pointer (some ⟨w.heap.size + 1, 0, none⟩)]] ((w.alloc (.cells #[.int .i64 j, .slice (some ⟨g, 0, none⟩) 256 c] 30)).alloc (.cells #[.slice (some ⟨w.heap.size, 0, none⟩) 1 1] 23)) fun e w' =>
      ∃ a', e = .returned (.pointer (some ⟨a', 0, none⟩)) ∧ OwnImg w' w.heap.size a' (wrF bs j b) ∧ Below w.heap.size w w' := by
  obtain ⟨A, cb, hv, hcb, hrow⟩ := hb
  injection hv with e1 e2 e3
  subst e1 e3
  obtain ⟨w1, hw1⟩ : ∃ w1, w1 = w.alloc (.cells #[.int .i64 j, .slice (some ⟨g, 0, none⟩) 256 c] 30) := ⟨_, rfl⟩
  have hB1 : Below w.heap.size w w1 := by rw [hw1]; exact (Below.refl _ _).alloc (Nat.le_refl _) _
  have hs1 : w1.heap.size = w.heap.size + 1 := by rw [hw1]; simp
  have hblk : w1.heap[w.heap.size]? = some (.cells #[.int .i64 j, .slice (some ⟨g, 0, none⟩) 256 c] 30 (0, 0)) := by rw [hw1]; exact heap_alloc_new w _
  have hws : WrsIs w1 (fun b => b = w.heap.size ∨ Sb b) (some ⟨w.heap.size, 0, none⟩) [⟨j, b⟩] (fun _ => (some ⟨g, 0, none⟩, c)) := fun _ => by
    refine ⟨w.heap.size, 0, rfl, .inl rfl, fun k hk => ?_⟩
    obtain rfl : k = 0 := by simp at hk; omega
    refine ⟨by simp [World.cell?, hblk]; rfl, by simp [World.cell?, hblk, nth, hbl], by simp [nth, hbl]; omega, ?_⟩
    exact hrow.keep (flat_stable _) (fun b hb => .inr hb) (keep_below hB1 hg)
  have hB2 : Below w1.heap.size w1 (w1.alloc (.cells #[.slice (some ⟨w.heap.size, 0, none⟩) 1 1] 23)) := (Below.refl _ _).alloc (Nat.le_refl _) _
  have hlt : ∀ b, (b = w.heap.size ∨ Sb b) → b < w1.heap.size := fun b hb => hb.elim (fun h => by omega) (fun h => by have := hg b h; omega)
  have hkl : ∀ k, k < [(⟨j, b⟩ : Wr)].length → (nth wr0 [(⟨j, b⟩ : Wr)] k).bytes.length ≤ 140737488355328 := fun k hk => by
    obtain rfl : k = 0 := by simp at hk; omega
    simp [nth, hbl]
  have hdo := do_any (w1.alloc (.cells #[.slice (some ⟨w.heap.size, 0, none⟩) 1 1] 23)) S0 (fun b => b = w.heap.size ∨ Sb b) a bs 28 #[.pointer (some ⟨w1.heap.size, 0, none⟩)] (some ⟨w.heap.size, 0, none⟩) [⟨j, b⟩] (fun _ => (some ⟨g, 0, none⟩, c)) (List.range 1) 1 (fun b hb => by have := hS0 b hb; simp; omega)
    (himg.below (hB1.trans (hB2.mono (by omega))) hS0) hbn (fun b hb => by have := hlt b hb; simp; omega) (hws.keep (keep_below hB2 hlt)) hkl enters_vals
    (fun w' hB => vals_seq (l := [⟨j, b⟩]) (n := 1) hlt hws (by simp) rfl w' hB)
  rw [hs1] at hdo
  rw [← hw1]
  refine hdo.mono ?_
  rintro e w' ⟨a', rfl, hI, hB⟩
  exact ⟨a', rfl, hI.low (by simp; omega), hB1.trans ((hB2.mono (by omega)).trans (hB.mono (by simp; omega)))⟩
set_option maxRecDepth 100000 in
set_option maxHeartbeats 3200000 in
theorem torn_any (w : World) (S0 S : Nat → Prop) (a : Nat) (bs : List UInt8) (v : Value) (l : List Wr) (n k : Int) (hS0 : ∀ b, S0 b → b < w.heap.size) (himg : IsImg w S0 a bs) (hbn : bs.length ≤ 140737488355328) (hS : ∀ b, S b → b < w.heap.size) (hl : IsWrs w S v l) (hnl : l.length ≤ 1099511627776) (hlw : ∀ k, k < l.length → (nth wr0 l k).bytes.length ≤ 140737488355328) :
    Calls Try.prog 13 #[.pointer (some ⟨a, 0, none⟩), v, .int .i64 n, .int .i64 k] w fun e w' => ∃ a', e = .returned (.pointer (some ⟨a', 0, none⟩)) ∧ OwnImg w' w.heap.size a' (tornF l bs n k) ∧ Below w.heap.size w w' := by
  have hap := apply_any w S0 S a bs v l n hS0 himg hbn hS hl hnl hlw
  obtain ⟨A, c, rfl, hc, hr⟩ := hl
  obtain ⟨V, hV⟩ := wrs_cells hr
  have hV : WrsIs w S A l V := hV
  have hT : tornF l bs n k = tornF l bs n k := rfl
  conv at hT => rhs; unfold tornF
  obtain ⟨m, hm, hml⟩ := withinN_nat n l.length
  have hwi := fun (w' : World) => within_any w' n (l.length : Int)
  rw [hm] at hwi
  rw [hm, Int.toNat_natCast] at hap hT
  have hol : (doF l bs (List.range m)).length = bs.length := doF_len _ _ _
  have HWI := Lib.hid hwi
  have HAP := Lib.hid hap
  have HT := Lib.hid hT
  have HOL := Lib.hid hol
  have hon : (doF l bs (List.range m)).length ≤ 140737488355328 := by rw [hol]; exact hbn
  clear hwi hap hT hol himg hm
  generalize tornF l bs n k = res at *
  generalize doF l bs (List.range m) = out at *
  by_cases h1 : m = l.length
  · rw [if_pos (.inl h1)] at HT
    have hb1 : ((m : Int) == (l.length : Int)) = true := by simp [h1]
    clear h1 hV hr hlw
    generalize l.length = nl at *
    go_enter Try.func13, Try.ntmps13
    go_wp2_with (first
      | (go_at_call 21; refine (HWI.out _).mono ?_; rintro e w' ⟨rfl, rfl⟩)
      | (go_at_call 9; refine HAP.out.mono ?_; rintro e w3 ⟨a3, rfl, hI3, hB3⟩))
    go_ret
    exact ⟨a3, rfl, by rw [HT.out]; exact hI3, hB3⟩
  · have hmlt : m < l.length := by omega
    obtain ⟨lb, lo, rfl, hSl, hat⟩ := hV (by omega)
    have hmi : (m : Int) < (l.length : Int) := by omega
    have hb1 : ((m : Int) == (l.length : Int)) = false := by simp; omega
    have hxl := hlw m hmlt
    have HAT := Lib.hid (fun w' (hB : Below w.heap.size w w') => (hat.keep (w' := w') hSl (keep_below hB hS)) m hmlt)
    have hslt := hS lb hSl
    clear hat hlw hr hV
    generalize nth wr0 l m = x at *
    by_cases h2 : x.bytes.length = 256
    · have hb2 : ((x.bytes.length : Int) != 256) = false := by rw [h2]; rfl
      by_cases h3 : hasB bs.length x.no
      · rw [if_neg (by rintro (h | h | h); exact h1 h; exact h h2; exact h h3)] at HT
        obtain ⟨j, hj, hj2⟩ := hasB_nat h3
        have HNO := Lib.hid hj
        have hjo : j * 256 + 256 ≤ out.length := by rw [HOL.out]; exact hj2
        have HRD := Lib.hid (fun w' S' (hS' : ∀ b, S' b → b < w'.heap.size) a' (h : IsImg w' S' a' out) => read_in w' S' a' j out hS' h hon hjo)
        have HBL := Lib.hid (blkOf_len hjo)
        obtain ⟨kk, hkk, hkk2⟩ := withinN_nat k 256
        have hwk := fun (w' : World) => within_any w' k 256
        have hkk' : withinN k 256 = kk := hkk
        rw [hkk'] at hwk
        have HWK := Lib.hid hwk
        have htb : tornB (blkOf out x.no.toNat) x.bytes k = x.bytes.take kk ++ (blkOf out j).drop kk := by unfold tornB; rw [hkk', hj, Int.toNat_natCast, Int.toNat_natCast]
        rw [htb, hj] at HT
        rw [h2] at HAT
        have HX := Lib.hid h2
        clear h1 h2 h3 hj hwk hkk hkk' htb
        generalize hxb : x.bytes = xb at *
        have HXN := Lib.hid hxb
        clear hxb
        generalize blkOf out j = bj at *
        rw [HNO.out] at HAT
        have hki : (kk : Int) ≤ 256 := by omega
        have hki0 : (0 : Int) ≤ (kk : Int) := by omega
        go_enter Try.func13, Try.ntmps13
        go_wp2_with (first
          | (go_at_call 21; refine (HWI.out _).mono ?_; rintro e w' ⟨rfl, rfl⟩)
          | (go_at_call 9; refine HAP.out.mono ?_; rintro e w3 ⟨a3, rfl, hI3, hB3⟩; obtain ⟨c0, c1, hvc, hvr⟩ := HAT.out _ hB3; have hlt3 : lb < w3.heap.size := (by have := hB3.size; omega))
          | (go_at_call 23; refine (HRD.out _ (Lt w3.heap.size) (fun _ h => h) a3 (hI3.is (fun _ _ h => h))).mono ?_; rintro e w4 ⟨A4, c4, rfl, hown4, hB4⟩; obtain ⟨g4, cap4, hv4, hg1, hg2, hnc4⟩ := own_form hown4 (by omega); simp only [Value.slice.injEq, true_and] at hv4; obtain ⟨rfl, rfl⟩ := hv4))
        have hk4 := hB3.trans (hB4.mono hB3.size)
        clear c0 c1 hvr
        obtain ⟨c0, c1, _, hvr⟩ := HAT.out _ hk4
        have hlt4 : lb < g4 := by omega
        obtain ⟨cur, hcur, hcs, hsp⟩ := own_splice hown4
        have hvci : (kk : Int) ≤ ((V m).2 : Int) := by omega
        have hsrc : 0 < (flats encB (xb.take kk)).length → ∃ ad, (V m).1 = some ad ∧ ∀ j v, (flats encB (xb.take kk))[j]? = some v → w4.drew.cell? (ad.add j) = some v := by
          intro hpos
          rw [flatsB_len] at hpos
          obtain ⟨b9, o9, e9, _, hc9⟩ := bytes_cells (RowOf.take hvr kk) hpos
          exact ⟨_, e9, src_cells hc9⟩
        have hcl : (flats encB (xb.take kk)).length = kk := by rw [flatsB_len, List.length_take, HX.out]; omega
        have HSRC := Lib.hid hsrc
        have HCL := Lib.hid hcl
        have HCUR := Lib.hid (show w4.drew.heap[g4]? = some (.cells cur.toList.toArray 5 (0, 0)) by rw [Array.toArray_toList]; exact hcur)
        have HCUR0 := Lib.hid hcur
        have HSP := Lib.hid hsp
        have HOWN4 := Lib.hid hown4
        have HB4 := Lib.hid hB4
        clear hsrc hcl hcur hsp hown4 hvr
        go_region_held3 (fun w' => w'.cell? ⟨lb, lo + m * 2 + 1, none⟩ = some (.slice (V m).1 256 (V m).2))
          (first | go_keep | exact (hb5.cell (p := ⟨lb, lo + m * 2 + 1, none⟩) hlt4).trans c1)
          (first
            | (go_at_call 21; refine (HWK.out _).mono ?_; rintro e w' ⟨rfl, rfl⟩)
            | (refine step_copy_splice rfl _ _ _ _ rfl 5 Try.underlying22 u8_size (some ⟨g4, 0, none⟩) (V m).1 256 c4 kk (V m).2 (by rfl) (by rfl) g4 0 cur.toList 5 HCUR.out (flats encB (xb.take kk)) (by rw [HCL.out]; show kk = min kk 256; omega) (fun hp => ⟨rfl, HSRC.out hp⟩) (by rw [HCL.out, Array.length_toList]; omega) (flatsB_one _) g4 _ (Below.refl _ _) (Nat.le_refl _) ?_; intro w5 hg5 hb5))
        have hb45 : Below g4 w4 w5 := Below.trans (Below.drew (Below.refl g4 w4)) hb5
        have hB35 : Below w3.heap.size w3 w5 := HB4.out.trans (hb45.mono hg1)
        have hI5 := hI3.below hB35 (Nat.le_refl _)
        have hnew := HSP.out 0 (flats encB (xb.take kk)) (by rw [HCL.out]; omega)
        have hfl : (flats encB bj).take 0 ++ (flats encB (xb.take kk) ++ (flats encB bj).drop (0 + (flats encB (xb.take kk)).length)) = flats encB (xb.take kk ++ bj.drop kk) := by
          rw [HCL.out, Nat.zero_add, List.take_zero, List.nil_append]
          simp only [flats_encB, List.map_append, List.map_drop]
        rw [hfl] at hnew
        have hown5 := own_at (w' := w5) hnew (by rw [hg5.out, setRow_heap w4 g4 cur _ 5 (0, 0) HCUR0.out]; rfl)
        have hbl5 : (xb.take kk ++ bj.drop kk).length = 256 := by rw [List.length_append, List.length_take, List.length_drop, HX.out, HBL.out]; omega
        have hby5 := IsSl.own (d := (0 : UInt8)) encB_len hown5 (by omega)
        have hdo := fun w' (hw' : w' = w5) => torn_do w' (Lt w'.heap.size) (Btw w3.heap.size w'.heap.size) a3 g4 c4 (j : Int) out (xb.take kk ++ bj.drop kk) (fun _ h => h) (by rw [hw']; exact hI5.is (fun _ _ h => h)) hon (fun b hb => hb.2) (by rw [hw']; exact hby5) hbl5
        have hdo := hdo w5 rfl
        have HDO := Lib.hid hdo
        have hk5 := hB3.trans (hB35.mono hB3.size)
        obtain ⟨d0, d1, _, _⟩ := HAT.out _ hk5
        have hlt5 : lb < w5.heap.size := by have := hk5.size; omega
        clear hdo hby5 hown5 hfl hnew hI5 hbl5 c0 c1
        go_wp2_with (first
          | (go_at_call 20; refine (values_fn _ _ _ _).mono ?_; rintro e w7 ⟨rfl, rfl⟩)
          | (go_at_call 19; refine HDO.out.mono ?_; rintro e w8 ⟨a8, rfl, hI8, hB8⟩))
        go_ret
        have hz5 := hk5.size
        exact ⟨a8, rfl, by rw [HT.out]; exact hI8.low hz5, hk5.trans (hB8.mono hz5)⟩
      · rw [if_pos (.inr (.inr h3))] at HT
        have HRD := Lib.hid (fun w' S' a' (h : IsImg w' S' a' out) => read_out w' S' a' x.no out h hon (by rw [HOL.out]; exact h3))
        clear h1 h2 h3
        generalize x.bytes.length = xl at *
        go_enter Try.func13, Try.ntmps13
        go_wp2_with (first
          | (go_at_call 21; refine (HWI.out _).mono ?_; rintro e w' ⟨rfl, rfl⟩)
          | (go_at_call 9; refine HAP.out.mono ?_; rintro e w3 ⟨a3, rfl, hI3, hB3⟩; obtain ⟨c0, c1, _, _⟩ := HAT.out _ hB3; have hlt3 : lb < w3.heap.size := (by have := hB3.size; omega))
          | (go_at_call 23; refine (HRD.out _ (fun _ => True) a3 (hI3.is (fun _ _ _ => trivial))).mono ?_; rintro e w4 ⟨rfl, hB4⟩))
        go_ret
        exact ⟨a3, rfl, by rw [HT.out]; exact hI3.below hB4 (Nat.le_refl _), hB3.trans (hB4.mono hB3.size)⟩
    · rw [if_pos (.inr (.inl h2))] at HT
      have hb2 : ((x.bytes.length : Int) != 256) = true := by simp; omega
      have hb3 : ((x.bytes.length : Int) == 256) = false := by simp; omega
      clear h1 h2
      generalize x.bytes.length = xl at *
      generalize l.length = nl at *
      go_enter Try.func13, Try.ntmps13
      go_wp2_with (first
        | (go_at_call 21; refine (HWI.out _).mono ?_; rintro e w' ⟨rfl, rfl⟩)
        | (go_at_call 9; refine HAP.out.mono ?_; rintro e w3 ⟨a3, rfl, hI3, hB3⟩; obtain ⟨c0, c1, _, _⟩ := HAT.out _ hB3))
      go_ret
      exact ⟨a3, rfl, by rw [HT.out]; exact hI3, hB3⟩
end Go.Proofs.Ytlogabbnnbcokaa
