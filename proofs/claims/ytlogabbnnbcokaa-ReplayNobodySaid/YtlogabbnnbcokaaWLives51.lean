/- scantlinglaw51.lives says yes. No condition. -/
import Derived.Test.YtlogabbnnbcokaaWFew51
import Derived.Test.YtlogabbnnbcokaaRegT
namespace Go.Proofs.Ytlogabbnnbcokaa
open Go.RowKit
attribute [local go_sem] Oper.semAt_some

theorem madeBytes (n : Nat) : (madeCells (Value.int .u8 0).cells (n * 1)).toList = flats encB (List.replicate n 0) := by
  rw [flats_encB, List.map_replicate, Nat.mul_one]
  exact toList_madeCells_one _ n
/-- The string of a slice of bytes, in whatever later world. -/
def ConvIs (w : World) (A : Option Addr) (n c : Nat) (b : List UInt8) : Prop := ∀ w', Below w.heap.size w w' → (convert 22 9 (.slice A n c)).run Try.prog w' = .ok (.string (strB b)) w'
theorem convIs {w : World} {S : Nat → Prop} {A : Option Addr} {n c : Nat} {b : List UInt8} (hS : ∀ b, S b → b < w.heap.size) (hn : b.length = n) (h : ByteRow w S A b) : ConvIs w A n c b := fun w' hB => by
  subst hn
  exact conv_bytes (c := c) 22 5 Try.underlying22 Try.underlying5 (h.keep (flat_stable _) (fun _ h => h) (keep_below hB hS)) 9 Try.underlying9
theorem ConvIs.later {w w1 : World} {A : Option Addr} {n c : Nat} {b : List UInt8} (h : ConvIs w A n c b) (hB : Below w.heap.size w w1) : ConvIs w1 A n c b := fun w' hB' => h w' (hB.trans (hB'.mono hB.size))
theorem ownRow_conv {w : World} {base n c : Nat} {A : Option Addr} {b : List UInt8} (h : w.ownsRow base 5 1 (.slice A n c) n (flats encB b)) : ConvIs w A n c b := by
  obtain ⟨A', c', e, hc, hr⟩ := IsSl.own (d := (0 : UInt8)) encB_len h (by omega)
  injection e with e1 e2 e3
  subst e1 e3
  exact convIs (fun b hb => hb.2) e2.symm hr
theorem one_write {w : World} {S : Nat → Prop} {G g n c : Nat} {x : Wr} (hblk : w.heap[G]? = some (.cells #[.int .i64 x.no, .slice (some ⟨g, 0, none⟩) n c] 30 (0, 0))) (hn : n = x.bytes.length) (hc : n ≤ c) (hrow : ByteRow w S (some ⟨g, 0, none⟩) x.bytes) (hG : S G) : IsWrs w S (.slice (some ⟨G, 0, none⟩) 1 1) [x] := by
  subst hn
  refine ⟨_, 1, rfl, Nat.le_refl _, fun _ => ⟨G, 0, rfl, hG, fun k hk => ?_⟩⟩
  obtain rfl : k = 0 := by simp at hk; omega
  refine ⟨[.int .i64 x.no, .slice (some ⟨g, 0, none⟩) x.bytes.length c], rfl, ⟨_, _, rfl, hc, hrow⟩, fun j u hu => ?_⟩
  rcases j with _ | _ | j
  · simp at hu; subst hu; simp [World.cell?, hblk]
  · simp at hu; subst hu; simp [World.cell?, hblk]
  · simp at hu
set_option maxRecDepth 100000 in
theorem half_conv {w : World} {base g c : Nat} {b b' : List UInt8} (h : w.ownsRow base 5 1 (.slice (some ⟨g, 0, none⟩) 512 c) 512 (flats encB b)) (hd : b.drop 256 = b') (hl : b.length = 512) : (convert 22 9 (.slice (some ⟨g, 256, none⟩) 256 (c - 256))).run Try.prog w = .ok (.string (strB b')) w := by
  obtain ⟨A', c', e, hc, hr⟩ := IsSl.own (d := (0 : UInt8)) encB_len h (by omega)
  injection e with e1 e2 e3
  subst e1 e3
  have h1 := RowOf.drop (k := 256) hr (by omega) hc
  rw [if_neg (by omega), hd] at h1
  have h2 : b'.length = 256 := by rw [← hd, List.length_drop, hl]
  exact (convIs (S := Btw base w.heap.size) (c := c - 256) (fun b hb => hb.2) h2 (by simpa [add_lit] using h1)) w (Below.refl _ _)
set_option maxRecDepth 100000 in
set_option maxHeartbeats 6400000 in
theorem lives51 (w : World) : Calls Try.prog 6 #[] w fun e w' => e = .returned (.bool true) ∧ Below w.heap.size w w' := by
  obtain ⟨i0, hi, hz0, hz1, hz2⟩ := info_parts info_u8
  have hl0 : (List.replicate 256 (0 : UInt8)).length = 256 := by simp
  have hl5 : (List.replicate 512 (0 : UInt8)).length = 512 := by simp
  have hset : (flats encB (List.replicate 256 (0 : UInt8))).set 0 (.int .u8 7) = flats encB ((List.replicate 256 (0 : UInt8)).set 0 7) := by simp only [flats_encB, List.map_set]; rfl
  have hl7 : ((List.replicate 256 (0 : UInt8)).set 0 7).length = 256 := by simp
  have hget : (flats encB (List.replicate 256 (0 : UInt8)))[0]? = some (.int .u8 0) := by rw [flats_encB, List.map_replicate]; rfl
  have HSET := Lib.hid hset
  have HGET := Lib.hid hget
  have HL7 := Lib.hid hl7
  have HL0 := Lib.hid hl0
  have HL5 := Lib.hid hl5
  clear hset hget hl7 hl0 hl5
  generalize hz7 : (List.replicate 256 (0 : UInt8)).set 0 7 = b7 at *
  generalize hz256 : List.replicate 256 (0 : UInt8) = z2 at *
  generalize hz512 : List.replicate 512 (0 : UInt8) = z5 at *
  have HZ2 := Lib.hid hz256
  have HZ5 := Lib.hid hz512
  clear hz7 hz256 hz512
  have htk : z5.take (blocksN z5.length * 256) = z5 := List.take_of_length_le (by rw [HL5.out]; unfold blocksN; omega)
  have ha0 : doF [⟨1, b7⟩] z5 (List.range (withinN 0 ([⟨1, b7⟩] : List Wr).length).toNat) = z5 := rfl
  have ha1 : doF [⟨1, b7⟩] z5 (List.range (withinN 1 ([⟨1, b7⟩] : List Wr).length).toNat) = wrF z5 1 b7 := rfl
  have hy : wrF z5 1 b7 = z5.take 256 ++ b7 ++ z5.drop 512 := by
    unfold wrF
    rw [if_pos ⟨⟨by omega, by rw [HL5.out]; omega⟩, HL7.out⟩]
    rfl
  have hyl : (wrF z5 1 b7).length = 512 := by rw [wrF_len, HL5.out]
  have hyd : (wrF z5 1 b7).drop 256 = b7 := by
    rw [hy, List.append_assoc, List.drop_append, List.length_take, HL5.out, List.drop_of_length_le (by rw [List.length_take]; omega), List.drop_of_length_le (l := z5) (by rw [HL5.out]; omega)]
    simp
  have HTK := Lib.hid htk
  have HA0 := Lib.hid ha0
  have HA1 := Lib.hid ha1
  have HYL := Lib.hid hyl
  have HYD := Lib.hid hyd
  clear htk ha0 ha1 hy hyl hyd
  generalize wrF z5 1 b7 = y5 at *
  go_enter Try.func6, Try.ntmps6
  go_wp2_with (first
    | (at_make; have _ := q0; go_loud (refine wpList_make_full _ rfl _ _ 22 rfl w1.heap.size 5 i0 (.int .u8 0) 1 Try.underlying22 hi hz0 hz1 _ _ _ _ 512 rfl rfl rfl rfl (by rw [hz2]; omega) (by unfold maxLen; omega) (by simp) ?_); intro w3 hown3 hg3; rw [madeBytes, HZ5.out] at hown3; have hsz3 := hg3.size; simp only [World.size_setCell] at hown3 hsz3; clear q0)
    | (at_make; have _tk := HGET; go_loud (refine wpList_make_full _ rfl _ _ 22 rfl w.heap.size 5 i0 (.int .u8 0) 1 Try.underlying22 hi hz0 hz1 _ _ _ _ 256 rfl rfl rfl rfl (by rw [hz2]; omega) (by unfold maxLen; omega) (Nat.le_refl _) ?_); intro w1 hown hg; rw [madeBytes, HZ2.out] at hown; have q0 := (hown.cellAt 0 (by omega)).trans HGET.out; have q1 := hown.frozenAt 0; clear HGET _tk))
  have hlt1 : w.heap.size < w1.heap.size := (hown.lt _ rfl).2
  have hB1 : Below w.heap.size w w1 := (Below.refl _ w).grown hg (Nat.le_refl _) (fun k hk => by cases hk)
  have hB3 : Below w.heap.size w w3 := (hB1.setCell (p := ⟨w.heap.size, 0, none⟩) (Nat.le_refl _) (.int .u8 7)).grown hg3 (by simp; omega) (fun k hk => by cases hk)
  have hs7 := (hown.stored 0 (.int .u8 7)).1
  rw [HSET.out] at hs7
  have hb3 := hs7.kept hg3 (.inr (by simp [Value.ownBlock]))
  have hr3 := IsSl.own (d := (0 : UInt8)) encB_len hown3 (by omega)
  have hsz : w.heap.size < w3.heap.size := by omega
  clear hs7 hown hg hg3 hown3 q1
  refine (imageOf_any w3 (Btw w1.heap.size w3.heap.size) _ z5 (fun b hb => hb.2) hr3 (by rw [HL5.out]; omega)).mono ?_
  rintro e w4 ⟨a4, rfl, hI4, hB4⟩
  rw [HTK.out] at hI4
  have hB4' := hB3.trans (hB4.mono hB3.size)
  have hz4 := hB4.size
  have hblk : (w4.alloc (.cells #[.int .i64 1, .slice (some ⟨w.heap.size, 0, none⟩) 256 256] 30)).heap[w4.heap.size]? = some (.cells #[.int .i64 1, .slice (some ⟨w.heap.size, 0, none⟩) 256 256] 30 (0, 0)) := heap_alloc_new w4 _
  have hB45 : Below w4.heap.size w4 (w4.alloc (.cells #[.int .i64 1, .slice (some ⟨w.heap.size, 0, none⟩) 256 256] 30)) := (Below.refl _ _).alloc (Nat.le_refl _) _
  have hs5 : (w4.alloc (.cells #[.int .i64 1, .slice (some ⟨w.heap.size, 0, none⟩) 256 256] 30)).heap.size = w4.heap.size + 1 := by simp
  have hk5 : Below (w4.heap.size + 1) (w4.alloc (.cells #[.int .i64 1, .slice (some ⟨w.heap.size, 0, none⟩) 256 256] 30)) (w4.alloc (.cells #[.int .i64 1, .slice (some ⟨w.heap.size, 0, none⟩) 256 256] 30)) := Below.refl _ _
  obtain ⟨w5, hw5⟩ : ∃ w5, w5 = w4.alloc (.cells #[.int .i64 1, .slice (some ⟨w.heap.size, 0, none⟩) 256 256] 30) := ⟨_, rfl⟩
  rw [← hw5] at hblk hB45 hs5
  have hk5 : Below w5.heap.size w5 (w4.alloc (.cells #[.int .i64 1, .slice (some ⟨w.heap.size, 0, none⟩) 256 256] 30)) := by rw [← hw5]; exact Below.refl _ _
  have hB5 := hB4'.trans (hB45.mono hB4'.size)
  have hb5 : w5.ownsRow w.heap.size 5 1 (.slice (some ⟨w.heap.size, 0, none⟩) 256 256) 256 (flats encB b7) := own_at hb3 (((hB45.mono (by omega)).block _ (show w.heap.size < w3.heap.size from hsz)).trans (hB4.block _ hsz))
  have hI5 := hI4.below hB45 (Nat.le_refl _)
  obtain ⟨A7, c7, e7, hc7, hr7⟩ := IsSl.own (d := (0 : UInt8)) encB_len hb5 (by omega)
  have hcv7 := ownRow_conv hb5
  injection e7 with e7a e7b e7c
  subst e7a e7c
  have hiw : IsWrs w5 (Lt w5.heap.size) (.slice (some ⟨w4.heap.size, 0, none⟩) 1 1) [⟨1, b7⟩] := one_write hblk HL7.out.symm (by omega) (hr7.keep (flat_stable _) (fun b hb => hb.2) Keep.refl) (by show w4.heap.size < w5.heap.size; omega)
  have hap := fun w' n (hB : Below w5.heap.size w5 w') => apply_any w' (Lt w5.heap.size) (Lt w5.heap.size) a4 z5 _ [⟨1, b7⟩] n (fun b hb => Nat.lt_of_lt_of_le hb hB.size) ((hI5.is (fun _ _ h => h)).below hB (fun _ h => h)) (by rw [HL5.out]; omega) (fun b hb => Nat.lt_of_lt_of_le hb hB.size) (hiw.keep rwr_stable (fun _ h => h) (keep_below hB (fun _ h => h))) (by simp) (fun k hk => by
    obtain rfl : k = 0 := by simp at hk; omega
    show b7.length ≤ _
    rw [HL7.out]; omega)
  have hap0 := fun w' hB => hap w' 0 hB
  have hap1 := fun w' hB => hap w' 1 hB
  rw [HA0.out] at hap0
  rw [HA1.out] at hap1
  have HAP0 := Lib.hid hap0
  have HAP1 := Lib.hid hap1
  have HI5 := Lib.hid hI5
  have HCV7 := Lib.hid hcv7
  have HB5 := Lib.hid hB5
  clear hap hap0 hap1 hI5 hcv7 hiw hr7 hb5 hblk hB45 hI4 hr3 hb3 hB3 hB4 hB4' hB1 hB5 hw5 HA0 HA1 HTK HSET HZ2 HZ5 e7b hc7
  go_wp2_with (first
    | (go_at_call 9; have _ := hk6; refine (HAP1.out _ hk6).mono ?_; rintro e w7 ⟨a7, rfl, hI7, hB7⟩; have hk7 := hk6.trans (hB7.mono hk6.size))
    | (go_at_call 9; refine (HAP0.out _ hk5).mono ?_; rintro e w6 ⟨a6, rfl, hI6, hB6⟩; have hk6 := hk5.trans (hB6.mono hk5.size)))
  have HBY := Lib.hid (fun w' S' a' (bs : List UInt8) (hS' : ∀ b, S' b → b < w'.heap.size) (h : IsImg w' S' a' bs) (hn : bs.length = 512) => imageBytes_any w' S' a' bs hS' h (by omega))
  have hk7d := hk7.drew
  have hI7d : OwnImg w7.drew 0 a7 y5 := OwnImg.low (w := w7.drew) hI7 (Nat.zero_le _)
  have hI6d : OwnImg w7.drew 0 a6 z5 := (hI6.below (hB7.mono (Nat.le_refl _)).drew (Nat.le_refl _)).low (Nat.zero_le _)
  have hI4d : OwnImg w7.drew 0 a4 z5 := (HI5.out.below hk7d (Nat.le_refl _)).low (Nat.zero_le _)
  have cb7 := HCV7.out _ hk7d
  have HI7 := Lib.hid hI7d
  have HI6 := Lib.hid hI6d
  have HI4 := Lib.hid hI4d
  have hkx := Below.refl w7.drew.heap.size w7.drew
  have HB6 := Lib.hid (fun w' (hB : Below w7.drew.heap.size w7.drew w') => HBY.out w' (Lt w'.heap.size) a6 z5 (fun _ h => h) ((HI6.out.below hB (Nat.le_refl _)).is (fun _ _ h => h)) HL5.out)
  have HB4 := Lib.hid (fun w' (hB : Below w7.drew.heap.size w7.drew w') => HBY.out w' (Lt w'.heap.size) a4 z5 (fun _ h => h) ((HI4.out.below hB (Nat.le_refl _)).is (fun _ _ h => h)) HL5.out)
  have HB7 := Lib.hid (fun w' (hB : Below w7.drew.heap.size w7.drew w') => HBY.out w' (Lt w'.heap.size) a7 y5 (fun _ h => h) ((HI7.out.below hB (Nat.le_refl _)).is (fun _ _ h => h)) HYL.out)
  rw [HL5.out] at HB6 HB4
  rw [HYL.out] at HB7
  clear hI7d hI6d hI4d hI7 hI6 hB6 hB7
  refine wp_region_till (T := fun _ => false) (S := fun w' => (convert 22 9 (.slice (some ⟨w.heap.size, 0, none⟩) 256 256)).run Try.prog w' = .ok (.string (strB b7)) w') (by kernel_rfl) cb7 (fun hHeld => ?_)
  refine wpTill_put 0 20 (oi := _) (v := ?_) rfl rfl (by kernel_rfl) (by kernel_rfl) (by kernel_rfl) (by kernel_rfl) (fun _ _ _ h => h) (by rfl) hHeld ?_ ?_
  rotate_left
  · (intro w hSw; go_simp; (try with_reducible rfl))
  (try simp only [Act.put, List.setIfInBounds_toArray, List.set_cons_zero, List.set_cons_succ])
  refine wpTill_put 1 21 (oi := _) (v := ?_) rfl rfl (by kernel_rfl) (by kernel_rfl) (by kernel_rfl) (by kernel_rfl) (fun _ _ _ h => h) (by rfl) hHeld ?_ ?_
  rotate_left
  · (intro w hSw; go_simp; (try with_reducible rfl))
  (try simp only [Act.put, List.setIfInBounds_toArray, List.set_cons_zero, List.set_cons_succ])
  refine wpTill_put 2 22 (oi := _) (v := ?_) rfl rfl (by kernel_rfl) (by kernel_rfl) (by kernel_rfl) (by kernel_rfl) (fun _ _ _ h => h) (by rfl) hHeld ?_ ?_
  rotate_left
  · (intro w hSw; go_simp; (try with_reducible rfl))
  (try simp only [Act.put, List.setIfInBounds_toArray, List.set_cons_zero, List.set_cons_succ])
  refine wpTill_put 3 23 (oi := _) (v := ?_) rfl rfl (by kernel_rfl) (by kernel_rfl) (by kernel_rfl) (by kernel_rfl) (fun _ _ _ h => h) (by rfl) hHeld ?_ ?_
  rotate_left
  · (intro w hSw; go_simp; (try with_reducible rfl))
  (try simp only [Act.put, List.setIfInBounds_toArray, List.set_cons_zero, List.set_cons_succ])
  refine wpTill_put 4 24 (oi := _) (v := ?_) rfl rfl (by kernel_rfl) (by kernel_rfl) (by kernel_rfl) (by kernel_rfl) (fun _ _ _ h => h) (by rfl) hHeld ?_ ?_
  rotate_left
  · (intro w hSw; go_simp; (try with_reducible rfl))
  (try simp only [Act.put, List.setIfInBounds_toArray, List.set_cons_zero, List.set_cons_succ])
  refine wpTill_put 5 25 (oi := _) (v := ?_) rfl rfl (by kernel_rfl) (by kernel_rfl) (by kernel_rfl) (by kernel_rfl) (fun _ _ _ h => h) (by rfl) hHeld ?_ ?_
  rotate_left
  · (intro w hSw; go_simp; (try with_reducible rfl))
  (try simp only [Act.put, List.setIfInBounds_toArray, List.set_cons_zero, List.set_cons_succ])
  refine wpTill_put 6 26 (oi := _) (v := ?_) rfl rfl (by kernel_rfl) (by kernel_rfl) (by kernel_rfl) (by kernel_rfl) (fun _ _ _ h => h) (by rfl) hHeld ?_ ?_
  rotate_left
  · (intro w hSw; go_simp; (try with_reducible rfl))
  (try simp only [Act.put, List.setIfInBounds_toArray, List.set_cons_zero, List.set_cons_succ])
  refine wpTill_put 7 27 (oi := _) (v := ?_) rfl rfl (by kernel_rfl) (by kernel_rfl) (by kernel_rfl) (by kernel_rfl) (fun _ _ _ h => h) (by rfl) hHeld ?_ ?_
  rotate_left
  · (intro w hSw; go_simp; (try with_reducible rfl))
  (try simp only [Act.put, List.setIfInBounds_toArray, List.set_cons_zero, List.set_cons_succ])
  refine wpTill_put 10 30 (oi := _) (v := ?_) rfl rfl (by kernel_rfl) (by kernel_rfl) (by kernel_rfl) (by kernel_rfl) (fun _ _ _ h => h) (by rfl) hHeld ?_ ?_
  rotate_left
  · (intro w hSw; go_simp; (try with_reducible rfl))
  (try simp only [Act.put, List.setIfInBounds_toArray, List.set_cons_zero, List.set_cons_succ])
  refine wpTill_one 8 (o := _) (by kernel_rfl) rfl (fun K hK => ?_)
  go_simp
  refine (HB6.out _ hkx).mono ?_
  rintro e w8 ⟨A8, c8, rfl, hown8, hB8⟩
  have hk8 := hkx.trans (hB8.mono hkx.size)
  have HC8 := Lib.hid (ownRow_conv hown8)
  have cb8 := HCV7.out _ (hk7d.trans (hk8.mono hk7d.size))
  refine hK.out _ _ (fun _ => cb8) (fun hHeld => ?_)
  clear hK K
  (try simp only [Act.put, List.setIfInBounds_toArray, List.set_cons_zero, List.set_cons_succ])
  refine wpTill_more (S' := fun w' => (convert 22 9 (.slice (some ⟨w.heap.size, 0, none⟩) 256 256)).run Try.prog w' = .ok (.string (strB b7)) w' ∧ (convert 22 9 (.slice A8 512 c8)).run Try.prog w' = .ok (.string (strB z5)) w') (fun _ h => h.1) _ _ _ _ ?_
  clear hHeld
  have hHeld := (⟨cb8, HC8.out _ (Below.refl _ _)⟩ : _ ∧ _)
  refine wpTill_put 9 29 (oi := _) (v := ?_) rfl rfl (by kernel_rfl) (by kernel_rfl) (by kernel_rfl) (by kernel_rfl) (fun _ _ _ h => h) (by rfl) hHeld ?_ ?_
  rotate_left
  · (intro w hSw; obtain ⟨hS0, hS1⟩ := hSw; go_simp; (try with_reducible rfl))
  (try simp only [Act.put, List.setIfInBounds_toArray, List.set_cons_zero, List.set_cons_succ])
  refine wpTill_one 11 (o := _) (by kernel_rfl) rfl (fun K hK => ?_)
  go_simp
  refine (HB4.out _ hk8).mono ?_
  rintro e w9 ⟨A9, c9, rfl, hown9, hB9⟩
  have hk9 := hk8.trans (hB9.mono hk8.size)
  have HC9 := Lib.hid (ownRow_conv hown9)
  have cb9 := HCV7.out _ (hk7d.trans (hk9.mono hk7d.size))
  refine hK.out _ _ (fun _ => ⟨cb9, HC8.out _ hB9⟩) (fun hHeld => ?_)
  clear hK K
  (try simp only [Act.put, List.setIfInBounds_toArray, List.set_cons_zero, List.set_cons_succ])
  refine wpTill_more (S' := fun w' => ((convert 22 9 (.slice (some ⟨w.heap.size, 0, none⟩) 256 256)).run Try.prog w' = .ok (.string (strB b7)) w' ∧ (convert 22 9 (.slice A8 512 c8)).run Try.prog w' = .ok (.string (strB z5)) w') ∧ (convert 22 9 (.slice A9 512 c9)).run Try.prog w' = .ok (.string (strB z5)) w') (fun _ h => h.1) _ _ _ _ ?_
  clear hHeld
  have hHeld := (⟨⟨cb9, HC8.out _ hB9⟩, HC9.out _ (Below.refl _ _)⟩ : (_ ∧ _) ∧ _)
  refine wpTill_put 12 32 (oi := _) (v := ?_) rfl rfl (by kernel_rfl) (by kernel_rfl) (by kernel_rfl) (by kernel_rfl) (fun _ _ _ h => h) (by rfl) hHeld ?_ ?_
  rotate_left
  · (intro w hSw; obtain ⟨⟨hS0, hS1⟩, hS2⟩ := hSw; go_simp; (try with_reducible rfl))
  (try simp only [Act.put, List.setIfInBounds_toArray, List.set_cons_zero, List.set_cons_succ])
  refine wpTill_put 13 33 (oi := _) (v := ?_) rfl rfl (by kernel_rfl) (by kernel_rfl) (by kernel_rfl) (by kernel_rfl) (fun _ _ _ h => h) (by rfl) hHeld ?_ ?_
  rotate_left
  · (intro w hSw; obtain ⟨⟨hS0, hS1⟩, hS2⟩ := hSw; go_simp; (try with_reducible rfl))
  (try simp only [Act.put, List.setIfInBounds_toArray, List.set_cons_zero, List.set_cons_succ])
  refine wpTill_put 14 34 (oi := _) (v := ?_) rfl rfl (by kernel_rfl) (by kernel_rfl) (by kernel_rfl) (by kernel_rfl) (fun _ _ _ h => h) (by rfl) hHeld ?_ ?_
  rotate_left
  · (intro w hSw; obtain ⟨⟨hS0, hS1⟩, hS2⟩ := hSw; go_simp; (try with_reducible rfl))
  (try simp only [Act.put, List.setIfInBounds_toArray, List.set_cons_zero, List.set_cons_succ])
  refine wpTill_put 15 35 (oi := _) (v := ?_) rfl rfl (by kernel_rfl) (by kernel_rfl) (by kernel_rfl) (by kernel_rfl) (fun _ _ _ h => h) (by rfl) hHeld ?_ ?_
  rotate_left
  · (intro w hSw; obtain ⟨⟨hS0, hS1⟩, hS2⟩ := hSw; go_simp; (try with_reducible rfl))
  (try simp only [Act.put, List.setIfInBounds_toArray, List.set_cons_zero, List.set_cons_succ])
  refine wpTill_put 16 36 (oi := _) (v := ?_) rfl rfl (by kernel_rfl) (by kernel_rfl) (by kernel_rfl) (by kernel_rfl) (fun _ _ _ h => h) (by rfl) hHeld ?_ ?_
  rotate_left
  · (intro w hSw; obtain ⟨⟨hS0, hS1⟩, hS2⟩ := hSw; go_simp; (try with_reducible rfl))
  (try simp only [Act.put, List.setIfInBounds_toArray, List.set_cons_zero, List.set_cons_succ])
  refine wpTill_put 20 40 (oi := _) (v := ?_) rfl rfl (by kernel_rfl) (by kernel_rfl) (by kernel_rfl) (by kernel_rfl) (fun _ _ _ h => h) (by rfl) hHeld ?_ ?_
  rotate_left
  · (intro w hSw; obtain ⟨⟨hS0, hS1⟩, hS2⟩ := hSw; go_simp; (try with_reducible rfl))
  (try simp only [Act.put, List.setIfInBounds_toArray, List.set_cons_zero, List.set_cons_succ])
  refine wpTill_put 21 41 (oi := _) (v := ?_) rfl rfl (by kernel_rfl) (by kernel_rfl) (by kernel_rfl) (by kernel_rfl) (fun _ _ _ h => h) (by rfl) hHeld ?_ ?_
  rotate_left
  · (intro w hSw; obtain ⟨⟨hS0, hS1⟩, hS2⟩ := hSw; go_simp; (try with_reducible rfl))
  (try simp only [Act.put, List.setIfInBounds_toArray, List.set_cons_zero, List.set_cons_succ])
  refine wpTill_one 17 (o := _) (by kernel_rfl) rfl (fun K hK => ?_)
  go_simp
  refine (HB7.out _ hk9).mono ?_
  rintro e w10 ⟨A10, c10, rfl, hown10, hB10⟩
  have hk10 := hk9.trans (hB10.mono hk9.size)
  have cb10 := HCV7.out _ (hk7d.trans (hk10.mono hk7d.size))
  obtain ⟨g10, cap10, hv10, _, _, hn10⟩ := own_form hown10 (by omega)
  simp only [Value.slice.injEq, true_and] at hv10
  obtain ⟨rfl, rfl⟩ := hv10
  have i1 : (512 : Int) ≤ (c10 : Int) := (by omega)
  have i2 : ¬ c10 = 256 := (by omega)
  have cc10 := half_conv hown10 HYD.out HYL.out
  refine hK.out _ _ (fun _ => ⟨⟨cb10, HC8.out _ (hB9.trans (hB10.mono hB9.size))⟩, HC9.out _ hB10⟩) (fun hHeld => ?_)
  clear hK K
  (try simp only [Act.put, List.setIfInBounds_toArray, List.set_cons_zero, List.set_cons_succ])
  refine wpTill_more (S' := fun w' => (((convert 22 9 (.slice (some ⟨w.heap.size, 0, none⟩) 256 256)).run Try.prog w' = .ok (.string (strB b7)) w' ∧ (convert 22 9 (.slice A8 512 c8)).run Try.prog w' = .ok (.string (strB z5)) w') ∧ (convert 22 9 (.slice A9 512 c9)).run Try.prog w' = .ok (.string (strB z5)) w') ∧ (convert 22 9 (.slice (some ⟨g10, 256, none⟩) 256 (c10 - 256))).run Try.prog w' = .ok (.string (strB b7)) w') (fun _ h => h.1) _ _ _ _ ?_
  clear hHeld
  have hHeld := (⟨⟨⟨cb10, HC8.out _ (hB9.trans (hB10.mono hB9.size))⟩, HC9.out _ hB10⟩, cc10⟩ : ((_ ∧ _) ∧ _) ∧ _)
  refine wpTill_put 18 38 (oi := _) (v := ?_) rfl rfl (by kernel_rfl) (by kernel_rfl) (by kernel_rfl) (by kernel_rfl) (fun _ _ _ h => h) (by rfl) hHeld ?_ ?_
  rotate_left
  · (intro w hSw; obtain ⟨⟨⟨hS0, hS1⟩, hS2⟩, hS3⟩ := hSw; go_simp; (try with_reducible rfl))
  (try simp only [Act.put, List.setIfInBounds_toArray, List.set_cons_zero, List.set_cons_succ])
  refine wpTill_put 19 39 (oi := _) (v := ?_) rfl rfl (by kernel_rfl) (by kernel_rfl) (by kernel_rfl) (by kernel_rfl) (fun _ _ _ h => h) (by rfl) hHeld ?_ ?_
  rotate_left
  · (intro w hSw; obtain ⟨⟨⟨hS0, hS1⟩, hS2⟩, hS3⟩ := hSw; go_simp; (try with_reducible rfl))
  (try simp only [Act.put, List.setIfInBounds_toArray, List.set_cons_zero, List.set_cons_succ])
  refine wpTill_put 22 42 (oi := _) (v := ?_) rfl rfl (by kernel_rfl) (by kernel_rfl) (by kernel_rfl) (by kernel_rfl) (fun _ _ _ h => h) (by rfl) hHeld ?_ ?_
  rotate_left
  · (intro w hSw; obtain ⟨⟨⟨hS0, hS1⟩, hS2⟩, hS3⟩ := hSw; go_simp; (try with_reducible rfl))
  (try simp only [Act.put, List.setIfInBounds_toArray, List.set_cons_zero, List.set_cons_succ])
  refine wpTill_put 23 43 (oi := _) (v := ?_) rfl rfl (by kernel_rfl) (by kernel_rfl) (by kernel_rfl) (by kernel_rfl) (fun _ _ _ h => h) (by rfl) hHeld ?_ ?_
  rotate_left
  · (intro w hSw; obtain ⟨⟨⟨hS0, hS1⟩, hS2⟩, hS3⟩ := hSw; go_simp; (try with_reducible rfl))
  (try simp only [Act.put, List.setIfInBounds_toArray, List.set_cons_zero, List.set_cons_succ])
  refine wpTill_put 24 0 (oi := _) (v := ?_) rfl rfl (by kernel_rfl) (by kernel_rfl) (by kernel_rfl) (by kernel_rfl) (fun _ _ _ h => h) (by rfl) hHeld ?_ ?_
  rotate_left
  · (intro w hSw; obtain ⟨⟨⟨hS0, hS1⟩, hS2⟩, hS3⟩ := hSw; go_simp; (try with_reducible rfl))
  (try simp only [Act.put, List.setIfInBounds_toArray, List.set_cons_zero])
  refine wpTill_done (by kernel_rfl) ?_ _
  go_wp2_with fail
  go_ret
  exact ⟨rfl, HB5.out.trans ((hk7d.trans (hk10.mono hk7d.size)).mono HB5.out.size)⟩
end Go.Proofs.Ytlogabbnnbcokaa
