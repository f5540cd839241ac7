/- Package image: block, Read, Write. Condition: the slices are within the reach. -/
import Derived.Test.YtlogabbnnbcokaaWImg
namespace Go.Proofs.Ytlogabbnnbcokaa
open Go.RowKit

theorem u8_size : (Try.prog.info? 5).map (·.size) = some 1 := by kernel_rfl
/-- Is there a block of that number? -/
def hasB (n : Nat) (k : Int) : Prop := 0 ≤ k ∧ k < (n : Int) / 256
set_option maxHeartbeats 1600000 in
theorem block_in (w : World) (a g off n c k : Nat) (h : w.cell? ⟨a, 0, none⟩ = some (.slice (some ⟨g, off, none⟩) n c)) (hc : n ≤ c) (hn : n ≤ 140737488355328) (hk : k * 256 + 256 ≤ n) :
    Calls Try.prog 29 #[.pointer (some ⟨a, 0, none⟩), .int .i64 k] w fun e w' => e = .returned (.tuple #[.slice (some ⟨g, off + k * 256, none⟩) 256 256, .int .i64 0]) ∧ w = w' := by
  have HBL := Lib.hid (fun w' (h : w'.cell? ⟨a, 0, none⟩ = some (.slice (some ⟨g, off, none⟩) n c)) => imageBlocks_any w' a _ n c h hn)
  have h1 : ¬ (n : Int) / 256 ≤ (k : Int) := by omega
  have hd1 : decide ((n : Int) / 256 ≤ (k : Int)) = false := by simp; omega
  have hb : (n : Int) / 256 ≤ 549755813888 := by omega
  have hb0 : (0 : Int) ≤ (n : Int) / 256 := by omega
  have hcc : ¬ c = k * 256 := by omega
  have hcc2 : (c == k * 256) = false := by simp; omega
  generalize (n : Int) / 256 = nb at *
  have e0 : ((k : Int) * 256).toNat = k * 256 := by omega
  have e2 : (((k : Int) + 1) * 256).toNat = k * 256 + 256 := by omega
  have e3 : k * 256 + 256 - k * 256 = 256 := by omega
  go_enter Try.func29, Try.ntmps29
  go_wp2_with (go_at_call 31; refine (HBL.out _ h).mono ?_; rintro e w' ⟨rfl, rfl⟩)
  go_ret2
  exact ⟨rfl, rfl⟩
set_option maxHeartbeats 1600000 in
theorem block_out (w : World) (a n c : Nat) (A : Option Addr) (k : Int) (h : w.cell? ⟨a, 0, none⟩ = some (.slice A n c)) (hn : n ≤ 140737488355328) (hk : ¬ hasB n k) :
    Calls Try.prog 29 #[.pointer (some ⟨a, 0, none⟩), .int .i64 k] w fun e w' => e = .returned (.tuple #[.slice none 0 0, .int .i64 3]) ∧ w = w' := by
  have HBL := Lib.hid (fun w' (h : w'.cell? ⟨a, 0, none⟩ = some (.slice A n c)) => imageBlocks_any w' a _ n c h hn)
  unfold hasB at hk
  by_cases h0 : k < 0
  · clear hk
    go_enter Try.func29, Try.ntmps29
    go_wp2_with (go_at_call 31; refine (HBL.out _ h).mono ?_; rintro e w' ⟨rfl, rfl⟩)
    go_ret2
    exact ⟨rfl, rfl⟩
  · have h1 : (n : Int) / 256 ≤ k := by omega
    have hd0 : decide (k < 0) = false := by simp; omega
    clear hk
    generalize (n : Int) / 256 = nb at *
    go_enter Try.func29, Try.ntmps29
    go_wp2_with (go_at_call 31; refine (HBL.out _ h).mono ?_; rintro e w' ⟨rfl, rfl⟩)
    go_ret2
    exact ⟨rfl, rfl⟩
theorem block_nil (w : World) (k : Int) :
    Calls Try.prog 29 #[.pointer none, .int .i64 k] w fun e w' => e = .returned (.tuple #[.slice none 0 0, .int .i64 18]) ∧ w = w' := by
  go_enter Try.func29, Try.ntmps29
  go_wp2
  go_ret2
  exact ⟨rfl, rfl⟩
/-- The bytes of block k. -/
def blkOf (bs : List UInt8) (k : Nat) : List UInt8 := (bs.drop (k * 256)).take 256
theorem blkOf_len {bs : List UInt8} {k : Nat} (h : k * 256 + 256 ≤ bs.length) : (blkOf bs k).length = 256 := by
  unfold blkOf
  rw [List.length_take, List.length_drop]
  omega
set_option maxRecDepth 100000 in
theorem blkRow {w : World} {S : Nat → Prop} {g off c k : Nat} {bs : List UInt8} (h : ByteRow w S (some ⟨g, off, none⟩) bs) (hc : bs.length ≤ c) (hk : k * 256 + 256 ≤ bs.length) : ByteRow w S (some ⟨g, off + k * 256, none⟩) (blkOf bs k) := by
  have h0 := h.drop (k := k * 256) (by omega) hc
  rw [if_neg (by omega)] at h0
  have h1 : ByteRow w S _ ((bs.drop (k * 256)).take 256) := RowOf.take h0 256
  have e : Option.map (fun x : Addr => x.add (k * 256 * 1)) (some ⟨g, off, none⟩) = some ⟨g, off + k * 256, none⟩ := by
    simp only [Option.map_some, add_lit, Nat.mul_one]
  rw [e] at h1
  exact h1
theorem hasB_nat {n : Nat} {k : Int} (h : hasB n k) : ∃ j : Nat, k = j ∧ j * 256 + 256 ≤ n := by
  obtain ⟨h1, h2⟩ := h
  exact ⟨k.toNat, by omega, by omega⟩
set_option maxHeartbeats 1600000 in
theorem read_in (w : World) (S : Nat → Prop) (a k : Nat) (bs : List UInt8) (hS : ∀ b, S b → b < w.heap.size) (h : IsImg w S a bs) (hn : bs.length ≤ 140737488355328) (hk : k * 256 + 256 ≤ bs.length) :
    Calls Try.prog 23 #[.pointer (some ⟨a, 0, none⟩), .int .i64 k] w fun e w' => ∃ A c, e = .returned (.tuple #[.slice A 256 c, .int .i64 0]) ∧ w'.ownsRow w.heap.size 5 1 (.slice A 256 c) 256 (flats encB (blkOf bs k)) ∧ Below w.heap.size w w' := by
  obtain ⟨h0, A, c, h1, h2, h3⟩ := h
  obtain ⟨g, off, rfl, _⟩ := bytes_cells h3 (by omega)
  have hl := blkOf_len hk
  have hcl := cloneBytes w S (.slice (some ⟨g, off + k * 256, none⟩) 256 256) (blkOf bs k) hS ⟨_, 256, by rw [hl], by omega, blkRow h3 h2 hk⟩ (by omega)
  rw [hl] at hcl
  have HCL := Lib.hid hcl
  have HBL := Lib.hid (block_in w a g off bs.length c k h1 h2 hn hk)
  clear hcl hl h3 h1
  go_enter Try.func23, Try.ntmps23
  go_wp2_with (first
    | (go_at_call 29; refine HBL.out.mono ?_; rintro e w' ⟨rfl, rfl⟩)
    | (go_at_call 18; refine HCL.out.mono ?_; rintro e w1 ⟨A1, c1, rfl, hown, hB⟩))
  go_ret2
  exact ⟨A1, c1, rfl, hown, hB⟩
set_option maxHeartbeats 1600000 in
theorem read_out (w : World) (S : Nat → Prop) (a : Nat) (k : Int) (bs : List UInt8) (h : IsImg w S a bs) (hn : bs.length ≤ 140737488355328) (hk : ¬ hasB bs.length k) :
    Calls Try.prog 23 #[.pointer (some ⟨a, 0, none⟩), .int .i64 k] w fun e w' => e = .returned (.tuple #[.slice none 0 0, .int .i64 3]) ∧ Below w.heap.size w w' := by
  obtain ⟨h0, A, c, h1, h2, h3⟩ := h
  have HCL := Lib.hid (cloneBytes w (fun _ => False) (.slice none 0 0) [] (fun _ h => h.elim) IsSl.nil_ (by simp))
  have HBL := Lib.hid (block_out w a bs.length c A k h1 hn hk)
  clear h3 h1 hk
  go_enter Try.func23, Try.ntmps23
  go_wp2_with (first
    | (go_at_call 29; refine HBL.out.mono ?_; rintro e w' ⟨rfl, rfl⟩)
    | (go_at_call 18; refine (cloneBytes_nil _).mono ?_; rintro e w1 ⟨rfl, rfl⟩))
  go_ret2
  exact ⟨rfl, Below.refl _ _⟩
theorem read_nil (w : World) (k : Int) :
    Calls Try.prog 23 #[.pointer none, .int .i64 k] w fun e w' => e = .returned (.tuple #[.slice none 0 0, .int .i64 18]) ∧ w = w' := by
  go_enter Try.func23, Try.ntmps23
  go_wp2_with (first
    | (go_at_call 29; refine (block_nil _ _).mono ?_; rintro e w' ⟨rfl, rfl⟩)
    | (go_at_call 18; refine (cloneBytes_nil _).mono ?_; rintro e w1 ⟨rfl, rfl⟩))
  go_ret2
  exact ⟨rfl, rfl⟩
/-- What a write of a block leaves. -/
def wrF (bs : List UInt8) (k : Int) (b : List UInt8) : List UInt8 := if (0 ≤ k ∧ k < (bs.length : Int) / 256) ∧ b.length = 256 then bs.take (k.toNat * 256) ++ b ++ bs.drop (k.toNat * 256 + 256) else bs
/-- Only the row of the image at a may have changed. -/
def Touched (w w' : World) (a : Nat) : Prop := ∃ row, (∀ v, w.cell? ⟨a, 0, none⟩ = some v → v.ownBlock = row) ∧ w.grownBy w' row ∧ w'.heap.size = w.heap.size
theorem Touched.same {w : World} {a : Nat} {v : Value} (h : w.cell? ⟨a, 0, none⟩ = some v) : Touched w w a := ⟨v.ownBlock, fun u hu => by rw [h] at hu; injection hu with hu; rw [hu], World.grownBy.refl w _, rfl⟩
theorem own_splice {w : World} {base e g n c : Nat} {xs : List Value} (h : w.ownsRow base e 1 (.slice (some ⟨g, 0, none⟩) n c) n xs) : ∃ cur : Array Value, w.heap[g]? = some (.cells cur e (0, 0)) ∧ n ≤ cur.size ∧ ∀ (off : Nat) (cs : List Value), off + cs.length ≤ n →
    (w.setRow g (cur.toList.take off ++ (cs ++ cur.toList.drop (off + cs.length))).toArray).ownsRow base e 1 (.slice (some ⟨g, 0, none⟩) n c) n (xs.take off ++ (cs ++ xs.drop (off + cs.length))) := by
  have hl := h.1
  rcases h.2 with ⟨hv, _⟩ | ⟨g', cap, cur, hv, hb, hg, hnc, hm, hcs, ht⟩
  · injection hv with e; cases e
  · injection hv with e1 e2 e3
    injection e1 with e1
    injection e1 with e1
    subst e1 e3
    refine ⟨cur, hg, by omega, fun off cs ho => ⟨by simp only [List.length_append, List.length_take, List.length_drop]; omega, .inr ⟨g, c, _, rfl, hb, setRow_heap w g cur _ e (0, 0) hg, hnc, hm, ?_, ?_⟩⟩⟩
    · simp only [List.size_toArray, List.length_append, List.length_take, List.length_drop, Array.length_toList]; omega
    · have ho' : (cur.toList.take off).length = off := by rw [List.length_take, Array.length_toList]; omega
      rw [← ht, Nat.mul_one, List.toList_toArray, List.take_append, List.take_append, ho', List.take_take, List.take_take, List.drop_take, Nat.min_eq_right (by omega), Nat.min_eq_left (show off ≤ n by omega), List.take_of_length_le (show cs.length ≤ n - off by omega), Nat.sub_sub]
theorem src_cells {w : World} {gb ob : Nat} {b : List UInt8} (h : ∀ k, k < b.length → w.cell? ⟨gb, ob + k, none⟩ = some (.int .u8 ((nth 0 b k).toNat : Int))) : ∀ j v, (flats encB b)[j]? = some v → w.cell? ((⟨gb, ob, none⟩ : Addr).add j) = some v := by
  intro j v hj
  have hlt : j < b.length := by have := (List.getElem?_eq_some_iff.1 hj).1; rwa [flatsB_len] at this
  rw [add_lit, h j hlt, nth_get 0 b j hlt]
  rw [flats_encB, List.getElem?_map, List.getElem?_eq_getElem hlt] at hj
  exact hj
theorem grownBy_setRow (w : World) (g : Nat) (cs : Array Value) : w.grownBy (w.setRow g cs) (some g) :=
  ⟨rfl, rfl, rfl, by simp, fun k _ hne => setRow_other w g k cs (fun e => hne (by rw [e]))⟩
/-- What a write leaves: some number, and the bytes bs. -/
def WrImg (w : World) (base a : Nat) (bs : List UInt8) (e : Ending) (w' : World) : Prop := ∃ n, e = .returned (.int .i64 n) ∧ OwnImg w' base a bs ∧ Touched w w' a
set_option maxHeartbeats 3200000 in
theorem write_any (w : World) (S : Nat → Prop) (base a : Nat) (bs : List UInt8) (k : Int) (vb : Value) (b : List UInt8) (h : OwnImg w base a bs) (hn : bs.length ≤ 140737488355328) (hb : IsBytes w S vb b) (_hbn : b.length ≤ 140737488355328) :
    Calls Try.prog 27 #[.pointer (some ⟨a, 0, none⟩), .int .i64 k, vb] w (WrImg w base a (wrF bs k b)) := by
  have hown := h
  obtain ⟨h0, A, c, h1, h2⟩ := h
  obtain ⟨Ab, cb, rfl, hcb, hrb⟩ := hb
  by_cases hk : hasB bs.length k
  · obtain ⟨j, rfl, hj⟩ := hasB_nat hk
    obtain ⟨g, cap, hv, hg1, hg2, hnc⟩ := own_form h2 (by omega)
    injection hv with hv1 hv2 hv3
    subst hv1 hv3
    have hne := OwnImg.ne h1 h2 rfl
    have HBL := Lib.hid (block_in w a g 0 bs.length c j h1.cell hnc hn hj)
    by_cases hbl : b.length = 256
    · have hwr : wrF bs j b = bs.take (j * 256) ++ b ++ bs.drop (j * 256 + 256) := by unfold wrF; rw [if_pos ⟨hk, hbl⟩, Int.toNat_natCast]
      obtain ⟨gb, ob, rfl, hSb, hcl⟩ := bytes_cells hrb (by omega)
      obtain ⟨cur, hcur, hcs, hsp⟩ := own_splice h2
      have hnew := hsp (j * 256) (flats encB b) (by rw [flatsB_len]; omega)
      have hfl : (flats encB bs).take (j * 256) ++ (flats encB b ++ (flats encB bs).drop (j * 256 + (flats encB b).length)) = flats encB (wrF bs j b) := by
        rw [hwr, flatsB_len, hbl]
        simp only [flats_encB, List.map_append, List.map_take, List.map_drop, List.append_assoc]
      have hwl : (wrF bs j b).length = bs.length := by rw [hwr]; simp only [List.length_append, List.length_take, List.length_drop]; omega
      rw [hfl] at hnew
      have h1' : One (w.setRow g (cur.toList.take (j * 256) ++ (flats encB b ++ cur.toList.drop (j * 256 + (flats encB b).length))).toArray) a (.slice (some ⟨g, 0, none⟩) bs.length c) 46 := (setRow_other w g a _ (fun e => hne e.symm)).trans h1
      have hfin : OwnImg (w.setRow g (cur.toList.take (j * 256) ++ (flats encB b ++ cur.toList.drop (j * 256 + (flats encB b).length))).toArray) base a (wrF bs j b) := ⟨h0, _, c, by rw [hwl]; exact h1', by rw [hwl]; exact hnew⟩
      have htt : Touched w (w.setRow g (cur.toList.take (j * 256) ++ (flats encB b ++ cur.toList.drop (j * 256 + (flats encB b).length))).toArray) a := ⟨some g, fun v hv => by rw [h1.cell] at hv; injection hv with hv; rw [← hv]; rfl, grownBy_setRow w g _, by simp⟩
      have HFIN := Lib.hid hfin
      have HTT := Lib.hid htt
      have HSRC := Lib.hid (fun k hk => hcl k hk)
      have HCUR := Lib.hid hcur
      have hbb : ((b.length : Int) != 256) = false := by rw [hbl]; rfl
      have hbb2 : ((b.length : Int) == 256) = true := by rw [hbl]; rfl
      have HBLN := Lib.hid hbl
      clear hfin htt hcl hcur h1' hwl hfl hnew hsp hwr hrb h1 h2 hown hbl hne hSb
      go_enter Try.func27, Try.ntmps27
      go_wp2_with (first
        | (go_at_call 29; refine HBL.out.mono ?_; rintro e w' ⟨rfl, rfl⟩)
        | ((with_reducible refine wpList_copy_own rfl _ _ _ _ rfl 5 Try.underlying22 u8_size g (j * 256) 256 256 ⟨gb, ob, none⟩ b.length cb ?_ ?_ cur 5 HCUR.out (flats encB b) ?_ (src_cells HSRC.out) ?_ (flatsB_one b) ?_); exact rfl; exact rfl; (rw [flatsB_len, HBLN.out]; rfl); (rw [flatsB_len, HBLN.out]; omega)))
      go_ret
      exact ⟨0, rfl, HFIN.out, HTT.out⟩
    · have hwr : wrF bs j b = bs := by unfold wrF; rw [if_neg (fun h => hbl h.2)]
      have HW := Lib.hid hwr
      have HC := Lib.hid h1.cell
      have hbb : ((b.length : Int) != 256) = true := by simp; omega
      have hbb2 : ((b.length : Int) == 256) = false := by simp; omega
      have HH := Lib.hid hown
      clear hwr hrb h1 h2 hown hbl
      generalize b.length = bl at *
      go_enter Try.func27, Try.ntmps27
      go_wp2_with (go_at_call 29; refine HBL.out.mono ?_; rintro e w' ⟨rfl, rfl⟩)
      go_ret
      exact ⟨1, rfl, by rw [HW.out]; exact HH.out, Touched.same HC.out⟩
  · have hwr : wrF bs k b = bs := by unfold wrF; rw [if_neg (fun h => hk h.1)]
    have HW := Lib.hid hwr
    have HC := Lib.hid h1.cell
    have HBL := Lib.hid (block_out w a bs.length c A k h1.cell hn hk)
    have HH := Lib.hid hown
    clear hwr hrb h1 h2 hown hk
    go_enter Try.func27, Try.ntmps27
    go_wp2_with (go_at_call 29; refine HBL.out.mono ?_; rintro e w' ⟨rfl, rfl⟩)
    go_ret
    exact ⟨3, rfl, by rw [HW.out]; exact HH.out, Touched.same HC.out⟩
theorem write_nil (w : World) (k : Int) (v : Value) : Calls Try.prog 27 #[.pointer none, .int .i64 k, v] w fun e w' => e = .returned (.int .i64 18) ∧ w = w' := by
  go_enter Try.func27, Try.ntmps27
  go_wp2_with (go_at_call 29; refine (block_nil _ _).mono ?_; rintro e w' ⟨rfl, rfl⟩)
  go_ret
  exact ⟨rfl, rfl⟩
end Go.Proofs.Ytlogabbnnbcokaa
