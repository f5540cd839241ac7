/- view.List: how much the devices have. Condition: the numbers fit into Go's int, and no slice is longer than the reach. -/
import Derived.Test.YtnemfponbadcjaaWFreeP
namespace Go.Proofs.Ytnemfponbadcjaa
open Go.RowKit

structure Ls where
  id : Int
  mapped : Int
  own : Int
  shared : Int
def ls0 : Ls := ⟨0, 0, 0, 0⟩
def Ls.enc (s : Ls) : List Value := [.int .i64 s.id, .int .i64 s.mapped, .int .i64 s.own, .int .i64 s.shared]
theorem Ls.enc_len (m : Ls) : m.enc.length = 4 := rfl
theorem Ls.enc_one (m : Ls) : ∀ u ∈ m.enc, u.oneCell' = true := by
  intro u hu; simp [Ls.enc] at hu; rcases hu with rfl | rfl | rfl | rfl <;> rfl
abbrev IsLs (w : World) (S : Nat → Prop) (v : Value) (l : List Ls) : Prop := IsSl (Flat Ls.enc) 4 ls0 w S v l
def ownN (L : List Int) : List Mp → Int
  | [] => 0
  | m :: l => (if nth 0 L m.b.toNat = 1 then 1 else 0) + ownN L l
theorem ownN_append (L : List Int) (l r : List Mp) : ownN L (l ++ r) = ownN L l + ownN L r := by
  induction l with
  | nil => simp [ownN]
  | cons x l ih => simp only [List.cons_append, ownN, ih]; omega
theorem ownN_take (L : List Int) (l : List Mp) (k : Nat) (h : k < l.length) : ownN L (l.take (k + 1)) = ownN L (l.take k) + if nth 0 L (nth mp0 l k).b.toNat = 1 then 1 else 0 := by
  rw [take_nth mp0 l k h, ownN_append]; simp [ownN]
theorem ownN_bound (L : List Int) : ∀ l : List Mp, 0 ≤ ownN L l ∧ ownN L l ≤ l.length := by
  intro l
  induction l with
  | nil => simp [ownN]
  | cons x l ih =>
    simp only [ownN, List.length_cons]
    split <;> omega
def lsOf (L : List Int) (d : Dev) : Ls := ⟨d.id, d.maps.length, ownN L d.maps, d.maps.length - ownN L d.maps⟩
def listRes (p : Pool) : List Ls := if poolChk p = 0 then p.devs.map (lsOf (refsRes p)) else []
theorem listRes_length (p : Pool) : (listRes p).length ≤ p.devs.length := by
  unfold listRes; split <;> simp
theorem bumps_ge : ∀ (ms : List (Nat × Mp)) (l : List Int) (b : Nat), b < l.length → (∀ j, 0 ≤ nth 0 l j) → (1 ≤ nth 0 l b ∨ ∃ x ∈ ms, x.2.b.toNat = b) → 1 ≤ nth 0 (bumps l ms) b := by
  intro ms
  induction ms with
  | nil =>
    intro l b hb h0 h
    rcases h with h | ⟨x, hx, _⟩
    · exact h
    · cases hx
  | cons x ms ih =>
    intro l b hb h0 h
    have e : bumps l (x :: ms) = bumps (bump l x.2.b) ms := rfl
    rw [e]
    have hn : ∀ j, nth 0 (bump l x.2.b) j = if x.2.b.toNat = j ∧ x.2.b.toNat < l.length then nth 0 l x.2.b.toNat + 1 else nth 0 l j := fun j => by unfold bump; rw [nth_set]
    refine ih _ b (by rw [bump_length]; exact hb) (fun j => ?_) ?_
    · rw [hn]
      have h1 := h0 x.2.b.toNat
      have h2 := h0 j
      split <;> omega
    · by_cases hx : x.2.b.toNat = b
      · left
        rw [hn, if_pos ⟨hx, by omega⟩]
        have := h0 x.2.b.toNat
        omega
      · rcases h with h | ⟨y, hy, hyb⟩
        · left
          rw [hn, if_neg (fun h => hx h.1)]
          exact h
        · rcases List.mem_cons.1 hy with rfl | hy
          · exact absurd hyb hx
          · exact .inr ⟨y, hy, hyb⟩
/-- What is mapped is counted. -/
theorem mapped_facts {p : Pool} (h : poolChk p = 0) {k j : Nat} (hk : k < p.devs.length) (hj : j < (nth dev0 p.devs k).maps.length) :
    0 ≤ (nth mp0 (nth dev0 p.devs k).maps j).b ∧ (nth mp0 (nth dev0 p.devs k).maps j).b.toNat < (refsRes p).length ∧ 1 ≤ nth 0 (refsRes p) (nth mp0 (nth dev0 p.devs k).maps j).b.toNat := by
  have hmem : (k, nth mp0 (nth dev0 p.devs k).maps j) ∈ pairs p.devs := (upto_prefix (j := j + 1) hk).subset (by rw [upto_succ hj]; simp)
  have hb := pairs_b h _ hmem
  simp only at hb
  unfold refsRes
  rw [if_pos h]
  unfold refsOf
  refine ⟨hb.1, by rw [bumps_length, List.length_replicate]; omega, bumps_ge _ _ _ (by rw [List.length_replicate]; omega) (fun j => by rw [nth_replicate]; omega) (.inr ⟨_, hmem, rfl⟩)⟩
theorem own_below' {w w' : World} {base e size B : Nat} {v : Value} {n : Nat} {xs : List Value} (h : w.ownsRow base e size v n xs) (hB : Below B w w') (hlt : ∀ g, v.ownBlock = some g → g < B) : w'.ownsRow base e size v n xs := by
  refine ⟨h.1, ?_⟩
  rcases h.2 with h0 | ⟨g, cap, cur, rfl, hb, hg, hnc, hm, hcs, ht⟩
  · exact .inl h0
  · exact .inr ⟨g, cap, cur, rfl, hb, (hB.block g (hlt g rfl)).trans hg, hnc, hm, hcs, ht⟩
theorem ownsRow_setCell_other' {w : World} {base e size : Nat} {v : Value} {n : Nat} {xs : List Value} (h : w.ownsRow base e size v n xs) (b o : Nat) (u : Int) (hne : ∀ g, v.ownBlock = some g → g ≠ b) : (w.setCell ⟨b, o, none⟩ (.int .i64 u)).ownsRow base e size v n xs := by
  refine ⟨h.1, ?_⟩
  rcases h.2 with h0 | ⟨g, cap, cur, rfl, hb, hg, hnc, hm, hcs, ht⟩
  · exact .inl h0
  · exact .inr ⟨g, cap, cur, rfl, hb, (Below.heap_setCell w ⟨b, o, none⟩ _ g (fun e => hne g rfl e)).trans hg, hnc, hm, hcs, ht⟩
theorem info_ls : (Try.prog.info? 42).map (fun i => (i.zero, i.size, i.bytes)) = some (some (.agg #[.int .i64 0, .int .i64 0, .int .i64 0, .int .i64 0]), 4, 32) := by kernel_rfl
theorem elLs : Elem Try.prog 39 42 4 32 Ls.enc := ⟨Try.underlying39, ⟨_, info_ls, rfl⟩, by omega, by omega, Ls.enc_len, Ls.enc_one⟩
/-- Block b holds just these four numbers. -/
def Four (w : World) (b : Nat) (t : TypeId) (s : Ls) : Prop := w.heap[b]? = some (.cells #[.int .i64 s.id, .int .i64 s.mapped, .int .i64 s.own, .int .i64 s.shared] t (0, 0))
theorem Four.cells {w : World} {b : Nat} {t : TypeId} {s : Ls} (h : Four w b t s) : (w.cell? ⟨b, 0, none⟩ = some (.int .i64 s.id) ∧ w.cell? ⟨b, 1, none⟩ = some (.int .i64 s.mapped) ∧ w.cell? ⟨b, 2, none⟩ = some (.int .i64 s.own) ∧ w.cell? ⟨b, 3, none⟩ = some (.int .i64 s.shared)) ∧ w.frozen? ⟨b, 2, none⟩ = false ∧ w.frozen? ⟨b, 3, none⟩ = false := by
  unfold Four at h
  simp [World.cell?, World.frozen?, h]
theorem Four.lt {w : World} {b : Nat} {t : TypeId} {s : Ls} (h : Four w b t s) : b < w.heap.size := (Array.getElem?_eq_some_iff.1 h).1
theorem Four.set2 {w : World} {b : Nat} {t : TypeId} {s : Ls} (h : Four w b t s) (u : Int) : Four (w.setCell ⟨b, 2, none⟩ (.int .i64 u)) b t ⟨s.id, s.mapped, u, s.shared⟩ := by
  unfold Four at h ⊢
  simp [World.setCell, Array.getElem?_modify, h]
theorem Four.set3 {w : World} {b : Nat} {t : TypeId} {s : Ls} (h : Four w b t s) (u : Int) : Four (w.setCell ⟨b, 3, none⟩ (.int .i64 u)) b t ⟨s.id, s.mapped, s.own, u⟩ := by
  unfold Four at h ⊢
  simp [World.setCell, Array.getElem?_modify, h]
theorem Four.below {w w' : World} {b k : Nat} {t : TypeId} {s : Ls} (h : Four w b t s) (hB : Below k w w') (hb : b < k) : Four w' b t s := (hB.block b hb).trans h
theorem Four.alloc {w : World} {b : Nat} {t : TypeId} {s : Ls} (h : Four w b t s) (o : Obj) : Four (w.alloc o) b t s := (Below.heap_alloc w o b h.lt).trans h

set_option maxRecDepth 100000 in
set_option maxHeartbeats 3200000 in
theorem list_any (w : World) (S : Nat → Prop) (v : Value) (p : Pool) (hS : ∀ b, S b → b < w.heap.size) (h : IsPool w S v p) (hok : p.ok) (hdn : p.devs.length ≤ 200) (hpm : ∀ k, k < p.devs.length → (nth dev0 p.devs k).maps.length ≤ 2000) :
    Calls Try.prog 10 #[v] w fun e w' => ∃ v', e = .returned v' ∧ IsLs w' (Btw w.heap.size w'.heap.size) v' (listRes p) ∧ Below w.heap.size w w' := by
  have h0 := h
  obtain ⟨A, c, rfl, hc, hr⟩ := h
  have hB1 : Below w.heap.size w (w.alloc (poolBox p A p.devs.length c)) := (Below.refl _ _).alloc (Nat.le_refl _) _
  have hpb := PBox.new w p A p.devs.length c
  have hck := check_any (w.alloc (poolBox p A p.devs.length c)) S _ p (fun b hb => by have := hS b hb; simp; omega) (h0.below hB1 hS) hok
  have hrf := fun w' (hB : Below w.heap.size w w') => refs_any w' S _ p (fun b hb => Nat.lt_of_lt_of_le (hS b hb) hB.size) (h0.below hB hS) hok
  have HCK := Lib.hid hck
  have HRF := Lib.hid hrf
  clear hck hrf h0
  dsimp only [poolBox] at hB1 HCK hpb
  by_cases hz : poolChk p = 0
  · rw [hz] at HCK
    have HMF := Lib.hid (fun k j hk hj => mapped_facts (p := p) hz (k := k) (j := j) hk hj)
    have hres : listRes p = p.devs.map (lsOf (refsRes p)) := by unfold listRes; rw [if_pos hz]
    have HRES := Lib.hid hres
    clear hres hz hok
    generalize refsRes p = L at *
    go_enter Try.func10, Try.ntmps10
    go_wp2_with (first
      | (go_at_call 9; refine HCK.out.mono ?_; rintro e w2 ⟨rfl, hB2⟩; have hk2 := hB1.trans (hB2.mono (by simp)); have hp2 := hpb.below hB2 (by simp); obtain ⟨x0, x1, x2, x3, x4⟩ := hp2.cells; clear hpb)
      | (go_at_call 26; refine (HRF.out _ hk2).mono ?_; rintro e w3 ⟨v3, rfl, ⟨A3, c3, rfl, hc3, hr3⟩, hB3⟩; have hk3 := hk2.trans (hB3.mono hk2.size); have hp3 := hp2.below hB3 hp2.lt; clear x0 x1 x2 x3 x4; obtain ⟨x0, x1, x2, x3, x4⟩ := hp3.cells; clear hp2))
    clear x0 x1 x2 x3 x4 hp3
    generalize hnn : p.devs.length = n at *
    have HN := Lib.hid hnn
    clear hnn
    have HPM := Lib.hid hpm
    clear hpm
    go_loopw [4, 18] (fun t i wr => ∃ k : Nat, k ≤ n ∧ i = .int .i64 k ∧ wr.ownsRow w3.heap.size 42 4 t k (flats Ls.enc ((p.devs.take k).map (lsOf L))) ∧ Below w3.heap.size w3 wr) (fun _ i _ => n - (intOf i).toNat)
    case atStart => exact ⟨0, by omega, rfl, World.ownsRow_nil _ _ _ _, Below.refl _ _⟩
    case round =>
      obtain ⟨k, hk, rfl, hrow, hB⟩ := hrel
      obtain ⟨wo, rfl⟩ : ∃ wo : World, wo = wr := ⟨_, rfl⟩
      have hzw := hB.size
      have hkw := hk3.trans (hB.mono hk3.size)
      obtain ⟨At, ct, rfl, hct⟩ := own_form0 hrow
      by_cases hlt : k < n
      · obtain ⟨b, off, rfl, hb, hcl⟩ := devs_cells (hr.keep rdev_stable (fun _ h => h) (keep_below hkw hS)) (by rw [HN.out]; omega)
        obtain ⟨c0, c1, c2, c3', A', c', c4, hc', hr'⟩ := hcl k (by rw [HN.out]; exact hlt)
        have hbw : b < wo.heap.size := by have := hS b hb; have := hkw.size; omega
        have hml := HPM.out k hlt
        have hnext : (p.devs.take (k + 1)).map (lsOf L) = (p.devs.take k).map (lsOf L) ++ [lsOf L (nth dev0 p.devs k)] := by rw [take_nth dev0 _ _ (by rw [HN.out]; exact hlt)]; simp
        have HNX := Lib.hid hnext
        have HMK := Lib.hid (fun j hj => HMF.out k j hlt hj)
        clear hcl hnext
        generalize nth dev0 p.devs k = d at *
        generalize hdl : d.maps.length = dl at *
        have HDL := Lib.hid hdl
        clear hdl
        have hX0 : Four ((wo.alloc (.cells #[.int .i64 d.id, .int .i64 d.tx, .int .i64 d.made, .int .i64 d.snapped, .slice A' dl c'] 52)).alloc (.cells #[.int .i64 d.id, .int .i64 (dl : Int), .int .i64 0, .int .i64 0] 42)) (wo.heap.size + 1) 42 ⟨d.id, dl, 0, 0⟩ := by
          have := heap_alloc_new (wo.alloc (.cells #[.int .i64 d.id, .int .i64 d.tx, .int .i64 d.made, .int .i64 d.snapped, .slice A' dl c'] 52)) (.cells #[.int .i64 d.id, .int .i64 (dl : Int), .int .i64 0, .int .i64 0] 42)
          rw [World.size_alloc] at this
          exact this
        have hBW : Below wo.heap.size wo ((wo.alloc (.cells #[.int .i64 d.id, .int .i64 d.tx, .int .i64 d.made, .int .i64 d.snapped, .slice A' dl c'] 52)).alloc (.cells #[.int .i64 d.id, .int .i64 (dl : Int), .int .i64 0, .int .i64 0] 42)) := ((Below.refl _ _).alloc (Nat.le_refl _) _).alloc (by simp) _
        go_wp2_with fail
        generalize (wo.alloc (.cells #[.int .i64 d.id, .int .i64 d.tx, .int .i64 d.made, .int .i64 d.snapped, .slice A' dl c'] 52)).alloc (.cells #[.int .i64 d.id, .int .i64 (dl : Int), .int .i64 0, .int .i64 0] 42) = w5 at *
        go_loopw [31] (fun i w4 => ∃ j : Nat, j ≤ dl ∧ i = .int .i64 j ∧ Four w4 (wo.heap.size + 1) 42 ⟨d.id, dl, ownN L (d.maps.take j), 0⟩ ∧ Below wo.heap.size wo w4) (fun i _ => dl - (intOf i).toNat)
        case atStart => exact ⟨0, by omega, rfl, hX0, hBW⟩
        case round =>
          clear hX0 hBW c0 c1 c2 c3' c4
          obtain ⟨j, hj, rfl, hX, hBi⟩ := hrel
          have hzi := hBi.size
          have hob := ownN_bound L (d.maps.take j)
          have hjlen : (d.maps.take j).length = j := by rw [List.length_take, HDL.out]; omega
          rw [hjlen] at hob
          obtain ⟨⟨y0, y1, y2, y3⟩, yf2, yf3⟩ := hX.cells
          simp only at y0 y1 y2 y3
          have hXl := hX.lt
          by_cases hjl : j < dl
          · obtain ⟨mb, mo, rfl, hmb, hmc⟩ := maps_cells (hr'.keep rmp_stable (fun _ h => h) (keep_below hBi (fun b hb => by have := hS b hb; have := hkw.size; omega))) (by rw [HDL.out]; omega)
            obtain ⟨m0, m1, m2⟩ := hmc j (by rw [HDL.out]; exact hjl)
            obtain ⟨hb0, hb1, hb2⟩ := HMK.out j hjl
            have HT := Lib.hid (ownN_take L d.maps j (by rw [HDL.out]; exact hjl))
            have hmbw : mb < wr.heap.size := by have := hS mb hmb; have := hkw.size; omega
            clear hmc hjlen
            generalize nth mp0 d.maps j = m at *
            obtain ⟨bn, hbn⟩ := Int.eq_ofNat_of_zero_le hb0
            rw [hbn] at m1 HT hb1 hb2
            rw [Int.toNat_natCast] at HT hb1 hb2
            have hBw3 := hB.trans (hBi.mono hzw)
            obtain ⟨b3, o3, rfl, hb3, hcl3⟩ := ints_cells (hr3.keep (flat_stable _) (fun _ h => h) (keep_below hBw3 (fun b hb => hb.2))) (by omega)
            have q := hcl3 bn (by omega)
            have hb3w : b3 < wr.heap.size := by have h1 : b3 < w3.heap.size := hb3.2; omega
            clear hcl3 hbn hb0
            generalize nth 0 L bn = y at *
            generalize ownN L (d.maps.take j) = z at *
            have HX := Lib.hid hX
            have HBI := Lib.hid hBi
            clear hX hBi
            by_cases hy1 : y = 1
            · rw [if_pos hy1] at HT
              have hyb : (y == 1) = true := by simp [hy1]
              clear hy1
              go_wp2_with fail
              refine ⟨⟨j + 1, by omega, by go_num, ?_, ((HBI.out).setCell (by simp only; omega) _).alloc (by simp; omega) _⟩, by simp [intOf]; omega⟩
              rw [HT.out]
              exact ((HX.out).set2 (z + 1)).alloc _
            · rw [if_neg hy1, Int.add_zero] at HT
              have hyb : (y == 1) = false := beq_false_of_ne hy1
              clear hy1
              go_wp2_with fail
              refine ⟨⟨j + 1, by omega, by go_num, ?_, (HBI.out).alloc hzi _⟩, by simp [intOf]; omega⟩
              rw [HT.out]
              exact (HX.out).alloc _
          · obtain rfl : j = dl := by omega
            have htk : d.maps.take j = d.maps := List.take_of_length_le (by rw [HDL.out]; omega)
            rw [htk] at hX hob y2
            have hls : lsOf L d = ⟨d.id, j, ownN L d.maps, (j : Int) - ownN L d.maps⟩ := by unfold lsOf; rw [HDL.out]
            have HLS := Lib.hid hls
            have HX := Lib.hid hX
            have hrow2 := own_below' hrow hBi (fun g hg => (hrow.lt g hg).2)
            have hset := hX.set3 ((j : Int) - ownN L d.maps)
            have hrow3 := ownsRow_setCell_other' hrow2 (wo.heap.size + 1) 3 ((j : Int) - ownN L d.maps) (fun g hg => by have := (hrow.lt g hg).2; omega)
            clear htk hls hX
            have hBset := (hB.trans (hBi.mono hzw)).setCell (p := ⟨wo.heap.size + 1, 3, none⟩) (by simp only; omega) (.int .i64 ((j : Int) - ownN L d.maps))
            have HBS := Lib.hid hBset
            clear hBset
            generalize ownN L d.maps = z at *
            go_wp2_with (at_builtin; go_loud (refine wpList_append_one elLs rfl _ _ rfl w3.heap.size (.slice At k ct) k ((p.devs.take k).map (lsOf L)) ⟨d.id, j, z, (j : Int) - z⟩ rfl hrow3 (by rw [World.size_setCell]; rfl) (by omega) (by simp; omega) ?_); intro A6 cap6 w6 hown hg)
            go_roundw
            case rel =>
              refine ⟨k + 1, by omega, by go_num, ?_, HBS.out.grown hg (by simp; omega) (fun j hj => (hrow.lt j hj).1)⟩
              rw [HNX.out, HLS.out]
              exact hown
            case measure => simp [intOf]; omega
      · obtain rfl : k = n := by omega
        have hfin : listRes p = (p.devs.take k).map (lsOf L) := by rw [HRES.out, List.take_of_length_le (by rw [HN.out]; omega)]
        have HF := Lib.hid hfin
        clear hfin
        go_wp2_with fail
        go_ret
        refine ⟨_, rfl, ?_, hkw⟩
        rw [HF.out]
        have := IsSl.own (enc := Ls.enc) (d := ls0) Ls.enc_len hrow (by omega)
        exact this.sub (flat_stable _) (fun b hb => ⟨by have h1 : w3.heap.size ≤ b := hb.1; have := hk3.size; omega, hb.2⟩)
  · have hzb : (poolChk p != 0) = true := by simp [hz]
    have hres : listRes p = [] := by unfold listRes; rw [if_neg hz]
    have HRES := Lib.hid hres
    clear hres hz
    go_enter Try.func10, Try.ntmps10
    go_wp2_with (go_at_call 9; refine HCK.out.mono ?_; rintro e w2 ⟨rfl, hB2⟩; have hk2 := hB1.trans (hB2.mono (by simp)))
    go_ret
    exact ⟨_, rfl, by rw [HRES.out]; exact IsSl.nil_, hk2⟩
end Go.Proofs.Ytnemfponbadcjaa
