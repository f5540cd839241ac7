/- scantlingref38.Reverse. Condition: the pool's numbers fit into Go's int. -/
import Derived.Test.YtnemfponbadcjaaRevU
import Derived.Test.YtnemfponbadcjaaWRef18b
import Derived.Test.YtnemfponbadcjaaRegApp
namespace Go.Proofs.Ytnemfponbadcjaa
open Go.RowKit Go.Shelf
attribute [local go_sem] Oper.semAt_some

theorem info_rbk : (Try.prog.info? 35).map (fun i => (i.zero, i.size, i.bytes)) = some (some (.agg #[.int .i64 0, .int .i64 0, .int .i64 0, .int .i64 0]), 4, 32) := by kernel_rfl
theorem elRBk : Elem Try.prog 31 35 4 32 Bk.enc := ⟨Try.underlying31, ⟨_, info_rbk, rfl⟩, by omega, by omega, Bk.enc_len, Bk.enc_one⟩
def RRevIs (p : Pool) (f t : Int) (w : World) (e : Ending) (w' : World) : Prop :=
  ∃ A c l, e = .returned (.tuple #[.slice A l.length c, .int .i64 (revE p f t)]) ∧ w'.ownsRow w.heap.size 35 4 (.slice A l.length c) l.length (flats Bk.enc l) ∧ Below w.heap.size w w' ∧ (revE p f t = 0 → l.Perm (rawP f t p) ∧ l.Pairwise (fun x y => aheadB y x = false)) ∧ (revE p f t ≠ 0 → l = [])
theorem inR_iff (f t : Int) (m : Mp) : inR f t m = true ↔ ¬ m.b < f ∧ ¬ m.b ≥ t := by
  unfold inR
  simp only [Bool.and_eq_true, decide_eq_true_eq]
  omega
set_option maxRecDepth 100000 in
set_option maxHeartbeats 3200000 in
theorem rreverse_any (w : World) (S : Nat → Prop) (v : Value) (p : Pool) (f t : Int) (hS : ∀ b, S b → b < w.heap.size) (h : IsPool w S v p) (hok : p.ok) :
    Calls Try.prog 8 #[v, .int .i64 f, .int .i64 t] w (RRevIs p f t w) := by
  have h0 := h
  obtain ⟨A, c, rfl, hc, hr⟩ := h
  have hB1 : Below w.heap.size w (w.alloc (poolBox p A p.devs.length c)) := (Below.refl _ _).alloc (Nat.le_refl _) _
  have hpb := PBox.new w p A p.devs.length c
  have hck := fun w' (hB : Below w.heap.size w w') => rcheck_any w' S _ p (fun b hb => Nat.lt_of_lt_of_le (hS b hb) hB.size) (h0.below hB hS) hok
  obtain ⟨x0, x1, x2, x3, x4⟩ := hpb.cells
  have HCK := Lib.hid hck
  have HPB := Lib.hid hpb
  clear hck h0 hpb
  dsimp only [poolBox] at HPB hB1 x0 x1 x2 x3 x4
  unfold RRevIs
  by_cases hz : poolChk p = 0
  · rw [hz] at HCK
    obtain ⟨hd0, hd1⟩ := pool_data hz
    by_cases hrg : f < 0 ∨ t > p.data ∨ f > t
    · have e : revE p f t = 2 := by unfold revE; rw [if_neg (by simpa using hz), if_pos hrg]
      rw [e]
      have HZ := Lib.hid hz
      clear hz e hok
      generalize p.devs.length = n at *
      have hcs : f < 0 ∨ (decide (f < 0) = false ∧ t > p.data) ∨ (decide (f < 0) = false ∧ decide (t > p.data) = false ∧ f > t) := by
        by_cases g1 : f < 0
        · exact .inl g1
        · by_cases g2 : t > p.data
          · exact .inr (.inl ⟨by simpa using g1, g2⟩)
          · exact .inr (.inr ⟨by simpa using g1, by simpa using g2, by omega⟩)
      clear hrg
      rcases hcs with g1 | ⟨d1, g2⟩ | ⟨d1, d2, g3⟩
      · have d1 : decide (f < 0) = true := by simpa using g1
        go_enter Try.func8, Try.ntmps8
        go_wp2_with (go_at_call 20; refine (HCK.out _ hB1).mono ?_; rintro e w2 ⟨rfl, hB2⟩; have hk2 := hB1.trans (hB2.mono (by simp)); have hp2 := HPB.out.below hB2 (by simp); clear x0 x1 x2 x3 x4; obtain ⟨x0, x1, x2, x3, x4⟩ := hp2.cells)
        go_ret2
        exact ⟨none, 0, [], rfl, World.ownsRow_nil _ _ _ _, hk2, fun h => absurd h (by decide), fun _ => rfl⟩
      · have d2 : decide (t > p.data) = true := by simpa using g2
        go_enter Try.func8, Try.ntmps8
        go_wp2_with (go_at_call 20; refine (HCK.out _ hB1).mono ?_; rintro e w2 ⟨rfl, hB2⟩; have hk2 := hB1.trans (hB2.mono (by simp)); have hp2 := HPB.out.below hB2 (by simp); clear x0 x1 x2 x3 x4; obtain ⟨x0, x1, x2, x3, x4⟩ := hp2.cells)
        go_ret2
        exact ⟨none, 0, [], rfl, World.ownsRow_nil _ _ _ _, hk2, fun h => absurd h (by decide), fun _ => rfl⟩
      · go_enter Try.func8, Try.ntmps8
        go_wp2_with (go_at_call 20; refine (HCK.out _ hB1).mono ?_; rintro e w2 ⟨rfl, hB2⟩; have hk2 := hB1.trans (hB2.mono (by simp)); have hp2 := HPB.out.below hB2 (by simp); clear x0 x1 x2 x3 x4; obtain ⟨x0, x1, x2, x3, x4⟩ := hp2.cells)
        go_ret2
        exact ⟨none, 0, [], rfl, World.ownsRow_nil _ _ _ _, hk2, fun h => absurd h (by decide), fun _ => rfl⟩
    · have e : revE p f t = 0 := by unfold revE; rw [if_neg (by simpa using hz), if_neg hrg]
      rw [e]
      have d1 : decide (f < 0) = false := by simp; omega
      have d2 : decide (t > p.data) = false := by simp; omega
      have d3 : ¬ f > t := by omega
      have d4 : ¬ f < 0 := by omega
      have d5 : ¬ t > p.data := by omega
      have hdv : ∀ k, k < p.devs.length → (∀ m ∈ (nth dev0 p.devs k).maps, MpS m) ∧ (nth dev0 p.devs k).maps.length ≤ 16384 := fun k hk => by
        have hm := nth_mem dev0 p.devs k hk
        obtain ⟨a1, a2⟩ := pool_runs hz hm
        refine ⟨a1, ?_⟩
        have hs := (poolChk_parts hz).2.1
        unfold sizeB at hs
        simp only [decide_eq_true_eq] at hs
        have h1 := countL_take p.devs k hk
        have h2 := countL_take_le p.devs (k + 1)
        have h3 := countL_nonneg (p.devs.take k)
        unfold Pool.count at hs
        omega
      have hcn : ∀ k, (((p.devs.take k).flatMap (rawDev f t)).length : Int) ≤ 16384 := fun k => by
        have hs := (poolChk_parts hz).2.1
        unfold sizeB at hs
        simp only [decide_eq_true_eq] at hs
        have h1 := rawOf_len f t (rawDev_len f t) (p.devs.take k)
        have h2 := countL_take_le p.devs k
        unfold Pool.count at hs
        omega
      have hnb : p.devs.length ≤ 4096 := by
        have hs := (poolChk_parts hz).2.1
        unfold sizeB at hs
        simp only [decide_eq_true_eq] at hs
        omega
      have hqn : ∀ k, k ≤ p.devs.length → ∀ y ∈ (p.devs.take k).flatMap (rawDev f t), 0 ≤ y.n ∧ y.n ≤ 16384 := fun k hk y hy => by
        obtain ⟨d, hd, hy⟩ := List.mem_flatMap.1 hy
        have h1 := rawDev_small y hy
        have h0 := rawDev_pos y hy
        obtain ⟨j, hj, rfl⟩ := List.mem_iff_getElem.1 (List.mem_of_mem_take hd)
        have h2 := (hdv j hj).2
        rw [nth_get dev0 p.devs j hj] at h2
        omega
      have HDV := Lib.hid hdv
      have HCN := Lib.hid hcn
      have HQS := Lib.hid hqn
      have HRP := Lib.hid (show rawP f t p = (p.devs.take p.devs.length).flatMap (rawDev f t) by rw [List.take_length]; rfl)
      have HR0 := Lib.hid (show (p.devs.take 0).flatMap (rawDev f t) = [] from rfl)
      have HRK := Lib.hid (show ∀ k, k < p.devs.length → (p.devs.take (k + 1)).flatMap (rawDev f t) = (p.devs.take k).flatMap (rawDev f t) ++ rawDev f t (nth dev0 p.devs k) from fun k hk => by rw [take_nth dev0 _ _ hk]; simp)
      obtain ⟨Q, hQ⟩ : ∃ Q : Nat → List Bk, Q = fun k => (p.devs.take k).flatMap (rawDev f t) := ⟨_, rfl⟩
      have HQN := Lib.hid (show ∀ k, ((Q k).length : Int) ≤ 16384 by rw [hQ]; exact HCN.out)
      have HQM := Lib.hid (show ∀ k, k ≤ p.devs.length → ∀ y ∈ Q k, 0 ≤ y.n ∧ y.n ≤ 16384 by rw [hQ]; exact HQS.out)
      have HQP := Lib.hid (show rawP f t p = Q p.devs.length by rw [hQ]; exact HRP.out)
      have HQ0 := Lib.hid (show Q 0 = [] by rw [hQ]; exact HR0.out)
      have HQK := Lib.hid (show ∀ k, k < p.devs.length → Q (k + 1) = Q k ++ rawDev f t (nth dev0 p.devs k) by rw [hQ]; exact HRK.out)
      clear hz hrg e hdv hcn hok HCN HRP HR0 HRK hQ hqn HQS
      obtain ⟨res, hres⟩ : ∃ r, r = rawP f t p := ⟨_, rfl⟩
      rw [← hres] at HQP ⊢
      clear hres
      generalize hnn : p.devs.length = n at *
      have HN := Lib.hid hnn
      clear hnn
      go_enter Try.func8, Try.ntmps8
      go_wp2_with (go_at_call 20; refine (HCK.out _ hB1).mono ?_; rintro e w2 ⟨rfl, hB2⟩; have hk2 := hB1.trans (hB2.mono (by simp)); have hp2 := HPB.out.below hB2 (by simp); clear x0 x1 x2 x3 x4; obtain ⟨x0, x1, x2, x3, x4⟩ := hp2.cells)
      have HP2 := Lib.hid hp2
      have hz2 := hk2.size
      have hz2b := hB2.size
      rw [World.size_alloc] at hz2b
      clear x0 x1 x2 x3 x4 hp2
      go_loopw [8, 9] (fun o i wr => ∃ k : Nat, i = .int .i64 k ∧ k ≤ n ∧ wr.ownsRow w2.heap.size 35 4 o (Q k).length (flats Bk.enc (Q k)) ∧ Below w2.heap.size w2 wr) (fun _ i _ => n - (intOf i).toNat)
      case atStart => exact ⟨0, rfl, by omega, by rw [HQ0.out]; exact World.ownsRow_nil _ _ _ _, Below.refl _ _⟩
      case round =>
        obtain ⟨k, rfl, hk, hrow, hB⟩ := hrel
        obtain ⟨wo, rfl⟩ : ∃ wo : World, wo = wr := ⟨_, rfl⟩
        have hz := hB.size
        have hkw := hk2.trans (hB.mono hz2)
        obtain ⟨x0, x1, x2, x3, x4⟩ := (HP2.out.below hB (by omega)).cells
        obtain ⟨Ao, co, rfl, _⟩ := own_form0 hrow
        by_cases hlt : k < n
        · have hki : (k : Int) < (n : Int) := by omega
          obtain ⟨b, off, rfl, hb, hcl⟩ := devs_cells hr (by rw [HN.out]; omega)
          obtain ⟨c0, _, _, _, A', c', c4, hc', hr'⟩ := hcl k (by rw [HN.out]; exact hlt)
          obtain ⟨e1, e4⟩ := HDV.out k hlt
          have hqk := HQK.out k hlt
          have hqs := HQM.out k hk
          have hbw : b < w.heap.size := hS b hb
          have c4o := (hkw.cell (p := ⟨b, off + k * 5 + 4, none⟩) hbw).trans c4
          have hq16 := HQN.out k
          clear hcl
          generalize nth dev0 p.devs k = d at *
          have HE1 := Lib.hid (fun q (hq : q < d.maps.length) => e1 _ (nth_mem mp0 d.maps q hq))
          have HQ1 := Lib.hid hqk
          have HQS := Lib.hid hqs
          have HROW := Lib.hid hrow
          have HOE := Lib.hid (outB_dev f t d (Q k))
          clear hqk hqs hrow e1
          generalize hdl : d.maps.length = dl at *
          have HDL := Lib.hid hdl
          clear hdl
          go_wp2_with fail
          go_loopw [8, 11, 12] (fun o la j wr => ∃ (q : Nat) (x : Int) (l : List Bk), j = .int .i64 q ∧ la = .int .i64 x ∧ q ≤ dl ∧ Hid (LastOk f t d.maps q x) ∧ Hid (l = outB d.id f t d.maps (Q k) q) ∧ wr.ownsRow w2.heap.size 35 4 o l.length (flats Bk.enc l) ∧ Below w2.heap.size w2 wr) (fun _ _ j _ => dl - (intOf j).toNat)
          case atStart => exact ⟨0, -1, Q k, rfl, rfl, by omega, Lib.hid (LastOk.zero _ _ _), Lib.hid rfl, HROW.out, hB⟩
          case round =>
            obtain ⟨q, x, l, rfl, rfl, hq, HLA, HL, hro, hBi⟩ := hrel
            have hzi := hBi.size
            have hkw2 := hk2.trans (hBi.mono hz2)
            obtain ⟨x0, x1, x2, x3, x4⟩ := (HP2.out.below hBi (by omega)).cells
            obtain ⟨Ai, ci, rfl, _⟩ := own_form0 hro
            by_cases hql : q < dl
            · have hqi : (q : Int) < (dl : Int) := by omega
              obtain ⟨mb, mo, rfl, hmb, hmc⟩ := maps_cells (hr'.keep rmp_stable (fun _ h => h) (keep_below hkw2 hS)) (by rw [HDL.out]; omega)
              obtain ⟨m0, m1, m2⟩ := hmc q (by rw [HDL.out]; exact hql)
              obtain ⟨s1, s2, s3, s4⟩ := HE1.out q hql
              have hnx : outB d.id f t d.maps (Q k) (q + 1) = stepB d.id f t d.maps q l := by rw [HL.out]; rfl
              have hll : l.length ≤ 40000 := by
                rw [HL.out]
                have := outB_len (id := d.id) (f := f) (t := t) (l := d.maps) (o := Q k) q
                omega
              have HNX := Lib.hid hnx
              have HRO := Lib.hid hro
              have c0i := (hkw2.cell (p := ⟨b, off + k * 5, none⟩) hbw).trans c0
              clear hnx hro
              cases hin : inR f t (nth mp0 d.maps q) with
              | false =>
                have hcs : (nth mp0 d.maps q).b < f ∨ (decide ((nth mp0 d.maps q).b < f) = false ∧ (nth mp0 d.maps q).b ≥ t) := by
                  by_cases g : (nth mp0 d.maps q).b < f
                  · exact .inl g
                  · refine .inr ⟨by simpa using g, ?_⟩
                    by_cases g2 : (nth mp0 d.maps q).b ≥ t
                    · exact g2
                    · rw [(inR_iff f t _).2 ⟨g, g2⟩] at hin
                      cases hin
                have HIN := Lib.hid hin
                have HNX2 := Lib.hid (show outB d.id f t d.maps (Q k) (q + 1) = l from HNX.out.trans (stepB_out hin))
                have HLA2 := Lib.hid (HLA.out.miss hin)
                clear hin HNX HLA hmc
                generalize nth mp0 d.maps q = m at *
                rcases hcs with g1 | ⟨d1', g2⟩
                · have d1' : decide (m.b < f) = true := by simpa using g1
                  go_wp2_with fail
                  go_roundw
                  case rel => exact ⟨q + 1, x, l, by go_num, rfl, by omega, HLA2, Lib.hid HNX2.out.symm, HRO.out, hBi⟩
                  case measure => simp [intOf]; omega
                · go_wp2_with fail
                  go_roundw
                  case rel => exact ⟨q + 1, x, l, by go_num, rfl, by omega, HLA2, Lib.hid HNX2.out.symm, HRO.out, hBi⟩
                  case measure => simp [intOf]; omega
              | true =>
                obtain ⟨g1, g2⟩ := (inR_iff f t _).1 hin
                have d1' : decide ((nth mp0 d.maps q).b < f) = false := by simpa using g1
                have HLA2 := Lib.hid (LastOk.hit (k := q) hin)
                have hx := HLA.out
                have hcs : (nextTo (nth mp0 d.maps (q - 1)) (nth mp0 d.maps q) = true ∧ 0 < q ∧ x = (q : Int) - 1) ∨ (outB d.id f t d.maps (Q k) (q + 1) = l ++ [⟨(nth mp0 d.maps q).b, 1, d.id, (nth mp0 d.maps q).v⟩] ∧ (nextTo (nth mp0 d.maps (q - 1)) (nth mp0 d.maps q) = false ∨ q = 0 ∨ x ≠ (q : Int) - 1)) := by
                  by_cases a1 : 0 < q ∧ x = (q : Int) - 1
                  · cases a2 : nextTo (nth mp0 d.maps (q - 1)) (nth mp0 d.maps q) with
                    | true => exact .inl ⟨rfl, a1⟩
                    | false => exact .inr ⟨HNX.out.trans (stepB_app hx hin fun _ _ => a2), .inl rfl⟩
                  · exact .inr ⟨HNX.out.trans (stepB_app hx hin fun e1 e2 => absurd ⟨e2, e1⟩ a1), by omega⟩
                rcases hcs with ⟨a1, a2, a3⟩ | ⟨a1, a2⟩
                · obtain ⟨y, hxy⟩ : ∃ y : Nat, x = y := ⟨q - 1, by omega⟩
                  subst hxy
                  have hqy : q = y + 1 := by omega
                  have hyq : ((y : Int) == (q : Int) - 1) = true := by simp; omega
                  have hiy := (hx.2.2 a2).1 a3
                  rw [show q - 1 = y by omega] at a1 hiy
                  have hnx : outB d.id f t d.maps (Q k) (q + 1) = bumpB l := by
                    rw [HNX.out]
                    subst hqy
                    exact stepB_bump hx hin a1
                  have hne : l ≠ [] := by
                    rw [HL.out, hqy]
                    exact outB_ne y hiy
                  have hsm : ∀ z ∈ l, 0 ≤ z.n ∧ z.n ≤ 40000 := fun z hz => by
                    rw [HL.out] at hz
                    have b1 := outB_pos (fun z hz => (HQS.out z hz).1) q z hz
                    have b2 := outB_small (B := 16384) (fun z hz => (HQS.out z hz).2) (by omega) q z hz
                    omega
                  rcases List.eq_nil_or_concat l with rfl | ⟨i, z, rfl⟩
                  · exact absurd rfl hne
                  rw [List.concat_eq_append] at *
                  obtain ⟨z1, z2⟩ := hsm z (by simp)
                  rw [bumpB_snoc] at hnx
                  have hlen : (i ++ [z]).length = i.length + 1 := by simp
                  have hr3 := HRO.out
                  rw [hlen] at hr3 hll ⊢
                  obtain ⟨m, hm⟩ : ∃ m, i.length = m := ⟨_, rfl⟩
                  rw [hm] at hr3 hll ⊢
                  obtain ⟨g, cap, hv, hg1, hg2, _⟩ := own_form hr3 (by omega)
                  injection hv with v1 v2 v3
                  subst v1 v3
                  obtain ⟨u1, u2, u3⟩ := last4B hr3 hm
                  have hm4 : (m : Int) < (m : Int) + 1 := by omega
                  obtain ⟨n0, n1, n2⟩ := hmc y (by rw [HDL.out]; omega)
                  obtain ⟨t1, t2, t3, t4⟩ := HE1.out y (by omega)
                  have hqs : (y : Int) < (dl : Int) := by omega
                  have HNX3 := Lib.hid hnx
                  have HM := Lib.hid hm
                  have HU3 := Lib.hid u3
                  unfold nextTo at a1
                  simp only [Bool.and_eq_true, decide_eq_true_eq] at a1
                  obtain ⟨b1, b2, b3⟩ := a1
                  have h1 : ((nth mp0 d.maps q).v == (nth mp0 d.maps y).v + 1) = true := by simpa using b1
                  have h2 : ((nth mp0 d.maps q).b == (nth mp0 d.maps y).b + 1) = true := by simpa using b2
                  have h3 : ((nth mp0 d.maps q).t == (nth mp0 d.maps y).t) = true := by simpa using b3
                  clear a2 a3 hin HNX HLA HL hmc hqy hiy hnx hne hsm hr3 hm u3 b1 b2 b3 hx hlen HRO
                  generalize nth mp0 d.maps q = mm at *
                  generalize nth mp0 d.maps y = pm at *
                  go_wp2_with fail
                  go_quiet (fail)
                  go_wp2_with fail
                  go_roundw
                  case rel => exact ⟨q + 1, (q : Nat), i ++ [⟨z.b, z.n + 1, z.id, z.v⟩], by go_num, by go_num, by omega, HLA2, Lib.hid HNX3.out.symm, by rw [List.length_append, HM.out]; exact HU3.out, (⟨hBi.os, hBi.tape, hBi.output, hBi.size, hBi.block⟩ : Below w2.heap.size w2 (wr.drewN nq)).setCell hg1 _⟩
                  case measure => simp [intOf]; omega
                · obtain ⟨hx1, hx2, _⟩ := hx
                  have hcs : x = -1 ∨ (∃ y : Nat, x = y ∧ ((y : Int) == (q : Int) - 1) = false) ∨ ∃ y : Nat, x = y ∧ q = y + 1 ∧ ((y : Int) == (q : Int) - 1) = true ∧ nextTo (nth mp0 d.maps y) (nth mp0 d.maps q) = false := by
                    by_cases b1 : x = -1
                    · exact .inl b1
                    · obtain ⟨y, rfl⟩ := Int.eq_ofNat_of_zero_le (show 0 ≤ x by omega)
                      by_cases b2 : (y : Int) = (q : Int) - 1
                      · have eq : q = y + 1 := by omega
                        refine .inr (.inr ⟨y, rfl, eq, by simpa using b2, ?_⟩)
                        rw [show q - 1 = y by omega] at a2
                        rcases a2 with h | h | h
                        · exact h
                        · omega
                        · omega
                      · exact .inr (.inl ⟨y, rfl, by simpa using b2⟩)
                  have HA1 := Lib.hid a1
                  have HMC := Lib.hid (fun w' (hB : Below w2.heap.size w2 w') => (⟨((hB.cell (p := ⟨mb, mo + q * 3, none⟩) (by have := hS mb hmb; simp only; omega)).trans (((hBi.cell (p := ⟨mb, mo + q * 3, none⟩) (by have := hS mb hmb; simp only; omega)).symm).trans m0)), ((hB.cell (p := ⟨mb, mo + q * 3 + 1, none⟩) (by have := hS mb hmb; simp only; omega)).trans (((hBi.cell (p := ⟨mb, mo + q * 3 + 1, none⟩) (by have := hS mb hmb; simp only; omega)).symm).trans m1)), ((hB.cell (p := ⟨w.heap.size, 4, none⟩) (by simp only; omega)).trans (((hBi.cell (p := ⟨w.heap.size, 4, none⟩) (by simp only; omega)).symm).trans x4)), ((hk2.trans (hB.mono hz2)).cell (p := ⟨b, off + k * 5, none⟩) hbw).trans c0⟩ : w'.cell? ⟨mb, mo + q * 3, none⟩ = some (.int .i64 (nth mp0 d.maps q).v) ∧ w'.cell? ⟨mb, mo + q * 3 + 1, none⟩ = some (.int .i64 (nth mp0 d.maps q).b) ∧ w'.cell? ⟨w.heap.size, 4, none⟩ = some (.slice (some ⟨b, off, none⟩) n c) ∧ w'.cell? ⟨b, off + k * 5, none⟩ = some (.int .i64 d.id)))
                  clear a1 a2 hin HNX HLA
                  rcases hcs with rfl | ⟨y, rfl, hy⟩ | ⟨y, rfl, hqy, hyq, hy⟩
                  · clear hmc
                    generalize nth mp0 d.maps q = m at *
                    go_wp2_with fail
                    go_quiet (fail)
                    go_wp2_with fail
                    obtain ⟨w5, hw5⟩ : ∃ w5, wr.drewN nq = w5 := ⟨_, rfl⟩
                    rw [hw5]
                    have HRO5 : w5.ownsRow w2.heap.size 35 4 (.slice Ai l.length ci) l.length (flats Bk.enc l) := by rw [← hw5]; exact HRO.out
                    have hB5 : Below w2.heap.size w2 w5 := by rw [← hw5]; exact ⟨hBi.os, hBi.tape, hBi.output, hBi.size, hBi.block⟩
                    have hz5 := hB5.size
                    have HM := Lib.hid (fun w' (hB : Below w2.heap.size w2 w') => (HMC.out w' hB))
                    refine wp_region_till (T := fun _ => false) (S := fun w' => Below w2.heap.size w2 w') (by kernel_rfl) (hB5.drew) (fun hHeld => ?_)
                    refine wpTill_put 0 128 (oi := _) (v := ?_) rfl rfl (by kernel_rfl) (by kernel_rfl) (by kernel_rfl) (by kernel_rfl) (fun _ _ _ h => h) (by rfl) hHeld ?_ ?_
                    rotate_left
                    · (intro w hSw; go_simp; (try with_reducible rfl))
                    (try simp only [Act.put, List.setIfInBounds_toArray, List.set_cons_zero, List.set_cons_succ])
                    refine wpTill_put 1 129 (oi := _) (v := ?_) rfl rfl (by kernel_rfl) (by kernel_rfl) (by kernel_rfl) (by kernel_rfl) (fun _ _ _ h => h) (by rfl) hHeld ?_ ?_
                    rotate_left
                    · (intro w hSw; go_simp; (try with_reducible rfl))
                    (try simp only [Act.put, List.setIfInBounds_toArray, List.set_cons_zero, List.set_cons_succ])
                    refine wpTill_put 2 130 (oi := _) (v := ?_) rfl rfl (by kernel_rfl) (by kernel_rfl) (by kernel_rfl) (by kernel_rfl) (fun _ _ _ h => h) (by rfl) hHeld ?_ ?_
                    rotate_left
                    · (intro w hSw; go_simp; (try with_reducible rfl))
                    (try simp only [Act.put, List.setIfInBounds_toArray, List.set_cons_zero, List.set_cons_succ])
                    refine wpTill_put 3 131 (oi := _) (v := ?_) rfl rfl (by kernel_rfl) (by kernel_rfl) (by kernel_rfl) (by kernel_rfl) (fun _ _ _ h => h) (by rfl) hHeld ?_ ?_
                    rotate_left
                    · (intro w hSw; obtain ⟨l1, l2, l3, l4⟩ := HM.out _ hSw; go_simp; (try with_reducible rfl))
                    (try simp only [Act.put, List.setIfInBounds_toArray, List.set_cons_zero, List.set_cons_succ])
                    refine wpTill_put 4 132 (oi := _) (v := ?_) rfl rfl (by kernel_rfl) (by kernel_rfl) (by kernel_rfl) (by kernel_rfl) (fun _ _ _ h => h) (by rfl) hHeld ?_ ?_
                    rotate_left
                    · (intro w hSw; go_simp; (try with_reducible rfl))
                    (try simp only [Act.put, List.setIfInBounds_toArray, List.set_cons_zero, List.set_cons_succ])
                    refine wpTill_put 5 133 (oi := _) (v := ?_) rfl rfl (by kernel_rfl) (by kernel_rfl) (by kernel_rfl) (by kernel_rfl) (fun _ _ _ h => h) (by rfl) hHeld ?_ ?_
                    rotate_left
                    · (intro w hSw; obtain ⟨l1, l2, l3, l4⟩ := HM.out _ hSw; go_simp; (try with_reducible rfl))
                    (try simp only [Act.put, List.setIfInBounds_toArray, List.set_cons_zero, List.set_cons_succ])
                    refine wpTill_put 6 134 (oi := _) (v := ?_) rfl rfl (by kernel_rfl) (by kernel_rfl) (by kernel_rfl) (by kernel_rfl) (fun _ _ _ h => h) (by rfl) hHeld ?_ ?_
                    rotate_left
                    · (intro w hSw; go_simp; (try with_reducible rfl))
                    (try simp only [Act.put, List.setIfInBounds_toArray, List.set_cons_zero, List.set_cons_succ])
                    refine wpTill_put 7 135 (oi := _) (v := ?_) rfl rfl (by kernel_rfl) (by kernel_rfl) (by kernel_rfl) (by kernel_rfl) (fun _ _ _ h => h) (by rfl) hHeld ?_ ?_
                    rotate_left
                    · (intro w hSw; obtain ⟨l1, l2, l3, l4⟩ := HM.out _ hSw; go_simp; (try with_reducible rfl))
                    (try simp only [Act.put, List.setIfInBounds_toArray, List.set_cons_zero, List.set_cons_succ])
                    refine wpTill_put 8 136 (oi := _) (v := ?_) rfl rfl (by kernel_rfl) (by kernel_rfl) (by kernel_rfl) (by kernel_rfl) (fun _ _ _ h => h) (by rfl) hHeld ?_ ?_
                    rotate_left
                    · (intro w hSw; go_simp; (try with_reducible rfl))
                    (try simp only [Act.put, List.setIfInBounds_toArray, List.set_cons_zero, List.set_cons_succ])
                    refine wpTill_put 9 137 (oi := _) (v := ?_) rfl rfl (by kernel_rfl) (by kernel_rfl) (by kernel_rfl) (by kernel_rfl) (fun _ _ _ h => h) (by rfl) hHeld ?_ ?_
                    rotate_left
                    · (intro w hSw; go_simp; (try with_reducible rfl))
                    (try simp only [Act.put, List.setIfInBounds_toArray, List.set_cons_zero, List.set_cons_succ])
                    refine wpTill_put 10 138 (oi := _) (v := ?_) rfl rfl (by kernel_rfl) (by kernel_rfl) (by kernel_rfl) (by kernel_rfl) (fun _ _ _ h => h) (by rfl) hHeld ?_ ?_
                    rotate_left
                    · (intro w hSw; go_simp; (try with_reducible rfl))
                    (try simp only [Act.put, List.setIfInBounds_toArray, List.set_cons_zero, List.set_cons_succ])
                    refine wpTill_put 11 139 (oi := _) (v := ?_) rfl rfl (by kernel_rfl) (by kernel_rfl) (by kernel_rfl) (by kernel_rfl) (fun _ _ _ h => h) (by rfl) hHeld ?_ ?_
                    rotate_left
                    · (intro w hSw; obtain ⟨l1, l2, l3, l4⟩ := HM.out _ hSw; go_simp; (try with_reducible rfl))
                    (try simp only [Act.put, List.setIfInBounds_toArray, List.set_cons_zero, List.set_cons_succ])
                    refine wpTill_put 12 140 (oi := _) (v := ?_) rfl rfl (by kernel_rfl) (by kernel_rfl) (by kernel_rfl) (by kernel_rfl) (fun _ _ _ h => h) (by rfl) hHeld ?_ ?_
                    rotate_left
                    · (intro w hSw; go_simp; (try with_reducible rfl))
                    (try simp only [Act.put, List.setIfInBounds_toArray, List.set_cons_zero, List.set_cons_succ])
                    refine wpTill_put 13 141 (oi := _) (v := ?_) rfl rfl (by kernel_rfl) (by kernel_rfl) (by kernel_rfl) (by kernel_rfl) (fun _ _ _ h => h) (by rfl) hHeld ?_ ?_
                    rotate_left
                    · (intro w hSw; go_simp; (try with_reducible rfl))
                    (try simp only [Act.put, List.setIfInBounds_toArray, List.set_cons_zero, List.set_cons_succ])
                    refine wpTill_put 14 142 (oi := _) (v := ?_) rfl rfl (by kernel_rfl) (by kernel_rfl) (by kernel_rfl) (by kernel_rfl) (fun _ _ _ h => h) (by rfl) hHeld ?_ ?_
                    rotate_left
                    · (intro w hSw; go_simp; (try with_reducible rfl))
                    (try simp only [Act.put, List.setIfInBounds_toArray, List.set_cons_zero, List.set_cons_succ])
                    refine wpTill_put 15 143 (oi := _) (v := ?_) rfl rfl (by kernel_rfl) (by kernel_rfl) (by kernel_rfl) (by kernel_rfl) (fun _ _ _ h => h) (by rfl) hHeld ?_ ?_
                    rotate_left
                    · (intro w hSw; go_simp; (try with_reducible rfl))
                    (try simp only [Act.put, List.setIfInBounds_toArray, List.set_cons_zero, List.set_cons_succ])
                    refine wpTill_put 16 144 (oi := _) (v := ?_) rfl rfl (by kernel_rfl) (by kernel_rfl) (by kernel_rfl) (by kernel_rfl) (fun _ _ _ h => h) (by rfl) hHeld ?_ ?_
                    rotate_left
                    · (intro w hSw; obtain ⟨l1, l2, l3, l4⟩ := HM.out _ hSw; go_simp; (try with_reducible rfl))
                    (try simp only [Act.put, List.setIfInBounds_toArray, List.set_cons_zero, List.set_cons_succ])
                    refine wpTill_put 17 145 (oi := _) (v := ?_) rfl rfl (by kernel_rfl) (by kernel_rfl) (by kernel_rfl) (by kernel_rfl) (fun _ _ _ h => h) (by rfl) hHeld ?_ ?_
                    rotate_left
                    · (intro w hSw; go_simp; (try with_reducible rfl))
                    (try simp only [Act.put, List.setIfInBounds_toArray, List.set_cons_zero, List.set_cons_succ])
                    refine wpTill_one 18 (o := _) (by kernel_rfl) rfl (fun K hK => ?_)
                    go_simp
                    refine hK.out _ _ (fun _ => hB5.drew.alloc hz5 _) (fun _ => ?_)
                    clear hK K hHeld
                    (try simp only [Act.put, List.setIfInBounds_toArray])
                    refine wpTill_one 19 (o := _) (by kernel_rfl) rfl (fun K hK => ?_)
                    refine step_append_one elRBk rfl _ _ rfl w2.heap.size (.slice Ai l.length ci) l.length l ⟨m.b, 1, d.id, m.v⟩ rfl HRO5.drew rfl (by omega) hz5 ?_
                    intro A9 c9 w9 hown9 hg9
                    have hHeld := hB5.drew.grown hg9 hz5 (fun j hj => (HRO5.lt j hj).1)
                    refine hK.out _ _ (fun _ => hHeld) (fun _ => ?_)
                    clear hK K
                    (try simp only [Act.put])
                    refine wpTill_put 20 8 (oi := _) (v := ?_) rfl rfl (by kernel_rfl) (by kernel_rfl) (by kernel_rfl) (by kernel_rfl) (fun _ _ _ h => h) (by rfl) hHeld ?_ ?_
                    rotate_left
                    · (intro w hSw; go_simp; (try with_reducible rfl))
                    (try simp only [Act.put, List.setIfInBounds_toArray])
                    refine wpTill_done (by kernel_rfl) ?_ _
                    go_wp2_with fail
                    go_roundw
                    case rel => exact ⟨q + 1, (q : Nat), l ++ [⟨m.b, 1, d.id, m.v⟩], by go_num, by go_num, by omega, HLA2, Lib.hid HA1.out.symm, by rw [List.length_append]; exact hown9, hHeld⟩
                    case measure => simp [intOf]; omega
                  · clear hmc
                    generalize nth mp0 d.maps q = m at *
                    go_wp2_with fail
                    go_quiet (fail)
                    go_wp2_with fail
                    obtain ⟨w5, hw5⟩ : ∃ w5, wr.drewN nq = w5 := ⟨_, rfl⟩
                    rw [hw5]
                    have HRO5 : w5.ownsRow w2.heap.size 35 4 (.slice Ai l.length ci) l.length (flats Bk.enc l) := by rw [← hw5]; exact HRO.out
                    have hB5 : Below w2.heap.size w2 w5 := by rw [← hw5]; exact ⟨hBi.os, hBi.tape, hBi.output, hBi.size, hBi.block⟩
                    have hz5 := hB5.size
                    have HM := Lib.hid (fun w' (hB : Below w2.heap.size w2 w') => (HMC.out w' hB))
                    refine wp_region_till (T := fun _ => false) (S := fun w' => Below w2.heap.size w2 w') (by kernel_rfl) (hB5.drew) (fun hHeld => ?_)
                    refine wpTill_put 0 128 (oi := _) (v := ?_) rfl rfl (by kernel_rfl) (by kernel_rfl) (by kernel_rfl) (by kernel_rfl) (fun _ _ _ h => h) (by rfl) hHeld ?_ ?_
                    rotate_left
                    · (intro w hSw; go_simp; (try with_reducible rfl))
                    (try simp only [Act.put, List.setIfInBounds_toArray, List.set_cons_zero, List.set_cons_succ])
                    refine wpTill_put 1 129 (oi := _) (v := ?_) rfl rfl (by kernel_rfl) (by kernel_rfl) (by kernel_rfl) (by kernel_rfl) (fun _ _ _ h => h) (by rfl) hHeld ?_ ?_
                    rotate_left
                    · (intro w hSw; go_simp; (try with_reducible rfl))
                    (try simp only [Act.put, List.setIfInBounds_toArray, List.set_cons_zero, List.set_cons_succ])
                    refine wpTill_put 2 130 (oi := _) (v := ?_) rfl rfl (by kernel_rfl) (by kernel_rfl) (by kernel_rfl) (by kernel_rfl) (fun _ _ _ h => h) (by rfl) hHeld ?_ ?_
                    rotate_left
                    · (intro w hSw; go_simp; (try with_reducible rfl))
                    (try simp only [Act.put, List.setIfInBounds_toArray, List.set_cons_zero, List.set_cons_succ])
                    refine wpTill_put 3 131 (oi := _) (v := ?_) rfl rfl (by kernel_rfl) (by kernel_rfl) (by kernel_rfl) (by kernel_rfl) (fun _ _ _ h => h) (by rfl) hHeld ?_ ?_
                    rotate_left
                    · (intro w hSw; obtain ⟨l1, l2, l3, l4⟩ := HM.out _ hSw; go_simp; (try with_reducible rfl))
                    (try simp only [Act.put, List.setIfInBounds_toArray, List.set_cons_zero, List.set_cons_succ])
                    refine wpTill_put 4 132 (oi := _) (v := ?_) rfl rfl (by kernel_rfl) (by kernel_rfl) (by kernel_rfl) (by kernel_rfl) (fun _ _ _ h => h) (by rfl) hHeld ?_ ?_
                    rotate_left
                    · (intro w hSw; go_simp; (try with_reducible rfl))
                    (try simp only [Act.put, List.setIfInBounds_toArray, List.set_cons_zero, List.set_cons_succ])
                    refine wpTill_put 5 133 (oi := _) (v := ?_) rfl rfl (by kernel_rfl) (by kernel_rfl) (by kernel_rfl) (by kernel_rfl) (fun _ _ _ h => h) (by rfl) hHeld ?_ ?_
                    rotate_left
                    · (intro w hSw; obtain ⟨l1, l2, l3, l4⟩ := HM.out _ hSw; go_simp; (try with_reducible rfl))
                    (try simp only [Act.put, List.setIfInBounds_toArray, List.set_cons_zero, List.set_cons_succ])
                    refine wpTill_put 6 134 (oi := _) (v := ?_) rfl rfl (by kernel_rfl) (by kernel_rfl) (by kernel_rfl) (by kernel_rfl) (fun _ _ _ h => h) (by rfl) hHeld ?_ ?_
                    rotate_left
                    · (intro w hSw; go_simp; (try with_reducible rfl))
                    (try simp only [Act.put, List.setIfInBounds_toArray, List.set_cons_zero, List.set_cons_succ])
                    refine wpTill_put 7 135 (oi := _) (v := ?_) rfl rfl (by kernel_rfl) (by kernel_rfl) (by kernel_rfl) (by kernel_rfl) (fun _ _ _ h => h) (by rfl) hHeld ?_ ?_
                    rotate_left
                    · (intro w hSw; obtain ⟨l1, l2, l3, l4⟩ := HM.out _ hSw; go_simp; (try with_reducible rfl))
                    (try simp only [Act.put, List.setIfInBounds_toArray, List.set_cons_zero, List.set_cons_succ])
                    refine wpTill_put 8 136 (oi := _) (v := ?_) rfl rfl (by kernel_rfl) (by kernel_rfl) (by kernel_rfl) (by kernel_rfl) (fun _ _ _ h => h) (by rfl) hHeld ?_ ?_
                    rotate_left
                    · (intro w hSw; go_simp; (try with_reducible rfl))
                    (try simp only [Act.put, List.setIfInBounds_toArray, List.set_cons_zero, List.set_cons_succ])
                    refine wpTill_put 9 137 (oi := _) (v := ?_) rfl rfl (by kernel_rfl) (by kernel_rfl) (by kernel_rfl) (by kernel_rfl) (fun _ _ _ h => h) (by rfl) hHeld ?_ ?_
                    rotate_left
                    · (intro w hSw; go_simp; (try with_reducible rfl))
                    (try simp only [Act.put, List.setIfInBounds_toArray, List.set_cons_zero, List.set_cons_succ])
                    refine wpTill_put 10 138 (oi := _) (v := ?_) rfl rfl (by kernel_rfl) (by kernel_rfl) (by kernel_rfl) (by kernel_rfl) (fun _ _ _ h => h) (by rfl) hHeld ?_ ?_
                    rotate_left
                    · (intro w hSw; go_simp; (try with_reducible rfl))
                    (try simp only [Act.put, List.setIfInBounds_toArray, List.set_cons_zero, List.set_cons_succ])
                    refine wpTill_put 11 139 (oi := _) (v := ?_) rfl rfl (by kernel_rfl) (by kernel_rfl) (by kernel_rfl) (by kernel_rfl) (fun _ _ _ h => h) (by rfl) hHeld ?_ ?_
                    rotate_left
                    · (intro w hSw; obtain ⟨l1, l2, l3, l4⟩ := HM.out _ hSw; go_simp; (try with_reducible rfl))
                    (try simp only [Act.put, List.setIfInBounds_toArray, List.set_cons_zero, List.set_cons_succ])
                    refine wpTill_put 12 140 (oi := _) (v := ?_) rfl rfl (by kernel_rfl) (by kernel_rfl) (by kernel_rfl) (by kernel_rfl) (fun _ _ _ h => h) (by rfl) hHeld ?_ ?_
                    rotate_left
                    · (intro w hSw; go_simp; (try with_reducible rfl))
                    (try simp only [Act.put, List.setIfInBounds_toArray, List.set_cons_zero, List.set_cons_succ])
                    refine wpTill_put 13 141 (oi := _) (v := ?_) rfl rfl (by kernel_rfl) (by kernel_rfl) (by kernel_rfl) (by kernel_rfl) (fun _ _ _ h => h) (by rfl) hHeld ?_ ?_
                    rotate_left
                    · (intro w hSw; go_simp; (try with_reducible rfl))
                    (try simp only [Act.put, List.setIfInBounds_toArray, List.set_cons_zero, List.set_cons_succ])
                    refine wpTill_put 14 142 (oi := _) (v := ?_) rfl rfl (by kernel_rfl) (by kernel_rfl) (by kernel_rfl) (by kernel_rfl) (fun _ _ _ h => h) (by rfl) hHeld ?_ ?_
                    rotate_left
                    · (intro w hSw; go_simp; (try with_reducible rfl))
                    (try simp only [Act.put, List.setIfInBounds_toArray, List.set_cons_zero, List.set_cons_succ])
                    refine wpTill_put 15 143 (oi := _) (v := ?_) rfl rfl (by kernel_rfl) (by kernel_rfl) (by kernel_rfl) (by kernel_rfl) (fun _ _ _ h => h) (by rfl) hHeld ?_ ?_
                    rotate_left
                    · (intro w hSw; go_simp; (try with_reducible rfl))
                    (try simp only [Act.put, List.setIfInBounds_toArray, List.set_cons_zero, List.set_cons_succ])
                    refine wpTill_put 16 144 (oi := _) (v := ?_) rfl rfl (by kernel_rfl) (by kernel_rfl) (by kernel_rfl) (by kernel_rfl) (fun _ _ _ h => h) (by rfl) hHeld ?_ ?_
                    rotate_left
                    · (intro w hSw; obtain ⟨l1, l2, l3, l4⟩ := HM.out _ hSw; go_simp; (try with_reducible rfl))
                    (try simp only [Act.put, List.setIfInBounds_toArray, List.set_cons_zero, List.set_cons_succ])
                    refine wpTill_put 17 145 (oi := _) (v := ?_) rfl rfl (by kernel_rfl) (by kernel_rfl) (by kernel_rfl) (by kernel_rfl) (fun _ _ _ h => h) (by rfl) hHeld ?_ ?_
                    rotate_left
                    · (intro w hSw; go_simp; (try with_reducible rfl))
                    (try simp only [Act.put, List.setIfInBounds_toArray, List.set_cons_zero, List.set_cons_succ])
                    refine wpTill_one 18 (o := _) (by kernel_rfl) rfl (fun K hK => ?_)
                    go_simp
                    refine hK.out _ _ (fun _ => hB5.drew.alloc hz5 _) (fun _ => ?_)
                    clear hK K hHeld
                    (try simp only [Act.put, List.setIfInBounds_toArray])
                    refine wpTill_one 19 (o := _) (by kernel_rfl) rfl (fun K hK => ?_)
                    refine step_append_one elRBk rfl _ _ rfl w2.heap.size (.slice Ai l.length ci) l.length l ⟨m.b, 1, d.id, m.v⟩ rfl HRO5.drew rfl (by omega) hz5 ?_
                    intro A9 c9 w9 hown9 hg9
                    have hHeld := hB5.drew.grown hg9 hz5 (fun j hj => (HRO5.lt j hj).1)
                    refine hK.out _ _ (fun _ => hHeld) (fun _ => ?_)
                    clear hK K
                    (try simp only [Act.put])
                    refine wpTill_put 20 8 (oi := _) (v := ?_) rfl rfl (by kernel_rfl) (by kernel_rfl) (by kernel_rfl) (by kernel_rfl) (fun _ _ _ h => h) (by rfl) hHeld ?_ ?_
                    rotate_left
                    · (intro w hSw; go_simp; (try with_reducible rfl))
                    (try simp only [Act.put, List.setIfInBounds_toArray])
                    refine wpTill_done (by kernel_rfl) ?_ _
                    go_wp2_with fail
                    go_roundw
                    case rel => exact ⟨q + 1, (q : Nat), l ++ [⟨m.b, 1, d.id, m.v⟩], by go_num, by go_num, by omega, HLA2, Lib.hid HA1.out.symm, by rw [List.length_append]; exact hown9, hHeld⟩
                    case measure => simp [intOf]; omega
                  · obtain ⟨n0, n1, n2⟩ := hmc y (by rw [HDL.out]; omega)
                    obtain ⟨t1, t2, t3, t4⟩ := HE1.out y (by omega)
                    clear hmc
                    generalize nth mp0 d.maps q = m at *
                    generalize nth mp0 d.maps y = pm at *
                    have hqs : (y : Int) < (dl : Int) := by omega
                    clear hqy
                    have hcs : ((m.v == pm.v + 1) = false) ∨ ((m.v == pm.v + 1) = true ∧ (m.b == pm.b + 1) = false) ∨ ((m.v == pm.v + 1) = true ∧ (m.b == pm.b + 1) = true ∧ (m.t == pm.t) = false) := by
                      unfold nextTo at hy
                      simp only [Bool.and_eq_false_iff, decide_eq_false_iff_not] at hy
                      by_cases b1 : m.v = pm.v + 1
                      · by_cases b2 : m.b = pm.b + 1
                        · refine .inr (.inr ⟨by simpa using b1, by simpa using b2, ?_⟩)
                          rcases hy with h | h | h
                          · exact absurd b1 h
                          · exact absurd b2 h
                          · simpa using h
                        · exact .inr (.inl ⟨by simpa using b1, by simpa using b2⟩)
                      · exact .inl (by simpa using b1)
                    clear hy
                    rcases hcs with h1 | ⟨h1, h2⟩ | ⟨h1, h2, h3⟩
                    · skip
                      go_wp2_with fail
                      go_quiet (fail)
                      go_wp2_with fail
                      obtain ⟨w5, hw5⟩ : ∃ w5, wr.drewN nq = w5 := ⟨_, rfl⟩
                      rw [hw5]
                      have HRO5 : w5.ownsRow w2.heap.size 35 4 (.slice Ai l.length ci) l.length (flats Bk.enc l) := by rw [← hw5]; exact HRO.out
                      have hB5 : Below w2.heap.size w2 w5 := by rw [← hw5]; exact ⟨hBi.os, hBi.tape, hBi.output, hBi.size, hBi.block⟩
                      have hz5 := hB5.size
                      have HM := Lib.hid (fun w' (hB : Below w2.heap.size w2 w') => (HMC.out w' hB))
                      refine wp_region_till (T := fun _ => false) (S := fun w' => Below w2.heap.size w2 w') (by kernel_rfl) (hB5.drew) (fun hHeld => ?_)
                      refine wpTill_put 0 128 (oi := _) (v := ?_) rfl rfl (by kernel_rfl) (by kernel_rfl) (by kernel_rfl) (by kernel_rfl) (fun _ _ _ h => h) (by rfl) hHeld ?_ ?_
                      rotate_left
                      · (intro w hSw; go_simp; (try with_reducible rfl))
                      (try simp only [Act.put, List.setIfInBounds_toArray, List.set_cons_zero, List.set_cons_succ])
                      refine wpTill_put 1 129 (oi := _) (v := ?_) rfl rfl (by kernel_rfl) (by kernel_rfl) (by kernel_rfl) (by kernel_rfl) (fun _ _ _ h => h) (by rfl) hHeld ?_ ?_
                      rotate_left
                      · (intro w hSw; go_simp; (try with_reducible rfl))
                      (try simp only [Act.put, List.setIfInBounds_toArray, List.set_cons_zero, List.set_cons_succ])
                      refine wpTill_put 2 130 (oi := _) (v := ?_) rfl rfl (by kernel_rfl) (by kernel_rfl) (by kernel_rfl) (by kernel_rfl) (fun _ _ _ h => h) (by rfl) hHeld ?_ ?_
                      rotate_left
                      · (intro w hSw; go_simp; (try with_reducible rfl))
                      (try simp only [Act.put, List.setIfInBounds_toArray, List.set_cons_zero, List.set_cons_succ])
                      refine wpTill_put 3 131 (oi := _) (v := ?_) rfl rfl (by kernel_rfl) (by kernel_rfl) (by kernel_rfl) (by kernel_rfl) (fun _ _ _ h => h) (by rfl) hHeld ?_ ?_
                      rotate_left
                      · (intro w hSw; obtain ⟨l1, l2, l3, l4⟩ := HM.out _ hSw; go_simp; (try with_reducible rfl))
                      (try simp only [Act.put, List.setIfInBounds_toArray, List.set_cons_zero, List.set_cons_succ])
                      refine wpTill_put 4 132 (oi := _) (v := ?_) rfl rfl (by kernel_rfl) (by kernel_rfl) (by kernel_rfl) (by kernel_rfl) (fun _ _ _ h => h) (by rfl) hHeld ?_ ?_
                      rotate_left
                      · (intro w hSw; go_simp; (try with_reducible rfl))
                      (try simp only [Act.put, List.setIfInBounds_toArray, List.set_cons_zero, List.set_cons_succ])
                      refine wpTill_put 5 133 (oi := _) (v := ?_) rfl rfl (by kernel_rfl) (by kernel_rfl) (by kernel_rfl) (by kernel_rfl) (fun _ _ _ h => h) (by rfl) hHeld ?_ ?_
                      rotate_left
                      · (intro w hSw; obtain ⟨l1, l2, l3, l4⟩ := HM.out _ hSw; go_simp; (try with_reducible rfl))
                      (try simp only [Act.put, List.setIfInBounds_toArray, List.set_cons_zero, List.set_cons_succ])
                      refine wpTill_put 6 134 (oi := _) (v := ?_) rfl rfl (by kernel_rfl) (by kernel_rfl) (by kernel_rfl) (by kernel_rfl) (fun _ _ _ h => h) (by rfl) hHeld ?_ ?_
                      rotate_left
                      · (intro w hSw; go_simp; (try with_reducible rfl))
                      (try simp only [Act.put, List.setIfInBounds_toArray, List.set_cons_zero, List.set_cons_succ])
                      refine wpTill_put 7 135 (oi := _) (v := ?_) rfl rfl (by kernel_rfl) (by kernel_rfl) (by kernel_rfl) (by kernel_rfl) (fun _ _ _ h => h) (by rfl) hHeld ?_ ?_
                      rotate_left
                      · (intro w hSw; obtain ⟨l1, l2, l3, l4⟩ := HM.out _ hSw; go_simp; (try with_reducible rfl))
                      (try simp only [Act.put, List.setIfInBounds_toArray, List.set_cons_zero, List.set_cons_succ])
                      refine wpTill_put 8 136 (oi := _) (v := ?_) rfl rfl (by kernel_rfl) (by kernel_rfl) (by kernel_rfl) (by kernel_rfl) (fun _ _ _ h => h) (by rfl) hHeld ?_ ?_
                      rotate_left
                      · (intro w hSw; go_simp; (try with_reducible rfl))
                      (try simp only [Act.put, List.setIfInBounds_toArray, List.set_cons_zero, List.set_cons_succ])
                      refine wpTill_put 9 137 (oi := _) (v := ?_) rfl rfl (by kernel_rfl) (by kernel_rfl) (by kernel_rfl) (by kernel_rfl) (fun _ _ _ h => h) (by rfl) hHeld ?_ ?_
                      rotate_left
                      · (intro w hSw; go_simp; (try with_reducible rfl))
                      (try simp only [Act.put, List.setIfInBounds_toArray, List.set_cons_zero, List.set_cons_succ])
                      refine wpTill_put 10 138 (oi := _) (v := ?_) rfl rfl (by kernel_rfl) (by kernel_rfl) (by kernel_rfl) (by kernel_rfl) (fun _ _ _ h => h) (by rfl) hHeld ?_ ?_
                      rotate_left
                      · (intro w hSw; go_simp; (try with_reducible rfl))
                      (try simp only [Act.put, List.setIfInBounds_toArray, List.set_cons_zero, List.set_cons_succ])
                      refine wpTill_put 11 139 (oi := _) (v := ?_) rfl rfl (by kernel_rfl) (by kernel_rfl) (by kernel_rfl) (by kernel_rfl) (fun _ _ _ h => h) (by rfl) hHeld ?_ ?_
                      rotate_left
                      · (intro w hSw; obtain ⟨l1, l2, l3, l4⟩ := HM.out _ hSw; go_simp; (try with_reducible rfl))
                      (try simp only [Act.put, List.setIfInBounds_toArray, List.set_cons_zero, List.set_cons_succ])
                      refine wpTill_put 12 140 (oi := _) (v := ?_) rfl rfl (by kernel_rfl) (by kernel_rfl) (by kernel_rfl) (by kernel_rfl) (fun _ _ _ h => h) (by rfl) hHeld ?_ ?_
                      rotate_left
                      · (intro w hSw; go_simp; (try with_reducible rfl))
                      (try simp only [Act.put, List.setIfInBounds_toArray, List.set_cons_zero, List.set_cons_succ])
                      refine wpTill_put 13 141 (oi := _) (v := ?_) rfl rfl (by kernel_rfl) (by kernel_rfl) (by kernel_rfl) (by kernel_rfl) (fun _ _ _ h => h) (by rfl) hHeld ?_ ?_
                      rotate_left
                      · (intro w hSw; go_simp; (try with_reducible rfl))
                      (try simp only [Act.put, List.setIfInBounds_toArray, List.set_cons_zero, List.set_cons_succ])
                      refine wpTill_put 14 142 (oi := _) (v := ?_) rfl rfl (by kernel_rfl) (by kernel_rfl) (by kernel_rfl) (by kernel_rfl) (fun _ _ _ h => h) (by rfl) hHeld ?_ ?_
                      rotate_left
                      · (intro w hSw; go_simp; (try with_reducible rfl))
                      (try simp only [Act.put, List.setIfInBounds_toArray, List.set_cons_zero, List.set_cons_succ])
                      refine wpTill_put 15 143 (oi := _) (v := ?_) rfl rfl (by kernel_rfl) (by kernel_rfl) (by kernel_rfl) (by kernel_rfl) (fun _ _ _ h => h) (by rfl) hHeld ?_ ?_
                      rotate_left
                      · (intro w hSw; go_simp; (try with_reducible rfl))
                      (try simp only [Act.put, List.setIfInBounds_toArray, List.set_cons_zero, List.set_cons_succ])
                      refine wpTill_put 16 144 (oi := _) (v := ?_) rfl rfl (by kernel_rfl) (by kernel_rfl) (by kernel_rfl) (by kernel_rfl) (fun _ _ _ h => h) (by rfl) hHeld ?_ ?_
                      rotate_left
                      · (intro w hSw; obtain ⟨l1, l2, l3, l4⟩ := HM.out _ hSw; go_simp; (try with_reducible rfl))
                      (try simp only [Act.put, List.setIfInBounds_toArray, List.set_cons_zero, List.set_cons_succ])
                      refine wpTill_put 17 145 (oi := _) (v := ?_) rfl rfl (by kernel_rfl) (by kernel_rfl) (by kernel_rfl) (by kernel_rfl) (fun _ _ _ h => h) (by rfl) hHeld ?_ ?_
                      rotate_left
                      · (intro w hSw; go_simp; (try with_reducible rfl))
                      (try simp only [Act.put, List.setIfInBounds_toArray, List.set_cons_zero, List.set_cons_succ])
                      refine wpTill_one 18 (o := _) (by kernel_rfl) rfl (fun K hK => ?_)
                      go_simp
                      refine hK.out _ _ (fun _ => hB5.drew.alloc hz5 _) (fun _ => ?_)
                      clear hK K hHeld
                      (try simp only [Act.put, List.setIfInBounds_toArray])
                      refine wpTill_one 19 (o := _) (by kernel_rfl) rfl (fun K hK => ?_)
                      refine step_append_one elRBk rfl _ _ rfl w2.heap.size (.slice Ai l.length ci) l.length l ⟨m.b, 1, d.id, m.v⟩ rfl HRO5.drew rfl (by omega) hz5 ?_
                      intro A9 c9 w9 hown9 hg9
                      have hHeld := hB5.drew.grown hg9 hz5 (fun j hj => (HRO5.lt j hj).1)
                      refine hK.out _ _ (fun _ => hHeld) (fun _ => ?_)
                      clear hK K
                      (try simp only [Act.put])
                      refine wpTill_put 20 8 (oi := _) (v := ?_) rfl rfl (by kernel_rfl) (by kernel_rfl) (by kernel_rfl) (by kernel_rfl) (fun _ _ _ h => h) (by rfl) hHeld ?_ ?_
                      rotate_left
                      · (intro w hSw; go_simp; (try with_reducible rfl))
                      (try simp only [Act.put, List.setIfInBounds_toArray])
                      refine wpTill_done (by kernel_rfl) ?_ _
                      go_wp2_with fail
                      go_roundw
                      case rel => exact ⟨q + 1, (q : Nat), l ++ [⟨m.b, 1, d.id, m.v⟩], by go_num, by go_num, by omega, HLA2, Lib.hid HA1.out.symm, by rw [List.length_append]; exact hown9, hHeld⟩
                      case measure => simp [intOf]; omega
                    · skip
                      go_wp2_with fail
                      go_quiet (fail)
                      go_wp2_with fail
                      obtain ⟨w5, hw5⟩ : ∃ w5, wr.drewN nq = w5 := ⟨_, rfl⟩
                      rw [hw5]
                      have HRO5 : w5.ownsRow w2.heap.size 35 4 (.slice Ai l.length ci) l.length (flats Bk.enc l) := by rw [← hw5]; exact HRO.out
                      have hB5 : Below w2.heap.size w2 w5 := by rw [← hw5]; exact ⟨hBi.os, hBi.tape, hBi.output, hBi.size, hBi.block⟩
                      have hz5 := hB5.size
                      have HM := Lib.hid (fun w' (hB : Below w2.heap.size w2 w') => (HMC.out w' hB))
                      refine wp_region_till (T := fun _ => false) (S := fun w' => Below w2.heap.size w2 w') (by kernel_rfl) (hB5.drew) (fun hHeld => ?_)
                      refine wpTill_put 0 128 (oi := _) (v := ?_) rfl rfl (by kernel_rfl) (by kernel_rfl) (by kernel_rfl) (by kernel_rfl) (fun _ _ _ h => h) (by rfl) hHeld ?_ ?_
                      rotate_left
                      · (intro w hSw; go_simp; (try with_reducible rfl))
                      (try simp only [Act.put, List.setIfInBounds_toArray, List.set_cons_zero, List.set_cons_succ])
                      refine wpTill_put 1 129 (oi := _) (v := ?_) rfl rfl (by kernel_rfl) (by kernel_rfl) (by kernel_rfl) (by kernel_rfl) (fun _ _ _ h => h) (by rfl) hHeld ?_ ?_
                      rotate_left
                      · (intro w hSw; go_simp; (try with_reducible rfl))
                      (try simp only [Act.put, List.setIfInBounds_toArray, List.set_cons_zero, List.set_cons_succ])
                      refine wpTill_put 2 130 (oi := _) (v := ?_) rfl rfl (by kernel_rfl) (by kernel_rfl) (by kernel_rfl) (by kernel_rfl) (fun _ _ _ h => h) (by rfl) hHeld ?_ ?_
                      rotate_left
                      · (intro w hSw; go_simp; (try with_reducible rfl))
                      (try simp only [Act.put, List.setIfInBounds_toArray, List.set_cons_zero, List.set_cons_succ])
                      refine wpTill_put 3 131 (oi := _) (v := ?_) rfl rfl (by kernel_rfl) (by kernel_rfl) (by kernel_rfl) (by kernel_rfl) (fun _ _ _ h => h) (by rfl) hHeld ?_ ?_
                      rotate_left
                      · (intro w hSw; obtain ⟨l1, l2, l3, l4⟩ := HM.out _ hSw; go_simp; (try with_reducible rfl))
                      (try simp only [Act.put, List.setIfInBounds_toArray, List.set_cons_zero, List.set_cons_succ])
                      refine wpTill_put 4 132 (oi := _) (v := ?_) rfl rfl (by kernel_rfl) (by kernel_rfl) (by kernel_rfl) (by kernel_rfl) (fun _ _ _ h => h) (by rfl) hHeld ?_ ?_
                      rotate_left
                      · (intro w hSw; go_simp; (try with_reducible rfl))
                      (try simp only [Act.put, List.setIfInBounds_toArray, List.set_cons_zero, List.set_cons_succ])
                      refine wpTill_put 5 133 (oi := _) (v := ?_) rfl rfl (by kernel_rfl) (by kernel_rfl) (by kernel_rfl) (by kernel_rfl) (fun _ _ _ h => h) (by rfl) hHeld ?_ ?_
                      rotate_left
                      · (intro w hSw; obtain ⟨l1, l2, l3, l4⟩ := HM.out _ hSw; go_simp; (try with_reducible rfl))
                      (try simp only [Act.put, List.setIfInBounds_toArray, List.set_cons_zero, List.set_cons_succ])
                      refine wpTill_put 6 134 (oi := _) (v := ?_) rfl rfl (by kernel_rfl) (by kernel_rfl) (by kernel_rfl) (by kernel_rfl) (fun _ _ _ h => h) (by rfl) hHeld ?_ ?_
                      rotate_left
                      · (intro w hSw; go_simp; (try with_reducible rfl))
                      (try simp only [Act.put, List.setIfInBounds_toArray, List.set_cons_zero, List.set_cons_succ])
                      refine wpTill_put 7 135 (oi := _) (v := ?_) rfl rfl (by kernel_rfl) (by kernel_rfl) (by kernel_rfl) (by kernel_rfl) (fun _ _ _ h => h) (by rfl) hHeld ?_ ?_
                      rotate_left
                      · (intro w hSw; obtain ⟨l1, l2, l3, l4⟩ := HM.out _ hSw; go_simp; (try with_reducible rfl))
                      (try simp only [Act.put, List.setIfInBounds_toArray, List.set_cons_zero, List.set_cons_succ])
                      refine wpTill_put 8 136 (oi := _) (v := ?_) rfl rfl (by kernel_rfl) (by kernel_rfl) (by kernel_rfl) (by kernel_rfl) (fun _ _ _ h => h) (by rfl) hHeld ?_ ?_
                      rotate_left
                      · (intro w hSw; go_simp; (try with_reducible rfl))
                      (try simp only [Act.put, List.setIfInBounds_toArray, List.set_cons_zero, List.set_cons_succ])
                      refine wpTill_put 9 137 (oi := _) (v := ?_) rfl rfl (by kernel_rfl) (by kernel_rfl) (by kernel_rfl) (by kernel_rfl) (fun _ _ _ h => h) (by rfl) hHeld ?_ ?_
                      rotate_left
                      · (intro w hSw; go_simp; (try with_reducible rfl))
                      (try simp only [Act.put, List.setIfInBounds_toArray, List.set_cons_zero, List.set_cons_succ])
                      refine wpTill_put 10 138 (oi := _) (v := ?_) rfl rfl (by kernel_rfl) (by kernel_rfl) (by kernel_rfl) (by kernel_rfl) (fun _ _ _ h => h) (by rfl) hHeld ?_ ?_
                      rotate_left
                      · (intro w hSw; go_simp; (try with_reducible rfl))
                      (try simp only [Act.put, List.setIfInBounds_toArray, List.set_cons_zero, List.set_cons_succ])
                      refine wpTill_put 11 139 (oi := _) (v := ?_) rfl rfl (by kernel_rfl) (by kernel_rfl) (by kernel_rfl) (by kernel_rfl) (fun _ _ _ h => h) (by rfl) hHeld ?_ ?_
                      rotate_left
                      · (intro w hSw; obtain ⟨l1, l2, l3, l4⟩ := HM.out _ hSw; go_simp; (try with_reducible rfl))
                      (try simp only [Act.put, List.setIfInBounds_toArray, List.set_cons_zero, List.set_cons_succ])
                      refine wpTill_put 12 140 (oi := _) (v := ?_) rfl rfl (by kernel_rfl) (by kernel_rfl) (by kernel_rfl) (by kernel_rfl) (fun _ _ _ h => h) (by rfl) hHeld ?_ ?_
                      rotate_left
                      · (intro w hSw; go_simp; (try with_reducible rfl))
                      (try simp only [Act.put, List.setIfInBounds_toArray, List.set_cons_zero, List.set_cons_succ])
                      refine wpTill_put 13 141 (oi := _) (v := ?_) rfl rfl (by kernel_rfl) (by kernel_rfl) (by kernel_rfl) (by kernel_rfl) (fun _ _ _ h => h) (by rfl) hHeld ?_ ?_
                      rotate_left
                      · (intro w hSw; go_simp; (try with_reducible rfl))
                      (try simp only [Act.put, List.setIfInBounds_toArray, List.set_cons_zero, List.set_cons_succ])
                      refine wpTill_put 14 142 (oi := _) (v := ?_) rfl rfl (by kernel_rfl) (by kernel_rfl) (by kernel_rfl) (by kernel_rfl) (fun _ _ _ h => h) (by rfl) hHeld ?_ ?_
                      rotate_left
                      · (intro w hSw; go_simp; (try with_reducible rfl))
                      (try simp only [Act.put, List.setIfInBounds_toArray, List.set_cons_zero, List.set_cons_succ])
                      refine wpTill_put 15 143 (oi := _) (v := ?_) rfl rfl (by kernel_rfl) (by kernel_rfl) (by kernel_rfl) (by kernel_rfl) (fun _ _ _ h => h) (by rfl) hHeld ?_ ?_
                      rotate_left
                      · (intro w hSw; go_simp; (try with_reducible rfl))
                      (try simp only [Act.put, List.setIfInBounds_toArray, List.set_cons_zero, List.set_cons_succ])
                      refine wpTill_put 16 144 (oi := _) (v := ?_) rfl rfl (by kernel_rfl) (by kernel_rfl) (by kernel_rfl) (by kernel_rfl) (fun _ _ _ h => h) (by rfl) hHeld ?_ ?_
                      rotate_left
                      · (intro w hSw; obtain ⟨l1, l2, l3, l4⟩ := HM.out _ hSw; go_simp; (try with_reducible rfl))
                      (try simp only [Act.put, List.setIfInBounds_toArray, List.set_cons_zero, List.set_cons_succ])
                      refine wpTill_put 17 145 (oi := _) (v := ?_) rfl rfl (by kernel_rfl) (by kernel_rfl) (by kernel_rfl) (by kernel_rfl) (fun _ _ _ h => h) (by rfl) hHeld ?_ ?_
                      rotate_left
                      · (intro w hSw; go_simp; (try with_reducible rfl))
                      (try simp only [Act.put, List.setIfInBounds_toArray, List.set_cons_zero, List.set_cons_succ])
                      refine wpTill_one 18 (o := _) (by kernel_rfl) rfl (fun K hK => ?_)
                      go_simp
                      refine hK.out _ _ (fun _ => hB5.drew.alloc hz5 _) (fun _ => ?_)
                      clear hK K hHeld
                      (try simp only [Act.put, List.setIfInBounds_toArray])
                      refine wpTill_one 19 (o := _) (by kernel_rfl) rfl (fun K hK => ?_)
                      refine step_append_one elRBk rfl _ _ rfl w2.heap.size (.slice Ai l.length ci) l.length l ⟨m.b, 1, d.id, m.v⟩ rfl HRO5.drew rfl (by omega) hz5 ?_
                      intro A9 c9 w9 hown9 hg9
                      have hHeld := hB5.drew.grown hg9 hz5 (fun j hj => (HRO5.lt j hj).1)
                      refine hK.out _ _ (fun _ => hHeld) (fun _ => ?_)
                      clear hK K
                      (try simp only [Act.put])
                      refine wpTill_put 20 8 (oi := _) (v := ?_) rfl rfl (by kernel_rfl) (by kernel_rfl) (by kernel_rfl) (by kernel_rfl) (fun _ _ _ h => h) (by rfl) hHeld ?_ ?_
                      rotate_left
                      · (intro w hSw; go_simp; (try with_reducible rfl))
                      (try simp only [Act.put, List.setIfInBounds_toArray])
                      refine wpTill_done (by kernel_rfl) ?_ _
                      go_wp2_with fail
                      go_roundw
                      case rel => exact ⟨q + 1, (q : Nat), l ++ [⟨m.b, 1, d.id, m.v⟩], by go_num, by go_num, by omega, HLA2, Lib.hid HA1.out.symm, by rw [List.length_append]; exact hown9, hHeld⟩
                      case measure => simp [intOf]; omega
                    · skip
                      go_wp2_with fail
                      go_quiet (fail)
                      go_wp2_with fail
                      obtain ⟨w5, hw5⟩ : ∃ w5, wr.drewN nq = w5 := ⟨_, rfl⟩
                      rw [hw5]
                      have HRO5 : w5.ownsRow w2.heap.size 35 4 (.slice Ai l.length ci) l.length (flats Bk.enc l) := by rw [← hw5]; exact HRO.out
                      have hB5 : Below w2.heap.size w2 w5 := by rw [← hw5]; exact ⟨hBi.os, hBi.tape, hBi.output, hBi.size, hBi.block⟩
                      have hz5 := hB5.size
                      have HM := Lib.hid (fun w' (hB : Below w2.heap.size w2 w') => (HMC.out w' hB))
                      refine wp_region_till (T := fun _ => false) (S := fun w' => Below w2.heap.size w2 w') (by kernel_rfl) (hB5.drew) (fun hHeld => ?_)
                      refine wpTill_put 0 128 (oi := _) (v := ?_) rfl rfl (by kernel_rfl) (by kernel_rfl) (by kernel_rfl) (by kernel_rfl) (fun _ _ _ h => h) (by rfl) hHeld ?_ ?_
                      rotate_left
                      · (intro w hSw; go_simp; (try with_reducible rfl))
                      (try simp only [Act.put, List.setIfInBounds_toArray, List.set_cons_zero, List.set_cons_succ])
                      refine wpTill_put 1 129 (oi := _) (v := ?_) rfl rfl (by kernel_rfl) (by kernel_rfl) (by kernel_rfl) (by kernel_rfl) (fun _ _ _ h => h) (by rfl) hHeld ?_ ?_
                      rotate_left
                      · (intro w hSw; go_simp; (try with_reducible rfl))
                      (try simp only [Act.put, List.setIfInBounds_toArray, List.set_cons_zero, List.set_cons_succ])
                      refine wpTill_put 2 130 (oi := _) (v := ?_) rfl rfl (by kernel_rfl) (by kernel_rfl) (by kernel_rfl) (by kernel_rfl) (fun _ _ _ h => h) (by rfl) hHeld ?_ ?_
                      rotate_left
                      · (intro w hSw; go_simp; (try with_reducible rfl))
                      (try simp only [Act.put, List.setIfInBounds_toArray, List.set_cons_zero, List.set_cons_succ])
                      refine wpTill_put 3 131 (oi := _) (v := ?_) rfl rfl (by kernel_rfl) (by kernel_rfl) (by kernel_rfl) (by kernel_rfl) (fun _ _ _ h => h) (by rfl) hHeld ?_ ?_
                      rotate_left
                      · (intro w hSw; obtain ⟨l1, l2, l3, l4⟩ := HM.out _ hSw; go_simp; (try with_reducible rfl))
                      (try simp only [Act.put, List.setIfInBounds_toArray, List.set_cons_zero, List.set_cons_succ])
                      refine wpTill_put 4 132 (oi := _) (v := ?_) rfl rfl (by kernel_rfl) (by kernel_rfl) (by kernel_rfl) (by kernel_rfl) (fun _ _ _ h => h) (by rfl) hHeld ?_ ?_
                      rotate_left
                      · (intro w hSw; go_simp; (try with_reducible rfl))
                      (try simp only [Act.put, List.setIfInBounds_toArray, List.set_cons_zero, List.set_cons_succ])
                      refine wpTill_put 5 133 (oi := _) (v := ?_) rfl rfl (by kernel_rfl) (by kernel_rfl) (by kernel_rfl) (by kernel_rfl) (fun _ _ _ h => h) (by rfl) hHeld ?_ ?_
                      rotate_left
                      · (intro w hSw; obtain ⟨l1, l2, l3, l4⟩ := HM.out _ hSw; go_simp; (try with_reducible rfl))
                      (try simp only [Act.put, List.setIfInBounds_toArray, List.set_cons_zero, List.set_cons_succ])
                      refine wpTill_put 6 134 (oi := _) (v := ?_) rfl rfl (by kernel_rfl) (by kernel_rfl) (by kernel_rfl) (by kernel_rfl) (fun _ _ _ h => h) (by rfl) hHeld ?_ ?_
                      rotate_left
                      · (intro w hSw; go_simp; (try with_reducible rfl))
                      (try simp only [Act.put, List.setIfInBounds_toArray, List.set_cons_zero, List.set_cons_succ])
                      refine wpTill_put 7 135 (oi := _) (v := ?_) rfl rfl (by kernel_rfl) (by kernel_rfl) (by kernel_rfl) (by kernel_rfl) (fun _ _ _ h => h) (by rfl) hHeld ?_ ?_
                      rotate_left
                      · (intro w hSw; obtain ⟨l1, l2, l3, l4⟩ := HM.out _ hSw; go_simp; (try with_reducible rfl))
                      (try simp only [Act.put, List.setIfInBounds_toArray, List.set_cons_zero, List.set_cons_succ])
                      refine wpTill_put 8 136 (oi := _) (v := ?_) rfl rfl (by kernel_rfl) (by kernel_rfl) (by kernel_rfl) (by kernel_rfl) (fun _ _ _ h => h) (by rfl) hHeld ?_ ?_
                      rotate_left
                      · (intro w hSw; go_simp; (try with_reducible rfl))
                      (try simp only [Act.put, List.setIfInBounds_toArray, List.set_cons_zero, List.set_cons_succ])
                      refine wpTill_put 9 137 (oi := _) (v := ?_) rfl rfl (by kernel_rfl) (by kernel_rfl) (by kernel_rfl) (by kernel_rfl) (fun _ _ _ h => h) (by rfl) hHeld ?_ ?_
                      rotate_left
                      · (intro w hSw; go_simp; (try with_reducible rfl))
                      (try simp only [Act.put, List.setIfInBounds_toArray, List.set_cons_zero, List.set_cons_succ])
                      refine wpTill_put 10 138 (oi := _) (v := ?_) rfl rfl (by kernel_rfl) (by kernel_rfl) (by kernel_rfl) (by kernel_rfl) (fun _ _ _ h => h) (by rfl) hHeld ?_ ?_
                      rotate_left
                      · (intro w hSw; go_simp; (try with_reducible rfl))
                      (try simp only [Act.put, List.setIfInBounds_toArray, List.set_cons_zero, List.set_cons_succ])
                      refine wpTill_put 11 139 (oi := _) (v := ?_) rfl rfl (by kernel_rfl) (by kernel_rfl) (by kernel_rfl) (by kernel_rfl) (fun _ _ _ h => h) (by rfl) hHeld ?_ ?_
                      rotate_left
                      · (intro w hSw; obtain ⟨l1, l2, l3, l4⟩ := HM.out _ hSw; go_simp; (try with_reducible rfl))
                      (try simp only [Act.put, List.setIfInBounds_toArray, List.set_cons_zero, List.set_cons_succ])
                      refine wpTill_put 12 140 (oi := _) (v := ?_) rfl rfl (by kernel_rfl) (by kernel_rfl) (by kernel_rfl) (by kernel_rfl) (fun _ _ _ h => h) (by rfl) hHeld ?_ ?_
                      rotate_left
                      · (intro w hSw; go_simp; (try with_reducible rfl))
                      (try simp only [Act.put, List.setIfInBounds_toArray, List.set_cons_zero, List.set_cons_succ])
                      refine wpTill_put 13 141 (oi := _) (v := ?_) rfl rfl (by kernel_rfl) (by kernel_rfl) (by kernel_rfl) (by kernel_rfl) (fun _ _ _ h => h) (by rfl) hHeld ?_ ?_
                      rotate_left
                      · (intro w hSw; go_simp; (try with_reducible rfl))
                      (try simp only [Act.put, List.setIfInBounds_toArray, List.set_cons_zero, List.set_cons_succ])
                      refine wpTill_put 14 142 (oi := _) (v := ?_) rfl rfl (by kernel_rfl) (by kernel_rfl) (by kernel_rfl) (by kernel_rfl) (fun _ _ _ h => h) (by rfl) hHeld ?_ ?_
                      rotate_left
                      · (intro w hSw; go_simp; (try with_reducible rfl))
                      (try simp only [Act.put, List.setIfInBounds_toArray, List.set_cons_zero, List.set_cons_succ])
                      refine wpTill_put 15 143 (oi := _) (v := ?_) rfl rfl (by kernel_rfl) (by kernel_rfl) (by kernel_rfl) (by kernel_rfl) (fun _ _ _ h => h) (by rfl) hHeld ?_ ?_
                      rotate_left
                      · (intro w hSw; go_simp; (try with_reducible rfl))
                      (try simp only [Act.put, List.setIfInBounds_toArray, List.set_cons_zero, List.set_cons_succ])
                      refine wpTill_put 16 144 (oi := _) (v := ?_) rfl rfl (by kernel_rfl) (by kernel_rfl) (by kernel_rfl) (by kernel_rfl) (fun _ _ _ h => h) (by rfl) hHeld ?_ ?_
                      rotate_left
                      · (intro w hSw; obtain ⟨l1, l2, l3, l4⟩ := HM.out _ hSw; go_simp; (try with_reducible rfl))
                      (try simp only [Act.put, List.setIfInBounds_toArray, List.set_cons_zero, List.set_cons_succ])
                      refine wpTill_put 17 145 (oi := _) (v := ?_) rfl rfl (by kernel_rfl) (by kernel_rfl) (by kernel_rfl) (by kernel_rfl) (fun _ _ _ h => h) (by rfl) hHeld ?_ ?_
                      rotate_left
                      · (intro w hSw; go_simp; (try with_reducible rfl))
                      (try simp only [Act.put, List.setIfInBounds_toArray, List.set_cons_zero, List.set_cons_succ])
                      refine wpTill_one 18 (o := _) (by kernel_rfl) rfl (fun K hK => ?_)
                      go_simp
                      refine hK.out _ _ (fun _ => hB5.drew.alloc hz5 _) (fun _ => ?_)
                      clear hK K hHeld
                      (try simp only [Act.put, List.setIfInBounds_toArray])
                      refine wpTill_one 19 (o := _) (by kernel_rfl) rfl (fun K hK => ?_)
                      refine step_append_one elRBk rfl _ _ rfl w2.heap.size (.slice Ai l.length ci) l.length l ⟨m.b, 1, d.id, m.v⟩ rfl HRO5.drew rfl (by omega) hz5 ?_
                      intro A9 c9 w9 hown9 hg9
                      have hHeld := hB5.drew.grown hg9 hz5 (fun j hj => (HRO5.lt j hj).1)
                      refine hK.out _ _ (fun _ => hHeld) (fun _ => ?_)
                      clear hK K
                      (try simp only [Act.put])
                      refine wpTill_put 20 8 (oi := _) (v := ?_) rfl rfl (by kernel_rfl) (by kernel_rfl) (by kernel_rfl) (by kernel_rfl) (fun _ _ _ h => h) (by rfl) hHeld ?_ ?_
                      rotate_left
                      · (intro w hSw; go_simp; (try with_reducible rfl))
                      (try simp only [Act.put, List.setIfInBounds_toArray])
                      refine wpTill_done (by kernel_rfl) ?_ _
                      go_wp2_with fail
                      go_roundw
                      case rel => exact ⟨q + 1, (q : Nat), l ++ [⟨m.b, 1, d.id, m.v⟩], by go_num, by go_num, by omega, HLA2, Lib.hid HA1.out.symm, by rw [List.length_append]; exact hown9, hHeld⟩
                      case measure => simp [intOf]; omega
            · obtain rfl : q = dl := by omega
              have HL2 := Lib.hid (show l = Q (k + 1) by rw [HL.out, HQ1.out, ← HOE.out])
              have HRO := Lib.hid hro
              clear hro
              go_wp2_with fail
              go_roundw
              case rel => exact ⟨k + 1, by go_num, by omega, by rw [← HL2.out]; exact HRO.out, hBi⟩
              case measure => simp [intOf]; omega
        · obtain rfl : k = n := by omega
          have HRES := Lib.hid (show res = Q k from HQP.out)
          have hq16 := HQN.out k
          have HROW := Lib.hid hrow
          clear hrow
          generalize hql : (Q k).length = ql at *
          have HQL := Lib.hid hql
          clear hql
          go_wp2_with fail
          go_loopw [13] (fun i wr => ∃ (m : Nat) (cur : List Bk), i = .int .i64 m ∧ 1 ≤ m ∧ (m ≤ ql ∨ m = 1) ∧ Hid (cur.Perm (Q k)) ∧ Hid (SortedTo bk0 aheadB cur m) ∧ wr.ownsRow w2.heap.size 35 4 (.slice Ao ql co) ql (flats Bk.enc cur) ∧ Below w2.heap.size w2 wr) (fun i _ => ql + 1 - (intOf i).toNat)
          case atStart => exact ⟨1, Q k, rfl, by omega, .inr rfl, Lib.hid (List.Perm.refl _), Lib.hid (fun a b h1 h2 => by omega), HROW.out, hB⟩
          case round =>
            obtain ⟨m, cur, rfl, hm1, hm2, HP, HS, hro, hBi⟩ := hrel
            have hzi := hBi.size
            by_cases hml : m < ql
            · have hmi : (m : Int) < (ql : Int) := by omega
              have HRO := Lib.hid hro
              have HI := Lib.hid (InsAt.start HS.out (by rw [HP.out.length_eq, HQL.out]; exact hml))
              clear hro
              go_wp2_with fail
              go_loopw [14] (fun j wr => ∃ (y : Nat) (c2 : List Bk), j = .int .i64 y ∧ y ≤ m ∧ Hid (c2.Perm (Q k)) ∧ Hid (InsAt bk0 aheadB c2 m y) ∧ wr.ownsRow w2.heap.size 35 4 (.slice Ao ql co) ql (flats Bk.enc c2) ∧ Below w2.heap.size w2 wr) (fun j _ => (intOf j).toNat)
              case atStart => exact ⟨m, cur, rfl, Nat.le_refl _, HP, HI, HRO.out, hBi⟩
              case round =>
                clear hBi hzi HI HRO HP HS
                obtain ⟨j, c2, rfl, hj, HP2, HI2, hro, hB2⟩ := hrel
                have hz2' := hB2.size
                rcases Nat.eq_zero_or_pos j with rfl | hj0
                · have HRO := Lib.hid hro
                  clear hro
                  go_wp2_with fail
                  go_quiet (fail)
                  go_wp2_with fail
                  go_roundw
                  case rel => exact ⟨m + 1, c2, by go_num, by omega, .inl (by omega), HP2, Lib.hid (HI2.out.done swoB (.inl rfl)), HRO.out, ⟨hB2.os, hB2.tape, hB2.output, hB2.size, hB2.block⟩⟩
                  case measure => simp [intOf]; omega
                · obtain ⟨y, rfl⟩ : ∃ y, j = y + 1 := ⟨j - 1, by omega⟩
                  clear hj0
                  obtain ⟨g, cap, hv, hg1, hg2, _⟩ := own_form hro (by omega)
                  injection hv with v1 v2 v3
                  subst v1 v3
                  have hcl : c2.length = ql := by rw [HP2.out.length_eq, HQL.out]
                  have hyi : (y : Int) + 1 < (ql : Int) := by omega
                  have hyj : (y : Int) < (ql : Int) := by omega
                  have hy0 : 0 ≤ (y : Int) + 1 := by omega
                  have hy1 : ((y : Int) + 1 - 1) = (y : Int) := by omega
                  have hy2 : IntKind.i64.wrap (y : Int) = (y : Int) := IntWalk.i64_in _ (by omega)
                  have HX := Lib.hid (fun w' (hB : Below wr.heap.size wr w') => own4B (k := y + 1) (hro.below2 hB) (by omega) hcl)
                  have HY := Lib.hid (fun w' (hB : Below wr.heap.size wr w') => own4B (k := y) (hro.below2 hB) (by omega) hcl)
                  have HAH := Lib.hid (fun w' => ahead_any w' (nth bk0 c2 (y + 1)) (nth bk0 c2 y))
                  have HRO := Lib.hid hro
                  have HCL := Lib.hid hcl
                  clear hro hcl
                  cases hah : aheadB (nth bk0 c2 (y + 1)) (nth bk0 c2 y) with
                  | false =>
                    rw [hah] at HAH
                    have HDN := Lib.hid (HI2.out.done swoB (.inr hah))
                    clear hah
                    generalize nth bk0 c2 (y + 1) = a at *
                    generalize nth bk0 c2 y = b at *
                    go_wp2_with fail
                    refine wp_region_till (T := fun _ => false) (S := fun w' => Below wr.heap.size wr w') (by kernel_rfl) (Below.refl wr.heap.size wr).drew (fun hHeld => ?_)
                    have hkr : Below wr.heap.size wr wr.drew := (Below.refl wr.heap.size wr).drew
                    refine wpTill_put 0 156 (oi := _) (v := ?_) rfl rfl (by kernel_rfl) (by kernel_rfl) (by kernel_rfl) (by kernel_rfl) (fun _ _ _ h => h) (by rfl) hHeld ?_ ?_
                    rotate_left
                    · (intro w hSw; go_simp; (try with_reducible rfl))
                    (try simp only [Act.put, List.setIfInBounds_toArray, List.set_cons_zero, List.set_cons_succ])
                    refine wpTill_put 1 157 (oi := _) (v := ?_) rfl rfl (by kernel_rfl) (by kernel_rfl) (by kernel_rfl) (by kernel_rfl) (fun _ _ _ h => h) (by rfl) hHeld ?_ ?_
                    rotate_left
                    · (intro w hSw; go_simp; (try with_reducible rfl))
                    (try simp only [Act.put, List.setIfInBounds_toArray, List.set_cons_zero, List.set_cons_succ])
                    refine wpTill_put 2 158 (oi := _) (v := ?_) rfl rfl (by kernel_rfl) (by kernel_rfl) (by kernel_rfl) (by kernel_rfl) (fun _ _ _ h => h) (by rfl) hHeld ?_ ?_
                    rotate_left
                    · (intro w hSw; go_simp; (try with_reducible rfl))
                    (try simp only [Act.put, List.setIfInBounds_toArray, List.set_cons_zero, List.set_cons_succ])
                    refine wpTill_put 3 159 (oi := _) (v := ?_) rfl rfl (by kernel_rfl) (by kernel_rfl) (by kernel_rfl) (by kernel_rfl) (fun _ _ _ h => h) (by rfl) hHeld ?_ ?_
                    rotate_left
                    · (intro w hSw; go_simp; (try with_reducible rfl))
                    (try simp only [Act.put, List.setIfInBounds_toArray, List.set_cons_zero, List.set_cons_succ])
                    refine wpTill_put 4 160 (oi := _) (v := ?_) rfl rfl (by kernel_rfl) (by kernel_rfl) (by kernel_rfl) (by kernel_rfl) (fun _ _ _ h => h) (by rfl) hHeld ?_ ?_
                    rotate_left
                    · (intro w hSw; go_simp; (try with_reducible rfl))
                    (try simp only [Act.put, List.setIfInBounds_toArray, List.set_cons_zero, List.set_cons_succ])
                    refine wpTill_put 5 161 (oi := _) (v := ?_) rfl rfl (by kernel_rfl) (by kernel_rfl) (by kernel_rfl) (by kernel_rfl) (fun _ _ _ h => h) (by rfl) hHeld ?_ ?_
                    rotate_left
                    · (intro w hSw; go_simp; (try with_reducible rfl))
                    (try simp only [Act.put, List.setIfInBounds_toArray, List.set_cons_zero, List.set_cons_succ])
                    refine wpTill_put 6 162 (oi := _) (v := ?_) rfl rfl (by kernel_rfl) (by kernel_rfl) (by kernel_rfl) (by kernel_rfl) (fun _ _ _ h => h) (by rfl) hHeld ?_ ?_
                    rotate_left
                    · (intro w hSw; obtain ⟨l0, l1, l2, l3⟩ := HX.out _ hSw; go_simp; (try with_reducible rfl))
                    (try simp only [Act.put, List.setIfInBounds_toArray, List.set_cons_zero, List.set_cons_succ])
                    refine wpTill_put 7 163 (oi := _) (v := ?_) rfl rfl (by kernel_rfl) (by kernel_rfl) (by kernel_rfl) (by kernel_rfl) (fun _ _ _ h => h) (by rfl) hHeld ?_ ?_
                    rotate_left
                    · (intro w hSw; go_simp; (try with_reducible rfl))
                    (try simp only [Act.put, List.setIfInBounds_toArray, List.set_cons_zero, List.set_cons_succ])
                    refine wpTill_put 8 164 (oi := _) (v := ?_) rfl rfl (by kernel_rfl) (by kernel_rfl) (by kernel_rfl) (by kernel_rfl) (fun _ _ _ h => h) (by rfl) hHeld ?_ ?_
                    rotate_left
                    · (intro w hSw; go_simp; (try with_reducible rfl))
                    (try simp only [Act.put, List.setIfInBounds_toArray, List.set_cons_zero, List.set_cons_succ])
                    refine wpTill_put 9 165 (oi := _) (v := ?_) rfl rfl (by kernel_rfl) (by kernel_rfl) (by kernel_rfl) (by kernel_rfl) (fun _ _ _ h => h) (by rfl) hHeld ?_ ?_
                    rotate_left
                    · (intro w hSw; go_simp; (try with_reducible rfl))
                    (try simp only [Act.put, List.setIfInBounds_toArray, List.set_cons_zero, List.set_cons_succ])
                    refine wpTill_put 10 166 (oi := _) (v := ?_) rfl rfl (by kernel_rfl) (by kernel_rfl) (by kernel_rfl) (by kernel_rfl) (fun _ _ _ h => h) (by rfl) hHeld ?_ ?_
                    rotate_left
                    · (intro w hSw; go_simp; (try with_reducible rfl))
                    (try simp only [Act.put, List.setIfInBounds_toArray, List.set_cons_zero, List.set_cons_succ])
                    refine wpTill_put 11 167 (oi := _) (v := ?_) rfl rfl (by kernel_rfl) (by kernel_rfl) (by kernel_rfl) (by kernel_rfl) (fun _ _ _ h => h) (by rfl) hHeld ?_ ?_
                    rotate_left
                    · (intro w hSw; obtain ⟨l0, l1, l2, l3⟩ := HY.out _ hSw; go_simp; (try with_reducible rfl))
                    (try simp only [Act.put, List.setIfInBounds_toArray, List.set_cons_zero, List.set_cons_succ])
                    refine wpTill_one 12 (o := _) (by kernel_rfl) rfl (fun K hK => ?_)
                    go_simp
                    refine (HAH.out _).mono ?_
                    rintro e w5 ⟨rfl, hB5⟩
                    have hkr := hkr.trans (hB5.mono hkr.size)
                    refine hK.out _ _ (fun _ => (Below.refl wr.heap.size wr).drew.trans (hB5.mono (Below.refl wr.heap.size wr).drew.size)) (fun _ => ?_)
                    clear hK K hHeld
                    (try simp only [Act.put, List.setIfInBounds_toArray, List.set_cons_zero, List.set_cons_succ])
                    refine wpTill_more (S' := fun w' => Below w5.heap.size w5 w') (fun _ h => ((Below.refl wr.heap.size wr).drew.trans (hB5.mono (Below.refl wr.heap.size wr).drew.size)).trans (h.mono (hkr.size))) _ _ _ _ ?_
                    have hHeld : (fun w' => Below w5.heap.size w5 w') w5 := Below.refl _ _
                    refine wpTill_put 13 169 (oi := _) (v := ?_) rfl rfl (by kernel_rfl) (by kernel_rfl) (by kernel_rfl) (by kernel_rfl) (fun _ _ _ h => h) (by rfl) hHeld ?_ ?_
                    rotate_left
                    · (intro w hSw; go_simp; (try with_reducible rfl))
                    (try simp only [Act.put, List.setIfInBounds_toArray, List.set_cons_zero, List.set_cons_succ])
                    refine wpTill_done (by kernel_rfl) ?_ _
                    go_wp2_with fail
                    go_roundw
                    case rel => exact ⟨m + 1, c2, by go_num, by omega, .inl (by omega), HP2, HDN, HRO.out.below2 hkr, hB2.trans (hkr.mono hz2')⟩
                    case measure => simp [intOf]; omega
                  | true =>
                    rw [hah] at HAH
                    have HST := Lib.hid (show InsAt bk0 aheadB (swapL bk0 c2 (y + 1)) m y from HI2.out.step (by omega) swoB hah)
                    have HSP := Lib.hid (swapL_perm (d := bk0) (c := c2) (k := y + 1) (by omega) (by rw [HCL.out]; omega))
                    have HSW := Lib.hid (show swapL bk0 c2 (y + 1) = (c2.set (y + 1) (nth bk0 c2 y)).set y (nth bk0 c2 (y + 1)) from rfl)
                    clear hah
                    generalize nth bk0 c2 (y + 1) = a at *
                    generalize nth bk0 c2 y = b at *
                    go_wp2_with fail
                    refine wp_region_till (T := fun _ => false) (S := fun w' => Below wr.heap.size wr w') (by kernel_rfl) (Below.refl wr.heap.size wr).drew (fun hHeld => ?_)
                    have hkr : Below wr.heap.size wr wr.drew := (Below.refl wr.heap.size wr).drew
                    refine wpTill_put 0 156 (oi := _) (v := ?_) rfl rfl (by kernel_rfl) (by kernel_rfl) (by kernel_rfl) (by kernel_rfl) (fun _ _ _ h => h) (by rfl) hHeld ?_ ?_
                    rotate_left
                    · (intro w hSw; go_simp; (try with_reducible rfl))
                    (try simp only [Act.put, List.setIfInBounds_toArray, List.set_cons_zero, List.set_cons_succ])
                    refine wpTill_put 1 157 (oi := _) (v := ?_) rfl rfl (by kernel_rfl) (by kernel_rfl) (by kernel_rfl) (by kernel_rfl) (fun _ _ _ h => h) (by rfl) hHeld ?_ ?_
                    rotate_left
                    · (intro w hSw; go_simp; (try with_reducible rfl))
                    (try simp only [Act.put, List.setIfInBounds_toArray, List.set_cons_zero, List.set_cons_succ])
                    refine wpTill_put 2 158 (oi := _) (v := ?_) rfl rfl (by kernel_rfl) (by kernel_rfl) (by kernel_rfl) (by kernel_rfl) (fun _ _ _ h => h) (by rfl) hHeld ?_ ?_
                    rotate_left
                    · (intro w hSw; go_simp; (try with_reducible rfl))
                    (try simp only [Act.put, List.setIfInBounds_toArray, List.set_cons_zero, List.set_cons_succ])
                    refine wpTill_put 3 159 (oi := _) (v := ?_) rfl rfl (by kernel_rfl) (by kernel_rfl) (by kernel_rfl) (by kernel_rfl) (fun _ _ _ h => h) (by rfl) hHeld ?_ ?_
                    rotate_left
                    · (intro w hSw; go_simp; (try with_reducible rfl))
                    (try simp only [Act.put, List.setIfInBounds_toArray, List.set_cons_zero, List.set_cons_succ])
                    refine wpTill_put 4 160 (oi := _) (v := ?_) rfl rfl (by kernel_rfl) (by kernel_rfl) (by kernel_rfl) (by kernel_rfl) (fun _ _ _ h => h) (by rfl) hHeld ?_ ?_
                    rotate_left
                    · (intro w hSw; go_simp; (try with_reducible rfl))
                    (try simp only [Act.put, List.setIfInBounds_toArray, List.set_cons_zero, List.set_cons_succ])
                    refine wpTill_put 5 161 (oi := _) (v := ?_) rfl rfl (by kernel_rfl) (by kernel_rfl) (by kernel_rfl) (by kernel_rfl) (fun _ _ _ h => h) (by rfl) hHeld ?_ ?_
                    rotate_left
                    · (intro w hSw; go_simp; (try with_reducible rfl))
                    (try simp only [Act.put, List.setIfInBounds_toArray, List.set_cons_zero, List.set_cons_succ])
                    refine wpTill_put 6 162 (oi := _) (v := ?_) rfl rfl (by kernel_rfl) (by kernel_rfl) (by kernel_rfl) (by kernel_rfl) (fun _ _ _ h => h) (by rfl) hHeld ?_ ?_
                    rotate_left
                    · (intro w hSw; obtain ⟨l0, l1, l2, l3⟩ := HX.out _ hSw; go_simp; (try with_reducible rfl))
                    (try simp only [Act.put, List.setIfInBounds_toArray, List.set_cons_zero, List.set_cons_succ])
                    refine wpTill_put 7 163 (oi := _) (v := ?_) rfl rfl (by kernel_rfl) (by kernel_rfl) (by kernel_rfl) (by kernel_rfl) (fun _ _ _ h => h) (by rfl) hHeld ?_ ?_
                    rotate_left
                    · (intro w hSw; go_simp; (try with_reducible rfl))
                    (try simp only [Act.put, List.setIfInBounds_toArray, List.set_cons_zero, List.set_cons_succ])
                    refine wpTill_put 8 164 (oi := _) (v := ?_) rfl rfl (by kernel_rfl) (by kernel_rfl) (by kernel_rfl) (by kernel_rfl) (fun _ _ _ h => h) (by rfl) hHeld ?_ ?_
                    rotate_left
                    · (intro w hSw; go_simp; (try with_reducible rfl))
                    (try simp only [Act.put, List.setIfInBounds_toArray, List.set_cons_zero, List.set_cons_succ])
                    refine wpTill_put 9 165 (oi := _) (v := ?_) rfl rfl (by kernel_rfl) (by kernel_rfl) (by kernel_rfl) (by kernel_rfl) (fun _ _ _ h => h) (by rfl) hHeld ?_ ?_
                    rotate_left
                    · (intro w hSw; go_simp; (try with_reducible rfl))
                    (try simp only [Act.put, List.setIfInBounds_toArray, List.set_cons_zero, List.set_cons_succ])
                    refine wpTill_put 10 166 (oi := _) (v := ?_) rfl rfl (by kernel_rfl) (by kernel_rfl) (by kernel_rfl) (by kernel_rfl) (fun _ _ _ h => h) (by rfl) hHeld ?_ ?_
                    rotate_left
                    · (intro w hSw; go_simp; (try with_reducible rfl))
                    (try simp only [Act.put, List.setIfInBounds_toArray, List.set_cons_zero, List.set_cons_succ])
                    refine wpTill_put 11 167 (oi := _) (v := ?_) rfl rfl (by kernel_rfl) (by kernel_rfl) (by kernel_rfl) (by kernel_rfl) (fun _ _ _ h => h) (by rfl) hHeld ?_ ?_
                    rotate_left
                    · (intro w hSw; obtain ⟨l0, l1, l2, l3⟩ := HY.out _ hSw; go_simp; (try with_reducible rfl))
                    (try simp only [Act.put, List.setIfInBounds_toArray, List.set_cons_zero, List.set_cons_succ])
                    refine wpTill_one 12 (o := _) (by kernel_rfl) rfl (fun K hK => ?_)
                    go_simp
                    refine (HAH.out _).mono ?_
                    rintro e w5 ⟨rfl, hB5⟩
                    have hkr := hkr.trans (hB5.mono hkr.size)
                    refine hK.out _ _ (fun _ => (Below.refl wr.heap.size wr).drew.trans (hB5.mono (Below.refl wr.heap.size wr).drew.size)) (fun _ => ?_)
                    clear hK K hHeld
                    (try simp only [Act.put, List.setIfInBounds_toArray, List.set_cons_zero, List.set_cons_succ])
                    refine wpTill_more (S' := fun w' => Below w5.heap.size w5 w') (fun _ h => ((Below.refl wr.heap.size wr).drew.trans (hB5.mono (Below.refl wr.heap.size wr).drew.size)).trans (h.mono (hkr.size))) _ _ _ _ ?_
                    have hHeld : (fun w' => Below w5.heap.size w5 w') w5 := Below.refl _ _
                    refine wpTill_put 13 169 (oi := _) (v := ?_) rfl rfl (by kernel_rfl) (by kernel_rfl) (by kernel_rfl) (by kernel_rfl) (fun _ _ _ h => h) (by rfl) hHeld ?_ ?_
                    rotate_left
                    · (intro w hSw; go_simp; (try with_reducible rfl))
                    (try simp only [Act.put, List.setIfInBounds_toArray, List.set_cons_zero, List.set_cons_succ])
                    refine wpTill_done (by kernel_rfl) ?_ _
                    have HRO5 := Lib.hid (HRO.out.below2 hkr)
                    obtain ⟨l0, l1, l2, l3⟩ := HX.out _ hkr
                    obtain ⟨r0, r1, r2, r3⟩ := HY.out _ hkr
                    have f0 := fun j => HRO5.out.frozenAt j
                    have hg5 : g < w5.heap.size := Nat.lt_of_lt_of_le hg2 hkr.size
                    have hgn : g ≠ w5.heap.size := by omega
                    go_wp2_with fail
                    have h8 := ((((((((hB2.trans (hkr.mono hz2')).setCell (p := ⟨g, (y + 1) * 4, none⟩) hg1 (.int .i64 b.b)).setCell (p := ⟨g, (y + 1) * 4 + 1, none⟩) hg1 (.int .i64 b.n)).setCell (p := ⟨g, (y + 1) * 4 + 2, none⟩) hg1 (.int .i64 b.id)).setCell (p := ⟨g, (y + 1) * 4 + 3, none⟩) hg1 (.int .i64 b.v)).setCell (p := ⟨g, y * 4, none⟩) hg1 (.int .i64 a.b)).setCell (p := ⟨g, y * 4 + 1, none⟩) hg1 (.int .i64 a.n)).setCell (p := ⟨g, y * 4 + 2, none⟩) hg1 (.int .i64 a.id)).setCell (p := ⟨g, y * 4 + 3, none⟩) hg1 (.int .i64 a.v)
                    refine ⟨⟨y, swapL bk0 c2 (y + 1), rfl, by omega, Lib.hid (HSP.out.trans HP2.out), HST, ?_, h8.alloc h8.size _⟩, by simp [intOf]⟩
                    rw [HSW.out]
                    exact (own_setB4 (own_setB4 HRO5.out b (by omega) HCL.out) a (by omega) (by rw [List.length_set]; exact HCL.out)).alloc _
            · have HRO := Lib.hid hro
              clear hro
              go_wp2_with fail
              go_ret2
              have hcl : cur.length = ql := by rw [HP.out.length_eq, HQL.out]
              subst hcl
              exact ⟨Ao, co, cur, rfl, own_lowR HRO.out hz2, hk2.trans (hBi.mono hz2), fun _ => ⟨by rw [HRES.out]; exact HP.out, sortedTo_pair fun a b hab hb => HS.out a b hab (by omega)⟩, fun h => absurd rfl h⟩
  · have e : revE p f t = poolChk p := by unfold revE; rw [if_pos hz]
    rw [e]
    have hne : (poolChk p != 0) = true := by simpa using hz
    have HZ := Lib.hid hz
    clear hz e hok
    generalize poolChk p = r at *
    generalize p.devs.length = n at *
    go_enter Try.func8, Try.ntmps8
    go_wp2_with (first
      | (go_at_call 20; refine (HCK.out _ hB1).mono ?_; rintro e w2 ⟨rfl, hB2⟩; have hk2 := hB1.trans (hB2.mono (by simp)); have hp2 := HPB.out.below hB2 (by simp); have hz2 := hB2.size; clear x0 x1 x2 x3 x4; obtain ⟨x0, x1, x2, x3, x4⟩ := hp2.cells; clear hB1)
      | (go_at_call 20; refine (HCK.out _ hk2).mono ?_; rintro e w3 ⟨rfl, hB3⟩; have hk3 := hk2.trans (hB3.mono hk2.size); clear x0 x1 x2 x3 x4))
    go_ret2
    exact ⟨none, 0, [], rfl, World.ownsRow_nil _ _ _ _, hk3, fun h => absurd h HZ.out, fun _ => rfl⟩
end Go.Proofs.Ytnemfponbadcjaa
