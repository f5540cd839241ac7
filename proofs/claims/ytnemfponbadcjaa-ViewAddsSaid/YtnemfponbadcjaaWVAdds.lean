/- scantlinglaw38.ViewAdds says yes of every pool and place. Condition: the numbers fit into Go's int, and no slice is longer than the reach. -/
import Derived.Test.YtnemfponbadcjaaWRev4
import Derived.Test.YtnemfponbadcjaaWLives38P
import Derived.Test.YtnemfponbadcjaaWFew
import Derived.Test.YtnemfponbadcjaaAddsP
import Derived.Test.YtnemfponbadcjaaWCount
import Derived.Deep.QuietTactic
import Derived.BigQuiet
import Derived.IntWalk
namespace Go.Proofs.Ytnemfponbadcjaa
open Go.RowKit
attribute [local go_sem] Oper.semAt_some

theorem pool0_is (w : World) (S : Nat → Prop) : IsPool w S (.agg #[.int .i64 0, .int .i64 0, .int .i64 0, .int .i64 0, .slice none 0 0]) pool0 :=
  ⟨none, 0, rfl, Nat.le_refl _, fun h => absurd h (by simp [pool0])⟩
theorem pool0_ok : pool0.ok := ⟨by unfold In64 pool0; simp, by unfold In64 pool0; simp, by unfold In64 pool0; simp, by unfold In64 pool0; simp, fun d h => (by cases h), by unfold pool0; simp⟩
theorem listRes0 : listRes pool0 = [] := by rfl
theorem maps_few2 {l : List Dev} {k : Nat} (h : k < l.length) : ((nth dev0 l k).maps.length : Int) ≤ countL l := by
  have h1 := countL_take l k h
  have h2 := countL_take_le l (k + 1)
  have h3 := countL_nonneg (l.take k)
  omega
/-- What Go's % leaves, twice. -/
theorem at_bd (a d : Int) (h : 0 ≤ d) : -(d + 1) < a.tmod (d + 1) ∧ a.tmod (d + 1) < d + 1 := by
  have h1 := Int.tmod_lt_of_pos a (show (0 : Int) < d + 1 by omega)
  have h2 := Int.tmod_lt_of_pos (-a) (show (0 : Int) < d + 1 by omega)
  rw [Int.neg_tmod] at h2
  omega
theorem at_bd2 (x d : Int) (h : 0 ≤ d) (hx : 0 ≤ x) : 0 ≤ x.tmod (d + 1) ∧ x.tmod (d + 1) ≤ d := by
  have h1 := Int.tmod_lt_of_pos x (show (0 : Int) < d + 1 by omega)
  have h2 := Int.tmod_nonneg (d + 1) hx
  omega
theorem refs_len {p : Pool} (h : poolChk p = 0) : ((refsRes p).length : Int) = p.data := by
  have := pool_data h
  unfold refsRes
  rw [if_pos h]
  unfold refsOf
  rw [bumps_length, List.length_replicate]
  omega

set_option maxRecDepth 100000 in
set_option maxHeartbeats 6400000 in
theorem viewAdds_walk (w : World) (v1 : Value) (p : Pool) (at0 : Int) (h1 : IsPool w (Lt w.heap.size) v1 p) (hok : p.ok) :
    Calls Try.prog 4 #[v1, .int .i64 at0] w fun e w' => e = .returned (.bool true) ∧ Below w.heap.size w w' := by
  have hIP0 : ∀ w', Below w.heap.size w w' → IsPool w' (Lt w.heap.size) v1 p := fun w' hB => h1.below hB (fun _ h => h)
  obtain ⟨A, c, rfl, hc, hr⟩ := h1
  have hpb0 : PBox (w.alloc (poolBox p A p.devs.length c)) w.heap.size p A p.devs.length c := PBox.new w p A _ c
  have hB01 : Below w.heap.size w (w.alloc (poolBox p A p.devs.length c)) := (Below.refl _ _).alloc (Nat.le_refl _) _
  generalize hw1 : (w.alloc (poolBox p A p.devs.length c)) = w1 at *
  have hs1 : w1.heap.size = w.heap.size + 1 := by rw [← hw1]; simp
  have HW1 := Lib.hid hw1
  clear hw1 hr hc
  have up : ∀ w', Below w1.heap.size w1 w' → Below w.heap.size w w' := fun w' hB => hB01.trans (hB.mono (by omega))
  have hIP : ∀ w', Below w1.heap.size w1 w' → IsPool w' (Lt w.heap.size) _ p := fun w' hB => hIP0 w' (up w' hB)
  have hlt : ∀ w', Below w1.heap.size w1 w' → ∀ b, Lt w.heap.size b → b < w'.heap.size := fun w' hB b hb => Nat.lt_of_lt_of_le hb (Below.size (up w' hB))
  have hP : ∀ w', Below w1.heap.size w1 w' → _ := fun w' hB => (hpb0.below hB hpb0.lt).cells
  have HFP := Lib.hid (fun w' hB => few_any w' (Lt w.heap.size) _ p (hlt w' hB) (hIP w' hB) hok)
  have HCK := Lib.hid (fun w' hB => check_any w' (Lt w.heap.size) _ p (hlt w' hB) (hIP w' hB) hok)
  have HL0 := Lib.hid (fun w' => list_any w' (fun _ => False) _ pool0 (fun _ h => h.elim) (pool0_is w' _) pool0_ok (by simp [pool0]) (fun k hk => by simp [pool0] at hk))
  rw [listRes0] at HL0
  have HUP := Lib.hid up
  have HP := Lib.hid hP
  have hk0 : Below w1.heap.size w1 (w.alloc (poolBox p A p.devs.length c)) := by rw [HW1.out]; exact Below.refl _ _
  dsimp only [poolBox] at hk0
  by_cases hf : fewB p = true
  · have hf1 : fewN p = 1 := by unfold fewN; rw [if_pos hf]
    rw [hf1] at HFP
    by_cases hch : poolChk p = 0
    · simp only [fewB, decide_eq_true_eq] at hf
      obtain ⟨hpn, hpc⟩ := hf
      have hpm : ∀ k, k < p.devs.length → (nth dev0 p.devs k).maps.length ≤ 2000 := fun k hk => by have := maps_few2 hk; unfold Pool.count at hpc; omega
      obtain ⟨hd0, hd1⟩ := pool_data hch
      have hrl := refs_len hch
      have hcn := countL_nonneg p.devs
      have HLI := Lib.hid (fun w' hB => list_any w' (Lt w.heap.size) _ p (hlt w' hB) (hIP w' hB) hok hpn hpm)
      have HRV := Lib.hid (fun w' f t hB => reverse_any w' (Lt w.heap.size) _ p f t (hlt w' hB) (hIP w' hB) hok)
      unfold RevIs at HRV
      have HUS := Lib.hid (fun w' hB => usage_any w' (Lt w.heap.size) _ p (hlt w' hB) (hIP w' hB) hok)
      have HFR := Lib.hid (fun w' hB => free_any w' (Lt w.heap.size) _ p (hlt w' hB) (hIP w' hB) hok)
      have HCT := Lib.hid (fun w' hB => count_any w' (Lt w.heap.size) _ p (hlt w' hB) (hIP w' hB) (by omega) (by omega))
      have hll : listRes p = p.devs.map (lsOf (refsRes p)) := by unfold listRes; rw [if_pos hch]
      have hgood : ∀ x ∈ listRes p, LsGood x := fun x hx => by
        rw [hll] at hx
        obtain ⟨d, _, rfl⟩ := List.mem_map.1 hx
        exact lsOf_good _ _
      have hsm : sumM (listRes p) = p.count := by rw [hll]; exact sumM_devs _ _
      have hbd := sumM_bd (listRes p) (fun x hx => by have h := hgood x hx; unfold LsGood at h; omega)
      have hln1 : (listRes p).length = p.devs.length := by rw [hll, List.length_map]
      have HGD := Lib.hid (fun k (h : k < (listRes p).length) => hgood _ (nth_mem ls0 _ k h))
      have hfa := fr_all (refsRes p)
      have hsb := sumS_bd _ hfa.1
      have hmo := cntG_mono (refsRes p)
      have hcb := cntG_bound 0 (refsRes p)
      have hfl : (frOf (refsRes p)).length ≤ 65536 := Nat.le_trans (by have := frOf_length (refsRes p) _ (Nat.le_refl _); rwa [List.take_length] at this) refsRes_length
      have HRS := Lib.hid (fun (a : Int) (h0 : 0 ≤ a) (h1 : a ≤ p.data) => raw_split hch h0 h1)
      have HRE := Lib.hid (fun (a : Int) (h0 : 0 ≤ a) (h1 : a ≤ p.data) => show revE p 0 a = 0 ∧ revE p a p.data = 0 from by
        unfold revE
        rw [if_neg (by simpa using hch), if_neg (by omega), if_neg (by simpa using hch), if_neg (by omega)]
        exact ⟨rfl, rfl⟩)
      have HRP := Lib.hid (fun (f t : Int) => rawP_pos f t p)
      rw [hrl] at hcb hfa
      rw [hrl] at HUS
      rw [hch] at HCK
      have hpct : (0 : Int) ≤ p.count ∧ p.count ≤ 2000 := ⟨hcn, hpc⟩
      clear hpm hf1 hIP hIP0 up hP hpb0 hB01 hlt hok hll hgood hch hrl hcn hpc
      generalize listRes p = ll at *
      generalize p.count = pct at *
      generalize frOf (refsRes p) = fl at *
      generalize cntG 0 (refsRes p) = u0 at *
      generalize cntG 1 (refsRes p) = u1 at *
      generalize hln : ll.length = ln at *
      have HLN := Lib.hid hln
      generalize hfn : fl.length = fn at *
      have HFN := Lib.hid hfn
      have HSM := Lib.hid hsm
      have HDN := Lib.hid hln1
      obtain ⟨⟨hfg, hfg2⟩, hfs⟩ := hfa
      have HFG := Lib.hid hfg
      have HFG2 := Lib.hid hfg2
      have HFS := Lib.hid hfs
      have HBD := Lib.hid hbd
      have HSB := Lib.hid hsb
      generalize hdn : p.devs.length = dn at *
      generalize hpd : p.data = pd at *
      have hln2 : ln ≤ 200 := by omega
      clear hln hfn hsm hln1 hfg hfg2 hfs hbd hsb hpd hdn
      go_enter Try.func4, Try.ntmps4
      go_wp2_with (first
        | (go_at_call 5; refine (HFP.out _ hk0).mono ?_; rintro e w2 ⟨rfl, hB2⟩; have hk2 := hk0.trans (hB2.mono hk0.size); obtain ⟨x0, x1, x2, x3, x4⟩ := HP.out _ hk2; clear hk0)
        | (go_at_call 9; refine (HCK.out _ hk2).mono ?_; rintro e w3 ⟨rfl, hB3⟩; have hk3 := hk2.trans (hB3.mono hk2.size); clear x0 x1 x2 x3 x4; obtain ⟨x0, x1, x2, x3, x4⟩ := HP.out _ hk3)
        | (go_at_call 10; refine (HLI.out _ hk3).mono ?_; rintro e w4 ⟨v4, rfl, ⟨A4, c4, rfl, hc4, hr4⟩, hB4⟩; rw [HLN.out] at hc4 ⊢; have hk4 := hk3.trans (hB4.mono hk3.size)))
      have hst0 : Hid (sumM (ll.take 0) = 0) := Lib.hid rfl
      go_loopw [6, 7] (fun s i wr => ∃ k : Nat, k ≤ ln ∧ i = .int .i64 k ∧ s = .int .i64 (sumM (ll.take k)) ∧ Below w4.heap.size w4 wr) (fun _ i _ => ln - (intOf i).toNat)
      case atStart => exact ⟨0, by omega, rfl, by rw [hst0.out], Below.refl _ _⟩
      case round =>
        obtain ⟨k, hk, rfl, rfl, hB⟩ := hrel
        by_cases hlt : k < ln
        · obtain ⟨b4, o4, rfl, hb4, hcl4⟩ := ls_cells (hr4.keep (flat_stable _) (fun _ h => h) (keep_below hB (fun b hb => hb.2))) (by rw [HLN.out]; omega)
          obtain ⟨a0, a1, a2, a3⟩ := hcl4 k (by rw [HLN.out]; exact hlt)
          have HST := Lib.hid (sumM_take ll k (by rw [HLN.out]; exact hlt))
          have hg := HGD.out k hlt
          have hb1 := HBD.out k
          have hb2 := HBD.out (k + 1)
          rw [HST.out, HSM.out] at hb2
          rw [HSM.out] at hb1
          unfold LsGood at hg
          obtain ⟨g1, g2, g3, g4, g5⟩ := hg
          clear hcl4
          generalize nth ls0 ll k = s at *
          generalize sumM (ll.take k) = sk at *
          have hwr : IntKind.i64.wrap (s.own + s.shared) = s.mapped := by rw [g1]; exact IntWalk.i64_in _ (by omega)
          have hd1 : decide (s.own < 0) = false := by simpa using g2
          have hd2 : decide (s.shared < 0) = false := by simpa using g3
          clear g1
          go_wp2_with fail
          go_quiet (fail)
          go_wp2_with fail
          refine ⟨⟨k + 1, by omega, by go_num, by rw [HST.out], hB.trans ⟨rfl, rfl, rfl, Nat.le_refl _, fun _ _ => rfl⟩⟩, by simp [intOf]; omega⟩
        · have hS : sumM (ll.take k) = pct := by rw [List.take_of_length_le (by rw [HLN.out]; omega)]; exact HSM.out
          rw [hS]
          clear hS HBD
          have hk5 := hk4.trans (hB.mono hk4.size)
          obtain ⟨wo, rfl⟩ : ∃ wo : World, wo = wr := ⟨_, rfl⟩
          clear x0 x1 x2 x3 x4
          obtain ⟨x0, x1, x2, x3, x4⟩ := HP.out _ hk5
          obtain ⟨r1, r2⟩ := at_bd at0 pd hd0
          have r3 := at_bd2 (at0.tmod (pd + 1) + pd + 1) pd hd0 (by omega)
          generalize hr : at0.tmod (pd + 1) = r at *
          have HR := Lib.hid hr
          generalize hra : (r + pd + 1).tmod (pd + 1) = ra at *
          have hD1 : IntKind.i64.wrap (pd + 1) = pd + 1 := IntWalk.i64_in _ (by omega)
          have hD2 : IntKind.i64.wrap (r + pd) = r + pd := IntWalk.i64_in _ (by omega)
          have hD3 : IntKind.i64.wrap (r + pd + 1) = r + pd + 1 := IntWalk.i64_in _ (by omega)
          have hD0 : ¬ (pd + 1 = 0) := by omega
          clear HR
          go_wp2_with fail
          go_quiet (fail)
          rename_i nq _
          have hk5d : Below w1.heap.size w1 (wo.drewN nq) := hk5.trans ⟨rfl, rfl, rfl, Nat.le_refl _, fun _ _ => rfl⟩
          generalize wo.drewN nq = w5 at *
          clear hD0 hD1 hD2 hD3 x0 x1 x2 x3 x4 hk5 hB hr4 hlt hra r1 r2 hst0 HGD
          obtain ⟨x0, x1, x2, x3, x4⟩ := HP.out _ hk5d
          have HR1 := Lib.hid (fun w' hB => HRV.out w' 0 ra hB)
          have HR2 := Lib.hid (fun w' hB => HRV.out w' ra pd hB)
          rw [(HRE.out ra r3.1 r3.2).1] at HR1
          rw [(HRE.out ra r3.1 r3.2).2] at HR2
          have HAB := Lib.hid (HRS.out ra r3.1 r3.2)
          clear HRV HRE HRS
          go_wp2_with (first
            | (go_at_call 7; refine (HR1.out _ hk5d).mono ?_; rintro e w6 ⟨A6, c6, l6, rfl, ho6, hB6, hl6⟩; have hk6 := hk5d.trans (hB6.mono hk5d.size); clear x0 x1 x2 x3 x4; obtain ⟨x0, x1, x2, x3, x4⟩ := HP.out _ hk6; clear hk5d)
            | (go_at_call 7; refine (HR2.out _ hk6).mono ?_; rintro e w8 ⟨A8, c8, l8, rfl, ho8, hB8, hl8⟩; have hk8 := hk6.trans (hB8.mono hk6.size); clear x0 x1 x2 x3 x4; obtain ⟨x0, x1, x2, x3, x4⟩ := HP.out _ hk8))
          have ho68 := own_below' ho6 hB8 (fun g hg => (ho6.lt g hg).2)
          have hlm6 : l6.length ≤ 9223372036854775807 := by
            rcases ho6.2 with ⟨_, h⟩ | ⟨_, _, _, _, _, _, h1, h2, _⟩
            · omega
            · unfold maxLen at h2; omega
          have hlm8 : l8.length ≤ 9223372036854775807 := by
            rcases ho8.2 with ⟨_, h⟩ | ⟨_, _, _, _, _, _, h1, h2, _⟩
            · omega
            · unfold maxLen at h2; omega
          have hp6 := sumN_perm (hl6.1 trivial).1
          have hp8 := sumN_perm (hl8.1 trivial).1
          have hab := HAB.out
          rw [← hp6, ← hp8] at hab
          have hq6 := sumN_bd l6 (fun x hx => HRP.out _ _ x ((hl6.1 trivial).1.mem_iff.1 hx))
          have hq8 := sumN_bd l8 (fun x hx => HRP.out _ _ x ((hl8.1 trivial).1.mem_iff.1 hx))
          generalize hsa : sumN l6 = sa at *
          generalize hsc : sumN l8 = sc at *
          have HSA := Lib.hid hsa
          have HSC := Lib.hid hsc
          have HQ6 := Lib.hid hq6
          have HQ8 := Lib.hid hq8
          have hsa0 := (hq6 0)
          have hsc0 := (hq8 0)
          generalize hn6 : l6.length = n6 at *
          generalize hn8 : l8.length = n8 at *
          have HN6 := Lib.hid hn6
          have HN8 := Lib.hid hn8
          have hAB : 0 ≤ sa ∧ sa ≤ pct ∧ 0 ≤ sc ∧ sc ≤ pct := ⟨by omega, by omega, by omega, by omega⟩
          have HAB2 := Lib.hid hab
          have hz68 := hB8.size
          have hst6 : Hid (sumN (l6.take 0) = 0) := Lib.hid rfl
          have hst8 : Hid (sumN (l8.take 0) = 0) := Lib.hid rfl
          clear hl6 hl8 hp6 hp8 hab hq6 hq8 hsa hsc hsa0 hsc0 hn6 hn8 ho6 HAB HRP HR1 HR2
          go_loopw [12, 13] (fun s i wr => ∃ k : Nat, k ≤ n6 ∧ i = .int .i64 k ∧ s = .int .i64 (sumN (l6.take k)) ∧ Below w8.heap.size w8 wr) (fun _ i _ => n6 - (intOf i).toNat)
          case atStart => exact ⟨0, by omega, rfl, by rw [hst6.out], Below.refl _ _⟩
          case round =>
            obtain ⟨k6, hk6', rfl, rfl, hBa⟩ := hrel
            by_cases hlt6 : k6 < n6
            · have hr6 := own_below' ho68 hBa (fun g hg => (ho68.lt g hg).2)
              obtain ⟨g6, cap6, hv6, _⟩ := own_form hr6 (by omega)
              injection hv6 with v1 v2 v3
              subst v1 v3
              obtain ⟨a0, a1, a2, a3⟩ := own4B hr6 hlt6 HN6.out
              have HST := Lib.hid (sumN_take l6 k6 (by rw [HN6.out]; exact hlt6))
              have hb1 := HQ6.out k6
              have hb2 := HQ6.out (k6 + 1)
              rw [HST.out] at hb2
              clear hr6 ho68
              generalize nth bk0 l6 k6 = s at *
              generalize sumN (l6.take k6) = sk at *
              go_wp2_with fail
              refine ⟨⟨k6 + 1, by omega, by go_num, by rw [HST.out], hBa⟩, by simp [intOf]; omega⟩
            · have hS : sumN (l6.take k6) = sa := by rw [List.take_of_length_le (by rw [HN6.out]; omega)]; exact HSA.out
              rw [hS]
              clear hS HQ6 HSA ho68 hst6
              have hka := hk8.trans (hBa.mono hk8.size)
              have ho8a := own_below' ho8 hBa (fun g hg => (ho8.lt g hg).2)
              obtain ⟨wa, rfl⟩ : ∃ wa : World, wa = wr := ⟨_, rfl⟩
              clear hBa ho8 hk8
              go_wp2_with fail
              go_loopw [12, 14] (fun s i wr => ∃ k : Nat, k ≤ n8 ∧ i = .int .i64 k ∧ s = .int .i64 (sa + sumN (l8.take k)) ∧ Below wa.heap.size wa wr) (fun _ i _ => n8 - (intOf i).toNat)
              case atStart => exact ⟨0, by omega, rfl, by rw [hst8.out]; simp, Below.refl _ _⟩
              case round =>
                obtain ⟨k8, hk8', rfl, rfl, hBb⟩ := hrel
                by_cases hlt8 : k8 < n8
                · have hr8 := own_below' ho8a hBb (fun g hg => (ho8a.lt g hg).2)
                  obtain ⟨g8, cap8, hv8, _⟩ := own_form hr8 (by omega)
                  injection hv8 with v1 v2 v3
                  subst v1 v3
                  obtain ⟨a0, a1, a2, a3⟩ := own4B hr8 hlt8 HN8.out
                  have HST := Lib.hid (sumN_take l8 k8 (by rw [HN8.out]; exact hlt8))
                  have hb1 := HQ8.out k8
                  have hb2 := HQ8.out (k8 + 1)
                  rw [HST.out] at hb2
                  clear hr8 ho8a
                  generalize nth bk0 l8 k8 = s at *
                  generalize sumN (l8.take k8) = sk at *
                  go_wp2_with fail
                  refine ⟨⟨k8 + 1, by omega, by go_num, by rw [HST.out]; congr 1; omega, hBb⟩, by simp [intOf]; omega⟩
                · have hS : sa + sumN (l8.take k8) = pct := by rw [List.take_of_length_le (by rw [HN8.out]; omega), HSC.out]; exact HAB2.out
                  rw [hS]
                  clear hS HQ8 HSC ho8a hst8 HAB2 hAB
                  have hkb := hka.trans (hBb.mono hka.size)
                  obtain ⟨wb, rfl⟩ : ∃ wb : World, wb = wr := ⟨_, rfl⟩
                  clear hBb x0 x1 x2 x3 x4 hka
                  obtain ⟨x0, x1, x2, x3, x4⟩ := HP.out _ hkb
                  go_wp2_with (first
                    | (go_at_call 11; refine (HUS.out _ hkb).mono ?_; rintro e wc ⟨rfl, hBc⟩; have hkc := hkb.trans (hBc.mono hkb.size); clear x0 x1 x2 x3 x4; obtain ⟨x0, x1, x2, x3, x4⟩ := HP.out _ hkc; clear hkb)
                    | (go_at_call 12; refine (HFR.out _ hkc).mono ?_; rintro e wd ⟨vd, rfl, ⟨Ad, cd, rfl, hcd, hrd⟩, hBd⟩; rw [HFN.out] at hcd ⊢; have hkd := hkc.trans (hBd.mono hkc.size)))
                  have hzd := hBd.size
                  have hstd : Hid (sumS (fl.take 0) = 0) := Lib.hid rfl
                  go_loopw [18, 20] (fun s i wr => ∃ k : Nat, k ≤ fn ∧ i = .int .i64 k ∧ s = .int .i64 (sumS (fl.take k)) ∧ Below wd.heap.size wd wr) (fun _ i _ => fn - (intOf i).toNat)
                  case atStart => exact ⟨0, by omega, rfl, by rw [hstd.out], Below.refl _ _⟩
                  case round =>
                    obtain ⟨kd, hkd', rfl, rfl, hBe⟩ := hrel
                    by_cases hltd : kd < fn
                    · obtain ⟨bd, od, rfl, hbd, hcld⟩ := sp_cells (hrd.keep (flat_stable _) (fun _ h => h) (keep_below hBe (fun b hb => hb.2))) (by rw [HFN.out]; omega)
                      obtain ⟨a0, a1⟩ := hcld kd (by rw [HFN.out]; exact hltd)
                      have HST := Lib.hid (sumS_take fl kd (by rw [HFN.out]; exact hltd))
                      have hb1 := HSB.out kd
                      have hb2 := HSB.out (kd + 1)
                      rw [HST.out, HFS.out] at hb2
                      rw [HFS.out] at hb1
                      obtain ⟨g0, g1, g2⟩ := HFG.out kd (by rw [HFN.out]; exact hltd)
                      have hor : (0 < kd ∧ decide ((0 : Int) < (kd : Int)) = true ∧ ∃ y, wr.cell? ⟨bd, od + (kd - 1) * 2 + 1, none⟩ = some (.int .i64 y) ∧ y < (nth sp0 fl kd).lo) ∨ (¬ 0 < kd ∧ decide ((0 : Int) < (kd : Int)) = false) := by
                        by_cases hz : 0 < kd
                        · left
                          refine ⟨hz, by simpa using hz, _, (hcld (kd - 1) (by rw [HFN.out]; omega)).2, ?_⟩
                          have := HFG2.out (kd - 1) (by rw [HFN.out]; omega)
                          rwa [show kd - 1 + 1 = kd by omega] at this
                        · exact .inr ⟨hz, by simpa using hz⟩
                      clear hcld HFG HFG2 HSB
                      generalize nth sp0 fl kd = s at *
                      generalize sumS (fl.take kd) = sk at *
                      have hgt1 : decide (s.lo ≥ s.hi) = false := by simpa using g1
                      have hw1 : IntKind.i64.wrap (s.hi - s.lo) = s.hi - s.lo := IntWalk.i64_in _ (by omega)
                      have hw2 : IntKind.i64.wrap (sk + (s.hi - s.lo)) = sk + (s.hi - s.lo) := IntWalk.i64_in _ (by omega)
                      rcases hor with ⟨hz, hz1, y, hy, hyl⟩ | ⟨hz, hz1⟩
                      · have hgt2 : decide (s.lo ≤ y) = false := by simpa using hyl
                        have hs1 : IntKind.i64.wrap ((kd : Int) - 1) = (kd : Int) - 1 := IntWalk.i64_in _ (by omega)
                        have hs2 : ((kd : Int) - 1).toNat = kd - 1 := by omega
                        have hs3 : (0 : Int) ≤ (kd : Int) - 1 := by omega
                        have hs4 : (1 : Int) ≤ (kd : Int) := by omega
                        have hs5 : (kd : Int) - 1 < fn := by omega
                        go_wp2_with fail
                        go_quiet (fail)
                        go_wp2_with fail
                        go_quiet (fail)
                        go_wp2_with fail
                        refine ⟨⟨kd + 1, by omega, by go_num, by rw [HST.out], hBe.trans ⟨rfl, rfl, rfl, Nat.le_refl _, fun _ _ => rfl⟩⟩, by simp [intOf]; omega⟩
                      · go_wp2_with fail
                        go_quiet (fail)
                        go_wp2_with fail
                        go_quiet (fail)
                        go_wp2_with fail
                        refine ⟨⟨kd + 1, by omega, by go_num, by rw [HST.out], hBe.trans ⟨rfl, rfl, rfl, Nat.le_refl _, fun _ _ => rfl⟩⟩, by simp [intOf]; omega⟩
                    · have hS : sumS (fl.take kd) = pd - u0 := by rw [List.take_of_length_le (by rw [HFN.out]; omega)]; exact HFS.out
                      rw [hS]
                      clear hS
                      have hke := hkd.trans (hBe.mono hkd.size)
                      clear x0 x1 x2 x3 x4
                      obtain ⟨x0, x1, x2, x3, x4⟩ := HP.out _ hke
                      have hdn := HDN.out
                      subst hdn
                      have e1 : IntKind.i64.wrap (u0 + (pd - u0)) = pd := by rw [show u0 + (pd - u0) = pd by omega]; exact IntWalk.i64_in _ (by omega)
                      go_wp2_with (first
                        | (go_at_call 13; refine (HCT.out _ hke).mono ?_; rintro e wg ⟨rfl, hBg⟩; have hkg := hke.trans (hBg.mono hke.size); clear x0 x1 x2 x3 x4; obtain ⟨x0, x1, x2, x3, x4⟩ := HP.out _ hkg)
                        | (go_at_call 6; refine (lives38 _).mono ?_; rintro e w11 ⟨rfl, hB11⟩; have hk11 := hkg.trans (hB11.mono hkg.size)))
                      go_ret
                      exact ⟨rfl, HUP.out _ hk11⟩
    · clear hf hf1 hIP hIP0 up hP hpb0 hB01 hlt hok
      generalize poolChk p = pc at *
      have hpc : (pc == 0) = false := by simpa using hch
      go_enter Try.func4, Try.ntmps4
      go_wp2_with (first
        | (go_at_call 5; refine (HFP.out _ hk0).mono ?_; rintro e w2 ⟨rfl, hB2⟩; have hk2 := hk0.trans (hB2.mono hk0.size); obtain ⟨x0, x1, x2, x3, x4⟩ := HP.out _ hk2; clear hk0)
        | (go_at_call 9; refine (HCK.out _ hk2).mono ?_; rintro e w3 ⟨rfl, hB3⟩; have hk3 := hk2.trans (hB3.mono hk2.size); clear x0 x1 x2 x3 x4)
        | (go_at_call 10; refine (HL0.out _).mono ?_; rintro e w4 ⟨v4, rfl, ⟨A4, c4, rfl, hc4, hr4⟩, hB4⟩; have hk4 := hk3.trans (hB4.mono hk3.size))
        | (go_at_call 6; refine (lives38 _).mono ?_; rintro e w8 ⟨rfl, hB8⟩; have hk8 := hk4.trans (hB8.mono hk4.size)))
      go_ret
      exact ⟨rfl, HUP.out _ hk8⟩
  · have hf1 : fewN p = 0 := by unfold fewN; rw [if_neg hf]
    rw [hf1] at HFP
    clear hf hf1 hIP hIP0 up hP hpb0 hB01 hlt HCK
    go_enter Try.func4, Try.ntmps4
    go_wp2_with (first
      | (go_at_call 5; refine (HFP.out _ hk0).mono ?_; rintro e w2 ⟨rfl, hB2⟩; have hk2 := hk0.trans (hB2.mono hk0.size))
      | (go_at_call 10; refine (HL0.out _).mono ?_; rintro e w4 ⟨v4, rfl, ⟨A4, c4, rfl, hc4, hr4⟩, hB4⟩; have hk4 := hk2.trans (hB4.mono hk2.size))
      | (go_at_call 6; refine (lives38 _).mono ?_; rintro e w8 ⟨rfl, hB8⟩; have hk8 := hk4.trans (hB8.mono hk4.size)))
    go_ret
    exact ⟨rfl, HUP.out _ hk8⟩
end Go.Proofs.Ytnemfponbadcjaa
