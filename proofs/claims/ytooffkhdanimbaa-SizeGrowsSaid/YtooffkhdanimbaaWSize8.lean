/- size.Base: how many blocks a pool needs, but for the blocks' own counts. Condition: the numbers fit into Go's int, and no slice is longer than the reach. -/
import Derived.Test.YtooffkhdanimbaaSizeQ
import Derived.Deep.RegionHeld3
namespace Go.Proofs.Ytooffkhdanimbaa
open Go.RowKit
attribute [local go_sem] Oper.semAt_some

theorem own_belowS {w w' : World} {base e size B : Nat} {v : Value} {n : Nat} {xs : List Value} (h : w.ownsRow base e size v n xs) (hB : Below B w w') (hlt : ∀ g, v.ownBlock = some g → g < B) : w'.ownsRow base e size v n xs := by
  refine ⟨h.1, ?_⟩
  rcases h.2 with h0 | ⟨g, cap, cur, rfl, hb, hg, hnc, hm, hcs, ht⟩
  · exact .inl h0
  · exact .inr ⟨g, cap, cur, rfl, hb, (hB.block g (hlt g rfl)).trans hg, hnc, hm, hcs, ht⟩
def nodesL (l : List Dev) : List Int := l.map fun d => nodesN 2 d.maps.length
theorem nodesL_sum (l : List Dev) : sumL (nodesL l) = devSum l := by
  induction l with
  | nil => rfl
  | cons d l ih => simp only [nodesL, List.map_cons, sumL, devSum]; rw [← ih]; rfl
theorem nodesL_take (l : List Dev) (k : Nat) (h : k < l.length) : nodesL (l.take (k + 1)) = nodesL (l.take k) ++ [nodesN 2 (nth dev0 l k).maps.length] := by
  unfold nodesL
  rw [take_nth dev0 l k h, List.map_append]
  rfl
theorem nodes_le' (t : Int) {n : Int} (h : 0 ≤ n) : nodesN t n ≤ 2 * n + 2 := by
  have := nodes_le t n
  have hb := maxN_bound t true
  have := overN_le h (show 1 ≤ maxN t true by omega)
  omega
theorem nodesL_bound {l : List Dev} (h : ∀ k, k < l.length → (nth dev0 l k).maps.length ≤ 16384) : ∀ x ∈ nodesL l, 0 ≤ x ∧ x ≤ 1099511627776 := by
  intro x hx
  obtain ⟨d, hd, rfl⟩ := List.mem_map.1 hx
  obtain ⟨k, hk, rfl⟩ := List.getElem_of_mem hd
  have h1 := h k hk
  rw [nth_get dev0 l k hk] at h1
  have h2 := nodes_pos 2 (l[k].maps.length)
  have h3 := nodes_le' 2 (n := (l[k].maps.length : Int)) (by omega)
  omega
theorem devs_rowB {w w' : World} {S : Nat → Prop} {B : Nat} {A : Option Addr} {l : List Dev} (h : DevRow w S A l) (hB : Below B w w') (hS : ∀ b, S b → b < B) : DevRow w' S A l := h.keep rdev_stable (fun _ h => h) (keep_below hB hS)

set_option maxRecDepth 100000 in
set_option maxHeartbeats 3200000 in
theorem base_any (w : World) (S : Nat → Prop) (v : Value) (p : Pool) (hS : ∀ b, S b → b < w.heap.size) (h : IsPool w S v p) (hok : p.ok) :
    Calls Try.prog 10 #[v] w fun e w' => e = .returned (.int .i64 (baseN p)) ∧ Below w.heap.size w w' := by
  have h0 := h
  obtain ⟨A, c, rfl, hc, hr⟩ := h
  obtain ⟨w1, hw1⟩ : ∃ w1, w1 = w.alloc (poolBox p A p.devs.length c) := ⟨_, rfl⟩
  have hB1 : Below w.heap.size w w1 := by rw [hw1]; exact (Below.refl _ _).alloc (Nat.le_refl _) _
  have hpb : PBox w1 w.heap.size p A p.devs.length c := by rw [hw1]; exact PBox.new w p A _ c
  have hs1 : w1.heap.size = w.heap.size + 1 := by rw [hw1]; simp
  have hk0 : Below w1.heap.size w1 (w.alloc (poolBox p A p.devs.length c)) := by rw [← hw1]; exact Below.refl _ _
  have hup : ∀ w', Below w.heap.size w w' → ∀ b, S b → b < w'.heap.size := fun w' hB b hb => Nat.lt_of_lt_of_le (hS b hb) hB.size
  have hck := fun w' (hB : Below w.heap.size w w') => check_any w' S _ p (hup w' hB) (h0.below hB hS) hok
  have hof := fun w' (hB : Below w.heap.size w w') => often_any w' S _ p (hup w' hB) (h0.below hB hS) hok
  have HCK := Lib.hid hck
  have HOF := Lib.hid hof
  have HR := Lib.hid (fun w' (hB : Below w.heap.size w w') => devs_rowB hr hB hS)
  have HP := Lib.hid (fun w' (hB : Below w1.heap.size w1 w') => (hpb.below hB (by omega)).cells)
  have HUP := Lib.hid (fun w' (hB : Below w1.heap.size w1 w') => hB1.trans (hB.mono (by omega)))
  clear hck hof h0 hup hr hw1 hpb
  have HS1 := Lib.hid hs1
  clear hs1
  dsimp only [poolBox] at hk0
  by_cases hz : poolChk p = 0
  · have e : baseN p = baseOk p := by unfold baseN; rw [if_pos hz]
    have HE := Lib.hid e
    rw [hz] at HCK
    obtain ⟨f1, f2, f3, f4, f5, f6⟩ := pool_few hz
    have hb1 := bitsN_facts f1.2
    have hof : cntG 2 (refsRes p) = oftenN p := rfl
    rw [hof] at HOF
    have a1 := nodes_pos 1 p.devs.length
    have a3 := nodes_pos 3 p.devs.length
    have a4 := nodes_pos 4 (bitsN p.data)
    have a5 := nodes_pos 5 (oftenN p)
    have c1 := nodes_le' 1 (n := (p.devs.length : Int)) (by omega)
    have c3 := nodes_le' 3 (n := (p.devs.length : Int)) (by omega)
    have c4 := nodes_le' 4 hb1.1
    have c5 := nodes_le' 5 f5
    have hs := nodesL_sum p.devs
    have hd0 := devSum_pos p.devs
    have hd1 := devSum_le p.devs
    unfold Pool.count at f3 f6
    have HSUM := Lib.hid hs
    have HLB := Lib.hid (nodesL_bound f4)
    have HF4 := Lib.hid f4
    have hall : Hid (sumL [1, nodesN 3 p.devs.length, nodesN 1 p.devs.length, devSum p.devs, bitsN p.data, nodesN 4 (bitsN p.data), nodesN 5 (oftenN p)] = baseOk p) := by
      refine Lib.hid ?_
      unfold baseOk sumL sumL sumL sumL sumL sumL sumL sumL
      omega
    clear hz e hof hs f4 hok
    generalize oftenN p = ot at *
    generalize baseOk p = res at *
    rw [HE.out]
    have hbm := fun w' => bitmaps_any w' p.data (by omega)
    have HBM := Lib.hid hbm
    clear hbm
    obtain ⟨bN, hbN⟩ : ∃ bN, bitsN p.data = bN := ⟨_, rfl⟩
    rw [hbN] at hb1 a4 c4 hall HBM
    obtain ⟨n4, hn4⟩ : ∃ n4, nodesN 4 bN = n4 := ⟨_, rfl⟩
    have HN4 := Lib.hid (fun w' => nodes_any w' 4 bN (by omega) hb1.1 (by omega))
    have HN5 := Lib.hid (fun w' => nodes_any w' 5 ot (by omega) f5 (by omega))
    have HN1 := Lib.hid (fun w' => nodes_any w' 1 p.devs.length (by omega) (by omega) (by omega))
    have HN3 := Lib.hid (fun w' => nodes_any w' 3 p.devs.length (by omega) (by omega) (by omega))
    rw [hn4] at a4 c4 hall HN4
    generalize nodesN 5 ot = n5 at *
    generalize nodesN 1 (p.devs.length : Int) = n1 at *
    generalize nodesN 3 (p.devs.length : Int) = n3 at *
    clear hbN hn4
    have hds : devSum p.devs ≤ 100000 := by omega
    have hot : n5 ≤ 32770 := by omega
    clear hd1 f3 f6
    generalize hnn : p.devs.length = n at *
    have HN := Lib.hid hnn
    clear hnn HE
    go_enter Try.func10, Try.ntmps10
    go_wp2_with (go_at_call 16; refine (HCK.out _ (HUP.out _ hk0)).mono ?_; rintro e w2 ⟨rfl, hB2⟩; have hk2 := hk0.trans (hB2.mono hk0.size); obtain ⟨x0, x1, x2, x3, x4⟩ := HP.out _ hk2)
    have hsz2 := hk2.size
    clear x0 x1 x2 x3 x4
    go_loopw [3, 13] (fun t i wr => ∃ k : Nat, k ≤ n ∧ i = .int .i64 k ∧ wr.ownsRow w2.heap.size 3 1 t k (flats encI (nodesL (p.devs.take k))) ∧ Below w2.heap.size w2 wr) (fun _ i _ => n - (intOf i).toNat)
    case atStart => exact ⟨0, by omega, rfl, World.ownsRow_nil _ _ _ _, Below.refl _ _⟩
    case round =>
      obtain ⟨k, hk, rfl, hrow, hB⟩ := hrel
      have hz := hB.size
      have hkk := hk2.trans (hB.mono hk2.size)
      obtain ⟨x0, x1, x2, x3, x4⟩ := HP.out _ hkk
      obtain ⟨At, ct, rfl, hct⟩ := own_form0 hrow
      by_cases hlt : k < n
      · obtain ⟨b, off, rfl, hb, hcl⟩ := devs_cells (HR.out _ (HUP.out _ hkk)) (by rw [HN.out]; omega)
        obtain ⟨d0, d1, d2, d3, A', c', d4, hc', hm'⟩ := hcl k (by rw [HN.out]; omega)
        have HT := Lib.hid (nodesL_take p.devs k (by rw [HN.out]; exact hlt))
        have hml := HF4.out k hlt
        have hbS := hS b hb
        clear hcl hm'
        generalize nth dev0 p.devs k = d at *
        have HND := Lib.hid (fun w' => nodes_any w' 2 d.maps.length (by omega) (by omega) (by omega))
        generalize nodesN 2 (d.maps.length : Int) = nd at *
        generalize d.maps.length = ml at *
        go_wp2_with (first
          | (go_at_call 18; refine (HND.out _).mono ?_; rintro e w5 ⟨rfl, hB5⟩; have hkb := (Below.refl wr.heap.size wr).alloc (Nat.le_refl _) (.cells #[.int .i64 d.id, .int .i64 d.tx, .int .i64 d.made, .int .i64 d.snapped, .slice A' ml c'] 36); have hk5 := hkb.trans (hB5.mono (by simp)); have hrow5 := own_belowS hrow hk5 (fun g hg => (hrow.lt g hg).2); have hz5 := hk5.size)
          | (at_builtin; go_loud (refine wpList_append_one elInt rfl _ _ rfl w2.heap.size (.slice At k ct) k (nodesL (p.devs.take k)) nd rfl hrow5 rfl (by omega) (by omega) ?_); intro A6 cap6 w6 hown hg))
        go_roundw
        case rel => exact ⟨k + 1, by omega, by go_num, by rw [HT.out]; exact hown, (hB.trans (hk5.mono hz)).grown hg (by omega) (fun i hi => (hrow5.lt i hi).1)⟩
        case measure => simp [intOf]; omega
      · obtain rfl : k = n := by omega
        have hrl := IsSl.own (d := (0 : Int)) encI_len hrow (by omega)
        have hfin : p.devs.take k = p.devs := List.take_of_length_le (by rw [HN.out]; omega)
        rw [hfin] at hrl
        have HSM := Lib.hid (fun w' (hB : Below wr.heap.size wr w') => sumv_any w' _ _ _ (hrl.keep (flat_stable _) (fun _ h => h) (keep_below hB (fun b hb => hb.2))) (by unfold nodesL; rw [List.length_map, HN.out]; omega) HLB.out)
        rw [HSUM.out] at HSM
        clear hfin hrl hrow
        have hk7 := Below.refl wr.heap.size wr
        obtain ⟨wo, rfl⟩ : ∃ wo : World, wo = wr := ⟨_, rfl⟩
        generalize devSum p.devs = ds at *
        have HS2 := Lib.hid (fun (w0 : World) => sumv_any (w0.alloc (.cells #[.int .i64 1, .int .i64 n3, .int .i64 n1, .int .i64 ds, .int .i64 bN, .int .i64 n4, .int .i64 n5] 3)) (fun _ => True) (.slice (some ⟨w0.heap.size, 0, none⟩) 7 7) [1, n3, n1, ds, bN, n4, n5] (IsSl.block (d := (0 : Int)) encI_len (heap_alloc_new w0 _) rfl rfl (Nat.le_refl _) trivial) (by simp) (by simp; omega))
        rw [hall.out] at HS2
        go_wp2_with (go_at_call 8; refine (HBM.out _).mono ?_; rintro e w6 ⟨rfl, rfl⟩)
        have hk7 := hk7.drew
        go_region_held3 (fun w' => w'.cell? ⟨w.heap.size, 0, none⟩ = some (.int .i64 p.tx) ∧ w'.cell? ⟨w.heap.size, 1, none⟩ = some (.int .i64 p.time) ∧ w'.cell? ⟨w.heap.size, 2, none⟩ = some (.int .i64 p.unit) ∧ w'.cell? ⟨w.heap.size, 3, none⟩ = some (.int .i64 p.data) ∧ w'.cell? ⟨w.heap.size, 4, none⟩ = some (.slice A k c)) (go_keep)
          (first
            | (go_at_call 19; have _ := hk13; (with_reducible refine (HS2.out w13).mono ?_); rintro e w14 ⟨rfl, rfl⟩)
            | (go_at_call 18; have _ := hk12; refine (HN5.out _).mono ?_; rintro e w13 ⟨rfl, hB13⟩; have hk13 := hk12.trans (hB13.mono hk12.size); clear x0 x1 x2 x3 x4; obtain ⟨x0, x1, x2, x3, x4⟩ := HP.out _ (hkk.trans (hk13.mono hkk.size)))
            | (go_at_call 20; refine (HOF.out _ (HUP.out _ (hkk.trans (hk11.mono hkk.size)))).mono ?_; rintro e w12 ⟨rfl, hB12⟩; have hk12 := hk11.trans (hB12.mono hk11.size); clear x0 x1 x2 x3 x4; obtain ⟨x0, x1, x2, x3, x4⟩ := HP.out _ (hkk.trans (hk12.mono hkk.size)))
            | (go_at_call 18; have _ := tk10; refine (HN4.out _).mono ?_; rintro e w11 ⟨rfl, hB11⟩; have hk11 := hk9.trans (hB11.mono hk9.size); clear x0 x1 x2 x3 x4; obtain ⟨x0, x1, x2, x3, x4⟩ := HP.out _ (hkk.trans (hk11.mono hkk.size)))
            | (go_at_call 19; refine (HSM.out _ hk9).mono ?_; rintro e w10 ⟨rfl, rfl⟩; have tk10 := True.intro)
            | (go_at_call 18; have _ := hk8; refine (HN1.out _).mono ?_; rintro e w9 ⟨rfl, hB9⟩; have hk9 := hk8.trans (hB9.mono hk8.size); clear x0 x1 x2 x3 x4; obtain ⟨x0, x1, x2, x3, x4⟩ := HP.out _ (hkk.trans (hk9.mono hkk.size)))
            | (go_at_call 18; refine (HN3.out _).mono ?_; rintro e w8 ⟨rfl, hB8⟩; have hk8 := hk7.trans (hB8.mono hk7.size); clear x0 x1 x2 x3 x4; obtain ⟨x0, x1, x2, x3, x4⟩ := HP.out _ (hkk.trans (hk8.mono hkk.size))))
        go_wp2_with fail
        go_ret
        exact ⟨rfl, HUP.out _ (hkk.trans ((hk13.alloc hk13.size _).mono hkk.size))⟩
  · have e : baseN p = 0 := by unfold baseN; rw [if_neg hz]
    rw [e]
    have hzb : (poolChk p != 0) = true := by simp [hz]
    clear hz e
    go_enter Try.func10, Try.ntmps10
    go_wp2_with (go_at_call 16; refine (HCK.out _ (HUP.out _ hk0)).mono ?_; rintro e w2 ⟨rfl, hB2⟩; have hk2 := hk0.trans (hB2.mono hk0.size))
    go_ret
    exact ⟨rfl, HUP.out _ hk2⟩
end Go.Proofs.Ytooffkhdanimbaa
