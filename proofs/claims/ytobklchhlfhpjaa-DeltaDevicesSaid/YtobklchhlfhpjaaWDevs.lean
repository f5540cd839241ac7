/- delta.Devices, scantlingref39.Devices: what they return for any two devices of any pool. Condition: the pool is small, and its numbers fit into Go's int. -/
import Derived.Test.YtobklchhlfhpjaaWFind3
import Derived.Test.YtobklchhlfhpjaaWRef18b
import Derived.Test.YtobklchhlfhpjaaWLike
import Derived.Test.YtobklchhlfhpjaaWRSum
namespace Go.Proofs.Ytobklchhlfhpjaa
open Go.RowKit

def devsErr (p : Pool) (a b : Int) : Int := if poolChk p = 0 then (if findB p.devs a = true ∧ findB p.devs b = true then mapsErr (findD p.devs a).maps (findD p.devs b).maps else 18) else poolChk p
def devsRes (p : Pool) (a b : Int) : List Pt := if poolChk p = 0 then (if findB p.devs a = true ∧ findB p.devs b = true then mapsRes (findD p.devs a).maps (findD p.devs b).maps else []) else []
theorem maps_few {l : List Dev} {k : Nat} (h : k < l.length) : ((nth dev0 l k).maps.length : Int) ≤ countL l := by
  have h1 := countL_take l k h
  have h2 := countL_take_le l (k + 1)
  have h3 := countL_nonneg (l.take k)
  omega
theorem findD_maps {l : List Dev} {id : Int} {n : Nat} (h : ∀ k, k < l.length → (nth dev0 l k).maps.length ≤ n) : (findD l id).maps.length ≤ n := by
  unfold findD
  cases hf : l.find? (fun d => d.id == id) with
  | none => simp [dev0]
  | some d =>
    have hm := List.mem_of_find?_eq_some hf
    obtain ⟨k, hk, rfl⟩ := List.getElem_of_mem hm
    have := h k hk
    rw [nth_get dev0 l k hk] at this
    exact this
theorem devsRes_small {p : Pool} {a b : Int} (hm : ∀ k, k < p.devs.length → (nth dev0 p.devs k).maps.length ≤ 2000) : Small 4000 (devsRes p a b) ∧ (devsRes p a b).length ≤ 4000 := by
  have h1 := findD_maps (id := a) hm
  have h2 := findD_maps (id := b) hm
  unfold devsRes
  split
  · split
    · refine ⟨?_, by have := mapsRes_len (findD p.devs a).maps (findD p.devs b).maps; omega⟩
      unfold mapsRes
      split
      · rename_i h; exact parts_small h.1 h.2 (by omega)
      · exact Small.nil_ _
    · exact ⟨Small.nil_ _, by simp⟩
  · exact ⟨Small.nil_ _, by simp⟩

set_option maxRecDepth 100000 in
set_option maxHeartbeats 3200000 in
theorem devs_any (w : World) (v1 : Value) (p : Pool) (a b : Int) (h1 : IsPool w (Lt w.heap.size) v1 p) (hok : p.ok) (hpn : p.devs.length ≤ 200) (hpm : ∀ k, k < p.devs.length → (nth dev0 p.devs k).maps.length ≤ 2000) :
    Calls Try.prog 6 #[v1, .int .i64 a, .int .i64 b] w fun e w' => ∃ v, e = .returned (.tuple #[v, .int .i64 (devsErr p a b)]) ∧ IsParts w' (Btw w.heap.size w'.heap.size) v (devsRes p a b) ∧ Below w.heap.size w w' := by
  have hIP0 : ∀ w', Below w.heap.size w w' → IsPool w' (Lt w.heap.size) v1 p := fun w' hB => h1.below hB (fun _ h => h)
  obtain ⟨A, c, rfl, hc, hr⟩ := h1
  have hpb0 : PBox (w.alloc (poolBox p A p.devs.length c)) w.heap.size p A p.devs.length c := PBox.new w p A _ c
  have hB01 : Below w.heap.size w (w.alloc (poolBox p A p.devs.length c)) := (Below.refl _ _).alloc (Nat.le_refl _) _
  generalize hw1 : (w.alloc (poolBox p A p.devs.length c)) = w1 at *
  have hs1 : w1.heap.size = w.heap.size + 1 := by rw [← hw1]; simp
  have HW1 := Lib.hid hw1
  clear hw1 hr hc
  have up : ∀ w', Below w1.heap.size w1 w' → Below w.heap.size w w' := fun w' hB => hB01.trans (hB.mono (by omega))
  have hIP : ∀ w', Below w1.heap.size w1 w' → IsPool w' (Lt w.heap.size) _ p := fun w' hB => hIP0 w' (up w' hB)
  have hlt : ∀ w', Below w1.heap.size w1 w' → ∀ b, Lt w.heap.size b → b < w'.heap.size := fun w' hB b hb => Nat.lt_of_lt_of_le hb (Below.size (up w' hB))
  have hP : ∀ w', Below w1.heap.size w1 w' → _ := fun w' hB => (hpb0.below hB hpb0.lt).cells
  have hck := fun w' hB => check_any w' (Lt w.heap.size) _ p (hlt w' hB) (hIP w' hB) hok
  have hfa := fun w' hB => find_any w' (Lt w.heap.size) _ p a (hlt w' hB) (hIP w' hB) (by omega) (fun k hk => by have := hpm k hk; omega)
  have hfb := fun w' hB => find_any w' (Lt w.heap.size) _ p b (hlt w' hB) (hIP w' hB) (by omega) (fun k hk => by have := hpm k hk; omega)
  have HCK := Lib.hid hck
  have HFA := Lib.hid hfa
  have HFB := Lib.hid hfb
  have HUP := Lib.hid up
  have HP := Lib.hid hP
  have HLA := Lib.hid (findD_maps (id := a) hpm)
  have HLB := Lib.hid (findD_maps (id := b) hpm)
  have hk0 : Below w1.heap.size w1 (w.alloc (poolBox p A p.devs.length c)) := by rw [HW1.out]; exact Below.refl _ _
  dsimp only [poolBox] at hk0
  have hup1 := HUP.out
  clear hP hck hfa hfb up hpb0 hB01 hIP0 hIP hlt hup1
  by_cases hz : poolChk p = 0
  · have hzb : ((poolChk p : Int) != 0) = false := by simp [hz]
    by_cases ha : findB p.devs a = true
    · by_cases hb : findB p.devs b = true
      · have HE := Lib.hid (show devsErr p a b = mapsErr (findD p.devs a).maps (findD p.devs b).maps from by unfold devsErr; rw [if_pos hz, if_pos ⟨ha, hb⟩])
        have HR := Lib.hid (show devsRes p a b = mapsRes (findD p.devs a).maps (findD p.devs b).maps from by unfold devsRes; rw [if_pos hz, if_pos ⟨ha, hb⟩])
        rw [ha] at HFA
        rw [hb] at HFB
        clear hz ha hb hpm
        generalize findD p.devs a = x at *
        generalize findD p.devs b = y at *
        go_enter Try.func6, Try.ntmps6
        go_wp2_with (first
          | (go_at_call 12; refine (HCK.out _ hk0).mono ?_; rintro e w2 ⟨rfl, hB2⟩; have hk2 := hk0.trans (hB2.mono hk0.size); obtain ⟨x0, x1, x2, x3, x4⟩ := HP.out _ hk2)
          | (go_at_call 13; refine (HFB.out _ (hk3.alloc hk3.size (devBox x A3 c3))).mono ?_; rintro e w5 ⟨v5, rfl, ⟨A5, c5, rfl, hc5, hm5⟩, hB5⟩; have hk5 := (hk3.alloc hk3.size (devBox x A3 c3)).trans (hB5.mono (by have := hk3.size; simp; omega)); have hs5 : w3.heap.size + 1 ≤ w5.heap.size := (by simpa using hB5.size); have hd5 := (hB5.block w3.heap.size (by simp)).trans (heap_alloc_new w3 (devBox x A3 c3)); obtain ⟨d0, d1, d2, d3, d4⟩ := cells5 hd5; have hlt5 : w3.heap.size < w5.heap.size := (by omega); have hm3' := (hm3.keep rmp_stable (fun _ h => h) (keep_alloc (fun b hb => (by have : b < w3.heap.size := hb; have := (HUP.out _ hk3).size; omega)) (devBox x A3 c3))).keep rmp_stable (fun _ h => h) (keep_below hB5 (fun b hb => (by have : b < w3.heap.size := hb; have := (HUP.out _ hk3).size; simp; omega))))
          | (go_at_call 13; refine (HFA.out _ hk2).mono ?_; rintro e w3 ⟨v3, rfl, ⟨A3, c3, rfl, hc3, hm3⟩, hB3⟩; have hk3 := hk2.trans (hB3.mono hk2.size); clear x0 x1 x2 x3 x4; obtain ⟨x0, x1, x2, x3, x4⟩ := HP.out _ hk3; have hlt3 : w.heap.size < w3.heap.size := (by have := hk3.size; omega))
          | (go_at_call 11; refine (proMaps (w5.alloc (devBox y A5 c5)) (Lt (w5.heap.size + 1)) _ _ x.maps y.maps (fun b hb => (by have : b < w5.heap.size + 1 := hb; simp; omega)) ⟨A3, c3, rfl, hc3, hm3'.keep rmp_stable (fun b hb => (by have h1 : b < w3.heap.size := hb; have := (HUP.out _ hk3).size; show b < w5.heap.size + 1; omega)) (keep_alloc (fun b hb => (by have h1 : b < w3.heap.size := hb; have := (HUP.out _ hk3).size; omega)) _)⟩ ⟨A5, c5, rfl, hc5, hm5.keep rmp_stable (fun b hb => (by have h1 : b < w5.heap.size := hb; have := (HUP.out _ hk5).size; show b < w5.heap.size + 1; omega)) (keep_alloc (fun b hb => (by have h1 : b < w5.heap.size := hb; have := (HUP.out _ hk5).size; omega)) _)⟩ (by have := HLA.out; have := HLB.out; omega)).mono ?_; rintro e w7 ⟨v7, rfl, hp7, hB7⟩))
        go_ret2
        have hk6 := HUP.out _ hk5
        have hz6 := hk6.size
        refine ⟨v7, by rw [HE.out]; rfl, by rw [HR.out]; exact hp7.sub rpt_stable (fun b hb => ⟨by have := hb.1; simp at this; omega, hb.2⟩), (hk6.alloc hk6.size (devBox y A5 c5)).trans (hB7.mono (by simp; omega))⟩
      · have hb' : findB p.devs b = false := by simpa using hb
        have HE := Lib.hid (show devsErr p a b = 18 from by unfold devsErr; rw [if_pos hz, if_neg (fun h => hb h.2)])
        have HR := Lib.hid (show devsRes p a b = [] from by unfold devsRes; rw [if_pos hz, if_neg (fun h => hb h.2)])
        rw [ha] at HFA
        rw [hb'] at HFB
        clear hz ha hb hb' hpm
        generalize findD p.devs a = x at *
        generalize findD p.devs b = y at *
        go_enter Try.func6, Try.ntmps6
        go_wp2_with (first
          | (go_at_call 12; refine (HCK.out _ hk0).mono ?_; rintro e w2 ⟨rfl, hB2⟩; have hk2 := hk0.trans (hB2.mono hk0.size); obtain ⟨x0, x1, x2, x3, x4⟩ := HP.out _ hk2)
          | (go_at_call 13; refine (HFB.out _ (hk3.alloc hk3.size (devBox x A3 c3))).mono ?_; rintro e w5 ⟨v5, rfl, ⟨A5, c5, rfl, hc5, hm5⟩, hB5⟩; have hk5 := (hk3.alloc hk3.size (devBox x A3 c3)).trans (hB5.mono (by have := hk3.size; simp; omega)))
          | (go_at_call 13; refine (HFA.out _ hk2).mono ?_; rintro e w3 ⟨v3, rfl, ⟨A3, c3, rfl, hc3, hm3⟩, hB3⟩; have hk3 := hk2.trans (hB3.mono hk2.size); clear x0 x1 x2 x3 x4; obtain ⟨x0, x1, x2, x3, x4⟩ := HP.out _ hk3; have hlt3 : w.heap.size < w3.heap.size := (by have := hk3.size; omega)))
        go_ret2
        have hk6 := HUP.out _ hk5
        exact ⟨.slice none 0 0, by rw [HE.out]; rfl, by rw [HR.out]; exact IsSl.nil_, hk6.alloc hk6.size _⟩
    · have ha' : findB p.devs a = false := by simpa using ha
      have HE := Lib.hid (show devsErr p a b = 18 from by unfold devsErr; rw [if_pos hz, if_neg (fun h => ha h.1)])
      have HR := Lib.hid (show devsRes p a b = [] from by unfold devsRes; rw [if_pos hz, if_neg (fun h => ha h.1)])
      rw [ha'] at HFA
      clear hz ha ha' hpm
      generalize findD p.devs a = x at *
      generalize findD p.devs b = y at *
      generalize findB p.devs b = yb at *
      go_enter Try.func6, Try.ntmps6
      go_wp2_with (first
        | (go_at_call 12; refine (HCK.out _ hk0).mono ?_; rintro e w2 ⟨rfl, hB2⟩; have hk2 := hk0.trans (hB2.mono hk0.size); obtain ⟨x0, x1, x2, x3, x4⟩ := HP.out _ hk2)
        | (go_at_call 13; refine (HFB.out _ (hk3.alloc hk3.size (devBox x A3 c3))).mono ?_; rintro e w5 ⟨v5, rfl, ⟨A5, c5, rfl, hc5, hm5⟩, hB5⟩; have hk5 := (hk3.alloc hk3.size (devBox x A3 c3)).trans (hB5.mono (by have := hk3.size; simp; omega)))
        | (go_at_call 13; refine (HFA.out _ hk2).mono ?_; rintro e w3 ⟨v3, rfl, ⟨A3, c3, rfl, hc3, hm3⟩, hB3⟩; have hk3 := hk2.trans (hB3.mono hk2.size); clear x0 x1 x2 x3 x4; obtain ⟨x0, x1, x2, x3, x4⟩ := HP.out _ hk3; have hlt3 : w.heap.size < w3.heap.size := (by have := hk3.size; omega)))
      go_ret2
      have hk6 := HUP.out _ hk5
      exact ⟨.slice none 0 0, by rw [HE.out]; rfl, by rw [HR.out]; exact IsSl.nil_, hk6.alloc hk6.size _⟩
  · have hzb : ((poolChk p : Int) != 0) = true := by simp [hz]
    have HE := Lib.hid (show devsErr p a b = poolChk p from by unfold devsErr; rw [if_neg hz])
    have HR := Lib.hid (show devsRes p a b = [] from by unfold devsRes; rw [if_neg hz])
    clear hz hpm
    generalize poolChk p = pc at *
    go_enter Try.func6, Try.ntmps6
    go_wp2_with (first
      | fail
      | (go_at_call 12; refine (HCK.out _ hk0).mono ?_; rintro e w2 ⟨rfl, hB2⟩; have hk2 := hk0.trans (hB2.mono hk0.size); obtain ⟨x0, x1, x2, x3, x4⟩ := HP.out _ hk2))
    go_ret2
    exact ⟨.slice none 0 0, by rw [HE.out]; rfl, by rw [HR.out]; exact IsSl.nil_, HUP.out _ hk2⟩

set_option maxRecDepth 100000 in
set_option maxHeartbeats 3200000 in
theorem rdevs_any (w : World) (v1 : Value) (p : Pool) (a b : Int) (h1 : IsPool w (Lt w.heap.size) v1 p) (hok : p.ok) (hpn : p.devs.length ≤ 200) (hpm : ∀ k, k < p.devs.length → (nth dev0 p.devs k).maps.length ≤ 2000) :
    Calls Try.prog 7 #[v1, .int .i64 a, .int .i64 b] w fun e w' => ∃ v, e = .returned (.tuple #[v, .int .i64 (devsErr p a b)]) ∧ IsParts w' (Btw w.heap.size w'.heap.size) v (devsRes p a b) ∧ Below w.heap.size w w' := by
  have hIP0 : ∀ w', Below w.heap.size w w' → IsPool w' (Lt w.heap.size) v1 p := fun w' hB => h1.below hB (fun _ h => h)
  obtain ⟨A, c, rfl, hc, hr⟩ := h1
  have hpb0 : PBox (w.alloc (poolBox p A p.devs.length c)) w.heap.size p A p.devs.length c := PBox.new w p A _ c
  have hB01 : Below w.heap.size w (w.alloc (poolBox p A p.devs.length c)) := (Below.refl _ _).alloc (Nat.le_refl _) _
  generalize hw1 : (w.alloc (poolBox p A p.devs.length c)) = w1 at *
  have hs1 : w1.heap.size = w.heap.size + 1 := by rw [← hw1]; simp
  have HW1 := Lib.hid hw1
  clear hw1 hr hc
  have up : ∀ w', Below w1.heap.size w1 w' → Below w.heap.size w w' := fun w' hB => hB01.trans (hB.mono (by omega))
  have hIP : ∀ w', Below w1.heap.size w1 w' → IsPool w' (Lt w.heap.size) _ p := fun w' hB => hIP0 w' (up w' hB)
  have hlt : ∀ w', Below w1.heap.size w1 w' → ∀ b, Lt w.heap.size b → b < w'.heap.size := fun w' hB b hb => Nat.lt_of_lt_of_le hb (Below.size (up w' hB))
  have hP : ∀ w', Below w1.heap.size w1 w' → _ := fun w' hB => (hpb0.below hB hpb0.lt).cells
  have hck := fun w' hB => rcheck_any w' (Lt w.heap.size) _ p (hlt w' hB) (hIP w' hB) hok
  have hfa := fun w' hB => rfind_any w' (Lt w.heap.size) _ p a (hlt w' hB) (hIP w' hB) (by omega)
  have hfb := fun w' hB => rfind_any w' (Lt w.heap.size) _ p b (hlt w' hB) (hIP w' hB) (by omega)
  have HCK := Lib.hid hck
  have HFA := Lib.hid hfa
  have HFB := Lib.hid hfb
  have HUP := Lib.hid up
  have HP := Lib.hid hP
  have HLA := Lib.hid (findD_maps (id := a) hpm)
  have HLB := Lib.hid (findD_maps (id := b) hpm)
  have hk0 : Below w1.heap.size w1 (w.alloc (poolBox p A p.devs.length c)) := by rw [HW1.out]; exact Below.refl _ _
  dsimp only [poolBox] at hk0
  have hup1 := HUP.out
  clear hP hck hfa hfb up hpb0 hB01 hIP0 hIP hlt hup1
  by_cases hz : poolChk p = 0
  · have hzb : ((poolChk p : Int) != 0) = false := by simp [hz]
    by_cases ha : findB p.devs a = true
    · by_cases hb : findB p.devs b = true
      · have HE := Lib.hid (show devsErr p a b = mapsErr (findD p.devs a).maps (findD p.devs b).maps from by unfold devsErr; rw [if_pos hz, if_pos ⟨ha, hb⟩])
        have HR := Lib.hid (show devsRes p a b = mapsRes (findD p.devs a).maps (findD p.devs b).maps from by unfold devsRes; rw [if_pos hz, if_pos ⟨ha, hb⟩])
        rw [ha] at HFA
        rw [hb] at HFB
        clear hz ha hb hpm
        generalize findD p.devs a = x at *
        generalize findD p.devs b = y at *
        go_enter Try.func7, Try.ntmps7
        go_wp2_with (first
          | (go_at_call 14; refine (HCK.out _ hk0).mono ?_; rintro e w2 ⟨rfl, hB2⟩; have hk2 := hk0.trans (hB2.mono hk0.size); obtain ⟨x0, x1, x2, x3, x4⟩ := HP.out _ hk2)
          | (go_at_call 15; refine (HFB.out _ (hk3.alloc hk3.size (devBox x A3 c3))).mono ?_; rintro e w5 ⟨v5, rfl, ⟨A5, c5, rfl, hc5, hm5⟩, hB5⟩; have hk5 := (hk3.alloc hk3.size (devBox x A3 c3)).trans (hB5.mono (by have := hk3.size; simp; omega)); have hs5 : w3.heap.size + 1 ≤ w5.heap.size := (by simpa using hB5.size); have hd5 := (hB5.block w3.heap.size (by simp)).trans (heap_alloc_new w3 (devBox x A3 c3)); obtain ⟨d0, d1, d2, d3, d4⟩ := cells5 hd5; have hlt5 : w3.heap.size < w5.heap.size := (by omega); have hm3' := (hm3.keep rmp_stable (fun _ h => h) (keep_alloc (fun b hb => (by have : b < w.heap.size := hb; have := (HUP.out _ hk3).size; omega)) (devBox x A3 c3))).keep rmp_stable (fun _ h => h) (keep_below hB5 (fun b hb => (by have : b < w.heap.size := hb; have := (HUP.out _ hk3).size; simp; omega))))
          | (go_at_call 15; refine (HFA.out _ hk2).mono ?_; rintro e w3 ⟨v3, rfl, ⟨A3, c3, rfl, hc3, hm3⟩, hB3⟩; have hk3 := hk2.trans (hB3.mono hk2.size); clear x0 x1 x2 x3 x4; obtain ⟨x0, x1, x2, x3, x4⟩ := HP.out _ hk3; have hlt3 : w.heap.size < w3.heap.size := (by have := hk3.size; omega))
          | (go_at_call 16; refine (refMaps (w5.alloc (devBox y A5 c5)) (Lt (w5.heap.size + 1)) _ _ x.maps y.maps (fun b hb => (by have : b < w5.heap.size + 1 := hb; simp; omega)) ⟨A3, c3, rfl, hc3, hm3'.keep rmp_stable (fun b hb => (by have h1 : b < w.heap.size := hb; have := (HUP.out _ hk3).size; show b < w5.heap.size + 1; omega)) (keep_alloc (fun b hb => (by have h1 : b < w.heap.size := hb; have := (HUP.out _ hk3).size; omega)) _)⟩ ⟨A5, c5, rfl, hc5, hm5.keep rmp_stable (fun b hb => (by have h1 : b < w.heap.size := hb; have := (HUP.out _ hk5).size; show b < w5.heap.size + 1; omega)) (keep_alloc (fun b hb => (by have h1 : b < w.heap.size := hb; have := (HUP.out _ hk5).size; omega)) _)⟩ (by have := HLA.out; have := HLB.out; omega)).mono ?_; rintro e w7 ⟨v7, rfl, hp7, hB7⟩))
        go_ret2
        have hk6 := HUP.out _ hk5
        have hz6 := hk6.size
        refine ⟨v7, by rw [HE.out]; rfl, by rw [HR.out]; exact hp7.sub rpt_stable (fun b hb => ⟨by have := hb.1; simp at this; omega, hb.2⟩), (hk6.alloc hk6.size (devBox y A5 c5)).trans (hB7.mono (by simp; omega))⟩
      · have hb' : findB p.devs b = false := by simpa using hb
        have HE := Lib.hid (show devsErr p a b = 18 from by unfold devsErr; rw [if_pos hz, if_neg (fun h => hb h.2)])
        have HR := Lib.hid (show devsRes p a b = [] from by unfold devsRes; rw [if_pos hz, if_neg (fun h => hb h.2)])
        rw [ha] at HFA
        rw [hb'] at HFB
        clear hz ha hb hb' hpm
        generalize findD p.devs a = x at *
        generalize findD p.devs b = y at *
        go_enter Try.func7, Try.ntmps7
        go_wp2_with (first
          | (go_at_call 14; refine (HCK.out _ hk0).mono ?_; rintro e w2 ⟨rfl, hB2⟩; have hk2 := hk0.trans (hB2.mono hk0.size); obtain ⟨x0, x1, x2, x3, x4⟩ := HP.out _ hk2)
          | (go_at_call 15; refine (HFB.out _ (hk3.alloc hk3.size (devBox x A3 c3))).mono ?_; rintro e w5 ⟨v5, rfl, ⟨A5, c5, rfl, hc5, hm5⟩, hB5⟩; have hk5 := (hk3.alloc hk3.size (devBox x A3 c3)).trans (hB5.mono (by have := hk3.size; simp; omega)))
          | (go_at_call 15; refine (HFA.out _ hk2).mono ?_; rintro e w3 ⟨v3, rfl, ⟨A3, c3, rfl, hc3, hm3⟩, hB3⟩; have hk3 := hk2.trans (hB3.mono hk2.size); clear x0 x1 x2 x3 x4; obtain ⟨x0, x1, x2, x3, x4⟩ := HP.out _ hk3; have hlt3 : w.heap.size < w3.heap.size := (by have := hk3.size; omega)))
        go_ret2
        have hk6 := HUP.out _ hk5
        exact ⟨.slice none 0 0, by rw [HE.out]; rfl, by rw [HR.out]; exact IsSl.nil_, hk6.alloc hk6.size _⟩
    · have ha' : findB p.devs a = false := by simpa using ha
      have HE := Lib.hid (show devsErr p a b = 18 from by unfold devsErr; rw [if_pos hz, if_neg (fun h => ha h.1)])
      have HR := Lib.hid (show devsRes p a b = [] from by unfold devsRes; rw [if_pos hz, if_neg (fun h => ha h.1)])
      rw [ha'] at HFA
      clear hz ha ha' hpm
      generalize findD p.devs a = x at *
      generalize findD p.devs b = y at *
      generalize findB p.devs b = yb at *
      go_enter Try.func7, Try.ntmps7
      go_wp2_with (first
        | (go_at_call 14; refine (HCK.out _ hk0).mono ?_; rintro e w2 ⟨rfl, hB2⟩; have hk2 := hk0.trans (hB2.mono hk0.size); obtain ⟨x0, x1, x2, x3, x4⟩ := HP.out _ hk2)
        | (go_at_call 15; refine (HFB.out _ (hk3.alloc hk3.size (devBox x A3 c3))).mono ?_; rintro e w5 ⟨v5, rfl, ⟨A5, c5, rfl, hc5, hm5⟩, hB5⟩; have hk5 := (hk3.alloc hk3.size (devBox x A3 c3)).trans (hB5.mono (by have := hk3.size; simp; omega)))
        | (go_at_call 15; refine (HFA.out _ hk2).mono ?_; rintro e w3 ⟨v3, rfl, ⟨A3, c3, rfl, hc3, hm3⟩, hB3⟩; have hk3 := hk2.trans (hB3.mono hk2.size); clear x0 x1 x2 x3 x4; obtain ⟨x0, x1, x2, x3, x4⟩ := HP.out _ hk3; have hlt3 : w.heap.size < w3.heap.size := (by have := hk3.size; omega)))
      go_ret2
      have hk6 := HUP.out _ hk5
      exact ⟨.slice none 0 0, by rw [HE.out]; rfl, by rw [HR.out]; exact IsSl.nil_, hk6.alloc hk6.size _⟩
  · have hzb : ((poolChk p : Int) != 0) = true := by simp [hz]
    have HE := Lib.hid (show devsErr p a b = poolChk p from by unfold devsErr; rw [if_neg hz])
    have HR := Lib.hid (show devsRes p a b = [] from by unfold devsRes; rw [if_neg hz])
    clear hz hpm
    generalize poolChk p = pc at *
    go_enter Try.func7, Try.ntmps7
    go_wp2_with (first
      | (go_at_call 14; refine (HCK.out _ hk2).mono ?_; rintro e w3 ⟨rfl, hB3⟩; have hk3 := hk2.trans (hB3.mono hk2.size))
      | (go_at_call 14; refine (HCK.out _ hk0).mono ?_; rintro e w2 ⟨rfl, hB2⟩; have hk2 := hk0.trans (hB2.mono hk0.size); obtain ⟨x0, x1, x2, x3, x4⟩ := HP.out _ hk2))
    go_ret2
    exact ⟨.slice none 0 0, by rw [HE.out]; rfl, by rw [HR.out]; exact IsSl.nil_, HUP.out _ hk3⟩
end Go.Proofs.Ytobklchhlfhpjaa
