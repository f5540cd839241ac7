/- scantlinglaw18.PoolApart says yes of every pool. Condition: the numbers fit into Go's int, and no slice is longer than the reach. -/
import Derived.Test.YtlanffolgkpmkaaWApart0
import Derived.Deep.DeepCutAuto
namespace Go.Proofs.Ytlanffolgkpmkaa
open Go.RowKit
attribute [local go_sem] Oper.semAt_some

theorem zcells {w : World} {b : Nat} {t : TypeId} {a0 a1 a2 a3 a4 : Value} (h : w.heap[b]? = some (.cells #[a0, a1, a2, a3, a4] t (0, 0))) :
    (w.cell? ⟨b, 0, none⟩ = some a0 ∧ w.cell? ⟨b, 1, none⟩ = some a1 ∧ w.cell? ⟨b, 2, none⟩ = some a2 ∧ w.cell? ⟨b, 3, none⟩ = some a3 ∧ w.cell? ⟨b, 4, none⟩ = some a4) ∧
    w.frozen? ⟨b, 0, none⟩ = false ∧ w.frozen? ⟨b, 1, none⟩ = false ∧ w.frozen? ⟨b, 2, none⟩ = false ∧ w.frozen? ⟨b, 3, none⟩ = false ∧ w.frozen? ⟨b, 4, none⟩ = false := by
  simp [World.cell?, World.frozen?, h]

theorem zkeep {w w' w2 : World} {b : Nat} {o : Obj} (h : w.heap[b]? = some o) (hb : Below w.heap.size w w') (hB : Below w'.heap.size w' w2) : w2.heap[b]? = some o := by
  have hlt := (Array.getElem?_eq_some_iff.1 h).1
  have := hb.size
  rw [hB.block b (by omega), hb.block b hlt]
  exact h
theorem znew1 (w : World) (o o' : Obj) : ((w.alloc o).alloc o').heap[w.heap.size]? = some o := (Below.heap_alloc (w.alloc o) o' w.heap.size (by simp <;> omega)).trans (heap_alloc_new w o)
theorem znew2 (w : World) (o o' : Obj) : ((w.alloc o).alloc o').heap[w.heap.size + 1]? = some o' := by
  have := heap_alloc_new (w.alloc o) o'
  rwa [World.size_alloc] at this
theorem setZ {w : World} {b : Nat} (h : w.heap[b]? = some (.cells #[.int .i64 0, .int .i64 0, .int .i64 0, .int .i64 0, .slice none 0 0] 24 (0, 0))) (u0 u1 u2 u3 u4 : Value) :
    (((((w.setCell ⟨b, 0, none⟩ u0).setCell ⟨b, 1, none⟩ u1).setCell ⟨b, 2, none⟩ u2).setCell ⟨b, 3, none⟩ u3).setCell ⟨b, 4, none⟩ u4).heap[b]? = some (.cells #[u0, u1, u2, u3, u4] 24 (0, 0)) := set5 h u0 u1 u2 u3 u4
theorem heap_far (w : World) (p : Addr) (u : Value) (b : Nat) (h : p.block ≠ b) : (w.setCell p u).heap[b]? = w.heap[b]? := Below.heap_setCell w p u b (fun e => h e.symm)
theorem heap_old (w : World) (o : Obj) (b : Nat) (h : b < w.heap.size) : (w.alloc o).heap[b]? = w.heap[b]? := Below.heap_alloc w o b h
theorem heap_eq (w : World) (o : Obj) (b : Nat) (h : b = w.heap.size) : (w.alloc o).heap[b]? = some o := by subst h; exact heap_alloc_new w o
/-- Two copies of a pool in two variables, apart from one another and from what was there. -/
def TwoCopies (w1 wx : World) (p : Pool) (g7 g8 : Nat) (A3 : Option Addr) (c3 : Nat) (A4 : Option Addr) (c4 : Nat) : Prop :=
  Below w1.heap.size w1 wx ∧ PBox wx g7 p A3 p.devs.length c3 ∧ PBox wx g8 p A4 p.devs.length c4 ∧ p.devs.length ≤ c3 ∧ p.devs.length ≤ c4 ∧ w1.heap.size ≤ g7 ∧ w1.heap.size ≤ g8 ∧ g7 ≠ g8 ∧
    ∃ S3 S4 : Nat → Prop, DevRow wx S3 A3 p.devs ∧ DevRow wx S4 A4 p.devs ∧ (∀ b, S3 b → w1.heap.size ≤ b ∧ b < wx.heap.size ∧ b ≠ g7 ∧ b ≠ g8 ∧ ¬ S4 b) ∧ (∀ b, S3 b → Thaw wx b) ∧ (∀ b, S4 b → w1.heap.size ≤ b ∧ b < wx.heap.size ∧ b ≠ g7 ∧ b ≠ g8)
theorem two_of {w1 w3 w4 wx : World} {p : Pool} {g7 g8 lo3 lo4 : Nat} {A3 : Option Addr} {c3 : Nat} {A4 : Option Addr} {c4 : Nat} (hk4 : Below w1.heap.size w1 w4) (h34 : Below w3.heap.size w3 w4) (hlo : w1.heap.size ≤ lo3) (hl4 : w3.heap.size ≤ lo4) (hlo3 : lo3 ≤ w3.heap.size)
    (hr3 : DevRow w3 (fun b => Btw lo3 w3.heap.size b ∧ Thaw w3 b) A3 p.devs) (hr4 : DevRow w4 (fun b => Btw lo4 w4.heap.size b ∧ Thaw w4 b) A4 p.devs) (hc3 : p.devs.length ≤ c3) (hc4 : p.devs.length ≤ c4)
    (hg : w1.heap.size ≤ g7 ∧ w1.heap.size ≤ g8 ∧ g7 ≠ g8 ∧ (g7 < lo3 ∨ (w3.heap.size ≤ g7 ∧ g7 < lo4) ∨ w4.heap.size ≤ g7) ∧ (g8 < lo3 ∨ (w3.heap.size ≤ g8 ∧ g8 < lo4) ∨ w4.heap.size ≤ g8))
    (hb : Below w1.heap.size w4 wx) (h7 : PBox wx g7 p A3 p.devs.length c3) (h8 : PBox wx g8 p A4 p.devs.length c4)
    (hkeep : ∀ b o, b < w4.heap.size → b ≠ g7 → b ≠ g8 → wx.cell? ⟨b, o, none⟩ = w4.cell? ⟨b, o, none⟩) (hthaw : ∀ b o, b < w4.heap.size → wx.frozen? ⟨b, o, none⟩ = w4.frozen? ⟨b, o, none⟩) : TwoCopies w1 wx p g7 g8 A3 c3 A4 c4 := by
  obtain ⟨n1, n2, n3, n4, n5⟩ := hg
  have hs1 := h34.size
  have hs2 := hb.size
  refine ⟨hk4.trans hb, h7, h8, hc3, hc4, n1, n2, n3, (fun b => Btw lo3 w3.heap.size b ∧ Thaw wx b), Btw lo4 w4.heap.size, ?_, ?_, ?_, fun b h => h.2, ?_⟩
  · refine hr3.keep rdev_stable (fun b h => ⟨h.1, fun o => ?_⟩) (fun b o hb' => ?_)
    · have b2 : b < w3.heap.size := h.1.2
      rw [hthaw b o (by omega)]
      exact (h34.frozen (p := ⟨b, o, none⟩) b2).trans (h.2 o)
    have b1 : lo3 ≤ b := hb'.1.1
    have b2 : b < w3.heap.size := hb'.1.2
    rw [hkeep b o (by omega) (by omega) (by omega)]
    exact h34.cell (p := ⟨b, o, none⟩) b2
  · refine hr4.keep rdev_stable (fun _ h => h.1) (fun b o hb' => ?_)
    have b1 : lo4 ≤ b := hb'.1.1
    have b2 : b < w4.heap.size := hb'.1.2
    exact hkeep b o b2 (by omega) (by omega)
  · intro b hb'
    have b1 : lo3 ≤ b := hb'.1.1
    have b2 : b < w3.heap.size := hb'.1.2
    exact ⟨by omega, by omega, by omega, by omega, fun h => by have : lo4 ≤ b := h.1; omega⟩
  · intro b hb'
    have b1 : lo4 ≤ b := hb'.1
    have b2 : b < w4.heap.size := hb'.2
    exact ⟨by omega, by omega, by omega, by omega⟩
abbrev poolV (p : Pool) (A : Option Addr) (c : Nat) : Value := .agg #[.int .i64 p.tx, .int .i64 p.time, .int .i64 p.unit, .int .i64 p.data, .slice A p.devs.length c]
/-- What the comparisons say when one number of the first copy has become another. -/
theorem apart_store {w w1 wc W : World} {p : Pool} {g7 g8 c3 c4 c : Nat} {A A3 A4 : Option Addr} {S3 S4 : Nat → Prop} {q : Addr} {n0 y : Int} (hok : p.ok) (hpn : p.devs.length ≤ 200) (hlt0 : w.heap.size < w1.heap.size) (hkc : Below w1.heap.size w1 wc)
    (h7 : PBox wc g7 p A3 p.devs.length c3) (h8 : PBox wc g8 p A4 p.devs.length c4) (hS3 : ∀ b, S3 b → w1.heap.size ≤ b ∧ b < wc.heap.size ∧ b ≠ g7 ∧ b ≠ g8 ∧ ¬ S4 b) (hS4 : ∀ b, S4 b → w1.heap.size ≤ b ∧ b < wc.heap.size ∧ b ≠ g7 ∧ b ≠ g8)
    (hC : IsPool wc S3 (poolV p A3 c3) p) (hD : IsPool wc S4 (poolV p A4 c4) p) (hP : IsPool wc (Lt w.heap.size) (poolV p A c) p) (hq : wc.cell? q = some (.int .i64 n0)) (hSq : S3 q.block)
    (hne : ∀ p2, IsPool (wc.setCell q (.int .i64 y)) S3 (poolV p A3 c3) p2 → p2 ≠ p) (hW : W.heap = (wc.setCell q (.int .i64 y)).heap) (hB : Below w1.heap.size w1 W) :
    Calls Try.prog 12 #[poolV p A3 c3, poolV p A c] W (fun x w' => x = .returned (.bool false) ∧ Below W.heap.size W w') ∧
    (∀ w', Below W.heap.size W w' → Calls Try.prog 12 #[poolV p A4 c4, poolV p A c] w' (fun x w2 => x = .returned (.bool true) ∧ Below w'.heap.size w' w2)) ∧
    (∀ w', Below W.heap.size W w' → Calls Try.prog 12 #[poolV p A c, poolV p A c] w' (fun x w2 => x = .returned (.bool true) ∧ Below w'.heap.size w' w2)) ∧ PBox W g7 p A3 p.devs.length c3 ∧ PBox W g8 p A4 p.devs.length c4 := by
  have hsz : W.heap.size = wc.heap.size := by rw [hW]; simp [World.setCell]
  have hkp : ∀ S : Nat → Prop, Keep S (wc.setCell q (.int .i64 y)) W := fun S b o _ => by simp [World.cell?, hW]
  have hsz1 := hkc.size
  obtain ⟨q1, q2, q3, q4, q5⟩ := hS3 _ hSq
  obtain ⟨p2, ha, hb, hc2⟩ := pool_after y hq hC
  have hn2 := hne p2 hc2
  have hc3' := hc2.keep (fun _ h => h) (hkp S3)
  have hD' := (hD.keep (fun _ h => h) (keep_setCell (p := q) q5 (.int .i64 y))).keep (fun _ h => h) (hkp S4)
  have hP' := (hP.keep (fun _ h => h) (keep_setCell (p := q) (fun h => by have : q.block < w.heap.size := h; omega) (.int .i64 y))).keep (fun _ h => h) (hkp (Lt w.heap.size))
  have hmk := Pool.maps_ok hok
  have hlt : ∀ b, Lt w.heap.size b → b < W.heap.size := fun b h => by have : b < w.heap.size := h; omega
  have hbox : ∀ g, g ≠ q.block → W.heap[g]? = wc.heap[g]? := fun g hg => by rw [hW]; exact Below.heap_setCell wc q _ g hg
  refine ⟨?_, fun w' hw' => ?_, fun w' hw' => ?_, (hbox g7 (fun e => q3 e.symm)).trans h7, (hbox g8 (fun e => q4 e.symm)).trans h8⟩
  · have := samePool_any W S3 (Lt w.heap.size) _ _ p2 p (fun b h => by have := (hS3 b h).2.1; omega) hlt hc3' hP' (by omega) (fun k hk => by rw [hb]; exact hmk k (by omega))
    rw [decide_eq_false hn2] at this
    exact this
  · have hs := hw'.size
    have := samePool_any w' S4 (Lt w.heap.size) _ _ p p (fun b h => by have := (hS4 b h).2.1; omega) (fun b h => by have := hlt b h; omega) (hD'.below hw' (fun b h => by have := (hS4 b h).2.1; omega)) (hP'.below hw' hlt) (by omega) hmk
    rw [decide_eq_true rfl] at this
    exact this
  · have hs := hw'.size
    have := samePool_any w' (Lt w.heap.size) (Lt w.heap.size) _ _ p p (fun b h => by have := hlt b h; omega) (fun b h => by have := hlt b h; omega) (hP'.below hw' hlt) (hP'.below hw' hlt) (by omega) hmk
    rw [decide_eq_true rfl] at this
    exact this
/-- The number that is stored is one of the pool's. -/
theorem made_ne {w : World} {S : Nat → Prop} {p p2 : Pool} {b o r c : Nat} {y : Int} {v : Value} (h : IsPool w S v p2) (hv : v = poolV p (some ⟨b, o, none⟩) c) (hr : r < p.devs.length) (hcell : w.cell? ⟨b, o + r * 5 + 2, none⟩ = some (.int .i64 y)) (hy : y ≠ (nth dev0 p.devs r).made) : p2 ≠ p := by
  rintro rfl
  obtain ⟨A, c', e, hc, hrow⟩ := h
  rw [e] at hv
  simp at hv
  obtain ⟨rfl, rfl⟩ := hv
  obtain ⟨b', o', e', hb, hcl⟩ := devs_cells hrow (by omega)
  injection e' with e'
  injection e' with e1 e2
  subst e1 e2
  obtain ⟨_, _, h2, _⟩ := hcl r hr
  rw [hcell] at h2
  injection h2 with h2
  injection h2 with h2 h3
  exact hy h3
theorem t_ne {w : World} {S : Nat → Prop} {p p2 : Pool} {b o r c mb mo mc j : Nat} {y : Int} {v : Value} (h : IsPool w S v p2) (hv : v = poolV p (some ⟨b, o, none⟩) c) (hr : r < p.devs.length) (hm : w.cell? ⟨b, o + r * 5 + 4, none⟩ = some (.slice (some ⟨mb, mo, none⟩) (nth dev0 p.devs r).maps.length mc)) (hj : j < (nth dev0 p.devs r).maps.length)
    (hcell : w.cell? ⟨mb, mo + j * 3 + 2, none⟩ = some (.int .i64 y)) (hy : y ≠ (nth mp0 (nth dev0 p.devs r).maps j).t) : p2 ≠ p := by
  rintro rfl
  obtain ⟨A, c', e, hc, hrow⟩ := h
  rw [e] at hv
  simp at hv
  obtain ⟨rfl, rfl⟩ := hv
  obtain ⟨b', o', e', hb, hcl⟩ := devs_cells hrow (by omega)
  injection e' with e'
  injection e' with e1 e2
  subst e1 e2
  obtain ⟨_, _, _, _, A', c2, h4, _, hmr⟩ := hcl r hr
  rw [hm] at h4
  simp at h4
  obtain ⟨rfl, _⟩ := h4
  obtain ⟨b', o', e', hb, hcm⟩ := maps_cells hmr (by omega)
  injection e' with e'
  injection e' with e1 e2
  subst e1 e2
  obtain ⟨_, _, h2⟩ := hcm j hj
  rw [hcell] at h2
  injection h2 with h2
  injection h2 with h2 h3
  exact hy h3
set_option maxRecDepth 100000 in
set_option maxHeartbeats 4000000 in
theorem poolApart_walk (w : World) (v1 : Value) (p : Pool) (i k : Int) (h1 : IsPool w (Lt w.heap.size) v1 p) (hok : p.ok) (hi : In64 i) (hk : In64 k) :
    Calls Try.prog 4 #[v1, .int .i64 i, .int .i64 k] w fun e w' => e = .returned (.bool true) ∧ Below w.heap.size w w' := by
  have hIP0 : ∀ w', Below w.heap.size w w' → IsPool w' (Lt w.heap.size) v1 p := fun w' hB => h1.below hB (fun _ h => h)
  obtain ⟨A, c, rfl, hc, hr⟩ := h1
  have hpb0 : PBox (w.alloc (poolBox p A p.devs.length c)) w.heap.size p A p.devs.length c := PBox.new w p A _ c
  have hB01 : Below w.heap.size w (w.alloc (poolBox p A p.devs.length c)) := (Below.refl _ _).alloc (Nat.le_refl _) _
  generalize hw1 : (w.alloc (poolBox p A p.devs.length c)) = w1 at *
  have hs1 : w1.heap.size = w.heap.size + 1 := by rw [← hw1]; simp
  have HW1 := Lib.hid hw1
  clear hw1
  have up : ∀ w', Below w1.heap.size w1 w' → Below w.heap.size w w' := fun w' hB => hB01.trans (hB.mono (by omega))
  have hIP : ∀ w', Below w1.heap.size w1 w' → IsPool w' (Lt w.heap.size) _ p := fun w' hB => hIP0 w' (up w' hB)
  have hlt : ∀ w', Below w1.heap.size w1 w' → ∀ b, Lt w.heap.size b → b < w'.heap.size := fun w' hB b hb => Nat.lt_of_lt_of_le hb (Below.size (up w' hB))
  have hP : ∀ w', Below w1.heap.size w1 w' → _ := fun w' hB => (hpb0.below hB hpb0.lt).cells
  have hfewp := fun w' hB => few_any w' (Lt w.heap.size) _ p (hlt w' hB) (hIP w' hB) hok
  have HFP := Lib.hid hfewp
  have HUP := Lib.hid up
  have HP := Lib.hid hP
  have hk1 := Below.refl w1.heap.size w1
  have hk0 : Below w1.heap.size w1 (w.alloc (poolBox p A p.devs.length c)) := by rw [HW1.out]; exact hk1
  dsimp only [poolBox] at hk0
  have HIP := Lib.hid hIP
  have HLT := Lib.hid hlt
  clear hP hfewp up hpb0 hB01 hIP0 hr
  by_cases hf : fewB p = true
  · have hf1 : fewN p = 1 := by unfold fewN; rw [if_pos hf]
    rw [hf1] at HFP
    by_cases hn0 : p.devs.length = 0
    · rw [hn0] at HFP HP hk0
      clear hf1 hf hIP hlt hc HIP HLT HW1
      go_enter Try.func4, Try.ntmps4
      go_wp2_with (first
        | (go_at_call 6; refine (HFP.out _ hk0).mono ?_; rintro e w2 ⟨rfl, hB2⟩; have hk2 := hk0.trans (hB2.mono hk0.size); obtain ⟨x0, x1, x2, x3, x4⟩ := HP.out _ hk2)
        | (go_at_call 7; refine (lives18 _).mono ?_; rintro e w5 ⟨rfl, hB5⟩; have hk5 := hk2.trans (hB5.mono hk2.size)))
      go_ret
      exact ⟨rfl, HUP.out _ hk5⟩
    · simp only [fewB, decide_eq_true_eq] at hf
      obtain ⟨hpn, hpc⟩ := hf
      have hpm : ∀ k, k < p.devs.length → (nth dev0 p.devs k).maps.length ≤ 2000 := fun k hk => by have := maps_few hk; unfold Pool.count at hpc; omega
      have hcp := fun w' hB => copy_any w' (Lt w.heap.size) _ p (hlt w' hB) (hIP w' hB) (by omega) (fun k hk => by have := hpm k hk; omega)
      have HCP := Lib.hid hcp
      clear hf1 hcp hIP hlt
      go_enter Try.func4, Try.ntmps4
      go_wp2_with (first
        | (go_at_call 6; refine (HFP.out _ hk0).mono ?_; rintro e w2 ⟨rfl, hB2⟩; have hk2 := hk0.trans (hB2.mono hk0.size); obtain ⟨x0, x1, x2, x3, x4⟩ := HP.out _ hk2))
      go_cut [7, 8] (fun s7 s8 wx => ∃ g7 g8 A3 c3 A4 c4, s7 = .pointer (some ⟨g7, 0, none⟩) ∧ s8 = .pointer (some ⟨g8, 0, none⟩) ∧ TwoCopies w1 wx p g7 g8 A3 c3 A4 c4)
      case first =>
        have hm2 : w.heap.size < w2.heap.size := by have := hk2.size; omega
        go_region_held3 (fun w' => w'.cell? ⟨w.heap.size, 0, none⟩ = some (.int .i64 p.tx) ∧ w'.cell? ⟨w.heap.size, 1, none⟩ = some (.int .i64 p.time) ∧ w'.cell? ⟨w.heap.size, 2, none⟩ = some (.int .i64 p.unit) ∧ w'.cell? ⟨w.heap.size, 3, none⟩ = some (.int .i64 p.data) ∧ w'.cell? ⟨w.heap.size, 4, none⟩ = some (.slice A p.devs.length c)) (go_keep)
          (first
            | (go_at_call 11; refine (HCP.out w3 hk3).mono ?_; rintro e w4 ⟨v4, rfl, ⟨A4, c4, rfl, hc4, hr4⟩, hB4⟩; have hk4 := hk3.trans (hB4.mono (Below.size hk3)); obtain ⟨x0, x1, x2, x3, x4⟩ := HP.out _ hk4; (try (have q1 := zkeep z1 (Below.refl w3.heap.size w3) hB4)); (try (have q2 := zkeep z2 (Below.refl w3.heap.size w3) hB4)); (try (have zz := zcells q1; obtain ⟨⟨q10, q11, q12, q13, q14⟩, q1f0, q1f1, q1f2, q1f3, q1f4⟩ := zz)); (try (have zz := zcells q2; obtain ⟨⟨q20, q21, q22, q23, q24⟩, q2f0, q2f1, q2f2, q2f3, q2f4⟩ := zz)); (try (have zz := zcells y1; obtain ⟨⟨y10, y11, y12, y13, y14⟩, y1f0, y1f1, y1f2, y1f3, y1f4⟩ := zz)); (try (have zz := zcells y2; obtain ⟨⟨y20, y21, y22, y23, y24⟩, y2f0, y2f1, y2f2, y2f3, y2f4⟩ := zz)); have hne3 := hB3.size; have hne4 := hB4.size; (try simp only [World.size_alloc, World.size_drew] at hne3); (try simp only [World.size_alloc] at hne4); have h34 := (Below.refl w3.heap.size w3).trans (hB4.mono (Below.size (Below.refl w3.heap.size w3))); (try simp only [World.size_alloc] at hr4); have hk3s := hk3.size; have hk4s := hk4.size; have m1 : ¬ w3.heap.size = w.heap.size := (by omega); have m2 : ¬ w2.heap.size = w.heap.size := (by omega); have m3 : ¬ w4.heap.size = w.heap.size := (by omega); have m4 : ¬ w2.heap.size + 1 = w.heap.size := (by omega); have m5 : ¬ w3.heap.size + 1 = w.heap.size := (by omega); have m6 : ¬ w4.heap.size + 1 = w.heap.size := (by omega); have m7 : w.heap.size < w4.heap.size := (by omega); (try (have l1 : w3.heap.size < w4.heap.size := (by omega))); (try (have l2 : w3.heap.size + 1 < w4.heap.size := (by omega))); (try (have l3 : w2.heap.size < w4.heap.size := (by omega))); (try (have l4 : w2.heap.size + 1 < w4.heap.size := (by omega))); (try (have n1 : ¬ w3.heap.size = w4.heap.size := (by omega))); (try (have n2 : ¬ w2.heap.size = w4.heap.size := (by omega))); (try (have n3 : ¬ w2.heap.size = w3.heap.size := (by omega))))
            | (go_at_call 11; refine (HCP.out (w3.alloc (.cells #[.int .i64 0, .int .i64 0, .int .i64 0, .int .i64 0, .slice none 0 0] 24)) (Below.alloc hk3 (Below.size hk3) (.cells #[.int .i64 0, .int .i64 0, .int .i64 0, .int .i64 0, .slice none 0 0] 24))).mono ?_; rintro e w4 ⟨v4, rfl, ⟨A4, c4, rfl, hc4, hr4⟩, hB4⟩; have hk4 := (Below.alloc hk3 (Below.size hk3) (.cells #[.int .i64 0, .int .i64 0, .int .i64 0, .int .i64 0, .slice none 0 0] 24)).trans (hB4.mono (Below.size (Below.alloc hk3 (Below.size hk3) (.cells #[.int .i64 0, .int .i64 0, .int .i64 0, .int .i64 0, .slice none 0 0] 24)))); obtain ⟨x0, x1, x2, x3, x4⟩ := HP.out _ hk4; (try (have q1 := zkeep z1 (Below.alloc (Below.refl w3.heap.size w3) (Below.size (Below.refl w3.heap.size w3)) (.cells #[.int .i64 0, .int .i64 0, .int .i64 0, .int .i64 0, .slice none 0 0] 24)) hB4)); (try (have q2 := zkeep z2 (Below.alloc (Below.refl w3.heap.size w3) (Below.size (Below.refl w3.heap.size w3)) (.cells #[.int .i64 0, .int .i64 0, .int .i64 0, .int .i64 0, .slice none 0 0] 24)) hB4)); have y1 := (hB4.block w3.heap.size (by simp <;> omega)).trans (heap_alloc_new w3 (.cells #[.int .i64 0, .int .i64 0, .int .i64 0, .int .i64 0, .slice none 0 0] 24)); (try (have zz := zcells q1; obtain ⟨⟨q10, q11, q12, q13, q14⟩, q1f0, q1f1, q1f2, q1f3, q1f4⟩ := zz)); (try (have zz := zcells q2; obtain ⟨⟨q20, q21, q22, q23, q24⟩, q2f0, q2f1, q2f2, q2f3, q2f4⟩ := zz)); (try (have zz := zcells y1; obtain ⟨⟨y10, y11, y12, y13, y14⟩, y1f0, y1f1, y1f2, y1f3, y1f4⟩ := zz)); (try (have zz := zcells y2; obtain ⟨⟨y20, y21, y22, y23, y24⟩, y2f0, y2f1, y2f2, y2f3, y2f4⟩ := zz)); have hne3 := hB3.size; have hne4 := hB4.size; (try simp only [World.size_alloc, World.size_drew] at hne3); (try simp only [World.size_alloc] at hne4); have h34 := (Below.alloc (Below.refl w3.heap.size w3) (Below.size (Below.refl w3.heap.size w3)) (.cells #[.int .i64 0, .int .i64 0, .int .i64 0, .int .i64 0, .slice none 0 0] 24)).trans (hB4.mono (Below.size (Below.alloc (Below.refl w3.heap.size w3) (Below.size (Below.refl w3.heap.size w3)) (.cells #[.int .i64 0, .int .i64 0, .int .i64 0, .int .i64 0, .slice none 0 0] 24)))); (try simp only [World.size_alloc] at hr4); have hk3s := hk3.size; have hk4s := hk4.size; have m1 : ¬ w3.heap.size = w.heap.size := (by omega); have m2 : ¬ w2.heap.size = w.heap.size := (by omega); have m3 : ¬ w4.heap.size = w.heap.size := (by omega); have m4 : ¬ w2.heap.size + 1 = w.heap.size := (by omega); have m5 : ¬ w3.heap.size + 1 = w.heap.size := (by omega); have m6 : ¬ w4.heap.size + 1 = w.heap.size := (by omega); have m7 : w.heap.size < w4.heap.size := (by omega); (try (have l1 : w3.heap.size < w4.heap.size := (by omega))); (try (have l2 : w3.heap.size + 1 < w4.heap.size := (by omega))); (try (have l3 : w2.heap.size < w4.heap.size := (by omega))); (try (have l4 : w2.heap.size + 1 < w4.heap.size := (by omega))); (try (have n1 : ¬ w3.heap.size = w4.heap.size := (by omega))); (try (have n2 : ¬ w2.heap.size = w4.heap.size := (by omega))); (try (have n3 : ¬ w2.heap.size = w3.heap.size := (by omega))))
            | (go_at_call 11; refine (HCP.out ((w3.alloc (.cells #[.int .i64 0, .int .i64 0, .int .i64 0, .int .i64 0, .slice none 0 0] 24)).alloc (.cells #[.int .i64 0, .int .i64 0, .int .i64 0, .int .i64 0, .slice none 0 0] 24)) (Below.alloc (Below.alloc hk3 (Below.size hk3) (.cells #[.int .i64 0, .int .i64 0, .int .i64 0, .int .i64 0, .slice none 0 0] 24)) (Below.size (Below.alloc hk3 (Below.size hk3) (.cells #[.int .i64 0, .int .i64 0, .int .i64 0, .int .i64 0, .slice none 0 0] 24))) (.cells #[.int .i64 0, .int .i64 0, .int .i64 0, .int .i64 0, .slice none 0 0] 24))).mono ?_; rintro e w4 ⟨v4, rfl, ⟨A4, c4, rfl, hc4, hr4⟩, hB4⟩; have hk4 := (Below.alloc (Below.alloc hk3 (Below.size hk3) (.cells #[.int .i64 0, .int .i64 0, .int .i64 0, .int .i64 0, .slice none 0 0] 24)) (Below.size (Below.alloc hk3 (Below.size hk3) (.cells #[.int .i64 0, .int .i64 0, .int .i64 0, .int .i64 0, .slice none 0 0] 24))) (.cells #[.int .i64 0, .int .i64 0, .int .i64 0, .int .i64 0, .slice none 0 0] 24)).trans (hB4.mono (Below.size (Below.alloc (Below.alloc hk3 (Below.size hk3) (.cells #[.int .i64 0, .int .i64 0, .int .i64 0, .int .i64 0, .slice none 0 0] 24)) (Below.size (Below.alloc hk3 (Below.size hk3) (.cells #[.int .i64 0, .int .i64 0, .int .i64 0, .int .i64 0, .slice none 0 0] 24))) (.cells #[.int .i64 0, .int .i64 0, .int .i64 0, .int .i64 0, .slice none 0 0] 24)))); obtain ⟨x0, x1, x2, x3, x4⟩ := HP.out _ hk4; (try (have q1 := zkeep z1 (Below.alloc (Below.alloc (Below.refl w3.heap.size w3) (Below.size (Below.refl w3.heap.size w3)) (.cells #[.int .i64 0, .int .i64 0, .int .i64 0, .int .i64 0, .slice none 0 0] 24)) (Below.size (Below.alloc (Below.refl w3.heap.size w3) (Below.size (Below.refl w3.heap.size w3)) (.cells #[.int .i64 0, .int .i64 0, .int .i64 0, .int .i64 0, .slice none 0 0] 24))) (.cells #[.int .i64 0, .int .i64 0, .int .i64 0, .int .i64 0, .slice none 0 0] 24)) hB4)); (try (have q2 := zkeep z2 (Below.alloc (Below.alloc (Below.refl w3.heap.size w3) (Below.size (Below.refl w3.heap.size w3)) (.cells #[.int .i64 0, .int .i64 0, .int .i64 0, .int .i64 0, .slice none 0 0] 24)) (Below.size (Below.alloc (Below.refl w3.heap.size w3) (Below.size (Below.refl w3.heap.size w3)) (.cells #[.int .i64 0, .int .i64 0, .int .i64 0, .int .i64 0, .slice none 0 0] 24))) (.cells #[.int .i64 0, .int .i64 0, .int .i64 0, .int .i64 0, .slice none 0 0] 24)) hB4)); have y1 := (hB4.block w3.heap.size (by simp <;> omega)).trans (znew1 w3 (.cells #[.int .i64 0, .int .i64 0, .int .i64 0, .int .i64 0, .slice none 0 0] 24) (.cells #[.int .i64 0, .int .i64 0, .int .i64 0, .int .i64 0, .slice none 0 0] 24)); have y2 := (hB4.block (w3.heap.size + 1) (by simp <;> omega)).trans (znew2 w3 (.cells #[.int .i64 0, .int .i64 0, .int .i64 0, .int .i64 0, .slice none 0 0] 24) (.cells #[.int .i64 0, .int .i64 0, .int .i64 0, .int .i64 0, .slice none 0 0] 24)); (try (have zz := zcells q1; obtain ⟨⟨q10, q11, q12, q13, q14⟩, q1f0, q1f1, q1f2, q1f3, q1f4⟩ := zz)); (try (have zz := zcells q2; obtain ⟨⟨q20, q21, q22, q23, q24⟩, q2f0, q2f1, q2f2, q2f3, q2f4⟩ := zz)); (try (have zz := zcells y1; obtain ⟨⟨y10, y11, y12, y13, y14⟩, y1f0, y1f1, y1f2, y1f3, y1f4⟩ := zz)); (try (have zz := zcells y2; obtain ⟨⟨y20, y21, y22, y23, y24⟩, y2f0, y2f1, y2f2, y2f3, y2f4⟩ := zz)); have hne3 := hB3.size; have hne4 := hB4.size; (try simp only [World.size_alloc, World.size_drew] at hne3); (try simp only [World.size_alloc] at hne4); have h34 := (Below.alloc (Below.alloc (Below.refl w3.heap.size w3) (Below.size (Below.refl w3.heap.size w3)) (.cells #[.int .i64 0, .int .i64 0, .int .i64 0, .int .i64 0, .slice none 0 0] 24)) (Below.size (Below.alloc (Below.refl w3.heap.size w3) (Below.size (Below.refl w3.heap.size w3)) (.cells #[.int .i64 0, .int .i64 0, .int .i64 0, .int .i64 0, .slice none 0 0] 24))) (.cells #[.int .i64 0, .int .i64 0, .int .i64 0, .int .i64 0, .slice none 0 0] 24)).trans (hB4.mono (Below.size (Below.alloc (Below.alloc (Below.refl w3.heap.size w3) (Below.size (Below.refl w3.heap.size w3)) (.cells #[.int .i64 0, .int .i64 0, .int .i64 0, .int .i64 0, .slice none 0 0] 24)) (Below.size (Below.alloc (Below.refl w3.heap.size w3) (Below.size (Below.refl w3.heap.size w3)) (.cells #[.int .i64 0, .int .i64 0, .int .i64 0, .int .i64 0, .slice none 0 0] 24))) (.cells #[.int .i64 0, .int .i64 0, .int .i64 0, .int .i64 0, .slice none 0 0] 24)))); (try simp only [World.size_alloc] at hr4); have hk3s := hk3.size; have hk4s := hk4.size; have m1 : ¬ w3.heap.size = w.heap.size := (by omega); have m2 : ¬ w2.heap.size = w.heap.size := (by omega); have m3 : ¬ w4.heap.size = w.heap.size := (by omega); have m4 : ¬ w2.heap.size + 1 = w.heap.size := (by omega); have m5 : ¬ w3.heap.size + 1 = w.heap.size := (by omega); have m6 : ¬ w4.heap.size + 1 = w.heap.size := (by omega); have m7 : w.heap.size < w4.heap.size := (by omega); (try (have l1 : w3.heap.size < w4.heap.size := (by omega))); (try (have l2 : w3.heap.size + 1 < w4.heap.size := (by omega))); (try (have l3 : w2.heap.size < w4.heap.size := (by omega))); (try (have l4 : w2.heap.size + 1 < w4.heap.size := (by omega))); (try (have n1 : ¬ w3.heap.size = w4.heap.size := (by omega))); (try (have n2 : ¬ w2.heap.size = w4.heap.size := (by omega))); (try (have n3 : ¬ w2.heap.size = w3.heap.size := (by omega))))
            | (go_at_call 11; refine (HCP.out w2.drew (Below.drew hk2)).mono ?_; rintro e w3 ⟨v3, rfl, ⟨A3, c3, rfl, hc3, hr3⟩, hB3⟩; have hk3 := (Below.drew hk2).trans (hB3.mono (Below.size (Below.drew hk2))); simp only [World.size_drew, World.size_alloc] at hr3; obtain ⟨x0, x1, x2, x3, x4⟩ := HP.out _ hk3)
            | (go_at_call 11; refine (HCP.out (w2.alloc (.cells #[.int .i64 0, .int .i64 0, .int .i64 0, .int .i64 0, .slice none 0 0] 24)).drew (Below.drew (Below.alloc hk2 (Below.size hk2) (.cells #[.int .i64 0, .int .i64 0, .int .i64 0, .int .i64 0, .slice none 0 0] 24)))).mono ?_; rintro e w3 ⟨v3, rfl, ⟨A3, c3, rfl, hc3, hr3⟩, hB3⟩; have hk3 := (Below.drew (Below.alloc hk2 (Below.size hk2) (.cells #[.int .i64 0, .int .i64 0, .int .i64 0, .int .i64 0, .slice none 0 0] 24))).trans (hB3.mono (Below.size (Below.drew (Below.alloc hk2 (Below.size hk2) (.cells #[.int .i64 0, .int .i64 0, .int .i64 0, .int .i64 0, .slice none 0 0] 24))))); simp only [World.size_drew, World.size_alloc] at hr3; obtain ⟨x0, x1, x2, x3, x4⟩ := HP.out _ hk3; have z1 := (hB3.block w2.heap.size (by simp <;> omega)).trans (heap_alloc_new w2 (.cells #[.int .i64 0, .int .i64 0, .int .i64 0, .int .i64 0, .slice none 0 0] 24)))
            | (go_at_call 11; refine (HCP.out ((w2.alloc (.cells #[.int .i64 0, .int .i64 0, .int .i64 0, .int .i64 0, .slice none 0 0] 24)).alloc (.cells #[.int .i64 0, .int .i64 0, .int .i64 0, .int .i64 0, .slice none 0 0] 24)).drew (Below.drew (Below.alloc (Below.alloc hk2 (Below.size hk2) (.cells #[.int .i64 0, .int .i64 0, .int .i64 0, .int .i64 0, .slice none 0 0] 24)) (Below.size (Below.alloc hk2 (Below.size hk2) (.cells #[.int .i64 0, .int .i64 0, .int .i64 0, .int .i64 0, .slice none 0 0] 24))) (.cells #[.int .i64 0, .int .i64 0, .int .i64 0, .int .i64 0, .slice none 0 0] 24)))).mono ?_; rintro e w3 ⟨v3, rfl, ⟨A3, c3, rfl, hc3, hr3⟩, hB3⟩; have hk3 := (Below.drew (Below.alloc (Below.alloc hk2 (Below.size hk2) (.cells #[.int .i64 0, .int .i64 0, .int .i64 0, .int .i64 0, .slice none 0 0] 24)) (Below.size (Below.alloc hk2 (Below.size hk2) (.cells #[.int .i64 0, .int .i64 0, .int .i64 0, .int .i64 0, .slice none 0 0] 24))) (.cells #[.int .i64 0, .int .i64 0, .int .i64 0, .int .i64 0, .slice none 0 0] 24))).trans (hB3.mono (Below.size (Below.drew (Below.alloc (Below.alloc hk2 (Below.size hk2) (.cells #[.int .i64 0, .int .i64 0, .int .i64 0, .int .i64 0, .slice none 0 0] 24)) (Below.size (Below.alloc hk2 (Below.size hk2) (.cells #[.int .i64 0, .int .i64 0, .int .i64 0, .int .i64 0, .slice none 0 0] 24))) (.cells #[.int .i64 0, .int .i64 0, .int .i64 0, .int .i64 0, .slice none 0 0] 24))))); simp only [World.size_drew, World.size_alloc] at hr3; obtain ⟨x0, x1, x2, x3, x4⟩ := HP.out _ hk3; have z1 := (hB3.block w2.heap.size (by simp <;> omega)).trans (znew1 w2 (.cells #[.int .i64 0, .int .i64 0, .int .i64 0, .int .i64 0, .slice none 0 0] 24) (.cells #[.int .i64 0, .int .i64 0, .int .i64 0, .int .i64 0, .slice none 0 0] 24)); have z2 := (hB3.block (w2.heap.size + 1) (by simp <;> omega)).trans (znew2 w2 (.cells #[.int .i64 0, .int .i64 0, .int .i64 0, .int .i64 0, .slice none 0 0] 24) (.cells #[.int .i64 0, .int .i64 0, .int .i64 0, .int .i64 0, .slice none 0 0] 24))))
        all_goals (
          go_wp2_with fail
          go_meet
          have hz2 := hk2.size
          clear hok hi hk HFP HUP HP HIP HLT HCP x0 x1 x2 x3 x4 hB3 hB4 hk3 hm2 hk0 hk1
          refine ⟨_, _, A3, c3, A4, c4, rfl, rfl, two_of hk4 h34 (by omega) (by omega) (by omega) hr3 hr4 hc3 hc4 (by omega) ?below ?box7 ?box8 ?keep ?thaw⟩
          case below =>
            clear hr3 hr4 h34 hk4
            repeat (first
              | (with_reducible exact Below.refl _ _)
              | (with_reducible refine Below.setCell ?_ ?_ _)
              | (with_reducible refine Below.alloc ?_ ?_ _)
              | (simp only [World.size_alloc, World.size_setCell]; omega)
              | omega)
          case box7 =>
            clear hr3 hr4 h34 hk4
            unfold PBox
            repeat (first
              | (with_reducible refine setZ ?_ _ _ _ _ _)
              | (with_reducible refine (heap_far _ _ _ _ ?_).trans ?_; · (simp only [ne_eq]; omega))
              | (with_reducible refine heap_eq _ _ _ ?_; · (simp only [World.size_alloc, World.size_setCell]))
              | (with_reducible refine (heap_old _ _ _ ?_).trans ?_; · (simp only [World.size_alloc, World.size_setCell]; omega))
              | (with_reducible assumption))
          case box8 =>
            clear hr3 hr4 h34 hk4
            unfold PBox
            repeat (first
              | (with_reducible refine setZ ?_ _ _ _ _ _)
              | (with_reducible refine (heap_far _ _ _ _ ?_).trans ?_; · (simp only [ne_eq]; omega))
              | (with_reducible refine heap_eq _ _ _ ?_; · (simp only [World.size_alloc, World.size_setCell]))
              | (with_reducible refine (heap_old _ _ _ ?_).trans ?_; · (simp only [World.size_alloc, World.size_setCell]; omega))
              | (with_reducible assumption))
          case keep =>
            clear hr3 hr4 h34 hk4
            intro b o h1 h2 h3
            have h2' := Ne.symm h2
            have h3' := Ne.symm h3
            have h4 : b < w4.heap.size + 1 := by omega
            simp only [World.cell?_setCell_far, World.cell?_alloc_lt, World.size_alloc, World.size_setCell, h1, h2', h3', h4, ne_eq, not_false_eq_true]
          case thaw =>
            clear hr3 hr4 h34 hk4
            intro b o h1
            have h4 : b < w4.heap.size + 1 := by omega
            simp only [World.frozen?_setCell, World.frozen?_alloc_past, World.size_alloc, World.size_setCell, h1, h4])
      case rest =>
        obtain ⟨g7, g8, A3, c3, A4, c4, rfl, rfl, htwo⟩ := hcut
        obtain ⟨hkc, h7, h8, hc3, hc4, hg7, hg8, hg78, S3, S4, hr3, hr4, hS3, hT3, hS4⟩ := htwo
        clear x0 x1 x2 x3 x4 hk2 hB2
        obtain ⟨x0, x1, x2, x3, x4⟩ := HP.out _ hkc
        obtain ⟨y0, y1, y2, y3, y4⟩ := h7.cells
        have hnz : ((p.devs.length : Int) == 0) = false := beq_false_of_ne (by omega)
        have hm := Int.tmod_lt_of_pos i (show (0 : Int) < p.devs.length by omega)
        have hm' := Int.lt_tmod_of_pos i (show (0 : Int) < p.devs.length by omega)
        have hm2 := Int.tmod_lt_of_pos (i.tmod p.devs.length + p.devs.length) (show (0 : Int) < p.devs.length by omega)
        have hm3 := Int.tmod_nonneg (a := i.tmod p.devs.length + p.devs.length) (p.devs.length : Int) (by omega)
        go_wp2_with fail
        go_region
        generalize hri : (i.tmod ↑p.devs.length + ↑p.devs.length) % ↑p.devs.length = ri at *
        have hri0 : 0 ≤ ri := by rw [← hri]; exact Int.emod_nonneg _ (by omega)
        have hri1 : ri < p.devs.length := by rw [← hri]; exact Int.emod_lt_of_pos _ (by omega)
        clear hri hm hm' hm2 hm3 hnz hi
        obtain ⟨r, rfl⟩ := Int.eq_ofNat_of_zero_le hri0
        have hr : r < p.devs.length := by omega
        have hisC : IsPool wc S3 (.agg #[.int .i64 p.tx, .int .i64 p.time, .int .i64 p.unit, .int .i64 p.data, .slice A3 p.devs.length c3]) p := ⟨A3, c3, rfl, hc3, hr3⟩
        have hisD : IsPool wc S4 (.agg #[.int .i64 p.tx, .int .i64 p.time, .int .i64 p.unit, .int .i64 p.data, .slice A4 p.devs.length c4]) p := ⟨A4, c4, rfl, hc4, hr4⟩
        have hisP := HIP.out _ hkc
        obtain ⟨b3, o3, rfl, hb3, hcl3⟩ := devs_cells hr3 (by omega)
        obtain ⟨e0, e1, e2, e3, M3, mc3, e4, hmc3, hmr3⟩ := hcl3 r hr
        obtain ⟨A', cc, hA, _, hrP⟩ := hisP
        simp at hA
        obtain ⟨rfl, rfl⟩ := hA
        obtain ⟨bP, oP, rfl, hbP, hclP⟩ := devs_cells hrP (by omega)
        obtain ⟨_, _, _, _, MP, mcP, eP, hmcP, hmrP⟩ := hclP r hr
        have hlt0 : w.heap.size < w1.heap.size := by omega
        obtain ⟨s1, s2, s3, s4, s5⟩ := hS3 _ hb3
        have hT := hT3 _ hb3
        have hf0 := hT (o3 + r * 5 + 2)
        have hnb : (nth dev0 p.devs r).ok := hok.dev hr
        have hml := hpm r hr
        have hxm := xor_one _ hnb.2.2.1
        have hap := fun q n0 y hq hSq hne W hW hB => apart_store (w := w) (w1 := w1) (W := W) (q := q) (n0 := n0) (y := y) (c := c) hok hpn hlt0 hkc h7 h8 hS3 hS4 hisC hisD (HIP.out _ hkc) hq hSq hne hW hB
        have HAP := Lib.hid hap
        clear hap hcl3 hclP hrP
        by_cases hm0 : (nth dev0 p.devs r).maps.length = 0
        · have hq := HAP.out ⟨b3, o3 + r * 5 + 2, none⟩ (nth dev0 p.devs r).made (bits .xor .i64 (nth dev0 p.devs r).made 1) e2 hb3 (fun p2 hp2 => made_ne hp2 rfl hr (World.cell?_setCell_same _ _ _ e2) hxm.2) (wc.setCell ⟨b3, o3 + r * 5 + 2, none⟩ (.int .i64 (bits .xor .i64 (nth dev0 p.devs r).made 1))).drew rfl ((hkc.setCell (p := ⟨b3, o3 + r * 5 + 2, none⟩) s1 _).drew)
          have hkW := ((hkc.setCell (p := ⟨b3, o3 + r * 5 + 2, none⟩) s1 (.int .i64 (bits .xor .i64 (nth dev0 p.devs r).made 1))).drew)
          dsimp only [poolV] at hq
          have HQ := Lib.hid hq
          have HKW := Lib.hid hkW
          rw [hm0] at e4 eP
          clear hq hkW hxm hnb hml hmc3 hmcP hmr3 hmrP HAP hisC hisD h7 h8 hok
          generalize (nth dev0 p.devs r).made = made at *
          go_wp2_with (first
            | (go_at_call 12; refine (HQ.out.2.2.1 _ kk6).mono ?_; rintro e w7 ⟨rfl, hB7⟩; have kk7 := kk6.trans (hB7.mono kk6.size); have hk7 := HKW.out.trans (kk7.mono HKW.out.size))
            | (go_at_call 12; refine (HQ.out.2.1 _ kk5).mono ?_; rintro e w6 ⟨rfl, hB6⟩; have kk6 := kk5.trans (hB6.mono kk5.size); have hk6 := HKW.out.trans (kk6.mono HKW.out.size); obtain ⟨x0, x1, x2, x3, x4⟩ := HP.out _ hk6)
            | (go_at_call 12; refine (HQ.out.1).mono ?_; rintro e w5 ⟨rfl, hB5⟩; have kk5 := hB5; have hk5 := HKW.out.trans (kk5.mono HKW.out.size); clear x0 x1 x2 x3 x4; obtain ⟨x0, x1, x2, x3, x4⟩ := HP.out _ hk5; obtain ⟨d0, d1, d2, d3, d4⟩ := (HQ.out.2.2.2.2.below kk5 HQ.out.2.2.2.2.lt).cells)
            | (go_at_call 7; refine (lives18 _).mono ?_; rintro e w8 ⟨rfl, hB8⟩; have hk8 := hk7.trans (hB8.mono hk7.size)))
          go_ret
          exact ⟨rfl, HUP.out _ hk8⟩
        · obtain ⟨bm, om, rfl, hbm, hclm⟩ := maps_cells hmr3 (by omega)
          have hnz : (((nth dev0 p.devs r).maps.length : Int) == 0) = false := beq_false_of_ne (by omega)
          have hm := Int.tmod_lt_of_pos k (show (0 : Int) < (nth dev0 p.devs r).maps.length by omega)
          have hm' := Int.lt_tmod_of_pos k (show (0 : Int) < (nth dev0 p.devs r).maps.length by omega)
          have hj0 := Int.emod_nonneg (k.tmod (nth dev0 p.devs r).maps.length + (nth dev0 p.devs r).maps.length) (show ((nth dev0 p.devs r).maps.length : Int) ≠ 0 by omega)
          have hj1 := Int.emod_lt_of_pos (k.tmod (nth dev0 p.devs r).maps.length + (nth dev0 p.devs r).maps.length) (show (0 : Int) < (nth dev0 p.devs r).maps.length by omega)
          obtain ⟨j, hj⟩ := Int.eq_ofNat_of_zero_le hj0
          rw [hj] at hj1
          have hjl : j < (nth dev0 p.devs r).maps.length := by omega
          obtain ⟨_, _, em⟩ := hclm j hjl
          obtain ⟨t1, t2, t3, t4, t5⟩ := hS3 _ hbm
          have hfm := hT3 _ hbm (om + j * 3 + 2)
          have hxt := xor_one _ (hnb.2.2.2.2.1 _ (nth_mem mp0 _ j hjl)).2.2
          have hq := HAP.out ⟨bm, om + j * 3 + 2, none⟩ (nth mp0 (nth dev0 p.devs r).maps j).t (bits .xor .i64 (nth mp0 (nth dev0 p.devs r).maps j).t 1) em hbm (fun p2 hp2 => t_ne hp2 rfl hr (sl_after em e4) hjl (World.cell?_setCell_same _ _ _ em) hxt.2) (wc.setCell ⟨bm, om + j * 3 + 2, none⟩ (.int .i64 (bits .xor .i64 (nth mp0 (nth dev0 p.devs r).maps j).t 1))).drew.drew rfl ((hkc.setCell (p := ⟨bm, om + j * 3 + 2, none⟩) t1 _).drew.drew)
          have hkW := ((hkc.setCell (p := ⟨bm, om + j * 3 + 2, none⟩) t1 (.int .i64 (bits .xor .i64 (nth mp0 (nth dev0 p.devs r).maps j).t 1))).drew.drew)
          dsimp only [poolV] at hq
          have HQ := Lib.hid hq
          have HKW := Lib.hid hkW
          clear hq hkW hxm hxt hnb hmcP hmr3 hmrP HAP hisC hisD h7 h8 hok hclm
          generalize (nth mp0 (nth dev0 p.devs r).maps j).t = tt at *
          generalize (nth dev0 p.devs r).maps.length = ml at *
          go_wp2_with fail
          go_region
          clear hj
          go_wp2_with (first
            | (go_at_call 12; refine (HQ.out.2.2.1 _ kk6).mono ?_; rintro e w7 ⟨rfl, hB7⟩; have kk7 := kk6.trans (hB7.mono kk6.size); have hk7 := HKW.out.trans (kk7.mono HKW.out.size))
            | (go_at_call 12; refine (HQ.out.2.1 _ kk5).mono ?_; rintro e w6 ⟨rfl, hB6⟩; have kk6 := kk5.trans (hB6.mono kk5.size); have hk6 := HKW.out.trans (kk6.mono HKW.out.size); obtain ⟨x0, x1, x2, x3, x4⟩ := HP.out _ hk6)
            | (go_at_call 12; refine (HQ.out.1).mono ?_; rintro e w5 ⟨rfl, hB5⟩; have kk5 := hB5; have hk5 := HKW.out.trans (kk5.mono HKW.out.size); clear x0 x1 x2 x3 x4; obtain ⟨x0, x1, x2, x3, x4⟩ := HP.out _ hk5; obtain ⟨d0, d1, d2, d3, d4⟩ := (HQ.out.2.2.2.2.below kk5 HQ.out.2.2.2.2.lt).cells)
            | (go_at_call 7; refine (lives18 _).mono ?_; rintro e w8 ⟨rfl, hB8⟩; have hk8 := hk7.trans (hB8.mono hk7.size)))
          go_ret
          exact ⟨rfl, HUP.out _ hk8⟩
  · have hf1 : fewN p = 0 := by unfold fewN; rw [if_neg hf]
    rw [hf1] at HFP
    clear hf hf1 hIP hlt
    go_enter Try.func4, Try.ntmps4
    go_wp2_with (first
      | (go_at_call 6; refine (HFP.out _ hk0).mono ?_; rintro e w2 ⟨rfl, hB2⟩; have hk2 := hk0.trans (hB2.mono hk0.size); obtain ⟨x0, x1, x2, x3, x4⟩ := HP.out _ hk2)
      | (go_at_call 7; refine (lives18 _).mono ?_; rintro e w5 ⟨rfl, hB5⟩; have hk5 := hk2.trans (hB5.mono hk2.size)))
    go_ret
    exact ⟨rfl, HUP.out _ hk5⟩
end Go.Proofs.Ytlanffolgkpmkaa
