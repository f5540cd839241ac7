import Derived.Test.YtjeeheeaickokaaJn1
import Derived.Test.YtjeeheeaickokaaJn2
import Derived.Test.YtjeeheeaickokaaWSameM
import Derived.Test.YtjeeheeaickokaaPBox
import Derived.Test.YtjeeheeaickokaaWPoolRefs
import Derived.Deep.RegionHeld3
import Derived.Test.YtjeeheeaickokaaMap
import Derived.Deep.Slices
import Derived.Deep.Fields
import Derived.ChangeSame
import Derived.SizedLaws
import Derived.OpenShut
import Derived.Test.YtjeeheeaickokaaProg
import Derived.Test.YtjeeheeaickokaaPool
import Derived.Test.YtjeeheeaickokaaModelP
set_option linter.unusedVariables false
set_option linter.unusedSimpArgs false
/- model.Run: ops one after the other. Condition: the numbers fit into Go's int. -/
namespace Go.Proofs.Ytjeeheeaickokaa
open Go.RowKit
attribute [local go_sem] Oper.semAt_some

abbrev IsOps (w : World) (S : Nat → Prop) (v : Value) (l : List Mop) : Prop := IsSl (Flat Mop.enc) 4 mop0 w S v l
theorem ops_cells {w : World} {S : Nat → Prop} {A : Option Addr} {l : List Mop} (h : RowOf (Flat Mop.enc) 4 mop0 w S A l) (hl : 0 < l.length) :
    ∃ b off, A = some ⟨b, off, none⟩ ∧ S b ∧ ∀ k, k < l.length → w.cell? ⟨b, off + k * 4, none⟩ = some (.int .i64 (nth mop0 l k).kind) ∧ w.cell? ⟨b, off + k * 4 + 1, none⟩ = some (.int .i64 (nth mop0 l k).dev) ∧ w.cell? ⟨b, off + k * 4 + 2, none⟩ = some (.int .i64 (nth mop0 l k).arg) ∧ w.cell? ⟨b, off + k * 4 + 3, none⟩ = some (.int .i64 (nth mop0 l k).n) := by
  obtain ⟨b, off, e, hb, hc⟩ := h hl
  refine ⟨b, off, e, hb, fun k hk => ?_⟩
  obtain ⟨cs, _, hr, h3⟩ := hc k hk
  obtain rfl : cs = _ := hr
  exact ⟨h3 0 _ rfl, h3 1 _ rfl, h3 2 _ rfl, h3 3 _ rfl⟩
def RunIs (w : World) (r : Pool × Nat × Int) (e : Ending) (w' : World) : Prop := ∃ v', e = .returned (.tuple #[v', .int .i64 (r.2.1 : Nat), .int .i64 r.2.2]) ∧ IsPool w' (Btw w.heap.size w'.heap.size) v' r.1 ∧ Below w.heap.size w w'
set_option maxRecDepth 100000 in
set_option maxHeartbeats 3200000 in
theorem run_bad (w : World) (S : Nat → Prop) (v vl : Value) (p : Pool) (l : List Mop) (hS : ∀ b, S b → b < w.heap.size) (h : IsPool w S v p) (hok : p.ok) (hc : poolChk p ≠ 0) :
    Calls Try.prog 7 #[v, vl] w (RunIs w (runF p l)) := by
  have hr : runF p l = (pool0, 0, poolChk p) := by unfold runF; rw [if_pos hc]
  rw [hr]
  have HCK := Lib.hid (fun w' (hB : Below w.heap.size w w') => check_any w' S v p (fun b hb => Nat.lt_of_lt_of_le (hS b hb) hB.size) (h.below hB hS) hok)
  obtain ⟨A, c, rfl, _, _⟩ := h
  have hB3 : Below w.heap.size w ((w.alloc (poolBox p A p.devs.length c)).alloc zeroBox) := ((Below.refl _ _).alloc (Nat.le_refl _) _).alloc (by simp) _
  have hr3 : RBox ((w.alloc (poolBox p A p.devs.length c)).alloc zeroBox) (w.heap.size + 1) (.int .i64 0) (.int .i64 0) (.int .i64 0) (.int .i64 0) (.slice none 0 0) := by
    have := heap_alloc_new (w.alloc (poolBox p A p.devs.length c)) zeroBox
    simp only [World.size_alloc] at this
    exact this
  have HR := Lib.hid (fun w' (hB : Below (w.heap.size + 2) ((w.alloc (poolBox p A p.devs.length c)).alloc zeroBox) w') => hr3.below hB (by omega))
  have HB3 := Lib.hid hB3
  have hzs : ((w.alloc (poolBox p A p.devs.length c)).alloc zeroBox).heap.size = w.heap.size + 2 := by simp
  have HZS := Lib.hid hzs
  clear hr3 hB3 hzs
  generalize poolChk p = fe at *
  have hf2 : (fe == 0) = false := by simpa using hc
  have hf3 : (fe != 0) = true := by simpa using hc
  dsimp only [poolBox, zeroBox] at HB3 HR HZS
  go_enter Try.func7, Try.ntmps7
  go_wp2_with (go_at_call 13; refine (HCK.out _ HB3.out).mono ?_; rintro e w4 ⟨rfl, hB4⟩; rw [HZS.out] at hB4; have hr4 := HR.out _ hB4; obtain ⟨x0, x1, x2, x3, x4⟩ := hr4.cells; have f0 := hr4.free 0; have f1 := hr4.free 1; have f2 := hr4.free 2; have f3 := hr4.free 3; have f4 := hr4.free 4)
  obtain ⟨q0, q1, q2, q3, q4⟩ := cells5 (set5 hr4 (.int .i64 0) (.int .i64 0) (.int .i64 0) (.int .i64 0) (.slice none 0 0))
  have hB4' : Below w.heap.size w w4 := HB3.out.trans (hB4.mono (by omega))
  refine bodyPost_ret (v := .tuple #[.agg #[.int .i64 0, .int .i64 0, .int .i64 0, .int .i64 0, .slice none 0 0], .int .i64 0, .int .i64 fe]) (by simp [results, Try.results7, go_sem, q0, q1, q2, q3, q4]) rfl ?_
  exact ⟨_, rfl, pool0_at _ _, below5 hB4' (by omega) _ _ _ _ _⟩
theorem size5_block (w : World) (b x : Nat) (hx : x ≠ b) (u0 u1 u2 u3 u4 : Value) : (((((w.setCell ⟨b, 0, none⟩ u0).setCell ⟨b, 1, none⟩ u1).setCell ⟨b, 2, none⟩ u2).setCell ⟨b, 3, none⟩ u3).setCell ⟨b, 4, none⟩ u4).heap[x]? = w.heap[x]? :=
  (Below.heap_setCell _ ⟨b, 4, none⟩ _ x hx).trans ((Below.heap_setCell _ ⟨b, 3, none⟩ _ x hx).trans ((Below.heap_setCell _ ⟨b, 2, none⟩ _ x hx).trans ((Below.heap_setCell _ ⟨b, 1, none⟩ _ x hx).trans (Below.heap_setCell w ⟨b, 0, none⟩ _ x hx))))
/-- The pool's box is stored anew, and a block is made. -/
theorem rst_next {w w5 : World} {p' q : Pool} {A' A5 : Option Addr} {c' c5 n' : Nat} (o : Obj) (hB : Below w.heap.size w w5) (hz : w.heap.size + 2 ≤ w5.heap.size) (hP : PBox w5 w.heap.size p' A' n' c') (hR : RBox w5 (w.heap.size + 1) (.int .i64 0) (.int .i64 0) (.int .i64 0) (.int .i64 0) (.slice none 0 0))
    (hI : IsPool w5 (Btw (w.heap.size + 2) w5.heap.size) (.agg #[.int .i64 q.tx, .int .i64 q.time, .int .i64 q.unit, .int .i64 q.data, .slice A5 q.devs.length c5]) q) (W : World)
    (hW : W = ((((((w5.setCell ⟨w.heap.size, 0, none⟩ (.int .i64 q.tx)).setCell ⟨w.heap.size, 1, none⟩ (.int .i64 q.time)).setCell ⟨w.heap.size, 2, none⟩ (.int .i64 q.unit)).setCell ⟨w.heap.size, 3, none⟩ (.int .i64 q.data)).setCell ⟨w.heap.size, 4, none⟩ (.slice A5 q.devs.length c5)).alloc o)) :
    PBox W w.heap.size q A5 q.devs.length c5 ∧ RBox W (w.heap.size + 1) (.int .i64 0) (.int .i64 0) (.int .i64 0) (.int .i64 0) (.slice none 0 0) ∧ IsPool W (Btw (w.heap.size + 2) W.heap.size) (.agg #[.int .i64 q.tx, .int .i64 q.time, .int .i64 q.unit, .int .i64 q.data, .slice A5 q.devs.length c5]) q ∧ Below w.heap.size w W ∧ w.heap.size + 2 ≤ W.heap.size := by
  have hs := size5 w5 w.heap.size (.int .i64 q.tx) (.int .i64 q.time) (.int .i64 q.unit) (.int .i64 q.data) (.slice A5 q.devs.length c5)
  have hb := below5 hB (Nat.le_refl w.heap.size) (.int .i64 q.tx) (.int .i64 q.time) (.int .i64 q.unit) (.int .i64 q.data) (.slice A5 q.devs.length c5)
  have h1 := set5 hP (.int .i64 q.tx) (.int .i64 q.time) (.int .i64 q.unit) (.int .i64 q.data) (.slice A5 q.devs.length c5)
  have h2 := (size5_block w5 w.heap.size (w.heap.size + 1) (by omega) (.int .i64 q.tx) (.int .i64 q.time) (.int .i64 q.unit) (.int .i64 q.data) (.slice A5 q.devs.length c5)).trans hR
  have h3 := pool_keep hI (fun b hb => hb) (keep5 (b := w.heap.size) (fun hb => by have := hb.1; omega) (.int .i64 q.tx) (.int .i64 q.time) (.int .i64 q.unit) (.int .i64 q.data) (.slice A5 q.devs.length c5))
  obtain ⟨X, hX⟩ : ∃ X, (((((w5.setCell ⟨w.heap.size, 0, none⟩ (.int .i64 q.tx)).setCell ⟨w.heap.size, 1, none⟩ (.int .i64 q.time)).setCell ⟨w.heap.size, 2, none⟩ (.int .i64 q.unit)).setCell ⟨w.heap.size, 3, none⟩ (.int .i64 q.data)).setCell ⟨w.heap.size, 4, none⟩ (.slice A5 q.devs.length c5)) = X := ⟨_, rfl⟩
  rw [hX] at hs hb h1 h2 h3 hW
  subst hW
  have hal : Below X.heap.size X (X.alloc o) := (Below.refl _ _).alloc (Nat.le_refl _) _
  refine ⟨(hal.block _ (by omega)).trans h1, (hal.block _ (by omega)).trans h2, pool_keep (h3.below hal (fun b hb => by have := hb.2; omega)) (fun b hb => ⟨hb.1, by have := hb.2; simp; omega⟩) Keep.refl, hb.alloc (by omega) _, by simp; omega⟩
theorem runFrom_stop {p : Pool} {i : Nat} {l : List Mop} {k : Nat} (hk : k < l.length) (h : (applyF p (nth mop0 l k)).1 ≠ 0) : runFrom p i (l.drop k) = (p, i, (applyF p (nth mop0 l k)).1) := by
  rw [drop_nth mop0 l k hk]
  simp only [runFrom]
  rw [if_pos h]
theorem runFrom_next {p : Pool} {i : Nat} {l : List Mop} {k : Nat} (hk : k < l.length) (h : (applyF p (nth mop0 l k)).1 = 0) : runFrom p i (l.drop k) = runFrom (applyF p (nth mop0 l k)).2 (i + 1) (l.drop (k + 1)) := by
  rw [drop_nth mop0 l k hk]
  simp only [runFrom]
  rw [if_neg (by simpa using h)]
set_option maxRecDepth 100000 in
set_option maxHeartbeats 6400000 in
theorem run_good (w : World) (S : Nat → Prop) (v vl : Value) (p : Pool) (l : List Mop) (hS : ∀ b, S b → b < w.heap.size) (h : IsPool w S v p) (hl : IsOps w S vl l) (hln : l.length ≤ 281474976710656) (hc : poolChk p = 0) :
    Calls Try.prog 7 #[v, vl] w (RunIs w (runF p l)) := by
  have hok := fit_ok (fit_iff.1 hc)
  have hr : runF p l = runFrom p 0 l := by unfold runF; rw [if_neg (by simpa using hc)]
  rw [hr]
  generalize hrr : runFrom p 0 l = r at *
  have HRR := Lib.hid hrr
  clear hrr hr
  have HCK := Lib.hid (fun w' (hB : Below w.heap.size w w') => check_any w' S v p (fun b hb => Nat.lt_of_lt_of_le (hS b hb) hB.size) (h.below hB hS) hok)
  rw [hc] at HCK
  have hpl := pool_len hc
  have HCP := Lib.hid (fun w' (hB : Below w.heap.size w w') => copy_own w' S v p (fun b hb => Nat.lt_of_lt_of_le (hS b hb) hB.size) (h.below hB hS) (by omega) (fun k hk => by have := maps_len hc hk; omega))
  obtain ⟨Al, cl, rfl, hcl, hlr⟩ := hl
  have HL := Lib.hid (fun w' (hB : Below w.heap.size w w') (h0 : 0 < l.length) => ops_cells (hlr.keep (flat_stable _) (fun _ h => h) (keep_below hB hS)) h0)
  obtain ⟨A, c, rfl, _, _⟩ := h
  have hB3 : Below w.heap.size w ((w.alloc (poolBox p A p.devs.length c)).alloc zeroBox) := ((Below.refl _ _).alloc (Nat.le_refl _) _).alloc (by simp) _
  have hr3 : RBox ((w.alloc (poolBox p A p.devs.length c)).alloc zeroBox) (w.heap.size + 1) (.int .i64 0) (.int .i64 0) (.int .i64 0) (.int .i64 0) (.slice none 0 0) := by
    have := heap_alloc_new (w.alloc (poolBox p A p.devs.length c)) zeroBox
    simp only [World.size_alloc] at this
    exact this
  have hp3 : PBox ((w.alloc (poolBox p A p.devs.length c)).alloc zeroBox) w.heap.size p A p.devs.length c := (PBox.new w p A p.devs.length c).below ((Below.refl _ _).alloc (Nat.le_refl _) _) (by simp)
  have HR := Lib.hid (fun w' (hB : Below (w.heap.size + 2) ((w.alloc (poolBox p A p.devs.length c)).alloc zeroBox) w') => (⟨hr3.below hB (by omega), hp3.below hB (by omega)⟩ : RBox w' (w.heap.size + 1) (.int .i64 0) (.int .i64 0) (.int .i64 0) (.int .i64 0) (.slice none 0 0) ∧ PBox w' w.heap.size p A p.devs.length c))
  have HB3 := Lib.hid hB3
  have hzs : ((w.alloc (poolBox p A p.devs.length c)).alloc zeroBox).heap.size = w.heap.size + 2 := by simp
  have HZS := Lib.hid hzs
  have HFIT := Lib.hid (fit_iff.1 hc)
  clear hr3 hp3 hB3 hzs hlr hok hS hc hpl
  generalize hn : l.length = n at *
  have HN := Lib.hid hn
  clear hn
  dsimp only [poolBox, zeroBox] at HB3 HR HZS
  go_enter Try.func7, Try.ntmps7
  go_wp2_with (first
    | (go_at_call 13; refine (HCK.out _ HB3.out).mono ?_; rintro e w4 ⟨rfl, hB4⟩; rw [HZS.out] at hB4; have hB4' : Below w.heap.size w w4 := HB3.out.trans (hB4.mono (by omega)); obtain ⟨r4, p4⟩ := HR.out _ hB4; obtain ⟨x0, x1, x2, x3, x4⟩ := p4.cells; have hz4 := hB4.size; rw [HZS.out] at hz4)
    | (go_at_call 14; refine (HCP.out _ hB4').mono ?_; rintro e w6 ⟨A6, c6, M6, rfl, ho6, hB6⟩; clear x0 x1 x2 x3 x4; have hk6 := hB4'.trans (hB6.mono (by omega)); obtain ⟨r6, p6⟩ := HR.out _ (hB4.trans (hB6.mono hz4)); obtain ⟨x0, x1, x2, x3, x4⟩ := p6.cells; have hz6 := hB6.size; have f0 := p6.free 0; have f1 := p6.free 1; have f2 := p6.free 2; have f3 := p6.free 3; have f4 := p6.free 4))
  have hS0 : ∃ (p' : Pool) (A' : Option Addr) (c' : Nat), PBox (((((w6.setCell ⟨w.heap.size, 0, none⟩ (.int .i64 p.tx)).setCell ⟨w.heap.size, 1, none⟩ (.int .i64 p.time)).setCell ⟨w.heap.size, 2, none⟩ (.int .i64 p.unit)).setCell ⟨w.heap.size, 3, none⟩ (.int .i64 p.data)).setCell ⟨w.heap.size, 4, none⟩ (.slice A6 p.devs.length c6)) w.heap.size p' A' p'.devs.length c' ∧
      RBox (((((w6.setCell ⟨w.heap.size, 0, none⟩ (.int .i64 p.tx)).setCell ⟨w.heap.size, 1, none⟩ (.int .i64 p.time)).setCell ⟨w.heap.size, 2, none⟩ (.int .i64 p.unit)).setCell ⟨w.heap.size, 3, none⟩ (.int .i64 p.data)).setCell ⟨w.heap.size, 4, none⟩ (.slice A6 p.devs.length c6)) (w.heap.size + 1) (.int .i64 0) (.int .i64 0) (.int .i64 0) (.int .i64 0) (.slice none 0 0) ∧
      IsPool (((((w6.setCell ⟨w.heap.size, 0, none⟩ (.int .i64 p.tx)).setCell ⟨w.heap.size, 1, none⟩ (.int .i64 p.time)).setCell ⟨w.heap.size, 2, none⟩ (.int .i64 p.unit)).setCell ⟨w.heap.size, 3, none⟩ (.int .i64 p.data)).setCell ⟨w.heap.size, 4, none⟩ (.slice A6 p.devs.length c6)) (Btw (w.heap.size + 2) (((((w6.setCell ⟨w.heap.size, 0, none⟩ (.int .i64 p.tx)).setCell ⟨w.heap.size, 1, none⟩ (.int .i64 p.time)).setCell ⟨w.heap.size, 2, none⟩ (.int .i64 p.unit)).setCell ⟨w.heap.size, 3, none⟩ (.int .i64 p.data)).setCell ⟨w.heap.size, 4, none⟩ (.slice A6 p.devs.length c6)).heap.size) (.agg #[.int .i64 p'.tx, .int .i64 p'.time, .int .i64 p'.unit, .int .i64 p'.data, .slice A' p'.devs.length c']) p' ∧
      PoolFit p' ∧ Hid (runFrom p 0 l = runFrom p' 0 (l.drop 0)) := by
    refine ⟨p, A6, c6, set5 p6 _ _ _ _ _, ?_, ?_, HFIT.out, Lib.hid (by simp)⟩
    · exact (size5_block w6 w.heap.size (w.heap.size + 1) (by omega) _ _ _ _ _).trans r6
    · refine pool_keep (OwnP.isp ho6) (fun b hb => ⟨by have := hb.1; omega, by have := hb.2; rw [size5]; omega⟩) (keep5 (fun hb => by have := hb.1; omega) _ _ _ _ _)
  have hbs := below5 hk6 (Nat.le_refl w.heap.size) (.int .i64 p.tx) (.int .i64 p.time) (.int .i64 p.unit) (.int .i64 p.data) (.slice A6 p.devs.length c6)
  have hzs := size5 w6 w.heap.size (.int .i64 p.tx) (.int .i64 p.time) (.int .i64 p.unit) (.int .i64 p.data) (.slice A6 p.devs.length c6)
  obtain ⟨W, hW⟩ : ∃ W, (((((w6.setCell ⟨w.heap.size, 0, none⟩ (.int .i64 p.tx)).setCell ⟨w.heap.size, 1, none⟩ (.int .i64 p.time)).setCell ⟨w.heap.size, 2, none⟩ (.int .i64 p.unit)).setCell ⟨w.heap.size, 3, none⟩ (.int .i64 p.data)).setCell ⟨w.heap.size, 4, none⟩ (.slice A6 p.devs.length c6)) = W := ⟨_, rfl⟩
  rw [hW] at hS0 hbs hzs ⊢
  have hWz : w.heap.size + 2 ≤ W.heap.size := by omega
  clear hW hzs x0 x1 x2 x3 x4 f0 f1 f2 f3 f4 ho6 hB6 hk6 r6 p6 hz6 hB4 hB4' r4 p4 hz4 HCK HCP HB3 HZS HR
  have HS0 := Lib.hid hS0
  clear hS0
  go_loopw [22] (fun i wr => ∃ (k : Nat) (p' : Pool) (A' : Option Addr) (c' : Nat), k ≤ n ∧ i = .int .i64 k ∧ PBox wr w.heap.size p' A' p'.devs.length c' ∧ RBox wr (w.heap.size + 1) (.int .i64 0) (.int .i64 0) (.int .i64 0) (.int .i64 0) (.slice none 0 0) ∧ IsPool wr (Btw (w.heap.size + 2) wr.heap.size) (.agg #[.int .i64 p'.tx, .int .i64 p'.time, .int .i64 p'.unit, .int .i64 p'.data, .slice A' p'.devs.length c']) p' ∧ PoolFit p' ∧ Below w.heap.size w wr ∧ w.heap.size + 2 ≤ wr.heap.size ∧ Hid (runFrom p 0 l = runFrom p' k (l.drop k))) (fun i _ => n - (intOf i).toNat)
  case atStart =>
    obtain ⟨p', A', c', s1, s2, s3, s4, s5⟩ := HS0.out
    exact ⟨0, p', A', c', by omega, rfl, s1, s2, s3, s4, hbs, hWz, s5⟩
  case round =>
    obtain ⟨k, p', A', c', hk, rfl, hP, hR, hI, hF, hB, hz, HRU⟩ := hrel
    obtain ⟨x0, x1, x2, x3, x4⟩ := hP.cells
    have hpl := hP.lt
    have hrl : w.heap.size + 1 < wr.heap.size := by omega
    by_cases hlt : k < n
    · obtain ⟨b, off, rfl, hbS, hcl⟩ := HL.out wr hB (by omega)
      obtain ⟨y0, y1, y2, y3⟩ := hcl k hlt
      clear hcl
      have hkl : k < l.length := by rw [HN.out]; exact hlt
      have hstp := fun h => runFrom_stop (p := p') (i := k) hkl h
      have hnxt := fun h => runFrom_next (p := p') (i := k) hkl h
      have HSTP := Lib.hid hstp
      have HNXT := Lib.hid hnxt
      clear hstp hnxt
      have HAP := Lib.hid (apply_any (wr.alloc (.cells #[.int .i64 (nth mop0 l k).kind, .int .i64 (nth mop0 l k).dev, .int .i64 (nth mop0 l k).arg, .int .i64 (nth mop0 l k).n] 32)) (Btw (w.heap.size + 2) wr.heap.size) _ p' (nth mop0 l k) (fun b hb => by have := hb.2; simp; omega) (hI.below ((Below.refl _ _).alloc (Nat.le_refl _) _) (fun b hb => hb.2)) (fit_ok hF))
      have HFQ := Lib.hid (fun h => apply_fit (p := p') (o := nth mop0 l k) h)
      unfold ApIs mopV at HAP
      generalize hrq : applyF p' (nth mop0 l k) = rq at *
      clear hrq
      obtain ⟨fe, q⟩ := rq
      generalize nth mop0 l k = o at *
      have HI := Lib.hid hI
      clear hI
      by_cases he : fe = 0
      · subst he
        go_wp2_with (go_at_call 10; refine HAP.out.mono ?_; rintro e w5 ⟨v5, rfl, ⟨A5, c5, rfl, hc5, hr5⟩, hB5⟩; have hz5 := hB5.size; have hP5 := hP.below (((Below.refl wr.heap.size wr).alloc (Nat.le_refl _) _).trans (hB5.mono (by simp))) hpl; clear x0 x1 x2 x3 x4 y0 y1 y2 y3; obtain ⟨x0, x1, x2, x3, x4⟩ := hP5.cells; have f0 := hP5.free 0; have f1 := hP5.free 1; have f2 := hP5.free 2; have f3 := hP5.free 3; have f4 := hP5.free 4; have hl5 := hP5.lt)
        have hB5' : Below w.heap.size w w5 := (hB.alloc (by omega) _).trans (hB5.mono (by simp; omega))
        have hR5 : RBox w5 (w.heap.size + 1) (.int .i64 0) (.int .i64 0) (.int .i64 0) (.int .i64 0) (.slice none 0 0) := hR.below (((Below.refl wr.heap.size wr).alloc (Nat.le_refl _) _).trans (hB5.mono (by simp))) hrl
        have hI5 : IsPool w5 (Btw (w.heap.size + 2) w5.heap.size) (.agg #[.int .i64 q.tx, .int .i64 q.time, .int .i64 q.unit, .int .i64 q.data, .slice A5 q.devs.length c5]) q := ⟨A5, c5, rfl, hc5, hr5.keep rdev_stable (fun b hb => ⟨by have := hb.1; simp at this; omega, hb.2⟩) Keep.refl⟩
        obtain ⟨t1, t2, t3, t4, t5⟩ := rst_next (.cells #[.int .i64 q.tx, .int .i64 q.time, .int .i64 q.unit, .int .i64 q.data, .slice A5 q.devs.length c5] 24) hB5' (by simp at hz5; omega) hP5 hR5 hI5 _ rfl
        refine ⟨⟨k + 1, q, A5, c5, by omega, by go_num, t1, t2, t3, HFQ.out trivial, t4, t5, Lib.hid (by rw [HRU.out, HNXT.out trivial])⟩, by simp [intOf]; omega⟩
      · have hf2 : (fe == 0) = false := by simpa using he
        have hf3 : (fe != 0) = true := by simpa using he
        go_wp2_with (go_at_call 10; refine HAP.out.mono ?_; rintro e w5 ⟨v5, rfl, ⟨A5, c5, rfl, hc5, hr5⟩, hB5⟩; have hz5 := hB5.size; have hR5 : RBox w5 (w.heap.size + 1) (.int .i64 0) (.int .i64 0) (.int .i64 0) (.int .i64 0) (.slice none 0 0) := hR.below (((Below.refl wr.heap.size wr).alloc (Nat.le_refl _) _).trans (hB5.mono (by simp))) hrl; have hP5 := hP.below (((Below.refl wr.heap.size wr).alloc (Nat.le_refl _) _).trans (hB5.mono (by simp))) hpl; clear x0 x1 x2 x3 x4 y0 y1 y2 y3; obtain ⟨x0, x1, x2, x3, x4⟩ := hP5.cells; obtain ⟨y0, y1, y2, y3, y4⟩ := hR5.cells; have f0 := hR5.free 0; have f1 := hR5.free 1; have f2 := hR5.free 2; have f3 := hR5.free 3; have f4 := hR5.free 4; have hl5 := hP5.lt; have hl6 : w.heap.size + 1 < w5.heap.size := (Array.getElem?_eq_some_iff.1 hR5).1)
        have hB5' : Below w.heap.size w w5 := (hB.alloc (by omega) _).trans (hB5.mono (by simp; omega))
        have hzz := size5 w5 (w.heap.size + 1) (.int .i64 p'.tx) (.int .i64 p'.time) (.int .i64 p'.unit) (.int .i64 p'.data) (.slice A' p'.devs.length c')
        have hbb := below5 hB5' (show w.heap.size ≤ w.heap.size + 1 by omega) (.int .i64 p'.tx) (.int .i64 p'.time) (.int .i64 p'.unit) (.int .i64 p'.data) (.slice A' p'.devs.length c')
        have hs5 := set5 hR5 (.int .i64 p'.tx) (.int .i64 p'.time) (.int .i64 p'.unit) (.int .i64 p'.data) (.slice A' p'.devs.length c')
        have hi5 := pool_keep (HI.out.below (((Below.refl wr.heap.size wr).alloc (Nat.le_refl _) (.cells #[.int .i64 o.kind, .int .i64 o.dev, .int .i64 o.arg, .int .i64 o.n] 32)).trans (hB5.mono (by simp))) (fun b hb => hb.2)) (fun b hb => hb) (keep5 (b := w.heap.size + 1) (fun hb => by have := hb.1; omega) (.int .i64 p'.tx) (.int .i64 p'.time) (.int .i64 p'.unit) (.int .i64 p'.data) (.slice A' p'.devs.length c'))
        simp only [World.size_alloc] at hz5
        clear x0 x1 x2 x3 x4 y0 y1 y2 y3 y4 f0 f1 f2 f3 f4
        generalize hX : (((((w5.setCell ⟨w.heap.size + 1, 0, none⟩ (.int .i64 p'.tx)).setCell ⟨w.heap.size + 1, 1, none⟩ (.int .i64 p'.time)).setCell ⟨w.heap.size + 1, 2, none⟩ (.int .i64 p'.unit)).setCell ⟨w.heap.size + 1, 3, none⟩ (.int .i64 p'.data)).setCell ⟨w.heap.size + 1, 4, none⟩ (.slice A' p'.devs.length c')) = X at *
        clear hX
        have hal : Below X.heap.size X (X.alloc (.cells #[.int .i64 q.tx, .int .i64 q.time, .int .i64 q.unit, .int .i64 q.data, .slice A5 q.devs.length c5] 24)) := (Below.refl _ _).alloc (Nat.le_refl _) _
        obtain ⟨q0, q1, q2, q3, q4⟩ := cells5 ((hal.block (w.heap.size + 1) (by omega)).trans hs5)
        refine bodyPost_ret (v := .tuple #[.agg #[.int .i64 p'.tx, .int .i64 p'.time, .int .i64 p'.unit, .int .i64 p'.data, .slice A' p'.devs.length c'], .int .i64 (k : Nat), .int .i64 fe]) (by simp [results, Try.results7, go_sem, q0, q1, q2, q3, q4]) rfl ?_
        have hr : r = (p', k, fe) := by rw [← HRR.out, HRU.out, HSTP.out he]
        rw [hr]
        exact ⟨_, rfl, pool_keep hi5 (fun b hb => ⟨by have := hb.1; omega, by have := hb.2; simp; omega⟩) ((keep_alloc (fun b hb => by have := hb.2; omega) _)), hbb.alloc (by omega) _⟩
    · have hR5 := hR
      obtain ⟨y0, y1, y2, y3, y4⟩ := hR5.cells
      have f0 := hR5.free 0
      have f1 := hR5.free 1
      have f2 := hR5.free 2
      have f3 := hR5.free 3
      have f4 := hR5.free 4
      have HI := Lib.hid hI
      clear hI
      go_wp2_with fail
      obtain ⟨q0, q1, q2, q3, q4⟩ := cells5 (set5 hR5 (.int .i64 p'.tx) (.int .i64 p'.time) (.int .i64 p'.unit) (.int .i64 p'.data) (.slice A' p'.devs.length c'))
      refine bodyPost_ret (v := .tuple #[.agg #[.int .i64 p'.tx, .int .i64 p'.time, .int .i64 p'.unit, .int .i64 p'.data, .slice A' p'.devs.length c'], .int .i64 (n : Nat), .int .i64 0]) (by simp [results, Try.results7, go_sem, q0, q1, q2, q3, q4]) rfl ?_
      have hr : r = (p', n, 0) := by
        have hkn : k = n := by omega
        rw [← HRR.out, HRU.out, List.drop_of_length_le (by rw [HN.out]; omega), hkn]
        rfl
      rw [hr]
      exact ⟨_, rfl, pool_keep HI.out (fun b hb => ⟨by have := hb.1; omega, by have := hb.2; rw [size5]; omega⟩) (keep5 (fun hb => by have := hb.1; omega) _ _ _ _ _), below5 hB (by omega) _ _ _ _ _⟩
end Go.Proofs.Ytjeeheeaickokaa

/- The reference's blocks at a Write (scantlingref49). Condition: the pool may be, and lies in memory of the call's own. -/
namespace Go.Proofs.Ytjeeheeaickokaa

open Go.RowKit
attribute [local go_sem] Oper.semAt_some
set_option linter.unusedSimpArgs false
set_option linter.unusedVariables false

/-- What an op of the reference leaves, where it fails: any pool. -/
def DoR2 (w : World) (base : Nat) (v : Value) (n : Nat) (M : Nat → Value) (r : Int × Pool) (e : Ending) (w' : World) : Prop :=
  ∃ A c M' q, e = .returned (.tuple #[.agg #[.int .i64 q.tx, .int .i64 q.time, .int .i64 q.unit, .int .i64 q.data, .slice A q.devs.length c], .int .i64 r.1]) ∧ (r.1 = 0 → q = r.2 ∧ OwnDevs w' base (.slice A q.devs.length c) q.devs M' ∧ ∀ x, Own1 (.slice A q.devs.length c) q.devs.length M' x → Own1 v n M x ∨ w.heap.size ≤ x) ∧ Touch (Own1 v n M) w w'
theorem DoR.weak {w : World} {base : Nat} {v : Value} {n : Nat} {M : Nat → Value} {r : Int × Pool} {e : Ending} {w' : World} (h : DoR w base v n M r e w') : DoR2 w base v n M r e w' := by
  obtain ⟨A, c, M', q, h1, h2, h3, h4, h5⟩ := h
  exact ⟨A, c, M', q, h1, fun hr => ⟨h3 hr, h2, h5⟩, h4⟩
theorem touch_more {R R' : Nat → Prop} {w wr w5 : World} (h : Touch R w wr) (k : Touch R' wr w5) (hr : ∀ x, R' x → R x ∨ w.heap.size ≤ x) : Touch R w w5 :=
  ⟨k.1.trans h.1, k.2.1.trans h.2.1, k.2.2.1.trans h.2.2.1, Nat.le_trans h.size k.size, fun x hx hn => (k.block (by have := h.size; omega) (fun e => (hr x e).elim hn (fun h => by omega))).trans (h.block hx hn)⟩
/-- While blocks writes: the pool in its box is the caller's own. -/
structure BSt (w wr : World) (base n : Nat) (v0 : Value) (M0 : Nat → Value) (p : Pool) (A : Option Addr) (c : Nat) (M : Nat → Value) (o : Mop) : Prop where
  pb : PBox wr w.heap.size p A n c
  ob : OBox wr (w.heap.size + 1) o
  rb : RBox wr (w.heap.size + 1 + 1) (.int .i64 0) (.int .i64 0) (.int .i64 0) (.int .i64 0) (.slice none 0 0)
  hz : w.heap.size + 3 ≤ wr.heap.size
  od : OwnDevs wr base (.slice A n c) p.devs M
  tc : Touch (Own1 v0 n M0) w wr
  ow : ∀ x, Own1 (.slice A n c) n M x → Own1 v0 n M0 x ∨ w.heap.size + 3 ≤ x
  hn : p.devs.length = n
  lo : ∀ x, Own1 v0 n M0 x → x < w.heap.size
theorem BSt.far {w wr : World} {base n c : Nat} {v0 : Value} {M0 M : Nat → Value} {p : Pool} {A : Option Addr} {o : Mop} (h : BSt w wr base n v0 M0 p A c M o) {b : Nat} (h1 : w.heap.size ≤ b) (h2 : b < w.heap.size + 3) : ¬ Own1 (.slice A n c) n M b := fun e => by
  rcases h.ow b e with e | e
  · have := h.lo b e; omega
  · omega
theorem BSt.below {w wr w' : World} {base n c : Nat} {v0 : Value} {M0 M : Nat → Value} {p : Pool} {A : Option Addr} {o : Mop} (h : BSt w wr base n v0 M0 p A c M o) (hB : Below wr.heap.size wr w') : BSt w w' base n v0 M0 p A c M o :=
  { pb := box_up h.pb hB, ob := box_up h.ob hB, rb := box_up h.rb hB, hz := Nat.le_trans h.hz hB.size, od := h.od.keep hB (Nat.le_refl _), tc := h.tc.trans (Touch.of_below hB), ow := h.ow, hn := h.hn, lo := h.lo }
/-- Behind a write that went well. -/
theorem BSt.next {w wr w5 : World} {base n m c c5 : Nat} {v0 : Value} {M0 M M5 : Nat → Value} {p q : Pool} {A A5 : Option Addr} {o : Mop} (h : BSt w wr base n v0 M0 p A c M o) (hm : q.devs.length = m) (hmn : m = n) (h5 : OwnDevs w5 base (.slice A5 m c5) q.devs M5) (ht : Touch (Own1 (.slice A n c) n M) wr w5)
    (ho : ∀ x, Own1 (.slice A5 m c5) m M5 x → Own1 (.slice A n c) n M x ∨ wr.heap.size ≤ x) (ob : Obj) (W : World)
    (hW : ((((((w5.setCell ⟨w.heap.size, 0, none⟩ (.int .i64 q.tx)).setCell ⟨w.heap.size, 1, none⟩ (.int .i64 q.time)).setCell ⟨w.heap.size, 2, none⟩ (.int .i64 q.unit)).setCell ⟨w.heap.size, 3, none⟩ (.int .i64 q.data)).setCell ⟨w.heap.size, 4, none⟩ (.slice A5 m c5)).alloc ob) = W) :
    BSt w W base n v0 M0 q A5 c5 M5 o := by
  subst hmn
  have hz := h.hz
  have hz5 := ht.size
  have hbox : ∀ {b : Nat} {x : Obj}, wr.heap[b]? = some x → w.heap.size ≤ b → b < w.heap.size + 3 → w5.heap[b]? = some x := fun {b x} hx h1 h2 => (ht.block (box_lt hx) (h.far h1 h2)).trans hx
  have how : ∀ x, Own1 (.slice A5 m c5) m M5 x → Own1 v0 m M0 x ∨ w.heap.size + 3 ≤ x := fun x hx => by
    rcases ho x hx with e | e
    · exact h.ow x e
    · exact .inr (by omega)
  have hfar : Far (.slice A5 m c5) q.devs M5 w.heap.size := far_own1 hm (fun e => by
    rcases how _ e with e | e
    · have := h.lo _ e; omega
    · omega)
  obtain ⟨w6, hw6⟩ : ∃ x, (((((w5.setCell ⟨w.heap.size, 0, none⟩ (.int .i64 q.tx)).setCell ⟨w.heap.size, 1, none⟩ (.int .i64 q.time)).setCell ⟨w.heap.size, 2, none⟩ (.int .i64 q.unit)).setCell ⟨w.heap.size, 3, none⟩ (.int .i64 q.data)).setCell ⟨w.heap.size, 4, none⟩ (.slice A5 m c5)) = x := ⟨_, rfl⟩
  have hs : BSt w w6 base m v0 M0 q A5 c5 M5 o := by
    rw [← hw6]
    exact
      { pb := set5 (hbox h.pb (Nat.le_refl _) (by omega)) _ _ _ _ _
        ob := (size5_block _ _ _ (by omega) _ _ _ _ _).trans (hbox h.ob (by omega) (by omega))
        rb := (size5_block _ _ _ (by omega) _ _ _ _ _).trans (hbox h.rb (by omega) (by omega))
        hz := by rw [size5]; omega
        od := kept5 h5 hfar _ _ _ _ _
        tc := touch5 (touch_more h.tc ht (fun x hx => (h.ow x hx).imp id (fun h => by omega))) (Nat.le_refl _) _ _ _ _ _
        ow := how
        hn := hm
        lo := h.lo }
  rw [hw6] at hW
  rw [← hW]
  exact hs.below ((Below.refl _ _).alloc (Nat.le_refl _) ob)
/-- The end of blocks at a Write. -/
theorem BSt.ret {w wr : World} {base n c : Nat} {v0 : Value} {M0 M : Nat → Value} {p : Pool} {A : Option Addr} {o : Mop} {r : Int × Pool} (_hrb : w.heap.size + 3 ≤ wr.heap.size) (tc : Touch (Own1 v0 n M0) w wr) (hn : p.devs.length = n) {cd : Int} (hcd : cd = r.1) (hr : r.1 = 0 → p = r.2 ∧ BSt w wr base n v0 M0 p A c M o) (u0 u1 u2 u3 u4 : Value) :
    DoR2 w base v0 n M0 r (.returned (.tuple #[.agg #[.int .i64 p.tx, .int .i64 p.time, .int .i64 p.unit, .int .i64 p.data, .slice A n c], .int .i64 cd])) (((((wr.setCell ⟨w.heap.size + 1 + 1, 0, none⟩ u0).setCell ⟨w.heap.size + 1 + 1, 1, none⟩ u1).setCell ⟨w.heap.size + 1 + 1, 2, none⟩ u2).setCell ⟨w.heap.size + 1 + 1, 3, none⟩ u3).setCell ⟨w.heap.size + 1 + 1, 4, none⟩ u4) := by
  subst hn hcd
  refine ⟨A, c, M, p, rfl, fun h0 => ?_, touch5 tc (by omega) _ _ _ _ _⟩
  obtain ⟨h1, h2⟩ := hr h0
  exact ⟨h1, kept5 h2.od (far_own1 rfl (h2.far (by omega) (by omega))) _ _ _ _ _, fun x hx => (h2.ow x hx).imp id (fun h => by omega)⟩
theorem setMaps_lenN (p : Pool) (k : Nat) (v : Int) : (wr1 p k v).2.devs.length = p.devs.length := by
  unfold wr1
  split
  · rfl
  · split
    · rfl
    · split
      · rfl
      · split
        · exact len_setMaps _ _ _
        · exact len_setMaps _ _ _
set_option maxRecDepth 100000 in
set_option maxHeartbeats 3200000 in
theorem rwrites_any (w : World) (base c : Nat) (p : Pool) (A : Option Addr) (M : Nat → Value) (o : Mop) (h3 : OwnDevs w base (.slice A p.devs.length c) p.devs M) (hb : base ≤ w.heap.size) (hpc : poolChk p = 0) (hf : blkE p o = 0) (hkd : o.kind = 4) :
    Calls Try.prog 38 #[.agg #[.int .i64 p.tx, .int .i64 p.time, .int .i64 p.unit, .int .i64 p.data, .slice A p.devs.length c], mopV o] w (DoR2 w base (.slice A p.devs.length c) p.devs.length M (writeF p o)) := by
  have T := three_new w p A p.devs.length c o
  dsimp only [poolBox, op9Box, zeroBox] at T
  have HAH := Lib.hid (op_ahead h3 T)
  have hln := pool_len hpc
  obtain ⟨hbb, d1, d2, d3, d4, d5⟩ := blk_ok hf
  have hkl : dpos p o.dev < p.devs.length := (dpos_lt (fit_iff.1 hpc) hbb).1
  have hpl : placeI p o.dev = (dpos p o.dev : Int) := by unfold placeI; rw [if_pos hbb]
  have HPL := Lib.hid (fun w' (hz : w.heap.size ≤ w'.heap.size) (h : IsPool w' (Lt w.heap.size) (.agg #[.int .i64 p.tx, .int .i64 p.time, .int .i64 p.unit, .int .i64 p.data, .slice A p.devs.length c]) p) => rplace_any w' (Lt w.heap.size) _ p o.dev (fun b (hb : b < w.heap.size) => Nat.lt_of_lt_of_le hb hz) h (incK_devs hpc) (by omega))
  rw [hpl] at HPL
  have H3 := Lib.hid h3
  have hcr : writeF p o = wrN p (dpos p o.dev) o.arg o.n.toNat := by unfold writeF; rw [if_neg (by rw [hf]; simp)]
  rw [hcr]
  have HKL := Lib.hid hkl
  have HPC := Lib.hid hpc
  have hkb : (o.kind == 5) = false := by simp [hkd]
  clear h3 hpc hf hcr hbb hpl hkd
  generalize hkk : dpos p o.dev = k at *
  clear hkk
  generalize hl0 : p.devs.length = n at *
  have hl := Lib.hid hl0
  clear hl0
  obtain ⟨N, hN⟩ := Int.eq_ofNat_of_zero_le (show 0 ≤ o.n by omega)
  have HNN := Lib.hid hN
  have hN2 : N ≤ 16384 := by omega
  have hNt : o.n.toNat = N := by rw [hN]; rfl
  rw [hNt]
  clear hN hNt
  have hkn : (k : Int) < (n : Int) := by omega
  have hp0 : ¬ ((k : Int) < 0) := by omega
  have e1 : ¬ (o.n < 1) := by omega
  have e2 : ¬ (16384 < o.n) := by omega
  have e3 : ¬ (o.arg < 0) := by omega
  have e4 : ¬ (281474976710655 < o.arg) := by omega
  have hw1 : IntKind.i64.wrap (o.arg + o.n) = o.arg + o.n := IntWalk.i64_in _ (by omega)
  have hw2 : IntKind.i64.wrap (o.arg + o.n - 1) = o.arg + o.n - 1 := IntWalk.i64_in _ (by omega)
  have e5 : ¬ (281474976710655 < o.arg + o.n - 1) := by omega
  generalize hrr : wrN p k o.arg N = r
  have HRR := Lib.hid hrr
  clear hrr
  go_enter Try.func38, Try.ntmps38
  go_upto_region 1 with fail
  generalize ((w.alloc (.cells #[.int .i64 p.tx, .int .i64 p.time, .int .i64 p.unit, .int .i64 p.data, .slice A n c] 24)).alloc (.cells #[.int .i64 o.kind, .int .i64 o.dev, .int .i64 o.arg, .int .i64 o.n] 31)).alloc (.cells #[.int .i64 0, .int .i64 0, .int .i64 0, .int .i64 0, .slice none 0 0] 24) = w3 at *
  have hk3 := Below.refl w3.heap.size w3
  obtain ⟨x0, x1, x2, x3, x4⟩ := (HAH.out w3 hk3).1.2.1.cells
  obtain ⟨y0, y1, y2, y3⟩ := (HAH.out w3 hk3).1.2.2.1.cells
  obtain ⟨z0, z1, z2, z3, z4⟩ := (HAH.out w3 hk3).1.2.2.2.1.cells
  have f0 := (HAH.out w3 hk3).1.2.2.2.1.free 0
  have f1 := (HAH.out w3 hk3).1.2.2.2.1.free 1
  have f2 := (HAH.out w3 hk3).1.2.2.2.1.free 2
  have f3 := (HAH.out w3 hk3).1.2.2.2.1.free 3
  have f4 := (HAH.out w3 hk3).1.2.2.2.1.free 4
  go_wp2_with (go_at_call 37; (have hx := HPL.out w3 (HAH.out w3 hk3).1.1.size (HAH.out w3 hk3).2.2.1; with_reducible refine hx.mono ?_; clear hx); rintro e w4 ⟨rfl, hk4⟩; clear x0 x1 x2 x3 x4 y0 y1 y2 y3 z0 z1 z2 z3 z4 f0 f1 f2 f3 f4; obtain ⟨x0, x1, x2, x3, x4⟩ := (HAH.out w4 hk4).1.2.1.cells; obtain ⟨y0, y1, y2, y3⟩ := (HAH.out w4 hk4).1.2.2.1.cells; obtain ⟨z0, z1, z2, z3, z4⟩ := (HAH.out w4 hk4).1.2.2.2.1.cells; have f0 := (HAH.out w4 hk4).1.2.2.2.1.free 0; have f1 := (HAH.out w4 hk4).1.2.2.2.1.free 1; have f2 := (HAH.out w4 hk4).1.2.2.2.1.free 2; have f3 := (HAH.out w4 hk4).1.2.2.2.1.free 3; have f4 := (HAH.out w4 hk4).1.2.2.2.1.free 4)
  have hz4 := (HAH.out w4 hk4).1.2.2.2.2
  have hbs : BSt w w4 base n (.slice A n c) M p A c M o := ⟨(HAH.out w4 hk4).1.2.1, (HAH.out w4 hk4).1.2.2.1, (HAH.out w4 hk4).1.2.2.2.1, hz4, (HAH.out w4 hk4).2.1, Touch.of_below (HAH.out w4 hk4).1.1, fun x hx => .inl hx, hl.out, fun x hx => (own1_lt H3.out hl.out x hx).2⟩
  have HBS := Lib.hid hbs
  clear x0 x1 x2 x3 x4 y0 y1 y2 y3 z0 z1 z2 z3 z4 f0 f1 f2 f3 f4 hbs
  go_loopw [10] (fun i wr => ∃ j : Nat, i = .int .i64 j ∧ j ≤ N ∧ ∃ q A' c' M', BSt w wr base n (.slice A n c) M q A' c' M' o ∧ poolChk q = 0 ∧ wrN q k (o.arg + j) (N - j) = r) (fun i _ => N - (intOf i).toNat)
  case atStart => exact ⟨0, rfl, by omega, p, A, c, M, HBS.out, HPC.out, by rw [← HRR.out]; simp⟩
  case round =>
    obtain ⟨j, rfl, hj, q, A', c', M', hb', hqc, hwr⟩ := hrel
    have HB := Lib.hid hb'
    have HQC := Lib.hid hqc
    have HWR := Lib.hid hwr
    obtain ⟨x0, x1, x2, x3, x4⟩ := hb'.pb.cells
    obtain ⟨y0, y1, y2, y3⟩ := hb'.ob.cells
    have hwz := hb'.hz
    clear hb' hqc hwr
    rw [HNN.out] at y3
    by_cases hlt : j < N
    · have hji : (j : Int) < (N : Int) := by omega
      have hwj : IntKind.i64.wrap (o.arg + (j : Int)) = o.arg + (j : Int) := IntWalk.i64_in _ (by omega)
      have hln2 := HB.out.hn
      have hcall := rwrite_any wr base c' q A' M' k (o.arg + (j : Int)) (by rw [hln2]; exact HB.out.od) (by omega) HQC.out (by rw [hln2]; exact HKL.out)
      rw [hln2] at hcall
      have HCALL := Lib.hid hcall
      clear hcall hln2
      by_cases he : (wr1 q k (o.arg + (j : Int))).1 = 0
      · have HE := Lib.hid he
        have HNX := Lib.hid (show wrN (wr1 q k (o.arg + (j : Int))).2 k (o.arg + ((j + 1 : Nat) : Int)) (N - (j + 1)) = r by
          rw [← HWR.out, show N - j = (N - (j + 1)) + 1 by omega, wrN_next he]
          congr 1
          push_cast
          omega)
        have HFT := Lib.hid (fit_iff.2 (wr1_fit (fit_iff.1 HQC.out) (by rw [HB.out.hn]; exact HKL.out) (by have := HNN.out; omega) he).1)
        have HLN := Lib.hid ((setMaps_lenN q k (o.arg + (j : Int))).trans HB.out.hn)
        clear he
        unfold DoR at HCALL
        rw [HE.out] at HCALL
        go_wp2_with (go_at_call 51; refine HCALL.out.mono ?_; rintro e w5 ⟨A5, c5, M5, q5, rfl, h5, hq5, ht5, ho5⟩; have hq6 := hq5 rfl; clear hq5; have H5 := Lib.hid h5; have HT5 := Lib.hid ht5; have HO5 := Lib.hid ho5; have HQ6 := Lib.hid hq6; have hpb5 := (ht5.block HB.out.pb.lt (HB.out.far (Nat.le_refl _) (by omega))).trans HB.out.pb; clear x0 x1 x2 x3 x4 y0 y1 y2 y3; obtain ⟨x0, x1, x2, x3, x4⟩ := cells5 hpb5; have f0 := free_of hpb5 0; have f1 := free_of hpb5 1; have f2 := free_of hpb5 2; have f3 := free_of hpb5 3; have f4 := free_of hpb5 4; have hlt5 := box_lt hpb5; clear h5 ht5 ho5 hq6)
        refine ⟨⟨j + 1, rfl, by omega, q5, A5, c5, M5, ?_, ?_, ?_⟩, by simp [intOf]; omega⟩
        · exact HB.out.next rfl (by rw [HQ6.out]; exact HLN.out) H5.out HT5.out HO5.out _ _ rfl
        · rw [HQ6.out]; exact HFT.out
        · rw [HQ6.out]; exact HNX.out
      · have HE := Lib.hid he
        have HST := Lib.hid (show r = wr1 q k (o.arg + (j : Int)) by rw [← HWR.out, show N - j = (N - (j + 1)) + 1 by omega, wrN_stop he])
        unfold DoR at HCALL
        rw [← HST.out] at HCALL
        have hrn : r.1 ≠ 0 := by rw [HST.out]; exact he
        have hrb : (r.1 != 0) = true := by simpa using hrn
        clear he
        have HRN := Lib.hid hrn
        clear hrn
        generalize hr1 : r.1 = r1 at *
        have HR1 := Lib.hid hr1
        clear hr1
        go_wp2_with (go_at_call 51; refine HCALL.out.mono ?_; rintro e w5 ⟨A5, c5, M5, q5, rfl, h5, hq5, ht5, ho5⟩; have HT5 := Lib.hid ht5; have hpb5 := (ht5.block HB.out.pb.lt (HB.out.far (Nat.le_refl _) (by omega))).trans HB.out.pb; have hrb5 := (ht5.block (box_lt HB.out.rb) (HB.out.far (by omega) (by omega))).trans HB.out.rb; have hz5 := ht5.size; clear x0 x1 x2 x3 x4 y0 y1 y2 y3; obtain ⟨x0, x1, x2, x3, x4⟩ := cells5 hpb5; obtain ⟨z0, z1, z2, z3, z4⟩ := cells5 hrb5; have f0 := free_of hrb5 0; have f1 := free_of hrb5 1; have f2 := free_of hrb5 2; have f3 := free_of hrb5 3; have f4 := free_of hrb5 4; have hlt5 := box_lt hpb5; have hlr5 := box_lt hrb5; clear h5 hq5 ht5 ho5)
        obtain ⟨w6, hw6⟩ : ∃ x, (((((w5.setCell ⟨w.heap.size + 1 + 1, 0, none⟩ (.int .i64 q.tx)).setCell ⟨w.heap.size + 1 + 1, 1, none⟩ (.int .i64 q.time)).setCell ⟨w.heap.size + 1 + 1, 2, none⟩ (.int .i64 q.unit)).setCell ⟨w.heap.size + 1 + 1, 3, none⟩ (.int .i64 q.data)).setCell ⟨w.heap.size + 1 + 1, 4, none⟩ (.slice A' n c')) = x := ⟨_, rfl⟩
        have hb6 := set5 hrb5 (.int .i64 q.tx) (.int .i64 q.time) (.int .i64 q.unit) (.int .i64 q.data) (.slice A' n c')
        have ht6 := touch5 (touch_more HB.out.tc HT5.out (fun x hx => (HB.out.ow x hx).imp id (fun h => Nat.le_trans (Nat.le_add_right _ 3) h))) (b := w.heap.size + 1 + 1) (by omega) (.int .i64 q.tx) (.int .i64 q.time) (.int .i64 q.unit) (.int .i64 q.data) (.slice A' n c')
        rw [hw6] at hb6 ht6 ⊢
        clear hw6
        have hal := (Below.refl w6.heap.size w6).alloc (Nat.le_refl _) (.cells #[.int .i64 q5.tx, .int .i64 q5.time, .int .i64 q5.unit, .int .i64 q5.data, .slice A5 q5.devs.length c5] 24)
        obtain ⟨q0, q1, q2, q3, q4⟩ := cells5 (box_up hb6 hal)
        refine bodyPost_ret (v := .tuple #[.agg #[.int .i64 q.tx, .int .i64 q.time, .int .i64 q.unit, .int .i64 q.data, .slice A' n c'], .int .i64 r1]) (by simp [results, Try.results38, go_sem, q0, q1, q2, q3, q4]) rfl ?_
        refine ⟨A', c', M', q, by rw [HB.out.hn, HR1.out], fun h => absurd h (by rw [HR1.out]; exact HRN.out), ht6.trans (Touch.of_below hal)⟩
    · obtain rfl : j = N := by omega
      have hr0 : r = (0, q) := by rw [← HWR.out, Nat.sub_self]; rfl
      have HR0 := Lib.hid hr0
      clear hr0
      obtain ⟨z0, z1, z2, z3, z4⟩ := HB.out.rb.cells
      have f0 := HB.out.rb.free 0
      have f1 := HB.out.rb.free 1
      have f2 := HB.out.rb.free 2
      have f3 := HB.out.rb.free 3
      have f4 := HB.out.rb.free 4
      go_wp2_with fail
      obtain ⟨q0, q1, q2, q3, q4⟩ := cells5 (set5 HB.out.rb (.int .i64 q.tx) (.int .i64 q.time) (.int .i64 q.unit) (.int .i64 q.data) (.slice A' n c'))
      refine bodyPost_ret (v := .tuple #[.agg #[.int .i64 q.tx, .int .i64 q.time, .int .i64 q.unit, .int .i64 q.data, .slice A' n c'], .int .i64 0]) (by simp [results, Try.results38, go_sem, q0, q1, q2, q3, q4]) rfl ?_
      exact BSt.ret HB.out.hz HB.out.tc HB.out.hn (by rw [HR0.out]) (fun _ => ⟨by rw [HR0.out], HB.out⟩) _ _ _ _ _
end Go.Proofs.Ytjeeheeaickokaa

/- The reference's do (scantlingref49): an op on a pool. Condition: the pool may be, and lies in memory of the call's own. -/
namespace Go.Proofs.Ytjeeheeaickokaa

open Go.RowKit
attribute [local go_sem] Oper.semAt_some
set_option linter.unusedSimpArgs false
set_option linter.unusedVariables false

/-- The callee's result is handed on. -/
theorem call_ret {w w3 w4 : World} {base n c c4 : Nat} {p q4 : Pool} {A A4 : Option Addr} {M M4 : Nat → Value} {o : Mop} {r : Int × Pool} (T : Three w w3 p A n c o) (h0 : OwnDevs w base (.slice A n c) p.devs M) (hn : p.devs.length = n) (hq : r.1 = 0 → q4 = r.2 ∧ OwnDevs w4 base (.slice A4 q4.devs.length c4) q4.devs M4 ∧ ∀ x, Own1 (.slice A4 q4.devs.length c4) q4.devs.length M4 x → Own1 (.slice A n c) n M x ∨ w3.heap.size ≤ x) (ht : Touch (Own1 (.slice A n c) n M) w3 w4) (u0 u1 u2 u3 u4 : Value) :
    DoR2 w base (.slice A n c) n M r (.returned (.tuple #[.agg #[.int .i64 q4.tx, .int .i64 q4.time, .int .i64 q4.unit, .int .i64 q4.data, .slice A4 q4.devs.length c4], .int .i64 r.1])) (((((w4.setCell ⟨w.heap.size + 1 + 1, 0, none⟩ u0).setCell ⟨w.heap.size + 1 + 1, 1, none⟩ u1).setCell ⟨w.heap.size + 1 + 1, 2, none⟩ u2).setCell ⟨w.heap.size + 1 + 1, 3, none⟩ u3).setCell ⟨w.heap.size + 1 + 1, 4, none⟩ u4) := by
  refine ⟨A4, c4, M4, q4, rfl, fun h => ?_, touch5 ((Touch.of_below T.1).trans ht) (by omega) _ _ _ _ _⟩
  obtain ⟨h1, h2, h3⟩ := hq h
  have hz := T.2.2.2.2
  refine ⟨h1, kept5 h2 (far_own1 rfl (fun e => ?_)) _ _ _ _ _, fun x hx => (h3 x hx).imp id (fun h => by omega)⟩
  rcases h3 _ e with e | e
  · have := own1_lt h0 hn _ e; omega
  · omega
set_option maxRecDepth 100000 in
set_option maxHeartbeats 1600000 in
theorem rdo_create (w : World) (base c : Nat) (p : Pool) (A : Option Addr) (M : Nat → Value) (o : Mop) (h3 : OwnDevs w base (.slice A p.devs.length c) p.devs M) (r : Int × Pool) (hk : o.kind = 1 ∨ o.kind = 2)
    (HC : ∀ w', w.heap.size ≤ w'.heap.size → OwnDevs w' base (.slice A p.devs.length c) p.devs M → Calls Try.prog 36 #[.agg #[.int .i64 p.tx, .int .i64 p.time, .int .i64 p.unit, .int .i64 p.data, .slice A p.devs.length c], mopV o] w' (DoR2 w' base (.slice A p.devs.length c) p.devs.length M r)) :
    Calls Try.prog 18 #[.agg #[.int .i64 p.tx, .int .i64 p.time, .int .i64 p.unit, .int .i64 p.data, .slice A p.devs.length c], mopV o] w (DoR2 w base (.slice A p.devs.length c) p.devs.length M r) := by
  have T := three_new w p A p.devs.length c o
  dsimp only [poolBox, op9Box, zeroBox] at T
  have HAH := Lib.hid (op_ahead h3 T)
  have H3 := Lib.hid h3
  have HCC := Lib.hid HC
  clear h3 HC
  generalize hl0 : p.devs.length = n at *
  have hl := Lib.hid hl0
  clear hl0
  rcases hk with hk | hk
  all_goals
    have hk1 : (o.kind == 1) = ((o.kind : Int) == 1) := rfl
    have hk2 : (o.kind == 2) = ((o.kind : Int) == 2) := rfl
    have hk3' : (o.kind == 3) = ((o.kind : Int) == 3) := rfl
    have hk4 : (o.kind == 4) = ((o.kind : Int) == 4) := rfl
    have hk5 : (o.kind == 5) = ((o.kind : Int) == 5) := rfl
    conv at hk1 => rhs; rw [hk]; simp
    conv at hk2 => rhs; rw [hk]; simp
    conv at hk3' => rhs; rw [hk]; simp
    conv at hk4 => rhs; rw [hk]; simp
    conv at hk5 => rhs; rw [hk]; simp
    clear hk
    go_enter Try.func18, Try.ntmps18
    go_upto_region 1 with fail
    generalize ((w.alloc (.cells #[.int .i64 p.tx, .int .i64 p.time, .int .i64 p.unit, .int .i64 p.data, .slice A n c] 24)).alloc (.cells #[.int .i64 o.kind, .int .i64 o.dev, .int .i64 o.arg, .int .i64 o.n] 31)).alloc (.cells #[.int .i64 0, .int .i64 0, .int .i64 0, .int .i64 0, .slice none 0 0] 24) = w3 at *
    have hk3 := Below.refl w3.heap.size w3
    obtain ⟨x0, x1, x2, x3, x4⟩ := (HAH.out w3 hk3).1.2.1.cells
    obtain ⟨y0, y1, y2, y3⟩ := (HAH.out w3 hk3).1.2.2.1.cells
    obtain ⟨z0, z1, z2, z3, z4⟩ := (HAH.out w3 hk3).1.2.2.2.1.cells
    have f0 := (HAH.out w3 hk3).1.2.2.2.1.free 0
    have f1 := (HAH.out w3 hk3).1.2.2.2.1.free 1
    have f2 := (HAH.out w3 hk3).1.2.2.2.1.free 2
    have f3 := (HAH.out w3 hk3).1.2.2.2.1.free 3
    have f4 := (HAH.out w3 hk3).1.2.2.2.1.free 4
    go_wp2_with (go_at_call 36; (have hx := HCC.out w3 (HAH.out w3 hk3).1.1.size (HAH.out w3 hk3).2.1; with_reducible refine hx.mono ?_; clear hx); rintro e w4 ⟨A4, c4, M4, q4, rfl, hq4, ht4⟩; have HQ4 := Lib.hid hq4; have HT4 := Lib.hid ht4; have hz4 := ht4.size; have hrb4 := (ht4.block (box_lt (HAH.out w3 hk3).1.2.2.2.1) (fun e => (by have h1 := own1_lt H3.out hl.out _ e; omega))).trans (HAH.out w3 hk3).1.2.2.2.1; clear x0 x1 x2 x3 x4 y0 y1 y2 y3 z0 z1 z2 z3 z4 f0 f1 f2 f3 f4 hq4 ht4; obtain ⟨z0, z1, z2, z3, z4⟩ := cells5 hrb4; have f0 := free_of hrb4 0; have f1 := free_of hrb4 1; have f2 := free_of hrb4 2; have f3 := free_of hrb4 3; have f4 := free_of hrb4 4)
    obtain ⟨v0, v1, v2, v3, v4⟩ := cells5 (set5 hrb4 (.int .i64 q4.tx) (.int .i64 q4.time) (.int .i64 q4.unit) (.int .i64 q4.data) (.slice A4 q4.devs.length c4))
    refine bodyPost_ret (v := .tuple #[.agg #[.int .i64 q4.tx, .int .i64 q4.time, .int .i64 q4.unit, .int .i64 q4.data, .slice A4 q4.devs.length c4], .int .i64 r.1]) (by simp [results, Try.results18, go_sem, v0, v1, v2, v3, v4]) rfl ?_
    exact call_ret (HAH.out w3 hk3).1 H3.out hl.out HQ4.out HT4.out _ _ _ _ _
set_option maxRecDepth 100000 in
set_option maxHeartbeats 1600000 in
theorem rdo_blocks (w : World) (base c : Nat) (p : Pool) (A : Option Addr) (M : Nat → Value) (o : Mop) (h3 : OwnDevs w base (.slice A p.devs.length c) p.devs M) (r : Int × Pool) (hk : o.kind = 4 ∨ o.kind = 5)
    (HC : ∀ w', w.heap.size ≤ w'.heap.size → OwnDevs w' base (.slice A p.devs.length c) p.devs M → Calls Try.prog 38 #[.agg #[.int .i64 p.tx, .int .i64 p.time, .int .i64 p.unit, .int .i64 p.data, .slice A p.devs.length c], mopV o] w' (DoR2 w' base (.slice A p.devs.length c) p.devs.length M r)) :
    Calls Try.prog 18 #[.agg #[.int .i64 p.tx, .int .i64 p.time, .int .i64 p.unit, .int .i64 p.data, .slice A p.devs.length c], mopV o] w (DoR2 w base (.slice A p.devs.length c) p.devs.length M r) := by
  have T := three_new w p A p.devs.length c o
  dsimp only [poolBox, op9Box, zeroBox] at T
  have HAH := Lib.hid (op_ahead h3 T)
  have H3 := Lib.hid h3
  have HCC := Lib.hid HC
  clear h3 HC
  generalize hl0 : p.devs.length = n at *
  have hl := Lib.hid hl0
  clear hl0
  rcases hk with hk | hk
  all_goals
    have hk1 : (o.kind == 1) = ((o.kind : Int) == 1) := rfl
    have hk2 : (o.kind == 2) = ((o.kind : Int) == 2) := rfl
    have hk3' : (o.kind == 3) = ((o.kind : Int) == 3) := rfl
    have hk4 : (o.kind == 4) = ((o.kind : Int) == 4) := rfl
    have hk5 : (o.kind == 5) = ((o.kind : Int) == 5) := rfl
    conv at hk1 => rhs; rw [hk]; simp
    conv at hk2 => rhs; rw [hk]; simp
    conv at hk3' => rhs; rw [hk]; simp
    conv at hk4 => rhs; rw [hk]; simp
    conv at hk5 => rhs; rw [hk]; simp
    clear hk
    go_enter Try.func18, Try.ntmps18
    go_upto_region 1 with fail
    generalize ((w.alloc (.cells #[.int .i64 p.tx, .int .i64 p.time, .int .i64 p.unit, .int .i64 p.data, .slice A n c] 24)).alloc (.cells #[.int .i64 o.kind, .int .i64 o.dev, .int .i64 o.arg, .int .i64 o.n] 31)).alloc (.cells #[.int .i64 0, .int .i64 0, .int .i64 0, .int .i64 0, .slice none 0 0] 24) = w3 at *
    have hk3 := Below.refl w3.heap.size w3
    obtain ⟨x0, x1, x2, x3, x4⟩ := (HAH.out w3 hk3).1.2.1.cells
    obtain ⟨y0, y1, y2, y3⟩ := (HAH.out w3 hk3).1.2.2.1.cells
    obtain ⟨z0, z1, z2, z3, z4⟩ := (HAH.out w3 hk3).1.2.2.2.1.cells
    have f0 := (HAH.out w3 hk3).1.2.2.2.1.free 0
    have f1 := (HAH.out w3 hk3).1.2.2.2.1.free 1
    have f2 := (HAH.out w3 hk3).1.2.2.2.1.free 2
    have f3 := (HAH.out w3 hk3).1.2.2.2.1.free 3
    have f4 := (HAH.out w3 hk3).1.2.2.2.1.free 4
    go_wp2_with (go_at_call 38; (have hx := HCC.out w3 (HAH.out w3 hk3).1.1.size (HAH.out w3 hk3).2.1; with_reducible refine hx.mono ?_; clear hx); rintro e w4 ⟨A4, c4, M4, q4, rfl, hq4, ht4⟩; have HQ4 := Lib.hid hq4; have HT4 := Lib.hid ht4; have hz4 := ht4.size; have hrb4 := (ht4.block (box_lt (HAH.out w3 hk3).1.2.2.2.1) (fun e => (by have h1 := own1_lt H3.out hl.out _ e; omega))).trans (HAH.out w3 hk3).1.2.2.2.1; clear x0 x1 x2 x3 x4 y0 y1 y2 y3 z0 z1 z2 z3 z4 f0 f1 f2 f3 f4 hq4 ht4; obtain ⟨z0, z1, z2, z3, z4⟩ := cells5 hrb4; have f0 := free_of hrb4 0; have f1 := free_of hrb4 1; have f2 := free_of hrb4 2; have f3 := free_of hrb4 3; have f4 := free_of hrb4 4)
    obtain ⟨v0, v1, v2, v3, v4⟩ := cells5 (set5 hrb4 (.int .i64 q4.tx) (.int .i64 q4.time) (.int .i64 q4.unit) (.int .i64 q4.data) (.slice A4 q4.devs.length c4))
    refine bodyPost_ret (v := .tuple #[.agg #[.int .i64 q4.tx, .int .i64 q4.time, .int .i64 q4.unit, .int .i64 q4.data, .slice A4 q4.devs.length c4], .int .i64 r.1]) (by simp [results, Try.results18, go_sem, v0, v1, v2, v3, v4]) rfl ?_
    exact call_ret (HAH.out w3 hk3).1 H3.out hl.out HQ4.out HT4.out _ _ _ _ _
/-- One of the pool's numbers is set. -/
theorem num_ret {w w3 : World} {base n c i : Nat} {p q : Pool} {A : Option Addr} {M : Nat → Value} {o : Mop} {u : Value} (T : Three w w3 p A n c o) (h0 : OwnDevs w base (.slice A n c) p.devs M) (h3 : OwnDevs w3 base (.slice A n c) p.devs M) (hn : p.devs.length = n) (hq : q.devs = p.devs)
    (he : (#[.int .i64 p.tx, .int .i64 p.time, .int .i64 p.unit, .int .i64 p.data, .slice A n c] : Array Value).setIfInBounds i u = #[.int .i64 q.tx, .int .i64 q.time, .int .i64 q.unit, .int .i64 q.data, .slice A n c]) (W : World) (hW : w3.setCell ⟨w.heap.size, i, none⟩ u = W) :
    PBox W w.heap.size q A n c ∧ RBox W (w.heap.size + 1 + 1) (.int .i64 0) (.int .i64 0) (.int .i64 0) (.int .i64 0) (.slice none 0 0) ∧
      ∀ (u0 u1 u2 u3 u4 : Value), DoR2 w base (.slice A n c) n M (0, q) (.returned (.tuple #[.agg #[.int .i64 q.tx, .int .i64 q.time, .int .i64 q.unit, .int .i64 q.data, .slice A n c], .int .i64 0])) (((((W.setCell ⟨w.heap.size + 1 + 1, 0, none⟩ u0).setCell ⟨w.heap.size + 1 + 1, 1, none⟩ u1).setCell ⟨w.heap.size + 1 + 1, 2, none⟩ u2).setCell ⟨w.heap.size + 1 + 1, 3, none⟩ u3).setCell ⟨w.heap.size + 1 + 1, 4, none⟩ u4) := by
  subst hn hW
  have hz := T.2.2.2.2
  have hlt := own1_lt h0 rfl
  have hst := OwnP.stored (q := q) (i := i) (u := u) T.2.1 h3 (far_own1 rfl (fun h => by have := hlt _ h; omega)) hq he
  refine ⟨by have := hst.1; rw [hq] at this; exact this, (Below.heap_setCell _ ⟨w.heap.size, i, none⟩ _ _ (by simp only [ne_eq]; omega)).trans T.2.2.2.1, fun u0 u1 u2 u3 u4 => ?_⟩
  refine DoR.weak (do_ret (q := q) (Mq := M) (A := A) (by have := hst.2.1; rw [hq] at this ⊢; exact this) (by rw [hq]) (touch_set (Touch.of_below T.1) (Nat.le_refl _) i u) (by omega) (fun h => by have := hlt _ h; omega) (fun _ => rfl) (fun x hx => .inl hx) rfl u0 u1 u2 u3 u4)
set_option maxRecDepth 100000 in
set_option maxHeartbeats 1600000 in
theorem rdo_tick (w : World) (base c : Nat) (p : Pool) (A : Option Addr) (M : Nat → Value) (o : Mop) (h3 : OwnDevs w base (.slice A p.devs.length c) p.devs M) (hpc : poolChk p = 0) (hk : o.kind = 6) :
    Calls Try.prog 18 #[.agg #[.int .i64 p.tx, .int .i64 p.time, .int .i64 p.unit, .int .i64 p.data, .slice A p.devs.length c], mopV o] w (DoR2 w base (.slice A p.devs.length c) p.devs.length M (tickF p)) := by
  have T := three_new w p A p.devs.length c o
  dsimp only [poolBox, op9Box, zeroBox] at T
  have HAH := Lib.hid (op_ahead h3 T)
  have H3 := Lib.hid h3
  have hhd := (pool_head hpc).1
  have HTK := Lib.hid (show tickF p = if 2147483647 ≤ p.tx then (2, p) else (0, ⟨p.tx + 1, p.time, p.unit, p.data, p.devs⟩) from rfl)
  generalize tickF p = r at *
  clear h3 hpc
  generalize hl0 : p.devs.length = n at *
  have hl := Lib.hid hl0
  clear hl0
  have hk1 : (o.kind == 1) = ((o.kind : Int) == 1) := rfl
  have hk2 : (o.kind == 2) = ((o.kind : Int) == 2) := rfl
  have hk3' : (o.kind == 3) = ((o.kind : Int) == 3) := rfl
  have hk4 : (o.kind == 4) = ((o.kind : Int) == 4) := rfl
  have hk5 : (o.kind == 5) = ((o.kind : Int) == 5) := rfl
  have hk6 : (o.kind == 6) = ((o.kind : Int) == 6) := rfl
  have hk7 : (o.kind == 7) = ((o.kind : Int) == 7) := rfl
  conv at hk1 => rhs; rw [hk]; simp
  conv at hk2 => rhs; rw [hk]; simp
  conv at hk3' => rhs; rw [hk]; simp
  conv at hk4 => rhs; rw [hk]; simp
  conv at hk5 => rhs; rw [hk]; simp
  conv at hk6 => rhs; rw [hk]; simp
  conv at hk7 => rhs; rw [hk]; simp
  clear hk
  by_cases ht : p.tx = 2147483647
  · have HR2 := Lib.hid (show r = (2, p) by rw [HTK.out, if_pos (by omega)])
    have htb : (p.tx == 2147483647) = true := by simp [ht]
    clear HTK ht
    go_enter Try.func18, Try.ntmps18
    go_upto_region 1 with fail
    generalize ((w.alloc (.cells #[.int .i64 p.tx, .int .i64 p.time, .int .i64 p.unit, .int .i64 p.data, .slice A n c] 24)).alloc (.cells #[.int .i64 o.kind, .int .i64 o.dev, .int .i64 o.arg, .int .i64 o.n] 31)).alloc (.cells #[.int .i64 0, .int .i64 0, .int .i64 0, .int .i64 0, .slice none 0 0] 24) = w3 at *
    have hk3 := Below.refl w3.heap.size w3
    obtain ⟨x0, x1, x2, x3, x4⟩ := (HAH.out w3 hk3).1.2.1.cells
    obtain ⟨y0, y1, y2, y3⟩ := (HAH.out w3 hk3).1.2.2.1.cells
    obtain ⟨z0, z1, z2, z3, z4⟩ := (HAH.out w3 hk3).1.2.2.2.1.cells
    have f0 := (HAH.out w3 hk3).1.2.2.2.1.free 0
    have f1 := (HAH.out w3 hk3).1.2.2.2.1.free 1
    have f2 := (HAH.out w3 hk3).1.2.2.2.1.free 2
    have f3 := (HAH.out w3 hk3).1.2.2.2.1.free 3
    have f4 := (HAH.out w3 hk3).1.2.2.2.1.free 4
    go_wp2_with fail
    rw [HR2.out]
    obtain ⟨q0, q1, q2, q3, q4⟩ := cells5 (set5 (HAH.out w3 hk3).1.2.2.2.1 (.int .i64 p.tx) (.int .i64 p.time) (.int .i64 p.unit) (.int .i64 p.data) (.slice A n c))
    refine bodyPost_ret (v := .tuple #[.agg #[.int .i64 p.tx, .int .i64 p.time, .int .i64 p.unit, .int .i64 p.data, .slice A n c], .int .i64 2]) (by simp [results, Try.results18, go_sem, q0, q1, q2, q3, q4]) rfl ?_
    exact DoR.weak (do_stop hl.out (HAH.out w3 hk3).1 (HAH.out w3 hk3).2.1 H3.out rfl (by simp) _ _ _ _ _)
  · have HR2 := Lib.hid (show r = (0, ⟨p.tx + 1, p.time, p.unit, p.data, p.devs⟩) by rw [HTK.out, if_neg (by omega)])
    have htb : (p.tx == 2147483647) = false := by simp [ht]
    have hw1 : IntKind.i64.wrap (p.tx + 1) = p.tx + 1 := IntWalk.i64_in _ (by omega)
    clear HTK
    go_enter Try.func18, Try.ntmps18
    go_upto_region 1 with fail
    generalize ((w.alloc (.cells #[.int .i64 p.tx, .int .i64 p.time, .int .i64 p.unit, .int .i64 p.data, .slice A n c] 24)).alloc (.cells #[.int .i64 o.kind, .int .i64 o.dev, .int .i64 o.arg, .int .i64 o.n] 31)).alloc (.cells #[.int .i64 0, .int .i64 0, .int .i64 0, .int .i64 0, .slice none 0 0] 24) = w3 at *
    have hk3 := Below.refl w3.heap.size w3
    obtain ⟨x0, x1, x2, x3, x4⟩ := (HAH.out w3 hk3).1.2.1.cells
    obtain ⟨y0, y1, y2, y3⟩ := (HAH.out w3 hk3).1.2.2.1.cells
    obtain ⟨z0, z1, z2, z3, z4⟩ := (HAH.out w3 hk3).1.2.2.2.1.cells
    have f0 := (HAH.out w3 hk3).1.2.2.2.1.free 0
    have f1 := (HAH.out w3 hk3).1.2.2.2.1.free 1
    have f2 := (HAH.out w3 hk3).1.2.2.2.1.free 2
    have f3 := (HAH.out w3 hk3).1.2.2.2.1.free 3
    have f4 := (HAH.out w3 hk3).1.2.2.2.1.free 4
    have fp := (HAH.out w3 hk3).1.2.1.free 0
    go_upto_region 18 with fail
    obtain ⟨w6, hw6⟩ : ∃ x, w3.setCell ⟨w.heap.size, 0, none⟩ (.int .i64 (p.tx + 1)) = x := ⟨_, rfl⟩
    obtain ⟨b0, b2, hfin⟩ := num_ret (q := ⟨p.tx + 1, p.time, p.unit, p.data, p.devs⟩) (HAH.out w3 hk3).1 H3.out (HAH.out w3 hk3).2.1 hl.out rfl rfl w6 hw6
    have HF := Lib.hid hfin
    rw [hw6]
    clear hfin hw6 x0 x1 x2 x3 x4 y0 y1 y2 y3 z0 z1 z2 z3 z4 f0 f1 f2 f3 f4 fp
    obtain ⟨x0, x1, x2, x3, x4⟩ := b0.cells
    obtain ⟨z0, z1, z2, z3, z4⟩ := b2.cells
    have f0 := b2.free 0
    have f1 := b2.free 1
    have f2 := b2.free 2
    have f3 := b2.free 3
    have f4 := b2.free 4
    go_wp2_with fail
    rw [HR2.out]
    obtain ⟨q0, q1, q2, q3, q4⟩ := cells5 (set5 b2 (.int .i64 (p.tx + 1)) (.int .i64 p.time) (.int .i64 p.unit) (.int .i64 p.data) (.slice A n c))
    exact bodyPost_ret (v := .tuple #[.agg #[.int .i64 (p.tx + 1), .int .i64 p.time, .int .i64 p.unit, .int .i64 p.data, .slice A n c], .int .i64 0]) (by simp [results, Try.results18, go_sem, q0, q1, q2, q3, q4]) rfl (HF.out _ _ _ _ _)
set_option maxRecDepth 100000 in
set_option maxHeartbeats 1600000 in
theorem rdo_grow (w : World) (base c : Nat) (p : Pool) (A : Option Addr) (M : Nat → Value) (o : Mop) (h3 : OwnDevs w base (.slice A p.devs.length c) p.devs M) (hk : o.kind = 7) :
    Calls Try.prog 18 #[.agg #[.int .i64 p.tx, .int .i64 p.time, .int .i64 p.unit, .int .i64 p.data, .slice A p.devs.length c], mopV o] w (DoR2 w base (.slice A p.devs.length c) p.devs.length M (growF p o)) := by
  have T := three_new w p A p.devs.length c o
  dsimp only [poolBox, op9Box, zeroBox] at T
  have HAH := Lib.hid (op_ahead h3 T)
  have H3 := Lib.hid h3
  have HTK := Lib.hid (show growF p o = if o.n < p.data ∨ 65536 < o.n then (2, p) else (0, ⟨p.tx, p.time, p.unit, o.n, p.devs⟩) from rfl)
  generalize growF p o = r at *
  clear h3
  generalize hl0 : p.devs.length = n at *
  have hl := Lib.hid hl0
  clear hl0
  have hk1 : (o.kind == 1) = ((o.kind : Int) == 1) := rfl
  have hk2 : (o.kind == 2) = ((o.kind : Int) == 2) := rfl
  have hk3' : (o.kind == 3) = ((o.kind : Int) == 3) := rfl
  have hk4 : (o.kind == 4) = ((o.kind : Int) == 4) := rfl
  have hk5 : (o.kind == 5) = ((o.kind : Int) == 5) := rfl
  have hk6 : (o.kind == 6) = ((o.kind : Int) == 6) := rfl
  have hk7 : (o.kind == 7) = ((o.kind : Int) == 7) := rfl
  conv at hk1 => rhs; rw [hk]; simp
  conv at hk2 => rhs; rw [hk]; simp
  conv at hk3' => rhs; rw [hk]; simp
  conv at hk4 => rhs; rw [hk]; simp
  conv at hk5 => rhs; rw [hk]; simp
  conv at hk6 => rhs; rw [hk]; simp
  conv at hk7 => rhs; rw [hk]; simp
  clear hk
  by_cases ht : o.n < p.data ∨ 65536 < o.n
  · have HR2 := Lib.hid (show r = (2, p) by rw [HTK.out, if_pos ht])
    have ht2 : o.n < p.data ∨ (¬ o.n < p.data ∧ 65536 < o.n) := by omega
    clear HTK ht
    rcases ht2 with t1 | ⟨t1, t2⟩
    all_goals
      go_enter Try.func18, Try.ntmps18
      go_upto_region 1 with fail
      generalize ((w.alloc (.cells #[.int .i64 p.tx, .int .i64 p.time, .int .i64 p.unit, .int .i64 p.data, .slice A n c] 24)).alloc (.cells #[.int .i64 o.kind, .int .i64 o.dev, .int .i64 o.arg, .int .i64 o.n] 31)).alloc (.cells #[.int .i64 0, .int .i64 0, .int .i64 0, .int .i64 0, .slice none 0 0] 24) = w3 at *
      have hk3 := Below.refl w3.heap.size w3
      obtain ⟨x0, x1, x2, x3, x4⟩ := (HAH.out w3 hk3).1.2.1.cells
      obtain ⟨y0, y1, y2, y3⟩ := (HAH.out w3 hk3).1.2.2.1.cells
      obtain ⟨z0, z1, z2, z3, z4⟩ := (HAH.out w3 hk3).1.2.2.2.1.cells
      have f0 := (HAH.out w3 hk3).1.2.2.2.1.free 0
      have f1 := (HAH.out w3 hk3).1.2.2.2.1.free 1
      have f2 := (HAH.out w3 hk3).1.2.2.2.1.free 2
      have f3 := (HAH.out w3 hk3).1.2.2.2.1.free 3
      have f4 := (HAH.out w3 hk3).1.2.2.2.1.free 4
      go_wp2_with fail
      rw [HR2.out]
      obtain ⟨q0, q1, q2, q3, q4⟩ := cells5 (set5 (HAH.out w3 hk3).1.2.2.2.1 (.int .i64 p.tx) (.int .i64 p.time) (.int .i64 p.unit) (.int .i64 p.data) (.slice A n c))
      refine bodyPost_ret (v := .tuple #[.agg #[.int .i64 p.tx, .int .i64 p.time, .int .i64 p.unit, .int .i64 p.data, .slice A n c], .int .i64 2]) (by simp [results, Try.results18, go_sem, q0, q1, q2, q3, q4]) rfl ?_
      exact DoR.weak (do_stop hl.out (HAH.out w3 hk3).1 (HAH.out w3 hk3).2.1 H3.out rfl (by simp) _ _ _ _ _)
  · have HR2 := Lib.hid (show r = (0, ⟨p.tx, p.time, p.unit, o.n, p.devs⟩) by rw [HTK.out, if_neg ht])
    have t1 : ¬ o.n < p.data := by omega
    have t2 : ¬ 65536 < o.n := by omega
    clear HTK ht
    go_enter Try.func18, Try.ntmps18
    go_upto_region 1 with fail
    generalize ((w.alloc (.cells #[.int .i64 p.tx, .int .i64 p.time, .int .i64 p.unit, .int .i64 p.data, .slice A n c] 24)).alloc (.cells #[.int .i64 o.kind, .int .i64 o.dev, .int .i64 o.arg, .int .i64 o.n] 31)).alloc (.cells #[.int .i64 0, .int .i64 0, .int .i64 0, .int .i64 0, .slice none 0 0] 24) = w3 at *
    have hk3 := Below.refl w3.heap.size w3
    obtain ⟨x0, x1, x2, x3, x4⟩ := (HAH.out w3 hk3).1.2.1.cells
    obtain ⟨y0, y1, y2, y3⟩ := (HAH.out w3 hk3).1.2.2.1.cells
    obtain ⟨z0, z1, z2, z3, z4⟩ := (HAH.out w3 hk3).1.2.2.2.1.cells
    have f0 := (HAH.out w3 hk3).1.2.2.2.1.free 0
    have f1 := (HAH.out w3 hk3).1.2.2.2.1.free 1
    have f2 := (HAH.out w3 hk3).1.2.2.2.1.free 2
    have f3 := (HAH.out w3 hk3).1.2.2.2.1.free 3
    have f4 := (HAH.out w3 hk3).1.2.2.2.1.free 4
    have fp := (HAH.out w3 hk3).1.2.1.free 3
    go_upto_region 23 with fail
    obtain ⟨w6, hw6⟩ : ∃ x, w3.setCell ⟨w.heap.size, 3, none⟩ (.int .i64 o.n) = x := ⟨_, rfl⟩
    obtain ⟨b0, b2, hfin⟩ := num_ret (q := ⟨p.tx, p.time, p.unit, o.n, p.devs⟩) (HAH.out w3 hk3).1 H3.out (HAH.out w3 hk3).2.1 hl.out rfl rfl w6 hw6
    have HF := Lib.hid hfin
    rw [hw6]
    clear hfin hw6 x0 x1 x2 x3 x4 y0 y1 y2 y3 z0 z1 z2 z3 z4 f0 f1 f2 f3 f4 fp
    obtain ⟨x0, x1, x2, x3, x4⟩ := b0.cells
    obtain ⟨z0, z1, z2, z3, z4⟩ := b2.cells
    have f0 := b2.free 0
    have f1 := b2.free 1
    have f2 := b2.free 2
    have f3 := b2.free 3
    have f4 := b2.free 4
    go_wp2_with fail
    rw [HR2.out]
    obtain ⟨q0, q1, q2, q3, q4⟩ := cells5 (set5 b2 (.int .i64 p.tx) (.int .i64 p.time) (.int .i64 p.unit) (.int .i64 o.n) (.slice A n c))
    exact bodyPost_ret (v := .tuple #[.agg #[.int .i64 p.tx, .int .i64 p.time, .int .i64 p.unit, .int .i64 o.n, .slice A n c], .int .i64 0]) (by simp [results, Try.results18, go_sem, q0, q1, q2, q3, q4]) rfl (HF.out _ _ _ _ _)
set_option maxRecDepth 100000 in
set_option maxHeartbeats 1600000 in
theorem rdo_none (w : World) (base c : Nat) (p : Pool) (A : Option Addr) (M : Nat → Value) (o : Mop) (h3 : OwnDevs w base (.slice A p.devs.length c) p.devs M) (h1 : o.kind ≠ 1) (h2 : o.kind ≠ 2) (h3' : o.kind ≠ 3) (h4 : o.kind ≠ 4) (h5 : o.kind ≠ 5) (h6 : o.kind ≠ 6) (h7 : o.kind ≠ 7) :
    Calls Try.prog 18 #[.agg #[.int .i64 p.tx, .int .i64 p.time, .int .i64 p.unit, .int .i64 p.data, .slice A p.devs.length c], mopV o] w (DoR2 w base (.slice A p.devs.length c) p.devs.length M (1, p)) := by
  have T := three_new w p A p.devs.length c o
  dsimp only [poolBox, op9Box, zeroBox] at T
  have HAH := Lib.hid (op_ahead h3 T)
  have H3 := Lib.hid h3
  have hk1 : (o.kind == 1) = false := by simpa using h1
  have hk2 : (o.kind == 2) = false := by simpa using h2
  have hk3' : (o.kind == 3) = false := by simpa using h3'
  have hk4 : (o.kind == 4) = false := by simpa using h4
  have hk5 : (o.kind == 5) = false := by simpa using h5
  have hk6 : (o.kind == 6) = false := by simpa using h6
  have hk7 : (o.kind == 7) = false := by simpa using h7
  clear h3 h1 h2 h3' h4 h5 h6 h7
  generalize hl0 : p.devs.length = n at *
  have hl := Lib.hid hl0
  clear hl0
  go_enter Try.func18, Try.ntmps18
  go_upto_region 1 with fail
  generalize ((w.alloc (.cells #[.int .i64 p.tx, .int .i64 p.time, .int .i64 p.unit, .int .i64 p.data, .slice A n c] 24)).alloc (.cells #[.int .i64 o.kind, .int .i64 o.dev, .int .i64 o.arg, .int .i64 o.n] 31)).alloc (.cells #[.int .i64 0, .int .i64 0, .int .i64 0, .int .i64 0, .slice none 0 0] 24) = w3 at *
  have hk3 := Below.refl w3.heap.size w3
  obtain ⟨x0, x1, x2, x3, x4⟩ := (HAH.out w3 hk3).1.2.1.cells
  obtain ⟨y0, y1, y2, y3⟩ := (HAH.out w3 hk3).1.2.2.1.cells
  obtain ⟨z0, z1, z2, z3, z4⟩ := (HAH.out w3 hk3).1.2.2.2.1.cells
  have f0 := (HAH.out w3 hk3).1.2.2.2.1.free 0
  have f1 := (HAH.out w3 hk3).1.2.2.2.1.free 1
  have f2 := (HAH.out w3 hk3).1.2.2.2.1.free 2
  have f3 := (HAH.out w3 hk3).1.2.2.2.1.free 3
  have f4 := (HAH.out w3 hk3).1.2.2.2.1.free 4
  go_wp2_with fail
  obtain ⟨q0, q1, q2, q3, q4⟩ := cells5 (set5 (HAH.out w3 hk3).1.2.2.2.1 (.int .i64 p.tx) (.int .i64 p.time) (.int .i64 p.unit) (.int .i64 p.data) (.slice A n c))
  refine bodyPost_ret (v := .tuple #[.agg #[.int .i64 p.tx, .int .i64 p.time, .int .i64 p.unit, .int .i64 p.data, .slice A n c], .int .i64 1]) (by simp [results, Try.results18, go_sem, q0, q1, q2, q3, q4]) rfl ?_
  exact DoR.weak (do_stop hl.out (HAH.out w3 hk3).1 (HAH.out w3 hk3).2.1 H3.out rfl (by simp) _ _ _ _ _)
end Go.Proofs.Ytjeeheeaickokaa

/- The reference's do (scantlingref49) at a Delete; at any op. Condition: the pool may be, and lies in memory of the call's own. -/
namespace Go.Proofs.Ytjeeheeaickokaa

open Go.RowKit
attribute [local go_sem] Oper.semAt_some
set_option linter.unusedSimpArgs false
set_option linter.unusedVariables false

/-- A row picked from an older one: each device with its mappings. -/
theorem OwnDevs.pick {w w' : World} {base : Nat} {v v' : Value} {l l' : List Dev} {M : Nat → Value} {xs ys : List Value} (f : Nat → Nat) (hc : ∀ j, j < l.length → DevCells xs j (nth dev0 l j) (M j) ∧ OwnMaps w base (M j) (nth dev0 l j).maps ∧ (∀ g, (M j).ownBlock = some g → some g ≠ v.ownBlock))
    (hap : ∀ i j, i < l.length → j < l.length → i ≠ j → ∀ g, (M j).ownBlock = some g → some g ≠ (M i).ownBlock) (hB : Below w.heap.size w w') (hrow : w'.ownsRow base 46 5 v' l'.length ys)
    (hf : ∀ j, j < l'.length → f j < l.length ∧ nth dev0 l' j = nth dev0 l (f j) ∧ ∀ r, r < 5 → ys[j * 5 + r]? = xs[f j * 5 + r]?) (hinj : ∀ i j, i ≠ j → f i ≠ f j) (hnew : ∀ x, v'.ownBlock = some x → w.heap.size ≤ x) :
    OwnDevs w' base v' l' (fun j => M (f j)) := by
  refine ⟨ys, hrow, fun j hj => ?_, fun i j hi hj hij g hg => ?_⟩
  · obtain ⟨h1, h2, h3⟩ := hf j hj
    obtain ⟨⟨c0, c1, c2, c3, c4⟩, hm, _⟩ := hc (f j) h1
    rw [h2]
    refine ⟨⟨?_, ?_, ?_, ?_, ?_⟩, own_below hm hB (fun x hx => (hm.lt x hx).2), fun g hg he => ?_⟩
    · have := h3 0 (by omega); rw [Nat.add_zero, Nat.add_zero] at this; rw [this]; exact c0
    · rw [h3 1 (by omega)]; exact c1
    · rw [h3 2 (by omega)]; exact c2
    · rw [h3 3 (by omega)]; exact c3
    · rw [h3 4 (by omega)]; exact c4
    · have h4 := (hm.lt g hg).2
      have h5 := hnew g he.symm
      omega
  · exact hap (f i) (f j) (hf i hi).1 (hf j hj).1 (hinj i j hij) g hg
theorem src_takeX {w : World} {A : Option Addr} {xs : List Value} (i : Nat) (h : ∀ d, A = some d → ∀ j u, xs[j]? = some u → w.cell? (d.add j) = some u) : ∀ d, A = some d → ∀ j u, (xs.take i)[j]? = some u → w.cell? (d.add j) = some u := by
  intro d hd j u hj
  refine h d hd j u ?_
  rw [← hj, List.getElem?_take, if_pos]
  have := (List.getElem?_eq_some_iff.1 hj).1
  rw [List.length_take] at this
  omega
theorem src_dropX {w : World} {A : Option Addr} {xs : List Value} {L cm s : Nat} (i : Nat) (hi : i ≤ L) (hc : L ≤ cm) (hl : xs.length = L * s) (h : (∀ d, A = some d → ∀ j u, xs[j]? = some u → w.cell? (d.add j) = some u) ∧ (A = none → L = 0)) :
    (∀ d, (if cm = i then A else Option.map (fun x => x.add (i * s)) A) = some d → ∀ j u, (xs.drop (i * s))[j]? = some u → w.cell? (d.add j) = some u) ∧ ((if cm = i then A else Option.map (fun x => x.add (i * s)) A) = none → L - i = 0) := by
  by_cases e : cm = i
  · rw [if_pos e]
    refine ⟨fun d _ j u hj => ?_, fun _ => by omega⟩
    have : xs.length ≤ i * s := by rw [hl]; exact Nat.mul_le_mul_right _ (by omega)
    rw [List.drop_of_length_le this] at hj
    simp at hj
  · rw [if_neg e]
    refine ⟨fun d hd j u hj => ?_, fun hd => ?_⟩
    · obtain ⟨a, ha, rfl⟩ := Option.map_eq_some_iff.1 hd
      rw [add_add]
      exact h.1 a ha (i * s + j) u (by rw [← hj, List.getElem?_drop])
    · have : A = none := by simpa using hd
      have := h.2 this
      omega
theorem one_take {xs : List Value} {i : Nat} (h : ∀ u ∈ xs, u.oneCell' = true) : ∀ u ∈ xs.take i, u.oneCell' = true := fun u hu => h u (List.mem_of_mem_take hu)
theorem one_drop {xs : List Value} {i : Nat} (h : ∀ u ∈ xs, u.oneCell' = true) : ∀ u ∈ xs.drop i, u.oneCell' = true := fun u hu => h u (List.mem_of_mem_drop hu)
/-- Without device k. -/
theorem del_fin {w w3 W : World} {base n c k c9 : Nat} {p : Pool} {A A9 : Option Addr} {M : Nat → Value} {o : Mop} {xs : List Value} (T : Three w w3 p A n c o) (h0 : OwnDevs w base (.slice A n c) p.devs M) (hn : p.devs.length = n) (hk : k < n) (hb : base ≤ w.heap.size) (hx : xs.length = n * 5)
    (hc : ∀ j, j < p.devs.length → DevCells xs j (nth dev0 p.devs j) (M j) ∧ OwnMaps w3 base (M j) (nth dev0 p.devs j).maps ∧ (∀ g, (M j).ownBlock = some g → some g ≠ (Value.slice A n c).ownBlock))
    (hap : ∀ i j, i < p.devs.length → j < p.devs.length → i ≠ j → ∀ g, (M j).ownBlock = some g → some g ≠ (M i).ownBlock) (hB : Below w3.heap.size w3 W) (hlo : ∀ x, (Value.slice A9 (k + (n - (k + 1))) c9).ownBlock = some x → w3.heap.size ≤ x)
    (ho : W.ownsRow (w.heap.size + 3) 46 5 (.slice A9 (k + (n - (k + 1))) c9) (k + (n - (k + 1))) (xs.take (k * 5) ++ xs.drop ((k + 1) * 5))) (W2 : World) (hW : W.setCell ⟨w.heap.size, 4, none⟩ (.slice A9 (k + (n - (k + 1))) c9) = W2) :
    PBox W2 w.heap.size p A9 (k + (n - (k + 1))) c9 ∧ RBox W2 (w.heap.size + 1 + 1) (.int .i64 0) (.int .i64 0) (.int .i64 0) (.int .i64 0) (.slice none 0 0) ∧
      ∀ (u0 u1 u2 u3 u4 : Value), DoR2 w base (.slice A n c) n M (0, withDevs p (delAt p.devs k)) (.returned (.tuple #[.agg #[.int .i64 p.tx, .int .i64 p.time, .int .i64 p.unit, .int .i64 p.data, .slice A9 (k + (n - (k + 1))) c9], .int .i64 0])) (((((W2.setCell ⟨w.heap.size + 1 + 1, 0, none⟩ u0).setCell ⟨w.heap.size + 1 + 1, 1, none⟩ u1).setCell ⟨w.heap.size + 1 + 1, 2, none⟩ u2).setCell ⟨w.heap.size + 1 + 1, 3, none⟩ u3).setCell ⟨w.heap.size + 1 + 1, 4, none⟩ u4) := by
  subst hn hW
  have hz := T.2.2.2.2
  have hlt := own1_lt h0 rfl
  have hdl := delAt_length p.devs k hk
  have hm : k + (p.devs.length - (k + 1)) = (delAt p.devs k).length := by omega
  rw [hm] at ho hlo ⊢
  have hd : OwnDevs W base (.slice A9 (delAt p.devs k).length c9) (delAt p.devs k) (fun j => M (if j < k then j else j + 1)) := by
    refine OwnDevs.pick (fun j => if j < k then j else j + 1) hc hap hB (own_low ho (by omega)) (fun j hj => ?_) (fun i j hij => ?_) hlo
    · refine ⟨by split <;> omega, ?_, fun r hr => ?_⟩
      · rw [nth_delAt dev0 p.devs k j hk]
        split <;> rfl
      · have e : xs.take (k * 5) ++ xs.drop ((k + 1) * 5) = xs.take (k * 5) ++ xs.drop (k * 5 + 5) := by rw [Nat.add_mul]
        rw [e, delC_get hx hk hr]
        split <;> rfl
    · split <;> split <;> omega
  have hfar : ∀ b, w.heap.size ≤ b → b < w.heap.size + 3 → ¬ Own1 (.slice A9 (delAt p.devs k).length c9) (delAt p.devs k).length (fun j => M (if j < k then j else j + 1)) b := by
    rintro b h1 h2 (h | ⟨j, hj, h⟩)
    · have := hlo b h; omega
    · have := hlt b (.inr ⟨_, by split <;> omega, h⟩); omega
  refine ⟨?_, (Below.heap_setCell _ ⟨w.heap.size, 4, none⟩ _ _ (by simp only [ne_eq]; omega)).trans (box_up T.2.2.2.1 hB), fun u0 u1 u2 u3 u4 => ?_⟩
  · have hp : PBox W w.heap.size p A p.devs.length c := box_up T.2.1 hB
    unfold PBox at hp ⊢
    simp [World.setCell, Array.getElem?_modify, hp]
  · refine DoR.weak (do_ret (q := withDevs p (delAt p.devs k)) (hd.kept (grownBy_set W ⟨w.heap.size, 4, none⟩ _) (far_own1 rfl (hfar w.heap.size (Nat.le_refl _) (by omega)))) rfl (touch_set ((Touch.of_below T.1).trans (Touch.of_below hB)) (Nat.le_refl _) 4 _) (by omega) (hfar _ (by omega) (by omega)) (fun _ => rfl) (fun x hx => ?_) rfl u0 u1 u2 u3 u4)
    rcases hx with h | ⟨j, hj, h⟩
    · exact .inr (by have := hlo x h; omega)
    · refine .inl (.inr ⟨_, ?_, h⟩)
      have hj : j < (delAt p.devs k).length := hj
      split <;> omega
set_option maxRecDepth 100000 in
set_option maxHeartbeats 3200000 in
theorem rdo_remove (w : World) (base c : Nat) (p : Pool) (A : Option Addr) (M : Nat → Value) (o : Mop) (h3 : OwnDevs w base (.slice A p.devs.length c) p.devs M) (hb : base ≤ w.heap.size) (hpc : poolChk p = 0) (hk : o.kind = 3) :
    Calls Try.prog 18 #[.agg #[.int .i64 p.tx, .int .i64 p.time, .int .i64 p.unit, .int .i64 p.data, .slice A p.devs.length c], mopV o] w (DoR2 w base (.slice A p.devs.length c) p.devs.length M (removeF p o)) := by
  have T := three_new w p A p.devs.length c o
  dsimp only [poolBox, op9Box, zeroBox] at T
  have HAH := Lib.hid (op_ahead h3 T)
  have hln := pool_len hpc
  have HPL := Lib.hid (fun w' (hz : w.heap.size ≤ w'.heap.size) (h : IsPool w' (Lt w.heap.size) (.agg #[.int .i64 p.tx, .int .i64 p.time, .int .i64 p.unit, .int .i64 p.data, .slice A p.devs.length c]) p) => rplace_any w' (Lt w.heap.size) _ p o.dev (fun b (hb : b < w.heap.size) => Nat.lt_of_lt_of_le hb hz) h (incK_devs hpc) (by omega))
  have H3 := Lib.hid h3
  have hcr : removeF p o = if dhas p o.dev = false then (18, p) else (0, withDevs p (delAt p.devs (dpos p o.dev))) := rfl
  rw [hcr]
  have HPC := Lib.hid hpc
  have hk1 : (o.kind == 1) = ((o.kind : Int) == 1) := rfl
  have hk2 : (o.kind == 2) = ((o.kind : Int) == 2) := rfl
  have hk3' : (o.kind == 3) = ((o.kind : Int) == 3) := rfl
  have hk4 : (o.kind == 4) = ((o.kind : Int) == 4) := rfl
  have hk5 : (o.kind == 5) = ((o.kind : Int) == 5) := rfl
  have hk6 : (o.kind == 6) = ((o.kind : Int) == 6) := rfl
  have hk7 : (o.kind == 7) = ((o.kind : Int) == 7) := rfl
  conv at hk1 => rhs; rw [hk]; simp
  conv at hk2 => rhs; rw [hk]; simp
  conv at hk3' => rhs; rw [hk]; simp
  conv at hk4 => rhs; rw [hk]; simp
  conv at hk5 => rhs; rw [hk]; simp
  conv at hk6 => rhs; rw [hk]; simp
  conv at hk7 => rhs; rw [hk]; simp
  clear hk
  cases hbb : dhas p o.dev with
  | false =>
    rw [if_pos rfl]
    have hpl : placeI p o.dev = -1 := by unfold placeI; rw [if_neg (by rw [hbb]; simp)]
    rw [hpl] at HPL
    clear h3 hpc hcr hbb hpl
    generalize hl0 : p.devs.length = n at *
    have hl := Lib.hid hl0
    clear hl0
    go_enter Try.func18, Try.ntmps18
    go_upto_region 1 with fail
    generalize ((w.alloc (.cells #[.int .i64 p.tx, .int .i64 p.time, .int .i64 p.unit, .int .i64 p.data, .slice A n c] 24)).alloc (.cells #[.int .i64 o.kind, .int .i64 o.dev, .int .i64 o.arg, .int .i64 o.n] 31)).alloc (.cells #[.int .i64 0, .int .i64 0, .int .i64 0, .int .i64 0, .slice none 0 0] 24) = w3 at *
    have hk3 := Below.refl w3.heap.size w3
    obtain ⟨x0, x1, x2, x3, x4⟩ := (HAH.out w3 hk3).1.2.1.cells
    obtain ⟨y0, y1, y2, y3⟩ := (HAH.out w3 hk3).1.2.2.1.cells
    obtain ⟨z0, z1, z2, z3, z4⟩ := (HAH.out w3 hk3).1.2.2.2.1.cells
    have f0 := (HAH.out w3 hk3).1.2.2.2.1.free 0
    have f1 := (HAH.out w3 hk3).1.2.2.2.1.free 1
    have f2 := (HAH.out w3 hk3).1.2.2.2.1.free 2
    have f3 := (HAH.out w3 hk3).1.2.2.2.1.free 3
    have f4 := (HAH.out w3 hk3).1.2.2.2.1.free 4
    go_wp2_with (go_at_call 37; (have hx := HPL.out w3 (HAH.out w3 hk3).1.1.size (HAH.out w3 hk3).2.2.1; with_reducible refine hx.mono ?_; clear hx); rintro e w4 ⟨rfl, hk4⟩; clear x0 x1 x2 x3 x4 y0 y1 y2 y3 z0 z1 z2 z3 z4 f0 f1 f2 f3 f4; obtain ⟨x0, x1, x2, x3, x4⟩ := (HAH.out w4 hk4).1.2.1.cells; obtain ⟨y0, y1, y2, y3⟩ := (HAH.out w4 hk4).1.2.2.1.cells; obtain ⟨z0, z1, z2, z3, z4⟩ := (HAH.out w4 hk4).1.2.2.2.1.cells; have f0 := (HAH.out w4 hk4).1.2.2.2.1.free 0; have f1 := (HAH.out w4 hk4).1.2.2.2.1.free 1; have f2 := (HAH.out w4 hk4).1.2.2.2.1.free 2; have f3 := (HAH.out w4 hk4).1.2.2.2.1.free 3; have f4 := (HAH.out w4 hk4).1.2.2.2.1.free 4)
    obtain ⟨q0, q1, q2, q3, q4⟩ := cells5 (set5 (HAH.out w4 hk4).1.2.2.2.1 (.int .i64 p.tx) (.int .i64 p.time) (.int .i64 p.unit) (.int .i64 p.data) (.slice A n c))
    refine bodyPost_ret (v := .tuple #[.agg #[.int .i64 p.tx, .int .i64 p.time, .int .i64 p.unit, .int .i64 p.data, .slice A n c], .int .i64 18]) (by simp [results, Try.results18, go_sem, q0, q1, q2, q3, q4]) rfl ?_
    exact DoR.weak (do_stop hl.out (HAH.out w4 hk4).1 (HAH.out w4 hk4).2.1 H3.out rfl (by simp) _ _ _ _ _)
  | true =>
    rw [if_neg (by simp)]
    have hkl : dpos p o.dev < p.devs.length := (dpos_lt (fit_iff.1 hpc) hbb).1
    have hpl : placeI p o.dev = (dpos p o.dev : Int) := by unfold placeI; rw [if_pos hbb]
    rw [hpl] at HPL
    obtain ⟨_, _, _, _, hnc⟩ : ∃ xs, w.ownsRow base 46 5 (.slice A p.devs.length c) p.devs.length xs ∧ True ∧ True ∧ p.devs.length ≤ c := by
      obtain ⟨xs, r1, _⟩ := h3
      refine ⟨xs, r1, trivial, trivial, ?_⟩
      obtain ⟨_, c', e, h⟩ := own_form0 r1
      injection e with _ _ e3
      rw [e3]; exact h
    clear h3 hpc hcr hbb hpl
    generalize hkk : dpos p o.dev = k at *
    clear hkk
    generalize hl0 : p.devs.length = n at *
    have hl := Lib.hid hl0
    clear hl0
    have hp0 : ¬ ((k : Int) < 0) := by omega
    go_enter Try.func18, Try.ntmps18
    go_upto_region 1 with fail
    generalize ((w.alloc (.cells #[.int .i64 p.tx, .int .i64 p.time, .int .i64 p.unit, .int .i64 p.data, .slice A n c] 24)).alloc (.cells #[.int .i64 o.kind, .int .i64 o.dev, .int .i64 o.arg, .int .i64 o.n] 31)).alloc (.cells #[.int .i64 0, .int .i64 0, .int .i64 0, .int .i64 0, .slice none 0 0] 24) = w3 at *
    have hk3 := Below.refl w3.heap.size w3
    obtain ⟨x0, x1, x2, x3, x4⟩ := (HAH.out w3 hk3).1.2.1.cells
    obtain ⟨y0, y1, y2, y3⟩ := (HAH.out w3 hk3).1.2.2.1.cells
    obtain ⟨z0, z1, z2, z3, z4⟩ := (HAH.out w3 hk3).1.2.2.2.1.cells
    have f0 := (HAH.out w3 hk3).1.2.2.2.1.free 0
    have f1 := (HAH.out w3 hk3).1.2.2.2.1.free 1
    have f2 := (HAH.out w3 hk3).1.2.2.2.1.free 2
    have f3 := (HAH.out w3 hk3).1.2.2.2.1.free 3
    have f4 := (HAH.out w3 hk3).1.2.2.2.1.free 4
    go_wp2_with (go_at_call 37; (have hx := HPL.out w3 (HAH.out w3 hk3).1.1.size (HAH.out w3 hk3).2.2.1; with_reducible refine hx.mono ?_; clear hx); rintro e w4 ⟨rfl, hk4⟩; clear x0 x1 x2 x3 x4 y0 y1 y2 y3 z0 z1 z2 z3 z4 f0 f1 f2 f3 f4; obtain ⟨x0, x1, x2, x3, x4⟩ := (HAH.out w4 hk4).1.2.1.cells; obtain ⟨y0, y1, y2, y3⟩ := (HAH.out w4 hk4).1.2.2.1.cells; obtain ⟨z0, z1, z2, z3, z4⟩ := (HAH.out w4 hk4).1.2.2.2.1.cells; have f0 := (HAH.out w4 hk4).1.2.2.2.1.free 0; have f1 := (HAH.out w4 hk4).1.2.2.2.1.free 1; have f2 := (HAH.out w4 hk4).1.2.2.2.1.free 2; have f3 := (HAH.out w4 hk4).1.2.2.2.1.free 3; have f4 := (HAH.out w4 hk4).1.2.2.2.1.free 4)
    have hz4 := (HAH.out w4 hk4).1.2.2.2.2
    obtain ⟨xs, hrow, hc, hap⟩ := (HAH.out w4 hk4).2.1
    have hxs := own_len hrow
    rw [hl.out] at hxs
    have HXS := Lib.hid hxs
    have HRC := Lib.hid (And.intro hc hap)
    have HONE := Lib.hid (devs_one (own_len hrow) (fun j hj => ⟨(hc j hj).1, (hc j hj).2.1⟩))
    rw [hl.out] at hrow
    have HRW := Lib.hid (fun w' (hB : Below w4.heap.size w4 w') => own_src (own_below hrow hB (fun x hx => (hrow.lt x hx).2)))
    have HT5 := Lib.hid (show (xs.take (k * 5)).length = k * 5 by rw [List.length_take, hxs]; omega)
    have HD5 := Lib.hid (show (xs.drop ((k + 1) * 5)).length = (n - (k + 1)) * 5 by rw [List.length_drop, hxs]; omega)
    have hki : (k : Int) ≤ (c : Int) := by omega
    have hkj : (k : Int) + 1 ≤ (n : Int) := by omega
    have hkj0 : 0 ≤ (k : Int) + 1 := by omega
    have hwk : IntKind.i64.wrap ((k : Int) + 1) = ((k + 1 : Nat) : Int) := IntWalk.i64_in _ (by omega)
    clear hxs hc hap hrow x0 x1 x2 x3 x4 y0 y1 y2 y3 z0 z1 z2 z3 z4 f0 f1 f2 f3 f4
    refine wp_region_till (T := fun j => j == 13) (S := fun w' => Below w4.heap.size w4 w') (by kernel_rfl) (Below.refl w4.heap.size w4).drew (fun hHeld => ?_)
    obtain ⟨w101, hw0⟩ : ∃ x, w4.drew = x := ⟨_, rfl⟩
    rw [hw0] at hHeld ⊢
    have hkA : Below w4.heap.size w4 w101 := hHeld
    clear hHeld hw0
    refine wpTill_put 1 27 (oi := _) (v := ?_) rfl rfl (by kernel_rfl) (by kernel_rfl) (by kernel_rfl) (by kernel_rfl) (fun _ _ _ h => h) (by rfl) hkA ?_ ?_
    rotate_left
    · (intro w2' hSw; go_simp; (try with_reducible rfl))
    (try simp only [Act.put, List.setIfInBounds_toArray, List.set_cons_zero, List.set_cons_succ])
    refine wpTill_put 2 28 (oi := _) (v := ?_) rfl rfl (by kernel_rfl) (by kernel_rfl) (by kernel_rfl) (by kernel_rfl) (fun _ _ _ h => h) (by rfl) hkA ?_ ?_
    rotate_left
    · (intro w2' hSw; obtain ⟨x0, x1, x2, x3, x4⟩ := (HAH.out w2' (hk4.trans (Below.mono hSw hk4.size))).1.2.1.cells; go_simp; (try with_reducible rfl))
    (try simp only [Act.put, List.setIfInBounds_toArray, List.set_cons_zero, List.set_cons_succ])
    refine wpTill_put 3 29 (oi := _) (v := ?_) rfl rfl (by kernel_rfl) (by kernel_rfl) (by kernel_rfl) (by kernel_rfl) (fun _ _ _ h => h) (by rfl) hkA ?_ ?_
    rotate_left
    · (intro w2' hSw; go_simp; (try with_reducible rfl))
    (try simp only [Act.put, List.setIfInBounds_toArray, List.set_cons_zero, List.set_cons_succ])
    refine wpTill_put 4 30 (oi := _) (v := ?_) rfl rfl (by kernel_rfl) (by kernel_rfl) (by kernel_rfl) (by kernel_rfl) (fun _ _ _ h => h) (by rfl) hkA ?_ ?_
    rotate_left
    · (intro w2' hSw; go_simp; (try with_reducible rfl))
    (try simp only [Act.put, List.setIfInBounds_toArray, List.set_cons_zero, List.set_cons_succ])
    refine wpTill_put 6 32 (oi := _) (v := ?_) rfl rfl (by kernel_rfl) (by kernel_rfl) (by kernel_rfl) (by kernel_rfl) (fun _ _ _ h => h) (by rfl) hkA ?_ ?_
    rotate_left
    · (intro w2' hSw; go_simp; (try with_reducible rfl))
    (try simp only [Act.put, List.setIfInBounds_toArray, List.set_cons_zero, List.set_cons_succ])
    refine wpTill_put 7 33 (oi := _) (v := ?_) rfl rfl (by kernel_rfl) (by kernel_rfl) (by kernel_rfl) (by kernel_rfl) (fun _ _ _ h => h) (by rfl) hkA ?_ ?_
    rotate_left
    · (intro w2' hSw; obtain ⟨x0, x1, x2, x3, x4⟩ := (HAH.out w2' (hk4.trans (Below.mono hSw hk4.size))).1.2.1.cells; go_simp; (try with_reducible rfl))
    (try simp only [Act.put, List.setIfInBounds_toArray, List.set_cons_zero, List.set_cons_succ])
    refine wpTill_put 8 34 (oi := _) (v := ?_) rfl rfl (by kernel_rfl) (by kernel_rfl) (by kernel_rfl) (by kernel_rfl) (fun _ _ _ h => h) (by rfl) hkA ?_ ?_
    rotate_left
    · (intro w2' hSw; go_simp; (try with_reducible rfl))
    (try simp only [Act.put, List.setIfInBounds_toArray, List.set_cons_zero, List.set_cons_succ])
    refine wpTill_put 9 35 (oi := _) (v := ?_) rfl rfl (by kernel_rfl) (by kernel_rfl) (by kernel_rfl) (by kernel_rfl) (fun _ _ _ h => h) (by rfl) hkA ?_ ?_
    rotate_left
    · (intro w2' hSw; go_simp; (try with_reducible rfl))
    (try simp only [Act.put, List.setIfInBounds_toArray, List.set_cons_zero, List.set_cons_succ])
    refine wpTill_put 10 36 (oi := _) (v := ?_) rfl rfl (by kernel_rfl) (by kernel_rfl) (by kernel_rfl) (by kernel_rfl) (fun _ _ _ h => h) (by rfl) hkA ?_ ?_
    rotate_left
    · (intro w2' hSw; go_simp; (try with_reducible rfl))
    (try simp only [Act.put, List.setIfInBounds_toArray, List.set_cons_zero, List.set_cons_succ])
    refine wpTill_one 0 (o := _) (by kernel_rfl) rfl (fun K hK => ?_)
    go_simp
    obtain ⟨w102, hwn⟩ : ∃ x, w101.alloc (.cells #[] 46) = x := ⟨_, rfl⟩
    have hBn : Below w101.heap.size w101 w102 := by rw [← hwn]; exact (Below.refl _ _).alloc (Nat.le_refl _) _
    have b0 : w102.heap[w101.heap.size]? = some (.cells #[] 46) := by rw [← hwn]; exact heap_alloc_new w101 _
    have hge0 := hkA.size
    have hz0 : w101.heap.size < w102.heap.size := by rw [← hwn]; simp
    have hkA := hkA.trans (hBn.mono hkA.size)
    rw [hwn]
    clear hwn hBn
    refine hK.out _ _ (fun _ => hkA) (fun _ => ?_)
    clear hK K
    (try simp only [Act.put, List.setIfInBounds_toArray, List.set_cons_zero, List.set_cons_succ])
    refine wpTill_one 5 (o := _) (by kernel_rfl) rfl (fun K hK => ?_)
    have hsr := HRW.out w102 hkA
    refine step_append_optB Try.underlying22 info_dev rfl (by omega) (by omega) rfl (.tmp 26) (.tmp 30) rfl (w.heap.size + 3) (.slice (some ⟨w101.heap.size, 0, none⟩) 0 0) 0 [] rfl (made0 b0 (by omega)) A k c (xs.take (k * 5)) rfl HT5.out (src_takeX _ hsr.1) (one_take HONE.out) (by omega) (by omega) (fun h => by have := hsr.2 h; omega) ?_
    intro A5 c5 w103 ho5 hg5 hb5
    rw [Nat.zero_add, List.nil_append] at ho5
    rw [Nat.zero_add] at hb5
    have HB5 := Lib.hid (app_step hkA (app_lo hge0) hg5 hb5)
    have HO5 := Lib.hid ho5
    have hkA := HB5.out.1
    clear ho5 hg5 hb5 hsr
    simp only [Nat.zero_add]
    refine hK.out _ _ (fun _ => hkA) (fun _ => ?_)
    clear hK K
    (try simp only [Act.put, List.setIfInBounds_toArray, List.set_cons_zero, List.set_cons_succ])
    refine wpTill_one 11 (o := _) (by kernel_rfl) rfl (fun K hK => ?_)
    have hdr := src_dropX (k + 1) (by omega) hnc HXS.out (HRW.out w103 hkA)
    refine step_append_optB Try.underlying22 info_dev rfl (by omega) (by omega) rfl (.tmp 31) (.tmp 36) rfl (w.heap.size + 3) (.slice A5 k c5) k (xs.take (k * 5)) rfl HO5.out _ (n - (k + 1)) (c - (k + 1)) (xs.drop ((k + 1) * 5)) rfl HD5.out hdr.1 (one_drop HONE.out) (by omega) (by have := hkA.size; omega) hdr.2 ?_
    intro A6 c6 w104 ho6 hg6 hb6
    have HB6 := Lib.hid (app_step hkA HB5.out.2 hg6 hb6)
    have HO6 := Lib.hid ho6
    have hkA := HB6.out.1
    clear ho6 hg6 hb6 hdr
    refine hK.out _ _ (fun _ => hkA) (fun _ => ?_)
    clear hK K
    (try simp only [Act.put, List.setIfInBounds_toArray, List.set_cons_zero, List.set_cons_succ])
    refine wpTill_put 12 38 (oi := _) (v := ?_) rfl rfl (by kernel_rfl) (by kernel_rfl) (by kernel_rfl) (by kernel_rfl) (fun _ _ _ h => h) (by rfl) hkA ?_ ?_
    rotate_left
    · (intro w2' hSw; go_simp; (try with_reducible rfl))
    (try simp only [Act.put, List.setIfInBounds_toArray, List.set_cons_zero, List.set_cons_succ])
    refine wpTill_one 13 (o := _) (by kernel_rfl) rfl (fun K hK => ?_)
    obtain ⟨x0, x1, x2, x3, x4⟩ := (HAH.out w104 (hk4.trans (hkA.mono hk4.size))).1.2.1.cells
    have fp := (HAH.out w104 (hk4.trans (hkA.mono hk4.size))).1.2.1.free 4
    go_simp
    obtain ⟨w105, hwn⟩ : ∃ x, w104.setCell ⟨w.heap.size, 4, none⟩ (.slice A6 (k + (n - (k + 1))) c6) = x := ⟨_, rfl⟩
    have HFF := del_fin (HAH.out w4 hk4).1 H3.out hl.out hkl hb HXS.out HRC.out.1 HRC.out.2 HB6.out.1 HB6.out.2 HO6.out w105 hwn
    rw [hwn]
    clear hwn x0 x1 x2 x3 x4 fp
    refine hK.out _ _ (fun h => by cases h) (fun _ => ?_)
    clear hK K
    (try simp only [Act.put, List.setIfInBounds_toArray, List.set_cons_zero, List.set_cons_succ])
    refine wpTill_done (by kernel_rfl) ?_ _
    generalize (if c = k + 1 then A else Option.map (fun x => x.add ((k + 1) * 5)) A) = ad
    obtain ⟨t1, t2, t3⟩ := HFF
    have HT3 := Lib.hid t3
    clear t3
    obtain ⟨x0, x1, x2, x3, x4⟩ := t1.cells
    obtain ⟨z0, z1, z2, z3, z4⟩ := t2.cells
    have f0 := t2.free 0
    have f1 := t2.free 1
    have f2 := t2.free 2
    have f3 := t2.free 3
    have f4 := t2.free 4
    go_wp2_with fail
    all_goals
      obtain ⟨q0, q1, q2, q3, q4⟩ := cells5 (set5 t2 (.int .i64 p.tx) (.int .i64 p.time) (.int .i64 p.unit) (.int .i64 p.data) (.slice A6 (k + (n - (k + 1))) c6))
      exact bodyPost_ret (v := .tuple #[.agg #[.int .i64 p.tx, .int .i64 p.time, .int .i64 p.unit, .int .i64 p.data, .slice A6 (k + (n - (k + 1))) c6], .int .i64 0]) (by simp [results, Try.results18, go_sem, q0, q1, q2, q3, q4]) rfl (HT3.out _ _ _ _ _)
theorem rdo_any (w : World) (base c : Nat) (p : Pool) (A : Option Addr) (M : Nat → Value) (o : Mop) (h3 : OwnDevs w base (.slice A p.devs.length c) p.devs M) (hb : base ≤ w.heap.size) (hpc : poolChk p = 0) :
    Calls Try.prog 18 #[.agg #[.int .i64 p.tx, .int .i64 p.time, .int .i64 p.unit, .int .i64 p.data, .slice A p.devs.length c], mopV o] w (DoR2 w base (.slice A p.devs.length c) p.devs.length M (doF p o)) := by
  by_cases h1 : o.kind = 1
  · have e : doF p o = createF p o := by unfold doF; rw [if_pos h1]
    rw [e]
    refine rdo_create w base c p A M o h3 _ (.inl h1) (fun w' hz h => ?_)
    by_cases hf : freshE p o.dev = 0
    · exact (rcreate_one w' base c p A M o h (by omega) hpc hf h1).mono fun _ _ h => h.weak
    · exact (rcreate_far w' base c p A M o h hpc (createF p o) hf (by unfold createF; rw [if_pos hf])).mono fun _ _ h => h.weak
  by_cases h2 : o.kind = 2
  · have e : doF p o = snapF p o := by unfold doF; rw [if_neg h1, if_pos h2]
    rw [e]
    refine rdo_create w base c p A M o h3 _ (.inr h2) (fun w' hz h => ?_)
    by_cases hf : freshE p o.dev = 0
    · exact (rcreate_snap w' base c p A M o h (by omega) hpc hf h2).mono fun _ _ h => h.weak
    · exact (rcreate_far w' base c p A M o h hpc (snapF p o) hf (by unfold snapF; rw [if_pos hf])).mono fun _ _ h => h.weak
  by_cases h3' : o.kind = 3
  · have e : doF p o = removeF p o := by unfold doF; rw [if_neg h1, if_neg h2, if_pos h3']
    rw [e]
    exact rdo_remove w base c p A M o h3 hb hpc h3'
  by_cases h4 : o.kind = 4
  · have e : doF p o = writeF p o := by unfold doF; rw [if_neg h1, if_neg h2, if_neg h3', if_pos h4]
    rw [e]
    refine rdo_blocks w base c p A M o h3 _ (.inl h4) (fun w' hz h => ?_)
    by_cases hf : blkE p o = 0
    · exact rwrites_any w' base c p A M o h (by omega) hpc hf h4
    · exact (rblocks_far w' base c p A M o h hpc (writeF p o) hf (by unfold writeF; rw [if_pos hf])).mono fun _ _ h => h.weak
  by_cases h5 : o.kind = 5
  · have e : doF p o = discardF p o := by unfold doF; rw [if_neg h1, if_neg h2, if_neg h3', if_neg h4, if_pos h5]
    rw [e]
    refine rdo_blocks w base c p A M o h3 _ (.inr h5) (fun w' hz h => ?_)
    by_cases hf : blkE p o = 0
    · exact (rdiscard_any w' base c p A M o h (by omega) hpc hf h5).mono fun _ _ h => h.weak
    · exact (rblocks_far w' base c p A M o h hpc (discardF p o) hf (by unfold discardF; rw [if_pos hf])).mono fun _ _ h => h.weak
  by_cases h6 : o.kind = 6
  · have e : doF p o = tickF p := by unfold doF; rw [if_neg h1, if_neg h2, if_neg h3', if_neg h4, if_neg h5, if_pos h6]
    rw [e]
    exact rdo_tick w base c p A M o h3 hpc h6
  by_cases h7 : o.kind = 7
  · have e : doF p o = growF p o := by unfold doF; rw [if_neg h1, if_neg h2, if_neg h3', if_neg h4, if_neg h5, if_neg h6, if_pos h7]
    rw [e]
    exact rdo_grow w base c p A M o h3 h7
  · have e : doF p o = (1, p) := by unfold doF; rw [if_neg h1, if_neg h2, if_neg h3', if_neg h4, if_neg h5, if_neg h6, if_neg h7]
    rw [e]
    exact rdo_none w base c p A M o h3 h1 h2 h3' h4 h5 h6 h7
end Go.Proofs.Ytjeeheeaickokaa

/- The reference's Apply (scantlingref49). Condition: the pool's numbers fit into Go's int. -/
namespace Go.Proofs.Ytjeeheeaickokaa

open Go.RowKit
attribute [local go_sem] Oper.semAt_some
set_option linter.unusedSimpArgs false
set_option linter.unusedVariables false

/-- What Apply finds. -/
def ApAhead (n : Nat) (w w3 : World) (c : Nat) (p : Pool) (A : Option Addr) (o : Mop) : Prop :=
  ∀ w', Below w3.heap.size w3 w' → Three w w' p A n c o ∧ IsPool w' (Lt w.heap.size) (.agg #[.int .i64 p.tx, .int .i64 p.time, .int .i64 p.unit, .int .i64 p.data, .slice A n c]) p
theorem ap_ahead {w w3 : World} {c : Nat} {p : Pool} {A : Option Addr} {o : Mop} {S : Nat → Prop} (hS : ∀ b, S b → b < w.heap.size) (h : IsPool w S (.agg #[.int .i64 p.tx, .int .i64 p.time, .int .i64 p.unit, .int .i64 p.data, .slice A p.devs.length c]) p) (T : Three w w3 p A p.devs.length c o) : ApAhead p.devs.length w w3 c p A o := by
  intro w' hB
  have hT := T.below hB
  exact ⟨hT, pool_keep h hS (keep_below hT.1 hS)⟩
/-- What lies behind Apply's call of do. -/
def DoneAt (w w4 wx : World) (r : Int × Pool) (g : Nat) (A : Option Addr) (c : Nat) (M : Nat → Value) (q : Pool) (bs : Nat) : Prop :=
  RBox wx g (.int .i64 q.tx) (.int .i64 q.time) (.int .i64 q.unit) (.int .i64 q.data) (.slice A q.devs.length c) ∧ (r.1 = 0 → q = r.2 ∧ OwnDevs wx bs (.slice A q.devs.length c) q.devs M) ∧ w4.heap.size ≤ bs ∧ Below w4.heap.size w4 wx ∧ w4.heap.size ≤ g ∧ w.heap.size ≤ w4.heap.size
set_option maxRecDepth 100000 in
set_option maxHeartbeats 3200000 in
theorem rapply_any (w : World) (S : Nat → Prop) (v : Value) (p : Pool) (o : Mop) (hS : ∀ b, S b → b < w.heap.size) (h : IsPool w S v p) (hok : p.ok) :
    Calls Try.prog 11 #[v, mopV o] w (ApIs w (applyF p o)) := by
  have hp0 := h
  obtain ⟨A, c, rfl, _, _⟩ := h
  have T := three_new w p A p.devs.length c o
  dsimp only [poolBox, op9Box, zeroBox] at T
  have HAH := Lib.hid (ap_ahead hS hp0 T)
  have HCK := Lib.hid (fun w' (hz : w.heap.size ≤ w'.heap.size) (h : IsPool w' (Lt w.heap.size) (.agg #[.int .i64 p.tx, .int .i64 p.time, .int .i64 p.unit, .int .i64 p.data, .slice A p.devs.length c]) p) => rcheck_any w' (Lt w.heap.size) _ p (fun b (hb : b < w.heap.size) => Nat.lt_of_lt_of_le hb hz) h hok)
  clear hp0 hok
  by_cases hc : poolChk p = 0
  · have hln := pool_len hc
    have HCOP := Lib.hid (fun w' (hz : w.heap.size ≤ w'.heap.size) (h : IsPool w' (Lt w.heap.size) (.agg #[.int .i64 p.tx, .int .i64 p.time, .int .i64 p.unit, .int .i64 p.data, .slice A p.devs.length c]) p) => copied_any w' (Lt w.heap.size) _ p (fun b (hb : b < w.heap.size) => Nat.lt_of_lt_of_le hb hz) h hln (fun k hk => maps_len hc hk))
    have HDO := Lib.hid (fun w' base c' A' M' (h : OwnDevs w' base (.slice A' p.devs.length c') p.devs M') (hb : base ≤ w'.heap.size) => rdo_any w' base c' p A' M' o h hb hc)
    have hr : applyF p o = if (doF p o).1 ≠ 0 then ((doF p o).1, pool0) else (0, (doF p o).2) := by unfold applyF; rw [if_neg (by simpa using hc)]
    rw [hr]
    rw [hc] at HCK
    clear hc hr
    generalize doF p o = r at *
    generalize hrr : (if r.1 ≠ 0 then (r.1, pool0) else (0, r.2) : Int × Pool) = rr
    have HRR := Lib.hid hrr
    clear hrr
    generalize hl0 : p.devs.length = n at *
    have hl := Lib.hid hl0
    clear hl0
    go_enter Try.func11, Try.ntmps11
    go_upto_region 1 with fail
    generalize ((w.alloc (.cells #[.int .i64 p.tx, .int .i64 p.time, .int .i64 p.unit, .int .i64 p.data, .slice A n c] 24)).alloc (.cells #[.int .i64 o.kind, .int .i64 o.dev, .int .i64 o.arg, .int .i64 o.n] 31)).alloc (.cells #[.int .i64 0, .int .i64 0, .int .i64 0, .int .i64 0, .slice none 0 0] 24) = w3 at *
    have hk3 := Below.refl w3.heap.size w3
    obtain ⟨x0, x1, x2, x3, x4⟩ := (HAH.out w3 hk3).1.2.1.cells
    obtain ⟨y0, y1, y2, y3⟩ := (HAH.out w3 hk3).1.2.2.1.cells
    obtain ⟨z0, z1, z2, z3, z4⟩ := (HAH.out w3 hk3).1.2.2.2.1.cells
    have f0 := (HAH.out w3 hk3).1.2.2.2.1.free 0
    have f1 := (HAH.out w3 hk3).1.2.2.2.1.free 1
    have f2 := (HAH.out w3 hk3).1.2.2.2.1.free 2
    have f3 := (HAH.out w3 hk3).1.2.2.2.1.free 3
    have f4 := (HAH.out w3 hk3).1.2.2.2.1.free 4
    go_upto_region 3 with (go_at_call 15; (have hx := HCK.out w3 (HAH.out w3 hk3).1.1.size (HAH.out w3 hk3).2; with_reducible refine hx.mono ?_; clear hx); rintro e w4 ⟨rfl, hk4⟩; clear x0 x1 x2 x3 x4 y0 y1 y2 y3 z0 z1 z2 z3 z4 f0 f1 f2 f3 f4; obtain ⟨x0, x1, x2, x3, x4⟩ := (HAH.out w4 hk4).1.2.1.cells; obtain ⟨y0, y1, y2, y3⟩ := (HAH.out w4 hk4).1.2.2.1.cells; obtain ⟨z0, z1, z2, z3, z4⟩ := (HAH.out w4 hk4).1.2.2.2.1.cells; have f0 := (HAH.out w4 hk4).1.2.2.2.1.free 0; have f1 := (HAH.out w4 hk4).1.2.2.2.1.free 1; have f2 := (HAH.out w4 hk4).1.2.2.2.1.free 2; have f3 := (HAH.out w4 hk4).1.2.2.2.1.free 3; have f4 := (HAH.out w4 hk4).1.2.2.2.1.free 4)
    have hz4 := (HAH.out w4 hk4).1.2.2.2.2
    clear x0 x1 x2 x3 x4 y0 y1 y2 y3 z0 z1 z2 z3 z4 f0 f1 f2 f3 f4
    go_cut [6, 7] (fun s6 s7 wx => ∃ g A3 c3 M3 q3 bs, s6 = .pointer (some ⟨g, 0, none⟩) ∧ s7 = .int .i64 r.1 ∧ DoneAt w w4 wx r g A3 c3 M3 q3 bs)
    case first =>
      refine wp_region_till (T := fun _ => false) (S := fun w' => Below w4.heap.size w4 w') (by kernel_rfl) (Below.refl w4.heap.size w4).drew (fun hHeld => ?_)
      obtain ⟨w101, hw0⟩ : ∃ x, w4.drew = x := ⟨_, rfl⟩
      rw [hw0] at hHeld ⊢
      have hkA : Below w4.heap.size w4 w101 := hHeld
      clear hHeld hw0
      refine wpTill_put 0 15 (oi := _) (v := ?_) rfl rfl (by kernel_rfl) (by kernel_rfl) (by kernel_rfl) (by kernel_rfl) (fun _ _ _ h => h) (by rfl) hkA ?_ ?_
      rotate_left
      · (intro w2' hSw; obtain ⟨x0, x1, x2, x3, x4⟩ := (HAH.out w2' (hk4.trans (Below.mono hSw hk4.size))).1.2.1.cells; go_simp; (try with_reducible rfl))
      (try simp only [Act.put, List.setIfInBounds_toArray, List.set_cons_zero, List.set_cons_succ])
      refine wpTill_put 2 17 (oi := _) (v := ?_) rfl rfl (by kernel_rfl) (by kernel_rfl) (by kernel_rfl) (by kernel_rfl) (fun _ _ _ h => h) (by rfl) hkA ?_ ?_
      rotate_left
      · (intro w2' hSw; obtain ⟨y0, y1, y2, y3⟩ := (HAH.out w2' (hk4.trans (Below.mono hSw hk4.size))).1.2.2.1.cells; go_simp; (try with_reducible rfl))
      (try simp only [Act.put, List.setIfInBounds_toArray, List.set_cons_zero, List.set_cons_succ])
      refine wpTill_two 1 7 (oi := _) (oj := _) (by kernel_rfl) rfl rfl (fun K hK => ?_) (fun K hK => ?_)
      · skip
        go_simp
        have hkw := hk4.trans (hkA.mono hk4.size)
        refine (HCOP.out w101 (HAH.out w101 hkw).1.1.size (HAH.out w101 hkw).2).mono ?_
        rintro e w102 ⟨A1, c1, M1, rfl, ho1, hBn⟩
        rw [hl.out] at ho1 ⊢
        obtain ⟨bs, hbs⟩ : ∃ x, w101.heap.size = x := ⟨_, rfl⟩
        have hbs0 : w4.heap.size ≤ bs := by rw [← hbs]; exact hkA.size
        have hbs2 : bs ≤ w102.heap.size := by rw [← hbs]; exact hBn.size
        rw [hbs] at ho1
        have hkA := hkA.trans (hBn.mono hkA.size)
        clear hkw hBn hbs
        refine hK.out _ _ (fun _ => hkA) (fun _ => ?_)
        clear hK K
        (try simp only [Act.put, List.setIfInBounds_toArray, List.set_cons_zero, List.set_cons_succ])
        refine wpTill_two 3 7 (oi := _) (oj := _) (by kernel_rfl) rfl rfl (fun K hK => ?_) (fun K hK => ?_)
        · skip
          go_simp
          refine (HDO.out w102 bs c1 A1 M1 ho1 hbs2).mono ?_
          rintro e w103 ⟨A3, c3, M3, q3, rfl, hq3, ht3⟩
          have hlo := own1_lt ho1 hl.out
          have hq3 : r.1 = 0 → q3 = r.2 ∧ OwnDevs w103 bs (.slice A3 q3.devs.length c3) q3.devs M3 := fun h => ⟨(hq3 h).1, (hq3 h).2.1⟩
          have hkA := hkA.trans (Touch.below ht3 (fun x hx => Nat.le_trans hbs0 (hlo x hx).1) hkA.size)
          clear ht3 hlo
          refine hK.out _ _ (fun _ => hkA) (fun _ => ?_)
          clear hK K
          (try simp only [Act.put, List.setIfInBounds_toArray, List.set_cons_zero, List.set_cons_succ])
          refine wpTill_put 4 14 (oi := _) (v := ?_) rfl rfl (by kernel_rfl) (by kernel_rfl) (by kernel_rfl) (by kernel_rfl) (fun _ _ _ h => h) (by rfl) hkA ?_ ?_
          rotate_left
          · (intro w2' hSw; go_simp; (try with_reducible rfl))
          (try simp only [Act.put, List.setIfInBounds_toArray, List.set_cons_zero, List.set_cons_succ])
          refine wpTill_put 5 19 (oi := _) (v := ?_) rfl rfl (by kernel_rfl) (by kernel_rfl) (by kernel_rfl) (by kernel_rfl) (fun _ _ _ h => h) (by rfl) hkA ?_ ?_
          rotate_left
          · (intro w2' hSw; go_simp; (try with_reducible rfl))
          (try simp only [Act.put, List.setIfInBounds_toArray, List.set_cons_zero, List.set_cons_succ])
          refine wpTill_put 6 20 (oi := _) (v := ?_) rfl rfl (by kernel_rfl) (by kernel_rfl) (by kernel_rfl) (by kernel_rfl) (fun _ _ _ h => h) (by rfl) hkA ?_ ?_
          rotate_left
          · (intro w2' hSw; go_simp; (try with_reducible rfl))
          (try simp only [Act.put, List.setIfInBounds_toArray, List.set_cons_zero, List.set_cons_succ])
          refine wpTill_one 7 (o := _) (by kernel_rfl) rfl (fun K hK => ?_)
          go_simp
          obtain ⟨w104, hwn⟩ : ∃ x, w103.alloc (.cells #[.int .i64 0, .int .i64 0, .int .i64 0, .int .i64 0, .slice none 0 0] 24) = x := ⟨_, rfl⟩
          have hBn : Below w103.heap.size w103 w104 := by rw [← hwn]; exact (Below.refl _ _).alloc (Nat.le_refl _) _
          have b7 : w104.heap[w103.heap.size]? = some (.cells #[.int .i64 0, .int .i64 0, .int .i64 0, .int .i64 0, .slice none 0 0] 24) := by rw [← hwn]; exact heap_alloc_new w103 _
          have hge7 := hkA.size
          have hz7 : w103.heap.size < w104.heap.size := by rw [← hwn]; simp
          have hkA := hkA.trans (hBn.mono hkA.size)
          rw [hwn]
          have hn3 := (show r.1 = 0 → ¬ Own1 (.slice A3 q3.devs.length c3) q3.devs.length M3 (w103.heap.size) from fun h e => by have h1 := own1_lt (hq3 h).2 rfl _ e; omega)
          have hq3 := (show r.1 = 0 → q3 = r.2 ∧ OwnDevs w104 bs (.slice A3 q3.devs.length c3) q3.devs M3 from fun h => ⟨(hq3 h).1, (hq3 h).2.keep hBn (Nat.le_refl _)⟩)
          clear hwn hBn
          refine hK.out _ _ (fun _ => hkA) (fun _ => ?_)
          clear hK K
          (try simp only [Act.put, List.setIfInBounds_toArray, List.set_cons_zero, List.set_cons_succ])
          refine wpTill_one 8 (o := _) (by kernel_rfl) rfl (fun K hK => ?_)
          obtain ⟨z0, z1, z2, z3, z4⟩ := cells5 b7
          have f0 := free_of b7 0
          have f1 := free_of b7 1
          have f2 := free_of b7 2
          have f3 := free_of b7 3
          have f4 := free_of b7 4
          go_simp
          obtain ⟨w105, hwn⟩ : ∃ x, (((((w104.setCell ⟨w103.heap.size, 0, none⟩ (.int .i64 q3.tx)).setCell ⟨w103.heap.size, 1, none⟩ (.int .i64 q3.time)).setCell ⟨w103.heap.size, 2, none⟩ (.int .i64 q3.unit)).setCell ⟨w103.heap.size, 3, none⟩ (.int .i64 q3.data)).setCell ⟨w103.heap.size, 4, none⟩ (.slice A3 q3.devs.length c3)) = x := ⟨_, rfl⟩
          have hD : DoneAt w w4 w105 r (w103.heap.size) A3 c3 M3 q3 bs := by
            rw [← hwn]
            exact ⟨set5 b7 _ _ _ _ _, fun h => ⟨(hq3 h).1, kept5 (hq3 h).2 (far_own1 rfl (hn3 h)) _ _ _ _ _⟩, hbs0, below5 hkA (by omega) _ _ _ _ _, by omega, by omega⟩
          have hkA := hD.2.2.2.1
          rw [hwn]
          clear z0 z1 z2 z3 z4 f0 f1 f2 f3 f4 hwn b7
          refine hK.out _ _ (fun _ => hkA) (fun _ => ?_)
          clear hK K
          (try simp only [Act.put, List.setIfInBounds_toArray, List.set_cons_zero, List.set_cons_succ])
          refine wpTill_put 9 7 (oi := _) (v := ?_) rfl rfl (by kernel_rfl) (by kernel_rfl) (by kernel_rfl) (by kernel_rfl) (fun _ _ _ h => h) (by rfl) hkA ?_ ?_
          rotate_left
          · (intro w2' hSw; go_simp; (try with_reducible rfl))
          (try simp only [Act.put, List.setIfInBounds_toArray, List.set_cons_zero, List.set_cons_succ])
          refine wpTill_done (by kernel_rfl) ?_ _
          go_wp2_with fail
          go_meet
          exact ⟨_, A3, c3, M3, q3, bs, rfl, rfl, hD⟩
        · skip
          go_simp
          obtain ⟨w106, hwn⟩ : ∃ x, w102.alloc (.cells #[.int .i64 0, .int .i64 0, .int .i64 0, .int .i64 0, .slice none 0 0] 24) = x := ⟨_, rfl⟩
          have hBn : Below w102.heap.size w102 w106 := by rw [← hwn]; exact (Below.refl _ _).alloc (Nat.le_refl _) _
          have b7 : w106.heap[w102.heap.size]? = some (.cells #[.int .i64 0, .int .i64 0, .int .i64 0, .int .i64 0, .slice none 0 0] 24) := by rw [← hwn]; exact heap_alloc_new w102 _
          have hge7 := hkA.size
          have hz7 : w102.heap.size < w106.heap.size := by rw [← hwn]; simp
          have hkA := hkA.trans (hBn.mono hkA.size)
          rw [hwn]
          have hng := (show ¬ Own1 (.slice A1 n c1) n M1 (w102.heap.size) from fun e => by have h1 := own1_lt ho1 hl.out _ e; omega)
          have ho1 := ho1.keep hBn (Nat.le_refl _)
          have hbs2 := Nat.le_trans hbs2 hBn.size
          clear hwn hBn
          refine hK.out _ _ (fun _ => hkA) (fun _ => ?_)
          clear hK K
          (try simp only [Act.put, List.setIfInBounds_toArray, List.set_cons_zero, List.set_cons_succ])
          refine wpTill_one 3 (o := _) (by kernel_rfl) rfl (fun K hK => ?_)
          go_simp
          refine (HDO.out w106 bs c1 A1 M1 ho1 hbs2).mono ?_
          rintro e w107 ⟨A3, c3, M3, q3, rfl, hq3, ht3⟩
          have hlo := own1_lt ho1 hl.out
          have hn3 : r.1 = 0 → ¬ Own1 (.slice A3 q3.devs.length c3) q3.devs.length M3 (w102.heap.size) := fun h e => (((hq3 h).2.2 _ e).elim hng (fun h2 => by have h3 := box_lt b7; omega))
          have b7 := (ht3.block (box_lt b7) hng).trans b7
          have hq3 : r.1 = 0 → q3 = r.2 ∧ OwnDevs w107 bs (.slice A3 q3.devs.length c3) q3.devs M3 := fun h => ⟨(hq3 h).1, (hq3 h).2.1⟩
          have hkA := hkA.trans (Touch.below ht3 (fun x hx => Nat.le_trans hbs0 (hlo x hx).1) hkA.size)
          clear ht3 hlo
          refine hK.out _ _ (fun _ => hkA) (fun _ => ?_)
          clear hK K
          (try simp only [Act.put, List.setIfInBounds_toArray, List.set_cons_zero, List.set_cons_succ])
          refine wpTill_put 4 14 (oi := _) (v := ?_) rfl rfl (by kernel_rfl) (by kernel_rfl) (by kernel_rfl) (by kernel_rfl) (fun _ _ _ h => h) (by rfl) hkA ?_ ?_
          rotate_left
          · (intro w2' hSw; go_simp; (try with_reducible rfl))
          (try simp only [Act.put, List.setIfInBounds_toArray, List.set_cons_zero, List.set_cons_succ])
          refine wpTill_put 5 19 (oi := _) (v := ?_) rfl rfl (by kernel_rfl) (by kernel_rfl) (by kernel_rfl) (by kernel_rfl) (fun _ _ _ h => h) (by rfl) hkA ?_ ?_
          rotate_left
          · (intro w2' hSw; go_simp; (try with_reducible rfl))
          (try simp only [Act.put, List.setIfInBounds_toArray, List.set_cons_zero, List.set_cons_succ])
          refine wpTill_put 6 20 (oi := _) (v := ?_) rfl rfl (by kernel_rfl) (by kernel_rfl) (by kernel_rfl) (by kernel_rfl) (fun _ _ _ h => h) (by rfl) hkA ?_ ?_
          rotate_left
          · (intro w2' hSw; go_simp; (try with_reducible rfl))
          (try simp only [Act.put, List.setIfInBounds_toArray, List.set_cons_zero, List.set_cons_succ])
          refine wpTill_one 8 (o := _) (by kernel_rfl) rfl (fun K hK => ?_)
          obtain ⟨z0, z1, z2, z3, z4⟩ := cells5 b7
          have f0 := free_of b7 0
          have f1 := free_of b7 1
          have f2 := free_of b7 2
          have f3 := free_of b7 3
          have f4 := free_of b7 4
          go_simp
          obtain ⟨w108, hwn⟩ : ∃ x, (((((w107.setCell ⟨w102.heap.size, 0, none⟩ (.int .i64 q3.tx)).setCell ⟨w102.heap.size, 1, none⟩ (.int .i64 q3.time)).setCell ⟨w102.heap.size, 2, none⟩ (.int .i64 q3.unit)).setCell ⟨w102.heap.size, 3, none⟩ (.int .i64 q3.data)).setCell ⟨w102.heap.size, 4, none⟩ (.slice A3 q3.devs.length c3)) = x := ⟨_, rfl⟩
          have hD : DoneAt w w4 w108 r (w102.heap.size) A3 c3 M3 q3 bs := by
            rw [← hwn]
            exact ⟨set5 b7 _ _ _ _ _, fun h => ⟨(hq3 h).1, kept5 (hq3 h).2 (far_own1 rfl (hn3 h)) _ _ _ _ _⟩, hbs0, below5 hkA (by omega) _ _ _ _ _, by omega, by omega⟩
          have hkA := hD.2.2.2.1
          rw [hwn]
          clear z0 z1 z2 z3 z4 f0 f1 f2 f3 f4 hwn b7
          refine hK.out _ _ (fun _ => hkA) (fun _ => ?_)
          clear hK K
          (try simp only [Act.put, List.setIfInBounds_toArray, List.set_cons_zero, List.set_cons_succ])
          refine wpTill_put 9 7 (oi := _) (v := ?_) rfl rfl (by kernel_rfl) (by kernel_rfl) (by kernel_rfl) (by kernel_rfl) (fun _ _ _ h => h) (by rfl) hkA ?_ ?_
          rotate_left
          · (intro w2' hSw; go_simp; (try with_reducible rfl))
          (try simp only [Act.put, List.setIfInBounds_toArray, List.set_cons_zero, List.set_cons_succ])
          refine wpTill_done (by kernel_rfl) ?_ _
          go_wp2_with fail
          go_meet
          exact ⟨_, A3, c3, M3, q3, bs, rfl, rfl, hD⟩
      · skip
        go_simp
        obtain ⟨w109, hwn⟩ : ∃ x, w101.alloc (.cells #[.int .i64 0, .int .i64 0, .int .i64 0, .int .i64 0, .slice none 0 0] 24) = x := ⟨_, rfl⟩
        have hBn : Below w101.heap.size w101 w109 := by rw [← hwn]; exact (Below.refl _ _).alloc (Nat.le_refl _) _
        have b7 : w109.heap[w101.heap.size]? = some (.cells #[.int .i64 0, .int .i64 0, .int .i64 0, .int .i64 0, .slice none 0 0] 24) := by rw [← hwn]; exact heap_alloc_new w101 _
        have hge7 := hkA.size
        have hz7 : w101.heap.size < w109.heap.size := by rw [← hwn]; simp
        have hkA := hkA.trans (hBn.mono hkA.size)
        rw [hwn]
        clear hwn hBn
        refine hK.out _ _ (fun _ => hkA) (fun _ => ?_)
        clear hK K
        (try simp only [Act.put, List.setIfInBounds_toArray, List.set_cons_zero, List.set_cons_succ])
        refine wpTill_one 1 (o := _) (by kernel_rfl) rfl (fun K hK => ?_)
        go_simp
        have hkw := hk4.trans (hkA.mono hk4.size)
        refine (HCOP.out w109 (HAH.out w109 hkw).1.1.size (HAH.out w109 hkw).2).mono ?_
        rintro e w110 ⟨A1, c1, M1, rfl, ho1, hBn⟩
        rw [hl.out] at ho1 ⊢
        obtain ⟨bs, hbs⟩ : ∃ x, w109.heap.size = x := ⟨_, rfl⟩
        have hbs0 : w4.heap.size ≤ bs := by rw [← hbs]; exact hkA.size
        have hbs2 : bs ≤ w110.heap.size := by rw [← hbs]; exact hBn.size
        have hng : ¬ Own1 (.slice A1 n c1) n M1 (w101.heap.size) := fun e => by have h1 := own1_lt ho1 hl.out _ e; have h2 := box_lt b7; omega
        have b7 := box_up b7 hBn
        rw [hbs] at ho1
        have hkA := hkA.trans (hBn.mono hkA.size)
        clear hkw hBn hbs
        refine hK.out _ _ (fun _ => hkA) (fun _ => ?_)
        clear hK K
        (try simp only [Act.put, List.setIfInBounds_toArray, List.set_cons_zero, List.set_cons_succ])
        refine wpTill_one 3 (o := _) (by kernel_rfl) rfl (fun K hK => ?_)
        go_simp
        refine (HDO.out w110 bs c1 A1 M1 ho1 hbs2).mono ?_
        rintro e w111 ⟨A3, c3, M3, q3, rfl, hq3, ht3⟩
        have hlo := own1_lt ho1 hl.out
        have hn3 : r.1 = 0 → ¬ Own1 (.slice A3 q3.devs.length c3) q3.devs.length M3 (w101.heap.size) := fun h e => (((hq3 h).2.2 _ e).elim hng (fun h2 => by have h3 := box_lt b7; omega))
        have b7 := (ht3.block (box_lt b7) hng).trans b7
        have hq3 : r.1 = 0 → q3 = r.2 ∧ OwnDevs w111 bs (.slice A3 q3.devs.length c3) q3.devs M3 := fun h => ⟨(hq3 h).1, (hq3 h).2.1⟩
        have hkA := hkA.trans (Touch.below ht3 (fun x hx => Nat.le_trans hbs0 (hlo x hx).1) hkA.size)
        clear ht3 hlo
        refine hK.out _ _ (fun _ => hkA) (fun _ => ?_)
        clear hK K
        (try simp only [Act.put, List.setIfInBounds_toArray, List.set_cons_zero, List.set_cons_succ])
        refine wpTill_put 4 14 (oi := _) (v := ?_) rfl rfl (by kernel_rfl) (by kernel_rfl) (by kernel_rfl) (by kernel_rfl) (fun _ _ _ h => h) (by rfl) hkA ?_ ?_
        rotate_left
        · (intro w2' hSw; go_simp; (try with_reducible rfl))
        (try simp only [Act.put, List.setIfInBounds_toArray, List.set_cons_zero, List.set_cons_succ])
        refine wpTill_put 5 19 (oi := _) (v := ?_) rfl rfl (by kernel_rfl) (by kernel_rfl) (by kernel_rfl) (by kernel_rfl) (fun _ _ _ h => h) (by rfl) hkA ?_ ?_
        rotate_left
        · (intro w2' hSw; go_simp; (try with_reducible rfl))
        (try simp only [Act.put, List.setIfInBounds_toArray, List.set_cons_zero, List.set_cons_succ])
        refine wpTill_put 6 20 (oi := _) (v := ?_) rfl rfl (by kernel_rfl) (by kernel_rfl) (by kernel_rfl) (by kernel_rfl) (fun _ _ _ h => h) (by rfl) hkA ?_ ?_
        rotate_left
        · (intro w2' hSw; go_simp; (try with_reducible rfl))
        (try simp only [Act.put, List.setIfInBounds_toArray, List.set_cons_zero, List.set_cons_succ])
        refine wpTill_one 8 (o := _) (by kernel_rfl) rfl (fun K hK => ?_)
        obtain ⟨z0, z1, z2, z3, z4⟩ := cells5 b7
        have f0 := free_of b7 0
        have f1 := free_of b7 1
        have f2 := free_of b7 2
        have f3 := free_of b7 3
        have f4 := free_of b7 4
        go_simp
        obtain ⟨w112, hwn⟩ : ∃ x, (((((w111.setCell ⟨w101.heap.size, 0, none⟩ (.int .i64 q3.tx)).setCell ⟨w101.heap.size, 1, none⟩ (.int .i64 q3.time)).setCell ⟨w101.heap.size, 2, none⟩ (.int .i64 q3.unit)).setCell ⟨w101.heap.size, 3, none⟩ (.int .i64 q3.data)).setCell ⟨w101.heap.size, 4, none⟩ (.slice A3 q3.devs.length c3)) = x := ⟨_, rfl⟩
        have hD : DoneAt w w4 w112 r (w101.heap.size) A3 c3 M3 q3 bs := by
          rw [← hwn]
          exact ⟨set5 b7 _ _ _ _ _, fun h => ⟨(hq3 h).1, kept5 (hq3 h).2 (far_own1 rfl (hn3 h)) _ _ _ _ _⟩, hbs0, below5 hkA (by omega) _ _ _ _ _, by omega, by omega⟩
        have hkA := hD.2.2.2.1
        rw [hwn]
        clear z0 z1 z2 z3 z4 f0 f1 f2 f3 f4 hwn b7
        refine hK.out _ _ (fun _ => hkA) (fun _ => ?_)
        clear hK K
        (try simp only [Act.put, List.setIfInBounds_toArray, List.set_cons_zero, List.set_cons_succ])
        refine wpTill_put 9 7 (oi := _) (v := ?_) rfl rfl (by kernel_rfl) (by kernel_rfl) (by kernel_rfl) (by kernel_rfl) (fun _ _ _ h => h) (by rfl) hkA ?_ ?_
        rotate_left
        · (intro w2' hSw; go_simp; (try with_reducible rfl))
        (try simp only [Act.put, List.setIfInBounds_toArray, List.set_cons_zero, List.set_cons_succ])
        refine wpTill_done (by kernel_rfl) ?_ _
        go_wp2_with fail
        go_meet
        exact ⟨_, A3, c3, M3, q3, bs, rfl, rfl, hD⟩
    case rest =>
      obtain ⟨g, A3, c3, M3, q3, bs, rfl, rfl, hD⟩ := hcut
      have hkc := hk4.trans (hD.2.2.2.1.mono hk4.size)
      obtain ⟨x0, x1, x2, x3, x4⟩ := hD.1.cells
      obtain ⟨z0, z1, z2, z3, z4⟩ := (HAH.out wc hkc).1.2.2.2.1.cells
      have f0 := (HAH.out wc hkc).1.2.2.2.1.free 0
      have f1 := (HAH.out wc hkc).1.2.2.2.1.free 1
      have f2 := (HAH.out wc hkc).1.2.2.2.1.free 2
      have f3 := (HAH.out wc hkc).1.2.2.2.1.free 3
      have f4 := (HAH.out wc hkc).1.2.2.2.1.free 4
      have HDD := Lib.hid hD
      clear hD
      by_cases he : r.1 = 0
      · have HE := Lib.hid he
        have hbe : (r.1 != 0) = false := by simp [he]
        clear he
        go_wp2_with fail
        obtain ⟨q0, q1, q2, q3', q4⟩ := cells5 (set5 (HAH.out wc hkc).1.2.2.2.1 (.int .i64 q3.tx) (.int .i64 q3.time) (.int .i64 q3.unit) (.int .i64 q3.data) (.slice A3 q3.devs.length c3))
        refine bodyPost_ret (v := .tuple #[.agg #[.int .i64 q3.tx, .int .i64 q3.time, .int .i64 q3.unit, .int .i64 q3.data, .slice A3 q3.devs.length c3], .int .i64 0]) (by simp [results, Try.results11, go_sem, q0, q1, q2, q3', q4]) rfl ?_
        have hrr : rr = (0, r.2) := by rw [← HRR.out, if_neg (by simp [HE.out])]
        rw [hrr]
        obtain ⟨hq, ho⟩ := HDD.out.2.1 HE.out
        have hz := HDD.out.2.2
        have hlt := own1_lt ho rfl
        have ho2 := kept5 ho (far_own1 rfl (x := w.heap.size + 1 + 1) (fun e => by have := hlt _ e; omega)) (.int .i64 q3.tx) (.int .i64 q3.time) (.int .i64 q3.unit) (.int .i64 q3.data) (.slice A3 q3.devs.length c3)
        refine ⟨_, rfl, ?_, below5 (HAH.out wc hkc).1.1 (by omega) _ _ _ _ _⟩
        rw [← hq]
        exact pool_keep (OwnP.isp ho2) (fun b hb => ⟨by have := hb.1; omega, hb.2⟩) Keep.refl
      · have HE := Lib.hid he
        have hbe : (r.1 != 0) = true := by simpa using he
        have hrr : rr = (r.1, pool0) := by rw [← HRR.out, if_pos he]
        have HR1 := Lib.hid hrr
        clear he hrr HRR HDD
        generalize r.1 = r1 at *
        go_wp2_with fail
        obtain ⟨q0, q1, q2, q3', q4⟩ := cells5 (set5 (HAH.out wc hkc).1.2.2.2.1 (.int .i64 0) (.int .i64 0) (.int .i64 0) (.int .i64 0) (.slice none 0 0))
        refine bodyPost_ret (v := .tuple #[.agg #[.int .i64 0, .int .i64 0, .int .i64 0, .int .i64 0, .slice none 0 0], .int .i64 r1]) (by simp [results, Try.results11, go_sem, q0, q1, q2, q3', q4]) rfl ?_
        rw [HR1.out]
        exact ⟨_, rfl, pool0_at _ _, below5 (HAH.out wc hkc).1.1 (by omega) _ _ _ _ _⟩
  · have hr : applyF p o = (poolChk p, pool0) := by unfold applyF; rw [if_pos hc]
    rw [hr]
    have hb1 : (poolChk p != 0) = true := by simpa using hc
    clear hr hc
    generalize poolChk p = fe at *
    generalize hl0 : p.devs.length = n at *
    clear hl0
    go_enter Try.func11, Try.ntmps11
    go_upto_region 1 with fail
    generalize ((w.alloc (.cells #[.int .i64 p.tx, .int .i64 p.time, .int .i64 p.unit, .int .i64 p.data, .slice A n c] 24)).alloc (.cells #[.int .i64 o.kind, .int .i64 o.dev, .int .i64 o.arg, .int .i64 o.n] 31)).alloc (.cells #[.int .i64 0, .int .i64 0, .int .i64 0, .int .i64 0, .slice none 0 0] 24) = w3 at *
    have hk3 := Below.refl w3.heap.size w3
    obtain ⟨x0, x1, x2, x3, x4⟩ := (HAH.out w3 hk3).1.2.1.cells
    obtain ⟨y0, y1, y2, y3⟩ := (HAH.out w3 hk3).1.2.2.1.cells
    obtain ⟨z0, z1, z2, z3, z4⟩ := (HAH.out w3 hk3).1.2.2.2.1.cells
    have f0 := (HAH.out w3 hk3).1.2.2.2.1.free 0
    have f1 := (HAH.out w3 hk3).1.2.2.2.1.free 1
    have f2 := (HAH.out w3 hk3).1.2.2.2.1.free 2
    have f3 := (HAH.out w3 hk3).1.2.2.2.1.free 3
    have f4 := (HAH.out w3 hk3).1.2.2.2.1.free 4
    go_wp2_with (first
      | (go_at_call 15; have _ := hk4; (have hx := HCK.out w4 (HAH.out w4 hk4).1.1.size (HAH.out w4 hk4).2; with_reducible refine hx.mono ?_; clear hx); rintro e w5 ⟨rfl, hB5⟩; have hk5 := hk4.trans (hB5.mono hk4.size); clear x0 x1 x2 x3 x4 y0 y1 y2 y3 z0 z1 z2 z3 z4 f0 f1 f2 f3 f4; obtain ⟨x0, x1, x2, x3, x4⟩ := (HAH.out w5 hk5).1.2.1.cells; obtain ⟨y0, y1, y2, y3⟩ := (HAH.out w5 hk5).1.2.2.1.cells; obtain ⟨z0, z1, z2, z3, z4⟩ := (HAH.out w5 hk5).1.2.2.2.1.cells; have f0 := (HAH.out w5 hk5).1.2.2.2.1.free 0; have f1 := (HAH.out w5 hk5).1.2.2.2.1.free 1; have f2 := (HAH.out w5 hk5).1.2.2.2.1.free 2; have f3 := (HAH.out w5 hk5).1.2.2.2.1.free 3; have f4 := (HAH.out w5 hk5).1.2.2.2.1.free 4)
      | (go_at_call 15; (have hx := HCK.out w3 (HAH.out w3 hk3).1.1.size (HAH.out w3 hk3).2; with_reducible refine hx.mono ?_; clear hx); rintro e w4 ⟨rfl, hk4⟩; clear x0 x1 x2 x3 x4 y0 y1 y2 y3 z0 z1 z2 z3 z4 f0 f1 f2 f3 f4; obtain ⟨x0, x1, x2, x3, x4⟩ := (HAH.out w4 hk4).1.2.1.cells; obtain ⟨y0, y1, y2, y3⟩ := (HAH.out w4 hk4).1.2.2.1.cells; obtain ⟨z0, z1, z2, z3, z4⟩ := (HAH.out w4 hk4).1.2.2.2.1.cells; have f0 := (HAH.out w4 hk4).1.2.2.2.1.free 0; have f1 := (HAH.out w4 hk4).1.2.2.2.1.free 1; have f2 := (HAH.out w4 hk4).1.2.2.2.1.free 2; have f3 := (HAH.out w4 hk4).1.2.2.2.1.free 3; have f4 := (HAH.out w4 hk4).1.2.2.2.1.free 4))
    obtain ⟨q0, q1, q2, q3, q4⟩ := cells5 (set5 (HAH.out w5 hk5).1.2.2.2.1 (.int .i64 0) (.int .i64 0) (.int .i64 0) (.int .i64 0) (.slice none 0 0))
    refine bodyPost_ret (v := .tuple #[.agg #[.int .i64 0, .int .i64 0, .int .i64 0, .int .i64 0, .slice none 0 0], .int .i64 fe]) (by simp [results, Try.results11, go_sem, q0, q1, q2, q3, q4]) rfl ?_
    have hz5 := (HAH.out w5 hk5).1.2.2.2.2
    exact ⟨_, rfl, pool0_at _ _, below5 (HAH.out w5 hk5).1.1 (by omega) _ _ _ _ _⟩
end Go.Proofs.Ytjeeheeaickokaa

/- The reference's Run (scantlingref49). Condition: the pool's numbers fit into Go's int, and the list is within the reach. -/
namespace Go.Proofs.Ytjeeheeaickokaa

open Go.RowKit
attribute [local go_sem] Oper.semAt_some
set_option linter.unusedSimpArgs false
set_option linter.unusedVariables false

/-- What the reference's Run tells. -/
def RunAt (w : World) (r : Pool × Nat × Int) (e : Ending) (w' : World) : Prop := ∃ v', e = .returned (.tuple #[v', .int .i64 (r.2.1 : Nat), .int .i64 r.2.2]) ∧ IsPool w' (Lt w'.heap.size) v' r.1 ∧ Below w.heap.size w w'
/-- Behind the call of Apply in a round. -/
def RApp (wr wx : World) (r : Int × Pool) (g : Nat) (A : Option Addr) (c : Nat) : Prop :=
  RBox wx g (.int .i64 r.2.tx) (.int .i64 r.2.time) (.int .i64 r.2.unit) (.int .i64 r.2.data) (.slice A r.2.devs.length c) ∧ IsPool wx (Lt wx.heap.size) (.agg #[.int .i64 r.2.tx, .int .i64 r.2.time, .int .i64 r.2.unit, .int .i64 r.2.data, .slice A r.2.devs.length c]) r.2 ∧ Below wr.heap.size wr wx ∧ wr.heap.size ≤ g ∧
    IsPool wx (fun b => wr.heap.size ≤ b ∧ b < wx.heap.size ∧ b ≠ g) (.agg #[.int .i64 r.2.tx, .int .i64 r.2.time, .int .i64 r.2.unit, .int .i64 r.2.data, .slice A r.2.devs.length c]) r.2
theorem rapp_put {wr wc : World} {g c : Nat} {A : Option Addr} {r : Int × Pool} (hi : IsPool wc (fun b => wr.heap.size ≤ b ∧ b < wc.heap.size ∧ b ≠ g) (.agg #[.int .i64 r.2.tx, .int .i64 r.2.time, .int .i64 r.2.unit, .int .i64 r.2.data, .slice A r.2.devs.length c]) r.2) (hb : RBox wc g (.int .i64 0) (.int .i64 0) (.int .i64 0) (.int .i64 0) (.slice none 0 0)) (hk : Below wr.heap.size wr wc) (hg : wr.heap.size ≤ g) (W : World)
    (hW : (((((wc.setCell ⟨g, 0, none⟩ (.int .i64 r.2.tx)).setCell ⟨g, 1, none⟩ (.int .i64 r.2.time)).setCell ⟨g, 2, none⟩ (.int .i64 r.2.unit)).setCell ⟨g, 3, none⟩ (.int .i64 r.2.data)).setCell ⟨g, 4, none⟩ (.slice A r.2.devs.length c)) = W) : RApp wr W r g A c := by
  subst hW
  have h1 : IsPool (((((wc.setCell ⟨g, 0, none⟩ (.int .i64 r.2.tx)).setCell ⟨g, 1, none⟩ (.int .i64 r.2.time)).setCell ⟨g, 2, none⟩ (.int .i64 r.2.unit)).setCell ⟨g, 3, none⟩ (.int .i64 r.2.data)).setCell ⟨g, 4, none⟩ (.slice A r.2.devs.length c)) (fun b => wr.heap.size ≤ b ∧ b < (((((wc.setCell ⟨g, 0, none⟩ (.int .i64 r.2.tx)).setCell ⟨g, 1, none⟩ (.int .i64 r.2.time)).setCell ⟨g, 2, none⟩ (.int .i64 r.2.unit)).setCell ⟨g, 3, none⟩ (.int .i64 r.2.data)).setCell ⟨g, 4, none⟩ (.slice A r.2.devs.length c)).heap.size ∧ b ≠ g) (.agg #[.int .i64 r.2.tx, .int .i64 r.2.time, .int .i64 r.2.unit, .int .i64 r.2.data, .slice A r.2.devs.length c]) r.2 :=
    pool_keep hi (fun b hb => ⟨hb.1, by rw [size5]; exact hb.2.1, hb.2.2⟩) (keep5 (fun e => e.2.2 rfl) _ _ _ _ _)
  exact ⟨set5 hb _ _ _ _ _, pool_keep h1 (fun b hb => hb.2.1) Keep.refl, below5 hk hg _ _ _ _ _, hg, h1⟩
set_option maxRecDepth 100000 in
set_option maxHeartbeats 6400000 in
theorem rrun_any (w : World) (S : Nat → Prop) (v vl : Value) (p : Pool) (l : List Mop) (hS : ∀ b, S b → b < w.heap.size) (h : IsPool w S v p) (hok : p.ok) (hl : IsOps w S vl l) (hln : l.length ≤ 281474976710656) :
    Calls Try.prog 8 #[v, vl] w (RunAt w (runF p l)) := by
  have hp0 := h
  generalize hrr0 : runF p l = r
  have HRR0 := Lib.hid hrr0
  clear hrr0
  have HCK := Lib.hid (fun w' (hB : Below w.heap.size w w') => rcheck_any w' S v p (fun b hb => Nat.lt_of_lt_of_le (hS b hb) hB.size) (h.below hB hS) hok)
  have HIP := Lib.hid (fun w' (hB : Below w.heap.size w w') => pool_keep (S' := Lt w.heap.size) h (fun b hb => hS b hb) (keep_below hB hS))
  obtain ⟨Al, cl, rfl, hcl, hlr⟩ := hl
  have HL := Lib.hid (fun w' (hB : Below w.heap.size w w') (h0 : 0 < l.length) => ops_cells (hlr.keep (flat_stable _) (fun _ h => h) (keep_below hB hS)) h0)
  have HSS := Lib.hid hS
  obtain ⟨A, c, rfl, _, _⟩ := h
  have hB2 : Below w.heap.size w ((w.alloc (poolBox p A p.devs.length c)).alloc zeroBox) := ((Below.refl _ _).alloc (Nat.le_refl _) _).alloc (by simp) _
  have hp2 : PBox ((w.alloc (poolBox p A p.devs.length c)).alloc zeroBox) w.heap.size p A p.devs.length c := (PBox.new w p A p.devs.length c).below ((Below.refl _ _).alloc (Nat.le_refl _) _) (by simp)
  have hr2 : RBox ((w.alloc (poolBox p A p.devs.length c)).alloc zeroBox) (w.heap.size + 1) (.int .i64 0) (.int .i64 0) (.int .i64 0) (.int .i64 0) (.slice none 0 0) := by
    have := heap_alloc_new (w.alloc (poolBox p A p.devs.length c)) zeroBox
    simp only [World.size_alloc] at this
    exact this
  have hz2 : w.heap.size + 2 ≤ ((w.alloc (poolBox p A p.devs.length c)).alloc zeroBox).heap.size := by simp
  dsimp only [poolBox, zeroBox] at hB2 hp2 hr2 hz2
  have HOK := Lib.hid hok
  clear hp0 hok hlr hS
  go_enter Try.func8, Try.ntmps8
  go_upto_region 1 with fail
  generalize (w.alloc (.cells #[.int .i64 p.tx, .int .i64 p.time, .int .i64 p.unit, .int .i64 p.data, .slice A p.devs.length c] 24)).alloc (.cells #[.int .i64 0, .int .i64 0, .int .i64 0, .int .i64 0, .slice none 0 0] 24) = w2 at *
  obtain ⟨x0, x1, x2, x3, x4⟩ := hp2.cells
  obtain ⟨z0, z1, z2, z3, z4⟩ := hr2.cells
  have f0 := hr2.free 0
  have f1 := hr2.free 1
  have f2 := hr2.free 2
  have f3 := hr2.free 3
  have f4 := hr2.free 4
  by_cases hc : poolChk p = 0
  · have HRR := Lib.hid (show runFrom p 0 l = r by rw [← HRR0.out]; unfold runF; rw [if_neg (by simpa using hc)])
    have HCZ := Lib.hid hc
    rw [hc] at HCK
    clear hc HRR0
    generalize hn : l.length = n at *
    have HN := Lib.hid hn
    clear hn
    have HPP := Lib.hid hp2
    go_wp2_with (go_at_call 15; (have hx := HCK.out w2 hB2; with_reducible refine hx.mono ?_; clear hx); rintro e w4 ⟨rfl, hB4⟩; have hk4 := hB2.trans (hB4.mono hB2.size); have hz4 := hB4.size)
    clear x0 x1 x2 x3 x4 z0 z1 z2 z3 z4 f0 f1 f2 f3 f4
    go_loopw [7] (fun i wr => ∃ j : Nat, i = .int .i64 j ∧ j ≤ n ∧ Below w.heap.size w wr ∧ w.heap.size + 2 ≤ wr.heap.size ∧ RBox wr (w.heap.size + 1) (.int .i64 0) (.int .i64 0) (.int .i64 0) (.int .i64 0) (.slice none 0 0) ∧ ∃ q A' c', PBox wr w.heap.size q A' q.devs.length c' ∧ IsPool wr (fun b => b < wr.heap.size ∧ b ≠ w.heap.size ∧ b ≠ w.heap.size + 1) (.agg #[.int .i64 q.tx, .int .i64 q.time, .int .i64 q.unit, .int .i64 q.data, .slice A' q.devs.length c']) q ∧ poolChk q = 0 ∧ runFrom q j (l.drop j) = r) (fun i _ => n - (intOf i).toNat)
    case atStart => exact ⟨0, rfl, by omega, hk4, by omega, box_up hr2 hB4, p, A, c, box_up HPP.out hB4, pool_keep (HIP.out w4 hk4) (fun b (hb : b < w.heap.size) => ⟨by omega, by omega, by omega⟩) Keep.refl, HCZ.out, HRR.out⟩
    case round =>
      obtain ⟨j, rfl, hj, hB, hzr, hrb, q, A', c', hpb, hip, hqc, hrun⟩ := hrel
      have HIQ := Lib.hid hip
      have HQC := Lib.hid hqc
      have HRUN := Lib.hid hrun
      clear hip hqc hrun
      obtain ⟨x0, x1, x2, x3, x4⟩ := hpb.cells
      by_cases hlt : j < n
      · have hji : (j : Int) < (n : Int) := by omega
        go_upto_region 6 with fail
        obtain ⟨gl, ol, rfl, hgl, hcl2⟩ := HL.out wr hB (by omega)
        have HOP := Lib.hid (fun w' (hB' : Below wr.heap.size wr w') => (by
          obtain ⟨g', o', e, _, h⟩ := HL.out w' (hB.trans (hB'.mono hB.size)) (by omega)
          have e1 : gl = g' := by injection e with e; injection e
          have e2 : ol = o' := by injection e with e; injection e
          subst e1 e2
          exact h j hlt))
        clear hcl2
        obtain ⟨o, ho⟩ : ∃ o, nth mop0 l j = o := ⟨_, rfl⟩
        have HNO := Lib.hid ho
        rw [ho] at HOP
        clear ho
        obtain ⟨R, hR⟩ : ∃ R, applyF q o = R := ⟨_, rfl⟩
        have HRE := Lib.hid hR
        have HAP := Lib.hid (fun w' (hB' : Below wr.heap.size wr w') => rapply_any w' (fun b => b < wr.heap.size ∧ b ≠ w.heap.size ∧ b ≠ w.heap.size + 1) (.agg #[.int .i64 q.tx, .int .i64 q.time, .int .i64 q.unit, .int .i64 q.data, .slice A' q.devs.length c']) q o (fun b hb => Nat.lt_of_lt_of_le hb.1 hB'.size) (pool_keep HIQ.out (fun b hb => hb) (keep_below hB' (fun b hb => hb.1))) (fit_ok (fit_iff.1 HQC.out)))
        rw [hR] at HAP
        clear hR
        go_cut [8, 9] (fun s8 s9 wx => ∃ g A3 c3, s8 = .pointer (some ⟨g, 0, none⟩) ∧ s9 = .int .i64 R.1 ∧ RApp wr wx R g A3 c3)
        case first =>
          refine wp_region_till (T := fun _ => false) (S := fun w' => Below wr.heap.size wr w') (by kernel_rfl) (Below.refl wr.heap.size wr).drew (fun hHeld => ?_)
          obtain ⟨w101, hw0⟩ : ∃ x, wr.drew = x := ⟨_, rfl⟩
          rw [hw0] at hHeld ⊢
          have hkA : Below wr.heap.size wr w101 := hHeld
          clear hHeld hw0
          refine wpTill_put 0 23 (oi := _) (v := ?_) rfl rfl (by kernel_rfl) (by kernel_rfl) (by kernel_rfl) (by kernel_rfl) (fun _ _ _ h => h) (by rfl) hkA ?_ ?_
          rotate_left
          · (intro w2' hSw; obtain ⟨x0, x1, x2, x3, x4⟩ := PBox.cells (box_up hpb hSw); go_simp; (try with_reducible rfl))
          (try simp only [Act.put, List.setIfInBounds_toArray, List.set_cons_zero, List.set_cons_succ])
          refine wpTill_put 1 24 (oi := _) (v := ?_) rfl rfl (by kernel_rfl) (by kernel_rfl) (by kernel_rfl) (by kernel_rfl) (fun _ _ _ h => h) (by rfl) hkA ?_ ?_
          rotate_left
          · (intro w2' hSw; go_simp; (try with_reducible rfl))
          (try simp only [Act.put, List.setIfInBounds_toArray, List.set_cons_zero, List.set_cons_succ])
          refine wpTill_put 2 25 (oi := _) (v := ?_) rfl rfl (by kernel_rfl) (by kernel_rfl) (by kernel_rfl) (by kernel_rfl) (fun _ _ _ h => h) (by rfl) hkA ?_ ?_
          rotate_left
          · (intro w2' hSw; go_simp; (try with_reducible rfl))
          (try simp only [Act.put, List.setIfInBounds_toArray, List.set_cons_zero, List.set_cons_succ])
          refine wpTill_put 3 26 (oi := _) (v := ?_) rfl rfl (by kernel_rfl) (by kernel_rfl) (by kernel_rfl) (by kernel_rfl) (fun _ _ _ h => h) (by rfl) hkA ?_ ?_
          rotate_left
          · (intro w2' hSw; go_simp; (try with_reducible rfl))
          (try simp only [Act.put, List.setIfInBounds_toArray, List.set_cons_zero, List.set_cons_succ])
          refine wpTill_put 4 27 (oi := _) (v := ?_) rfl rfl (by kernel_rfl) (by kernel_rfl) (by kernel_rfl) (by kernel_rfl) (fun _ _ _ h => h) (by rfl) hkA ?_ ?_
          rotate_left
          · (intro w2' hSw; obtain ⟨y0, y1, y2, y3⟩ := HOP.out w2' hSw; go_simp; (try with_reducible rfl))
          (try simp only [Act.put, List.setIfInBounds_toArray, List.set_cons_zero, List.set_cons_succ])
          refine wpTill_two 5 9 (oi := _) (oj := _) (by kernel_rfl) rfl rfl (fun K hK => ?_) (fun K hK => ?_)
          · skip
            go_simp
            refine (HAP.out w101 hkA).mono ?_
            rintro e w102 ⟨v5, rfl, hi5, hBn⟩
            obtain ⟨A5, c5, rfl, hc5, hr5⟩ := hi5
            have hi5 : IsPool w102 (Btw w101.heap.size w102.heap.size) (.agg #[.int .i64 R.2.tx, .int .i64 R.2.time, .int .i64 R.2.unit, .int .i64 R.2.data, .slice A5 R.2.devs.length c5]) R.2 := ⟨A5, c5, rfl, hc5, hr5⟩
            have hi5 : IsPool w102 (fun b => wr.heap.size ≤ b ∧ b < w102.heap.size) (.agg #[.int .i64 R.2.tx, .int .i64 R.2.time, .int .i64 R.2.unit, .int .i64 R.2.data, .slice A5 R.2.devs.length c5]) R.2 := pool_keep hi5 (fun b hb => ⟨by have := hkA.size; have := hb.1; omega, hb.2⟩) Keep.refl
            have hkA := hkA.trans (hBn.mono hkA.size)
            clear hBn hr5
            refine hK.out _ _ (fun _ => hkA) (fun _ => ?_)
            clear hK K
            (try simp only [Act.put, List.setIfInBounds_toArray, List.set_cons_zero, List.set_cons_succ])
            refine wpTill_put 6 22 (oi := _) (v := ?_) rfl rfl (by kernel_rfl) (by kernel_rfl) (by kernel_rfl) (by kernel_rfl) (fun _ _ _ h => h) (by rfl) hkA ?_ ?_
            rotate_left
            · (intro w2' hSw; go_simp; (try with_reducible rfl))
            (try simp only [Act.put, List.setIfInBounds_toArray, List.set_cons_zero, List.set_cons_succ])
            refine wpTill_put 7 29 (oi := _) (v := ?_) rfl rfl (by kernel_rfl) (by kernel_rfl) (by kernel_rfl) (by kernel_rfl) (fun _ _ _ h => h) (by rfl) hkA ?_ ?_
            rotate_left
            · (intro w2' hSw; go_simp; (try with_reducible rfl))
            (try simp only [Act.put, List.setIfInBounds_toArray, List.set_cons_zero, List.set_cons_succ])
            refine wpTill_put 8 30 (oi := _) (v := ?_) rfl rfl (by kernel_rfl) (by kernel_rfl) (by kernel_rfl) (by kernel_rfl) (fun _ _ _ h => h) (by rfl) hkA ?_ ?_
            rotate_left
            · (intro w2' hSw; go_simp; (try with_reducible rfl))
            (try simp only [Act.put, List.setIfInBounds_toArray, List.set_cons_zero, List.set_cons_succ])
            refine wpTill_one 9 (o := _) (by kernel_rfl) rfl (fun K hK => ?_)
            go_simp
            obtain ⟨w103, hwn⟩ : ∃ x, w102.alloc (.cells #[.int .i64 0, .int .i64 0, .int .i64 0, .int .i64 0, .slice none 0 0] 24) = x := ⟨_, rfl⟩
            have hBn : Below w102.heap.size w102 w103 := by rw [← hwn]; exact (Below.refl _ _).alloc (Nat.le_refl _) _
            have b9 : w103.heap[w102.heap.size]? = some (.cells #[.int .i64 0, .int .i64 0, .int .i64 0, .int .i64 0, .slice none 0 0] 24) := by rw [← hwn]; exact heap_alloc_new w102 _
            have hge9 := hkA.size
            have hz9 : w102.heap.size < w103.heap.size := by rw [← hwn]; simp
            have hkA := hkA.trans (hBn.mono hkA.size)
            rw [hwn]
            have hi5 := (show IsPool w103 (fun b => wr.heap.size ≤ b ∧ b < w103.heap.size ∧ b ≠ (w102.heap.size)) _ R.2 from pool_keep hi5 (fun b hb => ⟨hb.1, by have := hb.2; omega, by have := hb.2; omega⟩) (keep_below hBn (fun b hb => hb.2)))
            clear hwn hBn
            refine hK.out _ _ (fun _ => hkA) (fun _ => ?_)
            clear hK K
            (try simp only [Act.put, List.setIfInBounds_toArray, List.set_cons_zero, List.set_cons_succ])
            refine wpTill_one 10 (o := _) (by kernel_rfl) rfl (fun K hK => ?_)
            obtain ⟨z0, z1, z2, z3, z4⟩ := cells5 b9
            have f0 := free_of b9 0
            have f1 := free_of b9 1
            have f2 := free_of b9 2
            have f3 := free_of b9 3
            have f4 := free_of b9 4
            go_simp
            obtain ⟨w104, hwn⟩ : ∃ x, (((((w103.setCell ⟨w102.heap.size, 0, none⟩ (.int .i64 R.2.tx)).setCell ⟨w102.heap.size, 1, none⟩ (.int .i64 R.2.time)).setCell ⟨w102.heap.size, 2, none⟩ (.int .i64 R.2.unit)).setCell ⟨w102.heap.size, 3, none⟩ (.int .i64 R.2.data)).setCell ⟨w102.heap.size, 4, none⟩ (.slice A5 R.2.devs.length c5)) = x := ⟨_, rfl⟩
            have hD := rapp_put hi5 b9 hkA hge9 w104 hwn
            have hkA := hD.2.2.1
            rw [hwn]
            clear z0 z1 z2 z3 z4 f0 f1 f2 f3 f4 hwn b9
            refine hK.out _ _ (fun _ => hkA) (fun _ => ?_)
            clear hK K
            (try simp only [Act.put, List.setIfInBounds_toArray, List.set_cons_zero, List.set_cons_succ])
            refine wpTill_put 11 9 (oi := _) (v := ?_) rfl rfl (by kernel_rfl) (by kernel_rfl) (by kernel_rfl) (by kernel_rfl) (fun _ _ _ h => h) (by rfl) hkA ?_ ?_
            rotate_left
            · (intro w2' hSw; go_simp; (try with_reducible rfl))
            (try simp only [Act.put, List.setIfInBounds_toArray, List.set_cons_zero, List.set_cons_succ])
            refine wpTill_done (by kernel_rfl) ?_ _
            go_wp2_with fail
            go_meet
            exact ⟨_, A5, c5, rfl, rfl, hD⟩
          · skip
            go_simp
            obtain ⟨w105, hwn⟩ : ∃ x, w101.alloc (.cells #[.int .i64 0, .int .i64 0, .int .i64 0, .int .i64 0, .slice none 0 0] 24) = x := ⟨_, rfl⟩
            have hBn : Below w101.heap.size w101 w105 := by rw [← hwn]; exact (Below.refl _ _).alloc (Nat.le_refl _) _
            have b9 : w105.heap[w101.heap.size]? = some (.cells #[.int .i64 0, .int .i64 0, .int .i64 0, .int .i64 0, .slice none 0 0] 24) := by rw [← hwn]; exact heap_alloc_new w101 _
            have hge9 := hkA.size
            have hz9 : w101.heap.size < w105.heap.size := by rw [← hwn]; simp
            have hkA := hkA.trans (hBn.mono hkA.size)
            rw [hwn]
            clear hwn hBn
            refine hK.out _ _ (fun _ => hkA) (fun _ => ?_)
            clear hK K
            (try simp only [Act.put, List.setIfInBounds_toArray, List.set_cons_zero, List.set_cons_succ])
            refine wpTill_one 5 (o := _) (by kernel_rfl) rfl (fun K hK => ?_)
            go_simp
            refine (HAP.out w105 hkA).mono ?_
            rintro e w106 ⟨v5, rfl, hi5, hBn⟩
            obtain ⟨A5, c5, rfl, hc5, hr5⟩ := hi5
            have hi5 : IsPool w106 (Btw w105.heap.size w106.heap.size) (.agg #[.int .i64 R.2.tx, .int .i64 R.2.time, .int .i64 R.2.unit, .int .i64 R.2.data, .slice A5 R.2.devs.length c5]) R.2 := ⟨A5, c5, rfl, hc5, hr5⟩
            have hi5 : IsPool w106 (fun b => wr.heap.size ≤ b ∧ b < w106.heap.size ∧ b ≠ (w101.heap.size)) (.agg #[.int .i64 R.2.tx, .int .i64 R.2.time, .int .i64 R.2.unit, .int .i64 R.2.data, .slice A5 R.2.devs.length c5]) R.2 := pool_keep hi5 (fun b hb => ⟨by have := hkA.size; have := hb.1; omega, hb.2, by have := hb.1; have := box_lt b9; omega⟩) Keep.refl
            have b9 := box_up b9 hBn
            have hkA := hkA.trans (hBn.mono hkA.size)
            clear hBn hr5
            refine hK.out _ _ (fun _ => hkA) (fun _ => ?_)
            clear hK K
            (try simp only [Act.put, List.setIfInBounds_toArray, List.set_cons_zero, List.set_cons_succ])
            refine wpTill_put 6 22 (oi := _) (v := ?_) rfl rfl (by kernel_rfl) (by kernel_rfl) (by kernel_rfl) (by kernel_rfl) (fun _ _ _ h => h) (by rfl) hkA ?_ ?_
            rotate_left
            · (intro w2' hSw; go_simp; (try with_reducible rfl))
            (try simp only [Act.put, List.setIfInBounds_toArray, List.set_cons_zero, List.set_cons_succ])
            refine wpTill_put 7 29 (oi := _) (v := ?_) rfl rfl (by kernel_rfl) (by kernel_rfl) (by kernel_rfl) (by kernel_rfl) (fun _ _ _ h => h) (by rfl) hkA ?_ ?_
            rotate_left
            · (intro w2' hSw; go_simp; (try with_reducible rfl))
            (try simp only [Act.put, List.setIfInBounds_toArray, List.set_cons_zero, List.set_cons_succ])
            refine wpTill_put 8 30 (oi := _) (v := ?_) rfl rfl (by kernel_rfl) (by kernel_rfl) (by kernel_rfl) (by kernel_rfl) (fun _ _ _ h => h) (by rfl) hkA ?_ ?_
            rotate_left
            · (intro w2' hSw; go_simp; (try with_reducible rfl))
            (try simp only [Act.put, List.setIfInBounds_toArray, List.set_cons_zero, List.set_cons_succ])
            refine wpTill_one 10 (o := _) (by kernel_rfl) rfl (fun K hK => ?_)
            obtain ⟨z0, z1, z2, z3, z4⟩ := cells5 b9
            have f0 := free_of b9 0
            have f1 := free_of b9 1
            have f2 := free_of b9 2
            have f3 := free_of b9 3
            have f4 := free_of b9 4
            go_simp
            obtain ⟨w107, hwn⟩ : ∃ x, (((((w106.setCell ⟨w101.heap.size, 0, none⟩ (.int .i64 R.2.tx)).setCell ⟨w101.heap.size, 1, none⟩ (.int .i64 R.2.time)).setCell ⟨w101.heap.size, 2, none⟩ (.int .i64 R.2.unit)).setCell ⟨w101.heap.size, 3, none⟩ (.int .i64 R.2.data)).setCell ⟨w101.heap.size, 4, none⟩ (.slice A5 R.2.devs.length c5)) = x := ⟨_, rfl⟩
            have hD := rapp_put hi5 b9 hkA hge9 w107 hwn
            have hkA := hD.2.2.1
            rw [hwn]
            clear z0 z1 z2 z3 z4 f0 f1 f2 f3 f4 hwn b9
            refine hK.out _ _ (fun _ => hkA) (fun _ => ?_)
            clear hK K
            (try simp only [Act.put, List.setIfInBounds_toArray, List.set_cons_zero, List.set_cons_succ])
            refine wpTill_put 11 9 (oi := _) (v := ?_) rfl rfl (by kernel_rfl) (by kernel_rfl) (by kernel_rfl) (by kernel_rfl) (fun _ _ _ h => h) (by rfl) hkA ?_ ?_
            rotate_left
            · (intro w2' hSw; go_simp; (try with_reducible rfl))
            (try simp only [Act.put, List.setIfInBounds_toArray, List.set_cons_zero, List.set_cons_succ])
            refine wpTill_done (by kernel_rfl) ?_ _
            go_wp2_with fail
            go_meet
            exact ⟨_, A5, c5, rfl, rfl, hD⟩
        case rest =>
          obtain ⟨g, A3, c3, rfl, rfl, hD⟩ := hcut
          have hzc := hD.2.2.1.size
          have hgw := hD.2.2.2.1
          have hgc := box_lt hD.1
          obtain ⟨x0, x1, x2, x3, x4⟩ := hD.1.cells
          have hpc := box_up hpb hD.2.2.1
          have hrc := box_up hrb hD.2.2.1
          have hBc := hB.trans (hD.2.2.1.mono hB.size)
          obtain ⟨y0, y1, y2, y3, y4⟩ := cells5 hpc
          obtain ⟨z0, z1, z2, z3, z4⟩ := cells5 hrc
          have HDD := Lib.hid hD
          clear hD
          by_cases he : R.1 = 0
          · have HE := Lib.hid he
            have hbe : (R.1 != 0) = false := by simp [he]
            have HNX := Lib.hid (show runFrom R.2 (j + 1) (l.drop (j + 1)) = r by
              have h1 := runFrom_next (p := q) (i := j) (l := l) (k := j) (by rw [HN.out]; exact hlt) (by rw [HNO.out, HRE.out]; exact he)
              rw [HNO.out, HRE.out] at h1
              rw [← h1]
              exact HRUN.out)
            have HFT := Lib.hid (show poolChk R.2 = 0 by rw [← HRE.out]; exact fit_iff.2 (apply_fit (by rw [HRE.out]; exact he)))
            clear he
            have f0 := free_of hpc 0
            have f1 := free_of hpc 1
            have f2 := free_of hpc 2
            have f3 := free_of hpc 3
            have f4 := free_of hpc 4
            go_wp2_with fail
            refine ⟨⟨j + 1, by go_num, by omega, below5 hBc (Nat.le_refl _) _ _ _ _ _, by rw [size5]; omega, (size5_block _ _ _ (by omega) _ _ _ _ _).trans hrc, R.2, A3, c3, set5 hpc _ _ _ _ _, ?_, HFT.out, HNX.out⟩, by simp [intOf]; omega⟩
            exact pool_keep HDD.out.2.2.2.2 (fun b hb => ⟨by rw [size5]; exact hb.2.1, by have := hb.1; omega, by have := hb.1; omega⟩) (keep5 (fun e => by have := e.1; omega) _ _ _ _ _)
          · have HE := Lib.hid he
            have hbe : (R.1 != 0) = true := by simpa using he
            clear he
            have f0 := free_of hrc 0
            have f1 := free_of hrc 1
            have f2 := free_of hrc 2
            have f3 := free_of hrc 3
            have f4 := free_of hrc 4
            go_wp2_with fail
            obtain ⟨q0, q1, q2, q3, q4⟩ := cells5 (set5 hrc (.int .i64 q.tx) (.int .i64 q.time) (.int .i64 q.unit) (.int .i64 q.data) (.slice A' q.devs.length c'))
            refine bodyPost_ret (v := .tuple #[.agg #[.int .i64 q.tx, .int .i64 q.time, .int .i64 q.unit, .int .i64 q.data, .slice A' q.devs.length c'], .int .i64 (j : Nat), .int .i64 R.1]) (by simp [results, Try.results8, go_sem, q0, q1, q2, q3, q4]) rfl ?_
            have hrr : r = (q, j, R.1) := by
              have h1 := runFrom_stop (p := q) (i := j) (l := l) (k := j) (by rw [HN.out]; exact hlt) (by rw [HNO.out, HRE.out]; exact HE.out)
              rw [HNO.out, HRE.out] at h1
              rw [← h1]
              exact HRUN.out.symm
            rw [hrr]
            refine ⟨_, rfl, ?_, below5 hBc (Nat.le_succ _) _ _ _ _ _⟩
            exact pool_keep (pool_keep HIQ.out (fun b hb => hb) (keep_below HDD.out.2.2.1 (fun b hb => hb.1))) (fun b hb => by have := hb.1; show b < _; rw [size5]; omega) (keep5 (fun e => e.2.2 rfl) _ _ _ _ _)
      · obtain rfl : j = n := by omega
        obtain ⟨z0, z1, z2, z3, z4⟩ := hrb.cells
        have f0 := hrb.free 0
        have f1 := hrb.free 1
        have f2 := hrb.free 2
        have f3 := hrb.free 3
        have f4 := hrb.free 4
        go_wp2_with fail
        obtain ⟨q0, q1, q2, q3, q4⟩ := cells5 (set5 hrb (.int .i64 q.tx) (.int .i64 q.time) (.int .i64 q.unit) (.int .i64 q.data) (.slice A' q.devs.length c'))
        refine bodyPost_ret (v := .tuple #[.agg #[.int .i64 q.tx, .int .i64 q.time, .int .i64 q.unit, .int .i64 q.data, .slice A' q.devs.length c'], .int .i64 (j : Nat), .int .i64 0]) (by simp [results, Try.results8, go_sem, q0, q1, q2, q3, q4]) rfl ?_
        have hrr : r = (q, j, 0) := by
          rw [← HRUN.out, List.drop_of_length_le (by rw [HN.out]; omega)]
          rfl
        rw [hrr]
        refine ⟨_, rfl, ?_, below5 hB (Nat.le_succ _) _ _ _ _ _⟩
        exact pool_keep HIQ.out (fun b hb => by have := hb.1; show b < _; rw [size5]; omega) (keep5 (fun e => e.2.2 rfl) _ _ _ _ _)
  · have HRR := Lib.hid (show r = (pool0, 0, poolChk p) by rw [← HRR0.out]; unfold runF; rw [if_pos hc])
    have hb1 : (poolChk p != 0) = true := by simpa using hc
    clear hc HRR0
    generalize poolChk p = fe at *
    have HPP := Lib.hid hp2
    have HRP := Lib.hid hr2
    go_wp2_with (first
      | (go_at_call 15; have _ := hB4; (have hx := HCK.out w4 hk4; with_reducible refine hx.mono ?_; clear hx); rintro e w5 ⟨rfl, hB5⟩; have hk5 := hk4.trans (hB5.mono hk4.size); have hrb5 := box_up hrb4 hB5; clear z0 z1 z2 z3 z4 f0 f1 f2 f3 f4; obtain ⟨z0, z1, z2, z3, z4⟩ := cells5 hrb5; have f0 := free_of hrb5 0; have f1 := free_of hrb5 1; have f2 := free_of hrb5 2; have f3 := free_of hrb5 3; have f4 := free_of hrb5 4)
      | (go_at_call 15; (have hx := HCK.out w2 hB2; with_reducible refine hx.mono ?_; clear hx); rintro e w4 ⟨rfl, hB4⟩; have hk4 := hB2.trans (hB4.mono hB2.size); have hrb4 := box_up HRP.out hB4; have hpb4 := box_up HPP.out hB4; clear x0 x1 x2 x3 x4; obtain ⟨x0, x1, x2, x3, x4⟩ := cells5 hpb4))
    obtain ⟨q0, q1, q2, q3, q4⟩ := cells5 (set5 hrb5 (.int .i64 0) (.int .i64 0) (.int .i64 0) (.int .i64 0) (.slice none 0 0))
    refine bodyPost_ret (v := .tuple #[.agg #[.int .i64 0, .int .i64 0, .int .i64 0, .int .i64 0, .slice none 0 0], .int .i64 0, .int .i64 fe]) (by simp [results, Try.results8, go_sem, q0, q1, q2, q3, q4]) rfl ?_
    rw [HRR.out]
    exact ⟨_, rfl, pool0_at _ _, below5 hk5 (Nat.le_succ _) _ _ _ _ _⟩
end Go.Proofs.Ytjeeheeaickokaa

/- scantlinglaw49.lives says yes. -/
namespace Go.Proofs.Ytjeeheeaickokaa
open Go.RowKit
attribute [local go_sem] Oper.semAt_some

def ex49 : Pool := ⟨0, 0, 1, 9, []⟩
def exO49 : List Mop := [⟨1, 1, 0, 0⟩, ⟨4, 1, 5, 2⟩, ⟨2, 2, 1, 0⟩, ⟨4, 1, 5, 1⟩]
def exQ49 : Pool := ⟨0, 1, 1, 9, [⟨1, 0, 0, 1, [⟨5, 2, 1⟩, ⟨6, 1, 0⟩]⟩, ⟨2, 0, 1, 1, [⟨5, 0, 0⟩, ⟨6, 1, 0⟩]⟩]⟩
theorem ex49_run : runF ex49 exO49 = (exQ49, 4, 0) := by kernel_rfl
theorem ex49_chk : poolChk ex49 = 0 := by kernel_rfl
theorem ex49_is (w : World) (S : Nat → Prop) : IsPool w S (.agg #[.int .i64 0, .int .i64 0, .int .i64 1, .int .i64 9, .slice none 0 0]) ex49 :=
  ⟨none, 0, rfl, Nat.le_refl _, fun h => absurd h (by simp [ex49])⟩
theorem same_lit (W : World) (S : Nat → Prop) (A0 : Option Addr) (c0 g n : Nat) (l : List Mp) (cs : Array Value) (hg : W.heap.size = g) (hn : l.length = n) (hm : MapRow W S A0 l) (hc : l.length ≤ c0) (hS : ∀ b, S b → b < W.heap.size) (hcs : cs.toList = flats Mp.enc l) (hl : n ≤ 140737488355328) :
    Calls Try.prog 12 #[.slice A0 n c0, .slice (some ⟨g, 0, none⟩) n n] (W.alloc (.cells cs 49)) fun e w' => e = .returned (.bool true) ∧ ∃ m, w' = (W.alloc (.cells cs 49)).drewN m := by
  subst hg hn
  have h1 : IsMaps (W.alloc (.cells cs 49)) S (.slice A0 l.length c0) l := ⟨A0, c0, rfl, hc, hm.keep rmp_stable (fun _ h => h) (keep_alloc hS _)⟩
  have h2 : IsMaps (W.alloc (.cells cs 49)) (fun b => b = W.heap.size) (.slice (some ⟨W.heap.size, 0, none⟩) l.length l.length) l := IsSl.block Mp.enc_len (heap_alloc_new W _) hcs rfl (Nat.le_refl _) rfl
  have h := rsameMaps_any _ _ _ _ _ l l h1 h2 hl
  simpa using h
set_option maxRecDepth 100000 in
set_option maxHeartbeats 3200000 in
theorem lives49 (w : World) : Calls Try.prog 6 #[] w fun e w' => e = .returned (.bool true) ∧ Below w.heap.size w w' := by
  have hal : Below w.heap.size w (w.alloc (.cells #[.int .i64 1, .int .i64 1, .int .i64 0, .int .i64 0, .int .i64 4, .int .i64 1, .int .i64 5, .int .i64 2, .int .i64 2, .int .i64 2, .int .i64 1, .int .i64 0, .int .i64 4, .int .i64 1, .int .i64 5, .int .i64 1] 32)) := (Below.refl _ _).alloc (Nat.le_refl _) _
  have hop : IsOps (w.alloc (.cells #[.int .i64 1, .int .i64 1, .int .i64 0, .int .i64 0, .int .i64 4, .int .i64 1, .int .i64 5, .int .i64 2, .int .i64 2, .int .i64 2, .int .i64 1, .int .i64 0, .int .i64 4, .int .i64 1, .int .i64 5, .int .i64 1] 32)) (Lt (w.heap.size + 1)) (.slice (some ⟨w.heap.size, 0, none⟩) 4 4) exO49 :=
    IsSl.block Mop.enc_len (heap_alloc_new w _) rfl rfl (Nat.le_refl _) (by show w.heap.size < w.heap.size + 1; omega)
  have hrun := run_good _ (Lt (w.heap.size + 1)) _ _ ex49 exO49 (fun b hb => by have : b < w.heap.size + 1 := hb; simp; omega) (ex49_is (w.alloc (.cells #[.int .i64 1, .int .i64 1, .int .i64 0, .int .i64 0, .int .i64 4, .int .i64 1, .int .i64 5, .int .i64 2, .int .i64 2, .int .i64 2, .int .i64 1, .int .i64 0, .int .i64 4, .int .i64 1, .int .i64 5, .int .i64 1] 32)) _) hop (by simp [exO49]) ex49_chk
  rw [ex49_run] at hrun
  unfold RunIs at hrun
  have HRUN := Lib.hid hrun
  clear hop hrun
  go_enter Try.func6, Try.ntmps6
  go_wp2_with (go_at_call 7; refine HRUN.out.mono ?_; rintro e w2 ⟨v2, rfl, ⟨A2, c2, rfl, hc2, hr2⟩, hB2⟩; have hl2 : exQ49.devs.length = 2 := rfl; rw [hl2]; clear hl2; obtain ⟨b, off, rfl, hbS, hcl⟩ := devs_cells hr2 (by decide); obtain ⟨_, _, _, _, A0, c0, m0, hc0, hm0⟩ := hcl 0 (by decide); obtain ⟨_, _, _, _, A1, c1, m1, hc1, hm1⟩ := hcl 1 (by decide); have hbl := hbS.2; have n0 : w2.cell? ⟨b, off + 4, none⟩ = some (.slice A0 2 c0) := (by rw [Nat.zero_mul, Nat.add_zero] at m0; exact m0); have n1 : w2.cell? ⟨b, off + 5 + 4, none⟩ = some (.slice A1 2 c1) := (by rw [Nat.one_mul] at m1; exact m1); clear m0 m1 hcl)
  have hbp : Below w2.heap.size w2 (w2.alloc (.cells #[.int .i64 exQ49.tx, .int .i64 exQ49.time, .int .i64 exQ49.unit, .int .i64 exQ49.data, .slice (some ⟨b, off, none⟩) 2 c2] 24)) := (Below.refl _ _).alloc (Nat.le_refl _) _
  refine (same_lit (w2.alloc (.cells #[.int .i64 exQ49.tx, .int .i64 exQ49.time, .int .i64 exQ49.unit, .int .i64 exQ49.data, .slice (some ⟨b, off, none⟩) 2 c2] 24)) _ A0 c0 (w2.heap.size + 1) 2 [⟨5, 2, 1⟩, ⟨6, 1, 0⟩] #[.int .i64 5, .int .i64 2, .int .i64 1, .int .i64 6, .int .i64 1, .int .i64 0] (by simp) rfl (hm0.keep rmp_stable (fun _ h => h) (keep_below hbp (fun b hb => hb.2))) hc0 (fun b hb => by have := hb.2; simp; omega) rfl (by omega)).mono ?_
  rintro e w3 ⟨rfl, m, rfl⟩
  have hb3 : Below w2.heap.size w2 (((w2.alloc (.cells #[.int .i64 exQ49.tx, .int .i64 exQ49.time, .int .i64 exQ49.unit, .int .i64 exQ49.data, .slice (some ⟨b, off, none⟩) 2 c2] 24)).alloc (.cells #[.int .i64 5, .int .i64 2, .int .i64 1, .int .i64 6, .int .i64 1, .int .i64 0] 49)).drewN m) := (hbp.alloc (by simp) _).trans ⟨rfl, rfl, rfl, Nat.le_refl _, fun _ _ => rfl⟩
  have hz3 : (((w2.alloc (.cells #[.int .i64 exQ49.tx, .int .i64 exQ49.time, .int .i64 exQ49.unit, .int .i64 exQ49.data, .slice (some ⟨b, off, none⟩) 2 c2] 24)).alloc (.cells #[.int .i64 5, .int .i64 2, .int .i64 1, .int .i64 6, .int .i64 1, .int .i64 0] 49)).drewN m).heap.size = w2.heap.size + 1 + 1 := by
    show ((w2.alloc _).alloc _).heap.size = _
    simp
  have q4 : (((w2.alloc (.cells #[.int .i64 exQ49.tx, .int .i64 exQ49.time, .int .i64 exQ49.unit, .int .i64 exQ49.data, .slice (some ⟨b, off, none⟩) 2 c2] 24)).alloc (.cells #[.int .i64 5, .int .i64 2, .int .i64 1, .int .i64 6, .int .i64 1, .int .i64 0] 49)).drewN m).cell? ⟨w2.heap.size, 4, none⟩ = some (.slice (some ⟨b, off, none⟩) 2 c2) := by
    show ((w2.alloc _).alloc _).cell? _ = _
    rw [World.cell?_alloc_lt _ _ _ (by simp), World.cell?_alloc_new]
    rfl
  have q1 := (hb3.cell (p := ⟨b, off + 5 + 4, none⟩) hbl).trans n1
  obtain ⟨w3, hw3⟩ : ∃ w3, (((w2.alloc (.cells #[.int .i64 exQ49.tx, .int .i64 exQ49.time, .int .i64 exQ49.unit, .int .i64 exQ49.data, .slice (some ⟨b, off, none⟩) 2 c2] 24)).alloc (.cells #[.int .i64 5, .int .i64 2, .int .i64 1, .int .i64 6, .int .i64 1, .int .i64 0] 49)).drewN m) = w3 := ⟨_, rfl⟩
  rw [hw3] at hb3 hz3 q4 q1 ⊢
  have HSM := Lib.hid (same_lit w3 _ A1 c1 w3.heap.size 2 [⟨5, 0, 0⟩, ⟨6, 1, 0⟩] #[.int .i64 5, .int .i64 0, .int .i64 0, .int .i64 6, .int .i64 1, .int .i64 0] rfl rfl (hm1.keep rmp_stable (fun _ h => h) (keep_below hb3 (fun b hb => hb.2))) hc1 (fun b hb => by have := hb.2; omega) rfl (by omega))
  have HZ3 := Lib.hid hz3
  clear hw3 n0 n1 hz3 hm0 hm1
  go_wp2_with (go_at_call 12; refine HSM.out.mono ?_; rintro e w5 ⟨rfl, m5, rfl⟩)
  go_ret
  refine ⟨rfl, (hal.trans (hB2.mono (by simp))).trans ((hb3.mono (by have := hB2.size; simp at this; omega)).trans ?_)⟩
  exact ((Below.refl w3.heap.size w3).alloc (Nat.le_refl _) _).mono (by have := HZ3.out; have := hB2.size; simp at this; omega) |>.trans ⟨rfl, rfl, rfl, Nat.le_refl _, fun _ _ => rfl⟩
end Go.Proofs.Ytjeeheeaickokaa

/- scantlinglaw49.Few: it looks, and says 0 or 1. Condition: the slice is within the reach. -/
namespace Go.Proofs.Ytjeeheeaickokaa
open Go.RowKit
attribute [local go_sem] Oper.semAt_some

def badO (o : Mop) : Bool := (decide (60 < o.n) && (!decide (o.kind = 7) && decide (o.n ≤ 16384))) || (decide (o.kind = 7) && (decide (3000 < o.n) && decide (o.n ≤ 65536)))
def fewO (l : List Mop) : Int := if (l.take 101).any badO = true then 0 else if (l.take 101).length ≤ 60 then 1 else 0
theorem fewO_one (l : List Mop) : fewO l = 0 ∨ fewO l = 1 := by
  unfold fewO
  split
  · exact .inl rfl
  · split
    · exact .inr rfl
    · exact .inl rfl
theorem fewO_bad {l : List Mop} {k : Nat} (hk : k < l.length) (h1 : k < 101) (h : badO (nth mop0 l k) = true) : fewO l = 0 := by
  unfold fewO
  rw [if_pos]
  rw [List.any_eq_true]
  refine ⟨nth mop0 l k, ?_, h⟩
  rw [nth_get mop0 l k hk]
  exact List.mem_take_iff_getElem.2 ⟨k, by omega, rfl⟩
theorem fewO_done {l : List Mop} {k : Nat} (hk : k ≤ l.length) (hk1 : k ≤ 101) (he : k = l.length ∨ k = 101) (h : ∀ j, j < k → badO (nth mop0 l j) = false) : fewO l = if k ≤ 60 then 1 else 0 := by
  unfold fewO
  rw [if_neg]
  · have : (l.take 101).length = k := by rw [List.length_take]; omega
    rw [this]
  · intro hx
    rw [List.any_eq_true] at hx
    obtain ⟨x, hx, hb⟩ := hx
    obtain ⟨j, hj, rfl⟩ := List.mem_take_iff_getElem.1 hx
    have := h j (by omega)
    rw [nth_get mop0 l j (by omega), hb] at this
    cases this
set_option maxRecDepth 100000 in
set_option maxHeartbeats 3200000 in
theorem few49_any (w : World) (S : Nat → Prop) (v : Value) (l : List Mop) (h : IsOps w S v l) (hln : l.length ≤ 281474976710656) :
    Calls Try.prog 5 #[v] w fun e w' => e = .returned (.int .i64 (fewO l)) ∧ w = w' := by
  obtain ⟨A, c, rfl, hc, hr⟩ := h
  have HC := Lib.hid (fun h0 => ops_cells hr h0)
  have HB := Lib.hid (fun k (hk : k < l.length) (h1 : k < 101) h => fewO_bad hk h1 h)
  have HD := Lib.hid (fun k (hk : k ≤ l.length) h1 h2 h3 => fewO_done (l := l) (k := k) hk h1 h2 h3)
  clear hr
  generalize fewO l = r at *
  generalize hn : l.length = n at *
  have HN := Lib.hid hn
  clear hn
  go_enter Try.func5, Try.ntmps5
  go_wp2
  go_loop [3, 4] (fun m i => ∃ k : Nat, k ≤ n ∧ k ≤ 101 ∧ m = .int .i64 k ∧ i = .int .i64 k ∧ Hid (∀ j, j < k → badO (nth mop0 l j) = false)) (fun _ i => 101 - (intOf i).toNat)
  case atStart => exact ⟨0, by omega, by omega, rfl, rfl, Lib.hid fun j hj => by omega⟩
  case round =>
    obtain ⟨k, hk, hk1, rfl, rfl, HA⟩ := hrel
    by_cases hlt : k < n ∧ k < 101
    · obtain ⟨hlt, hlt1⟩ := hlt
      obtain ⟨b, off, rfl, _, hcl⟩ := HC.out (by omega)
      obtain ⟨y0, y1, y2, y3⟩ := hcl k hlt
      clear hcl
      have d1 : decide ((k : Int) < (n : Int)) = true := by simp; omega
      have d2 : decide ((k : Int) < 101) = true := by simp; omega
      have HBK := Lib.hid (fun h => HB.out k hlt hlt1 h)
      generalize hy : nth mop0 l k = o at *
      have HY := Lib.hid hy
      clear hy
      have hcase : badO o = true ∨ badO o = false := by cases badO o <;> simp
      have hb0 : badO o = ((decide (60 < o.n) && (!decide (o.kind = 7) && decide (o.n ≤ 16384))) || (decide (o.kind = 7) && (decide (3000 < o.n) && decide (o.n ≤ 65536)))) := rfl
      have HB0 := Lib.hid hb0
      clear hb0
      by_cases e7 : o.kind = 7
      · have k1 : (o.kind == 7) = true := by simpa using e7
        have k2 : (o.kind != 7) = false := by simpa using e7
        have k3 : decide (o.kind = 7) = true := by simpa using e7
        have K3 := Lib.hid k3
        clear k3 e7 hcase
        cases g1 : decide (60 < o.n) <;> cases g2 : decide (3000 < o.n) <;> cases g3 : decide (o.n ≤ 65536)
        all_goals
          have G1 := Lib.hid g1
          have G2 := Lib.hid g2
          have G3 := Lib.hid g3
          go_wp2_with fail
          first
            | (go_ret; exact ⟨by rw [HBK.out (by rw [HB0.out, K3.out, G2.out, G3.out]; simp)]; rfl, rfl⟩)
            | (refine ⟨⟨k + 1, by omega, by omega, by go_num, by go_num, Lib.hid fun j hj => ?_⟩, by simp [intOf]; omega⟩
               by_cases ej : j = k
               · rw [ej, HY.out, HB0.out, K3.out, G2.out, G3.out]; simp
               · exact HA.out j (by omega))
      · have k1 : (o.kind == 7) = false := by simpa using e7
        have k2 : (o.kind != 7) = true := by simpa using e7
        have k3 : decide (o.kind = 7) = false := by simpa using e7
        have K3 := Lib.hid k3
        clear k3 e7 hcase
        cases g1 : decide (60 < o.n) <;> cases g2 : decide (o.n ≤ 16384)
        all_goals
          have G1 := Lib.hid g1
          have G2 := Lib.hid g2
          go_wp2_with fail
          first
            | (go_ret; exact ⟨by rw [HBK.out (by rw [HB0.out, K3.out, G1.out, G2.out]; simp)]; rfl, rfl⟩)
            | (refine ⟨⟨k + 1, by omega, by omega, by go_num, by go_num, Lib.hid fun j hj => ?_⟩, by simp [intOf]; omega⟩
               by_cases ej : j = k
               · rw [ej, HY.out, HB0.out, K3.out, G1.out, G2.out]; simp
               · exact HA.out j (by omega))
    · have hd := HD.out k hk hk1 (by omega) HA.out
      have HDD := Lib.hid hd
      clear hd
      by_cases e1 : k < n
      · have d1 : decide ((k : Int) < (n : Int)) = true := by simp; omega
        have d2 : decide ((k : Int) < 101) = false := by simp; omega
        have d3 : ¬ k ≤ 60 := by omega
        have hk60 : 60 < (k : Int) := by omega
        clear hlt
        go_wp2_with fail
        go_ret
        exact ⟨by rw [HDD.out, if_neg d3]; rfl, rfl⟩
      · have d1 : decide ((k : Int) < (n : Int)) = false := by simp; omega
        clear hlt
        by_cases d3 : k ≤ 60
        · have hk60 : (k : Int) ≤ 60 := by omega
          go_wp2_with fail
          go_ret
          exact ⟨by rw [HDD.out, if_pos d3]; rfl, rfl⟩
        · have hk60 : 60 < (k : Int) := by omega
          go_wp2_with fail
          go_ret
          exact ⟨by rw [HDD.out, if_neg d3]; rfl, rfl⟩
end Go.Proofs.Ytjeeheeaickokaa

/- scantlingref18.SameDevice, Same: whether two devices, two pools are the same. Condition: no slice is longer than the reach. -/
namespace Go.Proofs.Ytjeeheeaickokaa
open Go.RowKit

deriving instance DecidableEq for Dev
deriving instance DecidableEq for Pool
theorem dev_ne {d e : Dev} (h : ¬ (d.id = e.id ∧ d.tx = e.tx ∧ d.made = e.made ∧ d.snapped = e.snapped ∧ d.maps = e.maps)) : d ≠ e := fun x => h (by rw [x]; simp)
theorem dev_eq {d e : Dev} (h1 : d.id = e.id) (h2 : d.tx = e.tx) (h3 : d.made = e.made) (h4 : d.snapped = e.snapped) (h5 : d.maps = e.maps) : d = e := by cases d; cases e; simp_all
/-- Two devices are the same: number for number. -/
theorem dev_dec (d e : Dev) : decide (d = e) = (decide (d.id = e.id) && (decide (d.tx = e.tx) && (decide (d.made = e.made) && (decide (d.snapped = e.snapped) && decide (d.maps = e.maps))))) := by
  cases d; cases e; simp
theorem pool_dec (d e : Pool) : decide (d = e) = (decide (d.tx = e.tx) && (decide (d.time = e.time) && (decide (d.unit = e.unit) && (decide (d.data = e.data) && decide (d.devs = e.devs))))) := by
  cases d; cases e; simp

set_option maxRecDepth 100000 in
set_option maxHeartbeats 1600000 in
theorem rsameDev_any (w : World) (S1 S2 : Nat → Prop) (v1 v2 : Value) (d e : Dev) (hS1 : ∀ b, S1 b → b < w.heap.size) (hS2 : ∀ b, S2 b → b < w.heap.size) (h1 : IsDev w S1 v1 d) (h2 : IsDev w S2 v2 e) (hn : d.maps.length ≤ 140737488355328) :
    Calls Try.prog 16 #[v1, v2] w fun x w' => x = .returned (.bool (decide (d = e))) ∧ Below w.heap.size w w' := by
  obtain ⟨A, c, rfl, hc, hra⟩ := h1
  obtain ⟨B, k, rfl, hd, hrb⟩ := h2
  have hB0 : Below w.heap.size w ((w.alloc (.cells #[.int .i64 d.id, .int .i64 d.tx, .int .i64 d.made, .int .i64 d.snapped, .slice A d.maps.length c] 46)).alloc (.cells #[.int .i64 e.id, .int .i64 e.tx, .int .i64 e.made, .int .i64 e.snapped, .slice B e.maps.length k] 46)) :=
    ((Below.refl _ _).alloc (Nat.le_refl _) _).alloc (by simp) _
  have hm := rsameMaps_any ((w.alloc (.cells #[.int .i64 d.id, .int .i64 d.tx, .int .i64 d.made, .int .i64 d.snapped, .slice A d.maps.length c] 46)).alloc (.cells #[.int .i64 e.id, .int .i64 e.tx, .int .i64 e.made, .int .i64 e.snapped, .slice B e.maps.length k] 46)) S1 S2 _ _ d.maps e.maps ⟨A, c, rfl, hc, hra.keep rmp_stable (fun _ h => h) (keep_below hB0 hS1)⟩ ⟨B, k, rfl, hd, hrb.keep rmp_stable (fun _ h => h) (keep_below hB0 hS2)⟩ hn
  have HM := Lib.hid hm
  have HD := Lib.hid (dev_dec d e)
  clear hm hra hrb hn hc hd
  by_cases g1 : d.id = e.id
  · skip
    by_cases g2 : d.tx = e.tx
    · skip
      by_cases g3 : d.made = e.made
      · skip
        by_cases g4 : d.snapped = e.snapped
        · skip
          have HE : Hid (decide (d = e) = decide (d.maps = e.maps)) := Lib.hid (by rw [HD.out]; simp [g1, g2, g3, g4])
          have b1 : (d.id == e.id) = true := by simp [g1]
          have b2 : (d.tx == e.tx) = true := by simp [g2]
          have b3 : (d.made == e.made) = true := by simp [g3]
          have b4 : (d.snapped == e.snapped) = true := by simp [g4]
          clear HD g1 g2 g3 g4
          go_enter Try.func16, Try.ntmps16
          go_wp2_with (go_at_call 12; refine HM.out.mono ?_; rintro x w2 ⟨rfl, m, rfl⟩)
          go_ret
          exact ⟨by rw [HE.out]; rfl, below_drewN hB0 m⟩
        · have HE : Hid (decide (d = e) = false) := Lib.hid (by rw [HD.out]; simp [g4])
          have b1 : (d.id == e.id) = true := by simp [g1]
          have b2 : (d.tx == e.tx) = true := by simp [g2]
          have b3 : (d.made == e.made) = true := by simp [g3]
          have b4 : (d.snapped == e.snapped) = false := by simp [g4]
          clear HD HM g1 g2 g3 g4
          go_enter Try.func16, Try.ntmps16
          go_wp2
          go_ret
          exact ⟨by rw [HE.out]; rfl, hB0⟩
      · have HE : Hid (decide (d = e) = false) := Lib.hid (by rw [HD.out]; simp [g3])
        have b1 : (d.id == e.id) = true := by simp [g1]
        have b2 : (d.tx == e.tx) = true := by simp [g2]
        have b3 : (d.made == e.made) = false := by simp [g3]
        clear HD HM g1 g2 g3
        go_enter Try.func16, Try.ntmps16
        go_wp2
        go_ret
        exact ⟨by rw [HE.out]; rfl, hB0⟩
    · have HE : Hid (decide (d = e) = false) := Lib.hid (by rw [HD.out]; simp [g2])
      have b1 : (d.id == e.id) = true := by simp [g1]
      have b2 : (d.tx == e.tx) = false := by simp [g2]
      clear HD HM g1 g2
      go_enter Try.func16, Try.ntmps16
      go_wp2
      go_ret
      exact ⟨by rw [HE.out]; rfl, hB0⟩
  · have HE : Hid (decide (d = e) = false) := Lib.hid (by rw [HD.out]; simp [g1])
    have b1 : (d.id == e.id) = false := by simp [g1]
    clear HD HM g1
    go_enter Try.func16, Try.ntmps16
    go_wp2
    go_ret
    exact ⟨by rw [HE.out]; rfl, hB0⟩
set_option maxRecDepth 100000 in
set_option maxHeartbeats 3200000 in
theorem rsamePool_any (w : World) (S1 S2 : Nat → Prop) (v1 v2 : Value) (d e : Pool) (hS1 : ∀ b, S1 b → b < w.heap.size) (hS2 : ∀ b, S2 b → b < w.heap.size) (h1 : IsPool w S1 v1 d) (h2 : IsPool w S2 v2 e) (hn : d.devs.length ≤ 1099511627776) (hm : ∀ k, k < d.devs.length → (nth dev0 d.devs k).maps.length ≤ 140737488355328) :
    Calls Try.prog 9 #[v1, v2] w fun x w' => x = .returned (.bool (decide (d = e))) ∧ Below w.heap.size w w' := by
  obtain ⟨A, c, rfl, hc, hra⟩ := h1
  obtain ⟨B, k, rfl, hd, hrb⟩ := h2
  have hB0 : Below w.heap.size w ((w.alloc (poolBox d A d.devs.length c)).alloc (poolBox e B e.devs.length k)) :=
    ((Below.refl _ _).alloc (Nat.le_refl _) _).alloc (by simp) _
  dsimp only [poolBox] at hB0
  have HD := Lib.hid (pool_dec d e)
  by_cases g1 : d.tx = e.tx
  · skip
    by_cases g2 : d.time = e.time
    · skip
      by_cases g3 : d.unit = e.unit
      · skip
        by_cases g4 : d.data = e.data
        · skip
          by_cases g5 : e.devs.length = d.devs.length
          · skip
            have b1 : (d.tx != e.tx) = false := by simp [g1]
            have b2 : (d.time != e.time) = false := by simp [g2]
            have b3 : (d.unit != e.unit) = false := by simp [g3]
            have b4 : (d.data != e.data) = false := by simp [g4]
            have HEQ : Hid (decide (d = e) = decide (d.devs = e.devs)) := Lib.hid (by rw [HD.out]; simp [g1, g2, g3, g4])
            have hp1 : PBox ((w.alloc (poolBox d A d.devs.length c)).alloc (poolBox e B e.devs.length k)) w.heap.size d A d.devs.length c := (PBox.new w d A d.devs.length c).below (Below.alloc (Below.refl _ _) (Nat.le_refl _) _) (by simp)
            have hp2 : PBox ((w.alloc (poolBox d A d.devs.length c)).alloc (poolBox e B e.devs.length k)) (w.heap.size + 1) e B e.devs.length k := by have h := PBox.new (w.alloc (poolBox d A d.devs.length c)) e B e.devs.length k; rw [World.size_alloc] at h; exact h
            dsimp only [poolBox] at hp1 hp2 hB0
            rw [g5] at hp2 hB0 hp1 ⊢
            clear HD g1 g2 g3 g4
            have HL := Lib.hid g5
            clear g5
            generalize hna : d.devs.length = n at *
            have HA := Lib.hid hna
            have HMM := Lib.hid hm
            clear hna hm
            go_enter Try.func9, Try.ntmps9
            go_wp2_with fail
            have hz0 : ((w.alloc (.cells #[.int .i64 d.tx, .int .i64 d.time, .int .i64 d.unit, .int .i64 d.data, .slice A n c] 24)).alloc (.cells #[.int .i64 e.tx, .int .i64 e.time, .int .i64 e.unit, .int .i64 e.data, .slice B n k] 24)).heap.size = w.heap.size + 2 := by simp
            generalize (w.alloc (.cells #[.int .i64 d.tx, .int .i64 d.time, .int .i64 d.unit, .int .i64 d.data, .slice A n c] 24)).alloc (.cells #[.int .i64 e.tx, .int .i64 e.time, .int .i64 e.unit, .int .i64 e.data, .slice B n k] 24) = w0 at *
            go_loopw [5] (fun i wr => ∃ j : Nat, i = .int .i64 j ∧ j ≤ n ∧ (∀ m, m < j → nth dev0 d.devs m = nth dev0 e.devs m) ∧ Below w0.heap.size w0 wr) (fun i _ => n - (intOf i).toNat)
            case atStart => exact ⟨0, rfl, by omega, fun j hj => absurd hj (by omega), Below.refl _ _⟩
            case round =>
              obtain ⟨j, rfl, hj, hsm, hB⟩ := hrel
              have HS := Lib.hid hsm
              clear hsm
              have hsz := hB.size
              have hp1r := hp1.below (b := w.heap.size) hB (by omega)
              have hp2r := hp2.below (b := w.heap.size + 1) hB (by omega)
              obtain ⟨x0, x1, x2, x3, x4⟩ := hp1r.cells
              obtain ⟨y0, y1, y2, y3, y4⟩ := hp2r.cells
              have hBw : Below w.heap.size w wr := hB0.trans (hB.mono (by omega))
              by_cases hlt : j < n
              · obtain ⟨ba, oa, rfl, hba, hca⟩ := devs_cells (hra.keep rdev_stable (fun _ h => h) (keep_below hBw hS1)) (by rw [HA.out]; omega)
                obtain ⟨a0, a1, a2, a3, Aa, ca, a4, hca', hra'⟩ := hca j (by rw [HA.out]; exact hlt)
                obtain ⟨bb, ob, rfl, hbb, hcb⟩ := devs_cells (hrb.keep rdev_stable (fun _ h => h) (keep_below hBw hS2)) (by rw [HL.out]; omega)
                obtain ⟨c0, c1, c2, c3, Ab, cb, c4, hcb', hrb'⟩ := hcb j (by rw [HL.out]; exact hlt)
                have hmk := HMM.out j hlt
                have hba2 : ba < wr.heap.size := by have := hS1 _ hba; omega
                have hbb2 : bb < wr.heap.size := by have := hS2 _ hbb; omega
                have hsame := rsameDev_any wr.drew S1 S2 (devV (nth dev0 d.devs j) Aa ca) (devV (nth dev0 e.devs j) Ab cb) (nth dev0 d.devs j) (nth dev0 e.devs j) (fun b hb => by have := hS1 b hb; show b < wr.heap.size; omega) (fun b hb => by have := hS2 b hb; show b < wr.heap.size; omega)
                  ⟨Aa, ca, rfl, hca', hra'⟩ ⟨Ab, cb, rfl, hcb', hrb'⟩ hmk
                dsimp only [devV] at hsame
                have HSM := Lib.hid hsame
                clear hca hcb hsame hra' hrb' hca' hcb'
                by_cases hx : nth dev0 d.devs j = nth dev0 e.devs j
                · have hS2 : ∀ m, m < j + 1 → nth dev0 d.devs m = nth dev0 e.devs m := fun m hm => by
                    by_cases e : m = j
                    · rw [e]; exact hx
                    · exact HS.out m (by omega)
                  have HS2 := Lib.hid hS2
                  have hxb : decide (nth dev0 d.devs j = nth dev0 e.devs j) = true := decide_eq_true hx
                  rw [hxb] at HSM
                  clear hx hS2 HS hxb
                  generalize nth dev0 d.devs j = z1 at *
                  generalize nth dev0 e.devs j = z2 at *
                  go_wp2_with fail
                  go_region_held3 (fun w' => w'.cell? ⟨w.heap.size, 4, none⟩ = some (.slice (some ⟨ba, oa, none⟩) n c) ∧ w'.cell? ⟨w.heap.size + 1, 4, none⟩ = some (.slice (some ⟨bb, ob, none⟩) n k) ∧
                      w'.cell? ⟨ba, oa + j * 5, none⟩ = some (.int .i64 z1.id) ∧ w'.cell? ⟨ba, oa + j * 5 + 1, none⟩ = some (.int .i64 z1.tx) ∧ w'.cell? ⟨ba, oa + j * 5 + 2, none⟩ = some (.int .i64 z1.made) ∧ w'.cell? ⟨ba, oa + j * 5 + 3, none⟩ = some (.int .i64 z1.snapped) ∧ w'.cell? ⟨ba, oa + j * 5 + 4, none⟩ = some (.slice Aa z1.maps.length ca) ∧
                      w'.cell? ⟨bb, ob + j * 5, none⟩ = some (.int .i64 z2.id) ∧ w'.cell? ⟨bb, ob + j * 5 + 1, none⟩ = some (.int .i64 z2.tx) ∧ w'.cell? ⟨bb, ob + j * 5 + 2, none⟩ = some (.int .i64 z2.made) ∧ w'.cell? ⟨bb, ob + j * 5 + 3, none⟩ = some (.int .i64 z2.snapped) ∧ w'.cell? ⟨bb, ob + j * 5 + 4, none⟩ = some (.slice Ab z2.maps.length cb)) (go_keep)
                    (first | (go_at_call 16; refine HSM.out.mono ?_; rintro x w2 ⟨rfl, hB4⟩; have hKK : ∀ b o, b < wr.heap.size → w2.cell? ⟨b, o, none⟩ = wr.cell? ⟨b, o, none⟩ := fun b o hb => hB4.cell (p := ⟨b, o, none⟩) hb; have i1 := (hKK _ _ hp1r.lt).trans x4; have i2 := (hKK _ _ hp2r.lt).trans y4; have j0 := (hKK _ _ hba2).trans a0; have j1 := (hKK _ _ hba2).trans a1; have j2 := (hKK _ _ hba2).trans a2; have j3 := (hKK _ _ hba2).trans a3; have j4 := (hKK _ _ hba2).trans a4; have m0 := (hKK _ _ hbb2).trans c0; have m1 := (hKK _ _ hbb2).trans c1; have m2 := (hKK _ _ hbb2).trans c2; have m3 := (hKK _ _ hbb2).trans c3; have m4 := (hKK _ _ hbb2).trans c4))
                  go_wp2_with fail
                  go_roundw
                  case rel => exact ⟨j + 1, by go_num, by omega, HS2.out, hB.drew.trans (hB4.mono (by simpa using hsz))⟩
                  case measure => simp [intOf]; omega
                · have hne : d.devs ≠ e.devs := fun x => hx (by rw [x])
                  have HE := Lib.hid (decide_eq_false hne)
                  have hxb : decide (nth dev0 d.devs j = nth dev0 e.devs j) = false := decide_eq_false hx
                  rw [hxb] at HSM
                  clear hne HS hx hxb
                  generalize nth dev0 d.devs j = z1 at *
                  generalize nth dev0 e.devs j = z2 at *
                  go_wp2_with fail
                  go_region_held3 (fun w' => w'.cell? ⟨w.heap.size, 4, none⟩ = some (.slice (some ⟨ba, oa, none⟩) n c) ∧ w'.cell? ⟨w.heap.size + 1, 4, none⟩ = some (.slice (some ⟨bb, ob, none⟩) n k) ∧
                      w'.cell? ⟨ba, oa + j * 5, none⟩ = some (.int .i64 z1.id) ∧ w'.cell? ⟨ba, oa + j * 5 + 1, none⟩ = some (.int .i64 z1.tx) ∧ w'.cell? ⟨ba, oa + j * 5 + 2, none⟩ = some (.int .i64 z1.made) ∧ w'.cell? ⟨ba, oa + j * 5 + 3, none⟩ = some (.int .i64 z1.snapped) ∧ w'.cell? ⟨ba, oa + j * 5 + 4, none⟩ = some (.slice Aa z1.maps.length ca) ∧
                      w'.cell? ⟨bb, ob + j * 5, none⟩ = some (.int .i64 z2.id) ∧ w'.cell? ⟨bb, ob + j * 5 + 1, none⟩ = some (.int .i64 z2.tx) ∧ w'.cell? ⟨bb, ob + j * 5 + 2, none⟩ = some (.int .i64 z2.made) ∧ w'.cell? ⟨bb, ob + j * 5 + 3, none⟩ = some (.int .i64 z2.snapped) ∧ w'.cell? ⟨bb, ob + j * 5 + 4, none⟩ = some (.slice Ab z2.maps.length cb)) (go_keep)
                    (first | (go_at_call 16; refine HSM.out.mono ?_; rintro x w2 ⟨rfl, hB4⟩; have hKK : ∀ b o, b < wr.heap.size → w2.cell? ⟨b, o, none⟩ = wr.cell? ⟨b, o, none⟩ := fun b o hb => hB4.cell (p := ⟨b, o, none⟩) hb; have i1 := (hKK _ _ hp1r.lt).trans x4; have i2 := (hKK _ _ hp2r.lt).trans y4; have j0 := (hKK _ _ hba2).trans a0; have j1 := (hKK _ _ hba2).trans a1; have j2 := (hKK _ _ hba2).trans a2; have j3 := (hKK _ _ hba2).trans a3; have j4 := (hKK _ _ hba2).trans a4; have m0 := (hKK _ _ hbb2).trans c0; have m1 := (hKK _ _ hbb2).trans c1; have m2 := (hKK _ _ hbb2).trans c2; have m3 := (hKK _ _ hbb2).trans c3; have m4 := (hKK _ _ hbb2).trans c4))
                  go_wp2_with fail
                  refine bodyPost_ret (results_tmp rfl _ _ _) rfl ?_
                  exact ⟨by rw [HEQ.out, HE.out]; rfl, hBw.drew.trans (hB4.mono (by show w.heap.size ≤ wr.heap.size; omega))⟩
              · have he : d.devs = e.devs := eq_of_nth dev0 (by rw [HA.out, HL.out]) (fun m hm => HS.out m (by rw [HA.out] at hm; omega))
                have HE := Lib.hid (decide_eq_true he)
                clear he HS
                go_wp2_with fail
                go_ret
                exact ⟨by rw [HEQ.out, HE.out]; rfl, hBw⟩
          · have HE : Hid (decide (d = e) = false) := Lib.hid (decide_eq_false (fun x => g5 (by rw [x])))
            have b1 : (d.tx != e.tx) = false := by simp [g1]
            have b2 : (d.time != e.time) = false := by simp [g2]
            have b3 : (d.unit != e.unit) = false := by simp [g3]
            have b4 : (d.data != e.data) = false := by simp [g4]
            have b5 : ((d.devs.length : Int) != (e.devs.length : Int)) = true := by simp; omega
            clear HD g1 g2 g3 g4 g5
            go_enter Try.func9, Try.ntmps9
            go_wp2
            go_ret
            exact ⟨by rw [HE.out]; rfl, hB0⟩
        · have HE : Hid (decide (d = e) = false) := Lib.hid (by rw [HD.out]; simp [g4])
          have b1 : (d.tx != e.tx) = false := by simp [g1]
          have b2 : (d.time != e.time) = false := by simp [g2]
          have b3 : (d.unit != e.unit) = false := by simp [g3]
          have b4 : (d.data != e.data) = true := by simp [g4]
          clear HD g1 g2 g3 g4
          go_enter Try.func9, Try.ntmps9
          go_wp2
          go_ret
          exact ⟨by rw [HE.out]; rfl, hB0⟩
      · have HE : Hid (decide (d = e) = false) := Lib.hid (by rw [HD.out]; simp [g3])
        have b1 : (d.tx != e.tx) = false := by simp [g1]
        have b2 : (d.time != e.time) = false := by simp [g2]
        have b3 : (d.unit != e.unit) = true := by simp [g3]
        clear HD g1 g2 g3
        go_enter Try.func9, Try.ntmps9
        go_wp2
        go_ret
        exact ⟨by rw [HE.out]; rfl, hB0⟩
    · have HE : Hid (decide (d = e) = false) := Lib.hid (by rw [HD.out]; simp [g2])
      have b1 : (d.tx != e.tx) = false := by simp [g1]
      have b2 : (d.time != e.time) = true := by simp [g2]
      clear HD g1 g2
      go_enter Try.func9, Try.ntmps9
      go_wp2
      go_ret
      exact ⟨by rw [HE.out]; rfl, hB0⟩
  · have HE : Hid (decide (d = e) = false) := Lib.hid (by rw [HD.out]; simp [g1])
    have b1 : (d.tx != e.tx) = true := by simp [g1]
    clear HD g1
    go_enter Try.func9, Try.ntmps9
    go_wp2
    go_ret
    exact ⟨by rw [HE.out]; rfl, hB0⟩
end Go.Proofs.Ytjeeheeaickokaa

/- Ops in two parts are the ops as one; how many were done. No condition: no program is in sight here. -/
namespace Go.Proofs.Ytjeeheeaickokaa
open Go.RowKit

theorem runFrom_count : ∀ (l : List Mop) (p : Pool) (i : Nat), ((runFrom p i l).2.2 = 0 → (runFrom p i l).2.1 = i + l.length) ∧ ((runFrom p i l).2.2 ≠ 0 → (runFrom p i l).2.1 < i + l.length) ∧ (runFrom p i l).2.1 ≤ i + l.length := by
  intro l
  induction l with
  | nil => intro p i; exact ⟨fun _ => rfl, fun h => absurd rfl h, Nat.le_refl _⟩
  | cons o l ih =>
    intro p i
    simp only [runFrom, List.length_cons]
    by_cases h : (applyF p o).1 = 0
    · rw [if_neg (by simpa using h)]
      obtain ⟨h1, h2, h3⟩ := ih (applyF p o).2 (i + 1)
      exact ⟨fun e => by have := h1 e; omega, fun e => by have := h2 e; omega, by omega⟩
    · rw [if_pos h]
      exact ⟨fun e => absurd e h, fun _ => by show i < i + (l.length + 1); omega, by show i ≤ i + (l.length + 1); omega⟩
theorem runFrom_shift (d : Nat) : ∀ (l : List Mop) (p : Pool) (i : Nat), runFrom p (i + d) l = ((runFrom p i l).1, (runFrom p i l).2.1 + d, (runFrom p i l).2.2) := by
  intro l
  induction l with
  | nil => intro p i; rfl
  | cons o l ih =>
    intro p i
    simp only [runFrom]
    by_cases h : (applyF p o).1 = 0
    · rw [if_neg (by simpa using h), if_neg (by simpa using h), show i + d + 1 = i + 1 + d by omega, ih]
    · rw [if_pos h, if_pos h]
theorem runFrom_append : ∀ (a b : List Mop) (p : Pool) (i : Nat), (runFrom p i a).2.2 = 0 → runFrom p i (a ++ b) = runFrom (runFrom p i a).1 (runFrom p i a).2.1 b := by
  intro a
  induction a with
  | nil => intro b p i _; rfl
  | cons o a ih =>
    intro b p i h
    simp only [runFrom, List.cons_append] at h ⊢
    by_cases h1 : (applyF p o).1 = 0
    · rw [if_neg (by simpa using h1)] at h ⊢
      rw [if_neg (by simpa using h1)]
      exact ih b _ _ h
    · rw [if_pos h1] at h; exact absurd h h1
/-- What ModelRight asks, of a pool that may be. -/
theorem run_right {p : Pool} {a : List Mop} (hc : poolChk p = 0) : poolChk (runF p a).1 = 0 ∧ ((runF p a).2.2 = 0 → (runF p a).2.1 = a.length) ∧ ((runF p a).2.2 ≠ 0 → (runF p a).2.1 < a.length) := by
  have e : runF p a = runFrom p 0 a := by unfold runF; rw [if_neg (by simpa using hc)]
  rw [e]
  obtain ⟨h1, h2, _⟩ := runFrom_count a p 0
  exact ⟨fit_iff.2 (runFrom_fit a p 0 (fit_iff.1 hc)), fun h => by have := h1 h; omega, fun h => by have := h2 h; omega⟩
theorem run_parts {p : Pool} {a b : List Mop} (hc : poolChk p = 0) (h : (runF p a).2.2 = 0) : runF p (a ++ b) = ((runF (runF p a).1 b).1, (runF p a).2.1 + (runF (runF p a).1 b).2.1, (runF (runF p a).1 b).2.2) := by
  have hq := (run_right (a := a) hc).1
  have e1 : runF p a = runFrom p 0 a := by unfold runF; rw [if_neg (by simpa using hc)]
  have e2 : runF p (a ++ b) = runFrom p 0 (a ++ b) := by unfold runF; rw [if_neg (by simpa using hc)]
  have e3 : runF (runF p a).1 b = runFrom (runF p a).1 0 b := by unfold runF at hq ⊢; rw [if_neg (by simpa using hq)]
  rw [e2, e3]
  rw [e1] at h ⊢
  rw [runFrom_append a b p 0 h]
  have h2 := runFrom_shift (runFrom p 0 a).2.1 b (runFrom p 0 a).1 0
  rw [Nat.zero_add] at h2
  rw [h2, Nat.add_comm]
end Go.Proofs.Ytjeeheeaickokaa

/- scantlinglaw49.ModelRuns says yes of every input. Condition: the numbers fit into Go's int, and no slice is longer than the reach. -/
namespace Go.Proofs.Ytjeeheeaickokaa

open Go.RowKit
attribute [local go_sem] Oper.semAt_some
set_option linter.unusedSimpArgs false
set_option linter.unusedVariables false

theorem elOp9 : Elem Try.prog 29 31 4 32 Mop.enc := ⟨Try.underlying29, ⟨.agg #[.int .i64 0, .int .i64 0, .int .i64 0, .int .i64 0], by kernel_rfl, rfl⟩, by omega, by omega, Mop.enc_len, fun o u hu => by
  simp only [Mop.enc, List.mem_cons, List.not_mem_nil, or_false] at hu
  rcases hu with rfl | rfl | rfl | rfl <;> rfl⟩
theorem fewO_60 {l : List Mop} (h : fewO l = 1) : l.length ≤ 60 := by
  unfold fewO at h
  split at h
  · cases h
  · split at h
    · rename_i h2
      rw [List.length_take] at h2
      omega
    · cases h
theorem runMod_any (w : World) (v vl : Value) (p : Pool) (l : List Mop) (S : Nat → Prop) (hS : ∀ b, S b → b < w.heap.size) (h : IsPool w S v p) (hok : p.ok) (hl : IsOps w S vl l) (hln : l.length ≤ 281474976710656) :
    Calls Try.prog 7 #[v, vl] w (RunIs w (runF p l)) := by
  by_cases hc : poolChk p = 0
  · exact run_good w S v vl p l hS h hl hln hc
  · exact run_bad w S v vl p l hS h hok hc
theorem run_len (p : Pool) (l : List Mop) : (runF p l).1.devs.length ≤ 4096 ∧ ∀ k, k < (runF p l).1.devs.length → (nth dev0 (runF p l).1.devs k).maps.length ≤ 16384 := by
  by_cases hc : poolChk p = 0
  · have h := (run_right (a := l) hc).1
    exact ⟨pool_len h, fun k hk => maps_len h hk⟩
  · have e : (runF p l).1 = pool0 := by unfold runF; rw [if_pos hc]
    rw [e]
    exact ⟨by simp [pool0], fun k hk => by simp [pool0] at hk⟩
theorem apply_len (p : Pool) (o : Mop) : (applyF p o).2.devs.length ≤ 4096 ∧ ∀ k, k < (applyF p o).2.devs.length → (nth dev0 (applyF p o).2.devs k).maps.length ≤ 16384 := by
  by_cases he : (applyF p o).1 = 0
  · have h := fit_iff.2 (apply_fit he)
    exact ⟨pool_len h, fun k hk => maps_len h hk⟩
  · have e : (applyF p o).2 = pool0 := by
      unfold applyF at he ⊢
      split
      · rfl
      · split
        · rfl
        · rename_i h1 h2; rw [if_neg h1, if_neg h2] at he; exact absurd rfl he
    rw [e]
    exact ⟨by simp [pool0], fun k hk => by simp [pool0] at hk⟩
/-- What the law finds ahead of its questions. -/
def RunsAhead (n : Nat) (w w1 : World) (v vl : Value) (p : Pool) (l : List Mop) (A : Option Addr) (c : Nat) : Prop :=
  ∀ w', Below w1.heap.size w1 w' → Below w.heap.size w w' ∧ PBox w' w.heap.size p A n c ∧ w.heap.size + 1 ≤ w'.heap.size ∧ IsPool w' (Lt w.heap.size) v p ∧ IsOps w' (Lt w.heap.size) vl l ∧
    (Calls Try.prog 4 #[v] w' fun e w2 => e = .returned (.int .i64 (fewN p)) ∧ Below w'.heap.size w' w2) ∧
    (Calls Try.prog 5 #[vl] w' fun e w2 => e = .returned (.int .i64 (fewO l)) ∧ w' = w2) ∧
    (Calls Try.prog 7 #[v, vl] w' (RunIs w' (runF p l))) ∧
    (∀ o, Calls Try.prog 10 #[v, mopV o] w' (ApIs w' (applyF p o))) ∧
    (∀ o, Calls Try.prog 11 #[v, mopV o] w' (ApIs w' (applyF p o)))
theorem runs_ahead {w : World} {v vl : Value} {p : Pool} {l : List Mop} {A : Option Addr} {c : Nat} (h1 : IsPool w (Lt w.heap.size) v p) (hok : p.ok) (hl : IsOps w (Lt w.heap.size) vl l) (hln : l.length ≤ 281474976710656) : RunsAhead p.devs.length w (w.alloc (poolBox p A p.devs.length c)) v vl p l A c := by
  intro w' hB
  have h0 : Below w.heap.size w w' := ((Below.refl w.heap.size w).alloc (Nat.le_refl _) (poolBox p A p.devs.length c)).trans (hB.mono (by simp))
  have hlt : ∀ b, Lt w.heap.size b → b < w'.heap.size := fun b hb => Nat.lt_of_lt_of_le hb h0.size
  have hz := hB.size
  simp only [World.size_alloc] at hz
  have hp' : IsPool w' (Lt w.heap.size) v p := h1.below h0 (fun _ h => h)
  have hl' : IsOps w' (Lt w.heap.size) vl l := hl.keep (flat_stable _) (fun _ h => h) (keep_below h0 (fun _ h => h))
  exact ⟨h0, box_up (PBox.new w p A p.devs.length c) hB, hz, hp', hl', few_any w' (Lt w.heap.size) v p hlt hp' hok, few49_any w' (Lt w.heap.size) vl l hl' hln, runMod_any w' v vl p l (Lt w.heap.size) hlt hp' hok hl' hln, fun o => apply_any w' (Lt w.heap.size) v p o hlt hp' hok, fun o => rapply_any w' (Lt w.heap.size) v p o hlt hp' hok⟩
set_option maxRecDepth 100000 in
set_option maxHeartbeats 1600000 in
theorem runs_far (w : World) (v vl : Value) (p : Pool) (l : List Mop) (h1 : IsPool w (Lt w.heap.size) v p) (hok : p.ok) (hl : IsOps w (Lt w.heap.size) vl l) (hln : l.length ≤ 281474976710656) (hf : fewN p = 0 ∨ fewO l = 0 ∨ 3000 < p.data) :
    Calls Try.prog 3 #[v, vl] w fun e w' => e = .returned (.bool true) ∧ Below w.heap.size w w' := by
  obtain ⟨A, c, hv⟩ : ∃ A c, v = .agg #[.int .i64 p.tx, .int .i64 p.time, .int .i64 p.unit, .int .i64 p.data, .slice A p.devs.length c] := by obtain ⟨A, c, h, _⟩ := h1; exact ⟨A, c, h⟩
  have hah := runs_ahead (A := A) (c := c) h1 hok hl hln
  dsimp only [poolBox] at hah
  have HAH := Lib.hid hah
  subst hv
  clear h1 hok hl hln hah
  have hcs : (fewN p == 0) = true ∨ ((fewN p == 0) = false ∧ (fewO l == 0) = true) ∨ ((fewN p == 0) = false ∧ (fewO l == 0) = false ∧ 3000 < p.data) := by
    by_cases e1 : fewN p = 0
    · exact .inl (by simpa using e1)
    · by_cases e2 : fewO l = 0
      · exact .inr (.inl ⟨by simpa using e1, by simpa using e2⟩)
      · exact .inr (.inr ⟨by simpa using e1, by simpa using e2, by omega⟩)
  clear hf
  unfold RunsAhead at HAH
  generalize fewN p = fp at *
  generalize fewO l = fo at *
  generalize hl0 : p.devs.length = n at *
  clear hl0
  rcases hcs with d1 | ⟨d1, d2⟩ | ⟨d1, d2, d3⟩
  all_goals
    go_enter Try.func3, Try.ntmps3
    go_upto_region 1 with fail
    generalize w.alloc (.cells #[.int .i64 p.tx, .int .i64 p.time, .int .i64 p.unit, .int .i64 p.data, .slice A n c] 24) = w1 at *
    have hk1 := Below.refl w1.heap.size w1
    obtain ⟨x0, x1, x2, x3, x4⟩ := (HAH.out w1 hk1).2.1.cells
    go_wp2_with (first
      | (go_at_call 6; refine (lives49 _).mono ?_; rintro e w5 ⟨rfl, hB5⟩; have hk5 := hk2.trans (hB5.mono hk2.size))
      | (go_at_call 5; with_reducible refine (HAH.out _ hk2).2.2.2.2.2.2.1.mono ?_; rintro e w3 ⟨rfl, rfl⟩)
      | (go_at_call 4; refine (HAH.out _ hk1).2.2.2.2.2.1.mono ?_; rintro e w2 ⟨rfl, hB2⟩; have hk2 := hk1.trans hB2; clear x0 x1 x2 x3 x4; obtain ⟨x0, x1, x2, x3, x4⟩ := (HAH.out _ hk2).2.1.cells))
    go_ret
    exact ⟨rfl, (HAH.out _ hk5).1⟩
set_option maxRecDepth 100000 in
set_option maxHeartbeats 6400000 in
theorem runs_few (w : World) (v vl : Value) (p : Pool) (l : List Mop) (h1 : IsPool w (Lt w.heap.size) v p) (hok : p.ok) (hl : IsOps w (Lt w.heap.size) vl l) (hln : l.length ≤ 281474976710656) (hfp : fewN p = 1) (hfo : fewO l = 1) (hd : p.data ≤ 3000) :
    Calls Try.prog 3 #[v, vl] w fun e w' => e = .returned (.bool true) ∧ Below w.heap.size w w' := by
  obtain ⟨A, c, hv⟩ : ∃ A c, v = .agg #[.int .i64 p.tx, .int .i64 p.time, .int .i64 p.unit, .int .i64 p.data, .slice A p.devs.length c] := by obtain ⟨A, c, h, _⟩ := h1; exact ⟨A, c, h⟩
  have hah := runs_ahead (A := A) (c := c) h1 hok hl hln
  obtain ⟨Al, cl, rfl, hcl, _⟩ := hl
  have h60 := fewO_60 hfo
  unfold RunsAhead at hah
  simp only [hfp, hfo] at hah
  dsimp only [poolBox] at hah
  have HAH := Lib.hid hah
  subst hv
  have HOK := Lib.hid hok
  obtain ⟨rr, hrr⟩ : ∃ x, runF p l = x := ⟨_, rfl⟩
  have hrl := run_len p l
  rw [hrr] at hrl
  have HRU := Lib.hid (fun (w' : World) (S : Nat → Prop) (vo : Value) hS (h : IsPool w' S (.agg #[.int .i64 p.tx, .int .i64 p.time, .int .i64 p.unit, .int .i64 p.data, .slice A p.devs.length c]) p) (hl : IsOps w' S vo l) => rrun_any w' S _ vo p l hS h hok hl hln)
  rw [hrr] at HRU HAH
  clear h1 hok hah hfp hfo hrr hln
  obtain ⟨Q, K, f⟩ := rr
  dsimp only at *
  have HSM := Lib.hid (fun (w' : World) (v1 v2 : Value) (h1 : IsPool w' (Lt w'.heap.size) v1 Q) (h2 : IsPool w' (Lt w'.heap.size) v2 Q) => rsamePool_any w' (Lt w'.heap.size) (Lt w'.heap.size) v1 v2 Q Q (fun _ h => h) (fun _ h => h) h1 h2 (by omega) (fun k hk => by have := hrl.2 k hk; omega))
  have hqq : decide (Q = Q) = true := decide_eq_true rfl
  rw [hqq] at HSM
  clear hqq hrl
  generalize hl0 : p.devs.length = np at *
  clear hl0
  generalize hnl : l.length = n at *
  have HNL := Lib.hid hnl
  clear hnl
  have hdd : ¬ 3000 < p.data := by omega
  go_enter Try.func3, Try.ntmps3
  go_upto_region 1 with fail
  generalize w.alloc (.cells #[.int .i64 p.tx, .int .i64 p.time, .int .i64 p.unit, .int .i64 p.data, .slice A np c] 24) = w1 at *
  have hk1 := Below.refl w1.heap.size w1
  obtain ⟨x0, x1, x2, x3, x4⟩ := (HAH.out w1 hk1).2.1.cells
  go_wp2_with (first
    | (go_at_call 5; with_reducible refine (HAH.out _ hk2).2.2.2.2.2.2.1.mono ?_; rintro e w3 ⟨rfl, rfl⟩)
    | (go_at_call 4; refine (HAH.out _ hk1).2.2.2.2.2.1.mono ?_; rintro e w2 ⟨rfl, hB2⟩; have hk2 := hk1.trans hB2; clear x0 x1 x2 x3 x4; obtain ⟨x0, x1, x2, x3, x4⟩ := (HAH.out _ hk2).2.1.cells))
  have hz2 := (HAH.out w2 hk2).2.2.1
  go_loopw [5, 6] (fun o5 i wr => ∃ j : Nat, i = .int .i64 j ∧ j ≤ n ∧ wr.ownsRow w2.heap.size 31 4 o5 j (flats Mop.enc (l.take j)) ∧ Below w2.heap.size w2 wr) (fun _ i _ => n - (intOf i).toNat)
  case atStart => exact ⟨0, rfl, by omega, World.ownsRow_nil _ _ _ _, Below.refl _ _⟩
  case round =>
    obtain ⟨j, rfl, hj, hrow, hB⟩ := hrel
    have hkr := hk2.trans (hB.mono hk2.size)
    have hzr := hB.size
    obtain ⟨Ao, co, rfl, _⟩ := own_form0 hrow
    by_cases hlt : j < n
    · obtain ⟨gl, ol, rfl, hgl, hcl2⟩ := ops_cells (IsSl.slice_ (HAH.out wr hkr).2.2.2.2.1).2.2 (by rw [HNL.out]; omega)
      obtain ⟨y0, y1, y2, y3⟩ := hcl2 j (by rw [HNL.out]; exact hlt)
      have hji : (j : Int) < (n : Int) := by omega
      have HTK := Lib.hid (take_nth mop0 l j (by rw [HNL.out]; exact hlt))
      have hgl2 : gl < wr.heap.size := by have : gl < w.heap.size := hgl; have := (HAH.out wr hkr).1.size; omega
      clear hcl2
      generalize nth mop0 l j = o at *
      have hrow' := hrow
      go_wp2_with (at_builtin; refine wpList_append_one elOp9 rfl _ _ rfl w2.heap.size (.slice Ao j co) j (l.take j) o rfl hrow rfl (by omega) hzr ?_; intro A6 cap6 w6 hown hg)
      go_roundw
      case rel => exact ⟨j + 1, by go_num, by omega, by rw [HTK.out]; exact hown, hB.grown hg hzr (fun i hi => (hrow'.lt i hi).1)⟩
      case measure => simp [intOf]; omega
    · obtain rfl : j = n := by omega
      rw [List.take_of_length_le (by rw [HNL.out]; omega)] at hrow
      have hio := IsSl.own (d := mop0) Mop.enc_len hrow (by omega)
      have HIO := Lib.hid hio
      have HRN := Lib.hid (fun w' (hB' : Below wr.heap.size wr w') => HRU.out w' (Lt wr.heap.size) (.slice Ao j co) (fun b (hb : b < wr.heap.size) => Nat.lt_of_lt_of_le hb hB'.size) (pool_keep (HAH.out w' (hkr.trans (hB'.mono hkr.size))).2.2.2.1 (fun b (hb : b < w.heap.size) => show b < wr.heap.size from Nat.lt_of_lt_of_le hb (HAH.out wr hkr).1.size) Keep.refl) (IsSl.keep (flat_stable _) hio (fun b hb => hb.2) (keep_below hB' (fun b hb => hb.2))))
      clear hrow hio
      obtain ⟨x0, x1, x2, x3, x4⟩ := (HAH.out wr hkr).2.1.cells
      go_upto_region 9 with (go_at_call 7; refine (HAH.out wr hkr).2.2.2.2.2.2.2.1.mono ?_; rintro e w5 ⟨v5, rfl, ⟨A5, c5, rfl, hc5, hr5⟩, hB5⟩; have hk5 := hkr.trans (hB5.mono hkr.size))
      obtain ⟨w6, hw6⟩ : ∃ x, w5.alloc (.cells #[.int .i64 Q.tx, .int .i64 Q.time, .int .i64 Q.unit, .int .i64 Q.data, .slice A5 Q.devs.length c5] 24) = x := ⟨_, rfl⟩
      have hB6 : Below w5.heap.size w5 w6 := by rw [← hw6]; exact (Below.refl _ _).alloc (Nat.le_refl _) _
      have b6 : RBox w6 w5.heap.size (.int .i64 Q.tx) (.int .i64 Q.time) (.int .i64 Q.unit) (.int .i64 Q.data) (.slice A5 Q.devs.length c5) := by rw [← hw6]; exact heap_alloc_new w5 _
      rw [hw6]
      clear hw6 x0 x1 x2 x3 x4
      have hk6 := hk5.trans (hB6.mono hk5.size)
      have HI6 := Lib.hid (fun w' (hB' : Below w6.heap.size w6 w') => (pool_keep (S' := Lt w'.heap.size) (p := Q) ⟨A5, c5, rfl, hc5, hr5⟩ (fun b hb => show b < w'.heap.size by have := hb.2; have := hB6.size; have := hB'.size; omega) (keep_below (hB6.trans (hB'.mono hB6.size)) (fun b hb => hb.2))))
      clear hr5 hc5
      obtain ⟨x0, x1, x2, x3, x4⟩ := (HAH.out w6 hk6).2.1.cells
      go_upto_region 10 with (go_at_call 8; refine (HRN.out w6 (hB5.trans (hB6.mono hB5.size))).mono ?_; rintro e w7 ⟨v7, rfl, ⟨A7, c7, rfl, hc7, hr7⟩, hB7⟩; have hk7 := hk6.trans (hB7.mono hk6.size))
      obtain ⟨w8, hw8⟩ : ∃ x, w7.alloc (.cells #[.int .i64 Q.tx, .int .i64 Q.time, .int .i64 Q.unit, .int .i64 Q.data, .slice A7 Q.devs.length c7] 24) = x := ⟨_, rfl⟩
      have hB8 : Below w7.heap.size w7 w8 := by rw [← hw8]; exact (Below.refl _ _).alloc (Nat.le_refl _) _
      have b8 : RBox w8 w7.heap.size (.int .i64 Q.tx) (.int .i64 Q.time) (.int .i64 Q.unit) (.int .i64 Q.data) (.slice A7 Q.devs.length c7) := by rw [← hw8]; exact heap_alloc_new w7 _
      rw [hw8]
      clear hw8 x0 x1 x2 x3 x4
      have hk8 := hk7.trans (hB8.mono hk7.size)
      have hB68 := hB7.trans (hB8.mono hB7.size)
      have hI8 : IsPool w8 (Lt w8.heap.size) (.agg #[.int .i64 Q.tx, .int .i64 Q.time, .int .i64 Q.unit, .int .i64 Q.data, .slice A7 Q.devs.length c7]) Q := pool_keep (p := Q) ⟨A7, c7, rfl, hc7, hr7⟩ (fun b (hb : b < w7.heap.size) => show b < w8.heap.size from Nat.lt_of_lt_of_le hb hB8.size) (keep_below hB8 (fun _ h => h))
      have HI8 := Lib.hid hI8
      clear hr7 hc7 hI8
      obtain ⟨x0, x1, x2, x3, x4⟩ := b8.cells
      obtain ⟨z0, z1, z2, z3, z4⟩ := cells5 (box_up b6 hB68)
      go_wp2_with (go_at_call 9; refine (HSM.out w8 _ _ (HI6.out w8 hB68) HI8.out).mono ?_; rintro e w9 ⟨rfl, hB9⟩; have hk9 := hk8.trans (hB9.mono hk8.size))
      have hz9 := hk9.size
      have hB9r := hB5.trans ((hB6.trans ((hB68.trans (hB9.mono hB68.size)).mono hB6.size)).mono hB5.size)
      have HKR9 := Lib.hid (fun w' (hB' : Below w9.heap.size w9 w') => hk9.trans (hB'.mono hk9.size))
      have HIO9 := Lib.hid (fun w' (hB' : Below w9.heap.size w9 w') => IsSl.keep (flat_stable _) HIO.out (fun b hb => hb) (keep_below (hB9r.trans (hB'.mono hB9r.size)) (fun b hb => hb.2)))
      clear x0 x1 x2 x3 x4 z0 z1 z2 z3 z4 b6 b8
      go_loopw [13] (fun i wq => ∃ j' : Nat, i = .int .i64 j' ∧ j' ≤ j ∧ Below w9.heap.size w9 wq) (fun i _ => j - (intOf i).toNat)
      case atStart => exact ⟨0, rfl, by omega, Below.refl _ _⟩
      case round =>
        generalize wr = wq at hrel ⊢
        obtain ⟨i, rfl, hi, hBq⟩ := hrel
        have hkq := HKR9.out wq hBq
        by_cases hin : i < j ∧ i < 3
        · obtain ⟨hi1, hi2⟩ := hin
          have hii : (i : Int) < (j : Int) := by omega
          have hi3 : (i : Int) < 3 := by omega
          have HPB := Lib.hid (fun w' (hB' : Below wq.heap.size wq w') => (HAH.out w' (hkq.trans (hB'.mono hkq.size))).2.1)
          obtain ⟨gl, ol, rfl, hgl, hcl1⟩ := ops_cells (IsSl.slice_ (HAH.out wq hkq).2.2.2.2.1).2.2 (by rw [HNL.out]; omega)
          have hglz : gl < w.heap.size := hgl
          have HOP := Lib.hid (fun w' (hB' : Below wq.heap.size wq w') => (by
            have hx := hcl1 i (by rw [HNL.out]; exact hi1)
            have hg : gl < wq.heap.size := by have := (HAH.out wq hkq).1.size; omega
            exact ⟨(hB'.cell (p := ⟨gl, ol + i * 4, none⟩) hg).trans hx.1, (hB'.cell (p := ⟨gl, ol + i * 4 + 1, none⟩) hg).trans hx.2.1, (hB'.cell (p := ⟨gl, ol + i * 4 + 2, none⟩) hg).trans hx.2.2.1, (hB'.cell (p := ⟨gl, ol + i * 4 + 3, none⟩) hg).trans hx.2.2.2⟩ : w'.cell? ⟨gl, ol + i * 4, none⟩ = some (.int .i64 (nth mop0 l i).kind) ∧ w'.cell? ⟨gl, ol + i * 4 + 1, none⟩ = some (.int .i64 (nth mop0 l i).dev) ∧ w'.cell? ⟨gl, ol + i * 4 + 2, none⟩ = some (.int .i64 (nth mop0 l i).arg) ∧ w'.cell? ⟨gl, ol + i * 4 + 3, none⟩ = some (.int .i64 (nth mop0 l i).n)))
          obtain ⟨go, oo, rfl, hgo, hcl3⟩ := ops_cells (IsSl.slice_ (HIO9.out wq hBq)).2.2 (by rw [HNL.out]; omega)
          have HOO := Lib.hid (fun w' (hB' : Below wq.heap.size wq w') => (by
            have hx := hcl3 i (by rw [HNL.out]; exact hi1)
            have hg : go < wq.heap.size := by have h2 := hgo.2; have := hB9r.size; have := hBq.size; omega
            exact ⟨(hB'.cell (p := ⟨go, oo + i * 4, none⟩) hg).trans hx.1, (hB'.cell (p := ⟨go, oo + i * 4 + 1, none⟩) hg).trans hx.2.1, (hB'.cell (p := ⟨go, oo + i * 4 + 2, none⟩) hg).trans hx.2.2.1, (hB'.cell (p := ⟨go, oo + i * 4 + 3, none⟩) hg).trans hx.2.2.2⟩ : w'.cell? ⟨go, oo + i * 4, none⟩ = some (.int .i64 (nth mop0 l i).kind) ∧ w'.cell? ⟨go, oo + i * 4 + 1, none⟩ = some (.int .i64 (nth mop0 l i).dev) ∧ w'.cell? ⟨go, oo + i * 4 + 2, none⟩ = some (.int .i64 (nth mop0 l i).arg) ∧ w'.cell? ⟨go, oo + i * 4 + 3, none⟩ = some (.int .i64 (nth mop0 l i).n)))
          clear hcl1 hcl3
          generalize nth mop0 l i = o at *
          have hal := apply_len p o
          have HA1 := Lib.hid (fun w' (hB' : Below wq.heap.size wq w') => (HAH.out w' (hkq.trans (hB'.mono hkq.size))).2.2.2.2.2.2.2.2.1 o)
          have HA2 := Lib.hid (fun w' (hB' : Below wq.heap.size wq w') => (HAH.out w' (hkq.trans (hB'.mono hkq.size))).2.2.2.2.2.2.2.2.2 o)
          obtain ⟨R, hR⟩ : ∃ R, applyF p o = R := ⟨_, rfl⟩
          rw [hR] at HA1 HA2 hal
          clear hR
          have HSR := Lib.hid (fun (w' : World) (v1 v2 : Value) (h1 : IsPool w' (Lt w'.heap.size) v1 R.2) (h2 : IsPool w' (Lt w'.heap.size) v2 R.2) => rsamePool_any w' (Lt w'.heap.size) (Lt w'.heap.size) v1 v2 R.2 R.2 (fun _ h => h) (fun _ h => h) h1 h2 (by omega) (fun k hk => by have := hal.2 k hk; omega))
          have hqq : decide (R.2 = R.2) = true := decide_eq_true rfl
          rw [hqq] at HSR
          clear hqq hal
          go_upto_region 15 with fail
          go_cut [14, 15] (fun s8 s9 wx => ∃ g A3 c3, s8 = .pointer (some ⟨g, 0, none⟩) ∧ s9 = .int .i64 R.1 ∧ RApp wq wx R g A3 c3)
          case first =>
            refine wp_region_till (T := fun _ => false) (S := fun w' => Below wq.heap.size wq w') (by kernel_rfl) (Below.refl wq.heap.size wq).drew (fun hHeld => ?_)
            obtain ⟨w101, hw0⟩ : ∃ x, wq.drew = x := ⟨_, rfl⟩
            rw [hw0] at hHeld ⊢
            have hkA : Below wq.heap.size wq w101 := hHeld
            clear hHeld hw0
            refine wpTill_put 0 84 (oi := _) (v := ?_) rfl rfl (by kernel_rfl) (by kernel_rfl) (by kernel_rfl) (by kernel_rfl) (fun _ _ _ h => h) (by rfl) hkA ?_ ?_
            rotate_left
            · (intro w2' hSw; obtain ⟨x0, x1, x2, x3, x4⟩ := PBox.cells (HPB.out w2' hSw); go_simp; (try with_reducible rfl))
            (try simp only [Act.put, List.setIfInBounds_toArray, List.set_cons_zero, List.set_cons_succ])
            refine wpTill_put 1 85 (oi := _) (v := ?_) rfl rfl (by kernel_rfl) (by kernel_rfl) (by kernel_rfl) (by kernel_rfl) (fun _ _ _ h => h) (by rfl) hkA ?_ ?_
            rotate_left
            · (intro w2' hSw; go_simp; (try with_reducible rfl))
            (try simp only [Act.put, List.setIfInBounds_toArray, List.set_cons_zero, List.set_cons_succ])
            refine wpTill_put 2 86 (oi := _) (v := ?_) rfl rfl (by kernel_rfl) (by kernel_rfl) (by kernel_rfl) (by kernel_rfl) (fun _ _ _ h => h) (by rfl) hkA ?_ ?_
            rotate_left
            · (intro w2' hSw; go_simp; (try with_reducible rfl))
            (try simp only [Act.put, List.setIfInBounds_toArray, List.set_cons_zero, List.set_cons_succ])
            refine wpTill_put 3 87 (oi := _) (v := ?_) rfl rfl (by kernel_rfl) (by kernel_rfl) (by kernel_rfl) (by kernel_rfl) (fun _ _ _ h => h) (by rfl) hkA ?_ ?_
            rotate_left
            · (intro w2' hSw; go_simp; (try with_reducible rfl))
            (try simp only [Act.put, List.setIfInBounds_toArray, List.set_cons_zero, List.set_cons_succ])
            refine wpTill_put 4 88 (oi := _) (v := ?_) rfl rfl (by kernel_rfl) (by kernel_rfl) (by kernel_rfl) (by kernel_rfl) (fun _ _ _ h => h) (by rfl) hkA ?_ ?_
            rotate_left
            · (intro w2' hSw; obtain ⟨y0, y1, y2, y3⟩ := HOP.out w2' hSw; go_simp; (try with_reducible rfl))
            (try simp only [Act.put, List.setIfInBounds_toArray, List.set_cons_zero, List.set_cons_succ])
            refine wpTill_two 5 9 (oi := _) (oj := _) (by kernel_rfl) rfl rfl (fun K hK => ?_) (fun K hK => ?_)
            · skip
              go_simp
              refine (HA1.out w101 hkA).mono ?_
              rintro e w102 ⟨v5, rfl, hi5, hBn⟩
              obtain ⟨A5, c5, rfl, hc5, hr5⟩ := hi5
              have hi5 : IsPool w102 (Btw w101.heap.size w102.heap.size) (.agg #[.int .i64 R.2.tx, .int .i64 R.2.time, .int .i64 R.2.unit, .int .i64 R.2.data, .slice A5 R.2.devs.length c5]) R.2 := ⟨A5, c5, rfl, hc5, hr5⟩
              have hi5 : IsPool w102 (fun b => wq.heap.size ≤ b ∧ b < w102.heap.size) (.agg #[.int .i64 R.2.tx, .int .i64 R.2.time, .int .i64 R.2.unit, .int .i64 R.2.data, .slice A5 R.2.devs.length c5]) R.2 := pool_keep hi5 (fun b hb => ⟨by have := hkA.size; have := hb.1; omega, hb.2⟩) Keep.refl
              have hkA := hkA.trans (hBn.mono hkA.size)
              clear hBn hr5
              refine hK.out _ _ (fun _ => hkA) (fun _ => ?_)
              clear hK K
              (try simp only [Act.put, List.setIfInBounds_toArray, List.set_cons_zero, List.set_cons_succ])
              refine wpTill_put 6 83 (oi := _) (v := ?_) rfl rfl (by kernel_rfl) (by kernel_rfl) (by kernel_rfl) (by kernel_rfl) (fun _ _ _ h => h) (by rfl) hkA ?_ ?_
              rotate_left
              · (intro w2' hSw; go_simp; (try with_reducible rfl))
              (try simp only [Act.put, List.setIfInBounds_toArray, List.set_cons_zero, List.set_cons_succ])
              refine wpTill_put 7 90 (oi := _) (v := ?_) rfl rfl (by kernel_rfl) (by kernel_rfl) (by kernel_rfl) (by kernel_rfl) (fun _ _ _ h => h) (by rfl) hkA ?_ ?_
              rotate_left
              · (intro w2' hSw; go_simp; (try with_reducible rfl))
              (try simp only [Act.put, List.setIfInBounds_toArray, List.set_cons_zero, List.set_cons_succ])
              refine wpTill_put 8 91 (oi := _) (v := ?_) rfl rfl (by kernel_rfl) (by kernel_rfl) (by kernel_rfl) (by kernel_rfl) (fun _ _ _ h => h) (by rfl) hkA ?_ ?_
              rotate_left
              · (intro w2' hSw; go_simp; (try with_reducible rfl))
              (try simp only [Act.put, List.setIfInBounds_toArray, List.set_cons_zero, List.set_cons_succ])
              refine wpTill_one 9 (o := _) (by kernel_rfl) rfl (fun K hK => ?_)
              go_simp
              obtain ⟨w103, hwn⟩ : ∃ x, w102.alloc (.cells #[.int .i64 0, .int .i64 0, .int .i64 0, .int .i64 0, .slice none 0 0] 24) = x := ⟨_, rfl⟩
              have hBn : Below w102.heap.size w102 w103 := by rw [← hwn]; exact (Below.refl _ _).alloc (Nat.le_refl _) _
              have b9 : w103.heap[w102.heap.size]? = some (.cells #[.int .i64 0, .int .i64 0, .int .i64 0, .int .i64 0, .slice none 0 0] 24) := by rw [← hwn]; exact heap_alloc_new w102 _
              have hge9 := hkA.size
              have hz9 : w102.heap.size < w103.heap.size := by rw [← hwn]; simp
              have hkA := hkA.trans (hBn.mono hkA.size)
              rw [hwn]
              have hi5 := (show IsPool w103 (fun b => wq.heap.size ≤ b ∧ b < w103.heap.size ∧ b ≠ (w102.heap.size)) _ R.2 from pool_keep hi5 (fun b hb => ⟨hb.1, by have := hb.2; omega, by have := hb.2; omega⟩) (keep_below hBn (fun b hb => hb.2)))
              clear hwn hBn
              refine hK.out _ _ (fun _ => hkA) (fun _ => ?_)
              clear hK K
              (try simp only [Act.put, List.setIfInBounds_toArray, List.set_cons_zero, List.set_cons_succ])
              refine wpTill_one 10 (o := _) (by kernel_rfl) rfl (fun K hK => ?_)
              obtain ⟨z0, z1, z2, z3, z4⟩ := cells5 b9
              have f0 := free_of b9 0
              have f1 := free_of b9 1
              have f2 := free_of b9 2
              have f3 := free_of b9 3
              have f4 := free_of b9 4
              go_simp
              obtain ⟨w104, hwn⟩ : ∃ x, (((((w103.setCell ⟨w102.heap.size, 0, none⟩ (.int .i64 R.2.tx)).setCell ⟨w102.heap.size, 1, none⟩ (.int .i64 R.2.time)).setCell ⟨w102.heap.size, 2, none⟩ (.int .i64 R.2.unit)).setCell ⟨w102.heap.size, 3, none⟩ (.int .i64 R.2.data)).setCell ⟨w102.heap.size, 4, none⟩ (.slice A5 R.2.devs.length c5)) = x := ⟨_, rfl⟩
              have hD := rapp_put hi5 b9 hkA hge9 w104 hwn
              have hkA := hD.2.2.1
              rw [hwn]
              clear z0 z1 z2 z3 z4 f0 f1 f2 f3 f4 hwn b9
              refine hK.out _ _ (fun _ => hkA) (fun _ => ?_)
              clear hK K
              (try simp only [Act.put, List.setIfInBounds_toArray, List.set_cons_zero, List.set_cons_succ])
              refine wpTill_put 11 15 (oi := _) (v := ?_) rfl rfl (by kernel_rfl) (by kernel_rfl) (by kernel_rfl) (by kernel_rfl) (fun _ _ _ h => h) (by rfl) hkA ?_ ?_
              rotate_left
              · (intro w2' hSw; go_simp; (try with_reducible rfl))
              (try simp only [Act.put, List.setIfInBounds_toArray, List.set_cons_zero, List.set_cons_succ])
              refine wpTill_done (by kernel_rfl) ?_ _
              go_wp2_with fail
              go_meet
              exact ⟨_, A5, c5, rfl, rfl, hD⟩
            · skip
              go_simp
              obtain ⟨w105, hwn⟩ : ∃ x, w101.alloc (.cells #[.int .i64 0, .int .i64 0, .int .i64 0, .int .i64 0, .slice none 0 0] 24) = x := ⟨_, rfl⟩
              have hBn : Below w101.heap.size w101 w105 := by rw [← hwn]; exact (Below.refl _ _).alloc (Nat.le_refl _) _
              have b9 : w105.heap[w101.heap.size]? = some (.cells #[.int .i64 0, .int .i64 0, .int .i64 0, .int .i64 0, .slice none 0 0] 24) := by rw [← hwn]; exact heap_alloc_new w101 _
              have hge9 := hkA.size
              have hz9 : w101.heap.size < w105.heap.size := by rw [← hwn]; simp
              have hkA := hkA.trans (hBn.mono hkA.size)
              rw [hwn]
              clear hwn hBn
              refine hK.out _ _ (fun _ => hkA) (fun _ => ?_)
              clear hK K
              (try simp only [Act.put, List.setIfInBounds_toArray, List.set_cons_zero, List.set_cons_succ])
              refine wpTill_one 5 (o := _) (by kernel_rfl) rfl (fun K hK => ?_)
              go_simp
              refine (HA1.out w105 hkA).mono ?_
              rintro e w106 ⟨v5, rfl, hi5, hBn⟩
              obtain ⟨A5, c5, rfl, hc5, hr5⟩ := hi5
              have hi5 : IsPool w106 (Btw w105.heap.size w106.heap.size) (.agg #[.int .i64 R.2.tx, .int .i64 R.2.time, .int .i64 R.2.unit, .int .i64 R.2.data, .slice A5 R.2.devs.length c5]) R.2 := ⟨A5, c5, rfl, hc5, hr5⟩
              have hi5 : IsPool w106 (fun b => wq.heap.size ≤ b ∧ b < w106.heap.size ∧ b ≠ (w101.heap.size)) (.agg #[.int .i64 R.2.tx, .int .i64 R.2.time, .int .i64 R.2.unit, .int .i64 R.2.data, .slice A5 R.2.devs.length c5]) R.2 := pool_keep hi5 (fun b hb => ⟨by have := hkA.size; have := hb.1; omega, hb.2, by have := hb.1; have := box_lt b9; omega⟩) Keep.refl
              have b9 := box_up b9 hBn
              have hkA := hkA.trans (hBn.mono hkA.size)
              clear hBn hr5
              refine hK.out _ _ (fun _ => hkA) (fun _ => ?_)
              clear hK K
              (try simp only [Act.put, List.setIfInBounds_toArray, List.set_cons_zero, List.set_cons_succ])
              refine wpTill_put 6 83 (oi := _) (v := ?_) rfl rfl (by kernel_rfl) (by kernel_rfl) (by kernel_rfl) (by kernel_rfl) (fun _ _ _ h => h) (by rfl) hkA ?_ ?_
              rotate_left
              · (intro w2' hSw; go_simp; (try with_reducible rfl))
              (try simp only [Act.put, List.setIfInBounds_toArray, List.set_cons_zero, List.set_cons_succ])
              refine wpTill_put 7 90 (oi := _) (v := ?_) rfl rfl (by kernel_rfl) (by kernel_rfl) (by kernel_rfl) (by kernel_rfl) (fun _ _ _ h => h) (by rfl) hkA ?_ ?_
              rotate_left
              · (intro w2' hSw; go_simp; (try with_reducible rfl))
              (try simp only [Act.put, List.setIfInBounds_toArray, List.set_cons_zero, List.set_cons_succ])
              refine wpTill_put 8 91 (oi := _) (v := ?_) rfl rfl (by kernel_rfl) (by kernel_rfl) (by kernel_rfl) (by kernel_rfl) (fun _ _ _ h => h) (by rfl) hkA ?_ ?_
              rotate_left
              · (intro w2' hSw; go_simp; (try with_reducible rfl))
              (try simp only [Act.put, List.setIfInBounds_toArray, List.set_cons_zero, List.set_cons_succ])
              refine wpTill_one 10 (o := _) (by kernel_rfl) rfl (fun K hK => ?_)
              obtain ⟨z0, z1, z2, z3, z4⟩ := cells5 b9
              have f0 := free_of b9 0
              have f1 := free_of b9 1
              have f2 := free_of b9 2
              have f3 := free_of b9 3
              have f4 := free_of b9 4
              go_simp
              obtain ⟨w107, hwn⟩ : ∃ x, (((((w106.setCell ⟨w101.heap.size, 0, none⟩ (.int .i64 R.2.tx)).setCell ⟨w101.heap.size, 1, none⟩ (.int .i64 R.2.time)).setCell ⟨w101.heap.size, 2, none⟩ (.int .i64 R.2.unit)).setCell ⟨w101.heap.size, 3, none⟩ (.int .i64 R.2.data)).setCell ⟨w101.heap.size, 4, none⟩ (.slice A5 R.2.devs.length c5)) = x := ⟨_, rfl⟩
              have hD := rapp_put hi5 b9 hkA hge9 w107 hwn
              have hkA := hD.2.2.1
              rw [hwn]
              clear z0 z1 z2 z3 z4 f0 f1 f2 f3 f4 hwn b9
              refine hK.out _ _ (fun _ => hkA) (fun _ => ?_)
              clear hK K
              (try simp only [Act.put, List.setIfInBounds_toArray, List.set_cons_zero, List.set_cons_succ])
              refine wpTill_put 11 15 (oi := _) (v := ?_) rfl rfl (by kernel_rfl) (by kernel_rfl) (by kernel_rfl) (by kernel_rfl) (fun _ _ _ h => h) (by rfl) hkA ?_ ?_
              rotate_left
              · (intro w2' hSw; go_simp; (try with_reducible rfl))
              (try simp only [Act.put, List.setIfInBounds_toArray, List.set_cons_zero, List.set_cons_succ])
              refine wpTill_done (by kernel_rfl) ?_ _
              go_wp2_with fail
              go_meet
              exact ⟨_, A5, c5, rfl, rfl, hD⟩
          case rest =>
            obtain ⟨g, A3, c3, rfl, rfl, hD⟩ := hcut
            have HDD := Lib.hid hD
            have hBc := hD.2.2.1
            have hb1 := hD.1
            clear hD
            go_upto_region 16 with fail
            go_cut [16, 17] (fun s8 s9 wx => ∃ g A4 c4, s8 = .pointer (some ⟨g, 0, none⟩) ∧ s9 = .int .i64 R.1 ∧ RApp wc wx R g A4 c4)
            case first =>
              refine wp_region_till (T := fun _ => false) (S := fun w' => Below wc.heap.size wc w') (by kernel_rfl) (Below.refl wc.heap.size wc).drew (fun hHeld => ?_)
              obtain ⟨w108, hw0⟩ : ∃ x, wc.drew = x := ⟨_, rfl⟩
              rw [hw0] at hHeld ⊢
              have hkA : Below wc.heap.size wc w108 := hHeld
              clear hHeld hw0
              refine wpTill_put 0 93 (oi := _) (v := ?_) rfl rfl (by kernel_rfl) (by kernel_rfl) (by kernel_rfl) (by kernel_rfl) (fun _ _ _ h => h) (by rfl) hkA ?_ ?_
              rotate_left
              · (intro w2' hSw; obtain ⟨x0, x1, x2, x3, x4⟩ := PBox.cells (HPB.out w2' (hBc.trans (Below.mono hSw hBc.size))); go_simp; (try with_reducible rfl))
              (try simp only [Act.put, List.setIfInBounds_toArray, List.set_cons_zero, List.set_cons_succ])
              refine wpTill_put 1 94 (oi := _) (v := ?_) rfl rfl (by kernel_rfl) (by kernel_rfl) (by kernel_rfl) (by kernel_rfl) (fun _ _ _ h => h) (by rfl) hkA ?_ ?_
              rotate_left
              · (intro w2' hSw; go_simp; (try with_reducible rfl))
              (try simp only [Act.put, List.setIfInBounds_toArray, List.set_cons_zero, List.set_cons_succ])
              refine wpTill_put 2 95 (oi := _) (v := ?_) rfl rfl (by kernel_rfl) (by kernel_rfl) (by kernel_rfl) (by kernel_rfl) (fun _ _ _ h => h) (by rfl) hkA ?_ ?_
              rotate_left
              · (intro w2' hSw; go_simp; (try with_reducible rfl))
              (try simp only [Act.put, List.setIfInBounds_toArray, List.set_cons_zero, List.set_cons_succ])
              refine wpTill_put 3 96 (oi := _) (v := ?_) rfl rfl (by kernel_rfl) (by kernel_rfl) (by kernel_rfl) (by kernel_rfl) (fun _ _ _ h => h) (by rfl) hkA ?_ ?_
              rotate_left
              · (intro w2' hSw; go_simp; (try with_reducible rfl))
              (try simp only [Act.put, List.setIfInBounds_toArray, List.set_cons_zero, List.set_cons_succ])
              refine wpTill_put 4 97 (oi := _) (v := ?_) rfl rfl (by kernel_rfl) (by kernel_rfl) (by kernel_rfl) (by kernel_rfl) (fun _ _ _ h => h) (by rfl) hkA ?_ ?_
              rotate_left
              · (intro w2' hSw; obtain ⟨y0, y1, y2, y3⟩ := HOO.out w2' (hBc.trans (Below.mono hSw hBc.size)); go_simp; (try with_reducible rfl))
              (try simp only [Act.put, List.setIfInBounds_toArray, List.set_cons_zero, List.set_cons_succ])
              refine wpTill_two 5 9 (oi := _) (oj := _) (by kernel_rfl) rfl rfl (fun K hK => ?_) (fun K hK => ?_)
              · skip
                go_simp
                refine (HA2.out w108 (hBc.trans (hkA.mono hBc.size))).mono ?_
                rintro e w109 ⟨v5, rfl, hi5, hBn⟩
                obtain ⟨A5, c5, rfl, hc5, hr5⟩ := hi5
                have hi5 : IsPool w109 (Btw w108.heap.size w109.heap.size) (.agg #[.int .i64 R.2.tx, .int .i64 R.2.time, .int .i64 R.2.unit, .int .i64 R.2.data, .slice A5 R.2.devs.length c5]) R.2 := ⟨A5, c5, rfl, hc5, hr5⟩
                have hi5 : IsPool w109 (fun b => wc.heap.size ≤ b ∧ b < w109.heap.size) (.agg #[.int .i64 R.2.tx, .int .i64 R.2.time, .int .i64 R.2.unit, .int .i64 R.2.data, .slice A5 R.2.devs.length c5]) R.2 := pool_keep hi5 (fun b hb => ⟨by have := hkA.size; have := hb.1; omega, hb.2⟩) Keep.refl
                have hkA := hkA.trans (hBn.mono hkA.size)
                clear hBn hr5
                refine hK.out _ _ (fun _ => hkA) (fun _ => ?_)
                clear hK K
                (try simp only [Act.put, List.setIfInBounds_toArray, List.set_cons_zero, List.set_cons_succ])
                refine wpTill_put 6 92 (oi := _) (v := ?_) rfl rfl (by kernel_rfl) (by kernel_rfl) (by kernel_rfl) (by kernel_rfl) (fun _ _ _ h => h) (by rfl) hkA ?_ ?_
                rotate_left
                · (intro w2' hSw; go_simp; (try with_reducible rfl))
                (try simp only [Act.put, List.setIfInBounds_toArray, List.set_cons_zero, List.set_cons_succ])
                refine wpTill_put 7 99 (oi := _) (v := ?_) rfl rfl (by kernel_rfl) (by kernel_rfl) (by kernel_rfl) (by kernel_rfl) (fun _ _ _ h => h) (by rfl) hkA ?_ ?_
                rotate_left
                · (intro w2' hSw; go_simp; (try with_reducible rfl))
                (try simp only [Act.put, List.setIfInBounds_toArray, List.set_cons_zero, List.set_cons_succ])
                refine wpTill_put 8 100 (oi := _) (v := ?_) rfl rfl (by kernel_rfl) (by kernel_rfl) (by kernel_rfl) (by kernel_rfl) (fun _ _ _ h => h) (by rfl) hkA ?_ ?_
                rotate_left
                · (intro w2' hSw; go_simp; (try with_reducible rfl))
                (try simp only [Act.put, List.setIfInBounds_toArray, List.set_cons_zero, List.set_cons_succ])
                refine wpTill_one 9 (o := _) (by kernel_rfl) rfl (fun K hK => ?_)
                go_simp
                obtain ⟨w110, hwn⟩ : ∃ x, w109.alloc (.cells #[.int .i64 0, .int .i64 0, .int .i64 0, .int .i64 0, .slice none 0 0] 24) = x := ⟨_, rfl⟩
                have hBn : Below w109.heap.size w109 w110 := by rw [← hwn]; exact (Below.refl _ _).alloc (Nat.le_refl _) _
                have b9 : w110.heap[w109.heap.size]? = some (.cells #[.int .i64 0, .int .i64 0, .int .i64 0, .int .i64 0, .slice none 0 0] 24) := by rw [← hwn]; exact heap_alloc_new w109 _
                have hge9 := hkA.size
                have hz9 : w109.heap.size < w110.heap.size := by rw [← hwn]; simp
                have hkA := hkA.trans (hBn.mono hkA.size)
                rw [hwn]
                have hi5 := (show IsPool w110 (fun b => wc.heap.size ≤ b ∧ b < w110.heap.size ∧ b ≠ (w109.heap.size)) _ R.2 from pool_keep hi5 (fun b hb => ⟨hb.1, by have := hb.2; omega, by have := hb.2; omega⟩) (keep_below hBn (fun b hb => hb.2)))
                clear hwn hBn
                refine hK.out _ _ (fun _ => hkA) (fun _ => ?_)
                clear hK K
                (try simp only [Act.put, List.setIfInBounds_toArray, List.set_cons_zero, List.set_cons_succ])
                refine wpTill_one 10 (o := _) (by kernel_rfl) rfl (fun K hK => ?_)
                obtain ⟨z0, z1, z2, z3, z4⟩ := cells5 b9
                have f0 := free_of b9 0
                have f1 := free_of b9 1
                have f2 := free_of b9 2
                have f3 := free_of b9 3
                have f4 := free_of b9 4
                go_simp
                obtain ⟨w111, hwn⟩ : ∃ x, (((((w110.setCell ⟨w109.heap.size, 0, none⟩ (.int .i64 R.2.tx)).setCell ⟨w109.heap.size, 1, none⟩ (.int .i64 R.2.time)).setCell ⟨w109.heap.size, 2, none⟩ (.int .i64 R.2.unit)).setCell ⟨w109.heap.size, 3, none⟩ (.int .i64 R.2.data)).setCell ⟨w109.heap.size, 4, none⟩ (.slice A5 R.2.devs.length c5)) = x := ⟨_, rfl⟩
                have hD := rapp_put hi5 b9 hkA hge9 w111 hwn
                have hkA := hD.2.2.1
                rw [hwn]
                clear z0 z1 z2 z3 z4 f0 f1 f2 f3 f4 hwn b9
                refine hK.out _ _ (fun _ => hkA) (fun _ => ?_)
                clear hK K
                (try simp only [Act.put, List.setIfInBounds_toArray, List.set_cons_zero, List.set_cons_succ])
                refine wpTill_put 11 17 (oi := _) (v := ?_) rfl rfl (by kernel_rfl) (by kernel_rfl) (by kernel_rfl) (by kernel_rfl) (fun _ _ _ h => h) (by rfl) hkA ?_ ?_
                rotate_left
                · (intro w2' hSw; go_simp; (try with_reducible rfl))
                (try simp only [Act.put, List.setIfInBounds_toArray, List.set_cons_zero, List.set_cons_succ])
                refine wpTill_done (by kernel_rfl) ?_ _
                go_wp2_with fail
                go_meet
                exact ⟨_, A5, c5, rfl, rfl, hD⟩
              · skip
                go_simp
                obtain ⟨w112, hwn⟩ : ∃ x, w108.alloc (.cells #[.int .i64 0, .int .i64 0, .int .i64 0, .int .i64 0, .slice none 0 0] 24) = x := ⟨_, rfl⟩
                have hBn : Below w108.heap.size w108 w112 := by rw [← hwn]; exact (Below.refl _ _).alloc (Nat.le_refl _) _
                have b9 : w112.heap[w108.heap.size]? = some (.cells #[.int .i64 0, .int .i64 0, .int .i64 0, .int .i64 0, .slice none 0 0] 24) := by rw [← hwn]; exact heap_alloc_new w108 _
                have hge9 := hkA.size
                have hz9 : w108.heap.size < w112.heap.size := by rw [← hwn]; simp
                have hkA := hkA.trans (hBn.mono hkA.size)
                rw [hwn]
                clear hwn hBn
                refine hK.out _ _ (fun _ => hkA) (fun _ => ?_)
                clear hK K
                (try simp only [Act.put, List.setIfInBounds_toArray, List.set_cons_zero, List.set_cons_succ])
                refine wpTill_one 5 (o := _) (by kernel_rfl) rfl (fun K hK => ?_)
                go_simp
                refine (HA2.out w112 (hBc.trans (hkA.mono hBc.size))).mono ?_
                rintro e w113 ⟨v5, rfl, hi5, hBn⟩
                obtain ⟨A5, c5, rfl, hc5, hr5⟩ := hi5
                have hi5 : IsPool w113 (Btw w112.heap.size w113.heap.size) (.agg #[.int .i64 R.2.tx, .int .i64 R.2.time, .int .i64 R.2.unit, .int .i64 R.2.data, .slice A5 R.2.devs.length c5]) R.2 := ⟨A5, c5, rfl, hc5, hr5⟩
                have hi5 : IsPool w113 (fun b => wc.heap.size ≤ b ∧ b < w113.heap.size ∧ b ≠ (w108.heap.size)) (.agg #[.int .i64 R.2.tx, .int .i64 R.2.time, .int .i64 R.2.unit, .int .i64 R.2.data, .slice A5 R.2.devs.length c5]) R.2 := pool_keep hi5 (fun b hb => ⟨by have := hkA.size; have := hb.1; omega, hb.2, by have := hb.1; have := box_lt b9; omega⟩) Keep.refl
                have b9 := box_up b9 hBn
                have hkA := hkA.trans (hBn.mono hkA.size)
                clear hBn hr5
                refine hK.out _ _ (fun _ => hkA) (fun _ => ?_)
                clear hK K
                (try simp only [Act.put, List.setIfInBounds_toArray, List.set_cons_zero, List.set_cons_succ])
                refine wpTill_put 6 92 (oi := _) (v := ?_) rfl rfl (by kernel_rfl) (by kernel_rfl) (by kernel_rfl) (by kernel_rfl) (fun _ _ _ h => h) (by rfl) hkA ?_ ?_
                rotate_left
                · (intro w2' hSw; go_simp; (try with_reducible rfl))
                (try simp only [Act.put, List.setIfInBounds_toArray, List.set_cons_zero, List.set_cons_succ])
                refine wpTill_put 7 99 (oi := _) (v := ?_) rfl rfl (by kernel_rfl) (by kernel_rfl) (by kernel_rfl) (by kernel_rfl) (fun _ _ _ h => h) (by rfl) hkA ?_ ?_
                rotate_left
                · (intro w2' hSw; go_simp; (try with_reducible rfl))
                (try simp only [Act.put, List.setIfInBounds_toArray, List.set_cons_zero, List.set_cons_succ])
                refine wpTill_put 8 100 (oi := _) (v := ?_) rfl rfl (by kernel_rfl) (by kernel_rfl) (by kernel_rfl) (by kernel_rfl) (fun _ _ _ h => h) (by rfl) hkA ?_ ?_
                rotate_left
                · (intro w2' hSw; go_simp; (try with_reducible rfl))
                (try simp only [Act.put, List.setIfInBounds_toArray, List.set_cons_zero, List.set_cons_succ])
                refine wpTill_one 10 (o := _) (by kernel_rfl) rfl (fun K hK => ?_)
                obtain ⟨z0, z1, z2, z3, z4⟩ := cells5 b9
                have f0 := free_of b9 0
                have f1 := free_of b9 1
                have f2 := free_of b9 2
                have f3 := free_of b9 3
                have f4 := free_of b9 4
                go_simp
                obtain ⟨w114, hwn⟩ : ∃ x, (((((w113.setCell ⟨w108.heap.size, 0, none⟩ (.int .i64 R.2.tx)).setCell ⟨w108.heap.size, 1, none⟩ (.int .i64 R.2.time)).setCell ⟨w108.heap.size, 2, none⟩ (.int .i64 R.2.unit)).setCell ⟨w108.heap.size, 3, none⟩ (.int .i64 R.2.data)).setCell ⟨w108.heap.size, 4, none⟩ (.slice A5 R.2.devs.length c5)) = x := ⟨_, rfl⟩
                have hD := rapp_put hi5 b9 hkA hge9 w114 hwn
                have hkA := hD.2.2.1
                rw [hwn]
                clear z0 z1 z2 z3 z4 f0 f1 f2 f3 f4 hwn b9
                refine hK.out _ _ (fun _ => hkA) (fun _ => ?_)
                clear hK K
                (try simp only [Act.put, List.setIfInBounds_toArray, List.set_cons_zero, List.set_cons_succ])
                refine wpTill_put 11 17 (oi := _) (v := ?_) rfl rfl (by kernel_rfl) (by kernel_rfl) (by kernel_rfl) (by kernel_rfl) (fun _ _ _ h => h) (by rfl) hkA ?_ ?_
                rotate_left
                · (intro w2' hSw; go_simp; (try with_reducible rfl))
                (try simp only [Act.put, List.setIfInBounds_toArray, List.set_cons_zero, List.set_cons_succ])
                refine wpTill_done (by kernel_rfl) ?_ _
                go_wp2_with fail
                go_meet
                exact ⟨_, A5, c5, rfl, rfl, hD⟩
            case rest =>
              obtain ⟨g', A4, c4, rfl, rfl, hE⟩ := hcut
              have hb1' := box_up hb1 hE.2.2.1
              obtain ⟨x0, x1, x2, x3, x4⟩ := cells5 hb1'
              obtain ⟨z0, z1, z2, z3, z4⟩ := hE.1.cells
              have hI1 := Lib.hid (pool_keep (S' := Lt wc.heap.size) HDD.out.2.1 (fun b hb => Nat.lt_of_lt_of_le hb hE.2.2.1.size) (keep_below hE.2.2.1 (fun _ h => h)))
              have hBe := hBc.trans (hE.2.2.1.mono hBc.size)
              have hI2 := Lib.hid hE.2.1
              have hBz := hBe.size
              clear hE hb1 hb1' HDD
              generalize R.1 = r1 at *
              go_wp2_with (go_at_call 9; refine (HSR.out wc _ _ hI1.out hI2.out).mono ?_; rintro e w12 ⟨rfl, hB12⟩; have hk12 := hBq.trans ((hBe.trans (hB12.mono hBe.size)).mono hBq.size))
              go_roundw
              case rel => exact ⟨i + 1, by go_num, by omega, hk12⟩
              case measure => simp [intOf]; omega
        · have hcs : (¬ i < j) ∨ (i < j ∧ ¬ i < 3) := by omega
          have hzq := hkq.size
          rcases hcs with d1 | ⟨d1, d2⟩
          · have e1 : ¬ ((i : Int) < (j : Int)) := by omega
            go_wp2_with (go_at_call 6; refine (lives49 _).mono ?_; rintro e w13 ⟨rfl, hB13⟩; have hk13 := hkq.trans (hB13.mono hkq.size))
            go_ret
            exact ⟨rfl, (HAH.out _ hk13).1⟩
          · have e1 : (i : Int) < (j : Int) := by omega
            have e2 : ¬ ((i : Int) < 3) := by omega
            go_wp2_with (go_at_call 6; refine (lives49 _).mono ?_; rintro e w13 ⟨rfl, hB13⟩; have hk13 := hkq.trans (hB13.mono hkq.size))
            go_ret
            exact ⟨rfl, (HAH.out _ hk13).1⟩
theorem modelRuns_walk (w : World) (v vl : Value) (p : Pool) (l : List Mop) (h1 : IsPool w (Lt w.heap.size) v p) (hok : p.ok) (hl : IsOps w (Lt w.heap.size) vl l) (hln : l.length ≤ 281474976710656) :
    Calls Try.prog 3 #[v, vl] w fun e w' => e = .returned (.bool true) ∧ Below w.heap.size w w' := by
  by_cases hf : fewN p = 0 ∨ fewO l = 0 ∨ 3000 < p.data
  · exact runs_far w v vl p l h1 hok hl hln hf
  · have hfp : fewN p = 1 := by
      have : ¬ fewN p = 0 := fun e => hf (.inl e)
      unfold fewN at this ⊢
      split
      · rfl
      · rename_i h; rw [if_neg h] at this; exact absurd rfl this
    have hfo := (fewO_one l).resolve_left (fun e => hf (.inr (.inl e)))
    have hd : p.data ≤ 3000 := by
      have : ¬ 3000 < p.data := fun e => hf (.inr (.inr e))
      omega
    exact runs_few w v vl p l h1 hok hl hln hfp hfo hd
end Go.Proofs.Ytjeeheeaickokaa

/- From an argument's reading to the words of Base: slices of structs of integers, nested slices, lengths within the reach. No condition: for any program. -/
namespace Go.Proofs.Ytjeeheeaickokaa
open Go.RowKit Go.ChangeShapes Go.WideShapes Go.Deep

/-- Nothing that the datum holds is longer than the reach. -/
def Weighs {H : Type} (P : Program) (t : TypeId) (d : DataW H) : Prop := ∀ x ∈ d.weights P t, x ≤ reachBytes

theorem weightsAll_mem {H : Type} {P : Program} {e : TypeId} {d : DataW H} {x : Nat} : ∀ {l : List (DataW H)}, d ∈ l → x ∈ d.weights P e → x ∈ DataW.weightsAll P e l := by
  intro l
  induction l with
  | nil => intro h; cases h
  | cons a l ih =>
    intro h hx
    rw [DataW.weightsAll, List.mem_append]
    rcases List.mem_cons.1 h with rfl | h
    · exact .inl hx
    · exact .inr (ih h hx)
theorem weightsEach_mem {H : Type} {P : Program} {d : DataW H} {t : TypeId} {x : Nat} : ∀ {ts : List TypeId} {l : List (DataW H)} {i : Nat}, ts[i]? = some t → l[i]? = some d → x ∈ d.weights P t → x ∈ DataW.weightsEach P ts l := by
  intro ts
  induction ts with
  | nil => intro l i h; simp at h
  | cons a ts ih =>
    intro l i h hl hx
    cases l with
    | nil => simp at hl
    | cons b l =>
      rw [DataW.weightsEach, List.mem_append]
      cases i with
      | zero =>
        simp at h hl
        subst h hl
        exact .inl hx
      | succ i =>
        simp at h hl
        exact .inr (ih h hl hx)

/-- What the reading of a value of type t tells of its cells. -/
def Opens {α : Type} (P : Program) (t : TypeId) (R : Rel α) (ok : α → Prop) : Prop :=
  ∀ (H : Type) (enc : TypeId × Value → H) (w : World) (base : Nat) (spare : Nat → Bool) (held : Bool) (n : Nat) (cs : List Value) (y : DataW H × List MemPlace),
    DataW.trod enc P w base spare held n t cs = some y → Weighs P t y.1 → ∃ a, R w (Lt w.heap.size) cs a ∧ ok a

theorem in64_of_wf {n : Int} (h : (Lit.int .i64 n).wf = true) : In64 n := by
  have := bounds_i64 h
  unfold In64
  omega

/-- A slice as a relation on its one cell. -/
def RSl {α : Type} (R : Rel α) (size : Nat) (d : α) : Rel (List α) := fun w S cs l => ∃ v, cs = [v] ∧ IsSl R size d w S v l
theorem rsl_stable {α : Type} {R : Rel α} {size : Nat} {d : α} (h : Stable R) : Stable (RSl R size d) := by
  rintro w w' S S' cs l hs hk ⟨v, e, hv⟩
  exact ⟨v, e, hv.keep h hs hk⟩

theorem opens_slice {α : Type} {P : Program} {t e : TypeId} {R : Rel α} {ok : α → Prop} {size bytes : Nat} (d : α) (ht : P.underlying t = some (.slice e)) (hC : P.cellsOf e = size) (hsz : 0 < size) (hb : P.bytesOf e = bytes) (h : Opens P e R ok) :
    Opens P t (RSl R size d) (fun l => (∀ a ∈ l, ok a) ∧ l.length * bytes ≤ reachBytes) := by
  intro H enc w base spare held n cs y hy hw
  rcases open_slice ht hy with ⟨rfl, rfl⟩ | ⟨a, len, cap, m, n', D, Pl, rfl, _, hl, _, hm, rfl, hi⟩
  · exact ⟨[], ⟨_, rfl, IsSl.nil_⟩, by simp, by simp⟩
  · have hlm : len ≤ m := by rw [hm]; split <;> omega
    have hmem : ∀ i, i < len → D i ∈ (List.range len).map D := fun i hi => List.mem_map.2 ⟨i, List.mem_range.2 hi, rfl⟩
    have hwe : ∀ i, i < len → Weighs P e (D i) := by
      intro i hi x hx
      refine hw x ?_
      simp only [DataW.weights, ht]
      exact List.mem_cons_of_mem _ (List.mem_append_left _ (weightsAll_mem (hmem i hi) hx))
    have hlen : len * bytes ≤ reachBytes := by
      have := hw (((List.range len).map D).length + ((List.range (m - len)).map fun j => D (len + j)).length |>.mul (P.bytesOf e)) (by
        simp only [DataW.weights, ht]
        exact List.mem_cons_self)
      simp only [List.length_map, List.length_range, hb] at this
      exact Nat.le_trans (Nat.mul_le_mul_right _ (by omega)) this
    have hx : ∀ i, i < len → ∃ x : α, ∃ cs', w.cells? base (a.add (i * size)) size = some cs' ∧ R w (Lt w.heap.size) cs' x ∧ ok x := by
      intro i hil
      obtain ⟨cs', h1, h2⟩ := hi i (by omega)
      rw [hC] at h1
      obtain ⟨x, hx1, hx2⟩ := h H enc w base spare held n' cs' _ h2 (hwe i hil)
      exact ⟨x, cs', h1, hx1, hx2⟩
    haveI : Inhabited α := ⟨d⟩
    obtain ⟨f, hf⟩ := choose_lt hx
    refine ⟨(List.range len).map f, ⟨_, rfl, some a, cap, by simp, by simpa using hl, ?_⟩, ?_, by simpa using hlen⟩
    · intro h0
      simp only [List.length_map, List.length_range] at h0
      obtain ⟨cs0, h1, _, _⟩ := hf 0 h0
      obtain ⟨_, hl0, hc0⟩ := World.cells?_some h1
      have hcell : w.cell? (a.add (0 * size)) = cs0[0]? := by
        have := hc0 0 hsz
        simpa [Addr.add] using this
      obtain ⟨u, hu⟩ : ∃ u, cs0[0]? = some u := ⟨cs0[0]'(by omega), List.getElem?_eq_getElem (by omega)⟩
      rw [hu] at hcell
      have hcell' : w.cell? a = some u := by simpa [Addr.add] using hcell
      obtain ⟨b, off, spot⟩ := a
      obtain rfl : spot = none := World.cell?_spot hcell'
      refine ⟨b, off, rfl, World.block_lt_of_cell? w _ hcell', fun k hk => ?_⟩
      simp only [List.length_map, List.length_range] at hk
      obtain ⟨cs', g1, g2, _⟩ := hf k hk
      obtain ⟨_, g3, g4⟩ := World.cells?_some g1
      refine ⟨cs', g3, ?_, fun j u hu => ?_⟩
      · rw [nth_get d _ k (by simpa using hk)]
        simpa using g2
      · have hj : j < size := by
          have := (List.getElem?_eq_some_iff.1 hu).1
          omega
        have := g4 j hj
        rw [hu, add_add] at this
        have e1 : (⟨b, off, none⟩ : Addr).add (k * size + j) = ⟨b, off + k * size + j, none⟩ := by
          unfold Addr.add
          split
          · rename_i h0
            have : off = off + k * size + j := by omega
            rw [← this]
          · simp only [Addr.mk.injEq, and_true, true_and]; omega
        rw [e1] at this
        exact this
    · intro x hx
      obtain ⟨i, hi, rfl⟩ := List.mem_map.1 hx
      obtain ⟨_, _, _, g⟩ := hf i (List.mem_range.1 hi)
      exact g

/-- A struct of one-cell fields: each field's own reading. -/
theorem struct_fields {H : Type} {enc : TypeId × Value → H} {P : Program} {w : World} {base : Nat} {spare : Nat → Bool} {held : Bool} {n : Nat} {t : TypeId} {fs : Array Field} {cs : List Value} {y : DataW H × List MemPlace}
    (hs : P.underlying t = some (.struct fs)) (hone : oneCellFields P fs = true) (hC : P.cellsOf t = fs.size) (h : DataW.trod enc P w base spare held n t cs = some y) (hw : Weighs P t y.1) :
    cs.length = fs.size ∧ ∀ (i : Nat) (f : Field), fs[i]? = some f → ∃ u m z, cs[i]? = some u ∧ DataW.trod enc P w base spare held m f.type [u] = some z ∧ Weighs P f.type z.1 := by
  obtain ⟨xs, m, _, rfl, hlen, hxl, hf⟩ := DataW.trod_struct hs h
  rw [hC] at hlen
  refine ⟨hlen, fun i f hi => ?_⟩
  obtain ⟨ho, hk⟩ := hone_of hone i f hi
  have hil : i < fs.size := (Array.getElem?_eq_some_iff.1 hi).1
  have h1 := hf i f hi
  have hu : cs[i]? = some (cs[i]'(by omega)) := List.getElem?_eq_getElem (by omega)
  have hx : xs[i]? = some (xs[i]'(by omega)) := List.getElem?_eq_getElem (by omega)
  have hone' : (cs.drop i).take 1 = [cs[i]'(by omega)] := by
    rw [List.drop_eq_getElem_cons (by omega)]
    rfl
  rw [ho, hk, hone', hx] at h1
  refine ⟨_, m, _, hu, h1, fun x hxw => hw x ?_⟩
  simp only [DataW.weights, hs]
  refine weightsEach_mem (i := i) (t := f.type) (d := (xs[i]'(by omega)).1) ?_ ?_ hxw
  · rw [List.getElem?_map]
    have : fs.toList[i]? = some f := by simpa using hi
    rw [this]; rfl
  · rw [List.getElem?_map, hx]; rfl
theorem field_int {H : Type} {enc : TypeId × Value → H} {P : Program} {w : World} {base : Nat} {spare : Nat → Bool} {held : Bool} {n : Nat} {t : TypeId} {u : Value} {y : DataW H × List MemPlace} (ht : P.underlying t = some (.int .i64))
    (h : DataW.trod enc P w base spare held n t [u] = some y) : ∃ k, u = .int .i64 k ∧ In64 k := by
  obtain ⟨k, e, _, hw⟩ := DataW.trod_int ht h
  simp at e
  exact ⟨k, e, in64_of_wf hw⟩
/-- A struct of integers. -/
theorem opens_ints {P : Program} {t : TypeId} {fs : Array Field} (hs : P.underlying t = some (.struct fs)) (hone : oneCellFields P fs = true) (hC : P.cellsOf t = fs.size) (hf : ∀ (i : Nat) (f : Field), fs[i]? = some f → P.underlying f.type = some (.int .i64)) :
    Opens P t (fun _ _ cs (ns : List Int) => cs = ns.map (Value.int .i64) ∧ ns.length = fs.size) (fun ns => ∀ n ∈ ns, In64 n) := by
  intro H enc w base spare held n cs y hy hw
  obtain ⟨hlen, hx⟩ := struct_fields hs hone hC hy hw
  have hg : ∀ i, i < fs.size → ∃ k : Int, cs[i]? = some (.int .i64 k) ∧ In64 k := by
    intro i hi
    have hfi : fs[i]? = some fs[i] := by simp [hi]
    obtain ⟨u, m, z, hu, hz, _⟩ := hx i _ hfi
    obtain ⟨k, rfl, hk⟩ := field_int (hf i _ hfi) hz
    exact ⟨k, hu, hk⟩
  obtain ⟨f, hf'⟩ := choose_lt hg
  refine ⟨(List.range fs.size).map f, ⟨?_, by simp⟩, ?_⟩
  · apply List.ext_getElem?
    intro i
    by_cases hi : i < fs.size
    · rw [(hf' i hi).1]; simp [hi]
    · rw [List.getElem?_eq_none (by omega)]; simp [hi]
  · intro k hk
    obtain ⟨i, hi, rfl⟩ := List.mem_map.1 hk
    exact (hf' i (List.mem_range.1 hi)).2
theorem Opens.mono {α β : Type} {P : Program} {t : TypeId} {R : Rel α} {ok : α → Prop} {R' : Rel β} {ok' : β → Prop} (h : Opens P t R ok) (f : ∀ w S cs a, R w S cs a → ok a → ∃ b, R' w S cs b ∧ ok' b) : Opens P t R' ok' := by
  intro H enc w base spare held n cs y hy hw
  obtain ⟨a, ha, hoa⟩ := h H enc w base spare held n cs y hy hw
  exact f _ _ _ _ ha hoa
/-- A struct of four integers and a slice. -/
theorem opens_four {α : Type} {P : Program} {t ti ts : TypeId} {f0 f1 f2 f3 f4 : Field} {R : Rel (List α)} {ok : List α → Prop} (hs : P.underlying t = some (.struct #[f0, f1, f2, f3, f4])) (hone : oneCellFields P #[f0, f1, f2, f3, f4] = true) (hC : P.cellsOf t = 5)
    (h0 : f0.type = ti) (h1 : f1.type = ti) (h2 : f2.type = ti) (h3 : f3.type = ti) (h4 : f4.type = ts) (hi : P.underlying ti = some (.int .i64)) (h : Opens P ts R ok) :
    Opens P t (fun w S cs (x : Int × Int × Int × Int × List α) => ∃ v, cs = [.int .i64 x.1, .int .i64 x.2.1, .int .i64 x.2.2.1, .int .i64 x.2.2.2.1, v] ∧ R w S [v] x.2.2.2.2)
      (fun x => In64 x.1 ∧ In64 x.2.1 ∧ In64 x.2.2.1 ∧ In64 x.2.2.2.1 ∧ ok x.2.2.2.2) := by
  intro H enc w base spare held n cs y hy hw
  obtain ⟨hlen, hx⟩ := struct_fields hs hone hC hy hw
  obtain ⟨u0, _, _, e0, g0, _⟩ := hx 0 f0 rfl
  obtain ⟨u1, _, _, e1, g1, _⟩ := hx 1 f1 rfl
  obtain ⟨u2, _, _, e2, g2, _⟩ := hx 2 f2 rfl
  obtain ⟨u3, _, _, e3, g3, _⟩ := hx 3 f3 rfl
  obtain ⟨u4, _, _, e4, g4, w4⟩ := hx 4 f4 rfl
  subst h0
  obtain ⟨n0, rfl, k0⟩ := field_int hi g0
  rw [h1] at g1; rw [h2] at g2; rw [h3] at g3; rw [h4] at g4 w4
  obtain ⟨n1, rfl, k1⟩ := field_int hi g1
  obtain ⟨n2, rfl, k2⟩ := field_int hi g2
  obtain ⟨n3, rfl, k3⟩ := field_int hi g3
  obtain ⟨l, hr, hok⟩ := h H enc w base spare held _ [u4] _ g4 w4
  refine ⟨(n0, n1, n2, n3, l), ⟨u4, ?_, hr⟩, k0, k1, k2, k3, hok⟩
  match cs, hlen with
  | [c0, c1, c2, c3, c4], _ =>
    simp at e0 e1 e2 e3 e4
    subst e0 e1 e2 e3 e4
    rfl
end Go.Proofs.Ytjeeheeaickokaa

/- What the readings of this program's types tell. No condition. -/
namespace Go.Proofs.Ytjeeheeaickokaa
open Go.RowKit
theorem list3 {α : Type} {l : List α} (h : l.length = 3) : ∃ a b c, l = [a, b, c] := by
  match l, h with
  | [a, b, c], _ => exact ⟨a, b, c, rfl⟩
theorem opens_mp : Opens Try.prog 49 RMp Mp.ok :=
  (opens_ints Try.underlying49 (by kernel_rfl) (by kernel_rfl) (by
    intro i f h
    match i, h with
    | 0, h => simp at h; subst h; exact Try.underlying3
    | 1, h => simp at h; subst h; exact Try.underlying3
    | 2, h => simp at h; subst h; exact Try.underlying3
    | i + 3, h => simp at h)).mono (by
      rintro w S cs ns ⟨rfl, hl⟩ hn
      obtain ⟨a, b, c, rfl⟩ := list3 (by simpa using hl)
      exact ⟨⟨a, b, c⟩, rfl, hn a (by simp), hn b (by simp), hn c (by simp)⟩)
def MapsOk (l : List Mp) : Prop := (∀ m ∈ l, m.ok) ∧ l.length * 24 ≤ reachBytes
theorem MapsOk.len {l : List Mp} (h : MapsOk l) : l.length ≤ 5864062014805 := by have := h.2; unfold reachBytes at this; omega
theorem opens_maps : Opens Try.prog 44 (RSl RMp 3 mp0) MapsOk :=
  opens_slice mp0 Try.underlying44 (by kernel_rfl) (by omega) (by kernel_rfl) opens_mp
/-- What an argument's reading tells. -/
theorem Opens.arg {α : Type} {P : Program} {t : TypeId} {R : Rel α} {ok : α → Prop} (h : Opens P t R ok) {H : Type} {enc : TypeId × Value → H} {w : World} {base : Nat} {spare : Nat → Bool} {held : Bool} {v : Value} {d : DataW H} {p : List MemPlace}
    (ht : DataW.Trod enc P w base spare held t v d p) (hw : Weighs P t d) : ∃ a, R w (Lt w.heap.size) v.cells.toList a ∧ ok a := by
  obtain ⟨n, hn⟩ := ht
  exact h H enc w base spare held n _ _ hn hw
theorem weighs_of {H : Type} {P : Program} {ts : List TypeId} {ds : List (DataW H)} (h : (DataW.weightsEach P ts ds).all (· ≤ reachBytes) = true) {i : Nat} {t : TypeId} {d : DataW H} (ht : ts[i]? = some t) (hd : ds[i]? = some d) : Weighs P t d :=
  fun x hx => by simpa using List.all_eq_true.1 h x (weightsEach_mem ht hd hx)
end Go.Proofs.Ytjeeheeaickokaa

/- What the readings of devices and pools tell. No condition. -/
namespace Go.Proofs.Ytjeeheeaickokaa
open Go.RowKit
theorem MapsOk.dev {l : List Mp} (h : MapsOk l) : (∀ m ∈ l, m.ok) ∧ l.length ≤ 5864062014805 := ⟨h.1, h.len⟩
theorem opens_dev : Opens Try.prog 46 RDev Dev.ok :=
  (opens_four (ti := 3) Try.underlying46 (by kernel_rfl) (by kernel_rfl) rfl rfl rfl rfl rfl Try.underlying3 opens_maps).mono (by
    rintro w S cs ⟨a, b, c, d, l⟩ ⟨v, rfl, v', e, A, c', rfl, hc, hr⟩ ⟨o1, o2, o3, o4, o5⟩
    cases e
    exact ⟨⟨a, b, c, d, l⟩, ⟨A, c', rfl, hc, hr⟩, o1, o2, o3, o4, o5.1, o5.len⟩)
def DevsOk (l : List Dev) : Prop := (∀ d ∈ l, d.ok) ∧ l.length * 56 ≤ reachBytes
theorem DevsOk.len {l : List Dev} (h : DevsOk l) : l.length ≤ 5864062014805 := by have := h.2; unfold reachBytes at this; omega
theorem opens_devs : Opens Try.prog 22 (RSl RDev 5 dev0) DevsOk :=
  opens_slice dev0 Try.underlying22 (by kernel_rfl) (by omega) (by kernel_rfl) opens_dev
/-- The cells of a pool by value. -/
def RPool : Rel Pool := fun w S cs p => ∃ A c, cs = [.int .i64 p.tx, .int .i64 p.time, .int .i64 p.unit, .int .i64 p.data, .slice A p.devs.length c] ∧ p.devs.length ≤ c ∧ DevRow w S A p.devs
theorem opens_pool : Opens Try.prog 24 RPool Pool.ok :=
  (opens_four (ti := 3) Try.underlying24 (by kernel_rfl) (by kernel_rfl) rfl rfl rfl rfl rfl Try.underlying3 opens_devs).mono (by
    rintro w S cs ⟨a, b, c, d, l⟩ ⟨v, rfl, v', e, A, c', rfl, hc, hr⟩ ⟨o1, o2, o3, o4, o5⟩
    cases e
    exact ⟨⟨a, b, c, d, l⟩, ⟨A, c', rfl, hc, hr⟩, o1, o2, o3, o4, o5.1, o5.len⟩)
theorem RPool.is {w : World} {S : Nat → Prop} {cs : Array Value} {p : Pool} (h : RPool w S cs.toList p) : IsPool w S (.agg cs) p := by
  obtain ⟨A, c, e, hc, hr⟩ := h
  exact ⟨A, c, by rw [← e], hc, hr⟩
end Go.Proofs.Ytjeeheeaickokaa

/- What the readings of ops tell. No condition. -/
namespace Go.Proofs.Ytjeeheeaickokaa
open Go.RowKit
theorem list4 {α : Type} {l : List α} (h : l.length = 4) : ∃ a b c d, l = [a, b, c, d] := by
  match l, h with
  | [a, b, c, d], _ => exact ⟨a, b, c, d, rfl⟩
theorem opens_mop : Opens Try.prog 32 (Flat Mop.enc) Mop.ok :=
  (opens_ints Try.underlying32 (by kernel_rfl) (by kernel_rfl) (by
    intro i f h
    match i, h with
    | 0, h => simp at h; subst h; exact Try.underlying3
    | 1, h => simp at h; subst h; exact Try.underlying3
    | 2, h => simp at h; subst h; exact Try.underlying3
    | 3, h => simp at h; subst h; exact Try.underlying3
    | i + 4, h => simp at h)).mono (by
      rintro w S cs ns ⟨rfl, hl⟩ hn
      obtain ⟨a, b, c, d, rfl⟩ := list4 (by simpa using hl)
      exact ⟨⟨a, b, c, d⟩, rfl, hn a (by simp), hn b (by simp), hn c (by simp), hn d (by simp)⟩)
theorem opens_ops : Opens Try.prog 25 (RSl (Flat Mop.enc) 4 mop0) (fun l => (∀ a ∈ l, Mop.ok a) ∧ l.length * 32 ≤ reachBytes) :=
  opens_slice mop0 Try.underlying25 (by kernel_rfl) (by omega) (by kernel_rfl) opens_mop
end Go.Proofs.Ytjeeheeaickokaa
