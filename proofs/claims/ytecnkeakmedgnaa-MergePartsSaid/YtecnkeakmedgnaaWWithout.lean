/- merge.check, merge.has, merge.without, merge.Cut's test. Condition: the slices are within the reach. -/
import Derived.Test.YtecnkeakmedgnaaWSearch
import Derived.Test.YtecnkeakmedgnaaWDelF
import Derived.Test.YtecnkeakmedgnaaWCloneM
import Derived.Test.YtecnkeakmedgnaaWChk
namespace Go.Proofs.Ytecnkeakmedgnaa
open Go.RowKit Go.Shelf
attribute [local go_sem] Oper.semAt_some

theorem enters_has : ∀ args w, (callFunc 34 args).run Try.prog w = .ok (.enter 34 args) w := enters_of Try.func34 (by kernel_rfl) rfl
theorem enters_cut : ∀ args w, (callFunc 25 args).run Try.prog w = .ok (.enter 25 args) w := enters_of Try.func25 (by kernel_rfl) rfl
theorem has_any (w : World) (A : Option Addr) (n c : Nat) : Calls Try.prog 20 #[.slice A n c] w fun e w' => e = .returned (.func (.func 34) #[] #[.pointer (some ⟨w.heap.size, 0, none⟩)]) ∧ w' = w.alloc (.cells #[.slice A n c] 22) := by
  go_enter Try.func20, Try.ntmps20
  go_wp2
  go_ret
  exact ⟨rfl, rfl⟩
set_option maxHeartbeats 800000 in
theorem has1_any (w : World) (S : Nat → Prop) (b : Nat) (A : Option Addr) (c : Nat) (l : List Mp) (m : Mp) (hS : ∀ b, S b → b < w.heap.size) (hb : w.cell? ⟨b, 0, none⟩ = some (.slice A l.length c)) (hbl : b < w.heap.size) (h : IsMaps w S (.slice A l.length c) l) (hl1 : l.length ≤ 140737488355328) (hi : Inc l) :
    Calls Try.prog 34 #[.agg #[.int .i64 m.v, .int .i64 m.b, .int .i64 m.t], .pointer (some ⟨b, 0, none⟩)] w fun e w' => e = .returned (.bool (hasV l m.v)) ∧ Below w.heap.size w w' := by
  have hs := fun w' (hB : Below w.heap.size w w') => search_any w' S _ l m (fun b hb => Nat.lt_of_lt_of_le (hS b hb) hB.size) (h.keep rmp_stable (fun _ h => h) (keep_below hB hS)) hl1 hi
  unfold SearchIs at hs
  have hs2 : ∀ w', Below w.heap.size w w' → Calls Try.prog 35 #[.slice A l.length c, .agg #[.int .i64 m.v, .int .i64 m.b, .int .i64 m.t], .func (.func 22) #[] #[]] w' fun e w'' => ∃ k : Int, e = .returned (.tuple #[.int .i64 k, .bool (hasV l m.v)]) ∧ Below w'.heap.size w' w'' := fun w' hB => (hs w' hB).mono fun e w'' ⟨k, _, he, hB2⟩ => ⟨k, he, hB2⟩
  have HS := Lib.hid hs2
  have hal : Below w.heap.size w (w.alloc (.cells #[.int .i64 m.v, .int .i64 m.b, .int .i64 m.t] 41)) := (Below.refl _ _).alloc (Nat.le_refl _) _
  clear hs hs2 h
  generalize hasV l m.v = r at *
  generalize l.length = n at *
  go_enter Try.func34, Try.ntmps34
  go_wp2_with (go_at_call 35; refine (HS.out _ hal).mono ?_; rintro e w5 ⟨k, rfl, hB5⟩)
  go_ret
  exact ⟨rfl, hal.trans (hB5.mono (by simp))⟩
/-- The test of 'without': it is in the list. -/
theorem has_pred (w : World) (S : Nat → Prop) (A : Option Addr) (c : Nat) (l : List Mp) (hS : ∀ b, S b → b < w.heap.size) (h : IsMaps w S (.slice A l.length c) l) (hl1 : l.length ≤ 140737488355328) (hi : Inc l) :
    PredIs 34 #[.pointer (some ⟨w.heap.size, 0, none⟩)] (fun m => hasV l m.v) (w.heap.size + 1) (w.alloc (.cells #[.slice A l.length c] 22)) := fun w' hB m => by
  have hal : Below w.heap.size w (w.alloc (.cells #[.slice A l.length c] 22)) := (Below.refl _ _).alloc (Nat.le_refl _) _
  have hk := hal.trans (hB.mono (by omega))
  have hc : w'.cell? ⟨w.heap.size, 0, none⟩ = some (.slice A l.length c) := ((One.new w (.slice A l.length c) 22).below hB (by omega)).cell
  exact has1_any w' S w.heap.size A c l m (fun b hb => Nat.lt_of_lt_of_le (hS b hb) hk.size) hc (by have := hB.size; simp at this; omega) (h.keep rmp_stable (fun _ h => h) (keep_below hk hS)) hl1 hi
/-- The test of Cut: it is outside. -/
def outV (f t : Int) (m : Mp) : Bool := decide (m.v < f) || decide (m.v ≥ t)
set_option maxHeartbeats 800000 in
theorem cut1_any (w : World) (b1 b2 : Nat) (f t : Int) (m : Mp) (h1 : w.cell? ⟨b1, 0, none⟩ = some (.int .i64 f)) (h2 : w.cell? ⟨b2, 0, none⟩ = some (.int .i64 t)) (hb1 : b1 < w.heap.size) (hb2 : b2 < w.heap.size) :
    Calls Try.prog 25 #[.agg #[.int .i64 m.v, .int .i64 m.b, .int .i64 m.t], .pointer (some ⟨b1, 0, none⟩), .pointer (some ⟨b2, 0, none⟩)] w fun e w' => e = .returned (.bool (outV f t m)) ∧ Below w.heap.size w w' := by
  have hal : Below w.heap.size w (w.alloc (.cells #[.int .i64 m.v, .int .i64 m.b, .int .i64 m.t] 41)) := (Below.refl _ _).alloc (Nat.le_refl _) _
  by_cases hlt : m.v < f
  · have e : outV f t m = true := by unfold outV; simp [hlt]
    rw [e]
    go_enter Try.func25, Try.ntmps25
    go_wp2_with fail
    go_ret
    exact ⟨rfl, hal⟩
  · have e : outV f t m = decide (m.v ≥ t) := by unfold outV; simp [hlt]
    rw [e]
    have hd : decide (m.v < f) = false := by simpa using hlt
    go_enter Try.func25, Try.ntmps25
    go_wp2_with fail
    go_ret
    exact ⟨rfl, hal⟩
theorem cut_pred (w : World) (B : Nat) (f t : Int) (h1 : w.cell? ⟨B, 0, none⟩ = some (.int .i64 f)) (h2 : w.cell? ⟨B + 1, 0, none⟩ = some (.int .i64 t)) (hb : B + 1 < w.heap.size) :
    PredIs 25 #[.pointer (some ⟨B, 0, none⟩), .pointer (some ⟨B + 1, 0, none⟩)] (outV f t) w.heap.size w := fun w' hB m =>
  cut1_any w' B (B + 1) f t m ((hB.cell (p := ⟨B, 0, none⟩) (by simp only; omega)).trans h1) ((hB.cell (p := ⟨B + 1, 0, none⟩) (by simp only; omega)).trans h2) (by have := hB.size; omega) (by have := hB.size; omega)
/-- The mappings of which the test says no, in new memory. -/
def WithoutIs (l : List Mp) (w : World) (e : Ending) (w' : World) : Prop :=
  ∃ A' c', e = .returned (.slice A' l.length c') ∧ w'.ownsRow w.heap.size 41 3 (.slice A' l.length c') l.length (flats Mp.enc l) ∧ Below w.heap.size w w'
theorem flat_cells {w : World} {S : Nat → Prop} {l : List Mp} {xs : List Value} (h : CellsOf RMp 3 mp0 w S l xs) : xs = flats Mp.enc l := by
  apply List.ext_getElem?
  intro i
  by_cases hi : i < l.length * 3
  · obtain ⟨cs, _, hr, hg⟩ := h.2 (i / 3) (by omega)
    obtain rfl : cs = _ := hr
    have h2 := flats_get (d := mp0) Mp.enc_len l (i / 3) (i % 3)
    have hl : i % 3 < (Mp.enc (nth mp0 l (i / 3))).length := by rw [Mp.enc_len]; omega
    have e : i / 3 * 3 + i % 3 = i := by omega
    have a1 := hg (i % 3) hl
    have a2 := h2 _ (by omega) (List.getElem?_eq_getElem hl)
    rw [e] at a1 a2
    rw [a2]
    exact a1.trans (List.getElem?_eq_getElem hl)
  · rw [List.getElem?_eq_none (by rw [h.1]; omega), List.getElem?_eq_none (by rw [flats_length Mp.enc_len]; omega)]
set_option maxHeartbeats 800000 in
theorem without_any (w : World) (S : Nat → Prop) (v : Value) (l : List Mp) (g : Nat) (cb : Array Value) (pf : Mp → Bool) (hS : ∀ b, S b → b < w.heap.size) (h : IsMaps w S v l) (hl1 : l.length ≤ 2199023255552)
    (eg : ∀ args w, (callFunc g args).run Try.prog w = .ok (.enter g args) w) (B : Nat) (w0 : World) (hB0 : Below B w0 w) (hBw : B ≤ w.heap.size) (hp : PredIs g cb pf B w0) :
    Calls Try.prog 19 #[v, .func (.func g) #[] cb] w (WithoutIs (l.filter fun m => !pf m) w) := by
  have hcl : Calls Try.prog 27 #[v] w fun e w' => ∃ A n c, n = l.length ∧ e = .returned (.slice A n c) ∧ w'.ownsRow w.heap.size 41 3 (.slice A n c) n (flats Mp.enc l) ∧ Below w.heap.size w w' := (cloneMaps w S v l hS h hl1).mono fun e w' ⟨v', he, _, _, hB, xs, hown, hc⟩ => by
    obtain ⟨A, c, rfl, _⟩ := own_form0 hown
    rw [flat_cells hc] at hown
    exact ⟨A, _, c, rfl, he, hown, hB⟩
  have hde := fun w' A n c (hn : n = l.length) (hown : w'.ownsRow w.heap.size 41 3 (.slice A n c) n (flats Mp.enc l)) (hB : Below w.heap.size w w') => deleteFunc_any w' w.heap.size A n c l g cb pf B w0 hown hn.symm (by omega) eg (hB0.trans (hB.mono hBw)) hBw hB.size hp
  unfold DelIs at hde
  have HCL := Lib.hid hcl
  have HDE := Lib.hid hde
  clear hcl hde h hp eg
  generalize l.filter (fun m => !pf m) = r at *
  unfold WithoutIs
  go_enter Try.func19, Try.ntmps19
  go_wp2_with (first
    | (go_at_call 27; refine HCL.out.mono ?_; rintro e w1 ⟨A1, n1, c1, hn1, rfl, hown1, hB1⟩; have HN1 := Lib.hid hn1; clear hn1)
    | (go_at_call 33; refine (HDE.out _ _ _ _ HN1.out hown1 hB1).mono ?_; rintro e w2 ⟨A2, c2, rfl, hown2, hB2⟩))
  go_ret
  exact ⟨A2, c2, rfl, hown2, hB1.trans hB2⟩
end Go.Proofs.Ytecnkeakmedgnaa
