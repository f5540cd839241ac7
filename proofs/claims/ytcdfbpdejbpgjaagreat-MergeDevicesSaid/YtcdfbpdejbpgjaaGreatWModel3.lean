/- model.create, remove, tick, grow. Condition: the pool may be, and lies in memory of the call's own. -/
import Derived.Test.YtcdfbpdejbpgjaaGreatWModel2
import Derived.Deep.QuietTactic
import Derived.BigQuiet
namespace Go.Proofs.YtcdfbpdejbpgjaaGreat
open Go.RowKit
attribute [local go_sem] Oper.semAt_some

/-- What an op leaves: its error, or the pool that it makes. -/
def DoIs (w : World) (base g : Nat) (r : Int × Pool) (e : Ending) (w' : World) : Prop := e = .returned (.int .i64 r.1) ∧ Below base w w' ∧ (r.1 = 0 → OwnP w' base g r.2)
abbrev mopV (o : Mop) : Value := .agg #[.int .i64 o.kind, .int .i64 o.dev, .int .i64 o.arg, .int .i64 o.n]
/-- Block b holds just an op. -/
def MBox (w : World) (b : Nat) (o : Mop) : Prop := w.heap[b]? = some (.cells #[.int .i64 o.kind, .int .i64 o.dev, .int .i64 o.arg, .int .i64 o.n] 44 (0, 0))
theorem MBox.new (w : World) (o : Mop) : MBox (w.alloc (.cells #[.int .i64 o.kind, .int .i64 o.dev, .int .i64 o.arg, .int .i64 o.n] 44)) w.heap.size o := heap_alloc_new w _
theorem MBox.lt {w : World} {b : Nat} {o : Mop} (h : MBox w b o) : b < w.heap.size := (Array.getElem?_eq_some_iff.1 h).1
theorem MBox.below {w w' : World} {b k : Nat} {o : Mop} (h : MBox w b o) (hB : Below k w w') (hk : b < k) : MBox w' b o := (hB.block b hk).trans h
theorem MBox.cells {w : World} {b : Nat} {o : Mop} (h : MBox w b o) : w.cell? ⟨b, 0, none⟩ = some (.int .i64 o.kind) ∧ w.cell? ⟨b, 1, none⟩ = some (.int .i64 o.dev) ∧ w.cell? ⟨b, 2, none⟩ = some (.int .i64 o.arg) ∧ w.cell? ⟨b, 3, none⟩ = some (.int .i64 o.n) := by
  unfold MBox at h
  simp [World.cell?, h]
theorem below_low {w w' : World} {a b : Nat} (h : Below b w w') (hb : a ≤ b) : Below a w w' := h.mono hb

set_option maxRecDepth 100000 in
set_option maxHeartbeats 1600000 in
theorem create_any (w : World) (base g : Nat) (p : Pool) (o : Mop) (h : OwnP w base g p) (hpc : poolChk p = 0) (hb : base ≤ w.heap.size) :
    Calls Tryz.prog 45 #[.pointer (some ⟨g, 0, none⟩), mopV o] w (DoIs w base g (createF p o)) := by
  obtain ⟨A, c, M, h1, h2, h3, h4⟩ := h
  have hwb : Below w.heap.size w (w.alloc (.cells #[.int .i64 o.kind, .int .i64 o.dev, .int .i64 o.arg, .int .i64 o.n] 44)) := (Below.refl _ _).alloc (Nat.le_refl _) _
  have HMB := Lib.hid (fun w' (hB : Below (w.alloc (.cells #[.int .i64 o.kind, .int .i64 o.dev, .int .i64 o.arg, .int .i64 o.n] 44)).heap.size (w.alloc (.cells #[.int .i64 o.kind, .int .i64 o.dev, .int .i64 o.arg, .int .i64 o.n] 44)) w') => ((MBox.new w o).below hB (MBox.new w o).lt).cells)
  have HFR := Lib.hid (fun w' (hB : Below w.heap.size w w') => fresh_any w' base g p o.dev ⟨A, c, M, h1.below hB h1.lt, h2, h3.below hB, h4⟩ hpc)
  have HAD := Lib.hid (fun w' (hB : Below w.heap.size w w') => add_any w' base g c p A M o.dev (.slice none 0 0) [] (h1.below hB h1.lt) h2 (h3.below hB) h4 hpc (World.ownsRow_nil _ _ _ _) (fun _ h => by cases h) (fun _ _ _ h => by cases h) (by simp [Value.ownBlock]) (by have := hB.size; omega))
  unfold AddIs at HAD
  have HP := Lib.hid (fun w' (hB : Below w.heap.size w w') => (h1.below hB h1.lt).cells)
  have hnn := pool_len hpc
  have HC := Lib.hid (show createF p o = if freshE p o.dev ≠ 0 then (freshE p o.dev, p) else if 4096 ≤ p.devs.length then (2, p) else (0, addF p o.dev []) from rfl)
  clear h1 h3 h4
  generalize createF p o = r at *
  generalize hfe : freshE p o.dev = fe at *
  have HFE := Lib.hid hfe
  clear hfe
  unfold mopV
  by_cases hf : fe = 0
  · subst hf
    by_cases hl : 4096 ≤ p.devs.length
    · have hr : r = (2, p) := by rw [HC.out, if_neg (by simp), if_pos hl]
      subst hr
      clear HAD HC
      generalize p.devs.length = n at *
      have hl2 : (4096 : Int) ≤ (n : Int) := by omega
      go_enter Tryz.func45, Tryz.ntmps45
      go_wp2_with (go_at_call 72; refine (HFR.out _ hwb).mono ?_; rintro e w2 ⟨rfl, hB2⟩; have hk2 := hwb.trans (hB2.mono hwb.size); obtain ⟨x0, x1, x2, x3, x4⟩ := HP.out _ hk2)
      go_ret
      exact ⟨rfl, hk2.mono hb, fun h => by cases h⟩
    · have hr : r = (0, addF p o.dev []) := by rw [HC.out, if_neg (by simp), if_neg hl]
      subst hr
      clear HC
      generalize addF p o.dev [] = q at *
      generalize p.devs.length = n at *
      have hln : n < 4096 := by omega
      go_enter Tryz.func45, Tryz.ntmps45
      go_wp2_with (first
        | (go_at_call 72; refine (HFR.out _ hwb).mono ?_; rintro e w2 ⟨rfl, hB2⟩; have hk2 := hwb.trans (hB2.mono hwb.size); obtain ⟨x0, x1, x2, x3, x4⟩ := HP.out _ hk2; obtain ⟨y0, y1, y2, y3⟩ := HMB.out _ hB2)
        | (go_at_call 73; refine (HAD.out _ hk2).mono ?_; rintro e w3 ⟨rfl, hO3, hB3, _⟩))
      go_ret
      exact ⟨rfl, (hk2.mono hb).trans hB3, fun _ => hO3⟩
  · have hr : r = (fe, p) := by rw [HC.out, if_pos hf]
    subst hr
    have hf2 : (fe == 0) = false := by simpa using hf
    have hf3 : (fe != 0) = true := by simpa using hf
    clear HAD HC
    go_enter Tryz.func45, Tryz.ntmps45
    go_wp2_with (go_at_call 72; refine (HFR.out _ hwb).mono ?_; rintro e w2 ⟨rfl, hB2⟩; have hk2 := hwb.trans (hB2.mono hwb.size))
    go_ret
    exact ⟨rfl, hk2.mono hb, fun h => absurd h hf⟩
end Go.Proofs.YtcdfbpdejbpgjaaGreat
