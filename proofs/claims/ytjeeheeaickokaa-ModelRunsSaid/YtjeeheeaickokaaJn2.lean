import Derived.Test.YtjeeheeaickokaaJn1
import Derived.Deep.Cut
import Derived.Deep.DeepCutAuto
import Derived.Test.YtjeeheeaickokaaPool
import Derived.Test.YtjeeheeaickokaaPBox
import Derived.Deep.QuietTactic
import Derived.BigQuiet
import Derived.Outline
import Derived.Test.YtjeeheeaickokaaWPool3
import Derived.Test.YtjeeheeaickokaaWPoolRefs
import Derived.Test.YtjeeheeaickokaaWModel5
import Derived.IntWalk
import Derived.Deep.CutBlock
import Derived.Test.YtjeeheeaickokaaRefP
set_option linter.unusedVariables false
set_option linter.unusedSimpArgs false
/- The reference's with (scantlingref49): a device more, in its place. Condition: the pool may be, and lies in memory of the call's own. -/
namespace Go.Proofs.Ytjeeheeaickokaa
open Go.RowKit
attribute [local go_sem] Oper.semAt_some
set_option linter.unusedSimpArgs false
set_option linter.unusedVariables false

theorem made0 {w : World} {g base : Nat} {t : TypeId} {size : Nat} (h : w.heap[g]? = some (.cells #[] t)) (hb : base ≤ g) : w.ownsRow base t size (.slice (some ⟨g, 0, none⟩) 0 0) 0 [] :=
  ⟨by simp, .inr ⟨g, 0, #[], rfl, hb, h, Nat.le_refl _, by simp, by simp⟩⟩
theorem own_src {w : World} {base e size n k c : Nat} {A : Option Addr} {xs : List Value} (h : w.ownsRow base e size (.slice A n c) k xs) : (∀ d, A = some d → ∀ j u, xs[j]? = some u → w.cell? (d.add j) = some u) ∧ (A = none → n = 0) := by
  have hx := own_len h
  rcases h.2 with ⟨hv, h0⟩ | ⟨g, cap, cur, hv, _⟩
  · injection hv with e1 e2 e3
    subst h0
    have : xs = [] := List.eq_nil_of_length_eq_zero (by omega)
    subst this
    exact ⟨fun d _ j u hj => by simp at hj, fun _ => e2⟩
  · injection hv with e1 e2 e3
    subst e1
    refine ⟨fun d hd j u hj => ?_, fun e => by cases e⟩
    obtain rfl : _ = d := by injection hd
    rw [add_lit, Nat.zero_add]
    have hj2 := (List.getElem?_eq_some_iff.1 hj).1
    have h' : w.ownsRow base e size (.slice (some ⟨g, 0, none⟩) n c) k xs := h
    obtain rfl : n = k := own_n h'
    rw [h'.cellAt j (by omega)]
    exact hj
theorem own_kept5 {w : World} {b base e size : Nat} {v : Value} {n : Nat} {xs : List Value} (h : w.ownsRow base e size v n xs) (hb : v.ownBlock ≠ some b) (u0 u1 u2 u3 u4 : Value) :
    (((((w.setCell ⟨b, 0, none⟩ u0).setCell ⟨b, 1, none⟩ u1).setCell ⟨b, 2, none⟩ u2).setCell ⟨b, 3, none⟩ u3).setCell ⟨b, 4, none⟩ u4).ownsRow base e size v n xs :=
  ((((h.kept (grownBy_set _ ⟨b, 0, none⟩ _) (.inr hb)).kept (grownBy_set _ ⟨b, 1, none⟩ _) (.inr hb)).kept (grownBy_set _ ⟨b, 2, none⟩ _) (.inr hb)).kept (grownBy_set _ ⟨b, 3, none⟩ _) (.inr hb)).kept (grownBy_set _ ⟨b, 4, none⟩ _) (.inr hb)
theorem devCs_one (d : Dev) (A : Option Addr) (n c : Nat) : ∀ u ∈ devCs d (.slice A n c), u.oneCell' = true := by
  intro u hu
  simp only [devCs, List.mem_cons, List.not_mem_nil, or_false] at hu
  rcases hu with rfl | rfl | rfl | rfl | rfl <;> rfl
theorem DBox.below8 {w w' : World} {b : Nat} {d : Dev} {A : Option Addr} {c : Nat} (hB : Below w.heap.size w w') (h : DBox w b d A c) : DBox w' b d A c := box_up h hB
theorem new_src (w : World) (cs : List Value) (e : TypeId) : ∀ d, some (⟨w.heap.size, 0, none⟩ : Addr) = some d → ∀ j u, cs[j]? = some u → (w.alloc (.cells cs.toArray e)).cell? (d.add j) = some u := fun d hd => by
  obtain rfl : _ = d := by injection hd
  exact new_cells w cs e
/-- Where the new device comes to stand. -/
theorem with_pos {p : Pool} {id : Int} (hi : IncK Dev.id dev0 p.devs) (hh : dhas p id = false) {i : Nat} (hle : i ≤ p.devs.length) (h1 : 0 < i → (nth dev0 p.devs (i - 1)).id ≤ id) (h2 : ∀ j, i ≤ j → j < p.devs.length → id < (nth dev0 p.devs j).id) : i = dpos p id := by
  refine posK_of (d := dev0) hle (fun j hj => ?_) (fun h => by have := h2 i (Nat.le_refl _) h; omega)
  have h3 := hi.mono (i := j) (j := i - 1) (by omega) (by omega)
  have h4 := h1 (by omega)
  rcases Int.lt_or_eq_of_le (Int.le_trans h3 h4) with h | h
  · exact h
  · have : dhas p id = true := (hasK_iff (d := dev0)).2 ⟨j, by omega, h⟩
    rw [this] at hh
    cases hh
/-- What with's first statement leaves: the new device in a box, its mappings copied. -/
def NewDevAt (w0 wx : World) (base g : Nat) (d : Dev) (A : Option Addr) (c : Nat) : Prop :=
  DBox wx g d A c ∧ OwnMaps wx base (.slice A d.maps.length c) d.maps ∧ (Value.slice A d.maps.length c).ownBlock ≠ some g ∧ (∀ x, (Value.slice A d.maps.length c).ownBlock = some x → w0.heap.size ≤ x) ∧ Below w0.heap.size w0 wx ∧ w0.heap.size ≤ g
/-- The devices are copied into a new row. -/
theorem row_mid {wc w8 : World} {base m c8 : Nat} {A8 : Option Addr} {xs : List Value} (hg8 : (wc.alloc (.cells #[] 46)).grownBy w8 (Value.slice (some ⟨wc.heap.size, 0, none⟩) 0 0).ownBlock) (ho8 : w8.ownsRow base 46 5 (.slice A8 (0 + m) c8) (0 + m) ([] ++ xs))
    (hb8 : ∀ x, (Value.slice A8 (0 + m) c8).ownBlock = some x → (Value.slice (some ⟨wc.heap.size, 0, none⟩) 0 0).ownBlock = some x ∨ x = (wc.alloc (.cells #[] 46)).heap.size) :
    Below wc.heap.size wc w8 ∧ w8.ownsRow base 46 5 (.slice A8 m c8) m xs ∧ ∀ x, (Value.slice A8 m c8).ownBlock = some x → wc.heap.size ≤ x := by
  rw [Nat.zero_add, List.nil_append] at ho8
  rw [Nat.zero_add] at hb8
  have h2 : Below wc.heap.size wc (wc.alloc (.cells #[] 46)) := (Below.refl _ _).alloc (Nat.le_refl _) _
  refine ⟨h2.grown hg8 h2.size (fun k hk => by have : wc.heap.size = k := by simpa [Value.ownBlock] using hk
                                               omega), ho8, fun x hx => ?_⟩
  rcases hb8 x hx with h | h
  · have : wc.heap.size = x := by simpa [Value.ownBlock] using h
    omega
  · simp at h; omega
/-- The new device stands behind them. -/
theorem row_end {wc w8 w9 : World} {o : Obj} {base n c8 c9 : Nat} {A8 A9 : Option Addr} {ys : List Value} (hB : Below wc.heap.size wc w8) (hlo : ∀ x, (Value.slice A8 n c8).ownBlock = some x → wc.heap.size ≤ x) (hg9 : (w8.alloc o).grownBy w9 (Value.slice A8 n c8).ownBlock)
    (ho9 : w9.ownsRow base 46 5 (.slice A9 (n + 1) c9) (n + 1) ys) (hb9 : ∀ x, (Value.slice A9 (n + 1) c9).ownBlock = some x → (Value.slice A8 n c8).ownBlock = some x ∨ x = (w8.alloc o).heap.size) :
    Below wc.heap.size wc w9 ∧ ∃ g9, A9 = some ⟨g9, 0, none⟩ ∧ wc.heap.size ≤ g9 ∧ n + 1 ≤ c9 := by
  have hz := hB.size
  refine ⟨(hB.alloc hz o).grown hg9 (by simp; omega) (fun k hk => hlo k hk), ?_⟩
  obtain ⟨g9, cap, hv, _, _, hnc⟩ := own_form ho9 (by omega)
  injection hv with e1 e2 e3
  subst e1 e3
  refine ⟨g9, rfl, ?_, hnc⟩
  rcases hb9 g9 rfl with h | h
  · exact hlo g9 h
  · simp at h; omega
/-- The cells of the row while the new device goes down. -/
theorem down_cells {w : World} {base g n c i : Nat} {xs cs : List Value} (h : w.ownsRow base 46 5 (.slice (some ⟨g, 0, none⟩) (n + 1) c) (n + 1) (insC xs (i * 5) cs)) (hx : xs.length = n * 5) (hc : cs.length = 5) (hi : i ≤ n) :
    (∀ r, r < 5 → w.cell? ⟨g, i * 5 + r, none⟩ = cs[r]?) ∧ ∀ j r, j < i → r < 5 → w.cell? ⟨g, j * 5 + r, none⟩ = xs[j * 5 + r]? := by
  refine ⟨fun r hr => ?_, fun j r hj hr => ?_⟩
  · rw [h.cellAt (i * 5 + r) (by omega), insC_get hx hc hi hr, if_neg (by omega), if_pos rfl]
  · rw [h.cellAt (j * 5 + r) (by omega), insC_get hx hc hi hr, if_pos hj]
theorem len_addF (p : Pool) (id : Int) (maps : List Mp) {n : Nat} (h : p.devs.length = n) : (addF p id maps).devs.length = n + 1 := by
  subst h
  exact insAt_length _ _ _ posK_le
def WithIs (w : World) (base n : Nat) (M : Nat → Value) (q : Pool) (e : Ending) (w' : World) : Prop :=
  ∃ A c M', e = .returned (.agg #[.int .i64 q.tx, .int .i64 q.time, .int .i64 q.unit, .int .i64 q.data, .slice A q.devs.length c]) ∧ OwnDevs w' base (.slice A q.devs.length c) q.devs M' ∧ Below w.heap.size w w' ∧
    (∀ x, (Value.slice A q.devs.length c).ownBlock = some x → w.heap.size ≤ x) ∧ ∀ j x, (M' j).ownBlock = some x → (∃ k, k < n ∧ (M k).ownBlock = some x) ∨ w.heap.size ≤ x
theorem with_ret {w wr : World} {base n c9 g9 : Nat} {M M' : Nat → Value} {q : Pool} (hq : q.devs.length = n + 1) (hown : OwnDevs wr base (.slice (some ⟨g9, 0, none⟩) (n + 1) c9) q.devs M') (hM : ∀ j x, (M' j).ownBlock = some x → (∃ k, k < n ∧ (M k).ownBlock = some x) ∨ w.heap.size + 2 ≤ x) (hB : Below w.heap.size w wr) (hold : ∀ k, k < n → ∀ x, (M k).ownBlock = some x → x < w.heap.size)
    (hg9 : w.heap.size + 2 ≤ g9) (W : World) (hW : (((((wr.setCell ⟨w.heap.size, 4, none⟩ (.slice (some ⟨g9, 0, none⟩) (n + 1) c9)).setCell ⟨w.heap.size + 1, 0, none⟩ (.int .i64 q.tx)).setCell ⟨w.heap.size + 1, 1, none⟩ (.int .i64 q.time)).setCell ⟨w.heap.size + 1, 2, none⟩ (.int .i64 q.unit)).setCell ⟨w.heap.size + 1, 3, none⟩ (.int .i64 q.data)).setCell ⟨w.heap.size + 1, 4, none⟩ (.slice (some ⟨g9, 0, none⟩) (n + 1) c9) = W) :
    WithIs w base n M q (.returned (.agg #[.int .i64 q.tx, .int .i64 q.time, .int .i64 q.unit, .int .i64 q.data, .slice (some ⟨g9, 0, none⟩) (n + 1) c9])) W := by
  subst hW
  have hfar : ∀ b, w.heap.size ≤ b → b < w.heap.size + 2 → Far (.slice (some ⟨g9, 0, none⟩) (n + 1) c9) q.devs M' b := fun b h1 h2 => by
    refine ⟨fun e => by have e2 : g9 = b := by simpa [Value.ownBlock] using e
                        omega, fun j _ e => ?_⟩
    rcases hM j b e with ⟨k, hk, h⟩ | h
    · have := hold k hk b h; omega
    · omega
  refine ⟨some ⟨g9, 0, none⟩, c9, M', by rw [hq], ?_, below5 (hB.setCell (p := ⟨w.heap.size, 4, none⟩) (Nat.le_refl _) _) (by omega) _ _ _ _ _, fun x hx => ?_, fun j x hx => ?_⟩
  · rw [hq]
    have f1 := hfar (w.heap.size + 1) (by omega) (by omega)
    exact (((((hown.kept (grownBy_set _ ⟨w.heap.size, 4, none⟩ _) (hfar w.heap.size (by omega) (by omega))).kept (grownBy_set _ ⟨w.heap.size + 1, 0, none⟩ _) f1).kept (grownBy_set _ ⟨w.heap.size + 1, 1, none⟩ _) f1).kept (grownBy_set _ ⟨w.heap.size + 1, 2, none⟩ _) f1).kept (grownBy_set _ ⟨w.heap.size + 1, 3, none⟩ _) f1).kept (grownBy_set _ ⟨w.heap.size + 1, 4, none⟩ _) f1
  · have e2 : g9 = x := by simpa [Value.ownBlock] using hx
    omega
  · rcases hM j x hx with h | h
    · exact .inl h
    · exact .inr (by omega)
/-- The end: the devices lie in the new row, each with its mappings. -/
theorem with_fin {w wc wr : World} {base n c c9 g9 i : Nat} {p : Pool} {A : Option Addr} {M : Nat → Value} {xs : List Value} {id : Int} {maps : List Mp} {u : Value} (hn : p.devs.length = n) (hbase : base ≤ w.heap.size) (hrow0 : wc.ownsRow base 46 5 (.slice A n c) n xs)
    (hc : ∀ j, j < p.devs.length → DevCells xs j (nth dev0 p.devs j) (M j) ∧ OwnMaps wc base (M j) (nth dev0 p.devs j).maps ∧ (∀ g, (M j).ownBlock = some g → some g ≠ (Value.slice A n c).ownBlock)) (hap : ∀ i j, i < p.devs.length → j < p.devs.length → i ≠ j → ∀ g, (M j).ownBlock = some g → some g ≠ (M i).ownBlock)
    (hu : OwnMaps wc (w.heap.size + 2) u maps) (hul : ∀ x, u.ownBlock = some x → w.heap.size + 2 ≤ x ∧ x ≠ g9) (hM : ∀ j, j < n → ∀ x, (M j).ownBlock = some x → x < w.heap.size) (hv : ∀ x, (Value.slice A n c).ownBlock = some x → x < w.heap.size) (hg9 : wc.heap.size ≤ g9)
    (hrow : wr.ownsRow (w.heap.size + 2) 46 5 (.slice (some ⟨g9, 0, none⟩) (n + 1) c9) (n + 1) (insC xs (i * 5) (devCs (newDev p id maps) u))) (hB : Below wc.heap.size wc wr) (hi : i ≤ n) (hp : i = dpos p id) :
    ∃ M', OwnDevs wr base (.slice (some ⟨g9, 0, none⟩) (n + 1) c9) (addF p id maps).devs M' ∧ (∀ j x, (M' j).ownBlock = some x → (∃ k, k < n ∧ (M k).ownBlock = some x) ∨ w.heap.size + 2 ≤ x) := by
  subst hn hp
  have hg : wc.grownBy wr (Value.slice A p.devs.length c).ownBlock := ⟨hB.os, hB.tape, hB.output, hB.size, fun j hj _ => hB.block j hj⟩
  have h := OwnDevs.insG (d := newDev p id maps) (u := u) (i := dpos p id) hrow0 hc hap hi hg (.inr hg9) rfl (own_low hrow (by omega)) (own_low hu (by omega)) (fun x hx e => by have := hul x hx; have := hv x e.symm; omega) (fun j hj x hx e => by have := hul x hx; have := hM j hj x e.symm; omega)
  refine ⟨fun j => if j < dpos p id then M j else if j = dpos p id then u else if j - 1 < p.devs.length then M (j - 1) else .slice none 0 0, ?_, fun j x hx => ?_⟩
  · obtain ⟨ys, h1, h2, h3⟩ := h
    have hlen : (insAt p.devs (dpos p id) (newDev p id maps)).length = p.devs.length + 1 := insAt_length _ _ _ hi
    have hMM : ∀ j, j < (insAt p.devs (dpos p id) (newDev p id maps)).length → (if j < dpos p id then M j else if j = dpos p id then u else if j - 1 < p.devs.length then M (j - 1) else .slice none 0 0) = (if j < dpos p id then M j else if j = dpos p id then u else M (j - 1)) := by
      intro j hj
      by_cases a : j < dpos p id
      · rw [if_pos a, if_pos a]
      · rw [if_neg a, if_neg a]
        by_cases b : j = dpos p id
        · rw [if_pos b, if_pos b]
        · rw [if_neg b, if_neg b, if_pos (by omega)]
    refine ⟨ys, h1, fun j hj => ?_, fun a b ha hb hab => ?_⟩
    · have := h2 j hj
      simp only [← hMM j hj] at this
      exact this
    · have := h3 a b ha hb hab
      simp only [← hMM a ha, ← hMM b hb] at this
      exact this
  · simp only at hx
    split at hx
    · exact .inl ⟨j, by omega, hx⟩
    · split at hx
      · exact .inr (hul x hx).1
      · split at hx
        · exact .inl ⟨j - 1, by assumption, hx⟩
        · cases hx
theorem set5_get (L : List Value) (m j r : Nat) (a b c d e : Value) (hl : m * 5 + 5 ≤ L.length) (hr : r < 5) : (((((L.set (m * 5) a).set (m * 5 + 1) b).set (m * 5 + 2) c).set (m * 5 + 3) d).set (m * 5 + 4) e)[j * 5 + r]? = if j = m then [a, b, c, d, e][r]? else L[j * 5 + r]? := by
  by_cases h : j = m
  · subst h
    rw [if_pos rfl]
    rcases (show r = 0 ∨ r = 1 ∨ r = 2 ∨ r = 3 ∨ r = 4 by omega) with rfl | rfl | rfl | rfl | rfl
    · rw [List.getElem?_set_ne (by omega), List.getElem?_set_ne (by omega), List.getElem?_set_ne (by omega), List.getElem?_set_ne (by omega), Nat.add_zero, List.getElem?_set_self (by omega)]; rfl
    · rw [List.getElem?_set_ne (by omega), List.getElem?_set_ne (by omega), List.getElem?_set_ne (by omega), List.getElem?_set_self (by rw [List.length_set]; omega)]; rfl
    · rw [List.getElem?_set_ne (by omega), List.getElem?_set_ne (by omega), List.getElem?_set_self (by rw [List.length_set, List.length_set]; omega)]; rfl
    · rw [List.getElem?_set_ne (by omega), List.getElem?_set_self (by rw [List.length_set, List.length_set, List.length_set]; omega)]; rfl
    · rw [List.getElem?_set_self (by rw [List.length_set, List.length_set, List.length_set, List.length_set]; omega)]; rfl
  · rw [if_neg h, List.getElem?_set_ne (by omega), List.getElem?_set_ne (by omega), List.getElem?_set_ne (by omega), List.getElem?_set_ne (by omega), List.getElem?_set_ne (by omega)]
theorem down_list {xs : List Value} {n k : Nat} {a b c d e a' b' c' d' e' : Value} (hx : xs.length = n * 5) (hk : k + 1 ≤ n) (h0 : xs[k * 5]? = some a') (h1 : xs[k * 5 + 1]? = some b') (h2 : xs[k * 5 + 2]? = some c') (h3 : xs[k * 5 + 3]? = some d') (h4 : xs[k * 5 + 4]? = some e') :
    ((((((((((insC xs ((k + 1) * 5) [a, b, c, d, e]).set ((k + 1) * 5) a').set ((k + 1) * 5 + 1) b').set ((k + 1) * 5 + 2) c').set ((k + 1) * 5 + 3) d').set ((k + 1) * 5 + 4) e').set (k * 5) a).set (k * 5 + 1) b).set (k * 5 + 2) c).set (k * 5 + 3) d).set (k * 5 + 4) e = insC xs (k * 5) [a, b, c, d, e] := by
  have hl : ∀ i, i ≤ n → (insC xs (i * 5) [a, b, c, d, e]).length = n * 5 + 5 := fun i hi => by unfold insC; simp; omega
  apply List.ext_getElem?
  intro t
  rcases Nat.lt_or_ge t (n * 5 + 5) with ht | ht
  · obtain ⟨j, r, hr, rfl⟩ : ∃ j r, r < 5 ∧ t = j * 5 + r := ⟨t / 5, t % 5, Nat.mod_lt _ (by omega), by omega⟩
    rw [set5_get _ k j r a b c d e (by simp only [List.length_set]; rw [hl _ hk]; omega) hr, set5_get _ (k + 1) j r a' b' c' d' e' (by rw [hl _ hk]; omega) hr, insC_get hx rfl hk hr, insC_get hx rfl (by omega) hr]
    by_cases e1 : j = k
    · subst e1; rw [if_pos rfl, if_neg (by omega), if_pos rfl]
    · rw [if_neg e1]
      by_cases e2 : j = k + 1
      · subst e2
        rw [if_pos rfl, if_neg (by omega), if_neg (by omega), Nat.add_sub_cancel]
        rcases (show r = 0 ∨ r = 1 ∨ r = 2 ∨ r = 3 ∨ r = 4 by omega) with rfl | rfl | rfl | rfl | rfl
        · rw [Nat.add_zero, h0]; rfl
        · rw [h1]; rfl
        · rw [h2]; rfl
        · rw [h3]; rfl
        · rw [h4]; rfl
      · rw [if_neg e2]
        by_cases e3 : j < k
        · rw [if_pos (by omega), if_pos e3]
        · rw [if_neg (by omega), if_neg e2, if_neg e3, if_neg e1]
  · rw [List.getElem?_eq_none (by simp only [List.length_set]; rw [hl _ hk]; omega), List.getElem?_eq_none (by rw [hl _ (by omega)]; omega)]
theorem down_step {w : World} {base g n c k : Nat} {xs : List Value} {l : List Dev} {M : Nat → Value} {nd y : Dev} {u v' : Value} (h : w.ownsRow base 46 5 (.slice (some ⟨g, 0, none⟩) (n + 1) c) (n + 1) (insC xs ((k + 1) * 5) (devCs nd u))) (hx : xs.length = n * 5) (hk : k + 1 ≤ n) (hd : DevCells xs k y (M k)) (_hy : nth dev0 l k = y) (hv : M k = v') (o : Obj) :
    (((((((((((w.setCell ⟨g, (k + 1) * 5, none⟩ (.int .i64 y.id)).setCell ⟨g, (k + 1) * 5 + 1, none⟩ (.int .i64 y.tx)).setCell ⟨g, (k + 1) * 5 + 2, none⟩ (.int .i64 y.made)).setCell ⟨g, (k + 1) * 5 + 3, none⟩ (.int .i64 y.snapped)).setCell ⟨g, (k + 1) * 5 + 4, none⟩ v').setCell ⟨g, k * 5, none⟩ (.int .i64 nd.id)).setCell ⟨g, k * 5 + 1, none⟩ (.int .i64 nd.tx)).setCell ⟨g, k * 5 + 2, none⟩ (.int .i64 nd.made)).setCell ⟨g, k * 5 + 3, none⟩ (.int .i64 nd.snapped)).setCell ⟨g, k * 5 + 4, none⟩ u).alloc o).ownsRow base 46 5 (.slice (some ⟨g, 0, none⟩) (n + 1) c) (n + 1) (insC xs (k * 5) (devCs nd u)) := by
  obtain ⟨d0, d1, d2, d3, d4⟩ := hd
  have e := down_list (a := .int .i64 nd.id) (b := .int .i64 nd.tx) (c := .int .i64 nd.made) (d := .int .i64 nd.snapped) (e := u) hx hk d0 d1 d2 d3 (by rw [d4, hv])
  have hs := ((((((((((h.stored ((k + 1) * 5) (.int .i64 y.id)).1.stored ((k + 1) * 5 + 1) (.int .i64 y.tx)).1.stored ((k + 1) * 5 + 2) (.int .i64 y.made)).1.stored ((k + 1) * 5 + 3) (.int .i64 y.snapped)).1.stored ((k + 1) * 5 + 4) v').1.stored (k * 5) (.int .i64 nd.id)).1.stored (k * 5 + 1) (.int .i64 nd.tx)).1.stored (k * 5 + 2) (.int .i64 nd.made)).1.stored (k * 5 + 3) (.int .i64 nd.snapped)).1.stored (k * 5 + 4) u).1
  have e' : _ = insC xs (k * 5) (devCs nd u) := e
  rw [← e']
  exact hs.alloc o
theorem down_below {wc w : World} {g : Nat} (h : Below wc.heap.size wc w) (hg : wc.heap.size ≤ g) (i0 i1 : Nat) (a b c d e a' b' c' d' e' : Value) (o : Obj) :
    Below wc.heap.size wc (((((((((((w.setCell ⟨g, i0, none⟩ a).setCell ⟨g, i0 + 1, none⟩ b).setCell ⟨g, i0 + 2, none⟩ c).setCell ⟨g, i0 + 3, none⟩ d).setCell ⟨g, i0 + 4, none⟩ e).setCell ⟨g, i1, none⟩ a').setCell ⟨g, i1 + 1, none⟩ b').setCell ⟨g, i1 + 2, none⟩ c').setCell ⟨g, i1 + 3, none⟩ d').setCell ⟨g, i1 + 4, none⟩ e').alloc o) := by
  have h1 : ∀ {w : World} (i : Nat) (u : Value), Below wc.heap.size wc w → Below wc.heap.size wc (w.setCell ⟨g, i, none⟩ u) := fun i u hh => hh.setCell (p := ⟨g, i, none⟩) hg u
  have h2 := h1 (i1 + 4) e' (h1 (i1 + 3) d' (h1 (i1 + 2) c' (h1 (i1 + 1) b' (h1 i1 a' (h1 (i0 + 4) e (h1 (i0 + 3) d (h1 (i0 + 2) c (h1 (i0 + 1) b (h1 i0 a h)))))))))
  exact h2.alloc h2.size o
set_option maxRecDepth 100000 in
set_option maxHeartbeats 3200000 in
theorem with_any (w : World) (base c cm : Nat) (p : Pool) (A Am : Option Addr) (M : Nat → Value) (S : Nat → Prop) (id : Int) (maps : List Mp) (hS : ∀ b, S b → b < w.heap.size) (h3 : OwnDevs w base (.slice A p.devs.length c) p.devs M) (hb : base ≤ w.heap.size) (hm : IsMaps w S (.slice Am maps.length cm) maps) (hnd : p.devs.length ≤ 4096) (hml : maps.length ≤ 16384) (hi : IncK Dev.id dev0 p.devs) (hh : dhas p id = false) :
    Calls Try.prog 50 #[.agg #[.int .i64 p.tx, .int .i64 p.time, .int .i64 p.unit, .int .i64 p.data, .slice A p.devs.length c], .int .i64 id, .slice Am maps.length cm] w (WithIs w base p.devs.length M (addF p id maps)) := by
  have hB2 : Below w.heap.size w ((w.alloc (poolBox p A p.devs.length c)).alloc zeroBox) := ((Below.refl _ _).alloc (Nat.le_refl _) _).alloc (by simp) _
  have hp2 : PBox ((w.alloc (poolBox p A p.devs.length c)).alloc zeroBox) w.heap.size p A p.devs.length c := (PBox.new w p A p.devs.length c).below ((Below.refl _ _).alloc (Nat.le_refl _) _) (by simp)
  have hr2 : RBox ((w.alloc (poolBox p A p.devs.length c)).alloc zeroBox) (w.heap.size + 1) (.int .i64 0) (.int .i64 0) (.int .i64 0) (.int .i64 0) (.slice none 0 0) := by
    have := heap_alloc_new (w.alloc (poolBox p A p.devs.length c)) zeroBox
    simp only [World.size_alloc] at this
    exact this
  have hz2 : ((w.alloc (poolBox p A p.devs.length c)).alloc zeroBox).heap.size = w.heap.size + 2 := by simp
  dsimp only [poolBox, zeroBox] at hB2 hp2 hr2 hz2
  have HMS := Lib.hid (fun w' (hB : Below w.heap.size w w') => IsSl.keep rmp_stable hm (fun _ h => h) (keep_below hB hS))
  have HML := Lib.hid (flats_length Mp.enc_len maps)
  clear hm
  have HPOS := Lib.hid (fun i => with_pos (p := p) (id := id) (i := i) hi hh)
  clear hi hh
  generalize hl0 : p.devs.length = n at *
  have hl := Lib.hid hl0
  clear hl0
  go_enter Try.func50, Try.ntmps50
  go_wp2_with fail
  generalize (w.alloc (.cells #[.int .i64 p.tx, .int .i64 p.time, .int .i64 p.unit, .int .i64 p.data, .slice A n c] 24)).alloc (.cells #[.int .i64 0, .int .i64 0, .int .i64 0, .int .i64 0, .slice none 0 0] 24) = w2 at *
  go_cut [7] (fun s7 wx => ∃ g A5 c5, s7 = .pointer (some ⟨g, 0, none⟩) ∧ NewDevAt w2 wx (w.heap.size + 2) g (newDev p id maps) A5 c5)
  case first =>
    refine wp_region_till (T := fun _ => false) (S := fun w' => Below w2.heap.size w2 w') (by kernel_rfl) (Below.refl w2.heap.size w2).drew (fun hHeld => ?_)
    obtain ⟨w101, hw0⟩ : ∃ x, w2.drew = x := ⟨_, rfl⟩
    rw [hw0] at hHeld ⊢
    have hkA : Below w2.heap.size w2 w101 := hHeld
    clear hHeld hw0
    refine wpTill_put 0 11 (oi := _) (v := ?_) rfl rfl (by kernel_rfl) (by kernel_rfl) (by kernel_rfl) (by kernel_rfl) (fun _ _ _ h => h) (by rfl) hkA ?_ ?_
    rotate_left
    · (intro w2' hSw; go_simp; (try with_reducible rfl))
    (try simp only [Act.put, List.setIfInBounds_toArray, List.set_cons_zero, List.set_cons_succ])
    refine wpTill_put 1 12 (oi := _) (v := ?_) rfl rfl (by kernel_rfl) (by kernel_rfl) (by kernel_rfl) (by kernel_rfl) (fun _ _ _ h => h) (by rfl) hkA ?_ ?_
    rotate_left
    · (intro w2' hSw; go_simp; (try with_reducible rfl))
    (try simp only [Act.put, List.setIfInBounds_toArray, List.set_cons_zero, List.set_cons_succ])
    refine wpTill_put 2 13 (oi := _) (v := ?_) rfl rfl (by kernel_rfl) (by kernel_rfl) (by kernel_rfl) (by kernel_rfl) (fun _ _ _ h => h) (by rfl) hkA ?_ ?_
    rotate_left
    · (intro w2' hSw; obtain ⟨x0, x1, x2, x3, x4⟩ := (hp2.below hSw hp2.lt).cells; go_simp; (try with_reducible rfl))
    (try simp only [Act.put, List.setIfInBounds_toArray, List.set_cons_zero, List.set_cons_succ])
    refine wpTill_put 3 14 (oi := _) (v := ?_) rfl rfl (by kernel_rfl) (by kernel_rfl) (by kernel_rfl) (by kernel_rfl) (fun _ _ _ h => h) (by rfl) hkA ?_ ?_
    rotate_left
    · (intro w2' hSw; go_simp; (try with_reducible rfl))
    (try simp only [Act.put, List.setIfInBounds_toArray, List.set_cons_zero, List.set_cons_succ])
    refine wpTill_put 4 15 (oi := _) (v := ?_) rfl rfl (by kernel_rfl) (by kernel_rfl) (by kernel_rfl) (by kernel_rfl) (fun _ _ _ h => h) (by rfl) hkA ?_ ?_
    rotate_left
    · (intro w2' hSw; obtain ⟨x0, x1, x2, x3, x4⟩ := (hp2.below hSw hp2.lt).cells; go_simp; (try with_reducible rfl))
    (try simp only [Act.put, List.setIfInBounds_toArray, List.set_cons_zero, List.set_cons_succ])
    refine wpTill_put 5 16 (oi := _) (v := ?_) rfl rfl (by kernel_rfl) (by kernel_rfl) (by kernel_rfl) (by kernel_rfl) (fun _ _ _ h => h) (by rfl) hkA ?_ ?_
    rotate_left
    · (intro w2' hSw; go_simp; (try with_reducible rfl))
    (try simp only [Act.put, List.setIfInBounds_toArray, List.set_cons_zero, List.set_cons_succ])
    refine wpTill_put 6 17 (oi := _) (v := ?_) rfl rfl (by kernel_rfl) (by kernel_rfl) (by kernel_rfl) (by kernel_rfl) (fun _ _ _ h => h) (by rfl) hkA ?_ ?_
    rotate_left
    · (intro w2' hSw; obtain ⟨x0, x1, x2, x3, x4⟩ := (hp2.below hSw hp2.lt).cells; go_simp; (try with_reducible rfl))
    (try simp only [Act.put, List.setIfInBounds_toArray, List.set_cons_zero, List.set_cons_succ])
    refine wpTill_put 8 19 (oi := _) (v := ?_) rfl rfl (by kernel_rfl) (by kernel_rfl) (by kernel_rfl) (by kernel_rfl) (fun _ _ _ h => h) (by rfl) hkA ?_ ?_
    rotate_left
    · (intro w2' hSw; go_simp; (try with_reducible rfl))
    (try simp only [Act.put, List.setIfInBounds_toArray, List.set_cons_zero, List.set_cons_succ])
    refine wpTill_two 7 11 (oi := _) (oj := _) (by kernel_rfl) rfl rfl (fun K hK => ?_) (fun K hK => ?_)
    · skip
      go_simp
      obtain ⟨w102, hwn⟩ : ∃ x, w101.alloc (.cells #[] 49) = x := ⟨_, rfl⟩
      have hBn : Below w101.heap.size w101 w102 := by rw [← hwn]; exact (Below.refl _ _).alloc (Nat.le_refl _) _
      have b7 : w102.heap[w101.heap.size]? = some (.cells #[] 49) := by rw [← hwn]; exact heap_alloc_new w101 _
      have hge7 := hkA.size
      have hz7 : w101.heap.size < w102.heap.size := by rw [← hwn]; simp
      have hkA := hkA.trans (hBn.mono hkA.size)
      rw [hwn]
      clear hwn hBn
      refine hK.out _ _ (fun _ => hkA) (fun _ => ?_)
      clear hK K
      (try simp only [Act.put, List.setIfInBounds_toArray, List.set_cons_zero, List.set_cons_succ])
      refine wpTill_two 9 11 (oi := _) (oj := _) (by kernel_rfl) rfl rfl (fun K hK => ?_) (fun K hK => ?_)
      · skip
        have hsr := maps_src (HMS.out w102 (hB2.trans (hkA.mono (by omega))))
        have hzz := box_lt b7
        have hzA := hkA.size
        refine step_append_optB Try.underlying44 info_map rfl (by omega) (by omega) rfl (.tmp 18) (.tmp 19) rfl (w.heap.size + 2) (.slice (some ⟨w101.heap.size, 0, none⟩) 0 0) 0 [] rfl (made0 b7 (by omega)) Am maps.length cm (flats Mp.enc maps) rfl HML.out hsr.2.1 (maps_one _) (by omega) (by omega) hsr.2.2 ?_
        intro A5 c5 w103 ho9 hg9 hb9
        rw [Nat.zero_add, List.nil_append] at ho9
        rw [Nat.zero_add] at hb9
        have hlo : ∀ x, (Value.slice A5 maps.length c5).ownBlock = some x → w101.heap.size ≤ x := fun x hx => by
          rcases hb9 x hx with h | h
          · have : w101.heap.size = x := by simpa [Value.ownBlock] using h
            omega
          · omega
        have hkA := hkA.grown hg9 hkA.size (fun x hx => by have : w101.heap.size = x := by simpa [Value.ownBlock] using hx
                                                           omega)
        clear hsr hb9 hg9
        refine hK.out _ _ (fun _ => hkA) (fun _ => ?_)
        clear hK K
        (try simp only [Act.put, List.setIfInBounds_toArray, List.set_cons_zero, List.set_cons_succ])
        refine wpTill_put 10 21 (oi := _) (v := ?_) rfl rfl (by kernel_rfl) (by kernel_rfl) (by kernel_rfl) (by kernel_rfl) (fun _ _ _ h => h) (by rfl) hkA ?_ ?_
        rotate_left
        · (intro w2' hSw; go_simp; (try with_reducible rfl))
        (try simp only [Act.put, List.setIfInBounds_toArray, List.set_cons_zero, List.set_cons_succ])
        refine wpTill_one 11 (o := _) (by kernel_rfl) rfl (fun K hK => ?_)
        go_simp
        obtain ⟨w104, hwn⟩ : ∃ x, w103.alloc (.cells #[.int .i64 0, .int .i64 0, .int .i64 0, .int .i64 0, .slice none 0 0] 46) = x := ⟨_, rfl⟩
        have hBn : Below w103.heap.size w103 w104 := by rw [← hwn]; exact (Below.refl _ _).alloc (Nat.le_refl _) _
        have b11 : w104.heap[w103.heap.size]? = some (.cells #[.int .i64 0, .int .i64 0, .int .i64 0, .int .i64 0, .slice none 0 0] 46) := by rw [← hwn]; exact heap_alloc_new w103 _
        have hge11 := hkA.size
        have hz11 : w103.heap.size < w104.heap.size := by rw [← hwn]; simp
        have hkA := hkA.trans (hBn.mono hkA.size)
        rw [hwn]
        have hne := (show (Value.slice A5 maps.length c5).ownBlock ≠ some (w103.heap.size) from fun e => by have h1 := (ho9.lt _ e).2; omega)
        have ho9 := own_below ho9 hBn (fun x hx => (ho9.lt x hx).2)
        clear hwn hBn
        refine hK.out _ _ (fun _ => hkA) (fun _ => ?_)
        clear hK K
        (try simp only [Act.put, List.setIfInBounds_toArray, List.set_cons_zero, List.set_cons_succ])
        refine wpTill_one 12 (o := _) (by kernel_rfl) rfl (fun K hK => ?_)
        obtain ⟨z0, z1, z2, z3, z4⟩ := cells5 b11
        have f0 := free_of b11 0
        have f1 := free_of b11 1
        have f2 := free_of b11 2
        have f3 := free_of b11 3
        have f4 := free_of b11 4
        go_simp
        obtain ⟨w105, hwn⟩ : ∃ x, (((((w104.setCell ⟨w103.heap.size, 0, none⟩ (.int .i64 id)).setCell ⟨w103.heap.size, 1, none⟩ (.int .i64 p.tx)).setCell ⟨w103.heap.size, 2, none⟩ (.int .i64 p.time)).setCell ⟨w103.heap.size, 3, none⟩ (.int .i64 p.time)).setCell ⟨w103.heap.size, 4, none⟩ (.slice A5 maps.length c5)) = x := ⟨_, rfl⟩
        have hD : NewDevAt w2 w105 (w.heap.size + 2) (w103.heap.size) (newDev p id maps) A5 c5 := by
          rw [← hwn]
          exact ⟨set5 b11 _ _ _ _ _, own_kept5 ho9 hne _ _ _ _ _, hne, fun x hx => by have := hlo x hx; omega, below5 hkA (by omega) _ _ _ _ _, by omega⟩
        have hkA := hD.2.2.2.2.1
        rw [hwn]
        clear z0 z1 z2 z3 z4 f0 f1 f2 f3 f4 hwn
        refine hK.out _ _ (fun _ => hkA) (fun _ => ?_)
        clear hK K
        (try simp only [Act.put, List.setIfInBounds_toArray, List.set_cons_zero, List.set_cons_succ])
        refine wpTill_done (by kernel_rfl) ?_ _
        go_wp2_with fail
        go_meet
        exact ⟨_, _, _, rfl, hD⟩
      · skip
        go_simp
        obtain ⟨w106, hwn⟩ : ∃ x, w102.alloc (.cells #[.int .i64 0, .int .i64 0, .int .i64 0, .int .i64 0, .slice none 0 0] 46) = x := ⟨_, rfl⟩
        have hBn : Below w102.heap.size w102 w106 := by rw [← hwn]; exact (Below.refl _ _).alloc (Nat.le_refl _) _
        have b11 : w106.heap[w102.heap.size]? = some (.cells #[.int .i64 0, .int .i64 0, .int .i64 0, .int .i64 0, .slice none 0 0] 46) := by rw [← hwn]; exact heap_alloc_new w102 _
        have hge11 := hkA.size
        have hz11 : w102.heap.size < w106.heap.size := by rw [← hwn]; simp
        have hkA := hkA.trans (hBn.mono hkA.size)
        rw [hwn]
        have b7 := box_up b7 hBn
        clear hwn hBn
        refine hK.out _ _ (fun _ => hkA) (fun _ => ?_)
        clear hK K
        (try simp only [Act.put, List.setIfInBounds_toArray, List.set_cons_zero, List.set_cons_succ])
        refine wpTill_one 9 (o := _) (by kernel_rfl) rfl (fun K hK => ?_)
        have hsr := maps_src (HMS.out w106 (hB2.trans (hkA.mono (by omega))))
        have hzz := box_lt b7
        have hzA := hkA.size
        have hzb := box_lt b11
        refine step_append_optB Try.underlying44 info_map rfl (by omega) (by omega) rfl (.tmp 18) (.tmp 19) rfl (w.heap.size + 2) (.slice (some ⟨w101.heap.size, 0, none⟩) 0 0) 0 [] rfl (made0 b7 (by omega)) Am maps.length cm (flats Mp.enc maps) rfl HML.out hsr.2.1 (maps_one _) (by omega) (by omega) hsr.2.2 ?_
        intro A5 c5 w107 ho9 hg9 hb9
        rw [Nat.zero_add, List.nil_append] at ho9
        rw [Nat.zero_add] at hb9
        have hlo : ∀ x, (Value.slice A5 maps.length c5).ownBlock = some x → w101.heap.size ≤ x := fun x hx => by
          rcases hb9 x hx with h | h
          · have : w101.heap.size = x := by simpa [Value.ownBlock] using h
            omega
          · omega
        have hne : (Value.slice A5 maps.length c5).ownBlock ≠ some (w102.heap.size) := fun e => by
          rcases hb9 _ e with h | h
          · have : w101.heap.size = w102.heap.size := by simpa [Value.ownBlock] using h
            omega
          · omega
        have b11 := (hg9.block _ (box_lt b11) (fun e => by have : w102.heap.size = w101.heap.size := by simpa [Value.ownBlock] using e
                                                           omega)).trans b11
        have hkA := hkA.grown hg9 hkA.size (fun x hx => by have : w101.heap.size = x := by simpa [Value.ownBlock] using hx
                                                           omega)
        clear hsr hb9 hg9
        refine hK.out _ _ (fun _ => hkA) (fun _ => ?_)
        clear hK K
        (try simp only [Act.put, List.setIfInBounds_toArray, List.set_cons_zero, List.set_cons_succ])
        refine wpTill_put 10 21 (oi := _) (v := ?_) rfl rfl (by kernel_rfl) (by kernel_rfl) (by kernel_rfl) (by kernel_rfl) (fun _ _ _ h => h) (by rfl) hkA ?_ ?_
        rotate_left
        · (intro w2' hSw; go_simp; (try with_reducible rfl))
        (try simp only [Act.put, List.setIfInBounds_toArray, List.set_cons_zero, List.set_cons_succ])
        refine wpTill_one 12 (o := _) (by kernel_rfl) rfl (fun K hK => ?_)
        obtain ⟨z0, z1, z2, z3, z4⟩ := cells5 b11
        have f0 := free_of b11 0
        have f1 := free_of b11 1
        have f2 := free_of b11 2
        have f3 := free_of b11 3
        have f4 := free_of b11 4
        go_simp
        obtain ⟨w108, hwn⟩ : ∃ x, (((((w107.setCell ⟨w102.heap.size, 0, none⟩ (.int .i64 id)).setCell ⟨w102.heap.size, 1, none⟩ (.int .i64 p.tx)).setCell ⟨w102.heap.size, 2, none⟩ (.int .i64 p.time)).setCell ⟨w102.heap.size, 3, none⟩ (.int .i64 p.time)).setCell ⟨w102.heap.size, 4, none⟩ (.slice A5 maps.length c5)) = x := ⟨_, rfl⟩
        have hD : NewDevAt w2 w108 (w.heap.size + 2) (w102.heap.size) (newDev p id maps) A5 c5 := by
          rw [← hwn]
          exact ⟨set5 b11 _ _ _ _ _, own_kept5 ho9 hne _ _ _ _ _, hne, fun x hx => by have := hlo x hx; omega, below5 hkA (by omega) _ _ _ _ _, by omega⟩
        have hkA := hD.2.2.2.2.1
        rw [hwn]
        clear z0 z1 z2 z3 z4 f0 f1 f2 f3 f4 hwn
        refine hK.out _ _ (fun _ => hkA) (fun _ => ?_)
        clear hK K
        (try simp only [Act.put, List.setIfInBounds_toArray, List.set_cons_zero, List.set_cons_succ])
        refine wpTill_done (by kernel_rfl) ?_ _
        go_wp2_with fail
        go_meet
        exact ⟨_, _, _, rfl, hD⟩
    · skip
      go_simp
      obtain ⟨w109, hwn⟩ : ∃ x, w101.alloc (.cells #[.int .i64 0, .int .i64 0, .int .i64 0, .int .i64 0, .slice none 0 0] 46) = x := ⟨_, rfl⟩
      have hBn : Below w101.heap.size w101 w109 := by rw [← hwn]; exact (Below.refl _ _).alloc (Nat.le_refl _) _
      have b11 : w109.heap[w101.heap.size]? = some (.cells #[.int .i64 0, .int .i64 0, .int .i64 0, .int .i64 0, .slice none 0 0] 46) := by rw [← hwn]; exact heap_alloc_new w101 _
      have hge11 := hkA.size
      have hz11 : w101.heap.size < w109.heap.size := by rw [← hwn]; simp
      have hkA := hkA.trans (hBn.mono hkA.size)
      rw [hwn]
      clear hwn hBn
      refine hK.out _ _ (fun _ => hkA) (fun _ => ?_)
      clear hK K
      (try simp only [Act.put, List.setIfInBounds_toArray, List.set_cons_zero, List.set_cons_succ])
      refine wpTill_one 7 (o := _) (by kernel_rfl) rfl (fun K hK => ?_)
      go_simp
      obtain ⟨w110, hwn⟩ : ∃ x, w109.alloc (.cells #[] 49) = x := ⟨_, rfl⟩
      have hBn : Below w109.heap.size w109 w110 := by rw [← hwn]; exact (Below.refl _ _).alloc (Nat.le_refl _) _
      have b7 : w110.heap[w109.heap.size]? = some (.cells #[] 49) := by rw [← hwn]; exact heap_alloc_new w109 _
      have hge7 := hkA.size
      have hz7 : w109.heap.size < w110.heap.size := by rw [← hwn]; simp
      have hkA := hkA.trans (hBn.mono hkA.size)
      rw [hwn]
      have b11 := box_up b11 hBn
      clear hwn hBn
      refine hK.out _ _ (fun _ => hkA) (fun _ => ?_)
      clear hK K
      (try simp only [Act.put, List.setIfInBounds_toArray, List.set_cons_zero, List.set_cons_succ])
      refine wpTill_one 9 (o := _) (by kernel_rfl) rfl (fun K hK => ?_)
      have hsr := maps_src (HMS.out w110 (hB2.trans (hkA.mono (by omega))))
      have hzz := box_lt b7
      have hzA := hkA.size
      have hzb := box_lt b11
      refine step_append_optB Try.underlying44 info_map rfl (by omega) (by omega) rfl (.tmp 18) (.tmp 19) rfl (w.heap.size + 2) (.slice (some ⟨w109.heap.size, 0, none⟩) 0 0) 0 [] rfl (made0 b7 (by omega)) Am maps.length cm (flats Mp.enc maps) rfl HML.out hsr.2.1 (maps_one _) (by omega) (by omega) hsr.2.2 ?_
      intro A5 c5 w111 ho9 hg9 hb9
      rw [Nat.zero_add, List.nil_append] at ho9
      rw [Nat.zero_add] at hb9
      have hlo : ∀ x, (Value.slice A5 maps.length c5).ownBlock = some x → w109.heap.size ≤ x := fun x hx => by
        rcases hb9 x hx with h | h
        · have : w109.heap.size = x := by simpa [Value.ownBlock] using h
          omega
        · omega
      have hne : (Value.slice A5 maps.length c5).ownBlock ≠ some (w101.heap.size) := fun e => by
        rcases hb9 _ e with h | h
        · have : w109.heap.size = w101.heap.size := by simpa [Value.ownBlock] using h
          omega
        · omega
      have b11 := (hg9.block _ (box_lt b11) (fun e => by have : w101.heap.size = w109.heap.size := by simpa [Value.ownBlock] using e
                                                         omega)).trans b11
      have hkA := hkA.grown hg9 hkA.size (fun x hx => by have : w109.heap.size = x := by simpa [Value.ownBlock] using hx
                                                         omega)
      clear hsr hb9 hg9
      refine hK.out _ _ (fun _ => hkA) (fun _ => ?_)
      clear hK K
      (try simp only [Act.put, List.setIfInBounds_toArray, List.set_cons_zero, List.set_cons_succ])
      refine wpTill_put 10 21 (oi := _) (v := ?_) rfl rfl (by kernel_rfl) (by kernel_rfl) (by kernel_rfl) (by kernel_rfl) (fun _ _ _ h => h) (by rfl) hkA ?_ ?_
      rotate_left
      · (intro w2' hSw; go_simp; (try with_reducible rfl))
      (try simp only [Act.put, List.setIfInBounds_toArray, List.set_cons_zero, List.set_cons_succ])
      refine wpTill_one 12 (o := _) (by kernel_rfl) rfl (fun K hK => ?_)
      obtain ⟨z0, z1, z2, z3, z4⟩ := cells5 b11
      have f0 := free_of b11 0
      have f1 := free_of b11 1
      have f2 := free_of b11 2
      have f3 := free_of b11 3
      have f4 := free_of b11 4
      go_simp
      obtain ⟨w112, hwn⟩ : ∃ x, (((((w111.setCell ⟨w101.heap.size, 0, none⟩ (.int .i64 id)).setCell ⟨w101.heap.size, 1, none⟩ (.int .i64 p.tx)).setCell ⟨w101.heap.size, 2, none⟩ (.int .i64 p.time)).setCell ⟨w101.heap.size, 3, none⟩ (.int .i64 p.time)).setCell ⟨w101.heap.size, 4, none⟩ (.slice A5 maps.length c5)) = x := ⟨_, rfl⟩
      have hD : NewDevAt w2 w112 (w.heap.size + 2) (w101.heap.size) (newDev p id maps) A5 c5 := by
        rw [← hwn]
        exact ⟨set5 b11 _ _ _ _ _, own_kept5 ho9 hne _ _ _ _ _, hne, fun x hx => by have := hlo x hx; omega, below5 hkA (by omega) _ _ _ _ _, by omega⟩
      have hkA := hD.2.2.2.2.1
      rw [hwn]
      clear z0 z1 z2 z3 z4 f0 f1 f2 f3 f4 hwn
      refine hK.out _ _ (fun _ => hkA) (fun _ => ?_)
      clear hK K
      (try simp only [Act.put, List.setIfInBounds_toArray, List.set_cons_zero, List.set_cons_succ])
      refine wpTill_done (by kernel_rfl) ?_ _
      go_wp2_with fail
      go_meet
      exact ⟨_, _, _, rfl, hD⟩
  case rest =>
    obtain ⟨g, A5, c5, rfl, hD, hO, hne, hlo, hBc, hg⟩ := hcut
    have hgc := box_lt hD
    have HMI := Lib.hid (And.intro hne hlo)
    have HD := Lib.hid hD
    obtain ⟨xs, hrow, hc, hap⟩ := h3.keep (hB2.trans (hBc.mono (by omega))) (Nat.le_refl _)
    have hpc := hp2.below hBc hp2.lt
    obtain ⟨x0, x1, x2, x3, x4⟩ := hpc.cells
    have hxs := own_len hrow
    have hsr := own_src hrow
    obtain ⟨y0, y1, y2, y3, y4⟩ := hD.cells
    have HO := Lib.hid hO
    have HRC := Lib.hid (And.intro hc hap)
    have HR0 := Lib.hid hrow
    have hrc := hr2.below hBc (by omega)
    have hrow2 := hrow
    rw [hl.out] at hrow2
    have HFA := Lib.hid (fun i wr c9 g9 => with_fin (c := c) (i := i) (wr := wr) (c9 := c9) (g9 := g9) (id := id) (maps := maps) (u := .slice A5 maps.length c5) hl.out hb hrow2 hc hap hO)
    clear hrow2
    have HH3 := Lib.hid h3.lt
    have HONE := Lib.hid (devs_one hxs (fun j hj => ⟨(hc j hj).1, (hc j hj).2.1⟩))
    have hpl := hpc.lt
    have hBA : Below wc.heap.size wc (wc.alloc (.cells #[] 46)) := (Below.refl _ _).alloc (Nat.le_refl _) _
    have hsr := own_src (own_below hrow hBA (fun x hx => (hrow.lt x hx).2))
    have hwb : w.heap.size + 2 ≤ wc.heap.size := by have := hBc.size; omega
    clear hrow hc hap hO hne hlo hD
    rw [hl.out] at hxs
    have HXS := Lib.hid hxs
    clear hxs
    go_wp2_with (first
      | (at_builtin; have _ := hg8; go_loud (refine wpList_append_optB Try.underlying22 info_dev rfl (by omega) (by omega) rfl _ _ rfl (w.heap.size + 2) (.slice A8 n c8) n xs rfl (H8.out.2.1.alloc _) (some ⟨w8.heap.size, 0, none⟩) 1 1 (devCs (newDev p id maps) (.slice A5 maps.length c5)) rfl rfl (new_src w8 (devCs (newDev p id maps) (.slice A5 maps.length c5)) _) (devCs_one _ _ _ _) (by omega) (by have := H8.out.1.size; simp; omega) (fun h => by cases h) ?_); intro A9 c9 w9 ho9 hg9 hb9; have H9 := Lib.hid (row_end H8.out.1 H8.out.2.2 hg9 ho9 hb9); clear hb9)
      | (at_builtin; go_loud (refine wpList_append_optB Try.underlying22 info_dev rfl (by omega) (by omega) rfl _ _ rfl (w.heap.size + 2) (.slice (some ⟨wc.heap.size, 0, none⟩) 0 0) 0 [] rfl (World.ownsRow_made wc #[] 0 hwb (by simp [maxLen]) rfl) A n c xs rfl HXS.out hsr.1 HONE.out (by omega) (by simp; omega) hsr.2 ?_); intro A8 c8 w8 ho8 hg8 hb8; have H8 := Lib.hid (row_mid hg8 ho8 hb8); clear hb8; have hd8 := DBox.below8 H8.out.1 HD.out; obtain ⟨y0, y1, y2, y3, y4⟩ := hd8.cells))
    obtain ⟨hB9, g9, rfl, hg9w, hnc9⟩ := H9.out
    have hgcw : w.heap.size < wc.heap.size := hpl
    clear x0 x1 x2 x3 x4 y0 y1 y2 y3 y4 hd8 hg8 hg9 ho8 hsr
    go_loopw [9] (fun i9 wr => ∃ i : Nat, i9 = .int .i64 i ∧ i ≤ n ∧ wr.ownsRow (w.heap.size + 2) 46 5 (.slice (some ⟨g9, 0, none⟩) (n + 1) c9) (n + 1) (insC xs (i * 5) (devCs (newDev p id maps) (.slice A5 maps.length c5))) ∧ Below wc.heap.size wc wr ∧ (∀ j, i ≤ j → j < n → id < (nth dev0 p.devs j).id)) (fun i9 _ => (intOf i9).toNat)
    case atStart =>
      refine ⟨n, ?_, by omega, ?_, hB9, fun j h1 h2 => absurd h1 (by omega)⟩
      · go_num
      · unfold insC
        rw [← HXS.out, List.take_length, List.drop_length, List.append_nil]
        exact ho9
    case round =>
      obtain ⟨i, rfl, hi, hrow, hB, hup⟩ := hrel
      have HUP := Lib.hid hup
      have HROW := Lib.hid hrow
      clear hup
      obtain ⟨hcA, hcB⟩ := down_cells hrow HXS.out rfl hi
      clear hrow
      have hwz := hB.size
      rcases Nat.eq_zero_or_pos i with h0 | h0
      · subst h0
        clear hcA hcB
        go_wp2_with fail
        go_quiet (fail)
        obtain ⟨wq, hwq⟩ : ∃ x, wr.drewN nq = x := ⟨_, rfl⟩
        have hrq : wq.ownsRow (w.heap.size + 2) 46 5 (.slice (some ⟨g9, 0, none⟩) (n + 1) c9) (n + 1) (insC xs ((0) * 5) (devCs (newDev p id maps) (.slice A5 maps.length c5))) := by rw [← hwq]; exact HROW.out
        have hBq : Below wc.heap.size wc wq := by rw [← hwq]; exact below_drewN hB _
        rw [hwq]
        have HRQ := Lib.hid hrq
        clear hwq HROW hB hwz
        have hwz := hBq.size
        clear hrq
        have hfn := HFA.out (0) wq c9 g9 (fun x hx => ⟨by have := HMI.out.2 x hx; omega, fun e => by have := (HO.out.lt x hx).2; omega⟩) (fun j hj x hx => (HH3.out.2 j (by rw [hl.out]; exact hj) x hx).2) (fun x hx => (HH3.out.1 x hx).2) hg9w HRQ.out hBq (by omega) (HPOS.out 0 (by omega) (fun h => absurd h (by omega)) (fun j h1 h2 => HUP.out j h1 h2))
        obtain ⟨M', ho, hM'⟩ := hfn
        have HO' := Lib.hid ho
        have HM' := Lib.hid hM'
        clear ho hM'
        have hpr : PBox wq w.heap.size p A n c := box_up hpc hBq
        have hrr : RBox wq (w.heap.size + 1) (.int .i64 0) (.int .i64 0) (.int .i64 0) (.int .i64 0) (.slice none 0 0) := box_up hrc hBq
        obtain ⟨x0, x1, x2, x3, x4⟩ := hpr.cells
        obtain ⟨z0, z1, z2, z3, z4⟩ := hrr.cells
        have f4 := hpr.free 4
        have g0 := hrr.free 0
        have g1 := hrr.free 1
        have g2 := hrr.free 2
        have g3 := hrr.free 3
        have g4 := hrr.free 4
        go_wp2_with fail
        have hrs : RBox (wq.setCell ⟨w.heap.size, 4, none⟩ (.slice (some ⟨g9, 0, none⟩) (n + 1) c9)) (w.heap.size + 1) (.int .i64 0) (.int .i64 0) (.int .i64 0) (.int .i64 0) (.slice none 0 0) := (Below.heap_setCell wq ⟨w.heap.size, 4, none⟩ _ (w.heap.size + 1) (by simp)).trans hrr
        obtain ⟨q0, q1, q2, q3, q4⟩ := cells5 (set5 hrs (.int .i64 p.tx) (.int .i64 p.time) (.int .i64 p.unit) (.int .i64 p.data) (.slice (some ⟨g9, 0, none⟩) (n + 1) c9))
        refine bodyPost_ret (v := .agg #[.int .i64 p.tx, .int .i64 p.time, .int .i64 p.unit, .int .i64 p.data, .slice (some ⟨g9, 0, none⟩) (n + 1) c9]) (by simp [results, Try.results50, go_sem, q0, q1, q2, q3, q4]) rfl ?_
        refine with_ret (q := addF p id maps) (M' := M') (len_addF p id maps hl.out) HO'.out HM'.out ?_ (fun k hk x hx => (HH3.out.2 k (by rw [hl.out]; exact hk) x hx).2) (by omega) _ rfl
        exact hB2.trans ((hBc.trans (hBq.mono (by omega))).mono (by omega))
      · obtain ⟨k, rfl⟩ : ∃ k, i = k + 1 := ⟨i - 1, by omega⟩
        have a0 := hcA 0 (by omega)
        have b0 := hcB k 0 (by omega) (by omega)
        clear hcA hcB
        have HE := Lib.hid (HRC.out.1 k (by rw [hl.out]; omega))
        rw [Nat.add_zero, HE.out.1.1] at b0
        simp only [devCs, Nat.add_zero, List.getElem?_cons_zero] at a0
        have HK := Lib.hid (by rw [hl.out]; omega : k < p.devs.length)
        have hk1 : (0 : Int) < ((k + 1 : Nat) : Int) := by omega
        have hk2 : decide ((0 : Int) < ((k + 1 : Nat) : Int)) = true := decide_eq_true hk1
        obtain ⟨y, hy⟩ : ∃ y, nth dev0 p.devs k = y := ⟨_, rfl⟩
        have HY := Lib.hid hy
        rw [hy] at b0 HE
        clear hy
        by_cases hlt : id < y.id
        · have hlb : decide ((newDev p id maps).id < y.id) = true := decide_eq_true hlt
          go_wp2_with fail
          go_quiet (fail)
          obtain ⟨wq, hwq⟩ : ∃ x, wr.drewN nq = x := ⟨_, rfl⟩
          have hrq : wq.ownsRow (w.heap.size + 2) 46 5 (.slice (some ⟨g9, 0, none⟩) (n + 1) c9) (n + 1) (insC xs ((k + 1) * 5) (devCs (newDev p id maps) (.slice A5 maps.length c5))) := by rw [← hwq]; exact HROW.out
          have hBq : Below wc.heap.size wc wq := by rw [← hwq]; exact below_drewN hB _
          rw [hwq]
          have HRQ := Lib.hid hrq
          clear hwq HROW hB hwz
          have hwz := hBq.size
          obtain ⟨hcA, hcB⟩ := down_cells hrq HXS.out rfl hi
          have a1 := hcA 1 (by omega)
          have a2 := hcA 2 (by omega)
          have a3 := hcA 3 (by omega)
          have a4 := hcA 4 (by omega)
          have b1 := hcB k 1 (by omega) (by omega)
          have b2 := hcB k 2 (by omega) (by omega)
          have b3 := hcB k 3 (by omega) (by omega)
          have b4 := hcB k 4 (by omega) (by omega)
          have a0 := hcA 0 (by omega)
          have b0 := hcB k 0 (by omega) (by omega)
          rw [Nat.add_zero, HE.out.1.1] at b0
          rw [HE.out.1.2.1] at b1
          rw [HE.out.1.2.2.1] at b2
          rw [HE.out.1.2.2.2.1] at b3
          rw [HE.out.1.2.2.2.2] at b4
          simp only [devCs, Nat.add_zero, List.getElem?_cons_zero, List.getElem?_cons_succ] at a0 a1 a2 a3 a4
          obtain ⟨Ak, ck, hMk, _⟩ := HE.out.2.1.form
          have HMK := Lib.hid hMk
          rw [hMk] at b4
          have hgl := (hrq.lt g9 rfl).2
          have hfz := fun o => hrq.frozenAt o
          clear hMk hcA hcB hrq
          go_wp2_with fail
          refine ⟨⟨k, rfl, by omega, down_step HRQ.out HXS.out (by omega) HE.out.1 HY.out HMK.out _, ?_, fun j h1 h2 => ?_⟩, by simp [intOf]⟩
          · exact down_below hBq hg9w _ _ _ _ _ _ _ _ _ _ _ _ _
          · rcases Nat.lt_or_ge k j with h | h
            · exact HUP.out j (by omega) h2
            · obtain rfl : j = k := by omega
              rw [HY.out]; exact hlt
        · have hlb : decide ((newDev p id maps).id < y.id) = false := decide_eq_false hlt
          go_wp2_with fail
          go_quiet (fail)
          obtain ⟨wq, hwq⟩ : ∃ x, wr.drewN nq = x := ⟨_, rfl⟩
          have hrq : wq.ownsRow (w.heap.size + 2) 46 5 (.slice (some ⟨g9, 0, none⟩) (n + 1) c9) (n + 1) (insC xs ((k + 1) * 5) (devCs (newDev p id maps) (.slice A5 maps.length c5))) := by rw [← hwq]; exact HROW.out
          have hBq : Below wc.heap.size wc wq := by rw [← hwq]; exact below_drewN hB _
          rw [hwq]
          have HRQ := Lib.hid hrq
          clear hwq HROW hB hwz
          have hwz := hBq.size
          clear hrq
          have hfn := HFA.out (k + 1) wq c9 g9 (fun x hx => ⟨by have := HMI.out.2 x hx; omega, fun e => by have := (HO.out.lt x hx).2; omega⟩) (fun j hj x hx => (HH3.out.2 j (by rw [hl.out]; exact hj) x hx).2) (fun x hx => (HH3.out.1 x hx).2) hg9w HRQ.out hBq (by omega) (HPOS.out (k + 1) (by omega) (fun _ => by rw [Nat.add_sub_cancel, HY.out]; omega) (fun j h1 h2 => HUP.out j h1 h2))
          obtain ⟨M', ho, hM'⟩ := hfn
          have HO' := Lib.hid ho
          have HM' := Lib.hid hM'
          clear ho hM'
          have hpr : PBox wq w.heap.size p A n c := box_up hpc hBq
          have hrr : RBox wq (w.heap.size + 1) (.int .i64 0) (.int .i64 0) (.int .i64 0) (.int .i64 0) (.slice none 0 0) := box_up hrc hBq
          obtain ⟨x0, x1, x2, x3, x4⟩ := hpr.cells
          obtain ⟨z0, z1, z2, z3, z4⟩ := hrr.cells
          have f4 := hpr.free 4
          have g0 := hrr.free 0
          have g1 := hrr.free 1
          have g2 := hrr.free 2
          have g3 := hrr.free 3
          have g4 := hrr.free 4
          go_wp2_with fail
          have hrs : RBox (wq.setCell ⟨w.heap.size, 4, none⟩ (.slice (some ⟨g9, 0, none⟩) (n + 1) c9)) (w.heap.size + 1) (.int .i64 0) (.int .i64 0) (.int .i64 0) (.int .i64 0) (.slice none 0 0) := (Below.heap_setCell wq ⟨w.heap.size, 4, none⟩ _ (w.heap.size + 1) (by simp)).trans hrr
          obtain ⟨q0, q1, q2, q3, q4⟩ := cells5 (set5 hrs (.int .i64 p.tx) (.int .i64 p.time) (.int .i64 p.unit) (.int .i64 p.data) (.slice (some ⟨g9, 0, none⟩) (n + 1) c9))
          refine bodyPost_ret (v := .agg #[.int .i64 p.tx, .int .i64 p.time, .int .i64 p.unit, .int .i64 p.data, .slice (some ⟨g9, 0, none⟩) (n + 1) c9]) (by simp [results, Try.results50, go_sem, q0, q1, q2, q3, q4]) rfl ?_
          refine with_ret (q := addF p id maps) (M' := M') (len_addF p id maps hl.out) HO'.out HM'.out ?_ (fun k hk x hx => (HH3.out.2 k (by rw [hl.out]; exact hk) x hx).2) (by omega) _ rfl
          exact hB2.trans ((hBc.trans (hBq.mono (by omega))).mono (by omega))
end Go.Proofs.Ytjeeheeaickokaa

/- Whether a pool is small enough. No condition: no program is in sight here. -/
namespace Go.Proofs.Ytjeeheeaickokaa
open Go.RowKit
/-- Is a pool small enough for the laws' own looks? -/
def fewB (p : Pool) : Bool := decide (p.devs.length ≤ 200 ∧ p.count ≤ 2000)
def fewN (p : Pool) : Int := if fewB p = true then 1 else 0

theorem fewN_yes {p : Pool} (h1 : p.devs.length ≤ 200) (h2 : p.count ≤ 2000) : fewN p = 1 := by unfold fewN; rw [if_pos]; simp only [fewB, decide_eq_true_eq]; exact ⟨h1, h2⟩
theorem fewN_no {p : Pool} (h : ¬ (p.devs.length ≤ 200 ∧ p.count ≤ 2000)) : fewN p = 0 := by unfold fewN; rw [if_neg]; simp only [fewB, decide_eq_true_eq]; exact h

theorem countL_take_bound {p : Pool} (h : p.ok) (k : Nat) (hk : k ≤ 201) : countL (p.devs.take k) ≤ 1178676464975805 := by
  have h1 := countL_bound (c := 5864062014805) (p.devs.take k) (fun d hd => (h.2.2.2.2.1 d (List.mem_of_mem_take hd)).2.2.2.2.2)
  have h2 : (p.devs.take k).length * 5864062014805 ≤ 201 * 5864062014805 := Nat.mul_le_mul_right _ (by rw [List.length_take]; omega)
  omega

end Go.Proofs.Ytjeeheeaickokaa

/- scantlinglaw18.Few: whether a pool is small enough. Condition: the numbers fit into Go's int. -/
namespace Go.Proofs.Ytjeeheeaickokaa
open Go.RowKit
set_option maxRecDepth 100000 in
set_option maxHeartbeats 800000 in
theorem few_any (w : World) (S : Nat → Prop) (v : Value) (p : Pool) (hS : ∀ b, S b → b < w.heap.size) (h : IsPool w S v p) (hok : p.ok) :
    Calls Try.prog 4 #[v] w fun e w' => e = .returned (.int .i64 (fewN p)) ∧ Below w.heap.size w w' := by
  obtain ⟨A, c, rfl, _, hr⟩ := h
  have hnl := hok.2.2.2.2.2
  generalize hl0 : p.devs.length = n at *
  have hl := Lib.hid hl0
  clear hl0
  have hB0 : Below w.heap.size w (w.alloc (poolBox p A n c)) := (Below.refl _ _).alloc (Nat.le_refl _) _
  go_enter Try.func4, Try.ntmps4
  go_wp2_with fail
  go_loop [3, 4] (fun t i => ∃ k : Nat, k ≤ n ∧ k ≤ 201 ∧ i = .int .i64 k ∧ t = .int .i64 (countL (p.devs.take k))) (fun _ i => n - (intOf i).toNat)
  case atStart => exact ⟨0, by omega, by omega, rfl, rfl⟩
  case round =>
    obtain ⟨k, hk, hk2, rfl, rfl⟩ := hrel
    have hs0 := countL_nonneg (p.devs.take k)
    by_cases hlt : k < n ∧ k < 201
    · obtain ⟨b, off, rfl, hb, hc⟩ := devs_cells (hr.keep rdev_stable (fun _ h => h) (keep_below hB0 hS)) (by rw [hl.out]; omega)
      obtain ⟨c0, c1, c2, c3, A', c', c4, hc', hr'⟩ := hc k (by rw [hl.out]; omega)
      have HT := Lib.hid (countL_take p.devs k (by rw [hl.out]; omega))
      have hle := countL_take_bound hok (k + 1) (by omega)
      rw [HT.out] at hle
      have hbs := hS b hb
      have hlt1 := hlt.1
      have hlt2 := hlt.2
      clear hc hr' hlt
      go_wp2
      go_round
      case rel => exact ⟨k + 1, by omega, by omega, by go_num, by rw [HT.out]⟩
      case measure => simp [intOf]; omega
    · have hle := countL_take_bound hok k hk2
      by_cases hlt1 : k < n
      · have hk3 : ¬ k < 201 := by omega
        have e := Lib.hid (fewN_no (p := p) (by rw [hl.out]; omega))
        have hn2 : ¬ n ≤ 200 := by omega
        clear hlt
        go_wp2
        go_ret
        exact ⟨ret_int e.out.symm, hB0⟩
      · have hfin : p.devs.take k = p.devs := List.take_of_length_le (by rw [hl.out]; omega)
        have hcp : p.count = countL (p.devs.take k) := by rw [hfin]; rfl
        have hkn : n ≤ k := by omega
        by_cases hn2 : n ≤ 200
        · by_cases hcc : countL (p.devs.take k) ≤ 2000
          · have e := Lib.hid (fewN_yes (p := p) (by rw [hl.out]; exact hn2) (by rw [hcp]; exact hcc))
            clear hfin hcp hlt
            go_wp2
            go_ret
            exact ⟨ret_int e.out.symm, hB0⟩
          · have e := Lib.hid (fewN_no (p := p) (by rw [hcp]; exact fun h => hcc h.2))
            clear hfin hcp hlt
            go_wp2
            go_ret
            exact ⟨ret_int e.out.symm, hB0⟩
        · have e := Lib.hid (fewN_no (p := p) (by rw [hl.out]; exact fun h => hn2 h.1))
          clear hfin hcp hlt
          go_wp2
          go_ret
          exact ⟨ret_int e.out.symm, hB0⟩
end Go.Proofs.Ytjeeheeaickokaa

/- scantlingref18.in, Count, and scantlinglaw18.Few. Conditions: the numbers fit into Go's int, no slice is longer than the reach. -/
namespace Go.Proofs.Ytjeeheeaickokaa
open Go.RowKit

theorem rin_any (w : World) (n lo hi : Int) : Calls Try.prog 27 #[.int .i64 n, .int .i64 lo, .int .i64 hi] w fun e w' => e = .returned (.bool (inB n lo hi)) ∧ w = w' := by
  by_cases h1 : lo ≤ n
  · by_cases h2 : n ≤ hi
    · rw [inB_yes ⟨h1, h2⟩]
      go_enter Try.func27, Try.ntmps27
      go_wp2
      go_ret
      exact ⟨rfl, rfl⟩
    · rw [inB_no (fun h => h2 h.2)]
      go_enter Try.func27, Try.ntmps27
      go_wp2
      go_ret
      exact ⟨rfl, rfl⟩
  · rw [inB_no (fun h => h1 h.1)]
    go_enter Try.func27, Try.ntmps27
    go_wp2
    go_ret
    exact ⟨rfl, rfl⟩


set_option maxHeartbeats 800000 in
theorem rcount_any (w : World) (S : Nat → Prop) (v : Value) (p : Pool) (hS : ∀ b, S b → b < w.heap.size) (h : IsPool w S v p) (hn : p.devs.length ≤ 1099511627776) (hc0 : p.count ≤ 4611686018427387904) :
    Calls Try.prog 28 #[v] w fun e w' => e = .returned (.int .i64 p.count) ∧ Below w.heap.size w w' := by
  obtain ⟨A, c, rfl, _, hr⟩ := h
  generalize hl0 : p.devs.length = n at *
  have hl := Lib.hid hl0
  clear hl0
  have hB0 : Below w.heap.size w (w.alloc (poolBox p A n c)) := (Below.refl _ _).alloc (Nat.le_refl _) _
  go_enter Try.func28, Try.ntmps28
  go_wp2_with fail
  go_loop [3, 4] (fun t i => ∃ k : Nat, k ≤ n ∧ i = .int .i64 k ∧ t = .int .i64 (countL (p.devs.take k))) (fun _ i => n - (intOf i).toNat)
  case atStart => exact ⟨0, by omega, rfl, rfl⟩
  case round =>
    obtain ⟨k, hk, rfl, rfl⟩ := hrel
    have hs0 := countL_nonneg (p.devs.take k)
    by_cases hlt : k < n
    · obtain ⟨b, off, rfl, hb, hc⟩ := devs_cells (hr.keep rdev_stable (fun _ h => h) (keep_below hB0 hS)) (by rw [hl.out]; omega)
      obtain ⟨c0, c1, c2, c3, A', c', c4, hc', hr'⟩ := hc k (by rw [hl.out]; omega)
      have HT := Lib.hid (countL_take p.devs k (by rw [hl.out]; omega))
      have hle := countL_take_le p.devs (k + 1)
      rw [HT.out] at hle
      have hbs := hS b hb
      have hs1 : countL (p.devs.take k) + ((nth dev0 p.devs k).maps.length : Int) ≤ 4611686018427387904 := Int.le_trans hle hc0
      clear hc hr' hle
      go_wp2
      go_round
      case rel => exact ⟨k + 1, by omega, by go_num, by rw [HT.out]⟩
      case measure => simp [intOf]; omega
    · have hfin : Hid (p.devs.take k = p.devs) := List.take_of_length_le (by rw [hl.out]; omega)
      go_wp2
      go_ret
      exact ⟨ret_int (by rw [hfin.out]; rfl), hB0⟩

end Go.Proofs.Ytjeeheeaickokaa

/- scantlingref18.Check returns poolChk, as pool.Check does. Condition: the numbers fit into Go's int, and no slice is longer than the reach. -/
namespace Go.Proofs.Ytjeeheeaickokaa
open Go.RowKit

theorem devB_parts {d : Dev} (h : devB d = true) : inB d.id 0 16777215 = true ∧ inB d.tx 0 2147483647 = true ∧ inB d.made 0 16777215 = true ∧ inB d.snapped 0 16777215 = true := by
  simp [devB, timesB] at h; exact ⟨h.1, h.2.1, h.2.2.1, h.2.2.2⟩
theorem devB_not {d : Dev} (h : devB d = false) : inB d.id 0 16777215 = false ∨ (inB d.id 0 16777215 = true ∧ inB d.tx 0 2147483647 = false) ∨ (inB d.id 0 16777215 = true ∧ inB d.tx 0 2147483647 = true ∧ inB d.made 0 16777215 = false) ∨ (inB d.id 0 16777215 = true ∧ inB d.tx 0 2147483647 = true ∧ inB d.made 0 16777215 = true ∧ inB d.snapped 0 16777215 = false) := by
  unfold devB timesB at h
  simp only [List.all_cons, List.all_nil, Bool.and_true] at h
  cases h1 : inB d.id 0 16777215 <;> cases h2 : inB d.tx 0 2147483647 <;> cases h3 : inB d.made 0 16777215 <;> cases h4 : inB d.snapped 0 16777215 <;> simp_all
theorem headB_parts {p : Pool} (h : headB p = true) : inB p.tx 0 2147483647 = true ∧ inB p.time 0 16777215 = true ∧ inB p.unit 1 65536 = true ∧ inB p.data 0 65536 = true := by
  simp [headB, timesB] at h; exact ⟨h.1.1, h.1.2, h.2.1, h.2.2⟩
theorem headB_not {p : Pool} (h : headB p = false) : inB p.tx 0 2147483647 = false ∨ (inB p.tx 0 2147483647 = true ∧ inB p.time 0 16777215 = false) ∨ (inB p.tx 0 2147483647 = true ∧ inB p.time 0 16777215 = true ∧ inB p.unit 1 65536 = false) ∨ (inB p.tx 0 2147483647 = true ∧ inB p.time 0 16777215 = true ∧ inB p.unit 1 65536 = true ∧ inB p.data 0 65536 = false) := by
  unfold headB timesB at h
  simp only [List.all_cons, List.all_nil, Bool.and_true] at h
  cases h1 : inB p.tx 0 2147483647 <;> cases h2 : inB p.time 0 16777215 <;> cases h3 : inB p.unit 1 65536 <;> cases h4 : inB p.data 0 65536 <;> simp_all
theorem mapB_not {data : Int} {m : Mp} (h : mapB data m = false) : inB m.v 0 281474976710655 = false ∨ (inB m.v 0 281474976710655 = true ∧ inB m.b 0 (data - 1) = false) ∨ (inB m.v 0 281474976710655 = true ∧ inB m.b 0 (data - 1) = true ∧ inB m.t 0 16777215 = false) := by
  unfold mapB at h
  cases h3 : inB m.v 0 281474976710655 <;> cases h4 : inB m.b 0 (data - 1) <;> cases h5 : inB m.t 0 16777215 <;> simp_all
theorem devChk_two {d : Dev} {last : Int} (h : devB d = false) : devChk d last = 2 := by unfold devChk; rw [if_pos h]
theorem devChk_eight {d : Dev} {last : Int} (h : devB d = true) (h2 : d.id ≤ last) : devChk d last = 8 := by unfold devChk; rw [if_neg (by simp [h]), if_pos h2]
theorem devChk_zero {d : Dev} {last : Int} (h : devB d = true) (h2 : last < d.id) : devChk d last = 0 := by unfold devChk; rw [if_neg (by simp [h]), if_neg (by omega)]

set_option maxRecDepth 100000 in
set_option maxHeartbeats 3200000 in
theorem rcheck_any (w : World) (S : Nat → Prop) (v : Value) (p : Pool) (hS : ∀ b, S b → b < w.heap.size) (h : IsPool w S v p) (hok : p.ok) :
    Calls Try.prog 15 #[v] w fun e w' => e = .returned (.int .i64 (poolChk p)) ∧ Below w.heap.size w w' := by
  have hp0 := h
  obtain ⟨A, c, rfl, hc, hr⟩ := h
  have hnl := hok.2.2.2.2.2
  have hkb := fun k (hk : k < p.devs.length) => (hok.dev hk).2.2.2.2.2
  generalize hl0 : p.devs.length = n at *
  have hl := Lib.hid hl0
  clear hl0
  have HKB := Lib.hid hkb
  clear hkb
  have hw0 : Below w.heap.size w (w.alloc (poolBox p A n c)) := (Below.refl _ _).alloc (Nat.le_refl _) _
  by_cases hh : headB p = true
  · obtain ⟨g1, g2, g3, g4⟩ := headB_parts hh
    have hda := inB_iff.1 g4
    have hd0 := hda.1
    have hd1 := hda.2
    clear hda
    have HH := Lib.hid hh
    clear hh
    by_cases hln : 4096 < n
    · have e : poolChk p = 2 := by
        unfold poolChk
        rw [if_neg (by rw [HH.out]; simp), if_pos (by simp only [sizeB, decide_eq_false_iff_not]; rw [hl.out]; omega)]
      rw [e]
      clear e
      go_enter Try.func15, Try.ntmps15
      go_wp2_with (go_at_call 27; refine (rin_any _ _ _ _).mono ?_; rintro e w' ⟨rfl, rfl⟩)
      go_ret
      exact ⟨rfl, hw0⟩
    · have hcs := count_small hok (by rw [hl.out]; omega)
      have hct := fun w2 (hB : Below w.heap.size w w2) => rcount_any w2 S (.agg #[.int .i64 p.tx, .int .i64 p.time, .int .i64 p.unit, .int .i64 p.data, .slice A n c]) p (fun b hb => Nat.lt_of_lt_of_le (hS b hb) hB.size)
        (hp0.below hB hS) (by rw [hl.out]; omega) hcs
      have HCT := Lib.hid hct
      have hcn : 0 ≤ p.count := countL_nonneg _
      clear hct hp0
      by_cases hcc : 16384 < p.count
      · have e : poolChk p = 2 := by
          unfold poolChk
          rw [if_neg (by rw [HH.out]; simp), if_pos (by simp only [sizeB, decide_eq_false_iff_not]; omega)]
        rw [e]
        clear e
        go_enter Try.func15, Try.ntmps15
        go_wp2_with (first
          | (go_at_call 27; refine (rin_any _ _ _ _).mono ?_; rintro e w' ⟨rfl, rfl⟩)
          | (go_at_call 28; refine (HCT.out _ hw0).mono ?_; rintro e w3 ⟨rfl, hB3⟩))
        go_ret
        exact ⟨rfl, hw0.trans (hB3.mono (by simp))⟩
      · have e : poolChk p = devsChk p.data (-1) p.devs := by
          unfold poolChk
          rw [if_neg (by rw [HH.out]; simp), if_neg (by simp only [sizeB, Bool.not_eq_false, decide_eq_true_eq]; rw [hl.out]; omega)]
        rw [e]
        clear e
        go_enter Try.func15, Try.ntmps15
        go_wp2_with (first
          | (go_at_call 27; refine (rin_any _ _ _ _).mono ?_; rintro e w' ⟨rfl, rfl⟩)
          | (go_at_call 28; refine (HCT.out _ hw0).mono ?_; rintro e w3 ⟨rfl, hB3⟩; have hb3 := hB3.mono (B' := w.heap.size + 1) (by simp)))
        go_loopw [3] (fun i wr => ∃ k : Nat, k ≤ n ∧ i = .int .i64 k ∧ Below (w.heap.size + 1) (w.alloc (poolBox p A n c)) wr ∧ DcAt p.data p.devs k) (fun i _ => n - (intOf i).toNat)
        case atStart => exact ⟨0, by omega, rfl, hb3, DcAt.zero _ _⟩
        case round =>
          clear hB3 hb3 HCT g1 g2 g3 g4
          obtain ⟨k, hk, rfl, hB, hA⟩ := hrel
          have HA := Lib.hid hA
          have hB0 := hw0.trans (hB.mono (by omega))
          have hq := fun o => hB.cell (p := ⟨w.heap.size, o, none⟩) (by simp)
          have hq3 : wr.cell? ⟨w.heap.size, 3, none⟩ = some (.int .i64 p.data) := (hq 3).trans (by simp [World.cell?_alloc_new])
          have hq4 : wr.cell? ⟨w.heap.size, 4, none⟩ = some (.slice A n c) := (hq 4).trans (by simp [World.cell?_alloc_new])
          have hws : w.heap.size < wr.heap.size := by have := hB.size; simp at this; omega
          clear hA hq
          by_cases hlt : k < n
          · obtain ⟨b, off, rfl, hb, hcl⟩ := devs_cells (hr.keep rdev_stable (fun _ h => h) (keep_below hB0 hS)) (by rw [hl.out]; omega)
            obtain ⟨c0, c1, c2, c3, A', c', c4, hc', hr'⟩ := hcl k (by rw [hl.out]; omega)
            have hlt' := hlt
            rw [← hl.out] at hlt'
            have HD := Lib.hid (fun hb => HA.out.dev hlt' hb)
            have HM := Lib.hid (fun h1 hb => HA.out.maps hlt' h1 hb)
            have HN := Lib.hid (fun h1 hb => HA.out.next hlt' h1 hb)
            have hkm := HKB.out k hlt
            have hbs : b < wr.heap.size := by have := hS b hb; have := hB0.size; omega
            have hS' : ∀ b, S b → b < wr.heap.size := fun b hb => by have := hS b hb; omega
            have hlast : (0 < k ∧ decide ((0 : Int) < (k : Int)) = true ∧ wr.cell? ⟨b, off + (k - 1) * 5, none⟩ = some (.int .i64 (lastId p.devs k))) ∨ (¬ 0 < k ∧ decide ((0 : Int) < (k : Int)) = false ∧ Hid (lastId p.devs k = -1)) := by
              by_cases h0 : 0 < k
              · refine .inl ⟨h0, by simp; omega, ?_⟩
                rw [lastId_pos _ h0]
                exact (hcl (k - 1) (by rw [hl.out]; omega)).1
              · refine .inr ⟨h0, by simp; omega, ?_⟩
                obtain rfl : k = 0 := by omega
                rfl
            clear hcl
            generalize lastId p.devs k = last at *
            generalize nth dev0 p.devs k = d at *
            have HB := hB.alloc (by simpa using hB.size) (.cells #[.int .i64 d.id, .int .i64 d.tx, .int .i64 d.made, .int .i64 d.snapped, .slice A' d.maps.length c'] 46)
            by_cases hdB : devB d = true
            · obtain ⟨i1, i2, i3, i4⟩ := devB_parts hdB
              have hid0 := (inB_iff.1 i1).1
              have HDB := Lib.hid hdB
              clear hdB
              by_cases hle : d.id ≤ last
              · rcases hlast with ⟨h0, hd, hlc⟩ | ⟨h0, hd, hl1⟩
                · go_wp2_with (go_at_call 27; refine (rin_any _ _ _ _).mono ?_; rintro e w' ⟨rfl, rfl⟩)
                  go_quiet (fail)
                  go_wp2_with fail
                  go_ret
                  have e8 := devChk_eight HDB.out hle
                  exact ⟨ret_int (by rw [HD.out (by rw [e8]; simp), e8]), hw0.trans (below_drewN (HB.mono (by omega)) _)⟩
                · have := hl1.out; omega
              · have hlt2 : last < d.id := by omega
                have HDZ := Lib.hid (devChk_zero HDB.out hlt2)
                obtain ⟨wo, rfl⟩ : ∃ wo : World, wo = wr := ⟨_, rfl⟩
                have hor : (0 < k ∧ decide ((0 : Int) < (k : Int)) = true ∧ wo.cell? ⟨b, off + (k - 1) * 5, none⟩ = some (.int .i64 last)) ∨ (¬ 0 < k ∧ decide ((0 : Int) < (k : Int)) = false) := by
                  rcases hlast with ⟨h0, hd, hlc⟩ | ⟨h0, hd, _⟩
                  · exact .inl ⟨h0, hd, hlc⟩
                  · exact .inr ⟨h0, hd⟩
                clear hlast
                rcases hor with ⟨h0, hd, hlc⟩ | ⟨h0, hd⟩
                all_goals
                  go_wp2_with (go_at_call 27; refine (rin_any _ _ _ _).mono ?_; rintro e w' ⟨rfl, rfl⟩)
                  go_quiet (fail)
                  go_wp2_with fail
                  clear i1 i2 i3 i4 HDB
                  go_loopw [5] (fun i wr => ∃ j : Nat, j ≤ d.maps.length ∧ i = .int .i64 j ∧ Below (wo.heap.size + 1) (wo.alloc (.cells #[.int .i64 d.id, .int .i64 d.tx, .int .i64 d.made, .int .i64 d.snapped, .slice A' d.maps.length c'] 46)) wr ∧ McAt p.data d.maps j) (fun i _ => d.maps.length - (intOf i).toNat)
                  case atStart => exact ⟨0, by omega, rfl, below_drewN (Below.refl _ _) _, McAt.zero _ _⟩
                  case round =>
                    obtain ⟨j, hj, rfl, hBi, hA2⟩ := hrel
                    have HA2 := Lib.hid hA2
                    have hqd : wr.cell? ⟨wo.heap.size, 4, none⟩ = some (.slice A' d.maps.length c') := (hBi.cell (p := ⟨wo.heap.size, 4, none⟩) (by simp)).trans (by simp [World.cell?_alloc_new])
                    have hqp : wr.cell? ⟨w.heap.size, 3, none⟩ = some (.int .i64 p.data) := (hBi.cell (p := ⟨w.heap.size, 3, none⟩) (by simp; omega)).trans ((World.cell?_alloc_past _ _ _ hws).trans hq3)
                    have hwz : wo.heap.size < wr.heap.size := by have := hBi.size; simp at this; omega
                    have hwr : w.heap.size < wr.heap.size := by omega
                    clear hA2
                    by_cases hjl : j < d.maps.length
                    · obtain ⟨mb, mo, rfl, hmb, hmc⟩ := maps_cells (hr'.keep rmp_stable (fun _ h => h) ((keep_alloc hS' _).trans (keep_below hBi (fun b hb => by have := hS' b hb; omega)))) (by omega)
                      obtain ⟨m0, m1, m2⟩ := hmc j hjl
                      have hmbs : mb < wr.heap.size := by have := hS' mb hmb; omega
                      have HR := Lib.hid (fun hb => HA2.out.range hjl hb)
                      have HO := Lib.hid (fun h1 hb => HA2.out.order hjl h1 hb)
                      have HX := Lib.hid (fun h1 hb => HA2.out.next hjl h1 hb)
                      have hmlast : (0 < j ∧ decide ((0 : Int) < (j : Int)) = true ∧ wr.cell? ⟨mb, mo + (j - 1) * 3, none⟩ = some (.int .i64 (lastV d.maps j))) ∨ (¬ 0 < j ∧ decide ((0 : Int) < (j : Int)) = false ∧ Hid (lastV d.maps j = -1)) := by
                        by_cases h0 : 0 < j
                        · refine .inl ⟨h0, by simp; omega, ?_⟩
                          rw [lastV_pos _ h0]
                          exact (hmc (j - 1) (by omega)).1
                        · refine .inr ⟨h0, by simp; omega, ?_⟩
                          obtain rfl : j = 0 := by omega
                          rfl
                      clear hmc
                      generalize lastV d.maps j = ml at *
                      generalize nth mp0 d.maps j = m at *
                      have HBi := hBi.alloc (by simpa using hBi.size) (.cells #[.int .i64 m.v, .int .i64 m.b, .int .i64 m.t] 49)
                      have hout := hw0.trans ((HB.trans (HBi.mono (by omega))).mono (by omega))
                      by_cases hmB : mapB p.data m = true
                      · have i1 : inB m.v 0 281474976710655 = true := by simp [mapB] at hmB; exact hmB.1
                        have i2 : inB m.b 0 (p.data - 1) = true := by simp [mapB] at hmB; exact hmB.2.1
                        have i3 : inB m.t 0 16777215 = true := by simp [mapB] at hmB; exact hmB.2.2
                        have hmv := (inB_iff.1 i1).1
                        have HMB := Lib.hid hmB
                        clear hmB
                        by_cases hmle : m.v ≤ ml
                        · rcases hmlast with ⟨g0, gd, glc⟩ | ⟨g0, gd, gl1⟩
                          · have e8 := HO.out HMB.out hmle
                            have E8 := Lib.hid e8
                            clear e8
                            go_wp2_with (go_at_call 27; refine (rin_any _ _ _ _).mono ?_; rintro e w' ⟨rfl, rfl⟩)
                            go_quiet (fail)
                            go_wp2_with fail
                            go_ret
                            exact ⟨ret_int (by rw [HM.out HDZ.out (by rw [E8.out]; simp), E8.out]), below_drewN hout _⟩
                          · have := gl1.out; omega
                        · have hmlt : ml < m.v := by omega
                          have hor2 : (0 < j ∧ decide ((0 : Int) < (j : Int)) = true ∧ wr.cell? ⟨mb, mo + (j - 1) * 3, none⟩ = some (.int .i64 ml)) ∨ (¬ 0 < j ∧ decide ((0 : Int) < (j : Int)) = false) := by
                            rcases hmlast with ⟨h0, hd, hlc⟩ | ⟨h0, hd, _⟩
                            · exact .inl ⟨h0, hd, hlc⟩
                            · exact .inr ⟨h0, hd⟩
                          clear hmlast
                          rcases hor2 with ⟨g0, gd, glc⟩ | ⟨g0, gd⟩
                          all_goals
                            go_wp2_with (go_at_call 27; refine (rin_any _ _ _ _).mono ?_; rintro e w' ⟨rfl, rfl⟩)
                            go_quiet (fail)
                            go_wp2_with fail
                            go_roundw
                            case rel => exact ⟨j + 1, by omega, by go_num, below_drewN HBi _, HX.out HMB.out hmlt⟩
                            case measure => simp [intOf]; omega
                      · have hmB' : mapB p.data m = false := by simpa using hmB
                        have hor2 := mapB_not hmB'
                        have E2 := Lib.hid (HR.out hmB')
                        clear hmB hmB' hmlast
                        rcases hor2 with i1 | ⟨i1, i2⟩ | ⟨i1, i2, i3⟩
                        all_goals
                          go_wp2_with (go_at_call 27; refine (rin_any _ _ _ _).mono ?_; rintro e w' ⟨rfl, rfl⟩)
                          go_ret
                          exact ⟨ret_int (by rw [HM.out HDZ.out (by rw [E2.out]; simp), E2.out]), hout⟩
                    · have E0 := Lib.hid (HA2.out.done (by omega))
                      go_wp2_with fail
                      go_roundw
                      case rel => exact ⟨k + 1, by omega, by go_num, HB.trans (hBi.mono (by omega)), HN.out HDZ.out E0.out⟩
                      case measure => simp [intOf]; omega
            · have hdB' : devB d = false := by simpa using hdB
              have HDB := Lib.hid (devChk_two (last := last) hdB')
              have hor := devB_not hdB'
              clear hdB hdB' hlast
              rcases hor with i1 | ⟨i1, i2⟩ | ⟨i1, i2, i3⟩ | ⟨i1, i2, i3, i4⟩
              all_goals
                go_wp2_with (go_at_call 27; refine (rin_any _ _ _ _).mono ?_; rintro e w' ⟨rfl, rfl⟩)
                go_ret
                exact ⟨ret_int (by rw [HD.out (by rw [HDB.out]; simp), HDB.out]), hw0.trans (HB.mono (by omega))⟩
          · go_wp2
            go_ret
            exact ⟨ret_int (HA.out.done (by rw [hl.out]; omega)).symm, hB0⟩
  · have hh' : headB p = false := by simpa using hh
    have e : poolChk p = 2 := by unfold poolChk; rw [if_pos hh']
    rw [e]
    have hor := headB_not hh'
    clear hh hh' e hp0
    rcases hor with h1 | ⟨h1, h2⟩ | ⟨h1, h2, h3⟩ | ⟨h1, h2, h3, h4⟩
    all_goals
      go_enter Try.func15, Try.ntmps15
      go_wp2_with (go_at_call 27; refine (rin_any _ _ _ _).mono ?_; rintro e w' ⟨rfl, rfl⟩)
      go_ret
      exact ⟨rfl, hw0⟩
end Go.Proofs.Ytjeeheeaickokaa

/- scantlingref18.Refs returns the counts of the data blocks, or nothing. Condition: the numbers fit into Go's int, and no slice is longer than the reach. -/
namespace Go.Proofs.Ytjeeheeaickokaa
open Go.RowKit

/-- The call's own row of counts. -/
def CntRow (w : World) (base g cap : Nat) (l : List Int) : Prop := w.ownsRow base 3 1 (.slice (some ⟨g, 0, none⟩) l.length cap) l.length (flats encI l)

set_option maxRecDepth 100000 in
set_option maxHeartbeats 3200000 in
theorem rrefs_any (w : World) (S : Nat → Prop) (v : Value) (p : Pool) (hS : ∀ b, S b → b < w.heap.size) (h : IsPool w S v p) (hok : p.ok) :
    Calls Try.prog 66 #[v] w fun e w' => ∃ v', e = .returned v' ∧ IsInts w' (Btw w.heap.size w'.heap.size) v' (refsRes p) ∧ Below w.heap.size w w' := by
  have hp0 := h
  obtain ⟨A, c, rfl, hc, hr⟩ := h
  have hck := fun w2 (hB : Below w.heap.size w w2) => rcheck_any w2 S _ p (fun b hb => Nat.lt_of_lt_of_le (hS b hb) hB.size) (hp0.below hB hS) hok
  have HCK := Lib.hid hck
  have hw1 : Below w.heap.size w (w.alloc (.cells #[.int .i64 p.tx, .int .i64 p.time, .int .i64 p.unit, .int .i64 p.data, .slice A p.devs.length c] 24)) := (Below.refl _ _).alloc (Nat.le_refl _) _
  by_cases hz : poolChk p = 0
  · have e : refsRes p = refsOf p := by unfold refsRes; rw [if_pos hz]
    rw [e]
    have hzb : (poolChk p != 0) = false := by simp [hz]
    obtain ⟨q1, q2, _⟩ := poolChk_parts hz
    have hdat : 0 ≤ p.data ∧ p.data ≤ 65536 := by simp [headB] at q1; exact inB_iff.1 q1.2.2
    have hnd : p.devs.length ≤ 4096 := by simp [sizeB] at q2; exact q2.1
    have hpb := pairs_b hz
    have hpf := pairs_few hz
    clear hz e q1 q2 hck
    obtain ⟨i0, hi, hz0, hz1, hz2⟩ := info_parts info_int
    obtain ⟨dn, hdn⟩ := Int.eq_ofNat_of_zero_le hdat.1
    have HDN := Lib.hid hdn
    have hdn2 : dn ≤ 65536 := by omega
    have hri : refsOf p = bumps (List.replicate dn 0) (pairs p.devs) := by unfold refsOf; rw [hdn, Int.toNat_natCast]
    have HRI := Lib.hid hri
    clear hri hdn
    have hmk : ∀ k, k < p.devs.length → (nth dev0 p.devs k).maps.length ≤ 140737488355328 := fun k hk => by have := (hok.dev hk).2.2.2.2.2; omega
    have HPB := Lib.hid hpb
    clear hpb
    go_enter Try.func66, Try.ntmps66
    go_wp2_with (first
      | (go_at_call 15; refine (HCK.out _ hw1).mono ?_; rintro e w2 ⟨rfl, hB2⟩; have hsz2 := hB2.size; have hB2' := hw1.trans (hB2.mono (by simp)); have hp2 := (PBox.new w p A p.devs.length c).below hB2 (by simp); obtain ⟨x0, x1, x2, x3, x4⟩ := hp2.cells; simp only [World.size_alloc] at hsz2)
      | (at_make; go_loud (refine wpList_make_full _ rfl _ _ 65 rfl (w.heap.size + 1) 3 i0 (.int .i64 0) 1 Try.underlying65 hi hz0 hz1 _ _ _ _ dn rfl rfl HDN.out HDN.out (by rw [hz2]; omega) (by unfold maxLen; omega) hsz2 ?_); intro w3 hown hg3; rw [madeInts] at hown))
    have hB3 : Below w2.heap.size w2 w3 := (Below.refl _ w2).grown hg3 (Nat.le_refl _) (fun k e => by cases e)
    have hlt0 : w.heap.size < w2.heap.size := by omega
    have hwz : w2.heap.size ≤ w3.heap.size := hB3.size
    clear hp0 x0 x1 x2 x3 x4
    generalize hl0 : p.devs.length = nd at *
    have hl := Lib.hid hl0
    have HMK := Lib.hid hmk
    clear hl0 hmk
    go_loopw [4] (fun i wr => ∃ k : Nat, k ≤ nd ∧ i = .int .i64 k ∧ Below w2.heap.size w2 wr ∧ wr.ownsRow (w.heap.size + 1) 3 1 (.slice (some ⟨w2.heap.size, 0, none⟩) dn dn) dn (flats encI (bumps (List.replicate dn 0) (upto p.devs k 0)))) (fun i _ => nd - (intOf i).toNat)
    case atStart => exact ⟨0, by omega, rfl, hB3, by rw [upto_zero]; exact hown⟩
    case round =>
      obtain ⟨k, hk, rfl, hBr, hrow⟩ := hrel
      obtain ⟨x0, x1, x2, x3, x4⟩ := (hp2.below hBr hlt0).cells
      by_cases hlt : k < nd
      · have hBw : Below w.heap.size w wr := hB2'.trans (hBr.mono (by omega))
        have hkl : k < p.devs.length := by rw [hl.out]; omega
        have hml := HMK.out k hlt
        have HNX := Lib.hid (upto_next hkl)
        have hmem : ∀ j, j < (nth dev0 p.devs k).maps.length → (k, nth mp0 (nth dev0 p.devs k).maps j) ∈ pairs p.devs := fun j hj => (upto_prefix (j := j + 1) hkl).subset (by rw [upto_succ hj]; simp)
        have hlen : ∀ j, j < (nth dev0 p.devs k).maps.length → (upto p.devs k j).length ≤ 16384 := fun j hj => by have := (upto_prefix (j := j) hkl).length_le; omega
        have HMEM := Lib.hid hmem
        have HLEN := Lib.hid hlen
        clear hmem hlen
        go_wp2_with fail
        go_loopw [5] (fun i w4 => ∃ j : Nat, j ≤ (nth dev0 p.devs k).maps.length ∧ i = .int .i64 j ∧ Below w2.heap.size w2 w4 ∧ w4.ownsRow (w.heap.size + 1) 3 1 (.slice (some ⟨w2.heap.size, 0, none⟩) dn dn) dn (flats encI (bumps (List.replicate dn 0) (upto p.devs k j)))) (fun i _ => (nth dev0 p.devs k).maps.length - (intOf i).toNat)
        case atStart => exact ⟨0, by omega, rfl, hBr, hrow⟩
        case round =>
          clear x0 x1 x2 x3 x4
          obtain ⟨j, hj, rfl, hB4, hrow4⟩ := hrel
          obtain ⟨x0, x1, x2, x3, x4⟩ := (hp2.below hB4 hlt0).cells
          have hB4w : Below w.heap.size w wr := hB2'.trans (hB4.mono (by omega))
          obtain ⟨b, off, rfl, hb, hcl⟩ := devs_cells (hr.keep rdev_stable (fun _ h => h) (keep_below hB4w hS)) (by rw [hl.out]; omega)
          obtain ⟨c0, c1, c2, c3, A', c', c4, hc', hr'⟩ := hcl k (by rw [hl.out]; omega)
          clear hcl
          by_cases hjl : j < (nth dev0 p.devs k).maps.length
          · obtain ⟨mb, mo, rfl, hmb, hmc⟩ := maps_cells hr' (by omega)
            obtain ⟨m0, m1, m2⟩ := hmc j hjl
            have hmm := HPB.out _ (HMEM.out j hjl)
            rw [HDN.out] at hmm
            have HU := Lib.hid (congrArg (bumps (List.replicate dn 0)) (upto_succ hjl))
            have hcb := counts_bound dn (upto p.devs k j) (nth mp0 (nth dev0 p.devs k).maps j).b.toNat
            have hle := HLEN.out j hjl
            have hbl : (bumps (List.replicate dn 0) (upto p.devs k j)).length = dn := by rw [bumps_length, List.length_replicate]
            clear hmc hr'
            simp only at hmm
            generalize nth mp0 (nth dev0 p.devs k).maps j = m at *
            rw [bumps_snoc] at HU
            simp only at HU
            obtain ⟨bn, hbn⟩ := Int.eq_ofNat_of_zero_le hmm.1
            rw [hbn] at m1 HU hcb hmm
            rw [Int.toNat_natCast] at hcb
            have hbd : bn < dn := by omega
            clear hmm hbn
            generalize hcu : bumps (List.replicate dn 0) (upto p.devs k j) = cu at *
            have HCU := Lib.hid hcu
            clear hcu
            have hst := hrow4.stored bn (.int .i64 (nth 0 cu bn + 1))
            have hset : (flats encI cu).set bn (.int .i64 (nth 0 cu bn + 1)) = flats encI (bump cu (bn : Int)) := by
              rw [flats_encI, flats_encI, bump, Int.toNat_natCast, List.map_set]
            rw [hset] at hst
            have hcell : wr.cell? ⟨w2.heap.size, bn, none⟩ = some (.int .i64 (nth 0 cu bn)) := by
              rw [hrow4.cellAt bn (by omega), flats_encI, nth_get 0 cu bn (by omega)]
              simp [hbl, hbd]
            have hfr := hrow4.frozenAt bn
            have HST := Lib.hid hst
            have hc0 := hcb.1
            have hc1 := hcb.2
            clear hst hset hrow4 hcb hbl
            generalize nth 0 cu bn = y at *
            go_wp2_with fail
            refine ⟨⟨j + 1, by omega, by go_num, hB4.setCell (Nat.le_refl _) _, by rw [HU.out]; exact HST.out.1⟩, by simp [intOf]; omega⟩
          · have hje : Hid (upto p.devs k j = upto p.devs (k + 1) 0) := by rw [show j = (nth dev0 p.devs k).maps.length from by omega]; exact HNX.out
            rw [hje.out] at hrow4
            go_wp2_with fail
            go_roundw
            case rel => exact ⟨k + 1, by omega, by go_num, hB4, hrow4⟩
            case measure => simp [intOf]; omega
      · have hfin : bumps (List.replicate dn 0) (upto p.devs k 0) = refsOf p := by rw [upto_zero, List.take_of_length_le (by rw [hl.out]; omega), HRI.out]
        rw [hfin] at hrow
        have HROW := Lib.hid hrow
        clear hrow hfin
        go_wp2_with fail
        go_ret
        have hBz := hBr.size
        refine ⟨_, rfl, ?_, hB2'.trans (hBr.mono (by omega))⟩
        exact (IsSl.own (enc := encI) (d := (0 : Int)) (l := refsOf p) encI_len HROW.out (by omega)).sub (flat_stable _) (fun b hb => ⟨by have := hb.1; omega, hb.2⟩)
  · have e : refsRes p = [] := by unfold refsRes; rw [if_neg hz]
    rw [e]
    have hzb : (poolChk p != 0) = true := by simp [hz]
    clear hz e hck
    go_enter Try.func66, Try.ntmps66
    go_wp2_with (go_at_call 15; refine (HCK.out _ hw1).mono ?_; rintro e w2 ⟨rfl, hB2⟩)
    go_ret
    exact ⟨_, rfl, IsSl.nil_, hw1.trans (hB2.mono (by simp))⟩
end Go.Proofs.Ytjeeheeaickokaa

/- The reference's first, create (scantlingref49). Condition: the pool may be, and lies in memory of the call's own. -/
namespace Go.Proofs.Ytjeeheeaickokaa
open Go.RowKit
attribute [local go_sem] Oper.semAt_some
set_option linter.unusedSimpArgs false
set_option linter.unusedVariables false

/-- The first data block that nothing has, or -1. -/
def firstI (l : List Int) : Int := if freeAt l = l.length then -1 else (freeAt l : Int)
theorem firstI_at {l : List Int} {k : Nat} (hk : k < l.length) (h : nth 0 l k = 0) (hlo : ∀ j, j < k → 0 < nth 0 l j) : firstI l = k := by
  have : k = freeAt l := posK_of (d := 0) (by omega) (fun j hj => by have := hlo j hj; omega) (fun _ => by rw [h]; omega)
  unfold firstI
  rw [if_neg (by omega)]
  omega
theorem firstI_no {l : List Int} (hlo : ∀ j, j < l.length → 0 < nth 0 l j) : firstI l = -1 := by
  have : l.length = freeAt l := posK_of (d := 0) (Nat.le_refl _) (fun j hj => by have := hlo j hj; omega) (fun h => by omega)
  unfold firstI
  rw [if_pos this.symm]
set_option maxHeartbeats 1600000 in
theorem rfirst_any (w : World) (S : Nat → Prop) (v : Value) (p : Pool) (hS : ∀ b, S b → b < w.heap.size) (h : IsPool w S v p) (hok : p.ok) (hc : poolChk p = 0) :
    Calls Try.prog 67 #[v] w fun e w' => e = .returned (.int .i64 (firstI (refsRes p))) ∧ Below w.heap.size w w' := by
  have hp0 := h
  obtain ⟨A, c, rfl, _, _⟩ := h
  have hw1 : Below w.heap.size w (w.alloc (poolBox p A p.devs.length c)) := (Below.refl _ _).alloc (Nat.le_refl _) _
  have HRF := Lib.hid (rrefs_any (w.alloc (poolBox p A p.devs.length c)) S _ p (fun b hb => Nat.lt_of_lt_of_le (hS b hb) hw1.size) (hp0.below hw1 hS) hok)
  have HNN := Lib.hid (fun j => (refs_nn p j).1)
  have HAT := Lib.hid (fun k => firstI_at (l := refsRes p) (k := k))
  have HNO := Lib.hid (firstI_no (l := refsRes p))
  have hdl : (refsRes p).length ≤ 65536 := by rw [refs_leng hc]; have := (pool_head hc).2.2.2; omega
  dsimp only [poolBox] at hw1 HRF
  clear hp0 hok hc
  generalize firstI (refsRes p) = r at *
  generalize hl0 : (refsRes p) = l at *
  clear hl0
  go_enter Try.func67, Try.ntmps67
  go_wp2_with (go_at_call 66; refine HRF.out.mono ?_; rintro e w2 ⟨v2, rfl, hI, hB2⟩; have hk2 := hw1.trans (hB2.mono hw1.size); obtain ⟨A2, c2, rfl, _, hr2⟩ := hI; generalize hn0 : l.length = n at *; have hn := Lib.hid hn0; clear hn0)
  go_loop [4] (fun i => ∃ k : Nat, k ≤ n ∧ i = .int .i64 k ∧ Hid (∀ j, j < k → 0 < nth 0 l j)) (fun i => n - (intOf i).toNat)
  case atStart => exact ⟨0, by omega, rfl, Lib.hid fun j hj => absurd hj (by omega)⟩
  case round =>
    obtain ⟨k, hk, rfl, HA⟩ := hrel
    by_cases hlt : k < n
    · obtain ⟨b, off, rfl, hb, hc⟩ := ints_cells hr2 (by rw [hn.out]; omega)
      have c0 := hc k (by rw [hn.out]; omega)
      have hnn := HNN.out k
      clear hc
      by_cases h0 : nth 0 l k = 0
      · have hbb : (nth 0 l k == 0) = true := by simp [h0]
        have HR := Lib.hid (HAT.out k hlt h0 HA.out)
        clear HA h0
        generalize nth 0 l k = y at *
        go_wp2_with fail
        go_ret
        exact ⟨by rw [HR.out]; rfl, hk2⟩
      · have hbb : (nth 0 l k == 0) = false := by simp [h0]
        have HA2 := Lib.hid (show ∀ j, j < k + 1 → 0 < nth 0 l j from fun j hj => by
          by_cases e : j = k
          · rw [e]; omega
          · exact HA.out j (by omega))
        clear HA h0
        generalize nth 0 l k = y at *
        go_wp2_with fail
        go_round
        case rel => exact ⟨k + 1, by omega, by go_num, HA2⟩
        case measure => simp [intOf]; omega
    · have HR := Lib.hid (HNO.out (fun j hj => HA.out j (by omega)))
      clear HA
      go_wp2_with fail
      go_ret
      exact ⟨by rw [HR.out]; rfl, hk2⟩
/-- The blocks that a pool of the caller's own lies in. -/
def Own1 (v : Value) (n : Nat) (M : Nat → Value) (x : Nat) : Prop := v.ownBlock = some x ∨ ∃ j, j < n ∧ (M j).ownBlock = some x
/-- What an op of the reference leaves: a pool of the caller's own, and an error. -/
def DoR (w : World) (base : Nat) (v : Value) (n : Nat) (M : Nat → Value) (r : Int × Pool) (e : Ending) (w' : World) : Prop :=
  ∃ A c M' q, e = .returned (.tuple #[.agg #[.int .i64 q.tx, .int .i64 q.time, .int .i64 q.unit, .int .i64 q.data, .slice A q.devs.length c], .int .i64 r.1]) ∧ OwnDevs w' base (.slice A q.devs.length c) q.devs M' ∧ (r.1 = 0 → q = r.2) ∧ Touch (Own1 v n M) w w' ∧
    ∀ x, Own1 (.slice A q.devs.length c) q.devs.length M' x → Own1 v n M x ∨ w.heap.size ≤ x
theorem own1_lt {w : World} {base n : Nat} {v : Value} {l : List Dev} {M : Nat → Value} (h : OwnDevs w base v l M) (hn : l.length = n) : ∀ x, Own1 v n M x → base ≤ x ∧ x < w.heap.size := by
  subst hn
  rintro x (hx | ⟨j, hj, hx⟩)
  · exact h.lt.1 x hx
  · exact h.lt.2 j hj x hx
theorem far_own1 {v : Value} {l : List Dev} {M : Nat → Value} {x n : Nat} (hn : l.length = n) (h : ¬ Own1 v n M x) : Far v l M x := by
  subst hn
  exact ⟨fun e => h (.inl e), fun j hj e => h (.inr ⟨j, hj, e⟩)⟩
theorem kept5 {w : World} {base b : Nat} {v : Value} {l : List Dev} {M : Nat → Value} (h : OwnDevs w base v l M) (hf : Far v l M b) (u0 u1 u2 u3 u4 : Value) : OwnDevs (((((w.setCell ⟨b, 0, none⟩ u0).setCell ⟨b, 1, none⟩ u1).setCell ⟨b, 2, none⟩ u2).setCell ⟨b, 3, none⟩ u3).setCell ⟨b, 4, none⟩ u4) base v l M := by
  have k : ∀ {W : World} (i : Nat) (u : Value), OwnDevs W base v l M → OwnDevs (W.setCell ⟨b, i, none⟩ u) base v l M := fun i u hh => hh.kept (grownBy_set _ ⟨b, i, none⟩ u) hf
  exact k 4 u4 (k 3 u3 (k 2 u2 (k 1 u1 (k 0 u0 h))))
theorem touch_set {R : Nat → Prop} {w W : World} {b : Nat} (h : Touch R w W) (hb : w.heap.size ≤ b) (i : Nat) (u : Value) : Touch R w (W.setCell ⟨b, i, none⟩ u) :=
  ⟨h.1, h.2.1, h.2.2.1, by rw [World.size_setCell]; exact h.size, fun x hx hr => (Below.heap_setCell W ⟨b, i, none⟩ u x (by simp only [ne_eq]; omega)).trans (h.block hx hr)⟩
theorem touch5 {R : Nat → Prop} {w W : World} {b : Nat} (h : Touch R w W) (hb : w.heap.size ≤ b) (u0 u1 u2 u3 u4 : Value) : Touch R w (((((W.setCell ⟨b, 0, none⟩ u0).setCell ⟨b, 1, none⟩ u1).setCell ⟨b, 2, none⟩ u2).setCell ⟨b, 3, none⟩ u3).setCell ⟨b, 4, none⟩ u4) :=
  touch_set (touch_set (touch_set (touch_set (touch_set h hb 0 u0) hb 1 u1) hb 2 u2) hb 3 u3) hb 4 u4
theorem do_ret {w W : World} {base n m rb c : Nat} {v : Value} {M Mq : Nat → Value} {r : Int × Pool} {q : Pool} {A : Option Addr} (hown : OwnDevs W base (.slice A m c) q.devs Mq) (hm : q.devs.length = m) (ht : Touch (Own1 v n M) w W) (hrb : w.heap.size ≤ rb) (hne : ¬ Own1 (.slice A m c) m Mq rb) (hq : r.1 = 0 → q = r.2)
    (hfr : ∀ x, Own1 (.slice A m c) m Mq x → Own1 v n M x ∨ w.heap.size ≤ x) {cd : Int} (hcd : cd = r.1) (u0 u1 u2 u3 u4 : Value) :
    DoR w base v n M r (.returned (.tuple #[.agg #[.int .i64 q.tx, .int .i64 q.time, .int .i64 q.unit, .int .i64 q.data, .slice A m c], .int .i64 cd])) (((((W.setCell ⟨rb, 0, none⟩ u0).setCell ⟨rb, 1, none⟩ u1).setCell ⟨rb, 2, none⟩ u2).setCell ⟨rb, 3, none⟩ u3).setCell ⟨rb, 4, none⟩ u4) := by
  subst hm hcd
  exact ⟨A, c, Mq, q, rfl, kept5 hown (far_own1 rfl hne) _ _ _ _ _, hq, touch5 ht hrb _ _ _ _ _, hfr⟩
/-- The box of an op. -/
abbrev op9Box (o : Mop) : Obj := .cells #[.int .i64 o.kind, .int .i64 o.dev, .int .i64 o.arg, .int .i64 o.n] 31
def OBox (w : World) (b : Nat) (o : Mop) : Prop := w.heap[b]? = some (.cells #[.int .i64 o.kind, .int .i64 o.dev, .int .i64 o.arg, .int .i64 o.n] 31 (0, 0))
theorem OBox.cells {w : World} {b : Nat} {o : Mop} (h : OBox w b o) : w.cell? ⟨b, 0, none⟩ = some (.int .i64 o.kind) ∧ w.cell? ⟨b, 1, none⟩ = some (.int .i64 o.dev) ∧ w.cell? ⟨b, 2, none⟩ = some (.int .i64 o.arg) ∧ w.cell? ⟨b, 3, none⟩ = some (.int .i64 o.n) := by
  unfold OBox at h
  simp [World.cell?, h]
/-- The three boxes that an op's function makes at its head. -/
def Three (w W : World) (p : Pool) (A : Option Addr) (n c : Nat) (o : Mop) : Prop :=
  Below w.heap.size w W ∧ PBox W w.heap.size p A n c ∧ OBox W (w.heap.size + 1) o ∧ RBox W (w.heap.size + 1 + 1) (.int .i64 0) (.int .i64 0) (.int .i64 0) (.int .i64 0) (.slice none 0 0) ∧ w.heap.size + 3 ≤ W.heap.size
theorem three_new (w : World) (p : Pool) (A : Option Addr) (n c : Nat) (o : Mop) : Three w (((w.alloc (poolBox p A n c)).alloc (op9Box o)).alloc zeroBox) p A n c o := by
  have h1 := PBox.new w p A n c
  have h2 : OBox ((w.alloc (poolBox p A n c)).alloc (op9Box o)) (w.heap.size + 1) o := by
    have := heap_alloc_new (w.alloc (poolBox p A n c)) (op9Box o)
    simp only [World.size_alloc] at this
    exact this
  have h3 : RBox (((w.alloc (poolBox p A n c)).alloc (op9Box o)).alloc zeroBox) (w.heap.size + 1 + 1) (.int .i64 0) (.int .i64 0) (.int .i64 0) (.int .i64 0) (.slice none 0 0) := by
    have := heap_alloc_new ((w.alloc (poolBox p A n c)).alloc (op9Box o)) zeroBox
    simp only [World.size_alloc] at this
    exact this
  exact ⟨(((Below.refl _ _).alloc (Nat.le_refl _) _).alloc (by simp) _).alloc (by simp; omega) _, (box_up (box_up h1 ((Below.refl _ _).alloc (Nat.le_refl _) _)) ((Below.refl _ _).alloc (Nat.le_refl _) _)), box_up h2 ((Below.refl _ _).alloc (Nat.le_refl _) _), h3, by simp⟩
theorem Three.below {w W W' : World} {p : Pool} {A : Option Addr} {n c : Nat} {o : Mop} (h : Three w W p A n c o) (hB : Below W.heap.size W W') : Three w W' p A n c o :=
  ⟨h.1.trans (hB.mono h.1.size), box_up h.2.1 hB, box_up h.2.2.1 hB, box_up h.2.2.2.1 hB, Nat.le_trans h.2.2.2.2 hB.size⟩
theorem Touch.three {w W : World} {p : Pool} {A : Option Addr} {n c : Nat} {o : Mop} {R : Nat → Prop} (h : Three w W p A n c o) : Touch R w W := Touch.of_below h.1
end Go.Proofs.Ytjeeheeaickokaa

/- The reference's create (scantlingref49). Condition: the pool may be, and lies in memory of the call's own. -/
namespace Go.Proofs.Ytjeeheeaickokaa

open Go.RowKit
attribute [local go_sem] Oper.semAt_some
set_option linter.unusedSimpArgs false
set_option linter.unusedVariables false

theorem op_ahead {w w3 : World} {base c : Nat} {p : Pool} {A : Option Addr} {M : Nat → Value} {o : Mop} (h3 : OwnDevs w base (.slice A p.devs.length c) p.devs M) (T : Three w w3 p A p.devs.length c o) :
    ∀ w', Below w3.heap.size w3 w' → Three w w' p A p.devs.length c o ∧ OwnDevs w' base (.slice A p.devs.length c) p.devs M ∧ IsPool w' (Lt w.heap.size) (.agg #[.int .i64 p.tx, .int .i64 p.time, .int .i64 p.unit, .int .i64 p.data, .slice A p.devs.length c]) p ∧ w.heap.size + 3 ≤ w'.heap.size := by
  intro w' hB
  have hT := T.below hB
  have h := h3.keep hT.1 (Nat.le_refl _)
  refine ⟨hT, h, ?_, hT.2.2.2.2⟩
  exact pool_keep (OwnP.isp h3) (fun b hb => hb.2) (keep_below hT.1 (fun b hb => hb.2))
/-- The end where nothing was done. -/
theorem do_stop {w W : World} {base n c : Nat} {p : Pool} {A : Option Addr} {M : Nat → Value} {o : Mop} {r : Int × Pool} (hn : p.devs.length = n) (hT : Three w W p A n c o) (hown : OwnDevs W base (.slice A n c) p.devs M) (h0 : OwnDevs w base (.slice A n c) p.devs M) {cd : Int} (hcd : cd = r.1) (hr : r.1 ≠ 0) (u0 u1 u2 u3 u4 : Value) :
    DoR w base (.slice A n c) n M r (.returned (.tuple #[.agg #[.int .i64 p.tx, .int .i64 p.time, .int .i64 p.unit, .int .i64 p.data, .slice A n c], .int .i64 cd])) (((((W.setCell ⟨w.heap.size + 1 + 1, 0, none⟩ u0).setCell ⟨w.heap.size + 1 + 1, 1, none⟩ u1).setCell ⟨w.heap.size + 1 + 1, 2, none⟩ u2).setCell ⟨w.heap.size + 1 + 1, 3, none⟩ u3).setCell ⟨w.heap.size + 1 + 1, 4, none⟩ u4) :=
  do_ret hown hn (Touch.three hT) (by omega) (fun h => by have := own1_lt h0 hn _ h; omega) (fun h => absurd h hr) (fun x hx => .inl hx) hcd _ _ _ _ _
set_option maxRecDepth 100000 in
set_option maxHeartbeats 1600000 in
theorem rcreate_far (w : World) (base c : Nat) (p : Pool) (A : Option Addr) (M : Nat → Value) (o : Mop) (h3 : OwnDevs w base (.slice A p.devs.length c) p.devs M) (hpc : poolChk p = 0) (r : Int × Pool) (hf : freshE p o.dev ≠ 0) (hr : r.1 = freshE p o.dev) :
    Calls Try.prog 36 #[.agg #[.int .i64 p.tx, .int .i64 p.time, .int .i64 p.unit, .int .i64 p.data, .slice A p.devs.length c], mopV o] w (DoR w base (.slice A p.devs.length c) p.devs.length M r) := by
  have T := three_new w p A p.devs.length c o
  dsimp only [poolBox, op9Box, zeroBox] at T
  have HAH := Lib.hid (op_ahead h3 T)
  have hln := pool_len hpc
  have HPL := Lib.hid (fun w' (hz : w.heap.size ≤ w'.heap.size) (h : IsPool w' (Lt w.heap.size) (.agg #[.int .i64 p.tx, .int .i64 p.time, .int .i64 p.unit, .int .i64 p.data, .slice A p.devs.length c]) p) => rplace_any w' (Lt w.heap.size) _ p o.dev (fun b (hb : b < w.heap.size) => Nat.lt_of_lt_of_le hb hz) h (incK_devs hpc) (by omega))
  have H3 := Lib.hid h3
  have hcs : (o.dev < 0 ∧ freshE p o.dev = 2) ∨ (¬ o.dev < 0 ∧ 16777215 < o.dev ∧ freshE p o.dev = 2) ∨ (¬ o.dev < 0 ∧ ¬ 16777215 < o.dev ∧ 0 ≤ placeI p o.dev ∧ freshE p o.dev = 17) := by
    unfold freshE at hf ⊢
    by_cases h1 : o.dev < 0
    · exact .inl ⟨h1, by rw [if_pos (.inl h1)]⟩
    · by_cases h2 : 16777215 < o.dev
      · exact .inr (.inl ⟨h1, h2, by rw [if_pos (.inr h2)]⟩)
      · rw [if_neg (by omega)] at hf
        by_cases h3 : dhas p o.dev = true
        · exact .inr (.inr ⟨h1, h2, by unfold placeI; rw [if_pos h3]; omega, by rw [if_neg (by omega), if_pos h3]⟩)
        · rw [if_neg h3] at hf; exact absurd rfl hf
  have HR := Lib.hid hr
  have HF := Lib.hid hf
  clear hr hf h3 hpc
  generalize hfe : freshE p o.dev = fe at *
  clear hfe
  generalize placeI p o.dev = pl at *
  generalize hl0 : p.devs.length = n at *
  have hl := Lib.hid hl0
  clear hl0
  rcases hcs with ⟨d1, d2⟩ | ⟨d1, d2, d3⟩ | ⟨d1, d2, d3, d4⟩
  · have HR2 := Lib.hid (And.intro (show (2 : Int) = r.1 by rw [HR.out, d2]) (show r.1 ≠ 0 by rw [HR.out]; exact HF.out))
    clear HF HR d2
    go_enter Try.func36, Try.ntmps36
    go_upto_region 1 with fail
    generalize ((w.alloc (.cells #[.int .i64 p.tx, .int .i64 p.time, .int .i64 p.unit, .int .i64 p.data, .slice A n c] 24)).alloc (.cells #[.int .i64 o.kind, .int .i64 o.dev, .int .i64 o.arg, .int .i64 o.n] 31)).alloc (.cells #[.int .i64 0, .int .i64 0, .int .i64 0, .int .i64 0, .slice none 0 0] 24) = w3 at *
    have hk3 := Below.refl w3.heap.size w3
    obtain ⟨x0, x1, x2, x3, x4⟩ := (HAH.out w3 hk3).1.2.1.cells
    obtain ⟨y0, y1, y2, y3⟩ := (HAH.out w3 hk3).1.2.2.1.cells
    obtain ⟨z0, z1, z2, z3, z4⟩ := (HAH.out w3 hk3).1.2.2.2.1.cells
    have f0 := (HAH.out w3 hk3).1.2.2.2.1.free 0
    have f1 := (HAH.out w3 hk3).1.2.2.2.1.free 1
    have f2 := (HAH.out w3 hk3).1.2.2.2.1.free 2
    have f3 := (HAH.out w3 hk3).1.2.2.2.1.free 3
    have f4 := (HAH.out w3 hk3).1.2.2.2.1.free 4
    go_wp2_with fail
    obtain ⟨q0, q1, q2, q3, q4⟩ := cells5 (set5 (HAH.out w3 hk3).1.2.2.2.1 (.int .i64 p.tx) (.int .i64 p.time) (.int .i64 p.unit) (.int .i64 p.data) (.slice A n c))
    refine bodyPost_ret (v := .tuple #[.agg #[.int .i64 p.tx, .int .i64 p.time, .int .i64 p.unit, .int .i64 p.data, .slice A n c], .int .i64 2]) (by simp [results, Try.results36, go_sem, q0, q1, q2, q3, q4]) rfl ?_
    exact do_stop hl.out (HAH.out w3 hk3).1 (HAH.out w3 hk3).2.1 H3.out HR2.out.1 HR2.out.2 _ _ _ _ _
  · have HR2 := Lib.hid (And.intro (show (2 : Int) = r.1 by rw [HR.out, d3]) (show r.1 ≠ 0 by rw [HR.out]; exact HF.out))
    clear HF HR d3
    go_enter Try.func36, Try.ntmps36
    go_upto_region 1 with fail
    generalize ((w.alloc (.cells #[.int .i64 p.tx, .int .i64 p.time, .int .i64 p.unit, .int .i64 p.data, .slice A n c] 24)).alloc (.cells #[.int .i64 o.kind, .int .i64 o.dev, .int .i64 o.arg, .int .i64 o.n] 31)).alloc (.cells #[.int .i64 0, .int .i64 0, .int .i64 0, .int .i64 0, .slice none 0 0] 24) = w3 at *
    have hk3 := Below.refl w3.heap.size w3
    obtain ⟨x0, x1, x2, x3, x4⟩ := (HAH.out w3 hk3).1.2.1.cells
    obtain ⟨y0, y1, y2, y3⟩ := (HAH.out w3 hk3).1.2.2.1.cells
    obtain ⟨z0, z1, z2, z3, z4⟩ := (HAH.out w3 hk3).1.2.2.2.1.cells
    have f0 := (HAH.out w3 hk3).1.2.2.2.1.free 0
    have f1 := (HAH.out w3 hk3).1.2.2.2.1.free 1
    have f2 := (HAH.out w3 hk3).1.2.2.2.1.free 2
    have f3 := (HAH.out w3 hk3).1.2.2.2.1.free 3
    have f4 := (HAH.out w3 hk3).1.2.2.2.1.free 4
    go_wp2_with fail
    obtain ⟨q0, q1, q2, q3, q4⟩ := cells5 (set5 (HAH.out w3 hk3).1.2.2.2.1 (.int .i64 p.tx) (.int .i64 p.time) (.int .i64 p.unit) (.int .i64 p.data) (.slice A n c))
    refine bodyPost_ret (v := .tuple #[.agg #[.int .i64 p.tx, .int .i64 p.time, .int .i64 p.unit, .int .i64 p.data, .slice A n c], .int .i64 2]) (by simp [results, Try.results36, go_sem, q0, q1, q2, q3, q4]) rfl ?_
    exact do_stop hl.out (HAH.out w3 hk3).1 (HAH.out w3 hk3).2.1 H3.out HR2.out.1 HR2.out.2 _ _ _ _ _
  · have HR2 := Lib.hid (And.intro (show (17 : Int) = r.1 by rw [HR.out, d4]) (show r.1 ≠ 0 by rw [HR.out]; exact HF.out))
    clear HF HR d4
    go_enter Try.func36, Try.ntmps36
    go_upto_region 1 with fail
    generalize ((w.alloc (.cells #[.int .i64 p.tx, .int .i64 p.time, .int .i64 p.unit, .int .i64 p.data, .slice A n c] 24)).alloc (.cells #[.int .i64 o.kind, .int .i64 o.dev, .int .i64 o.arg, .int .i64 o.n] 31)).alloc (.cells #[.int .i64 0, .int .i64 0, .int .i64 0, .int .i64 0, .slice none 0 0] 24) = w3 at *
    have hk3 := Below.refl w3.heap.size w3
    obtain ⟨x0, x1, x2, x3, x4⟩ := (HAH.out w3 hk3).1.2.1.cells
    obtain ⟨y0, y1, y2, y3⟩ := (HAH.out w3 hk3).1.2.2.1.cells
    obtain ⟨z0, z1, z2, z3, z4⟩ := (HAH.out w3 hk3).1.2.2.2.1.cells
    have f0 := (HAH.out w3 hk3).1.2.2.2.1.free 0
    have f1 := (HAH.out w3 hk3).1.2.2.2.1.free 1
    have f2 := (HAH.out w3 hk3).1.2.2.2.1.free 2
    have f3 := (HAH.out w3 hk3).1.2.2.2.1.free 3
    have f4 := (HAH.out w3 hk3).1.2.2.2.1.free 4
    go_wp2_with (go_at_call 37; (have hx := HPL.out w3 (HAH.out w3 hk3).1.1.size (HAH.out w3 hk3).2.2.1; with_reducible refine hx.mono ?_; clear hx); rintro e w4 ⟨rfl, hk4⟩; clear x0 x1 x2 x3 x4 y0 y1 y2 y3 z0 z1 z2 z3 z4 f0 f1 f2 f3 f4; obtain ⟨x0, x1, x2, x3, x4⟩ := (HAH.out w4 hk4).1.2.1.cells; obtain ⟨z0, z1, z2, z3, z4⟩ := (HAH.out w4 hk4).1.2.2.2.1.cells; have f0 := (HAH.out w4 hk4).1.2.2.2.1.free 0; have f1 := (HAH.out w4 hk4).1.2.2.2.1.free 1; have f2 := (HAH.out w4 hk4).1.2.2.2.1.free 2; have f3 := (HAH.out w4 hk4).1.2.2.2.1.free 3; have f4 := (HAH.out w4 hk4).1.2.2.2.1.free 4)
    obtain ⟨q0, q1, q2, q3, q4⟩ := cells5 (set5 (HAH.out w4 hk4).1.2.2.2.1 (.int .i64 p.tx) (.int .i64 p.time) (.int .i64 p.unit) (.int .i64 p.data) (.slice A n c))
    refine bodyPost_ret (v := .tuple #[.agg #[.int .i64 p.tx, .int .i64 p.time, .int .i64 p.unit, .int .i64 p.data, .slice A n c], .int .i64 17]) (by simp [results, Try.results36, go_sem, q0, q1, q2, q3, q4]) rfl ?_
    exact do_stop hl.out (HAH.out w4 hk4).1 (HAH.out w4 hk4).2.1 H3.out HR2.out.1 HR2.out.2 _ _ _ _ _
/-- The end behind 'with'. -/
theorem do_with {w w4 W : World} {base n c c5 : Nat} {p q : Pool} {A A5 : Option Addr} {M M5 : Nat → Value} {o : Mop} (hT : Three w w4 p A n c o) (hown : OwnDevs W base (.slice A5 q.devs.length c5) q.devs M5) (h0 : OwnDevs w base (.slice A n c) p.devs M) (hn : p.devs.length = n) (ht : Touch (Own1 (.slice A n c) n M) w W)
    (hv5 : ∀ x, (Value.slice A5 q.devs.length c5).ownBlock = some x → w4.heap.size ≤ x) (hM5 : ∀ j x, (M5 j).ownBlock = some x → (∃ k, k < n ∧ (M k).ownBlock = some x) ∨ w4.heap.size ≤ x) (u0 u1 u2 u3 u4 : Value) :
    DoR w base (.slice A n c) n M (0, q) (.returned (.tuple #[.agg #[.int .i64 q.tx, .int .i64 q.time, .int .i64 q.unit, .int .i64 q.data, .slice A5 q.devs.length c5], .int .i64 0])) (((((W.setCell ⟨w.heap.size + 1 + 1, 0, none⟩ u0).setCell ⟨w.heap.size + 1 + 1, 1, none⟩ u1).setCell ⟨w.heap.size + 1 + 1, 2, none⟩ u2).setCell ⟨w.heap.size + 1 + 1, 3, none⟩ u3).setCell ⟨w.heap.size + 1 + 1, 4, none⟩ u4) := by
  have hz := hT.2.2.2.2
  have hlt := own1_lt h0 hn
  refine do_ret hown rfl ht (by omega) (fun h => ?_) (fun _ => rfl) (fun x hx => ?_) rfl _ _ _ _ _
  · rcases h with h | ⟨j, _, h⟩
    · have := hv5 _ h; omega
    · rcases hM5 j _ h with ⟨k, hk, h⟩ | h
      · have := hlt _ (.inr ⟨k, hk, h⟩); omega
      · omega
  · rcases hx with h | ⟨j, _, h⟩
    · have := hv5 _ h; exact .inr (by omega)
    · rcases hM5 j _ h with h | h
      · exact .inl (.inr h)
      · exact .inr (by omega)
/-- A device is made. -/
theorem fresh_no {p : Pool} {id : Int} (h : freshE p id = 0) : 0 ≤ id ∧ id ≤ 16777215 ∧ dhas p id = false ∧ placeI p id = -1 := by
  unfold freshE at h
  split at h
  · omega
  · split at h
    · omega
    · rename_i h1 h2
      exact ⟨by omega, by omega, by simpa using h2, by unfold placeI; rw [if_neg h2]⟩
set_option maxRecDepth 100000 in
set_option maxHeartbeats 1600000 in
theorem rcreate_one (w : World) (base c : Nat) (p : Pool) (A : Option Addr) (M : Nat → Value) (o : Mop) (h3 : OwnDevs w base (.slice A p.devs.length c) p.devs M) (hb : base ≤ w.heap.size) (hpc : poolChk p = 0) (hf : freshE p o.dev = 0) (hk : o.kind = 1) :
    Calls Try.prog 36 #[.agg #[.int .i64 p.tx, .int .i64 p.time, .int .i64 p.unit, .int .i64 p.data, .slice A p.devs.length c], mopV o] w (DoR w base (.slice A p.devs.length c) p.devs.length M (createF p o)) := by
  have T := three_new w p A p.devs.length c o
  dsimp only [poolBox, op9Box, zeroBox] at T
  have HAH := Lib.hid (op_ahead h3 T)
  have hln := pool_len hpc
  obtain ⟨d1, d2, d3, d4⟩ := fresh_no hf
  have HPL := Lib.hid (fun w' (hz : w.heap.size ≤ w'.heap.size) (h : IsPool w' (Lt w.heap.size) (.agg #[.int .i64 p.tx, .int .i64 p.time, .int .i64 p.unit, .int .i64 p.data, .slice A p.devs.length c]) p) => rplace_any w' (Lt w.heap.size) _ p o.dev (fun b (hb : b < w.heap.size) => Nat.lt_of_lt_of_le hb hz) h (incK_devs hpc) (by omega))
  rw [d4] at HPL
  have HWI := Lib.hid (fun w' (hz : w.heap.size ≤ w'.heap.size) (h : OwnDevs w' base (.slice A p.devs.length c) p.devs M) => with_any w' base c 0 p A none M (fun _ => False) o.dev [] (fun _ h => h.elim) h (by omega) IsSl.nil_ (by omega) (by simp) (incK_devs hpc) d3)
  have H3 := Lib.hid h3
  have hcr : createF p o = if 4096 ≤ p.devs.length then (2, p) else (0, addF p o.dev []) := by unfold createF; rw [if_neg (by rw [hf]; simp)]
  rw [hcr]
  have hkb : (o.kind == 1) = true := by simp [hk]
  clear h3 hpc hf d3 d4 hcr hk
  generalize hl0 : p.devs.length = n at *
  have hl := Lib.hid hl0
  clear hl0
  have hd1 : ¬ o.dev < 0 := by omega
  have hd2 : ¬ 16777215 < o.dev := by omega
  by_cases hn : 4096 ≤ n
  · have HR2 := Lib.hid (And.intro (show (2 : Int) = (if 4096 ≤ n then ((2 : Int), p) else (0, addF p o.dev [])).1 by rw [if_pos hn]) (show (if 4096 ≤ n then ((2 : Int), p) else (0, addF p o.dev [])).1 ≠ 0 by rw [if_pos hn]; simp))
    generalize (if 4096 ≤ n then ((2 : Int), p) else (0, addF p o.dev [])) = r at *
    go_enter Try.func36, Try.ntmps36
    go_upto_region 1 with fail
    generalize ((w.alloc (.cells #[.int .i64 p.tx, .int .i64 p.time, .int .i64 p.unit, .int .i64 p.data, .slice A n c] 24)).alloc (.cells #[.int .i64 o.kind, .int .i64 o.dev, .int .i64 o.arg, .int .i64 o.n] 31)).alloc (.cells #[.int .i64 0, .int .i64 0, .int .i64 0, .int .i64 0, .slice none 0 0] 24) = w3 at *
    have hk3 := Below.refl w3.heap.size w3
    obtain ⟨x0, x1, x2, x3, x4⟩ := (HAH.out w3 hk3).1.2.1.cells
    obtain ⟨y0, y1, y2, y3⟩ := (HAH.out w3 hk3).1.2.2.1.cells
    obtain ⟨z0, z1, z2, z3, z4⟩ := (HAH.out w3 hk3).1.2.2.2.1.cells
    have f0 := (HAH.out w3 hk3).1.2.2.2.1.free 0
    have f1 := (HAH.out w3 hk3).1.2.2.2.1.free 1
    have f2 := (HAH.out w3 hk3).1.2.2.2.1.free 2
    have f3 := (HAH.out w3 hk3).1.2.2.2.1.free 3
    have f4 := (HAH.out w3 hk3).1.2.2.2.1.free 4
    go_wp2_with (go_at_call 37; (have hx := HPL.out w3 (HAH.out w3 hk3).1.1.size (HAH.out w3 hk3).2.2.1; with_reducible refine hx.mono ?_; clear hx); rintro e w4 ⟨rfl, hk4⟩; clear x0 x1 x2 x3 x4 y0 y1 y2 y3 z0 z1 z2 z3 z4 f0 f1 f2 f3 f4; obtain ⟨x0, x1, x2, x3, x4⟩ := (HAH.out w4 hk4).1.2.1.cells; obtain ⟨y0, y1, y2, y3⟩ := (HAH.out w4 hk4).1.2.2.1.cells; obtain ⟨z0, z1, z2, z3, z4⟩ := (HAH.out w4 hk4).1.2.2.2.1.cells; have f0 := (HAH.out w4 hk4).1.2.2.2.1.free 0; have f1 := (HAH.out w4 hk4).1.2.2.2.1.free 1; have f2 := (HAH.out w4 hk4).1.2.2.2.1.free 2; have f3 := (HAH.out w4 hk4).1.2.2.2.1.free 3; have f4 := (HAH.out w4 hk4).1.2.2.2.1.free 4)
    obtain ⟨q0, q1, q2, q3, q4⟩ := cells5 (set5 (HAH.out w4 hk4).1.2.2.2.1 (.int .i64 p.tx) (.int .i64 p.time) (.int .i64 p.unit) (.int .i64 p.data) (.slice A n c))
    refine bodyPost_ret (v := .tuple #[.agg #[.int .i64 p.tx, .int .i64 p.time, .int .i64 p.unit, .int .i64 p.data, .slice A n c], .int .i64 2]) (by simp [results, Try.results36, go_sem, q0, q1, q2, q3, q4]) rfl ?_
    exact do_stop hl.out (HAH.out w4 hk4).1 (HAH.out w4 hk4).2.1 H3.out HR2.out.1 HR2.out.2 _ _ _ _ _
  · rw [if_neg hn]
    go_enter Try.func36, Try.ntmps36
    go_upto_region 1 with fail
    generalize ((w.alloc (.cells #[.int .i64 p.tx, .int .i64 p.time, .int .i64 p.unit, .int .i64 p.data, .slice A n c] 24)).alloc (.cells #[.int .i64 o.kind, .int .i64 o.dev, .int .i64 o.arg, .int .i64 o.n] 31)).alloc (.cells #[.int .i64 0, .int .i64 0, .int .i64 0, .int .i64 0, .slice none 0 0] 24) = w3 at *
    have hk3 := Below.refl w3.heap.size w3
    obtain ⟨x0, x1, x2, x3, x4⟩ := (HAH.out w3 hk3).1.2.1.cells
    obtain ⟨y0, y1, y2, y3⟩ := (HAH.out w3 hk3).1.2.2.1.cells
    obtain ⟨z0, z1, z2, z3, z4⟩ := (HAH.out w3 hk3).1.2.2.2.1.cells
    have f0 := (HAH.out w3 hk3).1.2.2.2.1.free 0
    have f1 := (HAH.out w3 hk3).1.2.2.2.1.free 1
    have f2 := (HAH.out w3 hk3).1.2.2.2.1.free 2
    have f3 := (HAH.out w3 hk3).1.2.2.2.1.free 3
    have f4 := (HAH.out w3 hk3).1.2.2.2.1.free 4
    go_wp2_with (first
      | (go_at_call 50; refine (HWI.out w4 (HAH.out w4 hk4).1.1.size (HAH.out w4 hk4).2.1).mono ?_; rintro e w5 ⟨A5, c5, M5, rfl, h5, hB5, hv5, hM5⟩; have hk5 := hk4.trans (hB5.mono hk4.size); have hz5 := hB5.size; clear x0 x1 x2 x3 x4 y0 y1 y2 y3 z0 z1 z2 z3 z4 f0 f1 f2 f3 f4; obtain ⟨z0, z1, z2, z3, z4⟩ := (HAH.out w5 hk5).1.2.2.2.1.cells; have f0 := (HAH.out w5 hk5).1.2.2.2.1.free 0; have f1 := (HAH.out w5 hk5).1.2.2.2.1.free 1; have f2 := (HAH.out w5 hk5).1.2.2.2.1.free 2; have f3 := (HAH.out w5 hk5).1.2.2.2.1.free 3; have f4 := (HAH.out w5 hk5).1.2.2.2.1.free 4)
      | (go_at_call 37; (have hx := HPL.out w3 (HAH.out w3 hk3).1.1.size (HAH.out w3 hk3).2.2.1; with_reducible refine hx.mono ?_; clear hx); rintro e w4 ⟨rfl, hk4⟩; clear x0 x1 x2 x3 x4 y0 y1 y2 y3 z0 z1 z2 z3 z4 f0 f1 f2 f3 f4; obtain ⟨x0, x1, x2, x3, x4⟩ := (HAH.out w4 hk4).1.2.1.cells; obtain ⟨y0, y1, y2, y3⟩ := (HAH.out w4 hk4).1.2.2.1.cells; obtain ⟨z0, z1, z2, z3, z4⟩ := (HAH.out w4 hk4).1.2.2.2.1.cells; have f0 := (HAH.out w4 hk4).1.2.2.2.1.free 0; have f1 := (HAH.out w4 hk4).1.2.2.2.1.free 1; have f2 := (HAH.out w4 hk4).1.2.2.2.1.free 2; have f3 := (HAH.out w4 hk4).1.2.2.2.1.free 3; have f4 := (HAH.out w4 hk4).1.2.2.2.1.free 4))
    obtain ⟨q0, q1, q2, q3, q4⟩ := cells5 (set5 (HAH.out w5 hk5).1.2.2.2.1 (.int .i64 (addF p o.dev []).tx) (.int .i64 (addF p o.dev []).time) (.int .i64 (addF p o.dev []).unit) (.int .i64 (addF p o.dev []).data) (.slice A5 (addF p o.dev []).devs.length c5))
    refine bodyPost_ret (v := .tuple #[.agg #[.int .i64 (addF p o.dev []).tx, .int .i64 (addF p o.dev []).time, .int .i64 (addF p o.dev []).unit, .int .i64 (addF p o.dev []).data, .slice A5 (addF p o.dev []).devs.length c5], .int .i64 0]) (by simp [results, Try.results36, go_sem, q0, q1, q2, q3, q4]) rfl ?_
    exact do_with (HAH.out w4 hk4).1 h5 H3.out hl.out (Touch.three (HAH.out w5 hk5).1) hv5 hM5 _ _ _ _ _
end Go.Proofs.Ytjeeheeaickokaa

/- The reference's create at a snapshot (scantlingref49). Condition: the pool may be, and lies in memory of the call's own. -/
namespace Go.Proofs.Ytjeeheeaickokaa

open Go.RowKit
attribute [local go_sem] Oper.semAt_some
set_option linter.unusedSimpArgs false
set_option linter.unusedVariables false

theorem dhas_stamp {p : Pool} {k : Nat} (hk : k < p.devs.length) (id : Int) : dhas (stampF p k) id = dhas p id := by
  have hn : ∀ j, (nth dev0 (stampF p k).devs j).id = (nth dev0 p.devs j).id := fun j => by
    show (nth dev0 (p.devs.set k _) j).id = _
    rw [nthG_set dev0 _ k j _ hk]
    split
    · rename_i h; rw [h]; rfl
    · rfl
  have hl := len_stamp p k
  rw [Bool.eq_iff_iff, hasK_iff (d := dev0), hasK_iff (d := dev0)]
  constructor
  · rintro ⟨j, hj, he⟩; exact ⟨j, by omega, by rw [← hn]; exact he⟩
  · rintro ⟨j, hj, he⟩; exact ⟨j, by omega, by rw [hn]; exact he⟩
/-- The pool's time goes on, and the origin tells it. -/
theorem stamp9 {w w4 : World} {base g2 n c k : Nat} {p : Pool} {M : Nat → Value} {o : Mop} (hn : p.devs.length = n) (T : Three w w4 p (some ⟨g2, 0, none⟩) n c o) (h0 : OwnDevs w base (.slice (some ⟨g2, 0, none⟩) n c) p.devs M) (h3 : OwnDevs w4 base (.slice (some ⟨g2, 0, none⟩) n c) p.devs M) (hk : k < n) (W : World)
    (hW : (w4.setCell ⟨w.heap.size, 1, none⟩ (.int .i64 (p.time + 1))).setCell ⟨g2, k * 5 + 3, none⟩ (.int .i64 (p.time + 1)) = W) :
    PBox W w.heap.size (stampF p k) (some ⟨g2, 0, none⟩) n c ∧ OBox W (w.heap.size + 1) o ∧ RBox W (w.heap.size + 1 + 1) (.int .i64 0) (.int .i64 0) (.int .i64 0) (.int .i64 0) (.slice none 0 0) ∧ OwnDevs W base (.slice (some ⟨g2, 0, none⟩) n c) (stampF p k).devs M ∧ Touch (Own1 (.slice (some ⟨g2, 0, none⟩) n c) n M) w W ∧ w.heap.size + 3 ≤ W.heap.size := by
  subst hW hn
  have hlt := own1_lt h0 rfl
  have hg2 := (hlt g2 (.inl rfl)).2
  obtain ⟨hB, hP, hO, hR, hz⟩ := T
  have hst := OwnP.stored (q := ⟨p.tx, p.time + 1, p.unit, p.data, p.devs⟩) (i := 1) (u := .int .i64 (p.time + 1)) hP h3 (far_own1 rfl (fun h => by have := hlt _ h; omega)) rfl rfl
  refine ⟨?_, ?_, ?_, ?_, ?_, ?_⟩
  · exact (Below.heap_setCell _ ⟨g2, k * 5 + 3, none⟩ _ _ (by simp only [ne_eq]; omega)).trans hst.1
  · exact (Below.heap_setCell _ ⟨g2, k * 5 + 3, none⟩ _ _ (by simp only [ne_eq]; omega)).trans ((Below.heap_setCell _ ⟨w.heap.size, 1, none⟩ _ _ (by simp)).trans hO)
  · exact (Below.heap_setCell _ ⟨g2, k * 5 + 3, none⟩ _ _ (by simp only [ne_eq]; omega)).trans ((Below.heap_setCell _ ⟨w.heap.size, 1, none⟩ _ _ (by simp only [ne_eq]; omega)).trans hR)
  · exact OwnDevs.snap hst.2.1 hk _
  · exact (touch_set (Touch.of_below hB) (Nat.le_refl _) 1 _).trans (Touch.set_ (p := ⟨g2, k * 5 + 3, none⟩) (.inl rfl))
  · rw [World.size_setCell, World.size_setCell]; exact hz
theorem OwnDevs.cell3 {w : World} {base g n c r : Nat} {l : List Dev} {M : Nat → Value} (h : OwnDevs w base (.slice (some ⟨g, 0, none⟩) n c) l M) (hr : r < l.length) : w.cell? ⟨g, r * 5 + 3, none⟩ = some (.int .i64 (nth dev0 l r).snapped) := by
  obtain ⟨xs, hrow, hc, _⟩ := h
  obtain rfl : n = l.length := own_n hrow
  have hx := own_len hrow
  rw [hrow.cellAt (r * 5 + 3) (by omega)]
  exact (hc r hr).1.2.2.2.1
theorem with_stamp {w : World} {base g2 n c cm k L : Nat} {p : Pool} {Am : Option Addr} {M : Nat → Value} {id : Int} (hn : p.devs.length = n) (hk : k < n) (hb : base ≤ w.heap.size) (h : OwnDevs w base (.slice (some ⟨g2, 0, none⟩) n c) (stampF p k).devs M) (hM : M k = .slice Am L cm) (hfit : PoolFit p) (ht : p.time < 16777215) (hh : dhas p id = false) (hL : (nth dev0 p.devs k).maps.length = L := by rfl) :
    Calls Try.prog 50 #[.agg #[.int .i64 (stampF p k).tx, .int .i64 (stampF p k).time, .int .i64 (stampF p k).unit, .int .i64 (stampF p k).data, .slice (some ⟨g2, 0, none⟩) n c], .int .i64 id, .slice Am L cm] w (WithIs w base n M (addF (stampF p k) id (nth dev0 p.devs k).maps)) := by
  subst hn hL
  have hl := len_stamp p k
  have hs := fit_iff.2 (stamp_fit hfit hk ht)
  have h' := h
  obtain ⟨xs, h1, h2, h3⟩ := h'
  have hm := (h2 k (by rw [hl]; exact hk)).2.1
  rw [maps_stamp hk, hM] at hm
  have hml := maps_len (fit_iff.2 hfit) hk
  have hpl := pool_len (fit_iff.2 hfit)
  have hw := with_any w base c cm (stampF p k) (some ⟨g2, 0, none⟩) Am M (Btw base w.heap.size) id (nth dev0 p.devs k).maps (fun b hb => hb.2) (by rw [hl]; exact h) hb (OwnMaps.isl hm (fun b h1 h2 => ⟨h1, h2⟩)) (by rw [hl]; omega) hml (incK_devs hs) (by rw [dhas_stamp hk]; exact hh)
  rw [hl] at hw
  exact hw
set_option maxRecDepth 100000 in
set_option maxHeartbeats 3200000 in
theorem rcreate_snap (w : World) (base c : Nat) (p : Pool) (A : Option Addr) (M : Nat → Value) (o : Mop) (h3 : OwnDevs w base (.slice A p.devs.length c) p.devs M) (hb : base ≤ w.heap.size) (hpc : poolChk p = 0) (hf : freshE p o.dev = 0) (hk : o.kind = 2) :
    Calls Try.prog 36 #[.agg #[.int .i64 p.tx, .int .i64 p.time, .int .i64 p.unit, .int .i64 p.data, .slice A p.devs.length c], mopV o] w (DoR w base (.slice A p.devs.length c) p.devs.length M (snapF p o)) := by
  have T := three_new w p A p.devs.length c o
  dsimp only [poolBox, op9Box, zeroBox] at T
  have HAH := Lib.hid (op_ahead h3 T)
  have hln := pool_len hpc
  have hfit := fit_iff.1 hpc
  obtain ⟨d1, d2, d3, d4⟩ := fresh_no hf
  have HPL := Lib.hid (fun w' (hz : w.heap.size ≤ w'.heap.size) (h : IsPool w' (Lt w.heap.size) (.agg #[.int .i64 p.tx, .int .i64 p.time, .int .i64 p.unit, .int .i64 p.data, .slice A p.devs.length c]) p) => rplace_any w' (Lt w.heap.size) _ p o.dev (fun b (hb : b < w.heap.size) => Nat.lt_of_lt_of_le hb hz) h (incK_devs hpc) (by omega))
  rw [d4] at HPL
  have HPA := Lib.hid (fun w' (hz : w.heap.size ≤ w'.heap.size) (h : IsPool w' (Lt w.heap.size) (.agg #[.int .i64 p.tx, .int .i64 p.time, .int .i64 p.unit, .int .i64 p.data, .slice A p.devs.length c]) p) => rplace_any w' (Lt w.heap.size) _ p o.arg (fun b (hb : b < w.heap.size) => Nat.lt_of_lt_of_le hb hz) h (incK_devs hpc) (by omega))
  have H3 := Lib.hid h3
  have hcr : snapF p o = if dhas p o.arg = false then (18, p)
    else if 4096 ≤ p.devs.length ∨ 16777215 ≤ p.time ∨ 16384 < p.count + (nth dev0 p.devs (dpos p o.arg)).maps.length then (2, p)
    else (0, addF (stampF p (dpos p o.arg)) o.dev (nth dev0 p.devs (dpos p o.arg)).maps) := by unfold snapF; rw [if_neg (by rw [hf]; simp)]
  have hkb : (o.kind == 1) = false := by simp [hk]
  have hd1 : ¬ o.dev < 0 := by omega
  have hd2 : ¬ 16777215 < o.dev := by omega
  cases hbb : dhas p o.arg with
  | false =>
    rw [hcr, if_pos hbb]
    have hpl : placeI p o.arg = -1 := by unfold placeI; rw [if_neg (by rw [hbb]; simp)]
    rw [hpl] at HPA
    clear h3 hpc hf d3 d4 hcr hk hfit hbb hpl
    generalize hl0 : p.devs.length = n at *
    have hl := Lib.hid hl0
    clear hl0
    go_enter Try.func36, Try.ntmps36
    go_upto_region 1 with fail
    generalize ((w.alloc (.cells #[.int .i64 p.tx, .int .i64 p.time, .int .i64 p.unit, .int .i64 p.data, .slice A n c] 24)).alloc (.cells #[.int .i64 o.kind, .int .i64 o.dev, .int .i64 o.arg, .int .i64 o.n] 31)).alloc (.cells #[.int .i64 0, .int .i64 0, .int .i64 0, .int .i64 0, .slice none 0 0] 24) = w3 at *
    have hk3 := Below.refl w3.heap.size w3
    obtain ⟨x0, x1, x2, x3, x4⟩ := (HAH.out w3 hk3).1.2.1.cells
    obtain ⟨y0, y1, y2, y3⟩ := (HAH.out w3 hk3).1.2.2.1.cells
    obtain ⟨z0, z1, z2, z3, z4⟩ := (HAH.out w3 hk3).1.2.2.2.1.cells
    have f0 := (HAH.out w3 hk3).1.2.2.2.1.free 0
    have f1 := (HAH.out w3 hk3).1.2.2.2.1.free 1
    have f2 := (HAH.out w3 hk3).1.2.2.2.1.free 2
    have f3 := (HAH.out w3 hk3).1.2.2.2.1.free 3
    have f4 := (HAH.out w3 hk3).1.2.2.2.1.free 4
    go_wp2_with (first
      | (go_at_call 37; have _ := hk4; (have hx := HPA.out w4 (HAH.out w4 hk4).1.1.size (HAH.out w4 hk4).2.2.1; with_reducible refine hx.mono ?_; clear hx); rintro e w5 ⟨rfl, hB5⟩; have hk5 := hk4.trans (hB5.mono hk4.size); clear x0 x1 x2 x3 x4 y0 y1 y2 y3 z0 z1 z2 z3 z4 f0 f1 f2 f3 f4; obtain ⟨x0, x1, x2, x3, x4⟩ := (HAH.out w5 hk5).1.2.1.cells; obtain ⟨y0, y1, y2, y3⟩ := (HAH.out w5 hk5).1.2.2.1.cells; obtain ⟨z0, z1, z2, z3, z4⟩ := (HAH.out w5 hk5).1.2.2.2.1.cells; have f0 := (HAH.out w5 hk5).1.2.2.2.1.free 0; have f1 := (HAH.out w5 hk5).1.2.2.2.1.free 1; have f2 := (HAH.out w5 hk5).1.2.2.2.1.free 2; have f3 := (HAH.out w5 hk5).1.2.2.2.1.free 3; have f4 := (HAH.out w5 hk5).1.2.2.2.1.free 4)
      | (go_at_call 37; (have hx := HPL.out w3 (HAH.out w3 hk3).1.1.size (HAH.out w3 hk3).2.2.1; with_reducible refine hx.mono ?_; clear hx); rintro e w4 ⟨rfl, hk4⟩; clear x0 x1 x2 x3 x4 y0 y1 y2 y3 z0 z1 z2 z3 z4 f0 f1 f2 f3 f4; obtain ⟨x0, x1, x2, x3, x4⟩ := (HAH.out w4 hk4).1.2.1.cells; obtain ⟨y0, y1, y2, y3⟩ := (HAH.out w4 hk4).1.2.2.1.cells; obtain ⟨z0, z1, z2, z3, z4⟩ := (HAH.out w4 hk4).1.2.2.2.1.cells; have f0 := (HAH.out w4 hk4).1.2.2.2.1.free 0; have f1 := (HAH.out w4 hk4).1.2.2.2.1.free 1; have f2 := (HAH.out w4 hk4).1.2.2.2.1.free 2; have f3 := (HAH.out w4 hk4).1.2.2.2.1.free 3; have f4 := (HAH.out w4 hk4).1.2.2.2.1.free 4))
    obtain ⟨q0, q1, q2, q3, q4⟩ := cells5 (set5 (HAH.out w5 hk5).1.2.2.2.1 (.int .i64 p.tx) (.int .i64 p.time) (.int .i64 p.unit) (.int .i64 p.data) (.slice A n c))
    refine bodyPost_ret (v := .tuple #[.agg #[.int .i64 p.tx, .int .i64 p.time, .int .i64 p.unit, .int .i64 p.data, .slice A n c], .int .i64 18]) (by simp [results, Try.results36, go_sem, q0, q1, q2, q3, q4]) rfl ?_
    exact do_stop hl.out (HAH.out w5 hk5).1 (HAH.out w5 hk5).2.1 H3.out rfl (by simp) _ _ _ _ _
  | true =>
    have HFT := Lib.hid hfit
    obtain ⟨hkl, _⟩ := hasK_at (d := dev0) (v := o.arg) (incK_devs hpc) hbb
    have hkl : dpos p o.arg < p.devs.length := hkl
    have hpl : placeI p o.arg = (dpos p o.arg : Int) := by unfold placeI; rw [if_pos hbb]
    rw [hpl] at HPA
    rw [hcr, if_neg (by rw [hbb]; simp)]
    obtain ⟨g2, c2, hv, hbg2, hg2, hnc⟩ : ∃ g2 c2, (Value.slice A p.devs.length c) = .slice (some ⟨g2, 0, none⟩) p.devs.length c2 ∧ base ≤ g2 ∧ g2 < w.heap.size ∧ p.devs.length ≤ c2 := by
      obtain ⟨xs, r1, _⟩ := h3
      exact own_form r1 (by omega)
    injection hv with e1 _ e3
    subst e1 e3
    obtain ⟨_, _, _, Am, cm, hMk, hcm⟩ := h3.cellM hkl
    have HKM := Lib.hid (fun w' (h : OwnDevs w' base (.slice (some ⟨g2, 0, none⟩) p.devs.length c) p.devs M) => h.cellM hkl)
    simp only [hMk] at HKM
    have HMK := Lib.hid hMk
    have HC3 := Lib.hid (fun w' (h : OwnDevs w' base (.slice (some ⟨g2, 0, none⟩) p.devs.length c) p.devs M) => h.cell3 hkl)
    have hml := maps_len hpc hkl
    have hcn := hfit.2.2.1
    have hcn0 : 0 ≤ p.count := countL_nonneg _
    have hhd := pool_head hpc
    have HCT := Lib.hid (fun w' (hz : w.heap.size ≤ w'.heap.size) (h : IsPool w' (Lt w.heap.size) (.agg #[.int .i64 p.tx, .int .i64 p.time, .int .i64 p.unit, .int .i64 p.data, .slice (some ⟨g2, 0, none⟩) p.devs.length c]) p) => rcount_any w' (Lt w.heap.size) _ p (fun b (hb : b < w.heap.size) => Nat.lt_of_lt_of_le hb hz) h (by omega) (by omega))
    have HPC := Lib.hid hpc
    have HHA := Lib.hid d3
    have HS9 := Lib.hid (fun w4 T h => stamp9 (w4 := w4) (k := dpos p o.arg) (c := c) (o := o) rfl T h3 h hkl)
    have HWS := Lib.hid (fun w' (hb : base ≤ w'.heap.size) (h : OwnDevs w' base (.slice (some ⟨g2, 0, none⟩) p.devs.length c) (stampF p (dpos p o.arg)).devs M) (ht : p.time < 16777215) => with_stamp (id := o.dev) rfl hkl hb h hMk hfit ht d3)
    clear h3 hpc hf d3 d4 hcr hk hbb hpl hfit hMk
    have HKL := Lib.hid hkl
    generalize hkk : dpos p o.arg = k at *
    have HKK := Lib.hid hkk
    clear hkk
    generalize hLL : (nth dev0 p.devs k).maps.length = L at *
    have HLL := Lib.hid hLL
    clear hLL
    generalize hl0 : p.devs.length = n at *
    have hl := Lib.hid hl0
    clear hl0
    generalize hpcn : p.count = pc at *
    have HPCN := Lib.hid hpcn
    clear hpcn
    generalize hrr : (if 4096 ≤ n ∨ 16777215 ≤ p.time ∨ 16384 < pc + (L : Int) then ((2 : Int), p) else (0, addF (stampF p k) o.dev (nth dev0 p.devs k).maps)) = r
    have HRR := Lib.hid hrr
    clear hrr
    go_enter Try.func36, Try.ntmps36
    go_upto_region 1 with fail
    generalize ((w.alloc (.cells #[.int .i64 p.tx, .int .i64 p.time, .int .i64 p.unit, .int .i64 p.data, .slice (some ⟨g2, 0, none⟩) n c] 24)).alloc (.cells #[.int .i64 o.kind, .int .i64 o.dev, .int .i64 o.arg, .int .i64 o.n] 31)).alloc (.cells #[.int .i64 0, .int .i64 0, .int .i64 0, .int .i64 0, .slice none 0 0] 24) = w3 at *
    have hk3 := Below.refl w3.heap.size w3
    obtain ⟨x0, x1, x2, x3, x4⟩ := (HAH.out w3 hk3).1.2.1.cells
    obtain ⟨y0, y1, y2, y3⟩ := (HAH.out w3 hk3).1.2.2.1.cells
    obtain ⟨z0, z1, z2, z3, z4⟩ := (HAH.out w3 hk3).1.2.2.2.1.cells
    have f0 := (HAH.out w3 hk3).1.2.2.2.1.free 0
    have f1 := (HAH.out w3 hk3).1.2.2.2.1.free 1
    have f2 := (HAH.out w3 hk3).1.2.2.2.1.free 2
    have f3 := (HAH.out w3 hk3).1.2.2.2.1.free 3
    have f4 := (HAH.out w3 hk3).1.2.2.2.1.free 4
    go_wp2_with (first
      | (go_at_call 37; have _ := hk4; (have hx := HPA.out w4 (HAH.out w4 hk4).1.1.size (HAH.out w4 hk4).2.2.1; with_reducible refine hx.mono ?_; clear hx); rintro e w5 ⟨rfl, hB5⟩; have hk5 := hk4.trans (hB5.mono hk4.size); clear x0 x1 x2 x3 x4 y0 y1 y2 y3 z0 z1 z2 z3 z4 f0 f1 f2 f3 f4; obtain ⟨x0, x1, x2, x3, x4⟩ := (HAH.out w5 hk5).1.2.1.cells; obtain ⟨y0, y1, y2, y3⟩ := (HAH.out w5 hk5).1.2.2.1.cells; obtain ⟨z0, z1, z2, z3, z4⟩ := (HAH.out w5 hk5).1.2.2.2.1.cells; have f0 := (HAH.out w5 hk5).1.2.2.2.1.free 0; have f1 := (HAH.out w5 hk5).1.2.2.2.1.free 1; have f2 := (HAH.out w5 hk5).1.2.2.2.1.free 2; have f3 := (HAH.out w5 hk5).1.2.2.2.1.free 3; have f4 := (HAH.out w5 hk5).1.2.2.2.1.free 4)
      | (go_at_call 37; (have hx := HPL.out w3 (HAH.out w3 hk3).1.1.size (HAH.out w3 hk3).2.2.1; with_reducible refine hx.mono ?_; clear hx); rintro e w4 ⟨rfl, hk4⟩; clear x0 x1 x2 x3 x4 y0 y1 y2 y3 z0 z1 z2 z3 z4 f0 f1 f2 f3 f4; obtain ⟨x0, x1, x2, x3, x4⟩ := (HAH.out w4 hk4).1.2.1.cells; obtain ⟨y0, y1, y2, y3⟩ := (HAH.out w4 hk4).1.2.2.1.cells; obtain ⟨z0, z1, z2, z3, z4⟩ := (HAH.out w4 hk4).1.2.2.2.1.cells; have f0 := (HAH.out w4 hk4).1.2.2.2.1.free 0; have f1 := (HAH.out w4 hk4).1.2.2.2.1.free 1; have f2 := (HAH.out w4 hk4).1.2.2.2.1.free 2; have f3 := (HAH.out w4 hk4).1.2.2.2.1.free 3; have f4 := (HAH.out w4 hk4).1.2.2.2.1.free 4))
    go_cut [62] (fun s62 wx => s62 = .bool (decide (4096 ≤ n ∨ 16777215 ≤ p.time ∨ 16384 < pc + (L : Int))) ∧ Below w5.heap.size w5 wx)
    case first =>
      clear x0 x1 x2 x3 x4 y0 y1 y2 y3 z0 z1 z2 z3 z4 f0 f1 f2 f3 f4
      by_cases c1 : 4096 ≤ n
      · have a1 : decide (4096 ≤ (n : Int)) = true := decide_eq_true (by omega)
        refine wp_region_till (T := fun _ => false) (S := fun w' => Below w5.heap.size w5 w') (by kernel_rfl) (Below.refl w5.heap.size w5).drew (fun hHeld => ?_)
        obtain ⟨w101, hw0⟩ : ∃ x, w5.drew = x := ⟨_, rfl⟩
        rw [hw0] at hHeld ⊢
        have hkA : Below w5.heap.size w5 w101 := hHeld
        clear hHeld hw0
        refine wpTill_put 0 41 (oi := _) (v := ?_) rfl rfl (by kernel_rfl) (by kernel_rfl) (by kernel_rfl) (by kernel_rfl) (fun _ _ _ h => h) (by rfl) hkA ?_ ?_
        rotate_left
        · (intro w2' hSw; go_simp; (try with_reducible rfl))
        (try simp only [Act.put, List.setIfInBounds_toArray, List.set_cons_zero, List.set_cons_succ])
        refine wpTill_put 1 42 (oi := _) (v := ?_) rfl rfl (by kernel_rfl) (by kernel_rfl) (by kernel_rfl) (by kernel_rfl) (fun _ _ _ h => h) (by rfl) hkA ?_ ?_
        rotate_left
        · (intro w2' hSw; obtain ⟨x0, x1, x2, x3, x4⟩ := (HAH.out w2' (hk5.trans (Below.mono hSw hk5.size))).1.2.1.cells; go_simp; (try with_reducible rfl))
        (try simp only [Act.put, List.setIfInBounds_toArray, List.set_cons_zero, List.set_cons_succ])
        refine wpTill_put 2 43 (oi := _) (v := ?_) rfl rfl (by kernel_rfl) (by kernel_rfl) (by kernel_rfl) (by kernel_rfl) (fun _ _ _ h => h) (by rfl) hkA ?_ ?_
        rotate_left
        · (intro w2' hSw; go_simp; (try with_reducible rfl))
        (try simp only [Act.put, List.setIfInBounds_toArray, List.set_cons_zero, List.set_cons_succ])
        refine wpTill_put 3 44 (oi := _) (v := ?_) rfl rfl (by kernel_rfl) (by kernel_rfl) (by kernel_rfl) (by kernel_rfl) (fun _ _ _ h => h) (by rfl) hkA ?_ ?_
        rotate_left
        · (intro w2' hSw; go_simp; (try with_reducible rfl))
        (try simp only [Act.put, List.setIfInBounds_toArray, List.set_cons_zero, List.set_cons_succ])
        refine wpTill_put 4 45 (oi := _) (v := ?_) rfl rfl (by kernel_rfl) (by kernel_rfl) (by kernel_rfl) (by kernel_rfl) (fun _ _ _ h => h) (by rfl) hkA ?_ ?_
        rotate_left
        · (intro w2' hSw; go_simp; (try with_reducible rfl))
        (try simp only [Act.put, List.setIfInBounds_toArray, List.set_cons_zero, List.set_cons_succ])
        refine wpTill_skip 5 46 (oi := _) rfl rfl (by kernel_rfl) (by kernel_rfl) (by kernel_rfl) (by kernel_rfl) (fun _ _ _ h => h) (by rfl) hkA ?_
        (try simp only [Act.put, List.setIfInBounds_toArray, List.set_cons_zero, List.set_cons_succ])
        refine wpTill_skip 6 47 (oi := _) rfl rfl (by kernel_rfl) (by kernel_rfl) (by kernel_rfl) (by kernel_rfl) (fun _ _ _ h => h) (by rfl) hkA ?_
        (try simp only [Act.put, List.setIfInBounds_toArray, List.set_cons_zero, List.set_cons_succ])
        refine wpTill_skip 7 48 (oi := _) rfl rfl (by kernel_rfl) (by kernel_rfl) (by kernel_rfl) (by kernel_rfl) (fun _ _ _ h => h) (by rfl) hkA ?_
        (try simp only [Act.put, List.setIfInBounds_toArray, List.set_cons_zero, List.set_cons_succ])
        refine wpTill_put 8 49 (oi := _) (v := ?_) rfl rfl (by kernel_rfl) (by kernel_rfl) (by kernel_rfl) (by kernel_rfl) (fun _ _ _ h => h) (by rfl) hkA ?_ ?_
        rotate_left
        · (intro w2' hSw; go_simp; (try with_reducible rfl))
        (try simp only [Act.put, List.setIfInBounds_toArray, List.set_cons_zero, List.set_cons_succ])
        refine wpTill_put 9 50 (oi := _) (v := ?_) rfl rfl (by kernel_rfl) (by kernel_rfl) (by kernel_rfl) (by kernel_rfl) (fun _ _ _ h => h) (by rfl) hkA ?_ ?_
        rotate_left
        · (intro w2' hSw; go_simp; (try with_reducible rfl))
        (try simp only [Act.put, List.setIfInBounds_toArray, List.set_cons_zero, List.set_cons_succ])
        refine wpTill_skip 10 51 (oi := _) rfl rfl (by kernel_rfl) (by kernel_rfl) (by kernel_rfl) (by kernel_rfl) (fun _ _ _ h => h) (by rfl) hkA ?_
        (try simp only [Act.put, List.setIfInBounds_toArray, List.set_cons_zero, List.set_cons_succ])
        refine wpTill_skip 11 52 (oi := _) rfl rfl (by kernel_rfl) (by kernel_rfl) (by kernel_rfl) (by kernel_rfl) (fun _ _ _ h => h) (by rfl) hkA ?_
        (try simp only [Act.put, List.setIfInBounds_toArray, List.set_cons_zero, List.set_cons_succ])
        refine wpTill_skip 12 53 (oi := _) rfl rfl (by kernel_rfl) (by kernel_rfl) (by kernel_rfl) (by kernel_rfl) (fun _ _ _ h => h) (by rfl) hkA ?_
        (try simp only [Act.put, List.setIfInBounds_toArray, List.set_cons_zero, List.set_cons_succ])
        refine wpTill_skip 13 54 (oi := _) rfl rfl (by kernel_rfl) (by kernel_rfl) (by kernel_rfl) (by kernel_rfl) (fun _ _ _ h => h) (by rfl) hkA ?_
        (try simp only [Act.put, List.setIfInBounds_toArray, List.set_cons_zero, List.set_cons_succ])
        refine wpTill_skip 14 55 (oi := _) rfl rfl (by kernel_rfl) (by kernel_rfl) (by kernel_rfl) (by kernel_rfl) (fun _ _ _ h => h) (by rfl) hkA ?_
        (try simp only [Act.put, List.setIfInBounds_toArray, List.set_cons_zero, List.set_cons_succ])
        refine wpTill_skip 15 56 (oi := _) rfl rfl (by kernel_rfl) (by kernel_rfl) (by kernel_rfl) (by kernel_rfl) (fun _ _ _ h => h) (by rfl) hkA ?_
        (try simp only [Act.put, List.setIfInBounds_toArray, List.set_cons_zero, List.set_cons_succ])
        refine wpTill_skip 16 57 (oi := _) rfl rfl (by kernel_rfl) (by kernel_rfl) (by kernel_rfl) (by kernel_rfl) (fun _ _ _ h => h) (by rfl) hkA ?_
        (try simp only [Act.put, List.setIfInBounds_toArray, List.set_cons_zero, List.set_cons_succ])
        refine wpTill_skip 17 58 (oi := _) rfl rfl (by kernel_rfl) (by kernel_rfl) (by kernel_rfl) (by kernel_rfl) (fun _ _ _ h => h) (by rfl) hkA ?_
        (try simp only [Act.put, List.setIfInBounds_toArray, List.set_cons_zero, List.set_cons_succ])
        refine wpTill_skip 18 59 (oi := _) rfl rfl (by kernel_rfl) (by kernel_rfl) (by kernel_rfl) (by kernel_rfl) (fun _ _ _ h => h) (by rfl) hkA ?_
        (try simp only [Act.put, List.setIfInBounds_toArray, List.set_cons_zero, List.set_cons_succ])
        refine wpTill_skip 19 60 (oi := _) rfl rfl (by kernel_rfl) (by kernel_rfl) (by kernel_rfl) (by kernel_rfl) (fun _ _ _ h => h) (by rfl) hkA ?_
        (try simp only [Act.put, List.setIfInBounds_toArray, List.set_cons_zero, List.set_cons_succ])
        refine wpTill_skip 20 61 (oi := _) rfl rfl (by kernel_rfl) (by kernel_rfl) (by kernel_rfl) (by kernel_rfl) (fun _ _ _ h => h) (by rfl) hkA ?_
        (try simp only [Act.put, List.setIfInBounds_toArray, List.set_cons_zero, List.set_cons_succ])
        refine wpTill_put 21 62 (oi := _) (v := ?_) rfl rfl (by kernel_rfl) (by kernel_rfl) (by kernel_rfl) (by kernel_rfl) (fun _ _ _ h => h) (by rfl) hkA ?_ ?_
        rotate_left
        · (intro w2' hSw; go_simp; (try with_reducible rfl))
        (try simp only [Act.put, List.setIfInBounds_toArray, List.set_cons_zero, List.set_cons_succ])
        refine wpTill_done (by kernel_rfl) ?_ _
        go_wp2_with fail
        go_meet
        exact ⟨congrArg Value.bool (decide_eq_true (p := 4096 ≤ n ∨ 16777215 ≤ p.time ∨ 16384 < pc + (L : Int)) (by omega)).symm, hkA⟩
      · have a1 : decide (4096 ≤ (n : Int)) = false := decide_eq_false (by omega)
        by_cases c2 : p.time = 16777215
        · have a2 : (p.time == 16777215) = true := by simp [c2]
          refine wp_region_till (T := fun _ => false) (S := fun w' => Below w5.heap.size w5 w') (by kernel_rfl) (Below.refl w5.heap.size w5).drew (fun hHeld => ?_)
          obtain ⟨w102, hw0⟩ : ∃ x, w5.drew = x := ⟨_, rfl⟩
          rw [hw0] at hHeld ⊢
          have hkA : Below w5.heap.size w5 w102 := hHeld
          clear hHeld hw0
          refine wpTill_put 0 41 (oi := _) (v := ?_) rfl rfl (by kernel_rfl) (by kernel_rfl) (by kernel_rfl) (by kernel_rfl) (fun _ _ _ h => h) (by rfl) hkA ?_ ?_
          rotate_left
          · (intro w2' hSw; go_simp; (try with_reducible rfl))
          (try simp only [Act.put, List.setIfInBounds_toArray, List.set_cons_zero, List.set_cons_succ])
          refine wpTill_put 1 42 (oi := _) (v := ?_) rfl rfl (by kernel_rfl) (by kernel_rfl) (by kernel_rfl) (by kernel_rfl) (fun _ _ _ h => h) (by rfl) hkA ?_ ?_
          rotate_left
          · (intro w2' hSw; obtain ⟨x0, x1, x2, x3, x4⟩ := (HAH.out w2' (hk5.trans (Below.mono hSw hk5.size))).1.2.1.cells; go_simp; (try with_reducible rfl))
          (try simp only [Act.put, List.setIfInBounds_toArray, List.set_cons_zero, List.set_cons_succ])
          refine wpTill_put 2 43 (oi := _) (v := ?_) rfl rfl (by kernel_rfl) (by kernel_rfl) (by kernel_rfl) (by kernel_rfl) (fun _ _ _ h => h) (by rfl) hkA ?_ ?_
          rotate_left
          · (intro w2' hSw; go_simp; (try with_reducible rfl))
          (try simp only [Act.put, List.setIfInBounds_toArray, List.set_cons_zero, List.set_cons_succ])
          refine wpTill_put 3 44 (oi := _) (v := ?_) rfl rfl (by kernel_rfl) (by kernel_rfl) (by kernel_rfl) (by kernel_rfl) (fun _ _ _ h => h) (by rfl) hkA ?_ ?_
          rotate_left
          · (intro w2' hSw; go_simp; (try with_reducible rfl))
          (try simp only [Act.put, List.setIfInBounds_toArray, List.set_cons_zero, List.set_cons_succ])
          refine wpTill_put 4 45 (oi := _) (v := ?_) rfl rfl (by kernel_rfl) (by kernel_rfl) (by kernel_rfl) (by kernel_rfl) (fun _ _ _ h => h) (by rfl) hkA ?_ ?_
          rotate_left
          · (intro w2' hSw; go_simp; (try with_reducible rfl))
          (try simp only [Act.put, List.setIfInBounds_toArray, List.set_cons_zero, List.set_cons_succ])
          refine wpTill_put 5 46 (oi := _) (v := ?_) rfl rfl (by kernel_rfl) (by kernel_rfl) (by kernel_rfl) (by kernel_rfl) (fun _ _ _ h => h) (by rfl) hkA ?_ ?_
          rotate_left
          · (intro w2' hSw; go_simp; (try with_reducible rfl))
          (try simp only [Act.put, List.setIfInBounds_toArray, List.set_cons_zero, List.set_cons_succ])
          refine wpTill_put 6 47 (oi := _) (v := ?_) rfl rfl (by kernel_rfl) (by kernel_rfl) (by kernel_rfl) (by kernel_rfl) (fun _ _ _ h => h) (by rfl) hkA ?_ ?_
          rotate_left
          · (intro w2' hSw; obtain ⟨x0, x1, x2, x3, x4⟩ := (HAH.out w2' (hk5.trans (Below.mono hSw hk5.size))).1.2.1.cells; go_simp; (try with_reducible rfl))
          (try simp only [Act.put, List.setIfInBounds_toArray, List.set_cons_zero, List.set_cons_succ])
          refine wpTill_put 7 48 (oi := _) (v := ?_) rfl rfl (by kernel_rfl) (by kernel_rfl) (by kernel_rfl) (by kernel_rfl) (fun _ _ _ h => h) (by rfl) hkA ?_ ?_
          rotate_left
          · (intro w2' hSw; go_simp; (try with_reducible rfl))
          (try simp only [Act.put, List.setIfInBounds_toArray, List.set_cons_zero, List.set_cons_succ])
          refine wpTill_put 8 49 (oi := _) (v := ?_) rfl rfl (by kernel_rfl) (by kernel_rfl) (by kernel_rfl) (by kernel_rfl) (fun _ _ _ h => h) (by rfl) hkA ?_ ?_
          rotate_left
          · (intro w2' hSw; go_simp; (try with_reducible rfl))
          (try simp only [Act.put, List.setIfInBounds_toArray, List.set_cons_zero, List.set_cons_succ])
          refine wpTill_put 9 50 (oi := _) (v := ?_) rfl rfl (by kernel_rfl) (by kernel_rfl) (by kernel_rfl) (by kernel_rfl) (fun _ _ _ h => h) (by rfl) hkA ?_ ?_
          rotate_left
          · (intro w2' hSw; go_simp; (try with_reducible rfl))
          (try simp only [Act.put, List.setIfInBounds_toArray, List.set_cons_zero, List.set_cons_succ])
          refine wpTill_skip 10 51 (oi := _) rfl rfl (by kernel_rfl) (by kernel_rfl) (by kernel_rfl) (by kernel_rfl) (fun _ _ _ h => h) (by rfl) hkA ?_
          (try simp only [Act.put, List.setIfInBounds_toArray, List.set_cons_zero, List.set_cons_succ])
          refine wpTill_skip 11 52 (oi := _) rfl rfl (by kernel_rfl) (by kernel_rfl) (by kernel_rfl) (by kernel_rfl) (fun _ _ _ h => h) (by rfl) hkA ?_
          (try simp only [Act.put, List.setIfInBounds_toArray, List.set_cons_zero, List.set_cons_succ])
          refine wpTill_skip 12 53 (oi := _) rfl rfl (by kernel_rfl) (by kernel_rfl) (by kernel_rfl) (by kernel_rfl) (fun _ _ _ h => h) (by rfl) hkA ?_
          (try simp only [Act.put, List.setIfInBounds_toArray, List.set_cons_zero, List.set_cons_succ])
          refine wpTill_skip 13 54 (oi := _) rfl rfl (by kernel_rfl) (by kernel_rfl) (by kernel_rfl) (by kernel_rfl) (fun _ _ _ h => h) (by rfl) hkA ?_
          (try simp only [Act.put, List.setIfInBounds_toArray, List.set_cons_zero, List.set_cons_succ])
          refine wpTill_skip 14 55 (oi := _) rfl rfl (by kernel_rfl) (by kernel_rfl) (by kernel_rfl) (by kernel_rfl) (fun _ _ _ h => h) (by rfl) hkA ?_
          (try simp only [Act.put, List.setIfInBounds_toArray, List.set_cons_zero, List.set_cons_succ])
          refine wpTill_skip 15 56 (oi := _) rfl rfl (by kernel_rfl) (by kernel_rfl) (by kernel_rfl) (by kernel_rfl) (fun _ _ _ h => h) (by rfl) hkA ?_
          (try simp only [Act.put, List.setIfInBounds_toArray, List.set_cons_zero, List.set_cons_succ])
          refine wpTill_skip 16 57 (oi := _) rfl rfl (by kernel_rfl) (by kernel_rfl) (by kernel_rfl) (by kernel_rfl) (fun _ _ _ h => h) (by rfl) hkA ?_
          (try simp only [Act.put, List.setIfInBounds_toArray, List.set_cons_zero, List.set_cons_succ])
          refine wpTill_skip 17 58 (oi := _) rfl rfl (by kernel_rfl) (by kernel_rfl) (by kernel_rfl) (by kernel_rfl) (fun _ _ _ h => h) (by rfl) hkA ?_
          (try simp only [Act.put, List.setIfInBounds_toArray, List.set_cons_zero, List.set_cons_succ])
          refine wpTill_skip 18 59 (oi := _) rfl rfl (by kernel_rfl) (by kernel_rfl) (by kernel_rfl) (by kernel_rfl) (fun _ _ _ h => h) (by rfl) hkA ?_
          (try simp only [Act.put, List.setIfInBounds_toArray, List.set_cons_zero, List.set_cons_succ])
          refine wpTill_skip 19 60 (oi := _) rfl rfl (by kernel_rfl) (by kernel_rfl) (by kernel_rfl) (by kernel_rfl) (fun _ _ _ h => h) (by rfl) hkA ?_
          (try simp only [Act.put, List.setIfInBounds_toArray, List.set_cons_zero, List.set_cons_succ])
          refine wpTill_skip 20 61 (oi := _) rfl rfl (by kernel_rfl) (by kernel_rfl) (by kernel_rfl) (by kernel_rfl) (fun _ _ _ h => h) (by rfl) hkA ?_
          (try simp only [Act.put, List.setIfInBounds_toArray, List.set_cons_zero, List.set_cons_succ])
          refine wpTill_put 21 62 (oi := _) (v := ?_) rfl rfl (by kernel_rfl) (by kernel_rfl) (by kernel_rfl) (by kernel_rfl) (fun _ _ _ h => h) (by rfl) hkA ?_ ?_
          rotate_left
          · (intro w2' hSw; go_simp; (try with_reducible rfl))
          (try simp only [Act.put, List.setIfInBounds_toArray, List.set_cons_zero, List.set_cons_succ])
          refine wpTill_done (by kernel_rfl) ?_ _
          go_wp2_with fail
          go_meet
          exact ⟨congrArg Value.bool (decide_eq_true (p := 4096 ≤ n ∨ 16777215 ≤ p.time ∨ 16384 < pc + (L : Int)) (by omega)).symm, hkA⟩
        · have a2 : (p.time == 16777215) = false := by simp [c2]
          have hws : IntKind.i64.wrap (pc + (L : Int)) = pc + (L : Int) := IntWalk.i64_in _ (by omega)
          refine wp_region_till (T := fun _ => false) (S := fun w' => Below w5.heap.size w5 w') (by kernel_rfl) (Below.refl w5.heap.size w5).drew (fun hHeld => ?_)
          obtain ⟨w103, hw0⟩ : ∃ x, w5.drew = x := ⟨_, rfl⟩
          rw [hw0] at hHeld ⊢
          have hkA : Below w5.heap.size w5 w103 := hHeld
          clear hHeld hw0
          refine wpTill_put 0 41 (oi := _) (v := ?_) rfl rfl (by kernel_rfl) (by kernel_rfl) (by kernel_rfl) (by kernel_rfl) (fun _ _ _ h => h) (by rfl) hkA ?_ ?_
          rotate_left
          · (intro w2' hSw; go_simp; (try with_reducible rfl))
          (try simp only [Act.put, List.setIfInBounds_toArray, List.set_cons_zero, List.set_cons_succ])
          refine wpTill_put 1 42 (oi := _) (v := ?_) rfl rfl (by kernel_rfl) (by kernel_rfl) (by kernel_rfl) (by kernel_rfl) (fun _ _ _ h => h) (by rfl) hkA ?_ ?_
          rotate_left
          · (intro w2' hSw; obtain ⟨x0, x1, x2, x3, x4⟩ := (HAH.out w2' (hk5.trans (Below.mono hSw hk5.size))).1.2.1.cells; go_simp; (try with_reducible rfl))
          (try simp only [Act.put, List.setIfInBounds_toArray, List.set_cons_zero, List.set_cons_succ])
          refine wpTill_put 2 43 (oi := _) (v := ?_) rfl rfl (by kernel_rfl) (by kernel_rfl) (by kernel_rfl) (by kernel_rfl) (fun _ _ _ h => h) (by rfl) hkA ?_ ?_
          rotate_left
          · (intro w2' hSw; go_simp; (try with_reducible rfl))
          (try simp only [Act.put, List.setIfInBounds_toArray, List.set_cons_zero, List.set_cons_succ])
          refine wpTill_put 3 44 (oi := _) (v := ?_) rfl rfl (by kernel_rfl) (by kernel_rfl) (by kernel_rfl) (by kernel_rfl) (fun _ _ _ h => h) (by rfl) hkA ?_ ?_
          rotate_left
          · (intro w2' hSw; go_simp; (try with_reducible rfl))
          (try simp only [Act.put, List.setIfInBounds_toArray, List.set_cons_zero, List.set_cons_succ])
          refine wpTill_put 4 45 (oi := _) (v := ?_) rfl rfl (by kernel_rfl) (by kernel_rfl) (by kernel_rfl) (by kernel_rfl) (fun _ _ _ h => h) (by rfl) hkA ?_ ?_
          rotate_left
          · (intro w2' hSw; go_simp; (try with_reducible rfl))
          (try simp only [Act.put, List.setIfInBounds_toArray, List.set_cons_zero, List.set_cons_succ])
          refine wpTill_put 5 46 (oi := _) (v := ?_) rfl rfl (by kernel_rfl) (by kernel_rfl) (by kernel_rfl) (by kernel_rfl) (fun _ _ _ h => h) (by rfl) hkA ?_ ?_
          rotate_left
          · (intro w2' hSw; go_simp; (try with_reducible rfl))
          (try simp only [Act.put, List.setIfInBounds_toArray, List.set_cons_zero, List.set_cons_succ])
          refine wpTill_put 6 47 (oi := _) (v := ?_) rfl rfl (by kernel_rfl) (by kernel_rfl) (by kernel_rfl) (by kernel_rfl) (fun _ _ _ h => h) (by rfl) hkA ?_ ?_
          rotate_left
          · (intro w2' hSw; obtain ⟨x0, x1, x2, x3, x4⟩ := (HAH.out w2' (hk5.trans (Below.mono hSw hk5.size))).1.2.1.cells; go_simp; (try with_reducible rfl))
          (try simp only [Act.put, List.setIfInBounds_toArray, List.set_cons_zero, List.set_cons_succ])
          refine wpTill_put 7 48 (oi := _) (v := ?_) rfl rfl (by kernel_rfl) (by kernel_rfl) (by kernel_rfl) (by kernel_rfl) (fun _ _ _ h => h) (by rfl) hkA ?_ ?_
          rotate_left
          · (intro w2' hSw; go_simp; (try with_reducible rfl))
          (try simp only [Act.put, List.setIfInBounds_toArray, List.set_cons_zero, List.set_cons_succ])
          refine wpTill_put 8 49 (oi := _) (v := ?_) rfl rfl (by kernel_rfl) (by kernel_rfl) (by kernel_rfl) (by kernel_rfl) (fun _ _ _ h => h) (by rfl) hkA ?_ ?_
          rotate_left
          · (intro w2' hSw; go_simp; (try with_reducible rfl))
          (try simp only [Act.put, List.setIfInBounds_toArray, List.set_cons_zero, List.set_cons_succ])
          refine wpTill_put 9 50 (oi := _) (v := ?_) rfl rfl (by kernel_rfl) (by kernel_rfl) (by kernel_rfl) (by kernel_rfl) (fun _ _ _ h => h) (by rfl) hkA ?_ ?_
          rotate_left
          · (intro w2' hSw; go_simp; (try with_reducible rfl))
          (try simp only [Act.put, List.setIfInBounds_toArray, List.set_cons_zero, List.set_cons_succ])
          refine wpTill_put 10 51 (oi := _) (v := ?_) rfl rfl (by kernel_rfl) (by kernel_rfl) (by kernel_rfl) (by kernel_rfl) (fun _ _ _ h => h) (by rfl) hkA ?_ ?_
          rotate_left
          · (intro w2' hSw; obtain ⟨x0, x1, x2, x3, x4⟩ := (HAH.out w2' (hk5.trans (Below.mono hSw hk5.size))).1.2.1.cells; go_simp; (try with_reducible rfl))
          (try simp only [Act.put, List.setIfInBounds_toArray, List.set_cons_zero, List.set_cons_succ])
          refine wpTill_put 12 53 (oi := _) (v := ?_) rfl rfl (by kernel_rfl) (by kernel_rfl) (by kernel_rfl) (by kernel_rfl) (fun _ _ _ h => h) (by rfl) hkA ?_ ?_
          rotate_left
          · (intro w2' hSw; go_simp; (try with_reducible rfl))
          (try simp only [Act.put, List.setIfInBounds_toArray, List.set_cons_zero, List.set_cons_succ])
          refine wpTill_put 13 54 (oi := _) (v := ?_) rfl rfl (by kernel_rfl) (by kernel_rfl) (by kernel_rfl) (by kernel_rfl) (fun _ _ _ h => h) (by rfl) hkA ?_ ?_
          rotate_left
          · (intro w2' hSw; obtain ⟨x0, x1, x2, x3, x4⟩ := (HAH.out w2' (hk5.trans (Below.mono hSw hk5.size))).1.2.1.cells; go_simp; (try with_reducible rfl))
          (try simp only [Act.put, List.setIfInBounds_toArray, List.set_cons_zero, List.set_cons_succ])
          refine wpTill_put 14 55 (oi := _) (v := ?_) rfl rfl (by kernel_rfl) (by kernel_rfl) (by kernel_rfl) (by kernel_rfl) (fun _ _ _ h => h) (by rfl) hkA ?_ ?_
          rotate_left
          · (intro w2' hSw; go_simp; (try with_reducible rfl))
          (try simp only [Act.put, List.setIfInBounds_toArray, List.set_cons_zero, List.set_cons_succ])
          refine wpTill_put 15 56 (oi := _) (v := ?_) rfl rfl (by kernel_rfl) (by kernel_rfl) (by kernel_rfl) (by kernel_rfl) (fun _ _ _ h => h) (by rfl) hkA ?_ ?_
          rotate_left
          · (intro w2' hSw; go_simp; (try with_reducible rfl))
          (try simp only [Act.put, List.setIfInBounds_toArray, List.set_cons_zero, List.set_cons_succ])
          refine wpTill_put 16 57 (oi := _) (v := ?_) rfl rfl (by kernel_rfl) (by kernel_rfl) (by kernel_rfl) (by kernel_rfl) (fun _ _ _ h => h) (by rfl) hkA ?_ ?_
          rotate_left
          · (intro w2' hSw; go_simp; (try with_reducible rfl))
          (try simp only [Act.put, List.setIfInBounds_toArray, List.set_cons_zero, List.set_cons_succ])
          refine wpTill_put 17 58 (oi := _) (v := ?_) rfl rfl (by kernel_rfl) (by kernel_rfl) (by kernel_rfl) (by kernel_rfl) (fun _ _ _ h => h) (by rfl) hkA ?_ ?_
          rotate_left
          · (intro w2' hSw; obtain ⟨m0, _⟩ := HKM.out w2' (HAH.out w2' (hk5.trans (Below.mono hSw hk5.size))).2.1; go_simp; (try with_reducible rfl))
          (try simp only [Act.put, List.setIfInBounds_toArray, List.set_cons_zero, List.set_cons_succ])
          refine wpTill_put 18 59 (oi := _) (v := ?_) rfl rfl (by kernel_rfl) (by kernel_rfl) (by kernel_rfl) (by kernel_rfl) (fun _ _ _ h => h) (by rfl) hkA ?_ ?_
          rotate_left
          · (intro w2' hSw; go_simp; (try with_reducible rfl))
          (try simp only [Act.put, List.setIfInBounds_toArray, List.set_cons_zero, List.set_cons_succ])
          refine wpTill_one 11 (o := _) (by kernel_rfl) rfl (fun K hK => ?_)
          go_simp
          have hkw := hk5.trans (hkA.mono hk5.size)
          refine (HCT.out w103 (HAH.out w103 hkw).1.1.size (HAH.out w103 hkw).2.2.1).mono ?_
          rintro e w104 ⟨rfl, hBn⟩
          have hkA := hkA.trans (hBn.mono hkA.size)
          clear hkw hBn
          refine hK.out _ _ (fun _ => hkA) (fun _ => ?_)
          clear hK K
          (try simp only [Act.put, List.setIfInBounds_toArray, List.set_cons_zero, List.set_cons_succ])
          refine wpTill_put 19 60 (oi := _) (v := ?_) rfl rfl (by kernel_rfl) (by kernel_rfl) (by kernel_rfl) (by kernel_rfl) (fun _ _ _ h => h) (by rfl) hkA ?_ ?_
          rotate_left
          · (intro w2' hSw; go_simp; (try with_reducible rfl))
          (try simp only [Act.put, List.setIfInBounds_toArray, List.set_cons_zero, List.set_cons_succ])
          refine wpTill_put 20 61 (oi := _) (v := ?_) rfl rfl (by kernel_rfl) (by kernel_rfl) (by kernel_rfl) (by kernel_rfl) (fun _ _ _ h => h) (by rfl) hkA ?_ ?_
          rotate_left
          · (intro w2' hSw; go_simp; (try with_reducible rfl))
          (try simp only [Act.put, List.setIfInBounds_toArray, List.set_cons_zero, List.set_cons_succ])
          refine wpTill_put 21 62 (oi := _) (v := ?_) rfl rfl (by kernel_rfl) (by kernel_rfl) (by kernel_rfl) (by kernel_rfl) (fun _ _ _ h => h) (by rfl) hkA ?_ ?_
          rotate_left
          · (intro w2' hSw; go_simp; (try with_reducible rfl))
          (try simp only [Act.put, List.setIfInBounds_toArray, List.set_cons_zero, List.set_cons_succ])
          refine wpTill_done (by kernel_rfl) ?_ _
          go_wp2_with fail
          go_meet
          exact ⟨congrArg Value.bool (decide_eq_decide.2 (by omega)), hkA⟩
    case rest =>
      obtain ⟨rfl, hBc⟩ := hcut
      have hkc := hk5.trans (hBc.mono hk5.size)
      clear x0 x1 x2 x3 x4 y0 y1 y2 y3 z0 z1 z2 z3 z4 f0 f1 f2 f3 f4
      obtain ⟨x0, x1, x2, x3, x4⟩ := (HAH.out wc hkc).1.2.1.cells
      obtain ⟨y0, y1, y2, y3⟩ := (HAH.out wc hkc).1.2.2.1.cells
      obtain ⟨z0, z1, z2, z3, z4⟩ := (HAH.out wc hkc).1.2.2.2.1.cells
      have f0 := (HAH.out wc hkc).1.2.2.2.1.free 0
      have f1 := (HAH.out wc hkc).1.2.2.2.1.free 1
      have f2 := (HAH.out wc hkc).1.2.2.2.1.free 2
      have f3 := (HAH.out wc hkc).1.2.2.2.1.free 3
      have f4 := (HAH.out wc hkc).1.2.2.2.1.free 4
      by_cases hlim : 4096 ≤ n ∨ 16777215 ≤ p.time ∨ 16384 < pc + (L : Int)
      · obtain rfl : r = (2, p) := by rw [← HRR.out, if_pos hlim]
        rw [decide_eq_true hlim]
        clear HRR
        go_wp2_with fail
        obtain ⟨q0, q1, q2, q3, q4⟩ := cells5 (set5 (HAH.out wc hkc).1.2.2.2.1 (.int .i64 p.tx) (.int .i64 p.time) (.int .i64 p.unit) (.int .i64 p.data) (.slice (some ⟨g2, 0, none⟩) n c))
        refine bodyPost_ret (v := .tuple #[.agg #[.int .i64 p.tx, .int .i64 p.time, .int .i64 p.unit, .int .i64 p.data, .slice (some ⟨g2, 0, none⟩) n c], .int .i64 2]) (by simp [results, Try.results36, go_sem, q0, q1, q2, q3, q4]) rfl ?_
        exact do_stop hl.out (HAH.out wc hkc).1 (HAH.out wc hkc).2.1 H3.out rfl (by simp) _ _ _ _ _
      · obtain rfl : r = (0, addF (stampF p k) o.dev (nth dev0 p.devs k).maps) := by rw [← HRR.out, if_neg hlim]
        rw [decide_eq_false hlim]
        clear HRR
        obtain ⟨m0, _, m2, _⟩ := HKM.out wc (HAH.out wc hkc).2.1
        have m1 := HC3.out wc (HAH.out wc hkc).2.1
        have fp := (HAH.out wc hkc).1.2.1.free 1
        have ht1 : (0 : Int) ≤ p.time + 1 := by omega
        have ht2 : p.time + 1 < 100000000 := by omega
        go_wp2_with fail
        obtain ⟨w6, hw6⟩ : ∃ x, (wc.setCell ⟨w.heap.size, 1, none⟩ (.int .i64 (p.time + 1))).setCell ⟨g2, k * 5 + 3, none⟩ (.int .i64 (p.time + 1)) = x := ⟨_, rfl⟩
        have hz6 : w6.heap.size = wc.heap.size := by rw [← hw6, World.size_setCell, World.size_setCell]
        have HZ6 := Lib.hid hz6
        obtain ⟨t1, t2, t3, t4, t5, t6⟩ := HS9.out wc (HAH.out wc hkc).1 (HAH.out wc hkc).2.1 w6 hw6
        rw [hw6]
        clear hw6 hz6 x0 x1 x2 x3 x4 y0 y1 y2 y3 z0 z1 z2 z3 z4 f0 f1 f2 f3 f4 m0 m1 m2 fp ht1 ht2
        have HT4 := Lib.hid t4
        have hlk := len_stamp p k
        have HT5 := Lib.hid t5
        have HKS := Lib.hid (fun w2 (hSw : Below w6.heap.size w6 w2) => (OwnDevs.cellM (t4.keep hSw (Nat.le_refl _)) (by rw [hlk, hl.out]; exact hkl)).1)
        simp only [HMK.out] at HKS
        clear t4 t5 hlk
        have htl : p.time < 16777215 := by omega
        refine wp_region_till (T := fun j => j == 10 || j == 11) (S := fun w' => Below w6.heap.size w6 w') (by kernel_rfl) (Below.refl w6.heap.size w6).drew (fun hHeld => ?_)
        obtain ⟨w105, hw0⟩ : ∃ x, w6.drew = x := ⟨_, rfl⟩
        rw [hw0] at hHeld ⊢
        have hkA : Below w6.heap.size w6 w105 := hHeld
        clear hHeld hw0
        refine wpTill_put 0 75 (oi := _) (v := ?_) rfl rfl (by kernel_rfl) (by kernel_rfl) (by kernel_rfl) (by kernel_rfl) (fun _ _ _ h => h) (by rfl) hkA ?_ ?_
        rotate_left
        · (intro w2' hSw; obtain ⟨x0, x1, x2, x3, x4⟩ := PBox.cells (box_up t1 hSw); go_simp; (try with_reducible rfl))
        (try simp only [Act.put, List.setIfInBounds_toArray, List.set_cons_zero, List.set_cons_succ])
        refine wpTill_put 1 76 (oi := _) (v := ?_) rfl rfl (by kernel_rfl) (by kernel_rfl) (by kernel_rfl) (by kernel_rfl) (fun _ _ _ h => h) (by rfl) hkA ?_ ?_
        rotate_left
        · (intro w2' hSw; go_simp; (try with_reducible rfl))
        (try simp only [Act.put, List.setIfInBounds_toArray, List.set_cons_zero, List.set_cons_succ])
        refine wpTill_put 2 77 (oi := _) (v := ?_) rfl rfl (by kernel_rfl) (by kernel_rfl) (by kernel_rfl) (by kernel_rfl) (fun _ _ _ h => h) (by rfl) hkA ?_ ?_
        rotate_left
        · (intro w2' hSw; obtain ⟨y0, y1, y2, y3⟩ := OBox.cells (box_up t2 hSw); go_simp; (try with_reducible rfl))
        (try simp only [Act.put, List.setIfInBounds_toArray, List.set_cons_zero, List.set_cons_succ])
        refine wpTill_put 3 78 (oi := _) (v := ?_) rfl rfl (by kernel_rfl) (by kernel_rfl) (by kernel_rfl) (by kernel_rfl) (fun _ _ _ h => h) (by rfl) hkA ?_ ?_
        rotate_left
        · (intro w2' hSw; go_simp; (try with_reducible rfl))
        (try simp only [Act.put, List.setIfInBounds_toArray, List.set_cons_zero, List.set_cons_succ])
        refine wpTill_put 4 79 (oi := _) (v := ?_) rfl rfl (by kernel_rfl) (by kernel_rfl) (by kernel_rfl) (by kernel_rfl) (fun _ _ _ h => h) (by rfl) hkA ?_ ?_
        rotate_left
        · (intro w2' hSw; obtain ⟨x0, x1, x2, x3, x4⟩ := PBox.cells (box_up t1 hSw); go_simp; (try with_reducible rfl))
        (try simp only [Act.put, List.setIfInBounds_toArray, List.set_cons_zero, List.set_cons_succ])
        refine wpTill_put 5 80 (oi := _) (v := ?_) rfl rfl (by kernel_rfl) (by kernel_rfl) (by kernel_rfl) (by kernel_rfl) (fun _ _ _ h => h) (by rfl) hkA ?_ ?_
        rotate_left
        · (intro w2' hSw; go_simp; (try with_reducible rfl))
        (try simp only [Act.put, List.setIfInBounds_toArray, List.set_cons_zero, List.set_cons_succ])
        refine wpTill_put 6 81 (oi := _) (v := ?_) rfl rfl (by kernel_rfl) (by kernel_rfl) (by kernel_rfl) (by kernel_rfl) (fun _ _ _ h => h) (by rfl) hkA ?_ ?_
        rotate_left
        · (intro w2' hSw; go_simp; (try with_reducible rfl))
        (try simp only [Act.put, List.setIfInBounds_toArray, List.set_cons_zero, List.set_cons_succ])
        refine wpTill_put 7 82 (oi := _) (v := ?_) rfl rfl (by kernel_rfl) (by kernel_rfl) (by kernel_rfl) (by kernel_rfl) (fun _ _ _ h => h) (by rfl) hkA ?_ ?_
        rotate_left
        · (intro w2' hSw; go_simp; (try with_reducible rfl))
        (try simp only [Act.put, List.setIfInBounds_toArray, List.set_cons_zero, List.set_cons_succ])
        refine wpTill_put 8 83 (oi := _) (v := ?_) rfl rfl (by kernel_rfl) (by kernel_rfl) (by kernel_rfl) (by kernel_rfl) (fun _ _ _ h => h) (by rfl) hkA ?_ ?_
        rotate_left
        · (intro w2' hSw; have m0 := HKS.out w2' hSw; go_simp; (try with_reducible rfl))
        (try simp only [Act.put, List.setIfInBounds_toArray, List.set_cons_zero, List.set_cons_succ])
        refine wpTill_one 9 (o := _) (by kernel_rfl) rfl (fun K hK => ?_)
        go_simp
        refine (HWS.out w105 (by have := hkA.size; omega) (HT4.out.keep hkA (Nat.le_refl _)) htl).mono ?_
        rintro e w106 ⟨A5, c5, M5, rfl, h5, hBn, hv5, hM5⟩
        have hzA := hkA.size
        have hkA := hkA.trans (hBn.mono hkA.size)
        have HV5 := Lib.hid (fun x hx => Nat.le_trans (Nat.le_trans (Nat.le_of_eq HZ6.out.symm) hzA) (hv5 x hx))
        have HM5 := Lib.hid (fun j x hx => (hM5 j x hx).imp id (fun h => Nat.le_trans (Nat.le_trans (Nat.le_of_eq HZ6.out.symm) hzA) h))
        clear hv5 hM5 hzA hBn
        refine hK.out _ _ (fun _ => hkA) (fun _ => ?_)
        clear hK K
        (try simp only [Act.put, List.setIfInBounds_toArray, List.set_cons_zero, List.set_cons_succ])
        refine wpTill_one 10 (o := _) (by kernel_rfl) rfl (fun K hK => ?_)
        obtain ⟨z0, z1, z2, z3, z4⟩ := RBox.cells (box_up t3 hkA)
        have f0 := free_of (box_up t3 hkA) 0
        have f1 := free_of (box_up t3 hkA) 1
        have f2 := free_of (box_up t3 hkA) 2
        have f3 := free_of (box_up t3 hkA) 3
        have f4 := free_of (box_up t3 hkA) 4
        go_simp
        obtain ⟨w107, hwn⟩ : ∃ x, (((((w106.setCell ⟨w.heap.size + 1 + 1, 0, none⟩ (.int .i64 (addF (stampF p k) o.dev (nth dev0 p.devs k).maps).tx)).setCell ⟨w.heap.size + 1 + 1, 1, none⟩ (.int .i64 (addF (stampF p k) o.dev (nth dev0 p.devs k).maps).time)).setCell ⟨w.heap.size + 1 + 1, 2, none⟩ (.int .i64 (addF (stampF p k) o.dev (nth dev0 p.devs k).maps).unit)).setCell ⟨w.heap.size + 1 + 1, 3, none⟩ (.int .i64 (addF (stampF p k) o.dev (nth dev0 p.devs k).maps).data)).setCell ⟨w.heap.size + 1 + 1, 4, none⟩ (.slice A5 (addF (stampF p k) o.dev (nth dev0 p.devs k).maps).devs.length c5)) = x := ⟨_, rfl⟩
        have hq5 := cells5 (set5 (box_up t3 hkA) (.int .i64 (addF (stampF p k) o.dev (nth dev0 p.devs k).maps).tx) (.int .i64 (addF (stampF p k) o.dev (nth dev0 p.devs k).maps).time) (.int .i64 (addF (stampF p k) o.dev (nth dev0 p.devs k).maps).unit) (.int .i64 (addF (stampF p k) o.dev (nth dev0 p.devs k).maps).data) (.slice A5 (addF (stampF p k) o.dev (nth dev0 p.devs k).maps).devs.length c5))
        have hfin := do_with (HAH.out wc hkc).1 h5 H3.out hl.out (HT5.out.trans (Touch.of_below hkA)) HV5.out HM5.out (.int .i64 (addF (stampF p k) o.dev (nth dev0 p.devs k).maps).tx) (.int .i64 (addF (stampF p k) o.dev (nth dev0 p.devs k).maps).time) (.int .i64 (addF (stampF p k) o.dev (nth dev0 p.devs k).maps).unit) (.int .i64 (addF (stampF p k) o.dev (nth dev0 p.devs k).maps).data) (.slice A5 (addF (stampF p k) o.dev (nth dev0 p.devs k).maps).devs.length c5)
        rw [hwn] at hq5 hfin ⊢
        clear hwn
        refine hK.out _ _ (fun h => by cases h) (fun _ => ?_)
        clear hK K
        (try simp only [Act.put, List.setIfInBounds_toArray, List.set_cons_zero, List.set_cons_succ])
        refine wpTill_one 11 (o := _) (by kernel_rfl) rfl (fun K hK => ?_)
        go_simp
        refine hK.out _ _ (fun h => by cases h) (fun _ => ?_)
        clear hK K
        (try simp only [Act.put, List.setIfInBounds_toArray, List.set_cons_zero, List.set_cons_succ])
        refine wpTill_done (by kernel_rfl) ?_ _
        go_wp2_with fail
        obtain ⟨q0, q1, q2, q3, q4⟩ := hq5
        refine bodyPost_ret (v := .tuple #[.agg #[.int .i64 (addF (stampF p k) o.dev (nth dev0 p.devs k).maps).tx, .int .i64 (addF (stampF p k) o.dev (nth dev0 p.devs k).maps).time, .int .i64 (addF (stampF p k) o.dev (nth dev0 p.devs k).maps).unit, .int .i64 (addF (stampF p k) o.dev (nth dev0 p.devs k).maps).data, .slice A5 (addF (stampF p k) o.dev (nth dev0 p.devs k).maps).devs.length c5], .int .i64 0]) (by simp [results, Try.results36, go_sem, q0, q1, q2, q3, q4]) rfl hfin
end Go.Proofs.Ytjeeheeaickokaa

/- The reference's write of one virtual block (scantlingref49), as far as its place. Condition: the pool may be, and lies in memory of the call's own. -/
namespace Go.Proofs.Ytjeeheeaickokaa

open Go.RowKit
attribute [local go_sem] Oper.semAt_some
set_option linter.unusedSimpArgs false
set_option linter.unusedVariables false

/-- The two boxes that write makes at its head. -/
def Two (w W : World) (p : Pool) (A : Option Addr) (n c : Nat) : Prop :=
  Below w.heap.size w W ∧ PBox W w.heap.size p A n c ∧ RBox W (w.heap.size + 1) (.int .i64 0) (.int .i64 0) (.int .i64 0) (.int .i64 0) (.slice none 0 0) ∧ w.heap.size + 2 ≤ W.heap.size
theorem two_new (w : World) (p : Pool) (A : Option Addr) (n c : Nat) : Two w ((w.alloc (poolBox p A n c)).alloc zeroBox) p A n c := by
  have h3 : RBox ((w.alloc (poolBox p A n c)).alloc zeroBox) (w.heap.size + 1) (.int .i64 0) (.int .i64 0) (.int .i64 0) (.int .i64 0) (.slice none 0 0) := by
    have := heap_alloc_new (w.alloc (poolBox p A n c)) zeroBox
    simp only [World.size_alloc] at this
    exact this
  exact ⟨((Below.refl _ _).alloc (Nat.le_refl _) _).alloc (by simp) _, box_up (PBox.new w p A n c) ((Below.refl _ _).alloc (Nat.le_refl _) _), h3, by simp⟩
theorem Two.below {w W W' : World} {p : Pool} {A : Option Addr} {n c : Nat} (h : Two w W p A n c) (hB : Below W.heap.size W W') : Two w W' p A n c :=
  ⟨h.1.trans (hB.mono h.1.size), box_up h.2.1 hB, box_up h.2.2.1 hB, Nat.le_trans h.2.2.2 hB.size⟩
theorem wr_stop {w W : World} {base n c : Nat} {p : Pool} {A : Option Addr} {M : Nat → Value} {r : Int × Pool} (hn : p.devs.length = n) (hT : Two w W p A n c) (hown : OwnDevs W base (.slice A n c) p.devs M) (h0 : OwnDevs w base (.slice A n c) p.devs M) {cd : Int} (hcd : cd = r.1) (hr : r.1 = 0 → p = r.2) (u0 u1 u2 u3 u4 : Value) :
    DoR w base (.slice A n c) n M r (.returned (.tuple #[.agg #[.int .i64 p.tx, .int .i64 p.time, .int .i64 p.unit, .int .i64 p.data, .slice A n c], .int .i64 cd])) (((((W.setCell ⟨w.heap.size + 1, 0, none⟩ u0).setCell ⟨w.heap.size + 1, 1, none⟩ u1).setCell ⟨w.heap.size + 1, 2, none⟩ u2).setCell ⟨w.heap.size + 1, 3, none⟩ u3).setCell ⟨w.heap.size + 1, 4, none⟩ u4) :=
  do_ret hown hn (Touch.of_below hT.1) (by omega) (fun h => by have := own1_lt h0 hn _ h; omega) hr (fun x hx => .inl hx) hcd _ _ _ _ _
/-- What write's call finds. -/
def WrAhead (n : Nat) (w w2 : World) (base c : Nat) (p : Pool) (A : Option Addr) (M : Nat → Value) : Prop :=
  ∀ w', Below w2.heap.size w2 w' → Two w w' p A n c ∧ OwnDevs w' base (.slice A n c) p.devs M ∧ IsPool w' (Lt w.heap.size) (.agg #[.int .i64 p.tx, .int .i64 p.time, .int .i64 p.unit, .int .i64 p.data, .slice A n c]) p
theorem wr_ahead {w w2 : World} {base c : Nat} {p : Pool} {A : Option Addr} {M : Nat → Value} (h3 : OwnDevs w base (.slice A p.devs.length c) p.devs M) (T : Two w w2 p A p.devs.length c) : WrAhead p.devs.length w w2 base c p A M := by
  intro w' hB
  have hT := T.below hB
  exact ⟨hT, h3.keep hT.1 (Nat.le_refl _), pool_keep (OwnP.isp h3) (fun b hb => hb.2) (keep_below hT.1 (fun b hb => hb.2))⟩
/-- The mappings of device k, cell by cell. -/
theorem wr_maps {w : World} {base n c k cm L : Nat} {g2 : Nat} {Am : Option Addr} {p : Pool} {M : Nat → Value} (h : OwnDevs w base (.slice (some ⟨g2, 0, none⟩) n c) p.devs M) (hk : k < p.devs.length) (hM : M k = .slice Am L cm) :
    w.cell? ⟨g2, k * 5 + 4, none⟩ = some (.slice Am L cm) ∧ OwnMaps w base (.slice Am L cm) (mapsOf p k) ∧ IsMaps w (Btw base w.heap.size) (.slice Am L cm) (mapsOf p k) := by
  have h1 := h.cellM hk
  rw [hM] at h1
  obtain ⟨xs, _, hc, _⟩ := h
  have hm := (hc k hk).2.1
  rw [hM] at hm
  exact ⟨h1.1, hm, OwnMaps.isl hm (fun b h1 h2 => ⟨h1, h2⟩)⟩
theorem src_take {w : World} {A : Option Addr} {l : List Mp} (i : Nat) (h : ∀ d, A = some d → ∀ j u, (flats Mp.enc l)[j]? = some u → w.cell? (d.add j) = some u) : ∀ d, A = some d → ∀ j u, (flats Mp.enc (l.take i))[j]? = some u → w.cell? (d.add j) = some u := by
  intro d hd j u hj
  refine h d hd j u ?_
  have e : flats Mp.enc l = flats Mp.enc (l.take i) ++ flats Mp.enc (l.drop i) := by rw [← flats_append, List.take_append_drop]
  rw [e, List.getElem?_append_left (List.getElem?_eq_some_iff.1 hj).1]
  exact hj
theorem app_step {w5 wa wb : World} {v v' : Value} (hB : Below w5.heap.size w5 wa) (hlo : ∀ x, v.ownBlock = some x → w5.heap.size ≤ x) (hg : wa.grownBy wb v.ownBlock) (hb : ∀ x, v'.ownBlock = some x → v.ownBlock = some x ∨ x = wa.heap.size) :
    Below w5.heap.size w5 wb ∧ ∀ x, v'.ownBlock = some x → w5.heap.size ≤ x := by
  refine ⟨hB.grown hg hB.size (fun k hk => hlo k hk), fun x hx => ?_⟩
  rcases hb x hx with h | h
  · exact hlo x h
  · rw [h]; exact hB.size
theorem app_lo {w5 w6 : World} (h : w5.heap.size ≤ w6.heap.size) : ∀ x, (Value.slice (some ⟨w6.heap.size, 0, none⟩) 0 0).ownBlock = some x → w5.heap.size ≤ x := fun x hx => by
  have : w6.heap.size = x := by simpa [Value.ownBlock] using hx
  omega
theorem app_lt {w6 : World} {b : Nat} (h : b < w6.heap.size) (o : Obj) : b < (w6.alloc o).heap.size := by simp; omega
theorem app_ne {w6 : World} {b : Nat} (h : b < w6.heap.size) : some b ≠ (Value.slice (some ⟨w6.heap.size, 0, none⟩) 0 0).ownBlock := fun e => by
  have : b = w6.heap.size := by simpa [Value.ownBlock] using e
  omega
theorem add_add (a : Addr) (i j : Nat) : (a.add i).add j = a.add (i + j) := by
  unfold Addr.add
  by_cases h : i = 0
  · subst h; simp
  · by_cases h2 : j = 0
    · subst h2; simp [h]
    · simp [h, h2, Nat.add_assoc]
theorem src_drop {w : World} {A : Option Addr} {l : List Mp} {L cm : Nat} (i : Nat) (hi : i ≤ L) (hc : L ≤ cm) (hl : l.length = L) (h : (∀ d, A = some d → ∀ j u, (flats Mp.enc l)[j]? = some u → w.cell? (d.add j) = some u) ∧ (A = none → L = 0)) :
    (∀ d, (if cm = i then A else Option.map (fun x => x.add (i * 3)) A) = some d → ∀ j u, (flats Mp.enc (l.drop i))[j]? = some u → w.cell? (d.add j) = some u) ∧ ((if cm = i then A else Option.map (fun x => x.add (i * 3)) A) = none → L - i = 0) := by
  subst hl
  by_cases e : cm = i
  · rw [if_pos e]
    refine ⟨fun d _ j u hj => ?_, fun _ => by omega⟩
    rw [List.drop_of_length_le (by omega)] at hj
    simp [flats] at hj
  · rw [if_neg e]
    refine ⟨fun d hd j u hj => ?_, fun hd => ?_⟩
    · obtain ⟨a, ha, rfl⟩ := Option.map_eq_some_iff.1 hd
      have e2 : flats Mp.enc l = flats Mp.enc (l.take i) ++ flats Mp.enc (l.drop i) := by rw [← flats_append, List.take_append_drop]
      have hlt : (flats Mp.enc (l.take i)).length = i * 3 := by rw [flats_length Mp.enc_len, List.length_take]; omega
      have h1 := h.1 a ha (i * 3 + j) u (by rw [e2, List.getElem?_append_right (by omega), hlt, Nat.add_sub_cancel_left]; exact hj)
      rw [add_add]
      exact h1
    · have : A = none := by simpa using hd
      have := h.2 this
      omega
/-- A mapping is put in. -/
theorem rins_fin {w w5 w9 W : World} {base n c k L g2 at' c9 : Nat} {p : Pool} {A9 : Option Addr} {M : Nat → Value} {x : Mp} {u : Value} (hn : p.devs.length = n) (T : Two w w5 p (some ⟨g2, 0, none⟩) n c) (h0 : OwnDevs w base (.slice (some ⟨g2, 0, none⟩) n c) p.devs M) (h5 : OwnDevs w5 base (.slice (some ⟨g2, 0, none⟩) n c) p.devs M) (hk : k < n) (hL : (mapsOf p k).length = L) (hat : at' ≤ L) (hb : base ≤ w.heap.size)
    (hu : u = .slice A9 (at' + 1 + (L - at')) c9) (hB : Below w5.heap.size w5 w9 ∧ ∀ x, u.ownBlock = some x → w5.heap.size ≤ x) (ho : w9.ownsRow (w.heap.size + 2) 49 3 u (at' + 1 + (L - at')) (flats Mp.enc ((mapsOf p k).take at') ++ Mp.enc x ++ flats Mp.enc ((mapsOf p k).drop at'))) (hW : w9.setCell ⟨g2, k * 5 + 4, none⟩ u = W) :
    OwnDevs W base (.slice (some ⟨g2, 0, none⟩) n c) (setMaps p k (insAt (mapsOf p k) at' x)).devs (fun j => if j = k then u else M j) ∧ RBox W (w.heap.size + 1) (.int .i64 0) (.int .i64 0) (.int .i64 0) (.int .i64 0) (.slice none 0 0) ∧ PBox W w.heap.size p (some ⟨g2, 0, none⟩) n c ∧ Touch (Own1 (.slice (some ⟨g2, 0, none⟩) n c) n M) w W ∧
      ¬ Own1 (.slice (some ⟨g2, 0, none⟩) n c) n (fun j => if j = k then u else M j) (w.heap.size + 1) ∧ ∀ y, Own1 (.slice (some ⟨g2, 0, none⟩) n c) n (fun j => if j = k then u else M j) y → Own1 (.slice (some ⟨g2, 0, none⟩) n c) n M y ∨ w.heap.size ≤ y := by
  subst hn hL hW
  have hlt := own1_lt h0 rfl
  have hg2 := (hlt g2 (.inl rfl)).2
  have hz5 := T.2.2.2
  have hlen : (insAt (mapsOf p k) at' x).length = at' + 1 + ((mapsOf p k).length - at') := by rw [insAt_length _ _ _ hat]; omega
  have hfl : flats Mp.enc (insAt (mapsOf p k) at' x) = flats Mp.enc ((mapsOf p k).take at') ++ Mp.enc x ++ flats Mp.enc ((mapsOf p k).drop at') := by
    have e : insAt (mapsOf p k) at' x = (mapsOf p k).take at' ++ [x] ++ (mapsOf p k).drop at' := by unfold insAt; simp
    rw [e, flats_append, flats_append, flats_one]
  have hgr : w5.grownBy w9 (M k).ownBlock := ⟨hB.1.os, hB.1.tape, hB.1.output, hB.1.size, fun j hj _ => hB.1.block j hj⟩
  have hown : OwnMaps w9 base u (insAt (mapsOf p k) at' x) := by
    show w9.ownsRow base _ 3 u (insAt (mapsOf p k) at' x).length _
    rw [hlen, hfl]
    exact own_low ho (by omega)
  have h6 := h5.put (d := ⟨(nth dev0 p.devs k).id, (nth dev0 p.devs k).tx, (nth dev0 p.devs k).made, (nth dev0 p.devs k).snapped, insAt (mapsOf p k) at' x⟩) hk hgr hown (fun y hy => .inr (hB.2 y hy)) ⟨rfl, rfl, rfl, rfl⟩
  have hO : ∀ y, Own1 (.slice (some ⟨g2, 0, none⟩) p.devs.length c) p.devs.length (fun j => if j = k then u else M j) y → Own1 (.slice (some ⟨g2, 0, none⟩) p.devs.length c) p.devs.length M y ∨ w5.heap.size ≤ y := by
    rintro y (hy | ⟨j, hj, hy⟩)
    · exact .inl (.inl hy)
    · simp only at hy
      split at hy
      · exact .inr (hB.2 y hy)
      · exact .inl (.inr ⟨j, hj, hy⟩)
  refine ⟨h6, ?_, ?_, ?_, fun h => ?_, fun y hy => ?_⟩
  · exact (Below.heap_setCell w9 ⟨g2, k * 5 + 4, none⟩ u _ (by simp only [ne_eq]; omega)).trans (box_up T.2.2.1 hB.1)
  · exact (Below.heap_setCell w9 ⟨g2, k * 5 + 4, none⟩ u _ (by simp only [ne_eq]; omega)).trans (box_up T.2.1 hB.1)
  · exact ((Touch.of_below T.1).trans (Touch.of_below hB.1)).trans (Touch.set_ (p := ⟨g2, k * 5 + 4, none⟩) (.inl rfl))
  · rcases hO _ h with h | h
    · have := hlt _ h; omega
    · omega
  · rcases hO _ hy with h | h
    · exact .inl h
    · exact .inr (by omega)
/-- The cells that a replaced mapping lies in. -/
theorem put_cells {w : World} {base gm L cm j : Nat} {l : List Mp} (h : OwnMaps w base (.slice (some ⟨gm, 0, none⟩) L cm) l) (hj : j < l.length) :
    w.cell? ⟨gm, j * 3, none⟩ = some (.int .i64 (nth mp0 l j).v) ∧ w.cell? ⟨gm, j * 3 + 1, none⟩ = some (.int .i64 (nth mp0 l j).b) ∧ w.cell? ⟨gm, j * 3 + 2, none⟩ = some (.int .i64 (nth mp0 l j).t) ∧ (∀ o, w.frozen? ⟨gm, o, none⟩ = false) ∧ gm < w.heap.size := by
  have h' : w.ownsRow base 49 3 (.slice (some ⟨gm, 0, none⟩) L cm) l.length (flats Mp.enc l) := h
  obtain rfl : L = l.length := own_n h'
  refine ⟨?_, ?_, ?_, fun o => h'.frozenAt o, (h'.lt gm rfl).2⟩
  · rw [h'.cellAt (j * 3) (by omega)]; exact flats_get (d := mp0) Mp.enc_len l j 0 _ hj rfl
  · rw [h'.cellAt (j * 3 + 1) (by omega)]; exact flats_get (d := mp0) Mp.enc_len l j 1 _ hj rfl
  · rw [h'.cellAt (j * 3 + 2) (by omega)]; exact flats_get (d := mp0) Mp.enc_len l j 2 _ hj rfl
/-- A mapping is replaced where it lies. -/
theorem rput_fin {w w5 : World} {base n c k cm L gm j : Nat} {p : Pool} {A : Option Addr} {M : Nat → Value} {x : Mp} (hn : p.devs.length = n) (T : Two w w5 p A n c) (h0 : OwnDevs w base (.slice A n c) p.devs M) (h5 : OwnDevs w5 base (.slice A n c) p.devs M) (hk : k < n) (hM : M k = .slice (some ⟨gm, 0, none⟩) L cm) (hL : (mapsOf p k).length = L) (hj : j < L) (o : Obj) (W : World)
    (hW : (((w5.setCell ⟨gm, j * 3, none⟩ (.int .i64 x.v)).setCell ⟨gm, j * 3 + 1, none⟩ (.int .i64 x.b)).setCell ⟨gm, j * 3 + 2, none⟩ (.int .i64 x.t)).alloc o = W) :
    OwnDevs W base (.slice A n c) (setMaps p k ((mapsOf p k).set j x)).devs M ∧ PBox W w.heap.size p A n c ∧ RBox W (w.heap.size + 1) (.int .i64 0) (.int .i64 0) (.int .i64 0) (.int .i64 0) (.slice none 0 0) ∧ Touch (Own1 (.slice A n c) n M) w W := by
  subst hn hL
  have h5' := h5
  obtain ⟨xs, _, hc, _⟩ := h5'
  have hm := (hc k hk).2.1
  rw [hM] at hm
  have hgl := (own1_lt h0 rfl) gm (.inr ⟨k, hk, by rw [hM]; rfl⟩)
  have hs := (own_set3 hm x hj rfl).alloc o
  have hg : w5.grownBy W (M k).ownBlock := by
    rw [hM, ← hW]
    exact ⟨rfl, rfl, rfl, by simp, fun y hylt hne => by
      have hy : y ≠ gm := fun e => hne (by rw [e]; rfl)
      exact (Below.heap_alloc _ o y (by simpa using hylt)).trans ((Below.heap_setCell _ ⟨gm, j * 3 + 2, none⟩ _ y hy).trans ((Below.heap_setCell _ ⟨gm, j * 3 + 1, none⟩ _ y hy).trans (Below.heap_setCell _ ⟨gm, j * 3, none⟩ _ y hy)))⟩
  rw [hW] at hs
  refine ⟨?_, ?_, ?_, ?_⟩
  · refine h5.inplace hk hg ?_ ⟨rfl, rfl, rfl, rfl⟩
    rw [hM]
    show W.ownsRow base _ 3 _ ((mapsOf p k).set j x).length _
    rw [List.length_set]
    exact hs
  · exact (hg.block _ T.2.1.lt (fun e => by rw [hM] at e; have e2 : w.heap.size = gm := by simpa [Value.ownBlock] using e
                                            omega)).trans T.2.1
  · exact (hg.block _ (box_lt T.2.2.1) (fun e => by rw [hM] at e; have e2 : w.heap.size + 1 = gm := by simpa [Value.ownBlock] using e
                                                    omega)).trans T.2.2.1
  · exact (Touch.of_below T.1).trans (Touch.of_grown hg (fun y hy => .inr ⟨k, hk, hy⟩))
set_option maxRecDepth 100000 in
set_option maxHeartbeats 3200000 in
theorem rwrite_any (w : World) (base c : Nat) (p : Pool) (A : Option Addr) (M : Nat → Value) (k : Nat) (v : Int) (h3 : OwnDevs w base (.slice A p.devs.length c) p.devs M) (hb : base ≤ w.heap.size) (hpc : poolChk p = 0) (hk : k < p.devs.length) :
    Calls Try.prog 51 #[.agg #[.int .i64 p.tx, .int .i64 p.time, .int .i64 p.unit, .int .i64 p.data, .slice A p.devs.length c], .int .i64 (k : Nat), .int .i64 v] w (DoR w base (.slice A p.devs.length c) p.devs.length M (wr1 p k v)) := by
  have T := two_new w p A p.devs.length c
  dsimp only [poolBox, zeroBox] at T
  have HAH := Lib.hid (wr_ahead h3 T)
  have hln := pool_len hpc
  have hfit := fit_iff.1 hpc
  have H3 := Lib.hid h3
  obtain ⟨g2, c2, hv, hbg2, hg2, hnc⟩ : ∃ g2 c2, (Value.slice A p.devs.length c) = .slice (some ⟨g2, 0, none⟩) p.devs.length c2 ∧ base ≤ g2 ∧ g2 < w.heap.size ∧ p.devs.length ≤ c2 := by
    obtain ⟨xs, r1, _⟩ := h3
    exact own_form r1 (by omega)
  injection hv with e1 _ e3
  subst e1 e3
  obtain ⟨_, _, _, Am, cm, hMk, hcm⟩ := h3.cellM hk
  have hml := maps_len hpc hk
  have e0 : (nth dev0 p.devs k).maps = mapsOf p k := rfl
  rw [e0] at hMk hcm hml
  have HWM := Lib.hid (fun w' (h : OwnDevs w' base (.slice (some ⟨g2, 0, none⟩) p.devs.length c) p.devs M) => wr_maps h hk hMk)
  have HMK := Lib.hid hMk
  have HINC := Lib.hid (inc_of hfit hk)
  have HPC := Lib.hid hpc
  have HKL := Lib.hid hk
  have hHAS := hasK_pos (v := v) (inc_of hfit hk)
  have HPB := Lib.hid (fun j hj => posK_below (f := Mp.v) (d := mp0) (v := v) (l := mapsOf p k) j hj)
  have hple : posK Mp.v v (mapsOf p k) ≤ (mapsOf p k).length := posK_le
  have HPA := Lib.hid (fun h => posK_at (f := Mp.v) (d := mp0) (v := v) (l := mapsOf p k) h)
  have HHAS := Lib.hid hHAS
  have HW : Hid (wr1 p k v = if hasK Mp.v v (mapsOf p k) = true ∧ cntAt p k (posK Mp.v v (mapsOf p k)) = 1 then (0, p)
    else if hasK Mp.v v (mapsOf p k) = false ∧ 16384 ≤ p.count then (2, p)
    else if freeAt (refsRes p) = (refsRes p).length then (14, p)
    else if hasK Mp.v v (mapsOf p k) = true then (0, setMaps p k ((mapsOf p k).set (posK Mp.v v (mapsOf p k)) ⟨v, freeAt (refsRes p), p.time⟩))
    else (0, setMaps p k (insAt (mapsOf p k) (posK Mp.v v (mapsOf p k)) ⟨v, freeAt (refsRes p), p.time⟩))) := Lib.hid rfl
  have hok := fit_ok hfit
  have hcn := hfit.2.2.1
  have HRF := Lib.hid (fun w' (hz : w.heap.size ≤ w'.heap.size) (h : IsPool w' (Lt w.heap.size) (.agg #[.int .i64 p.tx, .int .i64 p.time, .int .i64 p.unit, .int .i64 p.data, .slice (some ⟨g2, 0, none⟩) p.devs.length c]) p) => rrefs_any w' (Lt w.heap.size) _ p (fun b (hb : b < w.heap.size) => Nat.lt_of_lt_of_le hb hz) h hok)
  have HCT := Lib.hid (fun w' (hz : w.heap.size ≤ w'.heap.size) (h : IsPool w' (Lt w.heap.size) (.agg #[.int .i64 p.tx, .int .i64 p.time, .int .i64 p.unit, .int .i64 p.data, .slice (some ⟨g2, 0, none⟩) p.devs.length c]) p) => rcount_any w' (Lt w.heap.size) _ p (fun b (hb : b < w.heap.size) => Nat.lt_of_lt_of_le hb hz) h (by omega) (by omega))
  have HFI := Lib.hid (fun w' (hz : w.heap.size ≤ w'.heap.size) (h : IsPool w' (Lt w.heap.size) (.agg #[.int .i64 p.tx, .int .i64 p.time, .int .i64 p.unit, .int .i64 p.data, .slice (some ⟨g2, 0, none⟩) p.devs.length c]) p) => rfirst_any w' (Lt w.heap.size) _ p (fun b (hb : b < w.heap.size) => Nat.lt_of_lt_of_le hb hz) h hok hpc)
  have HCP := Lib.hid (fun j hj => cnt_pos hfit hk (j := j) hj)
  have HRL := Lib.hid (refs_leng hpc)
  clear hok
  clear h3 hpc hfit hMk hHAS e0
  generalize hLL : (mapsOf p k).length = L at *
  have HLL := Lib.hid hLL
  clear hLL
  generalize hl0 : p.devs.length = n at *
  have hl := Lib.hid hl0
  clear hl0
  generalize hat : posK Mp.v v (mapsOf p k) = at' at *
  have HAT := Lib.hid hat
  clear hat
  generalize wr1 p k v = r at *
  go_enter Try.func51, Try.ntmps51
  go_upto_region 1 with fail
  generalize (w.alloc (.cells #[.int .i64 p.tx, .int .i64 p.time, .int .i64 p.unit, .int .i64 p.data, .slice (some ⟨g2, 0, none⟩) n c] 24)).alloc (.cells #[.int .i64 0, .int .i64 0, .int .i64 0, .int .i64 0, .slice none 0 0] 24) = w2 at *
  have hk2 := Below.refl w2.heap.size w2
  obtain ⟨x0, x1, x2, x3, x4⟩ := (HAH.out w2 hk2).1.2.1.cells
  obtain ⟨m0, _⟩ := HWM.out w2 (HAH.out w2 hk2).2.1
  have hkn : (k : Int) < (n : Int) := by omega
  go_upto_block 0 with fail
  go_cut [9] (fun s9 wx => s9 = .int .i64 (at' : Nat) ∧ wx = w2)
  case first =>
    go_wp2_with fail
    go_loop [9] (fun i => ∃ j : Nat, i = .int .i64 j ∧ j ≤ at') (fun i => L - (intOf i).toNat)
    case atStart => exact ⟨0, rfl, by omega⟩
    case round =>
      obtain ⟨j, rfl, hj⟩ := hrel
      by_cases hjl : j < L
      · obtain ⟨gm, om, rfl, hgm, hcl⟩ := maps_cells (IsSl.slice_ (HWM.out w2 (HAH.out w2 hk2).2.1).2.2).2.2 (by rw [HLL.out]; omega)
        have c0 := (hcl j (by rw [HLL.out]; exact hjl)).1
        clear hcl
        by_cases hlt : j < at'
        · have hv := HPB.out j hlt
          have hvb : decide ((nth mp0 (mapsOf p k) j).v < v) = true := decide_eq_true hv
          generalize (nth mp0 (mapsOf p k) j).v = y at *
          go_wp2_with fail
          go_round
          case rel => exact ⟨j + 1, by go_num, by omega⟩
          case measure => simp [intOf]; omega
        · obtain rfl : j = at' := by omega
          have hv : ¬ (nth mp0 (mapsOf p k) j).v < v := by have := HPA.out hjl; omega
          have hvb : decide ((nth mp0 (mapsOf p k) j).v < v) = false := decide_eq_false hv
          clear HPA HPB
          generalize (nth mp0 (mapsOf p k) j).v = y at *
          go_wp2_with fail
          go_meet
          exact ⟨rfl, rfl⟩
      · obtain rfl : j = at' := by omega
        go_wp2_with fail
        go_meet
        exact ⟨rfl, rfl⟩
  case rest =>
    obtain ⟨rfl, hwc⟩ := hcut
    have hwc := hwc.symm
    subst hwc
    go_upto_region 5 with fail
    go_cut [10] (fun s10 wx => s10 = .bool (hasK Mp.v v (mapsOf p k)) ∧ wx = w2)
    case first =>
      by_cases hjl : at' < L
      · obtain ⟨gm, om, rfl, hgm, hcl⟩ := maps_cells (IsSl.slice_ (HWM.out w2 (HAH.out w2 hk2).2.1).2.2).2.2 (by rw [HLL.out]; omega)
        have c0 := (hcl at' (by rw [HLL.out]; exact hjl)).1
        clear hcl
        generalize hy : (nth mp0 (mapsOf p k) at').v = y at *
        have HY := Lib.hid hy
        clear hy
        go_wp2_with fail
        go_meet
        exact ⟨congrArg Value.bool (by rw [HHAS.out]; simp [hjl]; rfl), rfl⟩
      · have HH := Lib.hid (show hasK Mp.v v (mapsOf p k) = false by rw [HHAS.out]; simp [hjl])
        go_wp2_with fail
        go_meet
        exact ⟨congrArg Value.bool HH.out.symm, rfl⟩
    case rest =>
      obtain ⟨rfl, hwc⟩ := hcut
      have hwc := hwc.symm
      subst hwc
      cases hh : hasK Mp.v v (mapsOf p k) with
      | true =>
        obtain ⟨hjl0, hve0⟩ : at' < L ∧ (nth mp0 (mapsOf p k) at').v = v := by rw [HHAS.out] at hh; simpa using hh
        obtain ⟨gm, cm', hvm, _, hgmz, _⟩ := own_form (HWM.out w2 (HAH.out w2 hk2).2.1).2.1 (by rw [HLL.out]; omega)
        injection hvm with e1 e2 e3
        subst e1 e3
        clear e2
        have HCM := Lib.hid (fun w' (hB : Below w2.heap.size w2 w') => put_cells (HWM.out w' (HAH.out w' hB).2.1).2.1 (j := at') (by rw [HLL.out]; exact hjl0))
        have HGM := Lib.hid hgmz
        go_upto_region 6 with fail
        go_cut [60] (fun s60 wx => s60 = .bool (decide (cntAt p k at' = 1)) ∧ Below w2.heap.size w2 wx)
        case first =>
          have hjl := hjl0
          have hve := hve0
          clear hjl0 hve0
          obtain ⟨hc1, hc2, hc3⟩ := HCP.out at' hjl
          rw [← HRL.out] at hc3
          have HCC := Lib.hid (show cntAt p k at' = nth 0 (refsRes p) (nth mp0 (mapsOf p k) at').b.toNat from rfl)
          have HCB := Lib.hid (fun w' (hB : Below w2.heap.size w2 w') => (maps_cells (IsSl.slice_ (HWM.out w' (HAH.out w' hB).2.1).2.2).2.2 (by rw [HLL.out]; omega)))
          have HCB2 := Lib.hid (fun w' (hB : Below w2.heap.size w2 w') => (by
            obtain ⟨g', o', e, _, h⟩ := HCB.out w' hB
            have e1 : gm = g' := by injection e with e; injection e
            have e2 : 0 = o' := by injection e with e; injection e
            subst e1 e2
            have h' := (h at' (by rw [HLL.out]; exact hjl)).2.1
            rw [Nat.zero_add] at h'
            exact h' : w'.cell? ⟨gm, at' * 3 + 1, none⟩ = some (.int .i64 (nth mp0 (mapsOf p k) at').b)))
          clear HCB
          generalize (nth mp0 (mapsOf p k) at').b = b at *
          obtain ⟨bn, rfl⟩ := Int.eq_ofNat_of_zero_le hc2
          rw [Int.toNat_natCast] at hc3 HCC
          clear hc1 hc2 hve
          have hjli : (at' : Int) < (L : Int) := by omega
          refine wp_region_till (T := fun _ => false) (S := fun w' => Below w2.heap.size w2 w') (by kernel_rfl) (Below.refl w2.heap.size w2).drew (fun hHeld => ?_)
          obtain ⟨w101, hw0⟩ : ∃ x, w2.drew = x := ⟨_, rfl⟩
          rw [hw0] at hHeld ⊢
          have hkA : Below w2.heap.size w2 w101 := hHeld
          clear hHeld hw0
          refine wpTill_put 0 48 (oi := _) (v := ?_) rfl rfl (by kernel_rfl) (by kernel_rfl) (by kernel_rfl) (by kernel_rfl) (fun _ _ _ h => h) (by rfl) hkA ?_ ?_
          rotate_left
          · (intro w2' hSw; go_simp; (try with_reducible rfl))
          (try simp only [Act.put, List.setIfInBounds_toArray, List.set_cons_zero, List.set_cons_succ])
          refine wpTill_put 1 49 (oi := _) (v := ?_) rfl rfl (by kernel_rfl) (by kernel_rfl) (by kernel_rfl) (by kernel_rfl) (fun _ _ _ h => h) (by rfl) hkA ?_ ?_
          rotate_left
          · (intro w2' hSw; go_simp; (try with_reducible rfl))
          (try simp only [Act.put, List.setIfInBounds_toArray, List.set_cons_zero, List.set_cons_succ])
          refine wpTill_put 2 50 (oi := _) (v := ?_) rfl rfl (by kernel_rfl) (by kernel_rfl) (by kernel_rfl) (by kernel_rfl) (fun _ _ _ h => h) (by rfl) hkA ?_ ?_
          rotate_left
          · (intro w2' hSw; obtain ⟨x0, x1, x2, x3, x4⟩ := (HAH.out w2' hSw).1.2.1.cells; go_simp; (try with_reducible rfl))
          (try simp only [Act.put, List.setIfInBounds_toArray, List.set_cons_zero, List.set_cons_succ])
          refine wpTill_put 4 52 (oi := _) (v := ?_) rfl rfl (by kernel_rfl) (by kernel_rfl) (by kernel_rfl) (by kernel_rfl) (fun _ _ _ h => h) (by rfl) hkA ?_ ?_
          rotate_left
          · (intro w2' hSw; go_simp; (try with_reducible rfl))
          (try simp only [Act.put, List.setIfInBounds_toArray, List.set_cons_zero, List.set_cons_succ])
          refine wpTill_put 5 53 (oi := _) (v := ?_) rfl rfl (by kernel_rfl) (by kernel_rfl) (by kernel_rfl) (by kernel_rfl) (fun _ _ _ h => h) (by rfl) hkA ?_ ?_
          rotate_left
          · (intro w2' hSw; go_simp; (try with_reducible rfl))
          (try simp only [Act.put, List.setIfInBounds_toArray, List.set_cons_zero, List.set_cons_succ])
          refine wpTill_put 6 54 (oi := _) (v := ?_) rfl rfl (by kernel_rfl) (by kernel_rfl) (by kernel_rfl) (by kernel_rfl) (fun _ _ _ h => h) (by rfl) hkA ?_ ?_
          rotate_left
          · (intro w2' hSw; go_simp; (try with_reducible rfl))
          (try simp only [Act.put, List.setIfInBounds_toArray, List.set_cons_zero, List.set_cons_succ])
          refine wpTill_put 7 55 (oi := _) (v := ?_) rfl rfl (by kernel_rfl) (by kernel_rfl) (by kernel_rfl) (by kernel_rfl) (fun _ _ _ h => h) (by rfl) hkA ?_ ?_
          rotate_left
          · (intro w2' hSw; go_simp; (try with_reducible rfl))
          (try simp only [Act.put, List.setIfInBounds_toArray, List.set_cons_zero, List.set_cons_succ])
          refine wpTill_put 8 56 (oi := _) (v := ?_) rfl rfl (by kernel_rfl) (by kernel_rfl) (by kernel_rfl) (by kernel_rfl) (fun _ _ _ h => h) (by rfl) hkA ?_ ?_
          rotate_left
          · (intro w2' hSw; have m1 := HCB2.out w2' hSw; go_simp; (try with_reducible rfl))
          (try simp only [Act.put, List.setIfInBounds_toArray, List.set_cons_zero, List.set_cons_succ])
          refine wpTill_one 3 (o := _) (by kernel_rfl) rfl (fun K hK => ?_)
          go_simp
          refine (HRF.out w101 (HAH.out w101 hkA).1.1.size (HAH.out w101 hkA).2.2).mono ?_
          rintro e w102 ⟨v3, rfl, hI3, hBn⟩
          obtain ⟨Ac, cc, rfl, hcc, hIc⟩ := hI3
          have hkA := hkA.trans (hBn.mono hkA.size)
          obtain ⟨gc, oc, rfl, hgc, hcl⟩ := ints_cells hIc (by omega)
          have hcn1 := hcl bn hc3
          rw [← HCC.out] at hcn1
          have hbi : (bn : Int) < ((refsRes p).length : Int) := by omega
          clear hcl hIc hgc
          refine hK.out _ _ (fun _ => hkA) (fun _ => ?_)
          clear hK K
          (try simp only [Act.put, List.setIfInBounds_toArray, List.set_cons_zero, List.set_cons_succ])
          refine wpTill_put 9 57 (oi := _) (v := ?_) rfl rfl (by kernel_rfl) (by kernel_rfl) (by kernel_rfl) (by kernel_rfl) (fun _ _ _ h => h) (by rfl) hkA ?_ ?_
          rotate_left
          · (intro w2' hSw; go_simp; (try with_reducible rfl))
          (try simp only [Act.put, List.setIfInBounds_toArray, List.set_cons_zero, List.set_cons_succ])
          refine wpTill_one 10 (o := _) (by kernel_rfl) rfl (fun K hK => ?_)
          go_simp
          generalize w102 = w103 at *
          refine hK.out _ _ (fun _ => hkA) (fun _ => ?_)
          clear hK K
          (try simp only [Act.put, List.setIfInBounds_toArray, List.set_cons_zero, List.set_cons_succ])
          refine wpTill_put 11 59 (oi := _) (v := ?_) rfl rfl (by kernel_rfl) (by kernel_rfl) (by kernel_rfl) (by kernel_rfl) (fun _ _ _ h => h) (by rfl) hkA ?_ ?_
          rotate_left
          · (intro w2' hSw; go_simp; (try with_reducible rfl))
          (try simp only [Act.put, List.setIfInBounds_toArray, List.set_cons_zero, List.set_cons_succ])
          refine wpTill_put 12 60 (oi := _) (v := ?_) rfl rfl (by kernel_rfl) (by kernel_rfl) (by kernel_rfl) (by kernel_rfl) (fun _ _ _ h => h) (by rfl) hkA ?_ ?_
          rotate_left
          · (intro w2' hSw; go_simp; (try with_reducible rfl))
          (try simp only [Act.put, List.setIfInBounds_toArray, List.set_cons_zero, List.set_cons_succ])
          refine wpTill_done (by kernel_rfl) ?_ _
          go_wp2_with fail
          go_meet
          exact ⟨congrArg Value.bool (by rfl), hkA⟩
        case rest =>
          obtain ⟨rfl, hBc⟩ := hcut
          have hkc := hBc
          clear x0 x1 x2 x3 x4
          rw [hh] at HW
          obtain ⟨x0, x1, x2, x3, x4⟩ := (HAH.out wc hkc).1.2.1.cells
          obtain ⟨z0, z1, z2, z3, z4⟩ := (HAH.out wc hkc).1.2.2.1.cells
          have f0 := (HAH.out wc hkc).1.2.2.1.free 0
          have f1 := (HAH.out wc hkc).1.2.2.1.free 1
          have f2 := (HAH.out wc hkc).1.2.2.1.free 2
          have f3 := (HAH.out wc hkc).1.2.2.1.free 3
          have f4 := (HAH.out wc hkc).1.2.2.1.free 4
          by_cases hc1 : cntAt p k at' = 1
          · obtain rfl : r = (0, p) := by rw [HW.out, if_pos ⟨rfl, hc1⟩]
            rw [decide_eq_true hc1]
            clear HW hc1
            go_wp2_with fail
            obtain ⟨q0, q1, q2, q3, q4⟩ := cells5 (set5 (HAH.out wc hkc).1.2.2.1 (.int .i64 p.tx) (.int .i64 p.time) (.int .i64 p.unit) (.int .i64 p.data) (.slice (some ⟨g2, 0, none⟩) n c))
            refine bodyPost_ret (v := .tuple #[.agg #[.int .i64 p.tx, .int .i64 p.time, .int .i64 p.unit, .int .i64 p.data, .slice (some ⟨g2, 0, none⟩) n c], .int .i64 0]) (by simp [results, Try.results51, go_sem, q0, q1, q2, q3, q4]) rfl ?_
            exact wr_stop hl.out (HAH.out wc hkc).1 (HAH.out wc hkc).2.1 H3.out rfl (fun _ => rfl) _ _ _ _ _
          · rw [decide_eq_false hc1]
            by_cases hfr : freeAt (refsRes p) = (refsRes p).length
            · obtain rfl : r = (14, p) := by rw [HW.out, if_neg (fun h => hc1 h.2), if_neg (fun h => by cases h.1), if_pos hfr]
              have hfi : firstI (refsRes p) = -1 := by unfold firstI; rw [if_pos hfr]
              rw [hfi] at HFI
              clear HW hc1 hfr hfi
              go_wp2_with (go_at_call 67; refine (HFI.out wc (HAH.out wc hkc).1.1.size (HAH.out wc hkc).2.2).mono ?_; rintro e w5 ⟨rfl, hB5⟩; have hk5 := hkc.trans (hB5.mono hkc.size); clear x0 x1 x2 x3 x4 z0 z1 z2 z3 z4 f0 f1 f2 f3 f4; obtain ⟨x0, x1, x2, x3, x4⟩ := (HAH.out w5 hk5).1.2.1.cells; obtain ⟨z0, z1, z2, z3, z4⟩ := (HAH.out w5 hk5).1.2.2.1.cells; have f0 := (HAH.out w5 hk5).1.2.2.1.free 0; have f1 := (HAH.out w5 hk5).1.2.2.1.free 1; have f2 := (HAH.out w5 hk5).1.2.2.1.free 2; have f3 := (HAH.out w5 hk5).1.2.2.1.free 3; have f4 := (HAH.out w5 hk5).1.2.2.1.free 4)
              obtain ⟨q0, q1, q2, q3, q4⟩ := cells5 (set5 (HAH.out w5 hk5).1.2.2.1 (.int .i64 p.tx) (.int .i64 p.time) (.int .i64 p.unit) (.int .i64 p.data) (.slice (some ⟨g2, 0, none⟩) n c))
              refine bodyPost_ret (v := .tuple #[.agg #[.int .i64 p.tx, .int .i64 p.time, .int .i64 p.unit, .int .i64 p.data, .slice (some ⟨g2, 0, none⟩) n c], .int .i64 14]) (by simp [results, Try.results51, go_sem, q0, q1, q2, q3, q4]) rfl ?_
              exact wr_stop hl.out (HAH.out w5 hk5).1 (HAH.out w5 hk5).2.1 H3.out rfl (fun h => by cases h) _ _ _ _ _
            · have hfi : firstI (refsRes p) = (freeAt (refsRes p) : Int) := by unfold firstI; rw [if_neg hfr]
              rw [hfi] at HFI
              have HRE := Lib.hid (show r = (0, setMaps p k ((mapsOf p k).set at' ⟨v, freeAt (refsRes p), p.time⟩)) by rw [HW.out, if_neg (fun h => hc1 h.2), if_neg (fun h => by cases h.1), if_neg hfr, if_pos rfl])
              clear HW hc1 hfr hfi
              generalize freeAt (refsRes p) = fr at *
              have HRF2 := Lib.hid (fun w5 (hk5 : Below w2.heap.size w2 w5) o W hW => rput_fin (w5 := w5) (x := ⟨v, fr, p.time⟩) hl.out (HAH.out w5 hk5).1 H3.out (HAH.out w5 hk5).2.1 HKL.out HMK.out HLL.out hjl0 o W hW)
              go_upto_region 16 with (go_at_call 67; refine (HFI.out wc (HAH.out wc hkc).1.1.size (HAH.out wc hkc).2.2).mono ?_; rintro e w5 ⟨rfl, hB5⟩; have hk5 := hkc.trans (hB5.mono hkc.size); clear x0 x1 x2 x3 x4 z0 z1 z2 z3 z4 f0 f1 f2 f3 f4; obtain ⟨x0, x1, x2, x3, x4⟩ := (HAH.out w5 hk5).1.2.1.cells; obtain ⟨z0, z1, z2, z3, z4⟩ := (HAH.out w5 hk5).1.2.2.1.cells; have f0 := (HAH.out w5 hk5).1.2.2.1.free 0; have f1 := (HAH.out w5 hk5).1.2.2.1.free 1; have f2 := (HAH.out w5 hk5).1.2.2.1.free 2; have f3 := (HAH.out w5 hk5).1.2.2.1.free 3; have f4 := (HAH.out w5 hk5).1.2.2.1.free 4; have hpz := (HAH.out w5 hk5).1.2.1.lt; obtain ⟨c0, c1, c2, cf, cl⟩ := HCM.out w5 hk5; have hati : (at' : Int) < (L : Int) := (by omega))
              obtain ⟨w6, hw6⟩ : ∃ x, (((w5.setCell ⟨gm, at' * 3, none⟩ (.int .i64 v)).setCell ⟨gm, at' * 3 + 1, none⟩ (.int .i64 fr)).setCell ⟨gm, at' * 3 + 2, none⟩ (.int .i64 p.time)).alloc (.cells #[.int .i64 v, .int .i64 fr, .int .i64 p.time] 49) = x := ⟨_, rfl⟩
              rw [hw6]
              obtain ⟨g1', g2', g3', g4'⟩ := HRF2.out w5 hk5 _ w6 hw6
              clear x0 x1 x2 x3 x4 z0 z1 z2 z3 z4 f0 f1 f2 f3 f4 c0 c1 c2 cf cl hw6
              obtain ⟨x0, x1, x2, x3, x4⟩ := g2'.cells
              obtain ⟨z0, z1, z2, z3, z4⟩ := g3'.cells
              have f0 := g3'.free 0
              have f1 := g3'.free 1
              have f2 := g3'.free 2
              have f3 := g3'.free 3
              have f4 := g3'.free 4
              go_wp2_with fail
              obtain ⟨q0, q1, q2, q3, q4⟩ := cells5 (set5 g3' (.int .i64 p.tx) (.int .i64 p.time) (.int .i64 p.unit) (.int .i64 p.data) (.slice (some ⟨g2, 0, none⟩) n c))
              refine bodyPost_ret (v := .tuple #[.agg #[.int .i64 p.tx, .int .i64 p.time, .int .i64 p.unit, .int .i64 p.data, .slice (some ⟨g2, 0, none⟩) n c], .int .i64 0]) (by simp [results, Try.results51, go_sem, q0, q1, q2, q3, q4]) rfl ?_
              rw [HRE.out]
              exact do_ret (q := setMaps p k ((mapsOf p k).set at' ⟨v, fr, p.time⟩)) g1' (by rw [len_setMaps]; exact hl.out) g4' (by omega) (fun h => by have := own1_lt H3.out hl.out _ h; omega) (fun _ => rfl) (fun x hx => .inl hx) rfl _ _ _ _ _
      | false =>
        clear x0 x1 x2 x3 x4
        rw [hh] at HW
        go_upto_region 6 with fail
        go_cut [60] (fun s60 wx => s60 = .bool false ∧ Below w2.heap.size w2 wx)
        case first =>
          refine wp_region_till (T := fun _ => false) (S := fun w' => Below w2.heap.size w2 w') (by kernel_rfl) (Below.refl w2.heap.size w2).drew (fun hHeld => ?_)
          obtain ⟨w104, hw0⟩ : ∃ x, w2.drew = x := ⟨_, rfl⟩
          rw [hw0] at hHeld ⊢
          have hkA : Below w2.heap.size w2 w104 := hHeld
          clear hHeld hw0
          refine wpTill_put 0 48 (oi := _) (v := ?_) rfl rfl (by kernel_rfl) (by kernel_rfl) (by kernel_rfl) (by kernel_rfl) (fun _ _ _ h => h) (by rfl) hkA ?_ ?_
          rotate_left
          · (intro w2' hSw; go_simp; (try with_reducible rfl))
          (try simp only [Act.put, List.setIfInBounds_toArray, List.set_cons_zero, List.set_cons_succ])
          refine wpTill_put 1 49 (oi := _) (v := ?_) rfl rfl (by kernel_rfl) (by kernel_rfl) (by kernel_rfl) (by kernel_rfl) (fun _ _ _ h => h) (by rfl) hkA ?_ ?_
          rotate_left
          · (intro w2' hSw; go_simp; (try with_reducible rfl))
          (try simp only [Act.put, List.setIfInBounds_toArray, List.set_cons_zero, List.set_cons_succ])
          refine wpTill_skip 2 50 (oi := _) rfl rfl (by kernel_rfl) (by kernel_rfl) (by kernel_rfl) (by kernel_rfl) (fun _ _ _ h => h) (by rfl) hkA ?_
          (try simp only [Act.put, List.setIfInBounds_toArray, List.set_cons_zero, List.set_cons_succ])
          refine wpTill_skip 3 51 (oi := _) rfl rfl (by kernel_rfl) (by kernel_rfl) (by kernel_rfl) (by kernel_rfl) (fun _ _ _ h => h) (by rfl) hkA ?_
          (try simp only [Act.put, List.setIfInBounds_toArray, List.set_cons_zero, List.set_cons_succ])
          refine wpTill_skip 4 52 (oi := _) rfl rfl (by kernel_rfl) (by kernel_rfl) (by kernel_rfl) (by kernel_rfl) (fun _ _ _ h => h) (by rfl) hkA ?_
          (try simp only [Act.put, List.setIfInBounds_toArray, List.set_cons_zero, List.set_cons_succ])
          refine wpTill_skip 5 53 (oi := _) rfl rfl (by kernel_rfl) (by kernel_rfl) (by kernel_rfl) (by kernel_rfl) (fun _ _ _ h => h) (by rfl) hkA ?_
          (try simp only [Act.put, List.setIfInBounds_toArray, List.set_cons_zero, List.set_cons_succ])
          refine wpTill_skip 6 54 (oi := _) rfl rfl (by kernel_rfl) (by kernel_rfl) (by kernel_rfl) (by kernel_rfl) (fun _ _ _ h => h) (by rfl) hkA ?_
          (try simp only [Act.put, List.setIfInBounds_toArray, List.set_cons_zero, List.set_cons_succ])
          refine wpTill_skip 7 55 (oi := _) rfl rfl (by kernel_rfl) (by kernel_rfl) (by kernel_rfl) (by kernel_rfl) (fun _ _ _ h => h) (by rfl) hkA ?_
          (try simp only [Act.put, List.setIfInBounds_toArray, List.set_cons_zero, List.set_cons_succ])
          refine wpTill_skip 8 56 (oi := _) rfl rfl (by kernel_rfl) (by kernel_rfl) (by kernel_rfl) (by kernel_rfl) (fun _ _ _ h => h) (by rfl) hkA ?_
          (try simp only [Act.put, List.setIfInBounds_toArray, List.set_cons_zero, List.set_cons_succ])
          refine wpTill_skip 9 57 (oi := _) rfl rfl (by kernel_rfl) (by kernel_rfl) (by kernel_rfl) (by kernel_rfl) (fun _ _ _ h => h) (by rfl) hkA ?_
          (try simp only [Act.put, List.setIfInBounds_toArray, List.set_cons_zero, List.set_cons_succ])
          refine wpTill_skip 10 58 (oi := _) rfl rfl (by kernel_rfl) (by kernel_rfl) (by kernel_rfl) (by kernel_rfl) (fun _ _ _ h => h) (by rfl) hkA ?_
          (try simp only [Act.put, List.setIfInBounds_toArray, List.set_cons_zero, List.set_cons_succ])
          refine wpTill_skip 11 59 (oi := _) rfl rfl (by kernel_rfl) (by kernel_rfl) (by kernel_rfl) (by kernel_rfl) (fun _ _ _ h => h) (by rfl) hkA ?_
          (try simp only [Act.put, List.setIfInBounds_toArray, List.set_cons_zero, List.set_cons_succ])
          refine wpTill_put 12 60 (oi := _) (v := ?_) rfl rfl (by kernel_rfl) (by kernel_rfl) (by kernel_rfl) (by kernel_rfl) (fun _ _ _ h => h) (by rfl) hkA ?_ ?_
          rotate_left
          · (intro w2' hSw; go_simp; (try with_reducible rfl))
          (try simp only [Act.put, List.setIfInBounds_toArray, List.set_cons_zero, List.set_cons_succ])
          refine wpTill_done (by kernel_rfl) ?_ _
          go_wp2_with fail
          go_meet
          exact ⟨rfl, hkA⟩
        case rest =>
          obtain ⟨rfl, hBc⟩ := hcut
          have hkc := hBc
          obtain ⟨x0, x1, x2, x3, x4⟩ := (HAH.out wc hkc).1.2.1.cells
          obtain ⟨z0, z1, z2, z3, z4⟩ := (HAH.out wc hkc).1.2.2.1.cells
          have f0 := (HAH.out wc hkc).1.2.2.1.free 0
          have f1 := (HAH.out wc hkc).1.2.2.1.free 1
          have f2 := (HAH.out wc hkc).1.2.2.1.free 2
          have f3 := (HAH.out wc hkc).1.2.2.1.free 3
          have f4 := (HAH.out wc hkc).1.2.2.1.free 4
          by_cases hcn2 : 16384 ≤ p.count
          · obtain rfl : r = (2, p) := by rw [HW.out, if_neg (fun h => by cases h.1), if_pos ⟨rfl, hcn2⟩]
            clear HW
            go_wp2_with (go_at_call 28; refine (HCT.out wc (HAH.out wc hkc).1.1.size (HAH.out wc hkc).2.2).mono ?_; rintro e w4 ⟨rfl, hB4⟩; have hk4 := hkc.trans (hB4.mono hkc.size); clear x0 x1 x2 x3 x4 z0 z1 z2 z3 z4 f0 f1 f2 f3 f4; obtain ⟨x0, x1, x2, x3, x4⟩ := (HAH.out w4 hk4).1.2.1.cells; obtain ⟨z0, z1, z2, z3, z4⟩ := (HAH.out w4 hk4).1.2.2.1.cells; have f0 := (HAH.out w4 hk4).1.2.2.1.free 0; have f1 := (HAH.out w4 hk4).1.2.2.1.free 1; have f2 := (HAH.out w4 hk4).1.2.2.1.free 2; have f3 := (HAH.out w4 hk4).1.2.2.1.free 3; have f4 := (HAH.out w4 hk4).1.2.2.1.free 4)
            obtain ⟨q0, q1, q2, q3, q4⟩ := cells5 (set5 (HAH.out w4 hk4).1.2.2.1 (.int .i64 p.tx) (.int .i64 p.time) (.int .i64 p.unit) (.int .i64 p.data) (.slice (some ⟨g2, 0, none⟩) n c))
            refine bodyPost_ret (v := .tuple #[.agg #[.int .i64 p.tx, .int .i64 p.time, .int .i64 p.unit, .int .i64 p.data, .slice (some ⟨g2, 0, none⟩) n c], .int .i64 2]) (by simp [results, Try.results51, go_sem, q0, q1, q2, q3, q4]) rfl ?_
            exact wr_stop hl.out (HAH.out w4 hk4).1 (HAH.out w4 hk4).2.1 H3.out rfl (fun h => by cases h) _ _ _ _ _
          · have hcn3 : p.count < 16384 := by omega
            by_cases hfr : freeAt (refsRes p) = (refsRes p).length
            · obtain rfl : r = (14, p) := by rw [HW.out, if_neg (fun h => by cases h.1), if_neg (fun h => hcn2 h.2), if_pos hfr]
              have hfi : firstI (refsRes p) = -1 := by unfold firstI; rw [if_pos hfr]
              rw [hfi] at HFI
              clear HW hfr hfi hcn2
              go_wp2_with (first
                | (go_at_call 67; refine (HFI.out w4 (HAH.out w4 hk4).1.1.size (HAH.out w4 hk4).2.2).mono ?_; rintro e w5 ⟨rfl, hB5⟩; have hk5 := hk4.trans (hB5.mono hk4.size); clear x0 x1 x2 x3 x4 z0 z1 z2 z3 z4 f0 f1 f2 f3 f4; obtain ⟨x0, x1, x2, x3, x4⟩ := (HAH.out w5 hk5).1.2.1.cells; obtain ⟨z0, z1, z2, z3, z4⟩ := (HAH.out w5 hk5).1.2.2.1.cells; have f0 := (HAH.out w5 hk5).1.2.2.1.free 0; have f1 := (HAH.out w5 hk5).1.2.2.1.free 1; have f2 := (HAH.out w5 hk5).1.2.2.1.free 2; have f3 := (HAH.out w5 hk5).1.2.2.1.free 3; have f4 := (HAH.out w5 hk5).1.2.2.1.free 4)
                | (go_at_call 28; refine (HCT.out wc (HAH.out wc hkc).1.1.size (HAH.out wc hkc).2.2).mono ?_; rintro e w4 ⟨rfl, hB4⟩; have hk4 := hkc.trans (hB4.mono hkc.size); clear x0 x1 x2 x3 x4 z0 z1 z2 z3 z4 f0 f1 f2 f3 f4; obtain ⟨x0, x1, x2, x3, x4⟩ := (HAH.out w4 hk4).1.2.1.cells; obtain ⟨z0, z1, z2, z3, z4⟩ := (HAH.out w4 hk4).1.2.2.1.cells; have f0 := (HAH.out w4 hk4).1.2.2.1.free 0; have f1 := (HAH.out w4 hk4).1.2.2.1.free 1; have f2 := (HAH.out w4 hk4).1.2.2.1.free 2; have f3 := (HAH.out w4 hk4).1.2.2.1.free 3; have f4 := (HAH.out w4 hk4).1.2.2.1.free 4))
              obtain ⟨q0, q1, q2, q3, q4⟩ := cells5 (set5 (HAH.out w5 hk5).1.2.2.1 (.int .i64 p.tx) (.int .i64 p.time) (.int .i64 p.unit) (.int .i64 p.data) (.slice (some ⟨g2, 0, none⟩) n c))
              refine bodyPost_ret (v := .tuple #[.agg #[.int .i64 p.tx, .int .i64 p.time, .int .i64 p.unit, .int .i64 p.data, .slice (some ⟨g2, 0, none⟩) n c], .int .i64 14]) (by simp [results, Try.results51, go_sem, q0, q1, q2, q3, q4]) rfl ?_
              exact wr_stop hl.out (HAH.out w5 hk5).1 (HAH.out w5 hk5).2.1 H3.out rfl (fun h => by cases h) _ _ _ _ _
            · have hfi : firstI (refsRes p) = (freeAt (refsRes p) : Int) := by unfold firstI; rw [if_neg hfr]
              rw [hfi] at HFI
              have HRE := Lib.hid (show r = (0, setMaps p k (insAt (mapsOf p k) at' ⟨v, freeAt (refsRes p), p.time⟩)) by rw [HW.out, if_neg (fun h => by cases h.1), if_neg (fun h => hcn2 h.2), if_neg hfr, if_neg (by simp)])
              clear HW hfr hfi hcn2
              generalize freeAt (refsRes p) = fr at *
              go_upto_region 17 with (first
                | (go_at_call 67; refine (HFI.out w4 (HAH.out w4 hk4).1.1.size (HAH.out w4 hk4).2.2).mono ?_; rintro e w5 ⟨rfl, hB5⟩; have hk5 := hk4.trans (hB5.mono hk4.size); clear x0 x1 x2 x3 x4 z0 z1 z2 z3 z4 f0 f1 f2 f3 f4; obtain ⟨x0, x1, x2, x3, x4⟩ := (HAH.out w5 hk5).1.2.1.cells; obtain ⟨z0, z1, z2, z3, z4⟩ := (HAH.out w5 hk5).1.2.2.1.cells; have f0 := (HAH.out w5 hk5).1.2.2.1.free 0; have f1 := (HAH.out w5 hk5).1.2.2.1.free 1; have f2 := (HAH.out w5 hk5).1.2.2.1.free 2; have f3 := (HAH.out w5 hk5).1.2.2.1.free 3; have f4 := (HAH.out w5 hk5).1.2.2.1.free 4)
                | (go_at_call 28; refine (HCT.out wc (HAH.out wc hkc).1.1.size (HAH.out wc hkc).2.2).mono ?_; rintro e w4 ⟨rfl, hB4⟩; have hk4 := hkc.trans (hB4.mono hkc.size); clear x0 x1 x2 x3 x4 z0 z1 z2 z3 z4 f0 f1 f2 f3 f4; obtain ⟨x0, x1, x2, x3, x4⟩ := (HAH.out w4 hk4).1.2.1.cells; obtain ⟨z0, z1, z2, z3, z4⟩ := (HAH.out w4 hk4).1.2.2.1.cells; have f0 := (HAH.out w4 hk4).1.2.2.1.free 0; have f1 := (HAH.out w4 hk4).1.2.2.1.free 1; have f2 := (HAH.out w4 hk4).1.2.2.1.free 2; have f3 := (HAH.out w4 hk4).1.2.2.1.free 3; have f4 := (HAH.out w4 hk4).1.2.2.1.free 4))
              have hlc : L ≤ cm := by omega
              obtain ⟨w6, hw6⟩ : ∃ x, w5.alloc (.cells #[.int .i64 v, .int .i64 fr, .int .i64 p.time] 49) = x := ⟨_, rfl⟩
              have hB6 : Below w5.heap.size w5 w6 := by rw [← hw6]; exact (Below.refl _ _).alloc (Nat.le_refl _) _
              have hx6 : w6.heap[w5.heap.size]? = some (.cells #[.int .i64 v, .int .i64 fr, .int .i64 p.time] 49) := by rw [← hw6]; exact heap_alloc_new w5 _
              rw [hw6]
              clear hw6
              have hk6 := hk5.trans (hB6.mono hk5.size)
              have hz6 := hB6.size
              have hz5 := (HAH.out w5 hk5).1.2.2.2
              have hxz := box_lt hx6
              have hsrc := own_src (own_below (HWM.out w6 (HAH.out w6 hk6).2.1).2.1 ((Below.refl w6.heap.size w6).alloc (Nat.le_refl _) (.cells #[] 49)) (fun x hx => ((HWM.out w6 (HAH.out w6 hk6).2.1).2.1.lt x hx).2))
              have HFT := Lib.hid (show (flats Mp.enc ((mapsOf p k).take at')).length = at' * 3 by rw [flats_length Mp.enc_len, List.length_take, HLL.out]; omega)
              have HSR := Lib.hid (src_take at' hsrc.1)
              have HNO := Lib.hid (show Am = none → at' = 0 from fun h => by have := hsrc.2 h; omega)
              clear hsrc x0 x1 x2 x3 x4 z0 z1 z2 z3 z4 f0 f1 f2 f3 f4
              have hati : (at' : Int) ≤ (cm : Int) := by omega
              go_upto_region 19 with (first
                | (at_builtin; have _ := HB7.out; go_loud (refine wpList_append_optB Try.underlying44 info_map rfl (by omega) (by omega) rfl _ _ rfl (w.heap.size + 2) (.slice A7 at' c7) at' (flats Mp.enc ((mapsOf p k).take at')) rfl (HO7.out.alloc _) (some ⟨w7.heap.size, 0, none⟩) 1 1 (Mp.enc ⟨v, fr, p.time⟩) rfl rfl (new_src w7 (Mp.enc ⟨v, fr, p.time⟩) _) (Mp.enc_one _) (by omega) (by have := HB7.out.1.size; simp; omega) (fun h => by cases h) ?_); intro A8 c8 w8 ho8 hg8 hb8; have HB8 := Lib.hid (app_step (HB7.out.1.alloc HB7.out.1.size _) HB7.out.2 hg8 hb8); have HO8 := Lib.hid ho8; clear ho8 hg8 hb8)
                | (at_builtin; go_loud (refine wpList_append_optB Try.underlying44 info_map rfl (by omega) (by omega) rfl _ _ rfl (w.heap.size + 2) (.slice (some ⟨w6.heap.size, 0, none⟩) 0 0) 0 [] rfl (World.ownsRow_made w6 #[] 0 (by omega) (by simp [maxLen]) rfl) Am at' cm (flats Mp.enc ((mapsOf p k).take at')) rfl HFT.out HSR.out (maps_one _) (by omega) (by simp; omega) HNO.out ?_); intro A7 c7 w7 ho7 hg7 hb7; rw [Nat.zero_add, List.nil_append] at ho7; rw [Nat.zero_add] at hb7; have HB7 := Lib.hid (app_step (hB6.alloc hz6 _) (app_lo hz6) hg7 hb7); have HO7 := Lib.hid ho7; have hx7 := (hg7.block _ (app_lt hxz _) (app_ne hxz)).trans (box_up hx6 ((Below.refl w6.heap.size w6).alloc (Nat.le_refl _) (.cells #[] 49))); clear ho7 hg7 hb7; obtain ⟨y0, y1, y2⟩ := box3c hx7))
              have hk8 := hk5.trans (HB8.out.1.mono hk5.size)
              have hl8 := HO8.out.lt
              have HL8 := Lib.hid hl8
              have HFD := Lib.hid (show (flats Mp.enc ((mapsOf p k).drop at')).length = (L - at') * 3 by rw [flats_length Mp.enc_len, List.length_drop, HLL.out])
              have HDR := Lib.hid (fun w' (hB : Below w8.heap.size w8 w') => src_drop at' hple hlc HLL.out (own_src (HWM.out w' (HAH.out w' (hk8.trans (hB.mono hk8.size))).2.1).2.1))
              have hali : (at' : Int) ≤ (L : Int) := by omega
              clear y0 y1 y2 hl8
              have HPF := Lib.hid (fun A9 c9 w9 W u => rins_fin (p := p) (M := M) (A9 := A9) (c9 := c9) (w5 := w5) (w9 := w9) (W := W) (x := ⟨v, fr, p.time⟩) (u := u) (at' := at') hl.out (HAH.out w5 hk5).1 H3.out (HAH.out w5 hk5).2.1 HKL.out HLL.out hple hb)
              refine wp_region_till (T := fun j => j == 10) (S := fun w' => Below w5.heap.size w5 w') (by kernel_rfl) HB8.out.1.drew (fun hHeld => ?_)
              obtain ⟨w105, hw0⟩ : ∃ x, w8.drew = x := ⟨_, rfl⟩
              rw [hw0] at hHeld ⊢
              have hkA : Below w5.heap.size w5 w105 := hHeld
              have hkW : Below w8.heap.size w8 w105 := by rw [← hw0]; exact (Below.refl w8.heap.size w8).drew
              clear hHeld hw0
              refine wpTill_put 0 95 (oi := _) (v := ?_) rfl rfl (by kernel_rfl) (by kernel_rfl) (by kernel_rfl) (by kernel_rfl) (fun _ _ _ h => h) (by rfl) hkA ?_ ?_
              rotate_left
              · (intro w2' hSw; go_simp; (try with_reducible rfl))
              (try simp only [Act.put, List.setIfInBounds_toArray, List.set_cons_zero, List.set_cons_succ])
              refine wpTill_put 1 96 (oi := _) (v := ?_) rfl rfl (by kernel_rfl) (by kernel_rfl) (by kernel_rfl) (by kernel_rfl) (fun _ _ _ h => h) (by rfl) hkA ?_ ?_
              rotate_left
              · (intro w2' hSw; obtain ⟨x0, x1, x2, x3, x4⟩ := (HAH.out w2' (hk5.trans (Below.mono hSw hk5.size))).1.2.1.cells; go_simp; (try with_reducible rfl))
              (try simp only [Act.put, List.setIfInBounds_toArray, List.set_cons_zero, List.set_cons_succ])
              refine wpTill_put 2 97 (oi := _) (v := ?_) rfl rfl (by kernel_rfl) (by kernel_rfl) (by kernel_rfl) (by kernel_rfl) (fun _ _ _ h => h) (by rfl) hkA ?_ ?_
              rotate_left
              · (intro w2' hSw; go_simp; (try with_reducible rfl))
              (try simp only [Act.put, List.setIfInBounds_toArray, List.set_cons_zero, List.set_cons_succ])
              refine wpTill_put 3 98 (oi := _) (v := ?_) rfl rfl (by kernel_rfl) (by kernel_rfl) (by kernel_rfl) (by kernel_rfl) (fun _ _ _ h => h) (by rfl) hkA ?_ ?_
              rotate_left
              · (intro w2' hSw; go_simp; (try with_reducible rfl))
              (try simp only [Act.put, List.setIfInBounds_toArray, List.set_cons_zero, List.set_cons_succ])
              refine wpTill_put 4 99 (oi := _) (v := ?_) rfl rfl (by kernel_rfl) (by kernel_rfl) (by kernel_rfl) (by kernel_rfl) (fun _ _ _ h => h) (by rfl) hkA ?_ ?_
              rotate_left
              · (intro w2' hSw; go_simp; (try with_reducible rfl))
              (try simp only [Act.put, List.setIfInBounds_toArray, List.set_cons_zero, List.set_cons_succ])
              refine wpTill_put 5 100 (oi := _) (v := ?_) rfl rfl (by kernel_rfl) (by kernel_rfl) (by kernel_rfl) (by kernel_rfl) (fun _ _ _ h => h) (by rfl) hkA ?_ ?_
              rotate_left
              · (intro w2' hSw; go_simp; (try with_reducible rfl))
              (try simp only [Act.put, List.setIfInBounds_toArray, List.set_cons_zero, List.set_cons_succ])
              refine wpTill_put 6 101 (oi := _) (v := ?_) rfl rfl (by kernel_rfl) (by kernel_rfl) (by kernel_rfl) (by kernel_rfl) (fun _ _ _ h => h) (by rfl) hkA ?_ ?_
              rotate_left
              · (intro w2' hSw; go_simp; (try with_reducible rfl))
              (try simp only [Act.put, List.setIfInBounds_toArray, List.set_cons_zero, List.set_cons_succ])
              refine wpTill_one 7 (o := _) (by kernel_rfl) rfl (fun K hK => ?_)
              have hdr := HDR.out w105 hkW
              refine step_append_optB Try.underlying44 info_map rfl (by omega) (by omega) rfl (.tmp 98) (.tmp 101) rfl (w.heap.size + 2) (.slice A8 (at' + 1) c8) (at' + 1) (flats Mp.enc ((mapsOf p k).take at') ++ Mp.enc ⟨v, fr, p.time⟩) rfl (own_below HO8.out hkW (fun x hx => (HL8.out x hx).2)) _ (L - at') (cm - at') (flats Mp.enc ((mapsOf p k).drop at')) rfl HFD.out hdr.1 (maps_one _) (by omega) (by have := hkA.size; omega) hdr.2 ?_
              intro A9 c9 w106 ho9 hg9 hb9
              have HB9 := Lib.hid (app_step hkA HB8.out.2 hg9 hb9)
              have HO9 := Lib.hid ho9
              have hkA := HB9.out.1
              have hk9 := hk5.trans (HB9.out.1.mono hk5.size)
              clear ho9 hg9 hb9 hdr
              refine hK.out _ _ (fun _ => hkA) (fun _ => ?_)
              clear hK K
              (try simp only [Act.put, List.setIfInBounds_toArray, List.set_cons_zero, List.set_cons_succ])
              refine wpTill_one 8 (o := _) (by kernel_rfl) rfl (fun K hK => ?_)
              go_simp
              refine hK.out _ _ (fun _ => hkA) (fun _ => ?_)
              clear hK K
              (try simp only [Act.put, List.setIfInBounds_toArray, List.set_cons_zero, List.set_cons_succ])
              refine wpTill_put 9 104 (oi := _) (v := ?_) rfl rfl (by kernel_rfl) (by kernel_rfl) (by kernel_rfl) (by kernel_rfl) (fun _ _ _ h => h) (by rfl) hkA ?_ ?_
              rotate_left
              · (intro w2' hSw; go_simp; (try with_reducible rfl))
              (try simp only [Act.put, List.setIfInBounds_toArray, List.set_cons_zero, List.set_cons_succ])
              refine wpTill_one 10 (o := _) (by kernel_rfl) rfl (fun K hK => ?_)
              obtain ⟨m0, _, mf, _⟩ := (HAH.out w106 hk9).2.1.cellM (by rw [hl.out]; exact HKL.out)
              rw [HMK.out] at m0
              go_simp
              obtain ⟨w107, hwn⟩ : ∃ x, w106.setCell ⟨g2, k * 5 + 4, none⟩ (.slice A9 (at' + 1 + (L - at')) c9) = x := ⟨_, rfl⟩
              have HFF := HPF.out A9 c9 w106 w107 _ rfl HB9.out HO9.out hwn
              rw [hwn]
              clear hwn m0 mf
              refine hK.out _ _ (fun h => by cases h) (fun _ => ?_)
              clear hK K
              (try simp only [Act.put, List.setIfInBounds_toArray, List.set_cons_zero, List.set_cons_succ])
              refine wpTill_done (by kernel_rfl) ?_ _
              obtain ⟨t1, t2, t3, t4, t5, t6⟩ := HFF
              have HT1 := Lib.hid t1
              have HT6 := Lib.hid t6
              clear t1 t6
              obtain ⟨x0, x1, x2, x3, x4⟩ := t3.cells
              obtain ⟨z0, z1, z2, z3, z4⟩ := t2.cells
              have f0 := t2.free 0
              have f1 := t2.free 1
              have f2 := t2.free 2
              have f3 := t2.free 3
              have f4 := t2.free 4
              go_wp2_with fail
              all_goals
                obtain ⟨q0, q1, q2, q3, q4⟩ := cells5 (set5 t2 (.int .i64 p.tx) (.int .i64 p.time) (.int .i64 p.unit) (.int .i64 p.data) (.slice (some ⟨g2, 0, none⟩) n c))
                refine bodyPost_ret (v := .tuple #[.agg #[.int .i64 p.tx, .int .i64 p.time, .int .i64 p.unit, .int .i64 p.data, .slice (some ⟨g2, 0, none⟩) n c], .int .i64 0]) (by simp [results, Try.results51, go_sem, q0, q1, q2, q3, q4]) rfl ?_
                rw [HRE.out]
                exact do_ret (q := setMaps p k (insAt (mapsOf p k) at' ⟨v, fr, p.time⟩)) HT1.out (by rw [len_setMaps]; exact hl.out) t4 (by omega) t5 (fun _ => rfl) HT6.out rfl _ _ _ _ _
end Go.Proofs.Ytjeeheeaickokaa

/- The reference's blocks (scantlingref49). Condition: the pool may be, and lies in memory of the call's own. -/
namespace Go.Proofs.Ytjeeheeaickokaa

open Go.RowKit
attribute [local go_sem] Oper.semAt_some
set_option linter.unusedSimpArgs false
set_option linter.unusedVariables false

/-- A device's mappings are put anew: they lie in memory made since. -/
theorem rput_new {w w5 w9 W : World} {base n c k g2 c9 : Nat} {p : Pool} {A9 : Option Addr} {M : Nat → Value} {m : List Mp} {u : Value} (hn : p.devs.length = n) (hB5 : Below w.heap.size w w5) (h0 : OwnDevs w base (.slice (some ⟨g2, 0, none⟩) n c) p.devs M) (h5 : OwnDevs w5 base (.slice (some ⟨g2, 0, none⟩) n c) p.devs M) (hk : k < n) (hb : base ≤ w.heap.size)
    (_hu : u = .slice A9 m.length c9) (hB : Below w5.heap.size w5 w9) (hlo : ∀ x, u.ownBlock = some x → w5.heap.size ≤ x) (ho : w9.ownsRow w.heap.size 49 3 u m.length (flats Mp.enc m)) (hW : w9.setCell ⟨g2, k * 5 + 4, none⟩ u = W) :
    OwnDevs W base (.slice (some ⟨g2, 0, none⟩) n c) (setMaps p k m).devs (fun j => if j = k then u else M j) ∧ Touch (Own1 (.slice (some ⟨g2, 0, none⟩) n c) n M) w W ∧ (∀ b, w.heap.size ≤ b → b < w5.heap.size → W.heap[b]? = w5.heap[b]?) ∧
      ∀ y, Own1 (.slice (some ⟨g2, 0, none⟩) n c) n (fun j => if j = k then u else M j) y → Own1 (.slice (some ⟨g2, 0, none⟩) n c) n M y ∨ w5.heap.size ≤ y := by
  subst hn hW
  have hlt := own1_lt h0 rfl
  have hg2 := (hlt g2 (.inl rfl)).2
  have hgr : w5.grownBy w9 (M k).ownBlock := ⟨hB.os, hB.tape, hB.output, hB.size, fun j hj _ => hB.block j hj⟩
  have hown : OwnMaps w9 base u m := own_low ho hb
  have h6 := h5.put (d := ⟨(nth dev0 p.devs k).id, (nth dev0 p.devs k).tx, (nth dev0 p.devs k).made, (nth dev0 p.devs k).snapped, m⟩) hk hgr hown (fun y hy => .inr (hlo y hy)) ⟨rfl, rfl, rfl, rfl⟩
  refine ⟨h6, ?_, fun b h1 h2 => ?_, ?_⟩
  · exact ((Touch.of_below hB5).trans (Touch.of_below hB)).trans (Touch.set_ (p := ⟨g2, k * 5 + 4, none⟩) (.inl rfl))
  · exact (Below.heap_setCell w9 ⟨g2, k * 5 + 4, none⟩ u b (by simp only [ne_eq]; omega)).trans (hB.block b h2)
  · rintro y (hy | ⟨j, hj, hy⟩)
    · exact .inl (.inl hy)
    · simp only at hy
      split at hy
      · exact .inr (hlo y hy)
      · exact .inl (.inr ⟨j, hj, hy⟩)
set_option maxRecDepth 100000 in
set_option maxHeartbeats 1600000 in
theorem rblocks_far (w : World) (base c : Nat) (p : Pool) (A : Option Addr) (M : Nat → Value) (o : Mop) (h3 : OwnDevs w base (.slice A p.devs.length c) p.devs M) (hpc : poolChk p = 0) (r : Int × Pool) (hf : blkE p o ≠ 0) (hr : r.1 = blkE p o) :
    Calls Try.prog 38 #[.agg #[.int .i64 p.tx, .int .i64 p.time, .int .i64 p.unit, .int .i64 p.data, .slice A p.devs.length c], mopV o] w (DoR w base (.slice A p.devs.length c) p.devs.length M r) := by
  have T := three_new w p A p.devs.length c o
  dsimp only [poolBox, op9Box, zeroBox] at T
  have HAH := Lib.hid (op_ahead h3 T)
  have hln := pool_len hpc
  have HPL := Lib.hid (fun w' (hz : w.heap.size ≤ w'.heap.size) (h : IsPool w' (Lt w.heap.size) (.agg #[.int .i64 p.tx, .int .i64 p.time, .int .i64 p.unit, .int .i64 p.data, .slice A p.devs.length c]) p) => rplace_any w' (Lt w.heap.size) _ p o.dev (fun b (hb : b < w.heap.size) => Nat.lt_of_lt_of_le hb hz) h (incK_devs hpc) (by omega))
  have H3 := Lib.hid h3
  have hcs : (placeI p o.dev = -1 ∧ blkE p o = 18) ∨ (¬ placeI p o.dev < 0 ∧ blkE p o = 2 ∧ (o.n < 1 ∨ (1 ≤ o.n ∧ 16384 < o.n) ∨ (1 ≤ o.n ∧ o.n ≤ 16384 ∧ o.arg < 0) ∨ (1 ≤ o.n ∧ o.n ≤ 16384 ∧ 0 ≤ o.arg ∧ 281474976710655 < o.arg) ∨ (1 ≤ o.n ∧ o.n ≤ 16384 ∧ 0 ≤ o.arg ∧ o.arg ≤ 281474976710655 ∧ 281474976710656 - o.arg < o.n))) := by
    unfold blkE at hf ⊢
    unfold placeI
    by_cases h1 : dhas p o.dev = false
    · exact .inl ⟨by rw [if_neg (by rw [h1]; simp)], by rw [if_pos h1]⟩
    · rw [if_neg h1] at hf
      by_cases h2 : o.n < 1 ∨ 16384 < o.n ∨ o.arg < 0 ∨ 281474976710655 < o.arg ∨ 281474976710656 - o.arg < o.n
      · exact .inr ⟨by rw [if_pos (by simpa using h1)]; omega, by rw [if_neg h1, if_pos h2], by omega⟩
      · rw [if_neg h2] at hf; exact absurd rfl hf
  have HR := Lib.hid hr
  have HF := Lib.hid hf
  clear hr hf h3 hpc
  generalize hfe : blkE p o = fe at *
  clear hfe
  generalize placeI p o.dev = pl at *
  generalize hl0 : p.devs.length = n at *
  have hl := Lib.hid hl0
  clear hl0
  rcases hcs with ⟨d1, d2⟩ | ⟨d1, d2, d3⟩
  · have HR2 := Lib.hid (And.intro (show (18 : Int) = r.1 by rw [HR.out, d2]) (show r.1 ≠ 0 by rw [HR.out]; exact HF.out))
    subst d1
    clear HF HR d2
    go_enter Try.func38, Try.ntmps38
    go_upto_region 1 with fail
    generalize ((w.alloc (.cells #[.int .i64 p.tx, .int .i64 p.time, .int .i64 p.unit, .int .i64 p.data, .slice A n c] 24)).alloc (.cells #[.int .i64 o.kind, .int .i64 o.dev, .int .i64 o.arg, .int .i64 o.n] 31)).alloc (.cells #[.int .i64 0, .int .i64 0, .int .i64 0, .int .i64 0, .slice none 0 0] 24) = w3 at *
    have hk3 := Below.refl w3.heap.size w3
    obtain ⟨x0, x1, x2, x3, x4⟩ := (HAH.out w3 hk3).1.2.1.cells
    obtain ⟨y0, y1, y2, y3⟩ := (HAH.out w3 hk3).1.2.2.1.cells
    obtain ⟨z0, z1, z2, z3, z4⟩ := (HAH.out w3 hk3).1.2.2.2.1.cells
    have f0 := (HAH.out w3 hk3).1.2.2.2.1.free 0
    have f1 := (HAH.out w3 hk3).1.2.2.2.1.free 1
    have f2 := (HAH.out w3 hk3).1.2.2.2.1.free 2
    have f3 := (HAH.out w3 hk3).1.2.2.2.1.free 3
    have f4 := (HAH.out w3 hk3).1.2.2.2.1.free 4
    go_wp2_with (go_at_call 37; (have hx := HPL.out w3 (HAH.out w3 hk3).1.1.size (HAH.out w3 hk3).2.2.1; with_reducible refine hx.mono ?_; clear hx); rintro e w4 ⟨rfl, hk4⟩; clear x0 x1 x2 x3 x4 y0 y1 y2 y3 z0 z1 z2 z3 z4 f0 f1 f2 f3 f4; obtain ⟨x0, x1, x2, x3, x4⟩ := (HAH.out w4 hk4).1.2.1.cells; obtain ⟨y0, y1, y2, y3⟩ := (HAH.out w4 hk4).1.2.2.1.cells; obtain ⟨z0, z1, z2, z3, z4⟩ := (HAH.out w4 hk4).1.2.2.2.1.cells; have f0 := (HAH.out w4 hk4).1.2.2.2.1.free 0; have f1 := (HAH.out w4 hk4).1.2.2.2.1.free 1; have f2 := (HAH.out w4 hk4).1.2.2.2.1.free 2; have f3 := (HAH.out w4 hk4).1.2.2.2.1.free 3; have f4 := (HAH.out w4 hk4).1.2.2.2.1.free 4)
    obtain ⟨q0, q1, q2, q3, q4⟩ := cells5 (set5 (HAH.out w4 hk4).1.2.2.2.1 (.int .i64 p.tx) (.int .i64 p.time) (.int .i64 p.unit) (.int .i64 p.data) (.slice A n c))
    refine bodyPost_ret (v := .tuple #[.agg #[.int .i64 p.tx, .int .i64 p.time, .int .i64 p.unit, .int .i64 p.data, .slice A n c], .int .i64 18]) (by simp [results, Try.results38, go_sem, q0, q1, q2, q3, q4]) rfl ?_
    exact do_stop hl.out (HAH.out w4 hk4).1 (HAH.out w4 hk4).2.1 H3.out HR2.out.1 HR2.out.2 _ _ _ _ _
  · have HR2 := Lib.hid (And.intro (show (2 : Int) = r.1 by rw [HR.out, d2]) (show r.1 ≠ 0 by rw [HR.out]; exact HF.out))
    clear HF HR d2
    rcases d3 with d3 | ⟨d3, d4⟩ | ⟨d3, d4, d5⟩ | ⟨d3, d4, d5, d6⟩ | ⟨d3, d4, d5, d6, d7⟩
    rotate_left 4
    · have hw1 : IntKind.i64.wrap (o.arg + o.n) = o.arg + o.n := IntWalk.i64_in _ (by omega)
      have hw2 : IntKind.i64.wrap (o.arg + o.n - 1) = o.arg + o.n - 1 := IntWalk.i64_in _ (by omega)
      have hw3 : 281474976710655 < o.arg + o.n - 1 := by omega
      go_enter Try.func38, Try.ntmps38
      go_upto_region 1 with fail
      generalize ((w.alloc (.cells #[.int .i64 p.tx, .int .i64 p.time, .int .i64 p.unit, .int .i64 p.data, .slice A n c] 24)).alloc (.cells #[.int .i64 o.kind, .int .i64 o.dev, .int .i64 o.arg, .int .i64 o.n] 31)).alloc (.cells #[.int .i64 0, .int .i64 0, .int .i64 0, .int .i64 0, .slice none 0 0] 24) = w3 at *
      have hk3 := Below.refl w3.heap.size w3
      obtain ⟨x0, x1, x2, x3, x4⟩ := (HAH.out w3 hk3).1.2.1.cells
      obtain ⟨y0, y1, y2, y3⟩ := (HAH.out w3 hk3).1.2.2.1.cells
      obtain ⟨z0, z1, z2, z3, z4⟩ := (HAH.out w3 hk3).1.2.2.2.1.cells
      have f0 := (HAH.out w3 hk3).1.2.2.2.1.free 0
      have f1 := (HAH.out w3 hk3).1.2.2.2.1.free 1
      have f2 := (HAH.out w3 hk3).1.2.2.2.1.free 2
      have f3 := (HAH.out w3 hk3).1.2.2.2.1.free 3
      have f4 := (HAH.out w3 hk3).1.2.2.2.1.free 4
      go_wp2_with (go_at_call 37; (have hx := HPL.out w3 (HAH.out w3 hk3).1.1.size (HAH.out w3 hk3).2.2.1; with_reducible refine hx.mono ?_; clear hx); rintro e w4 ⟨rfl, hk4⟩; clear x0 x1 x2 x3 x4 y0 y1 y2 y3 z0 z1 z2 z3 z4 f0 f1 f2 f3 f4; obtain ⟨x0, x1, x2, x3, x4⟩ := (HAH.out w4 hk4).1.2.1.cells; obtain ⟨y0, y1, y2, y3⟩ := (HAH.out w4 hk4).1.2.2.1.cells; obtain ⟨z0, z1, z2, z3, z4⟩ := (HAH.out w4 hk4).1.2.2.2.1.cells; have f0 := (HAH.out w4 hk4).1.2.2.2.1.free 0; have f1 := (HAH.out w4 hk4).1.2.2.2.1.free 1; have f2 := (HAH.out w4 hk4).1.2.2.2.1.free 2; have f3 := (HAH.out w4 hk4).1.2.2.2.1.free 3; have f4 := (HAH.out w4 hk4).1.2.2.2.1.free 4)
      obtain ⟨q0, q1, q2, q3, q4⟩ := cells5 (set5 (HAH.out w4 hk4).1.2.2.2.1 (.int .i64 p.tx) (.int .i64 p.time) (.int .i64 p.unit) (.int .i64 p.data) (.slice A n c))
      refine bodyPost_ret (v := .tuple #[.agg #[.int .i64 p.tx, .int .i64 p.time, .int .i64 p.unit, .int .i64 p.data, .slice A n c], .int .i64 2]) (by simp [results, Try.results38, go_sem, q0, q1, q2, q3, q4]) rfl ?_
      exact do_stop hl.out (HAH.out w4 hk4).1 (HAH.out w4 hk4).2.1 H3.out HR2.out.1 HR2.out.2 _ _ _ _ _
    all_goals
      go_enter Try.func38, Try.ntmps38
      go_upto_region 1 with fail
      generalize ((w.alloc (.cells #[.int .i64 p.tx, .int .i64 p.time, .int .i64 p.unit, .int .i64 p.data, .slice A n c] 24)).alloc (.cells #[.int .i64 o.kind, .int .i64 o.dev, .int .i64 o.arg, .int .i64 o.n] 31)).alloc (.cells #[.int .i64 0, .int .i64 0, .int .i64 0, .int .i64 0, .slice none 0 0] 24) = w3 at *
      have hk3 := Below.refl w3.heap.size w3
      obtain ⟨x0, x1, x2, x3, x4⟩ := (HAH.out w3 hk3).1.2.1.cells
      obtain ⟨y0, y1, y2, y3⟩ := (HAH.out w3 hk3).1.2.2.1.cells
      obtain ⟨z0, z1, z2, z3, z4⟩ := (HAH.out w3 hk3).1.2.2.2.1.cells
      have f0 := (HAH.out w3 hk3).1.2.2.2.1.free 0
      have f1 := (HAH.out w3 hk3).1.2.2.2.1.free 1
      have f2 := (HAH.out w3 hk3).1.2.2.2.1.free 2
      have f3 := (HAH.out w3 hk3).1.2.2.2.1.free 3
      have f4 := (HAH.out w3 hk3).1.2.2.2.1.free 4
      go_wp2_with (go_at_call 37; (have hx := HPL.out w3 (HAH.out w3 hk3).1.1.size (HAH.out w3 hk3).2.2.1; with_reducible refine hx.mono ?_; clear hx); rintro e w4 ⟨rfl, hk4⟩; clear x0 x1 x2 x3 x4 y0 y1 y2 y3 z0 z1 z2 z3 z4 f0 f1 f2 f3 f4; obtain ⟨x0, x1, x2, x3, x4⟩ := (HAH.out w4 hk4).1.2.1.cells; obtain ⟨y0, y1, y2, y3⟩ := (HAH.out w4 hk4).1.2.2.1.cells; obtain ⟨z0, z1, z2, z3, z4⟩ := (HAH.out w4 hk4).1.2.2.2.1.cells; have f0 := (HAH.out w4 hk4).1.2.2.2.1.free 0; have f1 := (HAH.out w4 hk4).1.2.2.2.1.free 1; have f2 := (HAH.out w4 hk4).1.2.2.2.1.free 2; have f3 := (HAH.out w4 hk4).1.2.2.2.1.free 3; have f4 := (HAH.out w4 hk4).1.2.2.2.1.free 4)
      obtain ⟨q0, q1, q2, q3, q4⟩ := cells5 (set5 (HAH.out w4 hk4).1.2.2.2.1 (.int .i64 p.tx) (.int .i64 p.time) (.int .i64 p.unit) (.int .i64 p.data) (.slice A n c))
      refine bodyPost_ret (v := .tuple #[.agg #[.int .i64 p.tx, .int .i64 p.time, .int .i64 p.unit, .int .i64 p.data, .slice A n c], .int .i64 2]) (by simp [results, Try.results38, go_sem, q0, q1, q2, q3, q4]) rfl ?_
      exact do_stop hl.out (HAH.out w4 hk4).1 (HAH.out w4 hk4).2.1 H3.out HR2.out.1 HR2.out.2 _ _ _ _ _
end Go.Proofs.Ytjeeheeaickokaa

/- A pool that may be stays one that may be, whatever op is done. No condition: no program is in sight here. -/
namespace Go.Proofs.Ytjeeheeaickokaa
open Go.RowKit

theorem incK_pw {α : Type} {f : α → Int} {d : α} {l : List α} : IncK f d l ↔ l.Pairwise fun a b => f a < f b := by
  rw [List.pairwise_iff_getElem]
  constructor
  · intro h i j hi hj hij
    have := h i j hij hj
    rwa [nth_get d l i hi, nth_get d l j hj] at this
  · intro h i j hij hj
    rw [nth_get d l i (by omega), nth_get d l j hj]
    exact h i j (by omega) hj hij
theorem wr1_fit {p : Pool} {k : Nat} {v : Int} (h : PoolFit p) (hk : k < p.devs.length) (hv : 0 ≤ v ∧ v ≤ 281474976710655) (he : (wr1 p k v).1 = 0) : PoolFit (wr1 p k v).2 ∧ k < (wr1 p k v).2.devs.length := by
  have hl : ∀ m, k < (setMaps p k m).devs.length := fun m => by show k < (p.devs.set k _).length; rw [List.length_set]; exact hk
  unfold wr1 at he ⊢
  by_cases h1 : hasK Mp.v v (mapsOf p k) = true ∧ cntAt p k (posK Mp.v v (mapsOf p k)) = 1
  · rw [if_pos h1]; exact ⟨h, hk⟩
  · rw [if_neg h1] at he ⊢
    by_cases h2 : hasK Mp.v v (mapsOf p k) = false ∧ 16384 ≤ p.count
    · rw [if_pos h2] at he; cases he
    · rw [if_neg h2] at he ⊢
      by_cases h3 : freeAt (refsRes p) = (refsRes p).length
      · rw [if_pos h3] at he; cases he
      · rw [if_neg h3]
        by_cases h4 : hasK Mp.v v (mapsOf p k) = true
        · rw [if_pos h4]; exact ⟨(wr_there h hk hv h4 (fun e => h1 ⟨h4, e⟩) h3).1, hl _⟩
        · have h4 : hasK Mp.v v (mapsOf p k) = false := by simpa using h4
          rw [if_neg (by rw [h4]; simp)]
          have hc : p.count < 16384 := by
            rcases Int.lt_or_le p.count 16384 with hx | hx
            · exact hx
            · exact absurd ⟨h4, hx⟩ h2
          exact ⟨(wr_new h hk hv h4 hc h3).1, hl _⟩
theorem wrN_fit : ∀ (n : Nat) {p : Pool} {k : Nat} {v : Int}, PoolFit p → k < p.devs.length → 0 ≤ v → v + n ≤ 281474976710656 → (wrN p k v n).1 = 0 → PoolFit (wrN p k v n).2 ∧ k < (wrN p k v n).2.devs.length := by
  intro n
  induction n with
  | zero => intro p k v h hk _ _ _; exact ⟨h, hk⟩
  | succ n ih =>
    intro p k v h hk h0 hb he
    simp only [wrN] at he ⊢
    by_cases h1 : (wr1 p k v).1 = 0
    · rw [if_neg (by simpa using h1)] at he ⊢
      obtain ⟨f1, f2⟩ := wr1_fit h hk ⟨h0, by omega⟩ h1
      exact ih f1 f2 (by omega) (by omega) he
    · rw [if_pos h1] at he; exact absurd he h1
theorem blk_ok {p : Pool} {o : Mop} (h : blkE p o = 0) : dhas p o.dev = true ∧ 1 ≤ o.n ∧ o.n ≤ 16384 ∧ 0 ≤ o.arg ∧ o.arg ≤ 281474976710655 ∧ o.n ≤ 281474976710656 - o.arg := by
  unfold blkE at h
  cases hb : dhas p o.dev with
  | false => rw [if_pos hb] at h; cases h
  | true =>
    rw [if_neg (by rw [hb]; simp)] at h
    have : ¬ (o.n < 1 ∨ 16384 < o.n ∨ o.arg < 0 ∨ 281474976710655 < o.arg ∨ 281474976710656 - o.arg < o.n) := fun hx => by rw [if_pos hx] at h; cases h
    exact ⟨rfl, by omega, by omega, by omega, by omega, by omega⟩
theorem dpos_lt {p : Pool} {id : Int} (h : PoolFit p) (hb : dhas p id = true) : dpos p id < p.devs.length ∧ (nth dev0 p.devs (dpos p id)).id = id := hasK_at (d := dev0) h.2.2.2.1 hb
theorem fresh_ok {p : Pool} {id : Int} (h : freshE p id = 0) : (0 ≤ id ∧ id ≤ 16777215) ∧ dhas p id = false := by
  unfold freshE at h
  by_cases h1 : id < 0 ∨ 16777215 < id
  · rw [if_pos h1] at h; cases h
  · rw [if_neg h1] at h
    cases hb : dhas p id with
    | true => rw [if_pos hb] at h; cases h
    | false => exact ⟨⟨by omega, by omega⟩, rfl⟩
theorem stamp_dhas {p : Pool} {k : Nat} (hk : k < p.devs.length) (id : Int) : dhas (stampF p k) id = dhas p id := by
  have hl : (stampF p k).devs.length = p.devs.length := by show (p.devs.set k _).length = _; rw [List.length_set]
  have hn : ∀ j, (nth dev0 (stampF p k).devs j).id = (nth dev0 p.devs j).id := fun j => by
    show (nth dev0 (p.devs.set k _) j).id = _
    unfold nth
    simp only [List.getD, List.getElem?_set]
    by_cases h : k = j
    · subst h; rw [if_pos rfl, if_pos hk]; simp only [Option.getD_some]; rfl
    · rw [if_neg h]
  rw [Bool.eq_iff_iff, hasK_iff (d := dev0), hasK_iff (d := dev0), hl]
  constructor <;> rintro ⟨j, hj, e⟩
  · exact ⟨j, hj, by rw [← hn]; exact e⟩
  · exact ⟨j, hj, by rw [hn]; exact e⟩
theorem do_fit {p : Pool} {o : Mop} (h : PoolFit p) (he : (doF p o).1 = 0) : PoolFit (doF p o).2 := by
  unfold doF at he ⊢
  by_cases h1 : o.kind = 1
  · rw [if_pos h1] at he ⊢
    unfold createF at he ⊢
    by_cases c1 : freshE p o.dev = 0
    · rw [if_neg (by simpa using c1)] at he ⊢
      by_cases c2 : 4096 ≤ p.devs.length
      · rw [if_pos c2] at he; cases he
      · rw [if_neg c2]
        obtain ⟨f1, f2⟩ := fresh_ok c1
        exact add_fit h f1 f2 (by omega) (by have := h.2.2.1; simp; omega) (fun i j _ hj => by simp at hj) (fun x hx => by cases hx)
    · rw [if_pos c1] at he; exact absurd he c1
  rw [if_neg h1] at he ⊢
  by_cases h2 : o.kind = 2
  · rw [if_pos h2] at he ⊢
    unfold snapF at he ⊢
    by_cases c1 : freshE p o.dev = 0
    · rw [if_neg (by simpa using c1)] at he ⊢
      cases hb : dhas p o.arg with
      | false => rw [if_pos hb] at he; cases he
      | true =>
        rw [hb] at he
        rw [if_neg (by simp)] at he ⊢
        by_cases c2 : 4096 ≤ p.devs.length ∨ 16777215 ≤ p.time ∨ 16384 < p.count + (nth dev0 p.devs (dpos p o.arg)).maps.length
        · rw [if_pos c2] at he; cases he
        · rw [if_neg c2]
          obtain ⟨f1, f2⟩ := fresh_ok c1
          obtain ⟨hk, _⟩ := dpos_lt h hb
          have hd := h.2.2.2.2 _ (nth_mem dev0 p.devs _ hk)
          have hc : (stampF p (dpos p o.arg)).count = p.count := by
            show countL (p.devs.set _ _) = countL p.devs
            rw [countL_set _ hk]
            have e : (snapped (nth dev0 p.devs (dpos p o.arg)) (p.time + 1)).maps = (nth dev0 p.devs (dpos p o.arg)).maps := rfl
            rw [e]; omega
          refine add_fit (stamp_fit h hk (by omega)) f1 (by rw [stamp_dhas hk]; exact f2) ?_ (by rw [hc]; omega) hd.2.2.2.2.1 hd.2.2.2.2.2
          show (p.devs.set _ _).length < 4096
          rw [List.length_set]; omega
    · rw [if_pos c1] at he; exact absurd he c1
  rw [if_neg h2] at he ⊢
  by_cases h3 : o.kind = 3
  · rw [if_pos h3] at he ⊢
    unfold removeF at he ⊢
    cases hb : dhas p o.dev with
    | false => rw [if_pos hb] at he; cases he
    | true =>
      rw [if_neg (by simp)]
      obtain ⟨hk, _⟩ := dpos_lt h hb
      obtain ⟨g1, g2, g3, g4, g5⟩ := h
      have hl := delAt_length p.devs _ hk
      refine ⟨g1, ?_, ?_, delK g4 hk, fun d hd => g5 d (mem_delAt hd)⟩
      · show (delAt p.devs _).length ≤ 4096
        omega
      · show countL (delAt p.devs _) ≤ 16384
        rw [countL_del hk]
        have : countL p.devs ≤ 16384 := g3
        omega
  rw [if_neg h3] at he ⊢
  by_cases h4 : o.kind = 4
  · rw [if_pos h4] at he ⊢
    unfold writeF at he ⊢
    by_cases c1 : blkE p o = 0
    · rw [if_neg (by simpa using c1)] at he ⊢
      obtain ⟨b1, b2, b3, b4, b5, b6⟩ := blk_ok c1
      exact (wrN_fit _ h (dpos_lt h b1).1 b4 (by omega) he).1
    · rw [if_pos c1] at he; exact absurd he c1
  rw [if_neg h4] at he ⊢
  by_cases h5 : o.kind = 5
  · rw [if_pos h5] at he ⊢
    unfold discardF at he ⊢
    by_cases c1 : blkE p o = 0
    · rw [if_neg (by simpa using c1)]
      obtain ⟨b1, _⟩ := blk_ok c1
      have hk := (dpos_lt h b1).1
      refine setMaps_fit h hk (incK_pw.2 ((incK_pw.1 (inc_of h hk)).filter _)) (fun x hx => map_fit h hk (List.mem_filter.1 hx).1) ?_
      have h6 := List.length_filter_le (fun m => !inOp o m) (mapsOf p (dpos p o.dev))
      have h7 := h.2.2.1
      omega
    · rw [if_pos c1] at he; exact absurd he c1
  rw [if_neg h5] at he ⊢
  by_cases h6 : o.kind = 6
  · rw [if_pos h6] at he ⊢
    unfold tickF at he ⊢
    obtain ⟨⟨g1, g2, g3, g4⟩, g5⟩ := h
    by_cases c1 : 2147483647 ≤ p.tx
    · rw [if_pos c1] at he; cases he
    · rw [if_neg c1]
      exact ⟨⟨by show 0 ≤ p.tx + 1 ∧ p.tx + 1 ≤ 2147483647; omega, g2, g3, g4⟩, g5⟩
  rw [if_neg h6] at he ⊢
  by_cases h7 : o.kind = 7
  · rw [if_pos h7] at he ⊢
    unfold growF at he ⊢
    obtain ⟨⟨g1, g2, g3, g4⟩, g5, g6, g7, g8⟩ := h
    by_cases c1 : o.n < p.data ∨ 65536 < o.n
    · rw [if_pos c1] at he; cases he
    · rw [if_neg c1]
      refine ⟨⟨g1, g2, g3, by show 0 ≤ o.n ∧ o.n ≤ 65536; omega⟩, g5, g6, g7, fun d hd => ?_⟩
      obtain ⟨d1, d2, d3, d4, d5, d6⟩ := g8 d hd
      refine ⟨d1, d2, d3, d4, d5, fun m hm => ?_⟩
      obtain ⟨m1, m2, m3⟩ := d6 m hm
      exact ⟨m1, by show 0 ≤ m.b ∧ m.b < o.n; omega, m3⟩
  rw [if_neg h7] at he
  cases he
theorem apply_fit {p : Pool} {o : Mop} (he : (applyF p o).1 = 0) : PoolFit (applyF p o).2 := by
  unfold applyF at he ⊢
  by_cases hc : poolChk p = 0
  · rw [if_neg (by simpa using hc)] at he ⊢
    by_cases h1 : (doF p o).1 = 0
    · rw [if_neg (by simpa using h1)]
      exact do_fit (fit_iff.1 hc) h1
    · rw [if_pos h1] at he; exact absurd he h1
  · rw [if_pos hc] at he; exact absurd he hc
theorem runFrom_fit : ∀ (l : List Mop) (p : Pool) (i : Nat), PoolFit p → PoolFit (runFrom p i l).1 := by
  intro l
  induction l with
  | nil => intro p i h; exact h
  | cons o l ih =>
    intro p i h
    simp only [runFrom]
    by_cases h1 : (applyF p o).1 = 0
    · rw [if_neg (by simpa using h1)]; exact ih _ _ (apply_fit h1)
    · rw [if_pos h1]; exact h
end Go.Proofs.Ytjeeheeaickokaa

/- The reference's blocks at a Discard (scantlingref49). Condition: the pool may be, and lies in memory of the call's own. -/
namespace Go.Proofs.Ytjeeheeaickokaa

open Go.RowKit
attribute [local go_sem] Oper.semAt_some
set_option linter.unusedSimpArgs false
set_option linter.unusedVariables false

theorem elMp9 : Elem Try.prog 44 49 3 24 Mp.enc := ⟨Try.underlying44, ⟨_, info_map, rfl⟩, by omega, by omega, Mp.enc_len, Mp.enc_one⟩
theorem filter_snoc9 {α : Type} (d : α) (p : α → Bool) (l : List α) (k : Nat) (hk : k < l.length) : (l.take (k + 1)).filter p = (l.take k).filter p ++ (if p (nth d l k) = true then [nth d l k] else []) := by
  rw [take_nth d l k hk, List.filter_append]
  congr 1
  by_cases h : p (nth d l k) = true <;> simp [h]
def DBox3 (w : World) (b : Nat) (y : Mp) : Prop := w.heap[b]? = some (.cells #[.int .i64 y.v, .int .i64 y.b, .int .i64 y.t] 49 (0, 0))
set_option maxRecDepth 100000 in
set_option maxHeartbeats 3200000 in
theorem rdiscard_any (w : World) (base c : Nat) (p : Pool) (A : Option Addr) (M : Nat → Value) (o : Mop) (h3 : OwnDevs w base (.slice A p.devs.length c) p.devs M) (hb : base ≤ w.heap.size) (hpc : poolChk p = 0) (hf : blkE p o = 0) (hkd : o.kind = 5) :
    Calls Try.prog 38 #[.agg #[.int .i64 p.tx, .int .i64 p.time, .int .i64 p.unit, .int .i64 p.data, .slice A p.devs.length c], mopV o] w (DoR w base (.slice A p.devs.length c) p.devs.length M (discardF p o)) := by
  have T := three_new w p A p.devs.length c o
  dsimp only [poolBox, op9Box, zeroBox] at T
  have HAH := Lib.hid (op_ahead h3 T)
  have hln := pool_len hpc
  obtain ⟨hbb, d1, d2, d3, d4, d5⟩ := blk_ok hf
  have hkl : dpos p o.dev < p.devs.length := (dpos_lt (fit_iff.1 hpc) hbb).1
  have hpl : placeI p o.dev = (dpos p o.dev : Int) := by unfold placeI; rw [if_pos hbb]
  have HPL := Lib.hid (fun w' (hz : w.heap.size ≤ w'.heap.size) (h : IsPool w' (Lt w.heap.size) (.agg #[.int .i64 p.tx, .int .i64 p.time, .int .i64 p.unit, .int .i64 p.data, .slice A p.devs.length c]) p) => rplace_any w' (Lt w.heap.size) _ p o.dev (fun b (hb : b < w.heap.size) => Nat.lt_of_lt_of_le hb hz) h (incK_devs hpc) (by omega))
  rw [hpl] at HPL
  have H3 := Lib.hid h3
  have hcr : discardF p o = (0, setMaps p (dpos p o.dev) ((mapsOf p (dpos p o.dev)).filter fun m => !inOp o m)) := by unfold discardF; rw [if_neg (by rw [hf]; simp)]
  rw [hcr]
  obtain ⟨g2, c2, hv, hbg2, hg2, hnc⟩ : ∃ g2 c2, (Value.slice A p.devs.length c) = .slice (some ⟨g2, 0, none⟩) p.devs.length c2 ∧ base ≤ g2 ∧ g2 < w.heap.size ∧ p.devs.length ≤ c2 := by
    obtain ⟨xs, r1, _⟩ := h3
    exact own_form r1 (by omega)
  injection hv with e1 e2 e3
  subst e1 e3
  clear e2
  obtain ⟨_, _, _, Am, cm, hMk, hcm⟩ := h3.cellM hkl
  have hml := maps_len hpc hkl
  have e0 : (nth dev0 p.devs (dpos p o.dev)).maps = mapsOf p (dpos p o.dev) := rfl
  rw [e0] at hMk hcm hml
  have HWM := Lib.hid (fun w' (h : OwnDevs w' base (.slice (some ⟨g2, 0, none⟩) p.devs.length c) p.devs M) => wr_maps h hkl hMk)
  have HFR := Lib.hid (fun w' (h : OwnDevs w' base (.slice (some ⟨g2, 0, none⟩) p.devs.length c) p.devs M) => (h.cellM hkl).2.2.1)
  have HMK := Lib.hid hMk
  have HKL := Lib.hid hkl
  have hkb : (o.kind == 5) = true := by simp [hkd]
  clear h3 hpc hf hcr hbb hpl hMk hkd e0
  generalize hkk : dpos p o.dev = k at *
  clear hkk
  obtain ⟨l, hll⟩ : ∃ l, mapsOf p k = l := ⟨_, rfl⟩
  rw [hll] at HWM hml hcm HMK ⊢
  have HLL := Lib.hid hll
  clear hll
  have HFS := Lib.hid (filter_snoc9 mp0 (fun m => !inOp o m) l)
  have hfl : ∀ j, ((l.take j).filter fun m => !inOp o m).length ≤ j := fun j => Nat.le_trans (List.length_filter_le _ _) (by rw [List.length_take]; omega)
  obtain ⟨R, hR⟩ : ∃ R : Nat → List Mp, R = fun j => (l.take j).filter fun m => !inOp o m := ⟨_, rfl⟩
  have HRL := Lib.hid (show (l.filter fun m => !inOp o m) = R l.length by rw [hR]; simp only [List.take_length])
  have HFL := Lib.hid (show ∀ j, (R j).length ≤ j by rw [hR]; exact hfl)
  have HR0 := Lib.hid (show R 0 = [] by rw [hR]; rfl)
  have HRK := Lib.hid (show ∀ j, j < l.length → R (j + 1) = R j ++ (if (!inOp o (nth mp0 l j)) = true then [nth mp0 l j] else []) by rw [hR]; exact HFS.out)
  clear hR hfl HFS
  rw [HRL.out]
  clear HRL
  generalize hLn : l.length = L at *
  have HLn := Lib.hid hLn
  clear hLn
  generalize hl0 : p.devs.length = n at *
  have hl := Lib.hid hl0
  clear hl0
  have hkn : (k : Int) < (n : Int) := by omega
  have hp0 : ¬ ((k : Int) < 0) := by omega
  have e1 : ¬ (o.n < 1) := by omega
  have e2 : ¬ (16384 < o.n) := by omega
  have e3 : ¬ (o.arg < 0) := by omega
  have e4 : ¬ (281474976710655 < o.arg) := by omega
  have hw1 : IntKind.i64.wrap (o.arg + o.n) = o.arg + o.n := IntWalk.i64_in _ (by omega)
  have hw2 : IntKind.i64.wrap (o.arg + o.n - 1) = o.arg + o.n - 1 := IntWalk.i64_in _ (by omega)
  have e5 : ¬ (281474976710655 < o.arg + o.n - 1) := by omega
  go_enter Try.func38, Try.ntmps38
  go_upto_region 1 with fail
  generalize ((w.alloc (.cells #[.int .i64 p.tx, .int .i64 p.time, .int .i64 p.unit, .int .i64 p.data, .slice (some ⟨g2, 0, none⟩) n c] 24)).alloc (.cells #[.int .i64 o.kind, .int .i64 o.dev, .int .i64 o.arg, .int .i64 o.n] 31)).alloc (.cells #[.int .i64 0, .int .i64 0, .int .i64 0, .int .i64 0, .slice none 0 0] 24) = w3 at *
  have hk3 := Below.refl w3.heap.size w3
  obtain ⟨x0, x1, x2, x3, x4⟩ := (HAH.out w3 hk3).1.2.1.cells
  obtain ⟨y0, y1, y2, y3⟩ := (HAH.out w3 hk3).1.2.2.1.cells
  obtain ⟨z0, z1, z2, z3, z4⟩ := (HAH.out w3 hk3).1.2.2.2.1.cells
  have f0 := (HAH.out w3 hk3).1.2.2.2.1.free 0
  have f1 := (HAH.out w3 hk3).1.2.2.2.1.free 1
  have f2 := (HAH.out w3 hk3).1.2.2.2.1.free 2
  have f3 := (HAH.out w3 hk3).1.2.2.2.1.free 3
  have f4 := (HAH.out w3 hk3).1.2.2.2.1.free 4
  go_wp2_with (go_at_call 37; (have hx := HPL.out w3 (HAH.out w3 hk3).1.1.size (HAH.out w3 hk3).2.2.1; with_reducible refine hx.mono ?_; clear hx); rintro e w4 ⟨rfl, hk4⟩; clear x0 x1 x2 x3 x4 y0 y1 y2 y3 z0 z1 z2 z3 z4 f0 f1 f2 f3 f4; obtain ⟨x0, x1, x2, x3, x4⟩ := (HAH.out w4 hk4).1.2.1.cells; obtain ⟨y0, y1, y2, y3⟩ := (HAH.out w4 hk4).1.2.2.1.cells; obtain ⟨z0, z1, z2, z3, z4⟩ := (HAH.out w4 hk4).1.2.2.2.1.cells; have f0 := (HAH.out w4 hk4).1.2.2.2.1.free 0; have f1 := (HAH.out w4 hk4).1.2.2.2.1.free 1; have f2 := (HAH.out w4 hk4).1.2.2.2.1.free 2; have f3 := (HAH.out w4 hk4).1.2.2.2.1.free 3; have f4 := (HAH.out w4 hk4).1.2.2.2.1.free 4)
  have hz4 := (HAH.out w4 hk4).1.2.2.2.2
  clear x0 x1 x2 x3 x4 y0 y1 y2 y3 z0 z1 z2 z3 z4 f0 f1 f2 f3 f4
  go_loopw [7, 8] (fun l7 i wr => ∃ j : Nat, i = .int .i64 j ∧ j ≤ L ∧ wr.ownsRow w4.heap.size 49 3 l7 (R j).length (flats Mp.enc (R j)) ∧ Below w4.heap.size w4 wr) (fun _ i _ => L - (intOf i).toNat)
  case atStart => exact ⟨0, rfl, by omega, by rw [HR0.out]; exact World.ownsRow_nil _ _ _ _, Below.refl _ _⟩
  case round =>
    obtain ⟨j, rfl, hj, hrow, hB⟩ := hrel
    have hkr := hk4.trans (hB.mono hk4.size)
    have hz := hB.size
    have hpz := (HAH.out wr hkr).1.2.2.2.2
    have hq0 : w.heap.size < wr.heap.size := by omega
    have hq1 : w.heap.size + 1 < wr.heap.size := by omega
    obtain ⟨Ao, co, rfl, _⟩ := own_form0 hrow
    obtain ⟨x0, x1, x2, x3, x4⟩ := (HAH.out wr hkr).1.2.1.cells
    obtain ⟨y0, y1, y2, y3⟩ := (HAH.out wr hkr).1.2.2.1.cells
    obtain ⟨m0, _, hIM⟩ := HWM.out wr (HAH.out wr hkr).2.1
    by_cases hlt : j < L
    · obtain ⟨gm, om, rfl, hgm, hcl⟩ := maps_cells (IsSl.slice_ hIM).2.2 (by rw [HLn.out]; omega)
      obtain ⟨c0, c1, c2⟩ := hcl j (by rw [HLn.out]; exact hlt)
      have hgz := hgm.2
      have hrk := HRK.out j hlt
      have hfl := HFL.out j
      have hji : (j : Int) < (L : Int) := by omega
      clear hcl hIM
      generalize nth mp0 l j = y at *
      have hxw : DBox3 (wr.alloc (.cells #[.int .i64 y.v, .int .i64 y.b, .int .i64 y.t] 49)) wr.heap.size y := heap_alloc_new wr _
      by_cases hin : inOp o y = true
      · have HRK1 := Lib.hid (show R (j + 1) = R j by rw [hrk]; simp [hin])
        have hi2 : ¬ y.v < o.arg ∧ ¬ o.arg + o.n ≤ y.v := by unfold inOp at hin; simp only [Bool.and_eq_true, decide_eq_true_eq] at hin; omega
        obtain ⟨hi2, hi3⟩ := hi2
        clear hin hrk
        generalize hrl : (R j).length = rl at *
        go_wp2_with fail
        go_roundw
        case rel => exact ⟨j + 1, by go_num, by omega, by rw [HRK1.out, hrl]; exact hrow.alloc _, hB.alloc hz _⟩
        case measure => simp [intOf]; omega
      · have HRK1 := Lib.hid (show R (j + 1) = R j ++ [y] by rw [hrk]; simp [hin])
        have hi2 : y.v < o.arg ∨ (¬ y.v < o.arg ∧ o.arg + o.n ≤ y.v) := by unfold inOp at hin; simp only [Bool.and_eq_true, decide_eq_true_eq] at hin; omega
        clear hin hrk
        generalize hrl : (R j).length = rl at *
        have HRLL := Lib.hid hrl
        clear hrl
        have hrow' := hrow
        rcases hi2 with hi2 | ⟨hi2, hi3⟩
        all_goals
          go_wp2_with (at_builtin; go_loud (refine wpList_append_one elMp9 rfl _ _ rfl w4.heap.size (.slice Ao rl co) rl (R j) y rfl (hrow.alloc _) (by rw [World.size_alloc]; rfl) (by omega) (by simp; omega) ?_); intro A6 cap6 w6 hown hg)
          go_roundw
          case rel => exact ⟨j + 1, by go_num, by omega, by rw [HRK1.out, List.length_append, HRLL.out]; exact hown, (hB.alloc hz _).grown hg (by simp; omega) (fun i hi => (hrow'.lt i hi).1)⟩
          case measure => simp [intOf]; omega
    · obtain rfl : j = L := by omega
      have hmw := HFR.out wr (HAH.out wr hkr).2.1
      have HOWN := Lib.hid hrow
      have HPN := Lib.hid (fun W u => rput_new (p := p) (M := M) (A9 := Ao) (c9 := co) (w5 := w4) (w9 := wr) (W := W) (u := u) (m := R j) hl.out (HAH.out w4 hk4).1.1 H3.out (HAH.out w4 hk4).2.1 HKL.out hb)
      have hlo := fun x hx => (hrow.lt x hx).1
      have HLO := Lib.hid hlo
      clear hrow hIM hlo
      go_upto_region 15 with fail
      obtain ⟨W, hW⟩ : ∃ x, wr.setCell ⟨g2, k * 5 + 4, none⟩ (.slice Ao (R j).length co) = x := ⟨_, rfl⟩
      obtain ⟨t1, t2, t3, t4⟩ := HPN.out W _ rfl hB HLO.out (own_low HOWN.out (by omega)) hW
      rw [hW]
      have b0 : PBox W w.heap.size p (some ⟨g2, 0, none⟩) n c := (t3 _ (by omega) (by omega)).trans (HAH.out w4 hk4).1.2.1
      have b2 : RBox W (w.heap.size + 1 + 1) (.int .i64 0) (.int .i64 0) (.int .i64 0) (.int .i64 0) (.slice none 0 0) := (t3 _ (by omega) (by omega)).trans (HAH.out w4 hk4).1.2.2.2.1
      have HT1 := Lib.hid t1
      have HT4 := Lib.hid t4
      clear t1 t3 t4 hW x0 x1 x2 x3 x4 y0 y1 y2 y3 m0 hmw
      obtain ⟨x0, x1, x2, x3, x4⟩ := b0.cells
      obtain ⟨z0, z1, z2, z3, z4⟩ := b2.cells
      have f0 := b2.free 0
      have f1 := b2.free 1
      have f2 := b2.free 2
      have f3 := b2.free 3
      have f4 := b2.free 4
      go_wp2_with fail
      obtain ⟨q0, q1, q2, q3, q4⟩ := cells5 (set5 b2 (.int .i64 p.tx) (.int .i64 p.time) (.int .i64 p.unit) (.int .i64 p.data) (.slice (some ⟨g2, 0, none⟩) n c))
      refine bodyPost_ret (v := .tuple #[.agg #[.int .i64 p.tx, .int .i64 p.time, .int .i64 p.unit, .int .i64 p.data, .slice (some ⟨g2, 0, none⟩) n c], .int .i64 0]) (by simp [results, Try.results38, go_sem, q0, q1, q2, q3, q4]) rfl ?_
      refine do_ret (q := setMaps p k (R j)) HT1.out (by rw [len_setMaps]; exact hl.out) t2 (by omega) (fun h => ?_) (fun _ => rfl) (fun x hx => (HT4.out x hx).imp id (fun h => by omega)) rfl _ _ _ _ _
      rcases HT4.out _ h with h | h
      · have := own1_lt H3.out hl.out _ h; omega
      · omega
end Go.Proofs.Ytjeeheeaickokaa
