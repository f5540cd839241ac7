/- append at devices, at mappings: which block the result lies in. Condition: the lists are within the reach. -/
import Derived.Test.YtjeeheeaickokaaOwnPut
import Derived.Test.YtjeeheeaickokaaWModel2
import Derived.Test.YtjeeheeaickokaaAppOpt
namespace Go.Proofs.Ytjeeheeaickokaa
open Go Go.RowKit

theorem step_append_optB {P : Program} {w : World} {ops : Array Oper} {o : Oper} {a : Act} {K : Act → World → Prop} {Q : Exit → Act → World → Prop} {F : Prop} {t e size bytes : Nat} {z : Value}
    (hu : P.underlying t = some (.slice e)) (hinfo : (P.info? e).map (fun i => (i.zero, i.size, i.bytes)) = some (some z, size, bytes)) (hz : z.cells.size = size) (hsz : 0 < size) (hby : 0 < bytes)
    (hg : o.guard = none) (s y : Operand) (hop : o.op = Op.call { callee := Callee.builtin Builtin.append, args := #[s, y], argTypes := #[t, t] })
    (base : Nat) (v : Value) (n : Nat) (xs : List Value) (hs : a.eval s = v) (hown : w.ownsRow base e size v n xs) (ad : Option Addr) (m c : Nat) (news : List Value) (hy : a.eval y = .slice ad m c)
    (hl : news.length = m * size) (hc : ∀ d, ad = some d → ∀ j u, news[j]? = some u → w.cell? (d.add j) = some u) (h1 : ∀ u ∈ news, u.oneCell' = true) (hb : (n + m) * bytes ≤ 140737488355328) (hbase : base ≤ w.heap.size) (hno : ad = none → m = 0)
    (hK : ∀ A cap w', w'.ownsRow base e size (.slice A (n + m) cap) (n + m) (xs ++ news) → w.grownBy w' v.ownBlock → (∀ x, (Value.slice A (n + m) cap).ownBlock = some x → v.ownBlock = some x ∨ x = w.heap.size) → K (a.put o.dst (.slice A (n + m) cap)) w') :
    if Region.wanted o (yielded ops a.tmps) = true then Oper.wp P o a w K Q else F := by
  have hw : Region.wanted o (yielded ops a.tmps) = true := by simp [Region.wanted, hg]
  rw [if_pos hw]
  obtain ⟨i0, hi, hz0, hz1, hz2⟩ := info_parts hinfo
  have hm : n + m ≤ maxLen := by
    have := Nat.mul_le_mul_left (n + m) hby
    unfold maxLen; omega
  cases ad with
  | some d =>
    obtain ⟨v', w', hr, h2, h3, _, h5⟩ := run_append_own_at (P := P) w base t o.type e i0 z size bytes hu hi hz0 hz1 hz2 hz hsz v n xs hown d m c news hl (hc d rfl) h1 hm hb hbase
    obtain ⟨A, cap, rfl, _⟩ := own_form0 h2
    unfold Oper.wp execOp
    simp only [hop, resolve, invoke, builtin, Sem.run_bind, Sem.run_pure, Result.andThen_ok, List.map_toArray, List.map_cons, List.map_nil, hs, hy, hr]
    refine hK A cap w' h2 h3 (fun x hx => ?_)
    rcases h5 with h5 | h5
    · exact .inl (h5 ▸ hx)
    · right
      rw [h5] at hx
      injection hx with hx
      exact hx.symm
  | none =>
    obtain rfl := hno rfl
    obtain rfl : news = [] := List.eq_nil_of_length_eq_zero (by omega)
    obtain ⟨A, cap, rfl, _⟩ := own_form0 hown
    have hKK := hK A cap w (by simpa using hown) (World.grownBy.refl w _) (fun x hx => .inl hx)
    have hrun := run_append_owned_nil (P := P) (w := w) base t o.type e i0 size hu hi _ n xs c hown
    unfold Oper.wp execOp
    simp only [hop, resolve, invoke, builtin, Sem.run_bind, Sem.run_pure, Result.andThen_ok, List.map_toArray, List.map_cons, List.map_nil, hs, hy, hrun]
    exact hKK
theorem wpList_append_optB {P : Program} {w : World} {ops : Array Oper} {rest : List Oper} {o : Oper} {a : Act} {Q : Exit → Act → World → Prop} {t e size bytes : Nat} {z : Value}
    (hu : P.underlying t = some (.slice e)) (hinfo : (P.info? e).map (fun i => (i.zero, i.size, i.bytes)) = some (some z, size, bytes)) (hz : z.cells.size = size) (hsz : 0 < size) (hby : 0 < bytes)
    (hg : o.guard = none) (s y : Operand) (hop : o.op = Op.call { callee := Callee.builtin Builtin.append, args := #[s, y], argTypes := #[t, t] })
    (base : Nat) (v : Value) (n : Nat) (xs : List Value) (hs : a.eval s = v) (hown : w.ownsRow base e size v n xs) (ad : Option Addr) (m c : Nat) (news : List Value) (hy : a.eval y = .slice ad m c)
    (hl : news.length = m * size) (hc : ∀ d, ad = some d → ∀ j u, news[j]? = some u → w.cell? (d.add j) = some u) (h1 : ∀ u ∈ news, u.oneCell' = true) (hb : (n + m) * bytes ≤ 140737488355328) (hbase : base ≤ w.heap.size) (hno : ad = none → m = 0)
    (hK : ∀ A cap w', w'.ownsRow base e size (.slice A (n + m) cap) (n + m) (xs ++ news) → w.grownBy w' v.ownBlock → (∀ x, (Value.slice A (n + m) cap).ownBlock = some x → v.ownBlock = some x ∨ x = w.heap.size) → wpList P ops Q rest (a.put o.dst (.slice A (n + m) cap)) w') :
    wpList P ops Q (o :: rest) a w := by
  refine wpList_plain hg fun K hKK => ?_
  have h := step_append_optB (ops := ops) (o := o) (a := a) (w := w) (K := K) (Q := Q) (F := False) hu hinfo hz hsz hby hg s y hop base v n xs hs hown ad m c news hy hl hc h1 hb hbase hno (fun A cap w' h2 h3 h4 => hKK _ _ (hK A cap w' h2 h3 h4))
  rw [if_pos (by simp [Region.wanted, hg])] at h
  exact h
theorem OwnDevs.insG {w w' : World} {base g' c' i n : Nat} {v u : Value} {l : List Dev} {M : Nat → Value} {xs : List Value} {d : Dev} (hrow0 : w.ownsRow base 46 5 v l.length xs)
    (hc : ∀ j, j < l.length → DevCells xs j (nth dev0 l j) (M j) ∧ OwnMaps w base (M j) (nth dev0 l j).maps ∧ (∀ g, (M j).ownBlock = some g → some g ≠ v.ownBlock))
    (hap : ∀ i j, i < l.length → j < l.length → i ≠ j → ∀ g, (M j).ownBlock = some g → some g ≠ (M i).ownBlock)
    (hi : i ≤ l.length) (hgrow : w.grownBy w' v.ownBlock) (hat : v.ownBlock = some g' ∨ w.heap.size ≤ g') (hn : n = l.length + 1)
    (hrow : w'.ownsRow base 46 5 (.slice (some ⟨g', 0, none⟩) n c') n (insC xs (i * 5) (devCs d u)))
    (hu : OwnMaps w base u d.maps) (huv : ∀ x, u.ownBlock = some x → some x ≠ v.ownBlock) (huM : ∀ j, j < l.length → ∀ x, u.ownBlock = some x → some x ≠ (M j).ownBlock) :
    OwnDevs w' base (.slice (some ⟨g', 0, none⟩) n c') (insAt l i d) (fun j => if j < i then M j else if j = i then u else M (j - 1)) := by
  have hx := own_len hrow0
  have hlen := insAt_length l i d hi
  have hM : ∀ j, j < l.length + 1 → OwnMaps w base (if j < i then M j else if j = i then u else M (j - 1)) (nth dev0 (insAt l i d) j).maps ∧ ∀ x, (if j < i then M j else if j = i then u else M (j - 1)).ownBlock = some x → some x ≠ v.ownBlock := by
    intro j hj
    rw [nth_insAt dev0 l i j d hi]
    by_cases h1 : j < i
    · simp only [if_pos h1]
      exact ⟨(hc j (by omega)).2.1, (hc j (by omega)).2.2⟩
    · simp only [if_neg h1]
      by_cases h2 : j = i
      · simp only [if_pos h2]
        exact ⟨hu, huv⟩
      · simp only [if_neg h2]
        exact ⟨(hc (j - 1) (by omega)).2.1, (hc (j - 1) (by omega)).2.2⟩
  refine ⟨insC xs (i * 5) (devCs d u), by rw [hlen, ← hn]; exact hrow, fun j hj => ?_, fun a b ha hb hab x hxb => ?_⟩
  · rw [hlen] at hj
    obtain ⟨m1, m2⟩ := hM j hj
    refine ⟨?_, m1.kept hgrow (by
      cases hb : (if j < i then M j else if j = i then u else M (j - 1)).ownBlock with
      | none => exact .inl rfl
      | some x => exact .inr (m2 x hb)), fun x hx' he => ?_⟩
    · have gt : ∀ r, r < 5 → (insC xs (i * 5) (devCs d u))[j * 5 + r]? = if j < i then xs[j * 5 + r]? else if j = i then (devCs d u)[r]? else xs[(j - 1) * 5 + r]? := fun r hr => insC_get hx rfl hi hr
      have g0 := gt 0 (by omega)
      rw [nth_insAt dev0 l i j d hi]
      unfold DevCells
      rw [gt 1 (by omega), gt 2 (by omega), gt 3 (by omega), gt 4 (by omega)]
      rw [Nat.add_zero] at g0
      rw [g0]
      by_cases h1 : j < i
      · simp only [if_pos h1]
        exact (hc j (by omega)).1
      · simp only [if_neg h1]
        by_cases h2 : j = i
        · simp only [if_pos h2]
          exact ⟨rfl, rfl, rfl, rfl, rfl⟩
        · simp only [if_neg h2]
          exact (hc (j - 1) (by omega)).1
    · have e : x = g' := by simpa [Value.ownBlock] using he
      rcases hat with h | h
      · exact m2 x hx' (by rw [h, e])
      · have := (m1.lt x hx').2
        omega
  · rw [hlen] at ha hb
    simp only at hxb ⊢
    -- the old index of a place
    by_cases a1 : a < i
    · rw [if_pos a1]
      by_cases b1 : b < i
      · rw [if_pos b1] at hxb; exact hap a b (by omega) (by omega) hab x hxb
      · rw [if_neg b1] at hxb
        by_cases b2 : b = i
        · rw [if_pos b2] at hxb; exact huM a (by omega) x hxb
        · rw [if_neg b2] at hxb; exact hap a (b - 1) (by omega) (by omega) (by omega) x hxb
    · rw [if_neg a1]
      by_cases a2 : a = i
      · rw [if_pos a2]
        intro he
        by_cases b1 : b < i
        · rw [if_pos b1] at hxb; exact huM b (by omega) x he.symm hxb.symm
        · rw [if_neg b1, if_neg (by omega)] at hxb; exact huM (b - 1) (by omega) x he.symm hxb.symm
      · rw [if_neg a2]
        by_cases b1 : b < i
        · rw [if_pos b1] at hxb; exact hap (a - 1) b (by omega) (by omega) (by omega) x hxb
        · rw [if_neg b1] at hxb
          by_cases b2 : b = i
          · rw [if_pos b2] at hxb; exact huM (a - 1) (by omega) x hxb
          · rw [if_neg b2] at hxb; exact hap (a - 1) (b - 1) (by omega) (by omega) (by omega) x hxb
/-- A device more, behind the others. -/
theorem OwnDevs.snoc {w w' : World} {base c' : Nat} {A' : Option Addr} {v u : Value} {l : List Dev} {M : Nat → Value} {xs : List Value} {d : Dev} (hrow0 : w.ownsRow base 46 5 v l.length xs)
    (hc : ∀ j, j < l.length → DevCells xs j (nth dev0 l j) (M j) ∧ OwnMaps w base (M j) (nth dev0 l j).maps ∧ (∀ g, (M j).ownBlock = some g → some g ≠ v.ownBlock))
    (hap : ∀ i j, i < l.length → j < l.length → i ≠ j → ∀ g, (M j).ownBlock = some g → some g ≠ (M i).ownBlock)
    (hgrow : w.grownBy w' v.ownBlock) (hat : ∀ x, (Value.slice A' (l.length + 1) c').ownBlock = some x → v.ownBlock = some x ∨ x = w.heap.size)
    (hrow : w'.ownsRow base 46 5 (.slice A' (l.length + 1) c') (l.length + 1) (xs ++ devCs d u))
    (hu : OwnMaps w base u d.maps) (huv : ∀ x, u.ownBlock = some x → some x ≠ v.ownBlock) (huM : ∀ j, j < l.length → ∀ x, u.ownBlock = some x → some x ≠ (M j).ownBlock) :
    OwnDevs w' base (.slice A' (l.length + 1) c') (l ++ [d]) (fun j => if j < l.length then M j else u) := by
  have hx := own_len hrow0
  obtain ⟨g, cap, hv, _⟩ := own_form hrow (by omega)
  obtain ⟨rfl, _, rfl⟩ : A' = some ⟨g, 0, none⟩ ∧ l.length + 1 = l.length + 1 ∧ c' = cap := by injection hv with h1 h2 h3; exact ⟨h1, rfl, h3⟩
  have e1 : insC xs (l.length * 5) (devCs d u) = xs ++ devCs d u := by
    unfold insC
    rw [List.take_of_length_le (by omega), List.drop_of_length_le (by omega)]
    simp
  have e2 : insAt l l.length d = l ++ [d] := by unfold insAt; simp
  have h := OwnDevs.ins (d := d) (u := u) (i := l.length) hrow0 hc hap (Nat.le_refl _) hgrow (hat g rfl) rfl (by rw [e1]; exact hrow) hu huv huM
  rw [e2] at h
  obtain ⟨ys, h1, h2, h3⟩ := h
  have hM : ∀ j, j < (l ++ [d]).length → (if j < l.length then M j else if j = l.length then u else M (j - 1)) = (if j < l.length then M j else u) := by
    intro j hj
    rw [List.length_append, List.length_singleton] at hj
    by_cases h : j < l.length
    · rw [if_pos h, if_pos h]
    · rw [if_neg h, if_neg h, if_pos (by omega)]
  refine ⟨ys, h1, fun j hj => ?_, fun i j hi hj hij => ?_⟩
  · have := h2 j hj
    simp only [hM j hj] at this
    exact this
  · have := h3 i j hi hj hij
    simp only [hM i hi, hM j hj] at this
    exact this
/-- append of one device that lies in a new block. -/
theorem wpList_append_dev {w : World} {ops : Array Oper} {rest : List Oper} {o : Oper} {a : Act} {Q : Exit → Act → World → Prop} (hg : o.guard = none) (s y : Operand) (hop : o.op = Op.call { callee := Callee.builtin Builtin.append, args := #[s, y], argTypes := #[22, 22] })
    (base : Nat) (v u : Value) (l : List Dev) (M : Nat → Value) (d : Dev) (n : Nat) (hn : l.length = n) (hs : a.eval s = v) (hown : OwnDevs w base v l M) (sz : Nat) (hwz : w.heap.size = sz) (hy : a.eval y = .slice (some ⟨sz, 0, none⟩) 1 1)
    (hu : OwnMaps w base u d.maps) (huv : ∀ x, u.ownBlock = some x → some x ≠ v.ownBlock) (huM : ∀ j, j < l.length → ∀ x, u.ownBlock = some x → some x ≠ (M j).ownBlock)
    (hb : n + 1 ≤ 1099511627776) (hbase : base ≤ w.heap.size)
    (hK : ∀ A cap w', OwnDevs w' base (.slice A (n + 1) cap) (l ++ [d]) (fun j => if j < n then M j else u) → w.grownBy w' v.ownBlock → wpList Try.prog ops Q rest (a.put o.dst (.slice A (n + 1) cap)) w') :
    wpList Try.prog ops Q (o :: rest) a (w.alloc (.cells (devCs d u).toArray 46)) := by
  subst hn hwz
  have hB : Below w.heap.size w (w.alloc (.cells (devCs d u).toArray 46)) := (Below.refl _ _).alloc (Nat.le_refl _) _
  obtain ⟨xs, hrow0, hc0, hap⟩ := hown.keep hB (Nat.le_refl _)
  obtain ⟨Au, cu, hul, _⟩ := hu.form
  have hu2 := own_below hu hB (fun g hg => (hu.lt g hg).2)
  refine wpList_append_optB Try.underlying22 info_dev rfl (by omega) (by omega) hg s y hop base v l.length xs hs hrow0 (some ⟨w.heap.size, 0, none⟩) 1 1 (devCs d u) hy (by rfl) (fun d' hd' => ?_) (fun x hx => ?_) (by omega) (by simp; omega) (fun h => by cases h) ?_
  · obtain rfl : _ = d' := by injection hd'
    exact new_cells w (devCs d u) _
  · simp only [devCs, List.mem_cons, List.not_mem_nil, or_false] at hx
    rcases hx with rfl | rfl | rfl | rfl | rfl
    · rfl
    · rfl
    · rfl
    · rfl
    · rw [hul]; rfl
  · intro A cap w' h2 h3 h4
    refine hK A cap w' (OwnDevs.snoc hrow0 hc0 hap h3 h4 h2 hu2 huv huM) (grown_new h3)
end Go.Proofs.Ytjeeheeaickokaa
