/- append at any elements: which block the result lies in. Condition: the list is within the reach. -/
import Derived.Test.YtolpgblegbahgaaBase
import Derived.Test.YtolpgblegbahgaaMap
import Derived.Laws.OwnMore
import Derived.Test.YtolpgblegbahgaaAppOpt
namespace Go.Proofs.Ytolpgblegbahgaa
open Go Go.RowKit

theorem step_append_optB {P : Program} {w : World} {ops : Array Oper} {o : Oper} {a : Act} {K : Act → World → Prop} {Q : Exit → Act → World → Prop} {F : Prop} {t e size bytes : Nat} {z : Value}
    (hu : P.underlying t = some (.slice e)) (hinfo : (P.info? e).map (fun i => (i.zero, i.size, i.bytes)) = some (some z, size, bytes)) (hz : z.cells.size = size) (hsz : 0 < size) (hby : 0 < bytes)
    (hg : o.guard = none) (s y : Operand) (hop : o.op = Op.call { callee := Callee.builtin Builtin.append, args := #[s, y], argTypes := #[t, t] })
    (base : Nat) (v : Value) (n : Nat) (xs : List Value) (hs : a.eval s = v) (hown : w.ownsRow base e size v n xs) (ad : Option Addr) (m c : Nat) (news : List Value) (hy : a.eval y = .slice ad m c)
    (hl : news.length = m * size) (hc : ∀ d, ad = some d → ∀ j u, news[j]? = some u → w.cell? (d.add j) = some u) (h1 : ∀ u ∈ news, u.oneCell' = true) (hb : (n + m) * bytes ≤ 140737488355328) (hbase : base ≤ w.heap.size) (hno : ad = none → m = 0)
    (hK : ∀ A cap w', w'.ownsRow base e size (.slice A (n + m) cap) (n + m) (xs ++ news) → w.grownBy w' v.ownBlock → (∀ x, (Value.slice A (n + m) cap).ownBlock = some x → v.ownBlock = some x ∨ x = w.heap.size) → K (a.put o.dst (.slice A (n + m) cap)) w') :
    if Region.wanted o (yielded ops a.tmps) = true then Oper.wp P o a w K Q else F := by
  have hw : Region.wanted o (yielded ops a.tmps) = true := by simp [Region.wanted, hg]
  rw [if_pos hw]
  obtain ⟨i0, hi, hz0, hz1, hz2⟩ := info_parts hinfo
  have hm : n + m ≤ maxLen := by
    have := Nat.mul_le_mul_left (n + m) hby
    unfold maxLen; omega
  cases ad with
  | some d =>
    obtain ⟨v', w', hr, h2, h3, _, h5⟩ := run_append_own_at (P := P) w base t o.type e i0 z size bytes hu hi hz0 hz1 hz2 hz hsz v n xs hown d m c news hl (hc d rfl) h1 hm hb hbase
    obtain ⟨A, cap, rfl, _⟩ := own_form0 h2
    unfold Oper.wp execOp
    simp only [hop, resolve, invoke, builtin, Sem.run_bind, Sem.run_pure, Result.andThen_ok, List.map_toArray, List.map_cons, List.map_nil, hs, hy, hr]
    refine hK A cap w' h2 h3 (fun x hx => ?_)
    rcases h5 with h5 | h5
    · exact .inl (h5 ▸ hx)
    · right
      rw [h5] at hx
      injection hx with hx
      exact hx.symm
  | none =>
    obtain rfl := hno rfl
    obtain rfl : news = [] := List.eq_nil_of_length_eq_zero (by omega)
    obtain ⟨A, cap, rfl, _⟩ := own_form0 hown
    have hKK := hK A cap w (by simpa using hown) (World.grownBy.refl w _) (fun x hx => .inl hx)
    have hrun := run_append_owned_nil (P := P) (w := w) base t o.type e i0 size hu hi _ n xs c hown
    unfold Oper.wp execOp
    simp only [hop, resolve, invoke, builtin, Sem.run_bind, Sem.run_pure, Result.andThen_ok, List.map_toArray, List.map_cons, List.map_nil, hs, hy, hrun]
    exact hKK
theorem wpList_append_optB {P : Program} {w : World} {ops : Array Oper} {rest : List Oper} {o : Oper} {a : Act} {Q : Exit → Act → World → Prop} {t e size bytes : Nat} {z : Value}
    (hu : P.underlying t = some (.slice e)) (hinfo : (P.info? e).map (fun i => (i.zero, i.size, i.bytes)) = some (some z, size, bytes)) (hz : z.cells.size = size) (hsz : 0 < size) (hby : 0 < bytes)
    (hg : o.guard = none) (s y : Operand) (hop : o.op = Op.call { callee := Callee.builtin Builtin.append, args := #[s, y], argTypes := #[t, t] })
    (base : Nat) (v : Value) (n : Nat) (xs : List Value) (hs : a.eval s = v) (hown : w.ownsRow base e size v n xs) (ad : Option Addr) (m c : Nat) (news : List Value) (hy : a.eval y = .slice ad m c)
    (hl : news.length = m * size) (hc : ∀ d, ad = some d → ∀ j u, news[j]? = some u → w.cell? (d.add j) = some u) (h1 : ∀ u ∈ news, u.oneCell' = true) (hb : (n + m) * bytes ≤ 140737488355328) (hbase : base ≤ w.heap.size) (hno : ad = none → m = 0)
    (hK : ∀ A cap w', w'.ownsRow base e size (.slice A (n + m) cap) (n + m) (xs ++ news) → w.grownBy w' v.ownBlock → (∀ x, (Value.slice A (n + m) cap).ownBlock = some x → v.ownBlock = some x ∨ x = w.heap.size) → wpList P ops Q rest (a.put o.dst (.slice A (n + m) cap)) w') :
    wpList P ops Q (o :: rest) a w := by
  refine wpList_plain hg fun K hKK => ?_
  have h := step_append_optB (ops := ops) (o := o) (a := a) (w := w) (K := K) (Q := Q) (F := False) hu hinfo hz hsz hby hg s y hop base v n xs hs hown ad m c news hy hl hc h1 hb hbase hno (fun A cap w' h2 h3 h4 => hKK _ _ (hK A cap w' h2 h3 h4))
  rw [if_pos (by simp [Region.wanted, hg])] at h
  exact h
/-- 'append(out, x)', out nil or the call's own: where the result lies. -/
theorem wpList_append_oneB {P : Program} {w : World} {ops : Array Oper} {rest : List Oper} {o : Oper} {a : Act} {Q : Exit → Act → World → Prop} {t e size bytes : Nat} {α : Type} {enc : α → List Value}
    (E : Elem P t e size bytes enc) (hg : o.guard = none) (s y : Operand) (hop : o.op = Op.call { callee := Callee.builtin Builtin.append, args := #[s, y], argTypes := #[t, t] })
    (base : Nat) (v : Value) (n : Nat) (l : List α) (x : α) (hs : a.eval s = v) (hown : w.ownsRow base e size v n (flats enc l)) (hy : a.eval y = .slice (some ⟨w.heap.size, 0, none⟩) 1 1)
    (hb : (n + 1) * bytes ≤ 140737488355328) (hbase : base ≤ w.heap.size)
    (hK : ∀ A cap w', w'.ownsRow base e size (.slice A (n + 1) cap) (n + 1) (flats enc (l ++ [x])) → w.grownBy w' v.ownBlock → (∀ x, (Value.slice A (n + 1) cap).ownBlock = some x → v.ownBlock = some x ∨ w.heap.size ≤ x) → wpList P ops Q rest (a.put o.dst (.slice A (n + 1) cap)) w') :
    wpList P ops Q (o :: rest) a (w.alloc (.cells (enc x).toArray e)) := by
  obtain ⟨z, hinfo, hz⟩ := E.info
  refine wpList_append_optB E.u hinfo hz E.hsz E.hby hg s y hop base v n (flats enc l) hs (hown.alloc _) (some ⟨w.heap.size, 0, none⟩) 1 1 (enc x) hy (by rw [E.len]; omega) (fun d hd => ?_) (E.one x) hb (by simp; omega) (fun h => by cases h) ?_
  · obtain rfl : _ = d := by injection hd
    exact new_cells w (enc x) e
  · intro A cap w' h1 h2 h3
    exact hK A cap w' (by rw [flats_append, flats_one]; exact h1) (grown_new h2) (fun y hy => by
      rcases h3 y hy with h | h
      · exact .inl h
      · right; rw [h]; simp)
end Go.Proofs.Ytolpgblegbahgaa
