/- 'append(out, s...)', out nil or the call's own, s nil or at an address. No condition: for any program. -/
import Derived.Test.YtolpgblegbahgaaCells
import Derived.Laws.AppendOwnNone
namespace Go.Proofs.Ytolpgblegbahgaa
open Go Go.RowKit
theorem run_append_owned_nil {P : Program} {w : World} (base : Nat) (t ty e : TypeId) (i : TypeInfo) (size : Nat) (ht : P.underlying t = some (.slice e)) (hi : P.info? e = some i)
    (v : Value) (n : Nat) (xs : List Value) (c : Nat) (hown : w.ownsRow base e size v n xs) :
    (Builtin.append_ #[t, t] ty #[v, .slice none 0 c]).run P w = .ok v w := by
  rcases hown.2 with ⟨rfl, rfl⟩ | ⟨g, cap, cur, rfl, _, _, hnc, _⟩
  · simp [Builtin.append_, run_underlying ht, sizeOf, typeInfo, hi, Builtin.lenOf, Builtin.firstCells]
  · simp [Builtin.append_, run_underlying ht, sizeOf, typeInfo, hi, Builtin.lenOf, Builtin.firstCells, hnc, storeCells]
theorem wpList_append_opt {P : Program} {w : World} {ops : Array Oper} {rest : List Oper} {o : Oper} {a : Act} {Q : Exit → Act → World → Prop} {t e size bytes : Nat} {z : Value}
    (hu : P.underlying t = some (.slice e)) (hinfo : (P.info? e).map (fun i => (i.zero, i.size, i.bytes)) = some (some z, size, bytes)) (hz : z.cells.size = size) (hsz : 0 < size) (hby : 0 < bytes)
    (hg : o.guard = none) (s y : Operand) (hop : o.op = Op.call { callee := Callee.builtin Builtin.append, args := #[s, y], argTypes := #[t, t] })
    (base : Nat) (v : Value) (n : Nat) (xs : List Value) (hs : a.eval s = v) (hown : w.ownsRow base e size v n xs) (ad : Option Addr) (m c : Nat) (news : List Value) (hy : a.eval y = .slice ad m c)
    (hl : news.length = m * size) (hc : ∀ d, ad = some d → ∀ j u, news[j]? = some u → w.cell? (d.add j) = some u) (h1 : ∀ u ∈ news, u.oneCell' = true) (hb : (n + m) * bytes ≤ 140737488355328) (hbase : base ≤ w.heap.size) (hno : ad = none → m = 0)
    (hK : ∀ A cap w', w'.ownsRow base e size (.slice A (n + m) cap) (n + m) (xs ++ news) → w.grownBy w' v.ownBlock → wpList P ops Q rest (a.put o.dst (.slice A (n + m) cap)) w') :
    wpList P ops Q (o :: rest) a w := by
  cases ad with
  | some d => exact wpList_append_cells hu hinfo hz hsz hby hg s y hop base v n xs hs hown d m c news hy hl (hc d rfl) h1 hb hbase hK
  | none =>
    obtain rfl := hno rfl
    obtain ⟨i0, hi, _, hz1, _⟩ := info_parts hinfo
    obtain rfl : news = [] := List.eq_nil_of_length_eq_zero (by omega)
    obtain ⟨A, cap, rfl, _⟩ := own_form0 hown
    have hKK := hK A cap w (by simpa using hown) (World.grownBy.refl w _)
    rw [Nat.add_zero] at hKK
    refine wpList_plain hg fun K hK => ?_
    have hrun := run_append_owned_nil (P := P) (w := w) base t o.type e i0 size hu hi _ n xs c hown
    unfold Oper.wp
    simp [execOp, hop, resolve, invoke, builtin, hs, hy, hrun, Result.andThen]
    refine hK _ _ ?_
    exact hKK
/-- A guarded operation whose guard lets it by. -/
theorem wpList_ungd {P : Program} {w : World} {ops : Array Oper} {rest : List Oper} {o : Oper} {a : Act} {Q : Exit → Act → World → Prop} (hw : Region.wanted o (yielded ops a.tmps) = true)
    (h : wpList P ops Q ({ o with guard := none } :: rest) a w) : wpList P ops Q (o :: rest) a w := by
  unfold wpList at h ⊢
  rw [if_pos hw]
  rw [if_pos (by rfl)] at h
  exact h
end Go.Proofs.Ytolpgblegbahgaa
