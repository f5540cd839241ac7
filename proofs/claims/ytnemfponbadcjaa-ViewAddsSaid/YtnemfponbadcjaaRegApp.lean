/- 'append(out, x)' as one step of a region that draws its order. No condition: for any program. -/
import Derived.Test.YtnemfponbadcjaaBase
import Derived.Test.YtnemfponbadcjaaRegT
import Derived.Maps.AppendAt
namespace Go.Proofs.Ytnemfponbadcjaa
open Go Go.RowKit

theorem step_append_one {P : Program} {w : World} {ops : Array Oper} {o : Oper} {a : Act} {K : Act → World → Prop} {Q : Exit → Act → World → Prop} {F : Prop} {t e size bytes : Nat} {α : Type} {enc : α → List Value}
    (E : Elem P t e size bytes enc) (hg : o.guard = none) (s y : Operand) (hop : o.op = Op.call { callee := Callee.builtin Builtin.append, args := #[s, y], argTypes := #[t, t] })
    (base : Nat) (v : Value) (n : Nat) (l : List α) (x : α) (hs : a.eval s = v) (hown : w.ownsRow base e size v n (flats enc l)) (hy : a.eval y = .slice (some ⟨w.heap.size, 0, none⟩) 1 1)
    (hb : (n + 1) * bytes ≤ 140737488355328) (hbase : base ≤ w.heap.size)
    (hK : ∀ A cap w', w'.ownsRow base e size (.slice A (n + 1) cap) (n + 1) (flats enc (l ++ [x])) → w.grownBy w' v.ownBlock → K (a.put o.dst (.slice A (n + 1) cap)) w') :
    if Region.wanted o (yielded ops a.tmps) = true then Oper.wp P o a (w.alloc (.cells (enc x).toArray e)) K Q else F := by
  have hw : Region.wanted o (yielded ops a.tmps) = true := by simp [Region.wanted, hg]
  rw [if_pos hw]
  obtain ⟨z, hinfo, hz⟩ := E.info
  obtain ⟨i0, hi, hz0, hz1, hz2⟩ := info_parts hinfo
  have hm : n + 1 ≤ maxLen := by
    have := Nat.mul_le_mul_left (n + 1) E.hby
    unfold maxLen; omega
  obtain ⟨v', w', hr, h2, h3, _, _⟩ := run_append_own_at (P := P) (w.alloc (.cells (enc x).toArray e)) base t o.type e i0 z size bytes E.u hi hz0 hz1 hz2 hz E.hsz v n (flats enc l) (hown.alloc _) ⟨w.heap.size, 0, none⟩ 1 1 (enc x) (by rw [E.len]; omega) (new_cells w (enc x) e) (E.one x) hm hb (by simp; omega)
  obtain ⟨A, cap, rfl, _⟩ := own_form0 h2
  unfold Oper.wp execOp
  simp only [hop, resolve, invoke, builtin, Sem.run_bind, Sem.run_pure, Result.andThen_ok, List.map_toArray, List.map_cons, List.map_nil, hs, hy, hr]
  exact hK A cap w' (by rw [flats_append, flats_one]; exact h2) (grown_new h3)
end Go.Proofs.Ytnemfponbadcjaa
