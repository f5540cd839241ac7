/- copy and append of a made slice where an element has several cells; a row into which one element is put. No condition: for any program. -/
import Derived.Test.YtcdfbpdejbpgjaaGreatClearK
import Derived.Laws.CopyOwn
import Derived.Lib.AppendZerosOnto
import Derived.Lib.Overlaps
import Derived.Lib.JoinLaws
import Derived.Shelf.Spec.SlicesInsert
namespace Go.Proofs.YtcdfbpdejbpgjaaGreat
open Go Go.RowKit

/-- copy at elements of several cells: the row behind it, whole. -/
theorem run_copy_rowK {P : Program} (w : World) (dT sT ty elem : TypeId) (size g o dLen dCap : Nat) (a : Addr) (sLen sCap m : Nat) (cur : Array Value) (t : TypeId) (cs : List Value)
    (hu : P.underlying dT = some (.slice elem)) (hs : (P.info? elem).map (·.size) = some size)
    (hg : w.heap[g]? = some (.cells cur t (0, 0))) (hm : m = Nat.min sLen dLen) (hn : cs.length = m * size)
    (hsrc : ∀ j v, cs[j]? = some v → w.cell? (a.add j) = some v) (hfit : o + cs.length ≤ cur.size) (h1 : ∀ v ∈ cs, v.oneCell' = true) :
    (Builtin.copy_ #[dT, sT] ty #[.slice (some ⟨g, o, none⟩) dLen dCap, .slice (some a) sLen sCap]).run P w =
      .ok (goInt m) (w.setRow g (splice cur.toList o cs).toArray) := by
  have hl := run_loadCells_list (P := P) w a cs hsrc
  have hst := run_storeCells_at P g o t cs 0 cur w hg (by simpa using hfit) h1
  have e : splice cur.toList o cs = cur.toList.take o ++ cs ++ cur.toList.drop (o + cs.length) := by unfold splice; rw [List.append_assoc]
  rw [e]
  rw [hn] at hl hst
  cases hq : P.info? elem with
  | none => simp [hq] at hs
  | some i =>
    have hi : i.size = size := by simpa [hq] using hs
    simp [Builtin.copy_, run_underlying hu, Builtin.lenOf, Builtin.firstCells, sizeOf, typeInfo, hq, hi, ← hm, hl, hst, hn]

section
variable {w : World} {base e size g n c : Nat} {xs : List Value}
/-- Such a row, opened. -/
theorem own_open (h : w.ownsRow base e size (.slice (some ⟨g, 0, none⟩) n c) n xs) : ∃ cur : Array Value, base ≤ g ∧ w.heap[g]? = some (.cells cur e (0, 0)) ∧ n ≤ c ∧ c ≤ maxLen ∧ cur.size = c * size ∧ cur.toList.take (n * size) = xs := by
  rcases h.2 with ⟨hv, _⟩ | ⟨g', cap', cur, hv, hb, hg, hnc, hcm, hcs, htake⟩
  · injection hv with e1; cases e1
  · injection hv with e1 e2 e3
    injection e1 with e1
    injection e1 with e1
    subst e1 e3
    exact ⟨cur, hb, hg, hnc, hcm, hcs, htake⟩
theorem own_mk {cur : Array Value} (hb : base ≤ g) (hg : w.heap[g]? = some (.cells cur e (0, 0))) (hnc : n ≤ c) (hcm : c ≤ maxLen) (hcs : cur.size = c * size) (ht : cur.toList.take (n * size) = xs) : w.ownsRow base e size (.slice (some ⟨g, 0, none⟩) n c) n xs := by
  refine ⟨?_, .inr ⟨g, c, cur, rfl, hb, hg, hnc, hcm, hcs, ht⟩⟩
  rw [← ht, List.length_take]
  have := Nat.mul_le_mul_right size hnc
  simp only [Array.length_toList]
  omega
theorem grown_setRow (g : Nat) (cs : Array Value) : w.grownBy (w.setRow g cs) (some g) :=
  ⟨rfl, rfl, rfl, by simp [World.setRow], fun k _ hne => setRow_other w g k cs (fun e => hne (by rw [e]))⟩
theorem setRow_size (g : Nat) (cs : Array Value) : (w.setRow g cs).heap.size = w.heap.size := by simp [World.setRow]
end
/-- The lists behind an insertion. -/
theorem splice_mid {α : Type} (A T D new : List α) (s : Nat) (hs : new.length = s) (hT : s + D.length ≤ T.length) : splice (splice (A ++ T) (A.length + s) D) A.length new = A ++ (new ++ (D ++ T.drop (s + D.length))) := by
  have e1 : splice (A ++ T) (A.length + s) D = A ++ (T.take s ++ (D ++ T.drop (s + D.length))) := by
    unfold splice
    rw [List.take_append, List.drop_append]
    have h1 : (A.length + s) - A.length = s := by omega
    have h2 : (A.length + s + D.length) - A.length = s + D.length := by omega
    rw [h1, h2, List.take_of_length_le (by omega), List.drop_of_length_le (l := A) (by omega), List.nil_append, List.append_assoc]
  rw [e1]
  unfold splice
  rw [List.take_append, List.drop_append, Nat.sub_self, List.take_zero, List.append_nil, List.take_of_length_le (by omega), List.drop_of_length_le (l := A) (by omega), List.nil_append]
  have h3 : A.length + new.length - A.length = s := by omega
  rw [h3, List.drop_append, List.drop_of_length_le (by rw [List.length_take]; omega), List.nil_append, List.length_take, Nat.min_eq_left (by omega), Nat.sub_self, List.drop_zero]
theorem splice_end {α : Type} (A T D new : List α) (s : Nat) (hs : new.length = s) (_hT : s + D.length ≤ T.length) : splice (splice (A ++ T) A.length new) (A.length + s) D = A ++ (new ++ (D ++ T.drop (s + D.length))) := by
  have e1 : splice (A ++ T) A.length new = A ++ (new ++ T.drop s) := by
    unfold splice
    rw [List.take_append, List.drop_append, Nat.sub_self, List.take_zero, List.append_nil, List.take_of_length_le (by omega), List.drop_of_length_le (l := A) (by omega), List.nil_append]
    congr 3
    omega
  rw [e1]
  unfold splice
  have e2 : A ++ (new ++ T.drop s) = (A ++ new) ++ T.drop s := by rw [List.append_assoc]
  have e3 : (A ++ new).length = A.length + s := by rw [List.length_append, hs]
  rw [e2, ← e3, List.take_append, List.drop_append, Nat.sub_self, List.take_zero, List.append_nil, List.take_of_length_le (by omega), List.drop_of_length_le (l := A ++ new) (by omega), List.nil_append, List.append_assoc, List.drop_drop]
  congr 4
  omega
/-- One element put into a list of cells. -/
def insC (xs : List Value) (o : Nat) (new : List Value) : List Value := xs.take o ++ (new ++ xs.drop o)
theorem insC_end {xs : List Value} {o : Nat} (h : xs.length = o) (new : List Value) : insC xs o new = xs ++ new := by
  unfold insC; rw [List.take_of_length_le (by omega), List.drop_of_length_le (by omega), List.append_nil]
theorem insC_room {cur xs new : List Value} {n i s c : Nat} (hx : cur.take (n * s) = xs) (hc : cur.length = c * s) (hn : new.length = s) (hi : i ≤ n) (hnc : n + 1 ≤ c) :
    (splice (splice cur ((i + 1) * s) (xs.drop (i * s))) (i * s) new).take ((n + 1) * s) = insC xs (i * s) new ∧ (splice (splice cur ((i + 1) * s) (xs.drop (i * s))) (i * s) new).length = c * s := by
  have h1 : i * s ≤ n * s := Nat.mul_le_mul_right _ hi
  have h2 : (n + 1) * s ≤ c * s := Nat.mul_le_mul_right _ hnc
  have h3 : (n + 1) * s = n * s + s := by rw [Nat.add_mul, Nat.one_mul]
  have h4 : (i + 1) * s = i * s + s := by rw [Nat.add_mul, Nat.one_mul]
  have hxl : xs.length = n * s := by rw [← hx, List.length_take]; omega
  have hA : (cur.take (i * s)).length = i * s := by rw [List.length_take]; omega
  have hcur : cur = cur.take (i * s) ++ cur.drop (i * s) := (List.take_append_drop _ _).symm
  have hAx : cur.take (i * s) = xs.take (i * s) := by rw [← hx, List.take_take, Nat.min_eq_left h1]
  have hD : (xs.drop (i * s)).length = n * s - i * s := by rw [List.length_drop, hxl]
  have hT : s + (xs.drop (i * s)).length ≤ (cur.drop (i * s)).length := by rw [hD, List.length_drop]; omega
  have key := splice_mid (cur.take (i * s)) (cur.drop (i * s)) (xs.drop (i * s)) new s hn hT
  rw [hA, ← hcur, ← h4] at key
  rw [key]
  unfold insC
  rw [hAx]
  constructor
  · rw [← List.append_assoc, ← List.append_assoc, List.take_append_of_le_length (by simp only [List.length_append, hn, hD, List.length_take]; omega), List.take_of_length_le (by simp only [List.length_append, hn, hD, List.length_take]; omega), List.append_assoc]
  · simp only [List.length_append, hn, hD, List.length_take, List.length_drop]
    omega
theorem insC_new {row xs new : List Value} {n i s c : Nat} (hx : row.take (i * s) = xs.take (i * s)) (hxl : xs.length = n * s) (hc : row.length = c * s) (hn : new.length = s) (hi : i ≤ n) (hnc : n + 1 ≤ c) :
    (splice (splice row (i * s) new) ((i + 1) * s) (xs.drop (i * s))).take ((n + 1) * s) = insC xs (i * s) new ∧ (splice (splice row (i * s) new) ((i + 1) * s) (xs.drop (i * s))).length = c * s := by
  have h1 : i * s ≤ n * s := Nat.mul_le_mul_right _ hi
  have h2 : (n + 1) * s ≤ c * s := Nat.mul_le_mul_right _ hnc
  have h3 : (n + 1) * s = n * s + s := by rw [Nat.add_mul, Nat.one_mul]
  have h4 : (i + 1) * s = i * s + s := by rw [Nat.add_mul, Nat.one_mul]
  have hA : (row.take (i * s)).length = i * s := by rw [List.length_take]; omega
  have hcur : row = row.take (i * s) ++ row.drop (i * s) := (List.take_append_drop _ _).symm
  have hD : (xs.drop (i * s)).length = n * s - i * s := by rw [List.length_drop, hxl]
  have hT : s + (xs.drop (i * s)).length ≤ (row.drop (i * s)).length := by rw [hD, List.length_drop]; omega
  have key := splice_end (row.take (i * s)) (row.drop (i * s)) (xs.drop (i * s)) new s hn hT
  rw [hA, ← hcur, ← h4] at key
  rw [key]
  unfold insC
  rw [hx]
  constructor
  · rw [← List.append_assoc, ← List.append_assoc, List.take_append_of_le_length (by simp only [List.length_append, hn, hD, List.length_take]; omega), List.take_of_length_le (by simp only [List.length_append, hn, hD, List.length_take]; omega), List.append_assoc]
  · simp only [List.length_append, hn, hD, List.length_take, List.length_drop]
    omega
end Go.Proofs.YtcdfbpdejbpgjaaGreat
