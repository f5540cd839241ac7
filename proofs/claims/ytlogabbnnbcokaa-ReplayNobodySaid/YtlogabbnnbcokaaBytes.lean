/- Slices of bytes, and strings of them. No condition: no program is in sight here. -/
import Derived.Test.YtlogabbnnbcokaaCells
import Derived.Laws.BytesArg
import Derived.Laws.CopyOwn
namespace Go.Proofs.Ytlogabbnnbcokaa
open Go.RowKit

def encB (u : UInt8) : List Value := [.int .u8 (u.toNat : Int)]
theorem encB_len (u : UInt8) : (encB u).length = 1 := rfl
theorem encB_one (u : UInt8) : ∀ x ∈ encB u, x.oneCell' = true := by intro x hx; simp [encB] at hx; subst hx; rfl
abbrev ByteRow (w : World) (S : Nat → Prop) (A : Option Addr) (l : List UInt8) : Prop := RowOf (Flat encB) 1 (0 : UInt8) w S A l
abbrev IsBytes (w : World) (S : Nat → Prop) (v : Value) (l : List UInt8) : Prop := IsSl (Flat encB) 1 (0 : UInt8) w S v l
theorem bytes_cells {w : World} {S : Nat → Prop} {A : Option Addr} {l : List UInt8} (h : ByteRow w S A l) (hl : 0 < l.length) :
    ∃ b off, A = some ⟨b, off, none⟩ ∧ S b ∧ ∀ k, k < l.length → w.cell? ⟨b, off + k, none⟩ = some (.int .u8 ((nth 0 l k).toNat : Int)) := by
  obtain ⟨b, off, e, hb, hc⟩ := h hl
  refine ⟨b, off, e, hb, fun k hk => ?_⟩
  obtain ⟨cs, _, hr, h3⟩ := hc k hk
  obtain rfl : cs = _ := hr
  have := h3 0 _ rfl
  simpa using this
theorem flats_encB (l : List UInt8) : flats encB l = l.map fun u => Value.int .u8 (u.toNat : Int) := by
  induction l with
  | nil => rfl
  | cons a l ih => rw [List.map_cons, ← ih]; rfl
theorem flatsB_len (l : List UInt8) : (flats encB l).length = l.length := by rw [flats_encB, List.length_map]
theorem flatsB_one (l : List UInt8) : ∀ x ∈ flats encB l, x.oneCell' = true := by
  intro x hx
  rw [flats_encB] at hx
  obtain ⟨u, _, rfl⟩ := List.mem_map.1 hx
  rfl
/-- The string of bytes. -/
def strB (l : List UInt8) : ByteArray := ⟨l.toArray⟩
theorem strB_inj {l r : List UInt8} (h : strB l = strB r) : l = r := by
  have := congrArg (fun s : ByteArray => s.data.toList) h
  simpa [strB] using this
theorem strB_size (l : List UInt8) : (strB l).size = l.length := by simp [strB, ByteArray.size]
theorem strOf_bytes (l : List UInt8) : strOfNums (l.map fun u => (u.toNat : Int)) = strB l := by
  unfold strOfNums strB
  congr 2
  rw [List.map_map]
  conv => rhs; rw [← List.map_id l]
  apply List.map_congr_left
  intro u _
  simp
theorem conv_bytes {P : Program} {w : World} {S : Nat → Prop} {A : Option Addr} {c : Nat} {l : List UInt8} (src e : TypeId) (hs : P.underlying src = some (.slice e)) (he : P.underlying e = some (.int .u8)) (h : ByteRow w S A l) :
    ∀ dst, P.underlying dst = some .string → (convert src dst (.slice A l.length c)).run P w = .ok (.string (strB l)) w := by
  intro dst hd
  by_cases hl : 0 < l.length
  · obtain ⟨b, off, rfl, _, hc⟩ := bytes_cells h hl
    rw [← strOf_bytes]
    refine run_convert_bytes_arg w src e hs he b off l.length c _ (by simp) (fun i hi => ?_) dst hd
    rw [hc i hi, nth_get 0 l i hi]
    simp [hi]
  · obtain rfl : l = [] := List.eq_nil_of_length_eq_zero (by omega)
    cases A with
    | none => exact run_convert_bytes_nil w src e hs he _ _ dst hd
    | some a =>
      obtain ⟨b, off, q⟩ := a
      have hl : (loadCells ⟨b, off, q⟩ 0).run P w = .ok (([] : List Int).map (Value.int .u8)).toArray w := by
        simpa using run_loadCells_list (P := P) w ⟨b, off, q⟩ [] (fun j v hj => by simp at hj)
      rw [List.length_nil, run_convert_bytes_string w src dst e _ 0 c hs he hd, run_bytesToString w _ 0 c [] hl, foldl_push_bytes]
      rfl
end Go.Proofs.Ytlogabbnnbcokaa
