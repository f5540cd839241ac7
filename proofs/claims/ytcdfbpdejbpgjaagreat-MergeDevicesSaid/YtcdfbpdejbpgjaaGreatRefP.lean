/- How many mappings have each data block, counted; what a write does to the counts. No condition: no program is in sight here. -/
import Derived.Test.YtcdfbpdejbpgjaaGreatFitP
import Derived.Test.YtcdfbpdejbpgjaaGreatWSameM
namespace Go.Proofs.YtcdfbpdejbpgjaaGreat
open Go.RowKit

def occM (b : Int) : List Mp → Int
  | [] => 0
  | m :: l => (if m.b = b then 1 else 0) + occM b l
def occD (b : Int) : List Dev → Int
  | [] => 0
  | d :: l => occM b d.maps + occD b l
theorem occM_append (b : Int) (l r : List Mp) : occM b (l ++ r) = occM b l + occM b r := by
  induction l with
  | nil => simp [occM]
  | cons x l ih => simp only [List.cons_append, occM, ih]; omega
theorem occD_append (b : Int) (l r : List Dev) : occD b (l ++ r) = occD b l + occD b r := by
  induction l with
  | nil => simp [occD]
  | cons x l ih => simp only [List.cons_append, occD, ih]; omega
theorem occM_set (b : Int) {l : List Mp} {k : Nat} (x : Mp) (hk : k < l.length) : occM b (l.set k x) = occM b l - (if (nth mp0 l k).b = b then 1 else 0) + (if x.b = b then 1 else 0) := by
  have h1 := occM_append b (l.take k) (l.drop k)
  rw [List.take_append_drop, drop_nth mp0 l k hk] at h1
  rw [List.set_eq_take_append_cons_drop, if_pos hk, occM_append]
  simp only [occM] at h1 ⊢
  omega
theorem occM_ins (b : Int) (l : List Mp) (k : Nat) (x : Mp) : occM b (insAt l k x) = occM b l + (if x.b = b then 1 else 0) := by
  have h1 := occM_append b (l.take k) (l.drop k)
  rw [List.take_append_drop] at h1
  unfold insAt
  rw [occM_append]
  simp only [occM]
  omega
theorem occD_set (b : Int) {l : List Dev} {k : Nat} (d : Dev) (hk : k < l.length) : occD b (l.set k d) = occD b l - occM b (nth dev0 l k).maps + occM b d.maps := by
  have h1 := occD_append b (l.take k) (l.drop k)
  rw [List.take_append_drop, drop_nth dev0 l k hk] at h1
  rw [List.set_eq_take_append_cons_drop, if_pos hk, occD_append]
  simp only [occD] at h1 ⊢
  omega
def occP (b : Int) : List (Nat × Mp) → Int
  | [] => 0
  | x :: l => (if x.2.b = b then 1 else 0) + occP b l
theorem occP_append (b : Int) (l r : List (Nat × Mp)) : occP b (l ++ r) = occP b l + occP b r := by
  induction l with
  | nil => simp [occP]
  | cons x l ih => simp only [List.cons_append, occP, ih]; omega
theorem occP_map (b : Int) (i : Nat) (l : List Mp) : occP b (l.map fun m => (i, m)) = occM b l := by
  induction l with
  | nil => rfl
  | cons x l ih => simp only [List.map_cons, occP, occM, ih]
theorem occP_pairs (b : Int) : ∀ (l : List Dev) (i : Nat), occP b (pairsFrom i l) = occD b l := by
  intro l
  induction l with
  | nil => intro i; rfl
  | cons d l ih =>
    intro i
    have e : pairsFrom i (d :: l) = d.maps.map (fun m => (i, m)) ++ pairsFrom (i + 1) l := rfl
    rw [e, occP_append, occP_map, ih]
    rfl
theorem bumps_occ : ∀ (ms : List (Nat × Mp)) (l : List Int) (b : Nat), b < l.length → (∀ x ∈ ms, 0 ≤ x.2.b) → nth 0 (bumps l ms) b = nth 0 l b + occP b ms := by
  intro ms
  induction ms with
  | nil => intro l b _ _; simp [bumps, occP]
  | cons x ms ih =>
    intro l b hb h
    have e : bumps l (x :: ms) = bumps (bump l x.2.b) ms := rfl
    have hx := h x (by simp)
    rw [e, ih _ _ (by rw [bump_length]; exact hb) (fun y hy => h y (by simp [hy]))]
    unfold bump
    rw [nth_set]
    simp only [occP]
    by_cases h1 : x.2.b = (b : Int)
    · rw [if_pos ⟨by omega, by omega⟩, if_pos h1]
      have : x.2.b.toNat = b := by omega
      rw [this]; omega
    · rw [if_neg (fun h2 => h1 (by omega)), if_neg h1]
      omega
theorem refs_leng {p : Pool} (h : poolChk p = 0) : (refsRes p).length = p.data.toNat := by
  unfold refsRes
  rw [if_pos h]
  unfold refsOf
  rw [bumps_length, List.length_replicate]
theorem refs_nth {p : Pool} (h : poolChk p = 0) {b : Nat} (hb : b < p.data.toNat) : nth 0 (refsRes p) b = occD b p.devs := by
  unfold refsRes
  rw [if_pos h]
  unfold refsOf
  rw [bumps_occ _ _ _ (by rw [List.length_replicate]; exact hb) (fun x hx => (pairs_b h x hx).1), nth_replicate]
  unfold pairs
  rw [occP_pairs]
  omega
theorem refs_ext {p : Pool} (h : poolChk p = 0) {cs : List Int} (hl : cs.length = p.data.toNat) (hc : ∀ b : Nat, b < p.data.toNat → nth 0 cs b = occD b p.devs) : cs = refsRes p :=
  eq_of_nth 0 (by rw [hl, refs_leng h]) (fun j hj => by rw [hc j (by omega), refs_nth h (by omega)])
theorem occM_pos {l : List Mp} {j : Nat} (hj : j < l.length) : 1 ≤ occM (nth mp0 l j).b l := by
  have nn : ∀ (b : Int) (l : List Mp), 0 ≤ occM b l := by
    intro b l
    induction l with
    | nil => simp [occM]
    | cons x l ih => simp only [occM]; split <;> omega
  have h1 := occM_append (nth mp0 l j).b (l.take j) (l.drop j)
  rw [List.take_append_drop, drop_nth mp0 l j hj] at h1
  have h2 := nn (nth mp0 l j).b (l.take j)
  have h3 := nn (nth mp0 l j).b (l.drop (j + 1))
  simp only [occM] at h1
  rw [if_pos trivial] at h1
  omega
theorem occM_nonneg (b : Int) (l : List Mp) : 0 ≤ occM b l := by
  induction l with
  | nil => simp [occM]
  | cons x l ih => simp only [occM]; split <;> omega
theorem occD_nonneg (b : Int) (l : List Dev) : 0 ≤ occD b l := by
  induction l with
  | nil => simp [occD]
  | cons d l ih => have := occM_nonneg b d.maps; simp only [occD]; omega
theorem occD_ge (b : Int) {l : List Dev} {k : Nat} (hk : k < l.length) : occM b (nth dev0 l k).maps ≤ occD b l := by
  have h1 := occD_append b (l.take k) (l.drop k)
  rw [List.take_append_drop, drop_nth dev0 l k hk] at h1
  have h2 := occD_nonneg b (l.take k)
  have h3 := occD_nonneg b (l.drop (k + 1))
  simp only [occD] at h1
  omega
/-! ### One virtual block is written -/
section
variable {p : Pool} {k : Nat}
theorem map_fit (h : PoolFit p) (hk : k < p.devs.length) {m : Mp} (hm : m ∈ mapsOf p k) : MapFit p.data m := (h.2.2.2.2 _ (nth_mem dev0 p.devs k hk)).2.2.2.2.2 m hm
theorem inc_of (h : PoolFit p) (hk : k < p.devs.length) : IncK Mp.v mp0 (mapsOf p k) := (h.2.2.2.2 _ (nth_mem dev0 p.devs k hk)).2.2.2.2.1
theorem setMaps_fit (h : PoolFit p) (hk : k < p.devs.length) {m : List Mp} (hi : IncK Mp.v mp0 m) (hm : ∀ x ∈ m, MapFit p.data x) (hc : p.count - (mapsOf p k).length + m.length ≤ 16384) : PoolFit (setMaps p k m) := by
  obtain ⟨⟨h1, h2, h3, h4⟩, h5, h6, h7, h8⟩ := h
  refine ⟨⟨h1, h2, h3, h4⟩, ?_, ?_, ?_, fun d hd => ?_⟩
  · show (p.devs.set k _).length ≤ 4096
    rw [List.length_set]; exact h5
  · show countL (p.devs.set k _) ≤ 16384
    rw [countL_set _ hk]
    exact hc
  · exact setK h7 hk rfl
  · rcases List.mem_or_eq_of_mem_set (show d ∈ p.devs.set k _ from hd) with hd | rfl
    · exact h8 d hd
    · obtain ⟨f1, f2, f3, f4, _, _⟩ := h8 _ (nth_mem dev0 p.devs k hk)
      exact ⟨f1, f2, f3, f4, hi, hm⟩
theorem setMaps_maps (hk : k < p.devs.length) (m : List Mp) : mapsOf (setMaps p k m) k = m := by
  unfold mapsOf setMaps withDevs
  simp only
  rw [nth_get dev0 _ k (by rw [List.length_set]; exact hk), List.getElem_set_self]
theorem setMaps_occ (hk : k < p.devs.length) (m : List Mp) (b : Int) : occD b (setMaps p k m).devs = occD b p.devs - occM b (mapsOf p k) + occM b m := by
  show occD b (p.devs.set k _) = _
  rw [occD_set b _ hk]
  rfl
/-- The free data block's number. -/
theorem free_facts (h : PoolFit p) (hf : freeAt (refsRes p) ≠ (refsRes p).length) : freeAt (refsRes p) < p.data.toNat ∧ occD (freeAt (refsRes p)) p.devs = 0 ∧ ∀ j : Nat, j < freeAt (refsRes p) → 0 < nth 0 (refsRes p) j := by
  have hc := fit_iff.2 h
  have hle : freeAt (refsRes p) ≤ (refsRes p).length := posK_le
  have hl := refs_leng hc
  have h1 := posK_at (f := fun x : Int => -x) (d := 0) (v := 0) (l := refsRes p) (by have : posK (fun x : Int => -x) 0 (refsRes p) ≠ (refsRes p).length := hf; have : posK (fun x : Int => -x) 0 (refsRes p) ≤ (refsRes p).length := hle; omega)
  have hlt : freeAt (refsRes p) < p.data.toNat := by omega
  refine ⟨hlt, ?_, fun j hj => ?_⟩
  · have h2 := refs_nth hc hlt
    have h3 := occD_nonneg (freeAt (refsRes p)) p.devs
    have h1 : 0 ≤ -(nth 0 (refsRes p) (freeAt (refsRes p))) := h1
    omega
  · have h2 := posK_below (f := fun x : Int => -x) (d := 0) (v := 0) (l := refsRes p) j hj
    have h2 : -(nth 0 (refsRes p) j) < 0 := h2
    omega
theorem cnt_pos (h : PoolFit p) (hk : k < p.devs.length) {j : Nat} (hj : j < (mapsOf p k).length) : 1 ≤ cntAt p k j ∧ 0 ≤ (nth mp0 (mapsOf p k) j).b ∧ (nth mp0 (mapsOf p k) j).b.toNat < p.data.toNat := by
  have hc := fit_iff.2 h
  have hm := map_fit h hk (nth_mem mp0 _ j hj)
  obtain ⟨_, hb, _⟩ := hm
  have hb2 : (nth mp0 (mapsOf p k) j).b.toNat < p.data.toNat := by omega
  refine ⟨?_, hb.1, hb2⟩
  unfold cntAt
  rw [refs_nth hc hb2]
  have e : ((nth mp0 (mapsOf p k) j).b.toNat : Int) = (nth mp0 (mapsOf p k) j).b := by omega
  rw [e]
  have h1 := occM_pos hj
  have h2 := occD_ge (nth mp0 (mapsOf p k) j).b hk
  have e2 : (nth dev0 p.devs k).maps = mapsOf p k := rfl
  rw [e2] at h2
  omega
/-- A mapping is replaced. -/
theorem wr_there (h : PoolFit p) (hk : k < p.devs.length) {v : Int} (hv : 0 ≤ v ∧ v ≤ 281474976710655) (hh : hasK Mp.v v (mapsOf p k) = true) (hn : cntAt p k (posK Mp.v v (mapsOf p k)) ≠ 1) (hf : freeAt (refsRes p) ≠ (refsRes p).length) :
    PoolFit (setMaps p k ((mapsOf p k).set (posK Mp.v v (mapsOf p k)) ⟨v, freeAt (refsRes p), p.time⟩)) ∧
    refsRes (setMaps p k ((mapsOf p k).set (posK Mp.v v (mapsOf p k)) ⟨v, freeAt (refsRes p), p.time⟩)) = ((refsRes p).set (freeAt (refsRes p)) (nth 0 (refsRes p) (freeAt (refsRes p)) + 1)).set (nth mp0 (mapsOf p k) (posK Mp.v v (mapsOf p k))).b.toNat (nth 0 (refsRes p) (nth mp0 (mapsOf p k) (posK Mp.v v (mapsOf p k))).b.toNat - 1) ∧
    (setMaps p k ((mapsOf p k).set (posK Mp.v v (mapsOf p k)) ⟨v, freeAt (refsRes p), p.time⟩)).count = p.count ∧
    freeAt (refsRes p) ≠ (nth mp0 (mapsOf p k) (posK Mp.v v (mapsOf p k))).b.toNat ∧
    ∀ j : Nat, j < freeAt (refsRes p) → 0 < nth 0 (refsRes (setMaps p k ((mapsOf p k).set (posK Mp.v v (mapsOf p k)) ⟨v, freeAt (refsRes p), p.time⟩))) j := by
  have hc := fit_iff.2 h
  obtain ⟨f1, f2, f3⟩ := free_facts h hf
  obtain ⟨hj, hje⟩ := hasK_at (inc_of h hk) hh
  obtain ⟨c1, c2, c3⟩ := cnt_pos h hk hj
  have hl := refs_leng hc
  generalize hjj : posK Mp.v v (mapsOf p k) = j at *
  generalize hff : freeAt (refsRes p) = f at *
  have hcf := refs_nth hc f1
  have hco : cntAt p k j = nth 0 (refsRes p) (nth mp0 (mapsOf p k) j).b.toNat := rfl
  have hne : f ≠ (nth mp0 (mapsOf p k) j).b.toNat := by
    intro e
    rw [hco, ← e, hcf] at c1
    omega
  have hfit : PoolFit (setMaps p k ((mapsOf p k).set j ⟨v, f, p.time⟩)) := by
    refine setMaps_fit h hk (setK (inc_of h hk) hj hje.symm) (fun x hx => ?_) (by rw [List.length_set]; have := h.2.2.1; omega)
    rcases List.mem_or_eq_of_mem_set hx with hx | rfl
    · exact map_fit h hk hx
    · exact ⟨hv, ⟨by show (0 : Int) ≤ (f : Int); omega, by show (f : Int) < p.data; omega⟩, h.1.2.1⟩
  have hc' := fit_iff.2 hfit
  have hrs : refsRes (setMaps p k ((mapsOf p k).set j ⟨v, f, p.time⟩)) = ((refsRes p).set f (nth 0 (refsRes p) f + 1)).set (nth mp0 (mapsOf p k) j).b.toNat (nth 0 (refsRes p) (nth mp0 (mapsOf p k) j).b.toNat - 1) := by
    refine (refs_ext hc' (by rw [List.length_set, List.length_set, hl]; rfl) (fun b hb => ?_)).symm
    have hb : b < p.data.toNat := hb
    rw [setMaps_occ hk, occM_set b _ hj, nth_set, nth_set, List.length_set]
    simp only
    have hob := refs_nth hc hb
    generalize nth mp0 (mapsOf p k) j = q at *
    by_cases e1 : q.b.toNat = b
    · rw [if_pos (⟨e1, by omega⟩ : q.b.toNat = b ∧ q.b.toNat < (refsRes p).length), if_pos (show q.b = (b : Int) by omega), if_neg (show ¬ ((f : Int) = (b : Int)) by omega), e1, hob]
      omega
    · rw [if_neg (fun e => e1 e.1 : ¬ (q.b.toNat = b ∧ q.b.toNat < (refsRes p).length)), if_neg (show ¬ (q.b = (b : Int)) by omega)]
      by_cases e2 : f = b
      · rw [if_pos (⟨e2, by omega⟩ : f = b ∧ f < (refsRes p).length), if_pos (show (f : Int) = (b : Int) by omega), e2, hob]; omega
      · rw [if_neg (fun e => e2 e.1 : ¬ (f = b ∧ f < (refsRes p).length)), if_neg (show ¬ ((f : Int) = (b : Int)) by omega), hob]; omega
  refine ⟨hfit, hrs, ?_, hne, fun i hi => ?_⟩
  · show countL (p.devs.set k _) = countL p.devs
    rw [countL_set _ hk]
    have e : (nth dev0 p.devs k).maps = mapsOf p k := rfl
    simp only [List.length_set, e]
    omega
  · rw [hrs, nth_set, nth_set, List.length_set]
    have := f3 i hi
    split
    · rename_i h1
      rw [hco] at c1 hn
      omega
    · rw [if_neg (by omega)]
      exact this
/-- A mapping is put in. -/
theorem wr_new (h : PoolFit p) (hk : k < p.devs.length) {v : Int} (hv : 0 ≤ v ∧ v ≤ 281474976710655) (hh : hasK Mp.v v (mapsOf p k) = false) (hn : p.count < 16384) (hf : freeAt (refsRes p) ≠ (refsRes p).length) :
    PoolFit (setMaps p k (insAt (mapsOf p k) (posK Mp.v v (mapsOf p k)) ⟨v, freeAt (refsRes p), p.time⟩)) ∧
    refsRes (setMaps p k (insAt (mapsOf p k) (posK Mp.v v (mapsOf p k)) ⟨v, freeAt (refsRes p), p.time⟩)) = (refsRes p).set (freeAt (refsRes p)) (nth 0 (refsRes p) (freeAt (refsRes p)) + 1) ∧
    (setMaps p k (insAt (mapsOf p k) (posK Mp.v v (mapsOf p k)) ⟨v, freeAt (refsRes p), p.time⟩)).count = p.count + 1 ∧
    ∀ j : Nat, j < freeAt (refsRes p) → 0 < nth 0 (refsRes (setMaps p k (insAt (mapsOf p k) (posK Mp.v v (mapsOf p k)) ⟨v, freeAt (refsRes p), p.time⟩))) j := by
  have hc := fit_iff.2 h
  obtain ⟨f1, f2, f3⟩ := free_facts h hf
  have hl := refs_leng hc
  generalize hff : freeAt (refsRes p) = f at *
  have hle : posK Mp.v v (mapsOf p k) ≤ (mapsOf p k).length := posK_le
  have hfit : PoolFit (setMaps p k (insAt (mapsOf p k) (posK Mp.v v (mapsOf p k)) ⟨v, f, p.time⟩)) := by
    refine setMaps_fit h hk (insK (f := Mp.v) (x := ⟨v, f, p.time⟩) (inc_of h hk) hh) (fun x hx => ?_) (by rw [insAt_length _ _ _ hle]; omega)
    rcases mem_insAt.1 hx with rfl | hx
    · exact ⟨hv, ⟨by show (0 : Int) ≤ (f : Int); omega, by show (f : Int) < p.data; omega⟩, h.1.2.1⟩
    · exact map_fit h hk hx
  have hc' := fit_iff.2 hfit
  have hrs : refsRes (setMaps p k (insAt (mapsOf p k) (posK Mp.v v (mapsOf p k)) ⟨v, f, p.time⟩)) = (refsRes p).set f (nth 0 (refsRes p) f + 1) := by
    refine (refs_ext hc' (by rw [List.length_set, hl]; rfl) (fun b hb => ?_)).symm
    have hb : b < p.data.toNat := hb
    rw [setMaps_occ hk, occM_ins, nth_set]
    simp only
    have hob := refs_nth hc hb
    by_cases e2 : f = b
    · rw [if_pos (⟨e2, by omega⟩ : f = b ∧ f < (refsRes p).length), if_pos (show (f : Int) = (b : Int) by omega), e2, hob]; omega
    · rw [if_neg (fun e => e2 e.1 : ¬ (f = b ∧ f < (refsRes p).length)), if_neg (show ¬ ((f : Int) = (b : Int)) by omega), hob]; omega
  refine ⟨hfit, hrs, ?_, fun i hi => ?_⟩
  · show countL (p.devs.set k _) = countL p.devs + 1
    rw [countL_set _ hk]
    have e : (nth dev0 p.devs k).maps = mapsOf p k := rfl
    simp only [insAt_length _ _ _ hle, e]
    omega
  · rw [hrs, nth_set]
    have := f3 i hi
    rw [if_neg (by omega)]
    exact this
end
end Go.Proofs.YtcdfbpdejbpgjaaGreat
