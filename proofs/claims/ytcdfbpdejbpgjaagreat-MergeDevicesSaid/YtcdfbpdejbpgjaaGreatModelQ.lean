/- A pool that may be stays one that may be, whatever op is done. No condition: no program is in sight here. -/
import Derived.Test.YtcdfbpdejbpgjaaGreatRefP
namespace Go.Proofs.YtcdfbpdejbpgjaaGreat
open Go.RowKit

theorem incK_pw {α : Type} {f : α → Int} {d : α} {l : List α} : IncK f d l ↔ l.Pairwise fun a b => f a < f b := by
  rw [List.pairwise_iff_getElem]
  constructor
  · intro h i j hi hj hij
    have := h i j hij hj
    rwa [nth_get d l i hi, nth_get d l j hj] at this
  · intro h i j hij hj
    rw [nth_get d l i (by omega), nth_get d l j hj]
    exact h i j (by omega) hj hij
theorem wr1_fit {p : Pool} {k : Nat} {v : Int} (h : PoolFit p) (hk : k < p.devs.length) (hv : 0 ≤ v ∧ v ≤ 281474976710655) (he : (wr1 p k v).1 = 0) : PoolFit (wr1 p k v).2 ∧ k < (wr1 p k v).2.devs.length := by
  have hl : ∀ m, k < (setMaps p k m).devs.length := fun m => by show k < (p.devs.set k _).length; rw [List.length_set]; exact hk
  unfold wr1 at he ⊢
  by_cases h1 : hasK Mp.v v (mapsOf p k) = true ∧ cntAt p k (posK Mp.v v (mapsOf p k)) = 1
  · rw [if_pos h1]; exact ⟨h, hk⟩
  · rw [if_neg h1] at he ⊢
    by_cases h2 : hasK Mp.v v (mapsOf p k) = false ∧ 16384 ≤ p.count
    · rw [if_pos h2] at he; cases he
    · rw [if_neg h2] at he ⊢
      by_cases h3 : freeAt (refsRes p) = (refsRes p).length
      · rw [if_pos h3] at he; cases he
      · rw [if_neg h3]
        by_cases h4 : hasK Mp.v v (mapsOf p k) = true
        · rw [if_pos h4]; exact ⟨(wr_there h hk hv h4 (fun e => h1 ⟨h4, e⟩) h3).1, hl _⟩
        · have h4 : hasK Mp.v v (mapsOf p k) = false := by simpa using h4
          rw [if_neg (by rw [h4]; simp)]
          have hc : p.count < 16384 := by
            rcases Int.lt_or_le p.count 16384 with hx | hx
            · exact hx
            · exact absurd ⟨h4, hx⟩ h2
          exact ⟨(wr_new h hk hv h4 hc h3).1, hl _⟩
theorem wrN_fit : ∀ (n : Nat) {p : Pool} {k : Nat} {v : Int}, PoolFit p → k < p.devs.length → 0 ≤ v → v + n ≤ 281474976710656 → (wrN p k v n).1 = 0 → PoolFit (wrN p k v n).2 ∧ k < (wrN p k v n).2.devs.length := by
  intro n
  induction n with
  | zero => intro p k v h hk _ _ _; exact ⟨h, hk⟩
  | succ n ih =>
    intro p k v h hk h0 hb he
    simp only [wrN] at he ⊢
    by_cases h1 : (wr1 p k v).1 = 0
    · rw [if_neg (by simpa using h1)] at he ⊢
      obtain ⟨f1, f2⟩ := wr1_fit h hk ⟨h0, by omega⟩ h1
      exact ih f1 f2 (by omega) (by omega) he
    · rw [if_pos h1] at he; exact absurd he h1
theorem blk_ok {p : Pool} {o : Mop} (h : blkE p o = 0) : dhas p o.dev = true ∧ 1 ≤ o.n ∧ o.n ≤ 16384 ∧ 0 ≤ o.arg ∧ o.arg ≤ 281474976710655 ∧ o.n ≤ 281474976710656 - o.arg := by
  unfold blkE at h
  cases hb : dhas p o.dev with
  | false => rw [if_pos hb] at h; cases h
  | true =>
    rw [if_neg (by rw [hb]; simp)] at h
    have : ¬ (o.n < 1 ∨ 16384 < o.n ∨ o.arg < 0 ∨ 281474976710655 < o.arg ∨ 281474976710656 - o.arg < o.n) := fun hx => by rw [if_pos hx] at h; cases h
    exact ⟨rfl, by omega, by omega, by omega, by omega, by omega⟩
theorem dpos_lt {p : Pool} {id : Int} (h : PoolFit p) (hb : dhas p id = true) : dpos p id < p.devs.length ∧ (nth dev0 p.devs (dpos p id)).id = id := hasK_at (d := dev0) h.2.2.2.1 hb
theorem fresh_ok {p : Pool} {id : Int} (h : freshE p id = 0) : (0 ≤ id ∧ id ≤ 16777215) ∧ dhas p id = false := by
  unfold freshE at h
  by_cases h1 : id < 0 ∨ 16777215 < id
  · rw [if_pos h1] at h; cases h
  · rw [if_neg h1] at h
    cases hb : dhas p id with
    | true => rw [if_pos hb] at h; cases h
    | false => exact ⟨⟨by omega, by omega⟩, rfl⟩
theorem stamp_dhas {p : Pool} {k : Nat} (hk : k < p.devs.length) (id : Int) : dhas (stampF p k) id = dhas p id := by
  have hl : (stampF p k).devs.length = p.devs.length := by show (p.devs.set k _).length = _; rw [List.length_set]
  have hn : ∀ j, (nth dev0 (stampF p k).devs j).id = (nth dev0 p.devs j).id := fun j => by
    show (nth dev0 (p.devs.set k _) j).id = _
    unfold nth
    simp only [List.getD, List.getElem?_set]
    by_cases h : k = j
    · subst h; rw [if_pos rfl, if_pos hk]; simp only [Option.getD_some]; rfl
    · rw [if_neg h]
  rw [Bool.eq_iff_iff, hasK_iff (d := dev0), hasK_iff (d := dev0), hl]
  constructor <;> rintro ⟨j, hj, e⟩
  · exact ⟨j, hj, by rw [← hn]; exact e⟩
  · exact ⟨j, hj, by rw [hn]; exact e⟩
theorem do_fit {p : Pool} {o : Mop} (h : PoolFit p) (he : (doF p o).1 = 0) : PoolFit (doF p o).2 := by
  unfold doF at he ⊢
  by_cases h1 : o.kind = 1
  · rw [if_pos h1] at he ⊢
    unfold createF at he ⊢
    by_cases c1 : freshE p o.dev = 0
    · rw [if_neg (by simpa using c1)] at he ⊢
      by_cases c2 : 4096 ≤ p.devs.length
      · rw [if_pos c2] at he; cases he
      · rw [if_neg c2]
        obtain ⟨f1, f2⟩ := fresh_ok c1
        exact add_fit h f1 f2 (by omega) (by have := h.2.2.1; simp; omega) (fun i j _ hj => by simp at hj) (fun x hx => by cases hx)
    · rw [if_pos c1] at he; exact absurd he c1
  rw [if_neg h1] at he ⊢
  by_cases h2 : o.kind = 2
  · rw [if_pos h2] at he ⊢
    unfold snapF at he ⊢
    by_cases c1 : freshE p o.dev = 0
    · rw [if_neg (by simpa using c1)] at he ⊢
      cases hb : dhas p o.arg with
      | false => rw [if_pos hb] at he; cases he
      | true =>
        rw [hb] at he
        rw [if_neg (by simp)] at he ⊢
        by_cases c2 : 4096 ≤ p.devs.length ∨ 16777215 ≤ p.time ∨ 16384 < p.count + (nth dev0 p.devs (dpos p o.arg)).maps.length
        · rw [if_pos c2] at he; cases he
        · rw [if_neg c2]
          obtain ⟨f1, f2⟩ := fresh_ok c1
          obtain ⟨hk, _⟩ := dpos_lt h hb
          have hd := h.2.2.2.2 _ (nth_mem dev0 p.devs _ hk)
          have hc : (stampF p (dpos p o.arg)).count = p.count := by
            show countL (p.devs.set _ _) = countL p.devs
            rw [countL_set _ hk]
            have e : (snapped (nth dev0 p.devs (dpos p o.arg)) (p.time + 1)).maps = (nth dev0 p.devs (dpos p o.arg)).maps := rfl
            rw [e]; omega
          refine add_fit (stamp_fit h hk (by omega)) f1 (by rw [stamp_dhas hk]; exact f2) ?_ (by rw [hc]; omega) hd.2.2.2.2.1 hd.2.2.2.2.2
          show (p.devs.set _ _).length < 4096
          rw [List.length_set]; omega
    · rw [if_pos c1] at he; exact absurd he c1
  rw [if_neg h2] at he ⊢
  by_cases h3 : o.kind = 3
  · rw [if_pos h3] at he ⊢
    unfold removeF at he ⊢
    cases hb : dhas p o.dev with
    | false => rw [if_pos hb] at he; cases he
    | true =>
      rw [if_neg (by simp)]
      obtain ⟨hk, _⟩ := dpos_lt h hb
      obtain ⟨g1, g2, g3, g4, g5⟩ := h
      have hl := delAt_length p.devs _ hk
      refine ⟨g1, ?_, ?_, delK g4 hk, fun d hd => g5 d (mem_delAt hd)⟩
      · show (delAt p.devs _).length ≤ 4096
        omega
      · show countL (delAt p.devs _) ≤ 16384
        rw [countL_del hk]
        have : countL p.devs ≤ 16384 := g3
        omega
  rw [if_neg h3] at he ⊢
  by_cases h4 : o.kind = 4
  · rw [if_pos h4] at he ⊢
    unfold writeF at he ⊢
    by_cases c1 : blkE p o = 0
    · rw [if_neg (by simpa using c1)] at he ⊢
      obtain ⟨b1, b2, b3, b4, b5, b6⟩ := blk_ok c1
      exact (wrN_fit _ h (dpos_lt h b1).1 b4 (by omega) he).1
    · rw [if_pos c1] at he; exact absurd he c1
  rw [if_neg h4] at he ⊢
  by_cases h5 : o.kind = 5
  · rw [if_pos h5] at he ⊢
    unfold discardF at he ⊢
    by_cases c1 : blkE p o = 0
    · rw [if_neg (by simpa using c1)]
      obtain ⟨b1, _⟩ := blk_ok c1
      have hk := (dpos_lt h b1).1
      refine setMaps_fit h hk (incK_pw.2 ((incK_pw.1 (inc_of h hk)).filter _)) (fun x hx => map_fit h hk (List.mem_filter.1 hx).1) ?_
      have h6 := List.length_filter_le (fun m => !inOp o m) (mapsOf p (dpos p o.dev))
      have h7 := h.2.2.1
      omega
    · rw [if_pos c1] at he; exact absurd he c1
  rw [if_neg h5] at he ⊢
  by_cases h6 : o.kind = 6
  · rw [if_pos h6] at he ⊢
    unfold tickF at he ⊢
    obtain ⟨⟨g1, g2, g3, g4⟩, g5⟩ := h
    by_cases c1 : 2147483647 ≤ p.tx
    · rw [if_pos c1] at he; cases he
    · rw [if_neg c1]
      exact ⟨⟨by show 0 ≤ p.tx + 1 ∧ p.tx + 1 ≤ 2147483647; omega, g2, g3, g4⟩, g5⟩
  rw [if_neg h6] at he ⊢
  by_cases h7 : o.kind = 7
  · rw [if_pos h7] at he ⊢
    unfold growF at he ⊢
    obtain ⟨⟨g1, g2, g3, g4⟩, g5, g6, g7, g8⟩ := h
    by_cases c1 : o.n < p.data ∨ 65536 < o.n
    · rw [if_pos c1] at he; cases he
    · rw [if_neg c1]
      refine ⟨⟨g1, g2, g3, by show 0 ≤ o.n ∧ o.n ≤ 65536; omega⟩, g5, g6, g7, fun d hd => ?_⟩
      obtain ⟨d1, d2, d3, d4, d5, d6⟩ := g8 d hd
      refine ⟨d1, d2, d3, d4, d5, fun m hm => ?_⟩
      obtain ⟨m1, m2, m3⟩ := d6 m hm
      exact ⟨m1, by show 0 ≤ m.b ∧ m.b < o.n; omega, m3⟩
  rw [if_neg h7] at he
  cases he
theorem apply_fit {p : Pool} {o : Mop} (he : (applyF p o).1 = 0) : PoolFit (applyF p o).2 := by
  unfold applyF at he ⊢
  by_cases hc : poolChk p = 0
  · rw [if_neg (by simpa using hc)] at he ⊢
    by_cases h1 : (doF p o).1 = 0
    · rw [if_neg (by simpa using h1)]
      exact do_fit (fit_iff.1 hc) h1
    · rw [if_pos h1] at he; exact absurd he h1
  · rw [if_pos hc] at he; exact absurd he hc
theorem runFrom_fit : ∀ (l : List Mop) (p : Pool) (i : Nat), PoolFit p → PoolFit (runFrom p i l).1 := by
  intro l
  induction l with
  | nil => intro p i h; exact h
  | cons o l ih =>
    intro p i h
    simp only [runFrom]
    by_cases h1 : (applyF p o).1 = 0
    · rw [if_neg (by simpa using h1)]; exact ih _ _ (apply_fit h1)
    · rw [if_pos h1]; exact h
end Go.Proofs.YtcdfbpdejbpgjaaGreat
