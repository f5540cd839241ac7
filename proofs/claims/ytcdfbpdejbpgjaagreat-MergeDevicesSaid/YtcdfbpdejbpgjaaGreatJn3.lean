import Derived.Test.YtcdfbpdejbpgjaaGreatJn2
import Derived.Test.YtcdfbpdejbpgjaaGreatJn1
import Derived.Deep.CutBlock
import Derived.IntWalk
import Derived.Test.YtcdfbpdejbpgjaaGreatModelQ
import Derived.RangeFuncBox
import Derived.Deep.RegionHeld3
import Derived.Deep.QuietTactic
import Derived.BigQuiet
set_option linter.unusedVariables false
set_option linter.unusedSimpArgs false
/- The reference's write of one virtual block (scantlingref49), as far as its place. Condition: the pool may be, and lies in memory of the call's own. -/
namespace Go.Proofs.YtcdfbpdejbpgjaaGreat

open Go.RowKit
attribute [local go_sem] Oper.semAt_some
set_option linter.unusedSimpArgs false
set_option linter.unusedVariables false

/-- The two boxes that write makes at its head. -/
def Two (w W : World) (p : Pool) (A : Option Addr) (n c : Nat) : Prop :=
  Below w.heap.size w W ∧ PBox W w.heap.size p A n c ∧ RBox W (w.heap.size + 1) (.int .i64 0) (.int .i64 0) (.int .i64 0) (.int .i64 0) (.slice none 0 0) ∧ w.heap.size + 2 ≤ W.heap.size
theorem two_new (w : World) (p : Pool) (A : Option Addr) (n c : Nat) : Two w ((w.alloc (poolBox p A n c)).alloc zeroBox) p A n c := by
  have h3 : RBox ((w.alloc (poolBox p A n c)).alloc zeroBox) (w.heap.size + 1) (.int .i64 0) (.int .i64 0) (.int .i64 0) (.int .i64 0) (.slice none 0 0) := by
    have := heap_alloc_new (w.alloc (poolBox p A n c)) zeroBox
    simp only [World.size_alloc] at this
    exact this
  exact ⟨((Below.refl _ _).alloc (Nat.le_refl _) _).alloc (by simp) _, box_up (PBox.new w p A n c) ((Below.refl _ _).alloc (Nat.le_refl _) _), h3, by simp⟩
theorem Two.below {w W W' : World} {p : Pool} {A : Option Addr} {n c : Nat} (h : Two w W p A n c) (hB : Below W.heap.size W W') : Two w W' p A n c :=
  ⟨h.1.trans (hB.mono h.1.size), box_up h.2.1 hB, box_up h.2.2.1 hB, Nat.le_trans h.2.2.2 hB.size⟩
theorem wr_stop {w W : World} {base n c : Nat} {p : Pool} {A : Option Addr} {M : Nat → Value} {r : Int × Pool} (hn : p.devs.length = n) (hT : Two w W p A n c) (hown : OwnDevs W base (.slice A n c) p.devs M) (h0 : OwnDevs w base (.slice A n c) p.devs M) {cd : Int} (hcd : cd = r.1) (hr : r.1 = 0 → p = r.2) (u0 u1 u2 u3 u4 : Value) :
    DoR w base (.slice A n c) n M r (.returned (.tuple #[.agg #[.int .i64 p.tx, .int .i64 p.time, .int .i64 p.unit, .int .i64 p.data, .slice A n c], .int .i64 cd])) (((((W.setCell ⟨w.heap.size + 1, 0, none⟩ u0).setCell ⟨w.heap.size + 1, 1, none⟩ u1).setCell ⟨w.heap.size + 1, 2, none⟩ u2).setCell ⟨w.heap.size + 1, 3, none⟩ u3).setCell ⟨w.heap.size + 1, 4, none⟩ u4) :=
  do_ret hown hn (Touch.of_below hT.1) (by omega) (fun h => by have := own1_lt h0 hn _ h; omega) hr (fun x hx => .inl hx) hcd _ _ _ _ _
/-- What write's call finds. -/
def WrAhead (n : Nat) (w w2 : World) (base c : Nat) (p : Pool) (A : Option Addr) (M : Nat → Value) : Prop :=
  ∀ w', Below w2.heap.size w2 w' → Two w w' p A n c ∧ OwnDevs w' base (.slice A n c) p.devs M ∧ IsPool w' (Lt w.heap.size) (.agg #[.int .i64 p.tx, .int .i64 p.time, .int .i64 p.unit, .int .i64 p.data, .slice A n c]) p
theorem wr_ahead {w w2 : World} {base c : Nat} {p : Pool} {A : Option Addr} {M : Nat → Value} (h3 : OwnDevs w base (.slice A p.devs.length c) p.devs M) (T : Two w w2 p A p.devs.length c) : WrAhead p.devs.length w w2 base c p A M := by
  intro w' hB
  have hT := T.below hB
  exact ⟨hT, h3.keep hT.1 (Nat.le_refl _), pool_keep (OwnP.isp h3) (fun b hb => hb.2) (keep_below hT.1 (fun b hb => hb.2))⟩
/-- The mappings of device k, cell by cell. -/
theorem wr_maps {w : World} {base n c k cm L : Nat} {g2 : Nat} {Am : Option Addr} {p : Pool} {M : Nat → Value} (h : OwnDevs w base (.slice (some ⟨g2, 0, none⟩) n c) p.devs M) (hk : k < p.devs.length) (hM : M k = .slice Am L cm) :
    w.cell? ⟨g2, k * 5 + 4, none⟩ = some (.slice Am L cm) ∧ OwnMaps w base (.slice Am L cm) (mapsOf p k) ∧ IsMaps w (Btw base w.heap.size) (.slice Am L cm) (mapsOf p k) := by
  have h1 := h.cellM hk
  rw [hM] at h1
  obtain ⟨xs, _, hc, _⟩ := h
  have hm := (hc k hk).2.1
  rw [hM] at hm
  exact ⟨h1.1, hm, OwnMaps.isl hm (fun b h1 h2 => ⟨h1, h2⟩)⟩
theorem src_take {w : World} {A : Option Addr} {l : List Mp} (i : Nat) (h : ∀ d, A = some d → ∀ j u, (flats Mp.enc l)[j]? = some u → w.cell? (d.add j) = some u) : ∀ d, A = some d → ∀ j u, (flats Mp.enc (l.take i))[j]? = some u → w.cell? (d.add j) = some u := by
  intro d hd j u hj
  refine h d hd j u ?_
  have e : flats Mp.enc l = flats Mp.enc (l.take i) ++ flats Mp.enc (l.drop i) := by rw [← flats_append, List.take_append_drop]
  rw [e, List.getElem?_append_left (List.getElem?_eq_some_iff.1 hj).1]
  exact hj
theorem app_step {w5 wa wb : World} {v v' : Value} (hB : Below w5.heap.size w5 wa) (hlo : ∀ x, v.ownBlock = some x → w5.heap.size ≤ x) (hg : wa.grownBy wb v.ownBlock) (hb : ∀ x, v'.ownBlock = some x → v.ownBlock = some x ∨ x = wa.heap.size) :
    Below w5.heap.size w5 wb ∧ ∀ x, v'.ownBlock = some x → w5.heap.size ≤ x := by
  refine ⟨hB.grown hg hB.size (fun k hk => hlo k hk), fun x hx => ?_⟩
  rcases hb x hx with h | h
  · exact hlo x h
  · rw [h]; exact hB.size
theorem app_lo {w5 w6 : World} (h : w5.heap.size ≤ w6.heap.size) : ∀ x, (Value.slice (some ⟨w6.heap.size, 0, none⟩) 0 0).ownBlock = some x → w5.heap.size ≤ x := fun x hx => by
  have : w6.heap.size = x := by simpa [Value.ownBlock] using hx
  omega
theorem app_lt {w6 : World} {b : Nat} (h : b < w6.heap.size) (o : Obj) : b < (w6.alloc o).heap.size := by simp; omega
theorem app_ne {w6 : World} {b : Nat} (h : b < w6.heap.size) : some b ≠ (Value.slice (some ⟨w6.heap.size, 0, none⟩) 0 0).ownBlock := fun e => by
  have : b = w6.heap.size := by simpa [Value.ownBlock] using e
  omega
theorem add_add (a : Addr) (i j : Nat) : (a.add i).add j = a.add (i + j) := by
  unfold Addr.add
  by_cases h : i = 0
  · subst h; simp
  · by_cases h2 : j = 0
    · subst h2; simp [h]
    · simp [h, h2, Nat.add_assoc]
theorem src_drop {w : World} {A : Option Addr} {l : List Mp} {L cm : Nat} (i : Nat) (hi : i ≤ L) (hc : L ≤ cm) (hl : l.length = L) (h : (∀ d, A = some d → ∀ j u, (flats Mp.enc l)[j]? = some u → w.cell? (d.add j) = some u) ∧ (A = none → L = 0)) :
    (∀ d, (if cm = i then A else Option.map (fun x => x.add (i * 3)) A) = some d → ∀ j u, (flats Mp.enc (l.drop i))[j]? = some u → w.cell? (d.add j) = some u) ∧ ((if cm = i then A else Option.map (fun x => x.add (i * 3)) A) = none → L - i = 0) := by
  subst hl
  by_cases e : cm = i
  · rw [if_pos e]
    refine ⟨fun d _ j u hj => ?_, fun _ => by omega⟩
    rw [List.drop_of_length_le (by omega)] at hj
    simp [flats] at hj
  · rw [if_neg e]
    refine ⟨fun d hd j u hj => ?_, fun hd => ?_⟩
    · obtain ⟨a, ha, rfl⟩ := Option.map_eq_some_iff.1 hd
      have e2 : flats Mp.enc l = flats Mp.enc (l.take i) ++ flats Mp.enc (l.drop i) := by rw [← flats_append, List.take_append_drop]
      have hlt : (flats Mp.enc (l.take i)).length = i * 3 := by rw [flats_length Mp.enc_len, List.length_take]; omega
      have h1 := h.1 a ha (i * 3 + j) u (by rw [e2, List.getElem?_append_right (by omega), hlt, Nat.add_sub_cancel_left]; exact hj)
      rw [add_add]
      exact h1
    · have : A = none := by simpa using hd
      have := h.2 this
      omega
/-- A mapping is put in. -/
theorem rins_fin {w w5 w9 W : World} {base n c k L g2 at' c9 : Nat} {p : Pool} {A9 : Option Addr} {M : Nat → Value} {x : Mp} {u : Value} (hn : p.devs.length = n) (T : Two w w5 p (some ⟨g2, 0, none⟩) n c) (h0 : OwnDevs w base (.slice (some ⟨g2, 0, none⟩) n c) p.devs M) (h5 : OwnDevs w5 base (.slice (some ⟨g2, 0, none⟩) n c) p.devs M) (hk : k < n) (hL : (mapsOf p k).length = L) (hat : at' ≤ L) (hb : base ≤ w.heap.size)
    (hu : u = .slice A9 (at' + 1 + (L - at')) c9) (hB : Below w5.heap.size w5 w9 ∧ ∀ x, u.ownBlock = some x → w5.heap.size ≤ x) (ho : w9.ownsRow (w.heap.size + 2) 40 3 u (at' + 1 + (L - at')) (flats Mp.enc ((mapsOf p k).take at') ++ Mp.enc x ++ flats Mp.enc ((mapsOf p k).drop at'))) (hW : w9.setCell ⟨g2, k * 5 + 4, none⟩ u = W) :
    OwnDevs W base (.slice (some ⟨g2, 0, none⟩) n c) (setMaps p k (insAt (mapsOf p k) at' x)).devs (fun j => if j = k then u else M j) ∧ RBox W (w.heap.size + 1) (.int .i64 0) (.int .i64 0) (.int .i64 0) (.int .i64 0) (.slice none 0 0) ∧ PBox W w.heap.size p (some ⟨g2, 0, none⟩) n c ∧ Touch (Own1 (.slice (some ⟨g2, 0, none⟩) n c) n M) w W ∧
      ¬ Own1 (.slice (some ⟨g2, 0, none⟩) n c) n (fun j => if j = k then u else M j) (w.heap.size + 1) ∧ ∀ y, Own1 (.slice (some ⟨g2, 0, none⟩) n c) n (fun j => if j = k then u else M j) y → Own1 (.slice (some ⟨g2, 0, none⟩) n c) n M y ∨ w.heap.size ≤ y := by
  subst hn hL hW
  have hlt := own1_lt h0 rfl
  have hg2 := (hlt g2 (.inl rfl)).2
  have hz5 := T.2.2.2
  have hlen : (insAt (mapsOf p k) at' x).length = at' + 1 + ((mapsOf p k).length - at') := by rw [insAt_length _ _ _ hat]; omega
  have hfl : flats Mp.enc (insAt (mapsOf p k) at' x) = flats Mp.enc ((mapsOf p k).take at') ++ Mp.enc x ++ flats Mp.enc ((mapsOf p k).drop at') := by
    have e : insAt (mapsOf p k) at' x = (mapsOf p k).take at' ++ [x] ++ (mapsOf p k).drop at' := by unfold insAt; simp
    rw [e, flats_append, flats_append, flats_one]
  have hgr : w5.grownBy w9 (M k).ownBlock := ⟨hB.1.os, hB.1.tape, hB.1.output, hB.1.size, fun j hj _ => hB.1.block j hj⟩
  have hown : OwnMaps w9 base u (insAt (mapsOf p k) at' x) := by
    show w9.ownsRow base _ 3 u (insAt (mapsOf p k) at' x).length _
    rw [hlen, hfl]
    exact own_low ho (by omega)
  have h6 := h5.put (d := ⟨(nth dev0 p.devs k).id, (nth dev0 p.devs k).tx, (nth dev0 p.devs k).made, (nth dev0 p.devs k).snapped, insAt (mapsOf p k) at' x⟩) hk hgr hown (fun y hy => .inr (hB.2 y hy)) ⟨rfl, rfl, rfl, rfl⟩
  have hO : ∀ y, Own1 (.slice (some ⟨g2, 0, none⟩) p.devs.length c) p.devs.length (fun j => if j = k then u else M j) y → Own1 (.slice (some ⟨g2, 0, none⟩) p.devs.length c) p.devs.length M y ∨ w5.heap.size ≤ y := by
    rintro y (hy | ⟨j, hj, hy⟩)
    · exact .inl (.inl hy)
    · simp only at hy
      split at hy
      · exact .inr (hB.2 y hy)
      · exact .inl (.inr ⟨j, hj, hy⟩)
  refine ⟨h6, ?_, ?_, ?_, fun h => ?_, fun y hy => ?_⟩
  · exact (Below.heap_setCell w9 ⟨g2, k * 5 + 4, none⟩ u _ (by simp only [ne_eq]; omega)).trans (box_up T.2.2.1 hB.1)
  · exact (Below.heap_setCell w9 ⟨g2, k * 5 + 4, none⟩ u _ (by simp only [ne_eq]; omega)).trans (box_up T.2.1 hB.1)
  · exact ((Touch.of_below T.1).trans (Touch.of_below hB.1)).trans (Touch.set_ (p := ⟨g2, k * 5 + 4, none⟩) (.inl rfl))
  · rcases hO _ h with h | h
    · have := hlt _ h; omega
    · omega
  · rcases hO _ hy with h | h
    · exact .inl h
    · exact .inr (by omega)
/-- The cells that a replaced mapping lies in. -/
theorem put_cells {w : World} {base gm L cm j : Nat} {l : List Mp} (h : OwnMaps w base (.slice (some ⟨gm, 0, none⟩) L cm) l) (hj : j < l.length) :
    w.cell? ⟨gm, j * 3, none⟩ = some (.int .i64 (nth mp0 l j).v) ∧ w.cell? ⟨gm, j * 3 + 1, none⟩ = some (.int .i64 (nth mp0 l j).b) ∧ w.cell? ⟨gm, j * 3 + 2, none⟩ = some (.int .i64 (nth mp0 l j).t) ∧ (∀ o, w.frozen? ⟨gm, o, none⟩ = false) ∧ gm < w.heap.size := by
  have h' : w.ownsRow base 40 3 (.slice (some ⟨gm, 0, none⟩) L cm) l.length (flats Mp.enc l) := h
  obtain rfl : L = l.length := own_n h'
  refine ⟨?_, ?_, ?_, fun o => h'.frozenAt o, (h'.lt gm rfl).2⟩
  · rw [h'.cellAt (j * 3) (by omega)]; exact flats_get (d := mp0) Mp.enc_len l j 0 _ hj rfl
  · rw [h'.cellAt (j * 3 + 1) (by omega)]; exact flats_get (d := mp0) Mp.enc_len l j 1 _ hj rfl
  · rw [h'.cellAt (j * 3 + 2) (by omega)]; exact flats_get (d := mp0) Mp.enc_len l j 2 _ hj rfl
/-- A mapping is replaced where it lies. -/
theorem rput_fin {w w5 : World} {base n c k cm L gm j : Nat} {p : Pool} {A : Option Addr} {M : Nat → Value} {x : Mp} (hn : p.devs.length = n) (T : Two w w5 p A n c) (h0 : OwnDevs w base (.slice A n c) p.devs M) (h5 : OwnDevs w5 base (.slice A n c) p.devs M) (hk : k < n) (hM : M k = .slice (some ⟨gm, 0, none⟩) L cm) (hL : (mapsOf p k).length = L) (hj : j < L) (o : Obj) (W : World)
    (hW : (((w5.setCell ⟨gm, j * 3, none⟩ (.int .i64 x.v)).setCell ⟨gm, j * 3 + 1, none⟩ (.int .i64 x.b)).setCell ⟨gm, j * 3 + 2, none⟩ (.int .i64 x.t)).alloc o = W) :
    OwnDevs W base (.slice A n c) (setMaps p k ((mapsOf p k).set j x)).devs M ∧ PBox W w.heap.size p A n c ∧ RBox W (w.heap.size + 1) (.int .i64 0) (.int .i64 0) (.int .i64 0) (.int .i64 0) (.slice none 0 0) ∧ Touch (Own1 (.slice A n c) n M) w W := by
  subst hn hL
  have h5' := h5
  obtain ⟨xs, _, hc, _⟩ := h5'
  have hm := (hc k hk).2.1
  rw [hM] at hm
  have hgl := (own1_lt h0 rfl) gm (.inr ⟨k, hk, by rw [hM]; rfl⟩)
  have hs := (own_set3 hm x hj rfl).alloc o
  have hg : w5.grownBy W (M k).ownBlock := by
    rw [hM, ← hW]
    exact ⟨rfl, rfl, rfl, by simp, fun y hylt hne => by
      have hy : y ≠ gm := fun e => hne (by rw [e]; rfl)
      exact (Below.heap_alloc _ o y (by simpa using hylt)).trans ((Below.heap_setCell _ ⟨gm, j * 3 + 2, none⟩ _ y hy).trans ((Below.heap_setCell _ ⟨gm, j * 3 + 1, none⟩ _ y hy).trans (Below.heap_setCell _ ⟨gm, j * 3, none⟩ _ y hy)))⟩
  rw [hW] at hs
  refine ⟨?_, ?_, ?_, ?_⟩
  · refine h5.inplace hk hg ?_ ⟨rfl, rfl, rfl, rfl⟩
    rw [hM]
    show W.ownsRow base _ 3 _ ((mapsOf p k).set j x).length _
    rw [List.length_set]
    exact hs
  · exact (hg.block _ T.2.1.lt (fun e => by rw [hM] at e; have e2 : w.heap.size = gm := by simpa [Value.ownBlock] using e
                                            omega)).trans T.2.1
  · exact (hg.block _ (box_lt T.2.2.1) (fun e => by rw [hM] at e; have e2 : w.heap.size + 1 = gm := by simpa [Value.ownBlock] using e
                                                    omega)).trans T.2.2.1
  · exact (Touch.of_below T.1).trans (Touch.of_grown hg (fun y hy => .inr ⟨k, hk, hy⟩))
set_option maxRecDepth 100000 in
set_option maxHeartbeats 3200000 in
theorem rwrite_any (w : World) (base c : Nat) (p : Pool) (A : Option Addr) (M : Nat → Value) (k : Nat) (v : Int) (h3 : OwnDevs w base (.slice A p.devs.length c) p.devs M) (hb : base ≤ w.heap.size) (hpc : poolChk p = 0) (hk : k < p.devs.length) :
    Calls Tryz.prog 81 #[.agg #[.int .i64 p.tx, .int .i64 p.time, .int .i64 p.unit, .int .i64 p.data, .slice A p.devs.length c], .int .i64 (k : Nat), .int .i64 v] w (DoR w base (.slice A p.devs.length c) p.devs.length M (wr1 p k v)) := by
  have T := two_new w p A p.devs.length c
  dsimp only [poolBox, zeroBox] at T
  have HAH := Lib.hid (wr_ahead h3 T)
  have hln := pool_len hpc
  have hfit := fit_iff.1 hpc
  have H3 := Lib.hid h3
  obtain ⟨g2, c2, hv, hbg2, hg2, hnc⟩ : ∃ g2 c2, (Value.slice A p.devs.length c) = .slice (some ⟨g2, 0, none⟩) p.devs.length c2 ∧ base ≤ g2 ∧ g2 < w.heap.size ∧ p.devs.length ≤ c2 := by
    obtain ⟨xs, r1, _⟩ := h3
    exact own_form r1 (by omega)
  injection hv with e1 _ e3
  subst e1 e3
  obtain ⟨_, _, _, Am, cm, hMk, hcm⟩ := h3.cellM hk
  have hml := maps_len hpc hk
  have e0 : (nth dev0 p.devs k).maps = mapsOf p k := rfl
  rw [e0] at hMk hcm hml
  have HWM := Lib.hid (fun w' (h : OwnDevs w' base (.slice (some ⟨g2, 0, none⟩) p.devs.length c) p.devs M) => wr_maps h hk hMk)
  have HMK := Lib.hid hMk
  have HINC := Lib.hid (inc_of hfit hk)
  have HPC := Lib.hid hpc
  have HKL := Lib.hid hk
  have hHAS := hasK_pos (v := v) (inc_of hfit hk)
  have HPB := Lib.hid (fun j hj => posK_below (f := Mp.v) (d := mp0) (v := v) (l := mapsOf p k) j hj)
  have hple : posK Mp.v v (mapsOf p k) ≤ (mapsOf p k).length := posK_le
  have HPA := Lib.hid (fun h => posK_at (f := Mp.v) (d := mp0) (v := v) (l := mapsOf p k) h)
  have HHAS := Lib.hid hHAS
  have HW : Hid (wr1 p k v = if hasK Mp.v v (mapsOf p k) = true ∧ cntAt p k (posK Mp.v v (mapsOf p k)) = 1 then (0, p)
    else if hasK Mp.v v (mapsOf p k) = false ∧ 16384 ≤ p.count then (2, p)
    else if freeAt (refsRes p) = (refsRes p).length then (14, p)
    else if hasK Mp.v v (mapsOf p k) = true then (0, setMaps p k ((mapsOf p k).set (posK Mp.v v (mapsOf p k)) ⟨v, freeAt (refsRes p), p.time⟩))
    else (0, setMaps p k (insAt (mapsOf p k) (posK Mp.v v (mapsOf p k)) ⟨v, freeAt (refsRes p), p.time⟩))) := Lib.hid rfl
  have hok := fit_ok hfit
  have hcn := hfit.2.2.1
  have HRF := Lib.hid (fun w' (hz : w.heap.size ≤ w'.heap.size) (h : IsPool w' (Lt w.heap.size) (.agg #[.int .i64 p.tx, .int .i64 p.time, .int .i64 p.unit, .int .i64 p.data, .slice (some ⟨g2, 0, none⟩) p.devs.length c]) p) => rrefs_any w' (Lt w.heap.size) _ p (fun b (hb : b < w.heap.size) => Nat.lt_of_lt_of_le hb hz) h hok)
  have HCT := Lib.hid (fun w' (hz : w.heap.size ≤ w'.heap.size) (h : IsPool w' (Lt w.heap.size) (.agg #[.int .i64 p.tx, .int .i64 p.time, .int .i64 p.unit, .int .i64 p.data, .slice (some ⟨g2, 0, none⟩) p.devs.length c]) p) => rcount_any w' (Lt w.heap.size) _ p (fun b (hb : b < w.heap.size) => Nat.lt_of_lt_of_le hb hz) h (by omega) (by omega))
  have HFI := Lib.hid (fun w' (hz : w.heap.size ≤ w'.heap.size) (h : IsPool w' (Lt w.heap.size) (.agg #[.int .i64 p.tx, .int .i64 p.time, .int .i64 p.unit, .int .i64 p.data, .slice (some ⟨g2, 0, none⟩) p.devs.length c]) p) => rfirst_any w' (Lt w.heap.size) _ p (fun b (hb : b < w.heap.size) => Nat.lt_of_lt_of_le hb hz) h hok hpc)
  have HCP := Lib.hid (fun j hj => cnt_pos hfit hk (j := j) hj)
  have HRL := Lib.hid (refs_leng hpc)
  clear hok
  clear h3 hpc hfit hMk hHAS e0
  generalize hLL : (mapsOf p k).length = L at *
  have HLL := Lib.hid hLL
  clear hLL
  generalize hl0 : p.devs.length = n at *
  have hl := Lib.hid hl0
  clear hl0
  generalize hat : posK Mp.v v (mapsOf p k) = at' at *
  have HAT := Lib.hid hat
  clear hat
  generalize wr1 p k v = r at *
  go_enter Tryz.func81, Tryz.ntmps81
  go_upto_region 1 with fail
  generalize (w.alloc (.cells #[.int .i64 p.tx, .int .i64 p.time, .int .i64 p.unit, .int .i64 p.data, .slice (some ⟨g2, 0, none⟩) n c] 24)).alloc (.cells #[.int .i64 0, .int .i64 0, .int .i64 0, .int .i64 0, .slice none 0 0] 24) = w2 at *
  have hk2 := Below.refl w2.heap.size w2
  obtain ⟨x0, x1, x2, x3, x4⟩ := (HAH.out w2 hk2).1.2.1.cells
  obtain ⟨m0, _⟩ := HWM.out w2 (HAH.out w2 hk2).2.1
  have hkn : (k : Int) < (n : Int) := by omega
  go_upto_block 0 with fail
  go_cut [9] (fun s9 wx => s9 = .int .i64 (at' : Nat) ∧ wx = w2)
  case first =>
    go_wp2_with fail
    go_loop [9] (fun i => ∃ j : Nat, i = .int .i64 j ∧ j ≤ at') (fun i => L - (intOf i).toNat)
    case atStart => exact ⟨0, rfl, by omega⟩
    case round =>
      obtain ⟨j, rfl, hj⟩ := hrel
      by_cases hjl : j < L
      · obtain ⟨gm, om, rfl, hgm, hcl⟩ := maps_cells (IsSl.slice_ (HWM.out w2 (HAH.out w2 hk2).2.1).2.2).2.2 (by rw [HLL.out]; omega)
        have c0 := (hcl j (by rw [HLL.out]; exact hjl)).1
        clear hcl
        by_cases hlt : j < at'
        · have hv := HPB.out j hlt
          have hvb : decide ((nth mp0 (mapsOf p k) j).v < v) = true := decide_eq_true hv
          generalize (nth mp0 (mapsOf p k) j).v = y at *
          go_wp2_with fail
          go_round
          case rel => exact ⟨j + 1, by go_num, by omega⟩
          case measure => simp [intOf]; omega
        · obtain rfl : j = at' := by omega
          have hv : ¬ (nth mp0 (mapsOf p k) j).v < v := by have := HPA.out hjl; omega
          have hvb : decide ((nth mp0 (mapsOf p k) j).v < v) = false := decide_eq_false hv
          clear HPA HPB
          generalize (nth mp0 (mapsOf p k) j).v = y at *
          go_wp2_with fail
          go_meet
          exact ⟨rfl, rfl⟩
      · obtain rfl : j = at' := by omega
        go_wp2_with fail
        go_meet
        exact ⟨rfl, rfl⟩
  case rest =>
    obtain ⟨rfl, hwc⟩ := hcut
    have hwc := hwc.symm
    subst hwc
    go_upto_region 5 with fail
    go_cut [10] (fun s10 wx => s10 = .bool (hasK Mp.v v (mapsOf p k)) ∧ wx = w2)
    case first =>
      by_cases hjl : at' < L
      · obtain ⟨gm, om, rfl, hgm, hcl⟩ := maps_cells (IsSl.slice_ (HWM.out w2 (HAH.out w2 hk2).2.1).2.2).2.2 (by rw [HLL.out]; omega)
        have c0 := (hcl at' (by rw [HLL.out]; exact hjl)).1
        clear hcl
        generalize hy : (nth mp0 (mapsOf p k) at').v = y at *
        have HY := Lib.hid hy
        clear hy
        go_wp2_with fail
        go_meet
        exact ⟨congrArg Value.bool (by rw [HHAS.out]; simp [hjl]; rfl), rfl⟩
      · have HH := Lib.hid (show hasK Mp.v v (mapsOf p k) = false by rw [HHAS.out]; simp [hjl])
        go_wp2_with fail
        go_meet
        exact ⟨congrArg Value.bool HH.out.symm, rfl⟩
    case rest =>
      obtain ⟨rfl, hwc⟩ := hcut
      have hwc := hwc.symm
      subst hwc
      cases hh : hasK Mp.v v (mapsOf p k) with
      | true =>
        obtain ⟨hjl0, hve0⟩ : at' < L ∧ (nth mp0 (mapsOf p k) at').v = v := by rw [HHAS.out] at hh; simpa using hh
        obtain ⟨gm, cm', hvm, _, hgmz, _⟩ := own_form (HWM.out w2 (HAH.out w2 hk2).2.1).2.1 (by rw [HLL.out]; omega)
        injection hvm with e1 e2 e3
        subst e1 e3
        clear e2
        have HCM := Lib.hid (fun w' (hB : Below w2.heap.size w2 w') => put_cells (HWM.out w' (HAH.out w' hB).2.1).2.1 (j := at') (by rw [HLL.out]; exact hjl0))
        have HGM := Lib.hid hgmz
        go_upto_region 6 with fail
        go_cut [60] (fun s60 wx => s60 = .bool (decide (cntAt p k at' = 1)) ∧ Below w2.heap.size w2 wx)
        case first =>
          have hjl := hjl0
          have hve := hve0
          clear hjl0 hve0
          obtain ⟨hc1, hc2, hc3⟩ := HCP.out at' hjl
          rw [← HRL.out] at hc3
          have HCC := Lib.hid (show cntAt p k at' = nth 0 (refsRes p) (nth mp0 (mapsOf p k) at').b.toNat from rfl)
          have HCB := Lib.hid (fun w' (hB : Below w2.heap.size w2 w') => (maps_cells (IsSl.slice_ (HWM.out w' (HAH.out w' hB).2.1).2.2).2.2 (by rw [HLL.out]; omega)))
          have HCB2 := Lib.hid (fun w' (hB : Below w2.heap.size w2 w') => (by
            obtain ⟨g', o', e, _, h⟩ := HCB.out w' hB
            have e1 : gm = g' := by injection e with e; injection e
            have e2 : 0 = o' := by injection e with e; injection e
            subst e1 e2
            have h' := (h at' (by rw [HLL.out]; exact hjl)).2.1
            rw [Nat.zero_add] at h'
            exact h' : w'.cell? ⟨gm, at' * 3 + 1, none⟩ = some (.int .i64 (nth mp0 (mapsOf p k) at').b)))
          clear HCB
          generalize (nth mp0 (mapsOf p k) at').b = b at *
          obtain ⟨bn, rfl⟩ := Int.eq_ofNat_of_zero_le hc2
          rw [Int.toNat_natCast] at hc3 HCC
          clear hc1 hc2 hve
          have hjli : (at' : Int) < (L : Int) := by omega
          refine wp_region_till (T := fun _ => false) (S := fun w' => Below w2.heap.size w2 w') (by kernel_rfl) (Below.refl w2.heap.size w2).drew (fun hHeld => ?_)
          obtain ⟨w101, hw0⟩ : ∃ x, w2.drew = x := ⟨_, rfl⟩
          rw [hw0] at hHeld ⊢
          have hkA : Below w2.heap.size w2 w101 := hHeld
          clear hHeld hw0
          refine wpTill_put 0 48 (oi := _) (v := ?_) rfl rfl (by kernel_rfl) (by kernel_rfl) (by kernel_rfl) (by kernel_rfl) (fun _ _ _ h => h) (by rfl) hkA ?_ ?_
          rotate_left
          · (intro w2' hSw; go_simp; (try with_reducible rfl))
          (try simp only [Act.put, List.setIfInBounds_toArray, List.set_cons_zero, List.set_cons_succ])
          refine wpTill_put 1 49 (oi := _) (v := ?_) rfl rfl (by kernel_rfl) (by kernel_rfl) (by kernel_rfl) (by kernel_rfl) (fun _ _ _ h => h) (by rfl) hkA ?_ ?_
          rotate_left
          · (intro w2' hSw; go_simp; (try with_reducible rfl))
          (try simp only [Act.put, List.setIfInBounds_toArray, List.set_cons_zero, List.set_cons_succ])
          refine wpTill_put 2 50 (oi := _) (v := ?_) rfl rfl (by kernel_rfl) (by kernel_rfl) (by kernel_rfl) (by kernel_rfl) (fun _ _ _ h => h) (by rfl) hkA ?_ ?_
          rotate_left
          · (intro w2' hSw; obtain ⟨x0, x1, x2, x3, x4⟩ := (HAH.out w2' hSw).1.2.1.cells; go_simp; (try with_reducible rfl))
          (try simp only [Act.put, List.setIfInBounds_toArray, List.set_cons_zero, List.set_cons_succ])
          refine wpTill_put 4 52 (oi := _) (v := ?_) rfl rfl (by kernel_rfl) (by kernel_rfl) (by kernel_rfl) (by kernel_rfl) (fun _ _ _ h => h) (by rfl) hkA ?_ ?_
          rotate_left
          · (intro w2' hSw; go_simp; (try with_reducible rfl))
          (try simp only [Act.put, List.setIfInBounds_toArray, List.set_cons_zero, List.set_cons_succ])
          refine wpTill_put 5 53 (oi := _) (v := ?_) rfl rfl (by kernel_rfl) (by kernel_rfl) (by kernel_rfl) (by kernel_rfl) (fun _ _ _ h => h) (by rfl) hkA ?_ ?_
          rotate_left
          · (intro w2' hSw; go_simp; (try with_reducible rfl))
          (try simp only [Act.put, List.setIfInBounds_toArray, List.set_cons_zero, List.set_cons_succ])
          refine wpTill_put 6 54 (oi := _) (v := ?_) rfl rfl (by kernel_rfl) (by kernel_rfl) (by kernel_rfl) (by kernel_rfl) (fun _ _ _ h => h) (by rfl) hkA ?_ ?_
          rotate_left
          · (intro w2' hSw; go_simp; (try with_reducible rfl))
          (try simp only [Act.put, List.setIfInBounds_toArray, List.set_cons_zero, List.set_cons_succ])
          refine wpTill_put 7 55 (oi := _) (v := ?_) rfl rfl (by kernel_rfl) (by kernel_rfl) (by kernel_rfl) (by kernel_rfl) (fun _ _ _ h => h) (by rfl) hkA ?_ ?_
          rotate_left
          · (intro w2' hSw; go_simp; (try with_reducible rfl))
          (try simp only [Act.put, List.setIfInBounds_toArray, List.set_cons_zero, List.set_cons_succ])
          refine wpTill_put 8 56 (oi := _) (v := ?_) rfl rfl (by kernel_rfl) (by kernel_rfl) (by kernel_rfl) (by kernel_rfl) (fun _ _ _ h => h) (by rfl) hkA ?_ ?_
          rotate_left
          · (intro w2' hSw; have m1 := HCB2.out w2' hSw; go_simp; (try with_reducible rfl))
          (try simp only [Act.put, List.setIfInBounds_toArray, List.set_cons_zero, List.set_cons_succ])
          refine wpTill_one 3 (o := _) (by kernel_rfl) rfl (fun K hK => ?_)
          go_simp
          refine (HRF.out w101 (HAH.out w101 hkA).1.1.size (HAH.out w101 hkA).2.2).mono ?_
          rintro e w102 ⟨v3, rfl, hI3, hBn⟩
          obtain ⟨Ac, cc, rfl, hcc, hIc⟩ := hI3
          have hkA := hkA.trans (hBn.mono hkA.size)
          obtain ⟨gc, oc, rfl, hgc, hcl⟩ := ints_cells hIc (by omega)
          have hcn1 := hcl bn hc3
          rw [← HCC.out] at hcn1
          have hbi : (bn : Int) < ((refsRes p).length : Int) := by omega
          clear hcl hIc hgc
          refine hK.out _ _ (fun _ => hkA) (fun _ => ?_)
          clear hK K
          (try simp only [Act.put, List.setIfInBounds_toArray, List.set_cons_zero, List.set_cons_succ])
          refine wpTill_put 9 57 (oi := _) (v := ?_) rfl rfl (by kernel_rfl) (by kernel_rfl) (by kernel_rfl) (by kernel_rfl) (fun _ _ _ h => h) (by rfl) hkA ?_ ?_
          rotate_left
          · (intro w2' hSw; go_simp; (try with_reducible rfl))
          (try simp only [Act.put, List.setIfInBounds_toArray, List.set_cons_zero, List.set_cons_succ])
          refine wpTill_one 10 (o := _) (by kernel_rfl) rfl (fun K hK => ?_)
          go_simp
          generalize w102 = w103 at *
          refine hK.out _ _ (fun _ => hkA) (fun _ => ?_)
          clear hK K
          (try simp only [Act.put, List.setIfInBounds_toArray, List.set_cons_zero, List.set_cons_succ])
          refine wpTill_put 11 59 (oi := _) (v := ?_) rfl rfl (by kernel_rfl) (by kernel_rfl) (by kernel_rfl) (by kernel_rfl) (fun _ _ _ h => h) (by rfl) hkA ?_ ?_
          rotate_left
          · (intro w2' hSw; go_simp; (try with_reducible rfl))
          (try simp only [Act.put, List.setIfInBounds_toArray, List.set_cons_zero, List.set_cons_succ])
          refine wpTill_put 12 60 (oi := _) (v := ?_) rfl rfl (by kernel_rfl) (by kernel_rfl) (by kernel_rfl) (by kernel_rfl) (fun _ _ _ h => h) (by rfl) hkA ?_ ?_
          rotate_left
          · (intro w2' hSw; go_simp; (try with_reducible rfl))
          (try simp only [Act.put, List.setIfInBounds_toArray, List.set_cons_zero, List.set_cons_succ])
          refine wpTill_done (by kernel_rfl) ?_ _
          go_wp2_with fail
          go_meet
          exact ⟨congrArg Value.bool (by rfl), hkA⟩
        case rest =>
          obtain ⟨rfl, hBc⟩ := hcut
          have hkc := hBc
          clear x0 x1 x2 x3 x4
          rw [hh] at HW
          obtain ⟨x0, x1, x2, x3, x4⟩ := (HAH.out wc hkc).1.2.1.cells
          obtain ⟨z0, z1, z2, z3, z4⟩ := (HAH.out wc hkc).1.2.2.1.cells
          have f0 := (HAH.out wc hkc).1.2.2.1.free 0
          have f1 := (HAH.out wc hkc).1.2.2.1.free 1
          have f2 := (HAH.out wc hkc).1.2.2.1.free 2
          have f3 := (HAH.out wc hkc).1.2.2.1.free 3
          have f4 := (HAH.out wc hkc).1.2.2.1.free 4
          by_cases hc1 : cntAt p k at' = 1
          · obtain rfl : r = (0, p) := by rw [HW.out, if_pos ⟨rfl, hc1⟩]
            rw [decide_eq_true hc1]
            clear HW hc1
            go_wp2_with fail
            obtain ⟨q0, q1, q2, q3, q4⟩ := cells5 (set5 (HAH.out wc hkc).1.2.2.1 (.int .i64 p.tx) (.int .i64 p.time) (.int .i64 p.unit) (.int .i64 p.data) (.slice (some ⟨g2, 0, none⟩) n c))
            refine bodyPost_ret (v := .tuple #[.agg #[.int .i64 p.tx, .int .i64 p.time, .int .i64 p.unit, .int .i64 p.data, .slice (some ⟨g2, 0, none⟩) n c], .int .i64 0]) (by simp [results, Tryz.results81, go_sem, q0, q1, q2, q3, q4]) rfl ?_
            exact wr_stop hl.out (HAH.out wc hkc).1 (HAH.out wc hkc).2.1 H3.out rfl (fun _ => rfl) _ _ _ _ _
          · rw [decide_eq_false hc1]
            by_cases hfr : freeAt (refsRes p) = (refsRes p).length
            · obtain rfl : r = (14, p) := by rw [HW.out, if_neg (fun h => hc1 h.2), if_neg (fun h => by cases h.1), if_pos hfr]
              have hfi : firstI (refsRes p) = -1 := by unfold firstI; rw [if_pos hfr]
              rw [hfi] at HFI
              clear HW hc1 hfr hfi
              go_wp2_with (go_at_call 100; refine (HFI.out wc (HAH.out wc hkc).1.1.size (HAH.out wc hkc).2.2).mono ?_; rintro e w5 ⟨rfl, hB5⟩; have hk5 := hkc.trans (hB5.mono hkc.size); clear x0 x1 x2 x3 x4 z0 z1 z2 z3 z4 f0 f1 f2 f3 f4; obtain ⟨x0, x1, x2, x3, x4⟩ := (HAH.out w5 hk5).1.2.1.cells; obtain ⟨z0, z1, z2, z3, z4⟩ := (HAH.out w5 hk5).1.2.2.1.cells; have f0 := (HAH.out w5 hk5).1.2.2.1.free 0; have f1 := (HAH.out w5 hk5).1.2.2.1.free 1; have f2 := (HAH.out w5 hk5).1.2.2.1.free 2; have f3 := (HAH.out w5 hk5).1.2.2.1.free 3; have f4 := (HAH.out w5 hk5).1.2.2.1.free 4)
              obtain ⟨q0, q1, q2, q3, q4⟩ := cells5 (set5 (HAH.out w5 hk5).1.2.2.1 (.int .i64 p.tx) (.int .i64 p.time) (.int .i64 p.unit) (.int .i64 p.data) (.slice (some ⟨g2, 0, none⟩) n c))
              refine bodyPost_ret (v := .tuple #[.agg #[.int .i64 p.tx, .int .i64 p.time, .int .i64 p.unit, .int .i64 p.data, .slice (some ⟨g2, 0, none⟩) n c], .int .i64 14]) (by simp [results, Tryz.results81, go_sem, q0, q1, q2, q3, q4]) rfl ?_
              exact wr_stop hl.out (HAH.out w5 hk5).1 (HAH.out w5 hk5).2.1 H3.out rfl (fun h => by cases h) _ _ _ _ _
            · have hfi : firstI (refsRes p) = (freeAt (refsRes p) : Int) := by unfold firstI; rw [if_neg hfr]
              rw [hfi] at HFI
              have HRE := Lib.hid (show r = (0, setMaps p k ((mapsOf p k).set at' ⟨v, freeAt (refsRes p), p.time⟩)) by rw [HW.out, if_neg (fun h => hc1 h.2), if_neg (fun h => by cases h.1), if_neg hfr, if_pos rfl])
              clear HW hc1 hfr hfi
              generalize freeAt (refsRes p) = fr at *
              have HRF2 := Lib.hid (fun w5 (hk5 : Below w2.heap.size w2 w5) o W hW => rput_fin (w5 := w5) (x := ⟨v, fr, p.time⟩) hl.out (HAH.out w5 hk5).1 H3.out (HAH.out w5 hk5).2.1 HKL.out HMK.out HLL.out hjl0 o W hW)
              go_upto_region 16 with (go_at_call 100; refine (HFI.out wc (HAH.out wc hkc).1.1.size (HAH.out wc hkc).2.2).mono ?_; rintro e w5 ⟨rfl, hB5⟩; have hk5 := hkc.trans (hB5.mono hkc.size); clear x0 x1 x2 x3 x4 z0 z1 z2 z3 z4 f0 f1 f2 f3 f4; obtain ⟨x0, x1, x2, x3, x4⟩ := (HAH.out w5 hk5).1.2.1.cells; obtain ⟨z0, z1, z2, z3, z4⟩ := (HAH.out w5 hk5).1.2.2.1.cells; have f0 := (HAH.out w5 hk5).1.2.2.1.free 0; have f1 := (HAH.out w5 hk5).1.2.2.1.free 1; have f2 := (HAH.out w5 hk5).1.2.2.1.free 2; have f3 := (HAH.out w5 hk5).1.2.2.1.free 3; have f4 := (HAH.out w5 hk5).1.2.2.1.free 4; have hpz := (HAH.out w5 hk5).1.2.1.lt; obtain ⟨c0, c1, c2, cf, cl⟩ := HCM.out w5 hk5; have hati : (at' : Int) < (L : Int) := (by omega))
              obtain ⟨w6, hw6⟩ : ∃ x, (((w5.setCell ⟨gm, at' * 3, none⟩ (.int .i64 v)).setCell ⟨gm, at' * 3 + 1, none⟩ (.int .i64 fr)).setCell ⟨gm, at' * 3 + 2, none⟩ (.int .i64 p.time)).alloc (.cells #[.int .i64 v, .int .i64 fr, .int .i64 p.time] 40) = x := ⟨_, rfl⟩
              rw [hw6]
              obtain ⟨g1', g2', g3', g4'⟩ := HRF2.out w5 hk5 _ w6 hw6
              clear x0 x1 x2 x3 x4 z0 z1 z2 z3 z4 f0 f1 f2 f3 f4 c0 c1 c2 cf cl hw6
              obtain ⟨x0, x1, x2, x3, x4⟩ := g2'.cells
              obtain ⟨z0, z1, z2, z3, z4⟩ := g3'.cells
              have f0 := g3'.free 0
              have f1 := g3'.free 1
              have f2 := g3'.free 2
              have f3 := g3'.free 3
              have f4 := g3'.free 4
              go_wp2_with fail
              obtain ⟨q0, q1, q2, q3, q4⟩ := cells5 (set5 g3' (.int .i64 p.tx) (.int .i64 p.time) (.int .i64 p.unit) (.int .i64 p.data) (.slice (some ⟨g2, 0, none⟩) n c))
              refine bodyPost_ret (v := .tuple #[.agg #[.int .i64 p.tx, .int .i64 p.time, .int .i64 p.unit, .int .i64 p.data, .slice (some ⟨g2, 0, none⟩) n c], .int .i64 0]) (by simp [results, Tryz.results81, go_sem, q0, q1, q2, q3, q4]) rfl ?_
              rw [HRE.out]
              exact do_ret (q := setMaps p k ((mapsOf p k).set at' ⟨v, fr, p.time⟩)) g1' (by rw [len_setMaps]; exact hl.out) g4' (by omega) (fun h => by have := own1_lt H3.out hl.out _ h; omega) (fun _ => rfl) (fun x hx => .inl hx) rfl _ _ _ _ _
      | false =>
        clear x0 x1 x2 x3 x4
        rw [hh] at HW
        go_upto_region 6 with fail
        go_cut [60] (fun s60 wx => s60 = .bool false ∧ Below w2.heap.size w2 wx)
        case first =>
          refine wp_region_till (T := fun _ => false) (S := fun w' => Below w2.heap.size w2 w') (by kernel_rfl) (Below.refl w2.heap.size w2).drew (fun hHeld => ?_)
          obtain ⟨w104, hw0⟩ : ∃ x, w2.drew = x := ⟨_, rfl⟩
          rw [hw0] at hHeld ⊢
          have hkA : Below w2.heap.size w2 w104 := hHeld
          clear hHeld hw0
          refine wpTill_put 0 48 (oi := _) (v := ?_) rfl rfl (by kernel_rfl) (by kernel_rfl) (by kernel_rfl) (by kernel_rfl) (fun _ _ _ h => h) (by rfl) hkA ?_ ?_
          rotate_left
          · (intro w2' hSw; go_simp; (try with_reducible rfl))
          (try simp only [Act.put, List.setIfInBounds_toArray, List.set_cons_zero, List.set_cons_succ])
          refine wpTill_put 1 49 (oi := _) (v := ?_) rfl rfl (by kernel_rfl) (by kernel_rfl) (by kernel_rfl) (by kernel_rfl) (fun _ _ _ h => h) (by rfl) hkA ?_ ?_
          rotate_left
          · (intro w2' hSw; go_simp; (try with_reducible rfl))
          (try simp only [Act.put, List.setIfInBounds_toArray, List.set_cons_zero, List.set_cons_succ])
          refine wpTill_skip 2 50 (oi := _) rfl rfl (by kernel_rfl) (by kernel_rfl) (by kernel_rfl) (by kernel_rfl) (fun _ _ _ h => h) (by rfl) hkA ?_
          (try simp only [Act.put, List.setIfInBounds_toArray, List.set_cons_zero, List.set_cons_succ])
          refine wpTill_skip 3 51 (oi := _) rfl rfl (by kernel_rfl) (by kernel_rfl) (by kernel_rfl) (by kernel_rfl) (fun _ _ _ h => h) (by rfl) hkA ?_
          (try simp only [Act.put, List.setIfInBounds_toArray, List.set_cons_zero, List.set_cons_succ])
          refine wpTill_skip 4 52 (oi := _) rfl rfl (by kernel_rfl) (by kernel_rfl) (by kernel_rfl) (by kernel_rfl) (fun _ _ _ h => h) (by rfl) hkA ?_
          (try simp only [Act.put, List.setIfInBounds_toArray, List.set_cons_zero, List.set_cons_succ])
          refine wpTill_skip 5 53 (oi := _) rfl rfl (by kernel_rfl) (by kernel_rfl) (by kernel_rfl) (by kernel_rfl) (fun _ _ _ h => h) (by rfl) hkA ?_
          (try simp only [Act.put, List.setIfInBounds_toArray, List.set_cons_zero, List.set_cons_succ])
          refine wpTill_skip 6 54 (oi := _) rfl rfl (by kernel_rfl) (by kernel_rfl) (by kernel_rfl) (by kernel_rfl) (fun _ _ _ h => h) (by rfl) hkA ?_
          (try simp only [Act.put, List.setIfInBounds_toArray, List.set_cons_zero, List.set_cons_succ])
          refine wpTill_skip 7 55 (oi := _) rfl rfl (by kernel_rfl) (by kernel_rfl) (by kernel_rfl) (by kernel_rfl) (fun _ _ _ h => h) (by rfl) hkA ?_
          (try simp only [Act.put, List.setIfInBounds_toArray, List.set_cons_zero, List.set_cons_succ])
          refine wpTill_skip 8 56 (oi := _) rfl rfl (by kernel_rfl) (by kernel_rfl) (by kernel_rfl) (by kernel_rfl) (fun _ _ _ h => h) (by rfl) hkA ?_
          (try simp only [Act.put, List.setIfInBounds_toArray, List.set_cons_zero, List.set_cons_succ])
          refine wpTill_skip 9 57 (oi := _) rfl rfl (by kernel_rfl) (by kernel_rfl) (by kernel_rfl) (by kernel_rfl) (fun _ _ _ h => h) (by rfl) hkA ?_
          (try simp only [Act.put, List.setIfInBounds_toArray, List.set_cons_zero, List.set_cons_succ])
          refine wpTill_skip 10 58 (oi := _) rfl rfl (by kernel_rfl) (by kernel_rfl) (by kernel_rfl) (by kernel_rfl) (fun _ _ _ h => h) (by rfl) hkA ?_
          (try simp only [Act.put, List.setIfInBounds_toArray, List.set_cons_zero, List.set_cons_succ])
          refine wpTill_skip 11 59 (oi := _) rfl rfl (by kernel_rfl) (by kernel_rfl) (by kernel_rfl) (by kernel_rfl) (fun _ _ _ h => h) (by rfl) hkA ?_
          (try simp only [Act.put, List.setIfInBounds_toArray, List.set_cons_zero, List.set_cons_succ])
          refine wpTill_put 12 60 (oi := _) (v := ?_) rfl rfl (by kernel_rfl) (by kernel_rfl) (by kernel_rfl) (by kernel_rfl) (fun _ _ _ h => h) (by rfl) hkA ?_ ?_
          rotate_left
          · (intro w2' hSw; go_simp; (try with_reducible rfl))
          (try simp only [Act.put, List.setIfInBounds_toArray, List.set_cons_zero, List.set_cons_succ])
          refine wpTill_done (by kernel_rfl) ?_ _
          go_wp2_with fail
          go_meet
          exact ⟨rfl, hkA⟩
        case rest =>
          obtain ⟨rfl, hBc⟩ := hcut
          have hkc := hBc
          obtain ⟨x0, x1, x2, x3, x4⟩ := (HAH.out wc hkc).1.2.1.cells
          obtain ⟨z0, z1, z2, z3, z4⟩ := (HAH.out wc hkc).1.2.2.1.cells
          have f0 := (HAH.out wc hkc).1.2.2.1.free 0
          have f1 := (HAH.out wc hkc).1.2.2.1.free 1
          have f2 := (HAH.out wc hkc).1.2.2.1.free 2
          have f3 := (HAH.out wc hkc).1.2.2.1.free 3
          have f4 := (HAH.out wc hkc).1.2.2.1.free 4
          by_cases hcn2 : 16384 ≤ p.count
          · obtain rfl : r = (2, p) := by rw [HW.out, if_neg (fun h => by cases h.1), if_pos ⟨rfl, hcn2⟩]
            clear HW
            go_wp2_with (go_at_call 17; refine (HCT.out wc (HAH.out wc hkc).1.1.size (HAH.out wc hkc).2.2).mono ?_; rintro e w4 ⟨rfl, hB4⟩; have hk4 := hkc.trans (hB4.mono hkc.size); clear x0 x1 x2 x3 x4 z0 z1 z2 z3 z4 f0 f1 f2 f3 f4; obtain ⟨x0, x1, x2, x3, x4⟩ := (HAH.out w4 hk4).1.2.1.cells; obtain ⟨z0, z1, z2, z3, z4⟩ := (HAH.out w4 hk4).1.2.2.1.cells; have f0 := (HAH.out w4 hk4).1.2.2.1.free 0; have f1 := (HAH.out w4 hk4).1.2.2.1.free 1; have f2 := (HAH.out w4 hk4).1.2.2.1.free 2; have f3 := (HAH.out w4 hk4).1.2.2.1.free 3; have f4 := (HAH.out w4 hk4).1.2.2.1.free 4)
            obtain ⟨q0, q1, q2, q3, q4⟩ := cells5 (set5 (HAH.out w4 hk4).1.2.2.1 (.int .i64 p.tx) (.int .i64 p.time) (.int .i64 p.unit) (.int .i64 p.data) (.slice (some ⟨g2, 0, none⟩) n c))
            refine bodyPost_ret (v := .tuple #[.agg #[.int .i64 p.tx, .int .i64 p.time, .int .i64 p.unit, .int .i64 p.data, .slice (some ⟨g2, 0, none⟩) n c], .int .i64 2]) (by simp [results, Tryz.results81, go_sem, q0, q1, q2, q3, q4]) rfl ?_
            exact wr_stop hl.out (HAH.out w4 hk4).1 (HAH.out w4 hk4).2.1 H3.out rfl (fun h => by cases h) _ _ _ _ _
          · have hcn3 : p.count < 16384 := by omega
            by_cases hfr : freeAt (refsRes p) = (refsRes p).length
            · obtain rfl : r = (14, p) := by rw [HW.out, if_neg (fun h => by cases h.1), if_neg (fun h => hcn2 h.2), if_pos hfr]
              have hfi : firstI (refsRes p) = -1 := by unfold firstI; rw [if_pos hfr]
              rw [hfi] at HFI
              clear HW hfr hfi hcn2
              go_wp2_with (first
                | (go_at_call 100; refine (HFI.out w4 (HAH.out w4 hk4).1.1.size (HAH.out w4 hk4).2.2).mono ?_; rintro e w5 ⟨rfl, hB5⟩; have hk5 := hk4.trans (hB5.mono hk4.size); clear x0 x1 x2 x3 x4 z0 z1 z2 z3 z4 f0 f1 f2 f3 f4; obtain ⟨x0, x1, x2, x3, x4⟩ := (HAH.out w5 hk5).1.2.1.cells; obtain ⟨z0, z1, z2, z3, z4⟩ := (HAH.out w5 hk5).1.2.2.1.cells; have f0 := (HAH.out w5 hk5).1.2.2.1.free 0; have f1 := (HAH.out w5 hk5).1.2.2.1.free 1; have f2 := (HAH.out w5 hk5).1.2.2.1.free 2; have f3 := (HAH.out w5 hk5).1.2.2.1.free 3; have f4 := (HAH.out w5 hk5).1.2.2.1.free 4)
                | (go_at_call 17; refine (HCT.out wc (HAH.out wc hkc).1.1.size (HAH.out wc hkc).2.2).mono ?_; rintro e w4 ⟨rfl, hB4⟩; have hk4 := hkc.trans (hB4.mono hkc.size); clear x0 x1 x2 x3 x4 z0 z1 z2 z3 z4 f0 f1 f2 f3 f4; obtain ⟨x0, x1, x2, x3, x4⟩ := (HAH.out w4 hk4).1.2.1.cells; obtain ⟨z0, z1, z2, z3, z4⟩ := (HAH.out w4 hk4).1.2.2.1.cells; have f0 := (HAH.out w4 hk4).1.2.2.1.free 0; have f1 := (HAH.out w4 hk4).1.2.2.1.free 1; have f2 := (HAH.out w4 hk4).1.2.2.1.free 2; have f3 := (HAH.out w4 hk4).1.2.2.1.free 3; have f4 := (HAH.out w4 hk4).1.2.2.1.free 4))
              obtain ⟨q0, q1, q2, q3, q4⟩ := cells5 (set5 (HAH.out w5 hk5).1.2.2.1 (.int .i64 p.tx) (.int .i64 p.time) (.int .i64 p.unit) (.int .i64 p.data) (.slice (some ⟨g2, 0, none⟩) n c))
              refine bodyPost_ret (v := .tuple #[.agg #[.int .i64 p.tx, .int .i64 p.time, .int .i64 p.unit, .int .i64 p.data, .slice (some ⟨g2, 0, none⟩) n c], .int .i64 14]) (by simp [results, Tryz.results81, go_sem, q0, q1, q2, q3, q4]) rfl ?_
              exact wr_stop hl.out (HAH.out w5 hk5).1 (HAH.out w5 hk5).2.1 H3.out rfl (fun h => by cases h) _ _ _ _ _
            · have hfi : firstI (refsRes p) = (freeAt (refsRes p) : Int) := by unfold firstI; rw [if_neg hfr]
              rw [hfi] at HFI
              have HRE := Lib.hid (show r = (0, setMaps p k (insAt (mapsOf p k) at' ⟨v, freeAt (refsRes p), p.time⟩)) by rw [HW.out, if_neg (fun h => by cases h.1), if_neg (fun h => hcn2 h.2), if_neg hfr, if_neg (by simp)])
              clear HW hfr hfi hcn2
              generalize freeAt (refsRes p) = fr at *
              go_upto_region 17 with (first
                | (go_at_call 100; refine (HFI.out w4 (HAH.out w4 hk4).1.1.size (HAH.out w4 hk4).2.2).mono ?_; rintro e w5 ⟨rfl, hB5⟩; have hk5 := hk4.trans (hB5.mono hk4.size); clear x0 x1 x2 x3 x4 z0 z1 z2 z3 z4 f0 f1 f2 f3 f4; obtain ⟨x0, x1, x2, x3, x4⟩ := (HAH.out w5 hk5).1.2.1.cells; obtain ⟨z0, z1, z2, z3, z4⟩ := (HAH.out w5 hk5).1.2.2.1.cells; have f0 := (HAH.out w5 hk5).1.2.2.1.free 0; have f1 := (HAH.out w5 hk5).1.2.2.1.free 1; have f2 := (HAH.out w5 hk5).1.2.2.1.free 2; have f3 := (HAH.out w5 hk5).1.2.2.1.free 3; have f4 := (HAH.out w5 hk5).1.2.2.1.free 4)
                | (go_at_call 17; refine (HCT.out wc (HAH.out wc hkc).1.1.size (HAH.out wc hkc).2.2).mono ?_; rintro e w4 ⟨rfl, hB4⟩; have hk4 := hkc.trans (hB4.mono hkc.size); clear x0 x1 x2 x3 x4 z0 z1 z2 z3 z4 f0 f1 f2 f3 f4; obtain ⟨x0, x1, x2, x3, x4⟩ := (HAH.out w4 hk4).1.2.1.cells; obtain ⟨z0, z1, z2, z3, z4⟩ := (HAH.out w4 hk4).1.2.2.1.cells; have f0 := (HAH.out w4 hk4).1.2.2.1.free 0; have f1 := (HAH.out w4 hk4).1.2.2.1.free 1; have f2 := (HAH.out w4 hk4).1.2.2.1.free 2; have f3 := (HAH.out w4 hk4).1.2.2.1.free 3; have f4 := (HAH.out w4 hk4).1.2.2.1.free 4))
              have hlc : L ≤ cm := by omega
              obtain ⟨w6, hw6⟩ : ∃ x, w5.alloc (.cells #[.int .i64 v, .int .i64 fr, .int .i64 p.time] 40) = x := ⟨_, rfl⟩
              have hB6 : Below w5.heap.size w5 w6 := by rw [← hw6]; exact (Below.refl _ _).alloc (Nat.le_refl _) _
              have hx6 : w6.heap[w5.heap.size]? = some (.cells #[.int .i64 v, .int .i64 fr, .int .i64 p.time] 40) := by rw [← hw6]; exact heap_alloc_new w5 _
              rw [hw6]
              clear hw6
              have hk6 := hk5.trans (hB6.mono hk5.size)
              have hz6 := hB6.size
              have hz5 := (HAH.out w5 hk5).1.2.2.2
              have hxz := box_lt hx6
              have hsrc := own_src (own_below (HWM.out w6 (HAH.out w6 hk6).2.1).2.1 ((Below.refl w6.heap.size w6).alloc (Nat.le_refl _) (.cells #[] 40)) (fun x hx => ((HWM.out w6 (HAH.out w6 hk6).2.1).2.1.lt x hx).2))
              have HFT := Lib.hid (show (flats Mp.enc ((mapsOf p k).take at')).length = at' * 3 by rw [flats_length Mp.enc_len, List.length_take, HLL.out]; omega)
              have HSR := Lib.hid (src_take at' hsrc.1)
              have HNO := Lib.hid (show Am = none → at' = 0 from fun h => by have := hsrc.2 h; omega)
              clear hsrc x0 x1 x2 x3 x4 z0 z1 z2 z3 z4 f0 f1 f2 f3 f4
              have hati : (at' : Int) ≤ (cm : Int) := by omega
              go_upto_region 19 with (first
                | (at_builtin; have _ := HB7.out; go_loud (refine wpList_append_optB Tryz.underlying34 info_map rfl (by omega) (by omega) rfl _ _ rfl (w.heap.size + 2) (.slice A7 at' c7) at' (flats Mp.enc ((mapsOf p k).take at')) rfl (HO7.out.alloc _) (some ⟨w7.heap.size, 0, none⟩) 1 1 (Mp.enc ⟨v, fr, p.time⟩) rfl rfl (new_src w7 (Mp.enc ⟨v, fr, p.time⟩) _) (Mp.enc_one _) (by omega) (by have := HB7.out.1.size; simp; omega) (fun h => by cases h) ?_); intro A8 c8 w8 ho8 hg8 hb8; have HB8 := Lib.hid (app_step (HB7.out.1.alloc HB7.out.1.size _) HB7.out.2 hg8 hb8); have HO8 := Lib.hid ho8; clear ho8 hg8 hb8)
                | (at_builtin; go_loud (refine wpList_append_optB Tryz.underlying34 info_map rfl (by omega) (by omega) rfl _ _ rfl (w.heap.size + 2) (.slice (some ⟨w6.heap.size, 0, none⟩) 0 0) 0 [] rfl (World.ownsRow_made w6 #[] 0 (by omega) (by simp [maxLen]) rfl) Am at' cm (flats Mp.enc ((mapsOf p k).take at')) rfl HFT.out HSR.out (maps_one _) (by omega) (by simp; omega) HNO.out ?_); intro A7 c7 w7 ho7 hg7 hb7; rw [Nat.zero_add, List.nil_append] at ho7; rw [Nat.zero_add] at hb7; have HB7 := Lib.hid (app_step (hB6.alloc hz6 _) (app_lo hz6) hg7 hb7); have HO7 := Lib.hid ho7; have hx7 := (hg7.block _ (app_lt hxz _) (app_ne hxz)).trans (box_up hx6 ((Below.refl w6.heap.size w6).alloc (Nat.le_refl _) (.cells #[] 40))); clear ho7 hg7 hb7; obtain ⟨y0, y1, y2⟩ := box3c hx7))
              have hk8 := hk5.trans (HB8.out.1.mono hk5.size)
              have hl8 := HO8.out.lt
              have HL8 := Lib.hid hl8
              have HFD := Lib.hid (show (flats Mp.enc ((mapsOf p k).drop at')).length = (L - at') * 3 by rw [flats_length Mp.enc_len, List.length_drop, HLL.out])
              have HDR := Lib.hid (fun w' (hB : Below w8.heap.size w8 w') => src_drop at' hple hlc HLL.out (own_src (HWM.out w' (HAH.out w' (hk8.trans (hB.mono hk8.size))).2.1).2.1))
              have hali : (at' : Int) ≤ (L : Int) := by omega
              clear y0 y1 y2 hl8
              have HPF := Lib.hid (fun A9 c9 w9 W u => rins_fin (p := p) (M := M) (A9 := A9) (c9 := c9) (w5 := w5) (w9 := w9) (W := W) (x := ⟨v, fr, p.time⟩) (u := u) (at' := at') hl.out (HAH.out w5 hk5).1 H3.out (HAH.out w5 hk5).2.1 HKL.out HLL.out hple hb)
              refine wp_region_till (T := fun j => j == 10) (S := fun w' => Below w5.heap.size w5 w') (by kernel_rfl) HB8.out.1.drew (fun hHeld => ?_)
              obtain ⟨w105, hw0⟩ : ∃ x, w8.drew = x := ⟨_, rfl⟩
              rw [hw0] at hHeld ⊢
              have hkA : Below w5.heap.size w5 w105 := hHeld
              have hkW : Below w8.heap.size w8 w105 := by rw [← hw0]; exact (Below.refl w8.heap.size w8).drew
              clear hHeld hw0
              refine wpTill_put 0 95 (oi := _) (v := ?_) rfl rfl (by kernel_rfl) (by kernel_rfl) (by kernel_rfl) (by kernel_rfl) (fun _ _ _ h => h) (by rfl) hkA ?_ ?_
              rotate_left
              · (intro w2' hSw; go_simp; (try with_reducible rfl))
              (try simp only [Act.put, List.setIfInBounds_toArray, List.set_cons_zero, List.set_cons_succ])
              refine wpTill_put 1 96 (oi := _) (v := ?_) rfl rfl (by kernel_rfl) (by kernel_rfl) (by kernel_rfl) (by kernel_rfl) (fun _ _ _ h => h) (by rfl) hkA ?_ ?_
              rotate_left
              · (intro w2' hSw; obtain ⟨x0, x1, x2, x3, x4⟩ := (HAH.out w2' (hk5.trans (Below.mono hSw hk5.size))).1.2.1.cells; go_simp; (try with_reducible rfl))
              (try simp only [Act.put, List.setIfInBounds_toArray, List.set_cons_zero, List.set_cons_succ])
              refine wpTill_put 2 97 (oi := _) (v := ?_) rfl rfl (by kernel_rfl) (by kernel_rfl) (by kernel_rfl) (by kernel_rfl) (fun _ _ _ h => h) (by rfl) hkA ?_ ?_
              rotate_left
              · (intro w2' hSw; go_simp; (try with_reducible rfl))
              (try simp only [Act.put, List.setIfInBounds_toArray, List.set_cons_zero, List.set_cons_succ])
              refine wpTill_put 3 98 (oi := _) (v := ?_) rfl rfl (by kernel_rfl) (by kernel_rfl) (by kernel_rfl) (by kernel_rfl) (fun _ _ _ h => h) (by rfl) hkA ?_ ?_
              rotate_left
              · (intro w2' hSw; go_simp; (try with_reducible rfl))
              (try simp only [Act.put, List.setIfInBounds_toArray, List.set_cons_zero, List.set_cons_succ])
              refine wpTill_put 4 99 (oi := _) (v := ?_) rfl rfl (by kernel_rfl) (by kernel_rfl) (by kernel_rfl) (by kernel_rfl) (fun _ _ _ h => h) (by rfl) hkA ?_ ?_
              rotate_left
              · (intro w2' hSw; go_simp; (try with_reducible rfl))
              (try simp only [Act.put, List.setIfInBounds_toArray, List.set_cons_zero, List.set_cons_succ])
              refine wpTill_put 5 100 (oi := _) (v := ?_) rfl rfl (by kernel_rfl) (by kernel_rfl) (by kernel_rfl) (by kernel_rfl) (fun _ _ _ h => h) (by rfl) hkA ?_ ?_
              rotate_left
              · (intro w2' hSw; go_simp; (try with_reducible rfl))
              (try simp only [Act.put, List.setIfInBounds_toArray, List.set_cons_zero, List.set_cons_succ])
              refine wpTill_put 6 101 (oi := _) (v := ?_) rfl rfl (by kernel_rfl) (by kernel_rfl) (by kernel_rfl) (by kernel_rfl) (fun _ _ _ h => h) (by rfl) hkA ?_ ?_
              rotate_left
              · (intro w2' hSw; go_simp; (try with_reducible rfl))
              (try simp only [Act.put, List.setIfInBounds_toArray, List.set_cons_zero, List.set_cons_succ])
              refine wpTill_one 7 (o := _) (by kernel_rfl) rfl (fun K hK => ?_)
              have hdr := HDR.out w105 hkW
              refine step_append_optB Tryz.underlying34 info_map rfl (by omega) (by omega) rfl (.tmp 98) (.tmp 101) rfl (w.heap.size + 2) (.slice A8 (at' + 1) c8) (at' + 1) (flats Mp.enc ((mapsOf p k).take at') ++ Mp.enc ⟨v, fr, p.time⟩) rfl (own_below HO8.out hkW (fun x hx => (HL8.out x hx).2)) _ (L - at') (cm - at') (flats Mp.enc ((mapsOf p k).drop at')) rfl HFD.out hdr.1 (maps_one _) (by omega) (by have := hkA.size; omega) hdr.2 ?_
              intro A9 c9 w106 ho9 hg9 hb9
              have HB9 := Lib.hid (app_step hkA HB8.out.2 hg9 hb9)
              have HO9 := Lib.hid ho9
              have hkA := HB9.out.1
              have hk9 := hk5.trans (HB9.out.1.mono hk5.size)
              clear ho9 hg9 hb9 hdr
              refine hK.out _ _ (fun _ => hkA) (fun _ => ?_)
              clear hK K
              (try simp only [Act.put, List.setIfInBounds_toArray, List.set_cons_zero, List.set_cons_succ])
              refine wpTill_one 8 (o := _) (by kernel_rfl) rfl (fun K hK => ?_)
              go_simp
              refine hK.out _ _ (fun _ => hkA) (fun _ => ?_)
              clear hK K
              (try simp only [Act.put, List.setIfInBounds_toArray, List.set_cons_zero, List.set_cons_succ])
              refine wpTill_put 9 104 (oi := _) (v := ?_) rfl rfl (by kernel_rfl) (by kernel_rfl) (by kernel_rfl) (by kernel_rfl) (fun _ _ _ h => h) (by rfl) hkA ?_ ?_
              rotate_left
              · (intro w2' hSw; go_simp; (try with_reducible rfl))
              (try simp only [Act.put, List.setIfInBounds_toArray, List.set_cons_zero, List.set_cons_succ])
              refine wpTill_one 10 (o := _) (by kernel_rfl) rfl (fun K hK => ?_)
              obtain ⟨m0, _, mf, _⟩ := (HAH.out w106 hk9).2.1.cellM (by rw [hl.out]; exact HKL.out)
              rw [HMK.out] at m0
              go_simp
              obtain ⟨w107, hwn⟩ : ∃ x, w106.setCell ⟨g2, k * 5 + 4, none⟩ (.slice A9 (at' + 1 + (L - at')) c9) = x := ⟨_, rfl⟩
              have HFF := HPF.out A9 c9 w106 w107 _ rfl HB9.out HO9.out hwn
              rw [hwn]
              clear hwn m0 mf
              refine hK.out _ _ (fun h => by cases h) (fun _ => ?_)
              clear hK K
              (try simp only [Act.put, List.setIfInBounds_toArray, List.set_cons_zero, List.set_cons_succ])
              refine wpTill_done (by kernel_rfl) ?_ _
              obtain ⟨t1, t2, t3, t4, t5, t6⟩ := HFF
              have HT1 := Lib.hid t1
              have HT6 := Lib.hid t6
              clear t1 t6
              obtain ⟨x0, x1, x2, x3, x4⟩ := t3.cells
              obtain ⟨z0, z1, z2, z3, z4⟩ := t2.cells
              have f0 := t2.free 0
              have f1 := t2.free 1
              have f2 := t2.free 2
              have f3 := t2.free 3
              have f4 := t2.free 4
              go_wp2_with fail
              all_goals
                obtain ⟨q0, q1, q2, q3, q4⟩ := cells5 (set5 t2 (.int .i64 p.tx) (.int .i64 p.time) (.int .i64 p.unit) (.int .i64 p.data) (.slice (some ⟨g2, 0, none⟩) n c))
                refine bodyPost_ret (v := .tuple #[.agg #[.int .i64 p.tx, .int .i64 p.time, .int .i64 p.unit, .int .i64 p.data, .slice (some ⟨g2, 0, none⟩) n c], .int .i64 0]) (by simp [results, Tryz.results81, go_sem, q0, q1, q2, q3, q4]) rfl ?_
                rw [HRE.out]
                exact do_ret (q := setMaps p k (insAt (mapsOf p k) at' ⟨v, fr, p.time⟩)) HT1.out (by rw [len_setMaps]; exact hl.out) t4 (by omega) t5 (fun _ => rfl) HT6.out rfl _ _ _ _ _
end Go.Proofs.YtcdfbpdejbpgjaaGreat

/- The reference's blocks (scantlingref49). Condition: the pool may be, and lies in memory of the call's own. -/
namespace Go.Proofs.YtcdfbpdejbpgjaaGreat

open Go.RowKit
attribute [local go_sem] Oper.semAt_some
set_option linter.unusedSimpArgs false
set_option linter.unusedVariables false

/-- A device's mappings are put anew: they lie in memory made since. -/
theorem rput_new {w w5 w9 W : World} {base n c k g2 c9 : Nat} {p : Pool} {A9 : Option Addr} {M : Nat → Value} {m : List Mp} {u : Value} (hn : p.devs.length = n) (hB5 : Below w.heap.size w w5) (h0 : OwnDevs w base (.slice (some ⟨g2, 0, none⟩) n c) p.devs M) (h5 : OwnDevs w5 base (.slice (some ⟨g2, 0, none⟩) n c) p.devs M) (hk : k < n) (hb : base ≤ w.heap.size)
    (_hu : u = .slice A9 m.length c9) (hB : Below w5.heap.size w5 w9) (hlo : ∀ x, u.ownBlock = some x → w5.heap.size ≤ x) (ho : w9.ownsRow w.heap.size 40 3 u m.length (flats Mp.enc m)) (hW : w9.setCell ⟨g2, k * 5 + 4, none⟩ u = W) :
    OwnDevs W base (.slice (some ⟨g2, 0, none⟩) n c) (setMaps p k m).devs (fun j => if j = k then u else M j) ∧ Touch (Own1 (.slice (some ⟨g2, 0, none⟩) n c) n M) w W ∧ (∀ b, w.heap.size ≤ b → b < w5.heap.size → W.heap[b]? = w5.heap[b]?) ∧
      ∀ y, Own1 (.slice (some ⟨g2, 0, none⟩) n c) n (fun j => if j = k then u else M j) y → Own1 (.slice (some ⟨g2, 0, none⟩) n c) n M y ∨ w5.heap.size ≤ y := by
  subst hn hW
  have hlt := own1_lt h0 rfl
  have hg2 := (hlt g2 (.inl rfl)).2
  have hgr : w5.grownBy w9 (M k).ownBlock := ⟨hB.os, hB.tape, hB.output, hB.size, fun j hj _ => hB.block j hj⟩
  have hown : OwnMaps w9 base u m := own_low ho hb
  have h6 := h5.put (d := ⟨(nth dev0 p.devs k).id, (nth dev0 p.devs k).tx, (nth dev0 p.devs k).made, (nth dev0 p.devs k).snapped, m⟩) hk hgr hown (fun y hy => .inr (hlo y hy)) ⟨rfl, rfl, rfl, rfl⟩
  refine ⟨h6, ?_, fun b h1 h2 => ?_, ?_⟩
  · exact ((Touch.of_below hB5).trans (Touch.of_below hB)).trans (Touch.set_ (p := ⟨g2, k * 5 + 4, none⟩) (.inl rfl))
  · exact (Below.heap_setCell w9 ⟨g2, k * 5 + 4, none⟩ u b (by simp only [ne_eq]; omega)).trans (hB.block b h2)
  · rintro y (hy | ⟨j, hj, hy⟩)
    · exact .inl (.inl hy)
    · simp only at hy
      split at hy
      · exact .inr (hlo y hy)
      · exact .inl (.inr ⟨j, hj, hy⟩)
set_option maxRecDepth 100000 in
set_option maxHeartbeats 1600000 in
theorem rblocks_far (w : World) (base c : Nat) (p : Pool) (A : Option Addr) (M : Nat → Value) (o : Mop) (h3 : OwnDevs w base (.slice A p.devs.length c) p.devs M) (hpc : poolChk p = 0) (r : Int × Pool) (hf : blkE p o ≠ 0) (hr : r.1 = blkE p o) :
    Calls Tryz.prog 56 #[.agg #[.int .i64 p.tx, .int .i64 p.time, .int .i64 p.unit, .int .i64 p.data, .slice A p.devs.length c], mopV o] w (DoR w base (.slice A p.devs.length c) p.devs.length M r) := by
  have T := three_new w p A p.devs.length c o
  dsimp only [poolBox, op9Box, zeroBox] at T
  have HAH := Lib.hid (op_ahead h3 T)
  have hln := pool_len hpc
  have HPL := Lib.hid (fun w' (hz : w.heap.size ≤ w'.heap.size) (h : IsPool w' (Lt w.heap.size) (.agg #[.int .i64 p.tx, .int .i64 p.time, .int .i64 p.unit, .int .i64 p.data, .slice A p.devs.length c]) p) => rplace_any w' (Lt w.heap.size) _ p o.dev (fun b (hb : b < w.heap.size) => Nat.lt_of_lt_of_le hb hz) h (incK_devs hpc) (by omega))
  have H3 := Lib.hid h3
  have hcs : (placeI p o.dev = -1 ∧ blkE p o = 18) ∨ (¬ placeI p o.dev < 0 ∧ blkE p o = 2 ∧ (o.n < 1 ∨ (1 ≤ o.n ∧ 16384 < o.n) ∨ (1 ≤ o.n ∧ o.n ≤ 16384 ∧ o.arg < 0) ∨ (1 ≤ o.n ∧ o.n ≤ 16384 ∧ 0 ≤ o.arg ∧ 281474976710655 < o.arg) ∨ (1 ≤ o.n ∧ o.n ≤ 16384 ∧ 0 ≤ o.arg ∧ o.arg ≤ 281474976710655 ∧ 281474976710656 - o.arg < o.n))) := by
    unfold blkE at hf ⊢
    unfold placeI
    by_cases h1 : dhas p o.dev = false
    · exact .inl ⟨by rw [if_neg (by rw [h1]; simp)], by rw [if_pos h1]⟩
    · rw [if_neg h1] at hf
      by_cases h2 : o.n < 1 ∨ 16384 < o.n ∨ o.arg < 0 ∨ 281474976710655 < o.arg ∨ 281474976710656 - o.arg < o.n
      · exact .inr ⟨by rw [if_pos (by simpa using h1)]; omega, by rw [if_neg h1, if_pos h2], by omega⟩
      · rw [if_neg h2] at hf; exact absurd rfl hf
  have HR := Lib.hid hr
  have HF := Lib.hid hf
  clear hr hf h3 hpc
  generalize hfe : blkE p o = fe at *
  clear hfe
  generalize placeI p o.dev = pl at *
  generalize hl0 : p.devs.length = n at *
  have hl := Lib.hid hl0
  clear hl0
  rcases hcs with ⟨d1, d2⟩ | ⟨d1, d2, d3⟩
  · have HR2 := Lib.hid (And.intro (show (18 : Int) = r.1 by rw [HR.out, d2]) (show r.1 ≠ 0 by rw [HR.out]; exact HF.out))
    subst d1
    clear HF HR d2
    go_enter Tryz.func56, Tryz.ntmps56
    go_upto_region 1 with fail
    generalize ((w.alloc (.cells #[.int .i64 p.tx, .int .i64 p.time, .int .i64 p.unit, .int .i64 p.data, .slice A n c] 24)).alloc (.cells #[.int .i64 o.kind, .int .i64 o.dev, .int .i64 o.arg, .int .i64 o.n] 48)).alloc (.cells #[.int .i64 0, .int .i64 0, .int .i64 0, .int .i64 0, .slice none 0 0] 24) = w3 at *
    have hk3 := Below.refl w3.heap.size w3
    obtain ⟨x0, x1, x2, x3, x4⟩ := (HAH.out w3 hk3).1.2.1.cells
    obtain ⟨y0, y1, y2, y3⟩ := (HAH.out w3 hk3).1.2.2.1.cells
    obtain ⟨z0, z1, z2, z3, z4⟩ := (HAH.out w3 hk3).1.2.2.2.1.cells
    have f0 := (HAH.out w3 hk3).1.2.2.2.1.free 0
    have f1 := (HAH.out w3 hk3).1.2.2.2.1.free 1
    have f2 := (HAH.out w3 hk3).1.2.2.2.1.free 2
    have f3 := (HAH.out w3 hk3).1.2.2.2.1.free 3
    have f4 := (HAH.out w3 hk3).1.2.2.2.1.free 4
    go_wp2_with (go_at_call 55; (have hx := HPL.out w3 (HAH.out w3 hk3).1.1.size (HAH.out w3 hk3).2.2.1; with_reducible refine hx.mono ?_; clear hx); rintro e w4 ⟨rfl, hk4⟩; clear x0 x1 x2 x3 x4 y0 y1 y2 y3 z0 z1 z2 z3 z4 f0 f1 f2 f3 f4; obtain ⟨x0, x1, x2, x3, x4⟩ := (HAH.out w4 hk4).1.2.1.cells; obtain ⟨y0, y1, y2, y3⟩ := (HAH.out w4 hk4).1.2.2.1.cells; obtain ⟨z0, z1, z2, z3, z4⟩ := (HAH.out w4 hk4).1.2.2.2.1.cells; have f0 := (HAH.out w4 hk4).1.2.2.2.1.free 0; have f1 := (HAH.out w4 hk4).1.2.2.2.1.free 1; have f2 := (HAH.out w4 hk4).1.2.2.2.1.free 2; have f3 := (HAH.out w4 hk4).1.2.2.2.1.free 3; have f4 := (HAH.out w4 hk4).1.2.2.2.1.free 4)
    obtain ⟨q0, q1, q2, q3, q4⟩ := cells5 (set5 (HAH.out w4 hk4).1.2.2.2.1 (.int .i64 p.tx) (.int .i64 p.time) (.int .i64 p.unit) (.int .i64 p.data) (.slice A n c))
    refine bodyPost_ret (v := .tuple #[.agg #[.int .i64 p.tx, .int .i64 p.time, .int .i64 p.unit, .int .i64 p.data, .slice A n c], .int .i64 18]) (by simp [results, Tryz.results56, go_sem, q0, q1, q2, q3, q4]) rfl ?_
    exact do_stop hl.out (HAH.out w4 hk4).1 (HAH.out w4 hk4).2.1 H3.out HR2.out.1 HR2.out.2 _ _ _ _ _
  · have HR2 := Lib.hid (And.intro (show (2 : Int) = r.1 by rw [HR.out, d2]) (show r.1 ≠ 0 by rw [HR.out]; exact HF.out))
    clear HF HR d2
    rcases d3 with d3 | ⟨d3, d4⟩ | ⟨d3, d4, d5⟩ | ⟨d3, d4, d5, d6⟩ | ⟨d3, d4, d5, d6, d7⟩
    rotate_left 4
    · have hw1 : IntKind.i64.wrap (o.arg + o.n) = o.arg + o.n := IntWalk.i64_in _ (by omega)
      have hw2 : IntKind.i64.wrap (o.arg + o.n - 1) = o.arg + o.n - 1 := IntWalk.i64_in _ (by omega)
      have hw3 : 281474976710655 < o.arg + o.n - 1 := by omega
      go_enter Tryz.func56, Tryz.ntmps56
      go_upto_region 1 with fail
      generalize ((w.alloc (.cells #[.int .i64 p.tx, .int .i64 p.time, .int .i64 p.unit, .int .i64 p.data, .slice A n c] 24)).alloc (.cells #[.int .i64 o.kind, .int .i64 o.dev, .int .i64 o.arg, .int .i64 o.n] 48)).alloc (.cells #[.int .i64 0, .int .i64 0, .int .i64 0, .int .i64 0, .slice none 0 0] 24) = w3 at *
      have hk3 := Below.refl w3.heap.size w3
      obtain ⟨x0, x1, x2, x3, x4⟩ := (HAH.out w3 hk3).1.2.1.cells
      obtain ⟨y0, y1, y2, y3⟩ := (HAH.out w3 hk3).1.2.2.1.cells
      obtain ⟨z0, z1, z2, z3, z4⟩ := (HAH.out w3 hk3).1.2.2.2.1.cells
      have f0 := (HAH.out w3 hk3).1.2.2.2.1.free 0
      have f1 := (HAH.out w3 hk3).1.2.2.2.1.free 1
      have f2 := (HAH.out w3 hk3).1.2.2.2.1.free 2
      have f3 := (HAH.out w3 hk3).1.2.2.2.1.free 3
      have f4 := (HAH.out w3 hk3).1.2.2.2.1.free 4
      go_wp2_with (go_at_call 55; (have hx := HPL.out w3 (HAH.out w3 hk3).1.1.size (HAH.out w3 hk3).2.2.1; with_reducible refine hx.mono ?_; clear hx); rintro e w4 ⟨rfl, hk4⟩; clear x0 x1 x2 x3 x4 y0 y1 y2 y3 z0 z1 z2 z3 z4 f0 f1 f2 f3 f4; obtain ⟨x0, x1, x2, x3, x4⟩ := (HAH.out w4 hk4).1.2.1.cells; obtain ⟨y0, y1, y2, y3⟩ := (HAH.out w4 hk4).1.2.2.1.cells; obtain ⟨z0, z1, z2, z3, z4⟩ := (HAH.out w4 hk4).1.2.2.2.1.cells; have f0 := (HAH.out w4 hk4).1.2.2.2.1.free 0; have f1 := (HAH.out w4 hk4).1.2.2.2.1.free 1; have f2 := (HAH.out w4 hk4).1.2.2.2.1.free 2; have f3 := (HAH.out w4 hk4).1.2.2.2.1.free 3; have f4 := (HAH.out w4 hk4).1.2.2.2.1.free 4)
      obtain ⟨q0, q1, q2, q3, q4⟩ := cells5 (set5 (HAH.out w4 hk4).1.2.2.2.1 (.int .i64 p.tx) (.int .i64 p.time) (.int .i64 p.unit) (.int .i64 p.data) (.slice A n c))
      refine bodyPost_ret (v := .tuple #[.agg #[.int .i64 p.tx, .int .i64 p.time, .int .i64 p.unit, .int .i64 p.data, .slice A n c], .int .i64 2]) (by simp [results, Tryz.results56, go_sem, q0, q1, q2, q3, q4]) rfl ?_
      exact do_stop hl.out (HAH.out w4 hk4).1 (HAH.out w4 hk4).2.1 H3.out HR2.out.1 HR2.out.2 _ _ _ _ _
    all_goals
      go_enter Tryz.func56, Tryz.ntmps56
      go_upto_region 1 with fail
      generalize ((w.alloc (.cells #[.int .i64 p.tx, .int .i64 p.time, .int .i64 p.unit, .int .i64 p.data, .slice A n c] 24)).alloc (.cells #[.int .i64 o.kind, .int .i64 o.dev, .int .i64 o.arg, .int .i64 o.n] 48)).alloc (.cells #[.int .i64 0, .int .i64 0, .int .i64 0, .int .i64 0, .slice none 0 0] 24) = w3 at *
      have hk3 := Below.refl w3.heap.size w3
      obtain ⟨x0, x1, x2, x3, x4⟩ := (HAH.out w3 hk3).1.2.1.cells
      obtain ⟨y0, y1, y2, y3⟩ := (HAH.out w3 hk3).1.2.2.1.cells
      obtain ⟨z0, z1, z2, z3, z4⟩ := (HAH.out w3 hk3).1.2.2.2.1.cells
      have f0 := (HAH.out w3 hk3).1.2.2.2.1.free 0
      have f1 := (HAH.out w3 hk3).1.2.2.2.1.free 1
      have f2 := (HAH.out w3 hk3).1.2.2.2.1.free 2
      have f3 := (HAH.out w3 hk3).1.2.2.2.1.free 3
      have f4 := (HAH.out w3 hk3).1.2.2.2.1.free 4
      go_wp2_with (go_at_call 55; (have hx := HPL.out w3 (HAH.out w3 hk3).1.1.size (HAH.out w3 hk3).2.2.1; with_reducible refine hx.mono ?_; clear hx); rintro e w4 ⟨rfl, hk4⟩; clear x0 x1 x2 x3 x4 y0 y1 y2 y3 z0 z1 z2 z3 z4 f0 f1 f2 f3 f4; obtain ⟨x0, x1, x2, x3, x4⟩ := (HAH.out w4 hk4).1.2.1.cells; obtain ⟨y0, y1, y2, y3⟩ := (HAH.out w4 hk4).1.2.2.1.cells; obtain ⟨z0, z1, z2, z3, z4⟩ := (HAH.out w4 hk4).1.2.2.2.1.cells; have f0 := (HAH.out w4 hk4).1.2.2.2.1.free 0; have f1 := (HAH.out w4 hk4).1.2.2.2.1.free 1; have f2 := (HAH.out w4 hk4).1.2.2.2.1.free 2; have f3 := (HAH.out w4 hk4).1.2.2.2.1.free 3; have f4 := (HAH.out w4 hk4).1.2.2.2.1.free 4)
      obtain ⟨q0, q1, q2, q3, q4⟩ := cells5 (set5 (HAH.out w4 hk4).1.2.2.2.1 (.int .i64 p.tx) (.int .i64 p.time) (.int .i64 p.unit) (.int .i64 p.data) (.slice A n c))
      refine bodyPost_ret (v := .tuple #[.agg #[.int .i64 p.tx, .int .i64 p.time, .int .i64 p.unit, .int .i64 p.data, .slice A n c], .int .i64 2]) (by simp [results, Tryz.results56, go_sem, q0, q1, q2, q3, q4]) rfl ?_
      exact do_stop hl.out (HAH.out w4 hk4).1 (HAH.out w4 hk4).2.1 H3.out HR2.out.1 HR2.out.2 _ _ _ _ _
end Go.Proofs.YtcdfbpdejbpgjaaGreat

/- The reference's blocks at a Discard (scantlingref49). Condition: the pool may be, and lies in memory of the call's own. -/
namespace Go.Proofs.YtcdfbpdejbpgjaaGreat

open Go.RowKit
attribute [local go_sem] Oper.semAt_some
set_option linter.unusedSimpArgs false
set_option linter.unusedVariables false

theorem elMp9 : Elem Tryz.prog 34 40 3 24 Mp.enc := ⟨Tryz.underlying34, ⟨_, info_map, rfl⟩, by omega, by omega, Mp.enc_len, Mp.enc_one⟩
theorem filter_snoc9 {α : Type} (d : α) (p : α → Bool) (l : List α) (k : Nat) (hk : k < l.length) : (l.take (k + 1)).filter p = (l.take k).filter p ++ (if p (nth d l k) = true then [nth d l k] else []) := by
  rw [take_nth d l k hk, List.filter_append]
  congr 1
  by_cases h : p (nth d l k) = true <;> simp [h]
def DBox3 (w : World) (b : Nat) (y : Mp) : Prop := w.heap[b]? = some (.cells #[.int .i64 y.v, .int .i64 y.b, .int .i64 y.t] 40 (0, 0))
set_option maxRecDepth 100000 in
set_option maxHeartbeats 3200000 in
theorem rdiscard_any (w : World) (base c : Nat) (p : Pool) (A : Option Addr) (M : Nat → Value) (o : Mop) (h3 : OwnDevs w base (.slice A p.devs.length c) p.devs M) (hb : base ≤ w.heap.size) (hpc : poolChk p = 0) (hf : blkE p o = 0) (hkd : o.kind = 5) :
    Calls Tryz.prog 56 #[.agg #[.int .i64 p.tx, .int .i64 p.time, .int .i64 p.unit, .int .i64 p.data, .slice A p.devs.length c], mopV o] w (DoR w base (.slice A p.devs.length c) p.devs.length M (discardF p o)) := by
  have T := three_new w p A p.devs.length c o
  dsimp only [poolBox, op9Box, zeroBox] at T
  have HAH := Lib.hid (op_ahead h3 T)
  have hln := pool_len hpc
  obtain ⟨hbb, d1, d2, d3, d4, d5⟩ := blk_ok hf
  have hkl : dpos p o.dev < p.devs.length := (dpos_lt (fit_iff.1 hpc) hbb).1
  have hpl : placeI p o.dev = (dpos p o.dev : Int) := by unfold placeI; rw [if_pos hbb]
  have HPL := Lib.hid (fun w' (hz : w.heap.size ≤ w'.heap.size) (h : IsPool w' (Lt w.heap.size) (.agg #[.int .i64 p.tx, .int .i64 p.time, .int .i64 p.unit, .int .i64 p.data, .slice A p.devs.length c]) p) => rplace_any w' (Lt w.heap.size) _ p o.dev (fun b (hb : b < w.heap.size) => Nat.lt_of_lt_of_le hb hz) h (incK_devs hpc) (by omega))
  rw [hpl] at HPL
  have H3 := Lib.hid h3
  have hcr : discardF p o = (0, setMaps p (dpos p o.dev) ((mapsOf p (dpos p o.dev)).filter fun m => !inOp o m)) := by unfold discardF; rw [if_neg (by rw [hf]; simp)]
  rw [hcr]
  obtain ⟨g2, c2, hv, hbg2, hg2, hnc⟩ : ∃ g2 c2, (Value.slice A p.devs.length c) = .slice (some ⟨g2, 0, none⟩) p.devs.length c2 ∧ base ≤ g2 ∧ g2 < w.heap.size ∧ p.devs.length ≤ c2 := by
    obtain ⟨xs, r1, _⟩ := h3
    exact own_form r1 (by omega)
  injection hv with e1 e2 e3
  subst e1 e3
  clear e2
  obtain ⟨_, _, _, Am, cm, hMk, hcm⟩ := h3.cellM hkl
  have hml := maps_len hpc hkl
  have e0 : (nth dev0 p.devs (dpos p o.dev)).maps = mapsOf p (dpos p o.dev) := rfl
  rw [e0] at hMk hcm hml
  have HWM := Lib.hid (fun w' (h : OwnDevs w' base (.slice (some ⟨g2, 0, none⟩) p.devs.length c) p.devs M) => wr_maps h hkl hMk)
  have HFR := Lib.hid (fun w' (h : OwnDevs w' base (.slice (some ⟨g2, 0, none⟩) p.devs.length c) p.devs M) => (h.cellM hkl).2.2.1)
  have HMK := Lib.hid hMk
  have HKL := Lib.hid hkl
  have hkb : (o.kind == 5) = true := by simp [hkd]
  clear h3 hpc hf hcr hbb hpl hMk hkd e0
  generalize hkk : dpos p o.dev = k at *
  clear hkk
  obtain ⟨l, hll⟩ : ∃ l, mapsOf p k = l := ⟨_, rfl⟩
  rw [hll] at HWM hml hcm HMK ⊢
  have HLL := Lib.hid hll
  clear hll
  have HFS := Lib.hid (filter_snoc9 mp0 (fun m => !inOp o m) l)
  have hfl : ∀ j, ((l.take j).filter fun m => !inOp o m).length ≤ j := fun j => Nat.le_trans (List.length_filter_le _ _) (by rw [List.length_take]; omega)
  obtain ⟨R, hR⟩ : ∃ R : Nat → List Mp, R = fun j => (l.take j).filter fun m => !inOp o m := ⟨_, rfl⟩
  have HRL := Lib.hid (show (l.filter fun m => !inOp o m) = R l.length by rw [hR]; simp only [List.take_length])
  have HFL := Lib.hid (show ∀ j, (R j).length ≤ j by rw [hR]; exact hfl)
  have HR0 := Lib.hid (show R 0 = [] by rw [hR]; rfl)
  have HRK := Lib.hid (show ∀ j, j < l.length → R (j + 1) = R j ++ (if (!inOp o (nth mp0 l j)) = true then [nth mp0 l j] else []) by rw [hR]; exact HFS.out)
  clear hR hfl HFS
  rw [HRL.out]
  clear HRL
  generalize hLn : l.length = L at *
  have HLn := Lib.hid hLn
  clear hLn
  generalize hl0 : p.devs.length = n at *
  have hl := Lib.hid hl0
  clear hl0
  have hkn : (k : Int) < (n : Int) := by omega
  have hp0 : ¬ ((k : Int) < 0) := by omega
  have e1 : ¬ (o.n < 1) := by omega
  have e2 : ¬ (16384 < o.n) := by omega
  have e3 : ¬ (o.arg < 0) := by omega
  have e4 : ¬ (281474976710655 < o.arg) := by omega
  have hw1 : IntKind.i64.wrap (o.arg + o.n) = o.arg + o.n := IntWalk.i64_in _ (by omega)
  have hw2 : IntKind.i64.wrap (o.arg + o.n - 1) = o.arg + o.n - 1 := IntWalk.i64_in _ (by omega)
  have e5 : ¬ (281474976710655 < o.arg + o.n - 1) := by omega
  go_enter Tryz.func56, Tryz.ntmps56
  go_upto_region 1 with fail
  generalize ((w.alloc (.cells #[.int .i64 p.tx, .int .i64 p.time, .int .i64 p.unit, .int .i64 p.data, .slice (some ⟨g2, 0, none⟩) n c] 24)).alloc (.cells #[.int .i64 o.kind, .int .i64 o.dev, .int .i64 o.arg, .int .i64 o.n] 48)).alloc (.cells #[.int .i64 0, .int .i64 0, .int .i64 0, .int .i64 0, .slice none 0 0] 24) = w3 at *
  have hk3 := Below.refl w3.heap.size w3
  obtain ⟨x0, x1, x2, x3, x4⟩ := (HAH.out w3 hk3).1.2.1.cells
  obtain ⟨y0, y1, y2, y3⟩ := (HAH.out w3 hk3).1.2.2.1.cells
  obtain ⟨z0, z1, z2, z3, z4⟩ := (HAH.out w3 hk3).1.2.2.2.1.cells
  have f0 := (HAH.out w3 hk3).1.2.2.2.1.free 0
  have f1 := (HAH.out w3 hk3).1.2.2.2.1.free 1
  have f2 := (HAH.out w3 hk3).1.2.2.2.1.free 2
  have f3 := (HAH.out w3 hk3).1.2.2.2.1.free 3
  have f4 := (HAH.out w3 hk3).1.2.2.2.1.free 4
  go_wp2_with (go_at_call 55; (have hx := HPL.out w3 (HAH.out w3 hk3).1.1.size (HAH.out w3 hk3).2.2.1; with_reducible refine hx.mono ?_; clear hx); rintro e w4 ⟨rfl, hk4⟩; clear x0 x1 x2 x3 x4 y0 y1 y2 y3 z0 z1 z2 z3 z4 f0 f1 f2 f3 f4; obtain ⟨x0, x1, x2, x3, x4⟩ := (HAH.out w4 hk4).1.2.1.cells; obtain ⟨y0, y1, y2, y3⟩ := (HAH.out w4 hk4).1.2.2.1.cells; obtain ⟨z0, z1, z2, z3, z4⟩ := (HAH.out w4 hk4).1.2.2.2.1.cells; have f0 := (HAH.out w4 hk4).1.2.2.2.1.free 0; have f1 := (HAH.out w4 hk4).1.2.2.2.1.free 1; have f2 := (HAH.out w4 hk4).1.2.2.2.1.free 2; have f3 := (HAH.out w4 hk4).1.2.2.2.1.free 3; have f4 := (HAH.out w4 hk4).1.2.2.2.1.free 4)
  have hz4 := (HAH.out w4 hk4).1.2.2.2.2
  clear x0 x1 x2 x3 x4 y0 y1 y2 y3 z0 z1 z2 z3 z4 f0 f1 f2 f3 f4
  go_loopw [7, 8] (fun l7 i wr => ∃ j : Nat, i = .int .i64 j ∧ j ≤ L ∧ wr.ownsRow w4.heap.size 40 3 l7 (R j).length (flats Mp.enc (R j)) ∧ Below w4.heap.size w4 wr) (fun _ i _ => L - (intOf i).toNat)
  case atStart => exact ⟨0, rfl, by omega, by rw [HR0.out]; exact World.ownsRow_nil _ _ _ _, Below.refl _ _⟩
  case round =>
    obtain ⟨j, rfl, hj, hrow, hB⟩ := hrel
    have hkr := hk4.trans (hB.mono hk4.size)
    have hz := hB.size
    have hpz := (HAH.out wr hkr).1.2.2.2.2
    have hq0 : w.heap.size < wr.heap.size := by omega
    have hq1 : w.heap.size + 1 < wr.heap.size := by omega
    obtain ⟨Ao, co, rfl, _⟩ := own_form0 hrow
    obtain ⟨x0, x1, x2, x3, x4⟩ := (HAH.out wr hkr).1.2.1.cells
    obtain ⟨y0, y1, y2, y3⟩ := (HAH.out wr hkr).1.2.2.1.cells
    obtain ⟨m0, _, hIM⟩ := HWM.out wr (HAH.out wr hkr).2.1
    by_cases hlt : j < L
    · obtain ⟨gm, om, rfl, hgm, hcl⟩ := maps_cells (IsSl.slice_ hIM).2.2 (by rw [HLn.out]; omega)
      obtain ⟨c0, c1, c2⟩ := hcl j (by rw [HLn.out]; exact hlt)
      have hgz := hgm.2
      have hrk := HRK.out j hlt
      have hfl := HFL.out j
      have hji : (j : Int) < (L : Int) := by omega
      clear hcl hIM
      generalize nth mp0 l j = y at *
      have hxw : DBox3 (wr.alloc (.cells #[.int .i64 y.v, .int .i64 y.b, .int .i64 y.t] 40)) wr.heap.size y := heap_alloc_new wr _
      by_cases hin : inOp o y = true
      · have HRK1 := Lib.hid (show R (j + 1) = R j by rw [hrk]; simp [hin])
        have hi2 : ¬ y.v < o.arg ∧ ¬ o.arg + o.n ≤ y.v := by unfold inOp at hin; simp only [Bool.and_eq_true, decide_eq_true_eq] at hin; omega
        obtain ⟨hi2, hi3⟩ := hi2
        clear hin hrk
        generalize hrl : (R j).length = rl at *
        go_wp2_with fail
        go_roundw
        case rel => exact ⟨j + 1, by go_num, by omega, by rw [HRK1.out, hrl]; exact hrow.alloc _, hB.alloc hz _⟩
        case measure => simp [intOf]; omega
      · have HRK1 := Lib.hid (show R (j + 1) = R j ++ [y] by rw [hrk]; simp [hin])
        have hi2 : y.v < o.arg ∨ (¬ y.v < o.arg ∧ o.arg + o.n ≤ y.v) := by unfold inOp at hin; simp only [Bool.and_eq_true, decide_eq_true_eq] at hin; omega
        clear hin hrk
        generalize hrl : (R j).length = rl at *
        have HRLL := Lib.hid hrl
        clear hrl
        have hrow' := hrow
        rcases hi2 with hi2 | ⟨hi2, hi3⟩
        all_goals
          go_wp2_with (at_builtin; go_loud (refine wpList_append_one elMp9 rfl _ _ rfl w4.heap.size (.slice Ao rl co) rl (R j) y rfl (hrow.alloc _) (by rw [World.size_alloc]; rfl) (by omega) (by simp; omega) ?_); intro A6 cap6 w6 hown hg)
          go_roundw
          case rel => exact ⟨j + 1, by go_num, by omega, by rw [HRK1.out, List.length_append, HRLL.out]; exact hown, (hB.alloc hz _).grown hg (by simp; omega) (fun i hi => (hrow'.lt i hi).1)⟩
          case measure => simp [intOf]; omega
    · obtain rfl : j = L := by omega
      have hmw := HFR.out wr (HAH.out wr hkr).2.1
      have HOWN := Lib.hid hrow
      have HPN := Lib.hid (fun W u => rput_new (p := p) (M := M) (A9 := Ao) (c9 := co) (w5 := w4) (w9 := wr) (W := W) (u := u) (m := R j) hl.out (HAH.out w4 hk4).1.1 H3.out (HAH.out w4 hk4).2.1 HKL.out hb)
      have hlo := fun x hx => (hrow.lt x hx).1
      have HLO := Lib.hid hlo
      clear hrow hIM hlo
      go_upto_region 15 with fail
      obtain ⟨W, hW⟩ : ∃ x, wr.setCell ⟨g2, k * 5 + 4, none⟩ (.slice Ao (R j).length co) = x := ⟨_, rfl⟩
      obtain ⟨t1, t2, t3, t4⟩ := HPN.out W _ rfl hB HLO.out (own_low HOWN.out (by omega)) hW
      rw [hW]
      have b0 : PBox W w.heap.size p (some ⟨g2, 0, none⟩) n c := (t3 _ (by omega) (by omega)).trans (HAH.out w4 hk4).1.2.1
      have b2 : RBox W (w.heap.size + 1 + 1) (.int .i64 0) (.int .i64 0) (.int .i64 0) (.int .i64 0) (.slice none 0 0) := (t3 _ (by omega) (by omega)).trans (HAH.out w4 hk4).1.2.2.2.1
      have HT1 := Lib.hid t1
      have HT4 := Lib.hid t4
      clear t1 t3 t4 hW x0 x1 x2 x3 x4 y0 y1 y2 y3 m0 hmw
      obtain ⟨x0, x1, x2, x3, x4⟩ := b0.cells
      obtain ⟨z0, z1, z2, z3, z4⟩ := b2.cells
      have f0 := b2.free 0
      have f1 := b2.free 1
      have f2 := b2.free 2
      have f3 := b2.free 3
      have f4 := b2.free 4
      go_wp2_with fail
      obtain ⟨q0, q1, q2, q3, q4⟩ := cells5 (set5 b2 (.int .i64 p.tx) (.int .i64 p.time) (.int .i64 p.unit) (.int .i64 p.data) (.slice (some ⟨g2, 0, none⟩) n c))
      refine bodyPost_ret (v := .tuple #[.agg #[.int .i64 p.tx, .int .i64 p.time, .int .i64 p.unit, .int .i64 p.data, .slice (some ⟨g2, 0, none⟩) n c], .int .i64 0]) (by simp [results, Tryz.results56, go_sem, q0, q1, q2, q3, q4]) rfl ?_
      refine do_ret (q := setMaps p k (R j)) HT1.out (by rw [len_setMaps]; exact hl.out) t2 (by omega) (fun h => ?_) (fun _ => rfl) (fun x hx => (HT4.out x hx).imp id (fun h => by omega)) rfl _ _ _ _ _
      rcases HT4.out _ h with h | h
      · have := own1_lt H3.out hl.out _ h; omega
      · omega
end Go.Proofs.YtcdfbpdejbpgjaaGreat

/- The reference's blocks at a Write (scantlingref49). Condition: the pool may be, and lies in memory of the call's own. -/
namespace Go.Proofs.YtcdfbpdejbpgjaaGreat

open Go.RowKit
attribute [local go_sem] Oper.semAt_some
set_option linter.unusedSimpArgs false
set_option linter.unusedVariables false

/-- What an op of the reference leaves, where it fails: any pool. -/
def DoR2 (w : World) (base : Nat) (v : Value) (n : Nat) (M : Nat → Value) (r : Int × Pool) (e : Ending) (w' : World) : Prop :=
  ∃ A c M' q, e = .returned (.tuple #[.agg #[.int .i64 q.tx, .int .i64 q.time, .int .i64 q.unit, .int .i64 q.data, .slice A q.devs.length c], .int .i64 r.1]) ∧ (r.1 = 0 → q = r.2 ∧ OwnDevs w' base (.slice A q.devs.length c) q.devs M' ∧ ∀ x, Own1 (.slice A q.devs.length c) q.devs.length M' x → Own1 v n M x ∨ w.heap.size ≤ x) ∧ Touch (Own1 v n M) w w'
theorem DoR.weak {w : World} {base : Nat} {v : Value} {n : Nat} {M : Nat → Value} {r : Int × Pool} {e : Ending} {w' : World} (h : DoR w base v n M r e w') : DoR2 w base v n M r e w' := by
  obtain ⟨A, c, M', q, h1, h2, h3, h4, h5⟩ := h
  exact ⟨A, c, M', q, h1, fun hr => ⟨h3 hr, h2, h5⟩, h4⟩
theorem touch_more {R R' : Nat → Prop} {w wr w5 : World} (h : Touch R w wr) (k : Touch R' wr w5) (hr : ∀ x, R' x → R x ∨ w.heap.size ≤ x) : Touch R w w5 :=
  ⟨k.1.trans h.1, k.2.1.trans h.2.1, k.2.2.1.trans h.2.2.1, Nat.le_trans h.size k.size, fun x hx hn => (k.block (by have := h.size; omega) (fun e => (hr x e).elim hn (fun h => by omega))).trans (h.block hx hn)⟩
/-- While blocks writes: the pool in its box is the caller's own. -/
structure BSt (w wr : World) (base n : Nat) (v0 : Value) (M0 : Nat → Value) (p : Pool) (A : Option Addr) (c : Nat) (M : Nat → Value) (o : Mop) : Prop where
  pb : PBox wr w.heap.size p A n c
  ob : OBox wr (w.heap.size + 1) o
  rb : RBox wr (w.heap.size + 1 + 1) (.int .i64 0) (.int .i64 0) (.int .i64 0) (.int .i64 0) (.slice none 0 0)
  hz : w.heap.size + 3 ≤ wr.heap.size
  od : OwnDevs wr base (.slice A n c) p.devs M
  tc : Touch (Own1 v0 n M0) w wr
  ow : ∀ x, Own1 (.slice A n c) n M x → Own1 v0 n M0 x ∨ w.heap.size + 3 ≤ x
  hn : p.devs.length = n
  lo : ∀ x, Own1 v0 n M0 x → x < w.heap.size
theorem BSt.far {w wr : World} {base n c : Nat} {v0 : Value} {M0 M : Nat → Value} {p : Pool} {A : Option Addr} {o : Mop} (h : BSt w wr base n v0 M0 p A c M o) {b : Nat} (h1 : w.heap.size ≤ b) (h2 : b < w.heap.size + 3) : ¬ Own1 (.slice A n c) n M b := fun e => by
  rcases h.ow b e with e | e
  · have := h.lo b e; omega
  · omega
theorem BSt.below {w wr w' : World} {base n c : Nat} {v0 : Value} {M0 M : Nat → Value} {p : Pool} {A : Option Addr} {o : Mop} (h : BSt w wr base n v0 M0 p A c M o) (hB : Below wr.heap.size wr w') : BSt w w' base n v0 M0 p A c M o :=
  { pb := box_up h.pb hB, ob := box_up h.ob hB, rb := box_up h.rb hB, hz := Nat.le_trans h.hz hB.size, od := h.od.keep hB (Nat.le_refl _), tc := h.tc.trans (Touch.of_below hB), ow := h.ow, hn := h.hn, lo := h.lo }
/-- Behind a write that went well. -/
theorem BSt.next {w wr w5 : World} {base n m c c5 : Nat} {v0 : Value} {M0 M M5 : Nat → Value} {p q : Pool} {A A5 : Option Addr} {o : Mop} (h : BSt w wr base n v0 M0 p A c M o) (hm : q.devs.length = m) (hmn : m = n) (h5 : OwnDevs w5 base (.slice A5 m c5) q.devs M5) (ht : Touch (Own1 (.slice A n c) n M) wr w5)
    (ho : ∀ x, Own1 (.slice A5 m c5) m M5 x → Own1 (.slice A n c) n M x ∨ wr.heap.size ≤ x) (ob : Obj) (W : World)
    (hW : ((((((w5.setCell ⟨w.heap.size, 0, none⟩ (.int .i64 q.tx)).setCell ⟨w.heap.size, 1, none⟩ (.int .i64 q.time)).setCell ⟨w.heap.size, 2, none⟩ (.int .i64 q.unit)).setCell ⟨w.heap.size, 3, none⟩ (.int .i64 q.data)).setCell ⟨w.heap.size, 4, none⟩ (.slice A5 m c5)).alloc ob) = W) :
    BSt w W base n v0 M0 q A5 c5 M5 o := by
  subst hmn
  have hz := h.hz
  have hz5 := ht.size
  have hbox : ∀ {b : Nat} {x : Obj}, wr.heap[b]? = some x → w.heap.size ≤ b → b < w.heap.size + 3 → w5.heap[b]? = some x := fun {b x} hx h1 h2 => (ht.block (box_lt hx) (h.far h1 h2)).trans hx
  have how : ∀ x, Own1 (.slice A5 m c5) m M5 x → Own1 v0 m M0 x ∨ w.heap.size + 3 ≤ x := fun x hx => by
    rcases ho x hx with e | e
    · exact h.ow x e
    · exact .inr (by omega)
  have hfar : Far (.slice A5 m c5) q.devs M5 w.heap.size := far_own1 hm (fun e => by
    rcases how _ e with e | e
    · have := h.lo _ e; omega
    · omega)
  obtain ⟨w6, hw6⟩ : ∃ x, (((((w5.setCell ⟨w.heap.size, 0, none⟩ (.int .i64 q.tx)).setCell ⟨w.heap.size, 1, none⟩ (.int .i64 q.time)).setCell ⟨w.heap.size, 2, none⟩ (.int .i64 q.unit)).setCell ⟨w.heap.size, 3, none⟩ (.int .i64 q.data)).setCell ⟨w.heap.size, 4, none⟩ (.slice A5 m c5)) = x := ⟨_, rfl⟩
  have hs : BSt w w6 base m v0 M0 q A5 c5 M5 o := by
    rw [← hw6]
    exact
      { pb := set5 (hbox h.pb (Nat.le_refl _) (by omega)) _ _ _ _ _
        ob := (size5_blk _ _ _ (by omega) _ _ _ _ _).trans (hbox h.ob (by omega) (by omega))
        rb := (size5_blk _ _ _ (by omega) _ _ _ _ _).trans (hbox h.rb (by omega) (by omega))
        hz := by rw [size5]; omega
        od := kept5 h5 hfar _ _ _ _ _
        tc := touch5 (touch_more h.tc ht (fun x hx => (h.ow x hx).imp id (fun h => by omega))) (Nat.le_refl _) _ _ _ _ _
        ow := how
        hn := hm
        lo := h.lo }
  rw [hw6] at hW
  rw [← hW]
  exact hs.below ((Below.refl _ _).alloc (Nat.le_refl _) ob)
/-- The end of blocks at a Write. -/
theorem BSt.ret {w wr : World} {base n c : Nat} {v0 : Value} {M0 M : Nat → Value} {p : Pool} {A : Option Addr} {o : Mop} {r : Int × Pool} (_hrb : w.heap.size + 3 ≤ wr.heap.size) (tc : Touch (Own1 v0 n M0) w wr) (hn : p.devs.length = n) {cd : Int} (hcd : cd = r.1) (hr : r.1 = 0 → p = r.2 ∧ BSt w wr base n v0 M0 p A c M o) (u0 u1 u2 u3 u4 : Value) :
    DoR2 w base v0 n M0 r (.returned (.tuple #[.agg #[.int .i64 p.tx, .int .i64 p.time, .int .i64 p.unit, .int .i64 p.data, .slice A n c], .int .i64 cd])) (((((wr.setCell ⟨w.heap.size + 1 + 1, 0, none⟩ u0).setCell ⟨w.heap.size + 1 + 1, 1, none⟩ u1).setCell ⟨w.heap.size + 1 + 1, 2, none⟩ u2).setCell ⟨w.heap.size + 1 + 1, 3, none⟩ u3).setCell ⟨w.heap.size + 1 + 1, 4, none⟩ u4) := by
  subst hn hcd
  refine ⟨A, c, M, p, rfl, fun h0 => ?_, touch5 tc (by omega) _ _ _ _ _⟩
  obtain ⟨h1, h2⟩ := hr h0
  exact ⟨h1, kept5 h2.od (far_own1 rfl (h2.far (by omega) (by omega))) _ _ _ _ _, fun x hx => (h2.ow x hx).imp id (fun h => by omega)⟩
theorem setMaps_lenN (p : Pool) (k : Nat) (v : Int) : (wr1 p k v).2.devs.length = p.devs.length := by
  unfold wr1
  split
  · rfl
  · split
    · rfl
    · split
      · rfl
      · split
        · exact len_setMaps _ _ _
        · exact len_setMaps _ _ _
set_option maxRecDepth 100000 in
set_option maxHeartbeats 3200000 in
theorem rwrites_any (w : World) (base c : Nat) (p : Pool) (A : Option Addr) (M : Nat → Value) (o : Mop) (h3 : OwnDevs w base (.slice A p.devs.length c) p.devs M) (hb : base ≤ w.heap.size) (hpc : poolChk p = 0) (hf : blkE p o = 0) (hkd : o.kind = 4) :
    Calls Tryz.prog 56 #[.agg #[.int .i64 p.tx, .int .i64 p.time, .int .i64 p.unit, .int .i64 p.data, .slice A p.devs.length c], mopV o] w (DoR2 w base (.slice A p.devs.length c) p.devs.length M (writeF p o)) := by
  have T := three_new w p A p.devs.length c o
  dsimp only [poolBox, op9Box, zeroBox] at T
  have HAH := Lib.hid (op_ahead h3 T)
  have hln := pool_len hpc
  obtain ⟨hbb, d1, d2, d3, d4, d5⟩ := blk_ok hf
  have hkl : dpos p o.dev < p.devs.length := (dpos_lt (fit_iff.1 hpc) hbb).1
  have hpl : placeI p o.dev = (dpos p o.dev : Int) := by unfold placeI; rw [if_pos hbb]
  have HPL := Lib.hid (fun w' (hz : w.heap.size ≤ w'.heap.size) (h : IsPool w' (Lt w.heap.size) (.agg #[.int .i64 p.tx, .int .i64 p.time, .int .i64 p.unit, .int .i64 p.data, .slice A p.devs.length c]) p) => rplace_any w' (Lt w.heap.size) _ p o.dev (fun b (hb : b < w.heap.size) => Nat.lt_of_lt_of_le hb hz) h (incK_devs hpc) (by omega))
  rw [hpl] at HPL
  have H3 := Lib.hid h3
  have hcr : writeF p o = wrN p (dpos p o.dev) o.arg o.n.toNat := by unfold writeF; rw [if_neg (by rw [hf]; simp)]
  rw [hcr]
  have HKL := Lib.hid hkl
  have HPC := Lib.hid hpc
  have hkb : (o.kind == 5) = false := by simp [hkd]
  clear h3 hpc hf hcr hbb hpl hkd
  generalize hkk : dpos p o.dev = k at *
  clear hkk
  generalize hl0 : p.devs.length = n at *
  have hl := Lib.hid hl0
  clear hl0
  obtain ⟨N, hN⟩ := Int.eq_ofNat_of_zero_le (show 0 ≤ o.n by omega)
  have HNN := Lib.hid hN
  have hN2 : N ≤ 16384 := by omega
  have hNt : o.n.toNat = N := by rw [hN]; rfl
  rw [hNt]
  clear hN hNt
  have hkn : (k : Int) < (n : Int) := by omega
  have hp0 : ¬ ((k : Int) < 0) := by omega
  have e1 : ¬ (o.n < 1) := by omega
  have e2 : ¬ (16384 < o.n) := by omega
  have e3 : ¬ (o.arg < 0) := by omega
  have e4 : ¬ (281474976710655 < o.arg) := by omega
  have hw1 : IntKind.i64.wrap (o.arg + o.n) = o.arg + o.n := IntWalk.i64_in _ (by omega)
  have hw2 : IntKind.i64.wrap (o.arg + o.n - 1) = o.arg + o.n - 1 := IntWalk.i64_in _ (by omega)
  have e5 : ¬ (281474976710655 < o.arg + o.n - 1) := by omega
  generalize hrr : wrN p k o.arg N = r
  have HRR := Lib.hid hrr
  clear hrr
  go_enter Tryz.func56, Tryz.ntmps56
  go_upto_region 1 with fail
  generalize ((w.alloc (.cells #[.int .i64 p.tx, .int .i64 p.time, .int .i64 p.unit, .int .i64 p.data, .slice A n c] 24)).alloc (.cells #[.int .i64 o.kind, .int .i64 o.dev, .int .i64 o.arg, .int .i64 o.n] 48)).alloc (.cells #[.int .i64 0, .int .i64 0, .int .i64 0, .int .i64 0, .slice none 0 0] 24) = w3 at *
  have hk3 := Below.refl w3.heap.size w3
  obtain ⟨x0, x1, x2, x3, x4⟩ := (HAH.out w3 hk3).1.2.1.cells
  obtain ⟨y0, y1, y2, y3⟩ := (HAH.out w3 hk3).1.2.2.1.cells
  obtain ⟨z0, z1, z2, z3, z4⟩ := (HAH.out w3 hk3).1.2.2.2.1.cells
  have f0 := (HAH.out w3 hk3).1.2.2.2.1.free 0
  have f1 := (HAH.out w3 hk3).1.2.2.2.1.free 1
  have f2 := (HAH.out w3 hk3).1.2.2.2.1.free 2
  have f3 := (HAH.out w3 hk3).1.2.2.2.1.free 3
  have f4 := (HAH.out w3 hk3).1.2.2.2.1.free 4
  go_wp2_with (go_at_call 55; (have hx := HPL.out w3 (HAH.out w3 hk3).1.1.size (HAH.out w3 hk3).2.2.1; with_reducible refine hx.mono ?_; clear hx); rintro e w4 ⟨rfl, hk4⟩; clear x0 x1 x2 x3 x4 y0 y1 y2 y3 z0 z1 z2 z3 z4 f0 f1 f2 f3 f4; obtain ⟨x0, x1, x2, x3, x4⟩ := (HAH.out w4 hk4).1.2.1.cells; obtain ⟨y0, y1, y2, y3⟩ := (HAH.out w4 hk4).1.2.2.1.cells; obtain ⟨z0, z1, z2, z3, z4⟩ := (HAH.out w4 hk4).1.2.2.2.1.cells; have f0 := (HAH.out w4 hk4).1.2.2.2.1.free 0; have f1 := (HAH.out w4 hk4).1.2.2.2.1.free 1; have f2 := (HAH.out w4 hk4).1.2.2.2.1.free 2; have f3 := (HAH.out w4 hk4).1.2.2.2.1.free 3; have f4 := (HAH.out w4 hk4).1.2.2.2.1.free 4)
  have hz4 := (HAH.out w4 hk4).1.2.2.2.2
  have hbs : BSt w w4 base n (.slice A n c) M p A c M o := ⟨(HAH.out w4 hk4).1.2.1, (HAH.out w4 hk4).1.2.2.1, (HAH.out w4 hk4).1.2.2.2.1, hz4, (HAH.out w4 hk4).2.1, Touch.of_below (HAH.out w4 hk4).1.1, fun x hx => .inl hx, hl.out, fun x hx => (own1_lt H3.out hl.out x hx).2⟩
  have HBS := Lib.hid hbs
  clear x0 x1 x2 x3 x4 y0 y1 y2 y3 z0 z1 z2 z3 z4 f0 f1 f2 f3 f4 hbs
  go_loopw [10] (fun i wr => ∃ j : Nat, i = .int .i64 j ∧ j ≤ N ∧ ∃ q A' c' M', BSt w wr base n (.slice A n c) M q A' c' M' o ∧ poolChk q = 0 ∧ wrN q k (o.arg + j) (N - j) = r) (fun i _ => N - (intOf i).toNat)
  case atStart => exact ⟨0, rfl, by omega, p, A, c, M, HBS.out, HPC.out, by rw [← HRR.out]; simp⟩
  case round =>
    obtain ⟨j, rfl, hj, q, A', c', M', hb', hqc, hwr⟩ := hrel
    have HB := Lib.hid hb'
    have HQC := Lib.hid hqc
    have HWR := Lib.hid hwr
    obtain ⟨x0, x1, x2, x3, x4⟩ := hb'.pb.cells
    obtain ⟨y0, y1, y2, y3⟩ := hb'.ob.cells
    have hwz := hb'.hz
    clear hb' hqc hwr
    rw [HNN.out] at y3
    by_cases hlt : j < N
    · have hji : (j : Int) < (N : Int) := by omega
      have hwj : IntKind.i64.wrap (o.arg + (j : Int)) = o.arg + (j : Int) := IntWalk.i64_in _ (by omega)
      have hln2 := HB.out.hn
      have hcall := rwrite_any wr base c' q A' M' k (o.arg + (j : Int)) (by rw [hln2]; exact HB.out.od) (by omega) HQC.out (by rw [hln2]; exact HKL.out)
      rw [hln2] at hcall
      have HCALL := Lib.hid hcall
      clear hcall hln2
      by_cases he : (wr1 q k (o.arg + (j : Int))).1 = 0
      · have HE := Lib.hid he
        have HNX := Lib.hid (show wrN (wr1 q k (o.arg + (j : Int))).2 k (o.arg + ((j + 1 : Nat) : Int)) (N - (j + 1)) = r by
          rw [← HWR.out, show N - j = (N - (j + 1)) + 1 by omega, wrN_next he]
          congr 1
          push_cast
          omega)
        have HFT := Lib.hid (fit_iff.2 (wr1_fit (fit_iff.1 HQC.out) (by rw [HB.out.hn]; exact HKL.out) (by have := HNN.out; omega) he).1)
        have HLN := Lib.hid ((setMaps_lenN q k (o.arg + (j : Int))).trans HB.out.hn)
        clear he
        unfold DoR at HCALL
        rw [HE.out] at HCALL
        go_wp2_with (go_at_call 81; refine HCALL.out.mono ?_; rintro e w5 ⟨A5, c5, M5, q5, rfl, h5, hq5, ht5, ho5⟩; have hq6 := hq5 rfl; clear hq5; have H5 := Lib.hid h5; have HT5 := Lib.hid ht5; have HO5 := Lib.hid ho5; have HQ6 := Lib.hid hq6; have hpb5 := (ht5.block HB.out.pb.lt (HB.out.far (Nat.le_refl _) (by omega))).trans HB.out.pb; clear x0 x1 x2 x3 x4 y0 y1 y2 y3; obtain ⟨x0, x1, x2, x3, x4⟩ := cells5 hpb5; have f0 := free_of hpb5 0; have f1 := free_of hpb5 1; have f2 := free_of hpb5 2; have f3 := free_of hpb5 3; have f4 := free_of hpb5 4; have hlt5 := box_lt hpb5; clear h5 ht5 ho5 hq6)
        refine ⟨⟨j + 1, rfl, by omega, q5, A5, c5, M5, ?_, ?_, ?_⟩, by simp [intOf]; omega⟩
        · exact HB.out.next rfl (by rw [HQ6.out]; exact HLN.out) H5.out HT5.out HO5.out _ _ rfl
        · rw [HQ6.out]; exact HFT.out
        · rw [HQ6.out]; exact HNX.out
      · have HE := Lib.hid he
        have HST := Lib.hid (show r = wr1 q k (o.arg + (j : Int)) by rw [← HWR.out, show N - j = (N - (j + 1)) + 1 by omega, wrN_stop he])
        unfold DoR at HCALL
        rw [← HST.out] at HCALL
        have hrn : r.1 ≠ 0 := by rw [HST.out]; exact he
        have hrb : (r.1 != 0) = true := by simpa using hrn
        clear he
        have HRN := Lib.hid hrn
        clear hrn
        generalize hr1 : r.1 = r1 at *
        have HR1 := Lib.hid hr1
        clear hr1
        go_wp2_with (go_at_call 81; refine HCALL.out.mono ?_; rintro e w5 ⟨A5, c5, M5, q5, rfl, h5, hq5, ht5, ho5⟩; have HT5 := Lib.hid ht5; have hpb5 := (ht5.block HB.out.pb.lt (HB.out.far (Nat.le_refl _) (by omega))).trans HB.out.pb; have hrb5 := (ht5.block (box_lt HB.out.rb) (HB.out.far (by omega) (by omega))).trans HB.out.rb; have hz5 := ht5.size; clear x0 x1 x2 x3 x4 y0 y1 y2 y3; obtain ⟨x0, x1, x2, x3, x4⟩ := cells5 hpb5; obtain ⟨z0, z1, z2, z3, z4⟩ := cells5 hrb5; have f0 := free_of hrb5 0; have f1 := free_of hrb5 1; have f2 := free_of hrb5 2; have f3 := free_of hrb5 3; have f4 := free_of hrb5 4; have hlt5 := box_lt hpb5; have hlr5 := box_lt hrb5; clear h5 hq5 ht5 ho5)
        obtain ⟨w6, hw6⟩ : ∃ x, (((((w5.setCell ⟨w.heap.size + 1 + 1, 0, none⟩ (.int .i64 q.tx)).setCell ⟨w.heap.size + 1 + 1, 1, none⟩ (.int .i64 q.time)).setCell ⟨w.heap.size + 1 + 1, 2, none⟩ (.int .i64 q.unit)).setCell ⟨w.heap.size + 1 + 1, 3, none⟩ (.int .i64 q.data)).setCell ⟨w.heap.size + 1 + 1, 4, none⟩ (.slice A' n c')) = x := ⟨_, rfl⟩
        have hb6 := set5 hrb5 (.int .i64 q.tx) (.int .i64 q.time) (.int .i64 q.unit) (.int .i64 q.data) (.slice A' n c')
        have ht6 := touch5 (touch_more HB.out.tc HT5.out (fun x hx => (HB.out.ow x hx).imp id (fun h => Nat.le_trans (Nat.le_add_right _ 3) h))) (b := w.heap.size + 1 + 1) (by omega) (.int .i64 q.tx) (.int .i64 q.time) (.int .i64 q.unit) (.int .i64 q.data) (.slice A' n c')
        rw [hw6] at hb6 ht6 ⊢
        clear hw6
        have hal := (Below.refl w6.heap.size w6).alloc (Nat.le_refl _) (.cells #[.int .i64 q5.tx, .int .i64 q5.time, .int .i64 q5.unit, .int .i64 q5.data, .slice A5 q5.devs.length c5] 24)
        obtain ⟨q0, q1, q2, q3, q4⟩ := cells5 (box_up hb6 hal)
        refine bodyPost_ret (v := .tuple #[.agg #[.int .i64 q.tx, .int .i64 q.time, .int .i64 q.unit, .int .i64 q.data, .slice A' n c'], .int .i64 r1]) (by simp [results, Tryz.results56, go_sem, q0, q1, q2, q3, q4]) rfl ?_
        refine ⟨A', c', M', q, by rw [HB.out.hn, HR1.out], fun h => absurd h (by rw [HR1.out]; exact HRN.out), ht6.trans (Touch.of_below hal)⟩
    · obtain rfl : j = N := by omega
      have hr0 : r = (0, q) := by rw [← HWR.out, Nat.sub_self]; rfl
      have HR0 := Lib.hid hr0
      clear hr0
      obtain ⟨z0, z1, z2, z3, z4⟩ := HB.out.rb.cells
      have f0 := HB.out.rb.free 0
      have f1 := HB.out.rb.free 1
      have f2 := HB.out.rb.free 2
      have f3 := HB.out.rb.free 3
      have f4 := HB.out.rb.free 4
      go_wp2_with fail
      obtain ⟨q0, q1, q2, q3, q4⟩ := cells5 (set5 HB.out.rb (.int .i64 q.tx) (.int .i64 q.time) (.int .i64 q.unit) (.int .i64 q.data) (.slice A' n c'))
      refine bodyPost_ret (v := .tuple #[.agg #[.int .i64 q.tx, .int .i64 q.time, .int .i64 q.unit, .int .i64 q.data, .slice A' n c'], .int .i64 0]) (by simp [results, Tryz.results56, go_sem, q0, q1, q2, q3, q4]) rfl ?_
      exact BSt.ret HB.out.hz HB.out.tc HB.out.hn (by rw [HR0.out]) (fun _ => ⟨by rw [HR0.out], HB.out⟩) _ _ _ _ _
end Go.Proofs.YtcdfbpdejbpgjaaGreat

/- The reference's do (scantlingref49): an op on a pool. Condition: the pool may be, and lies in memory of the call's own. -/
namespace Go.Proofs.YtcdfbpdejbpgjaaGreat

open Go.RowKit
attribute [local go_sem] Oper.semAt_some
set_option linter.unusedSimpArgs false
set_option linter.unusedVariables false

/-- The callee's result is handed on. -/
theorem call_ret {w w3 w4 : World} {base n c c4 : Nat} {p q4 : Pool} {A A4 : Option Addr} {M M4 : Nat → Value} {o : Mop} {r : Int × Pool} (T : Three w w3 p A n c o) (h0 : OwnDevs w base (.slice A n c) p.devs M) (hn : p.devs.length = n) (hq : r.1 = 0 → q4 = r.2 ∧ OwnDevs w4 base (.slice A4 q4.devs.length c4) q4.devs M4 ∧ ∀ x, Own1 (.slice A4 q4.devs.length c4) q4.devs.length M4 x → Own1 (.slice A n c) n M x ∨ w3.heap.size ≤ x) (ht : Touch (Own1 (.slice A n c) n M) w3 w4) (u0 u1 u2 u3 u4 : Value) :
    DoR2 w base (.slice A n c) n M r (.returned (.tuple #[.agg #[.int .i64 q4.tx, .int .i64 q4.time, .int .i64 q4.unit, .int .i64 q4.data, .slice A4 q4.devs.length c4], .int .i64 r.1])) (((((w4.setCell ⟨w.heap.size + 1 + 1, 0, none⟩ u0).setCell ⟨w.heap.size + 1 + 1, 1, none⟩ u1).setCell ⟨w.heap.size + 1 + 1, 2, none⟩ u2).setCell ⟨w.heap.size + 1 + 1, 3, none⟩ u3).setCell ⟨w.heap.size + 1 + 1, 4, none⟩ u4) := by
  refine ⟨A4, c4, M4, q4, rfl, fun h => ?_, touch5 ((Touch.of_below T.1).trans ht) (by omega) _ _ _ _ _⟩
  obtain ⟨h1, h2, h3⟩ := hq h
  have hz := T.2.2.2.2
  refine ⟨h1, kept5 h2 (far_own1 rfl (fun e => ?_)) _ _ _ _ _, fun x hx => (h3 x hx).imp id (fun h => by omega)⟩
  rcases h3 _ e with e | e
  · have := own1_lt h0 hn _ e; omega
  · omega
set_option maxRecDepth 100000 in
set_option maxHeartbeats 1600000 in
theorem rdo_create (w : World) (base c : Nat) (p : Pool) (A : Option Addr) (M : Nat → Value) (o : Mop) (h3 : OwnDevs w base (.slice A p.devs.length c) p.devs M) (r : Int × Pool) (hk : o.kind = 1 ∨ o.kind = 2)
    (HC : ∀ w', w.heap.size ≤ w'.heap.size → OwnDevs w' base (.slice A p.devs.length c) p.devs M → Calls Tryz.prog 54 #[.agg #[.int .i64 p.tx, .int .i64 p.time, .int .i64 p.unit, .int .i64 p.data, .slice A p.devs.length c], mopV o] w' (DoR2 w' base (.slice A p.devs.length c) p.devs.length M r)) :
    Calls Tryz.prog 31 #[.agg #[.int .i64 p.tx, .int .i64 p.time, .int .i64 p.unit, .int .i64 p.data, .slice A p.devs.length c], mopV o] w (DoR2 w base (.slice A p.devs.length c) p.devs.length M r) := by
  have T := three_new w p A p.devs.length c o
  dsimp only [poolBox, op9Box, zeroBox] at T
  have HAH := Lib.hid (op_ahead h3 T)
  have H3 := Lib.hid h3
  have HCC := Lib.hid HC
  clear h3 HC
  generalize hl0 : p.devs.length = n at *
  have hl := Lib.hid hl0
  clear hl0
  rcases hk with hk | hk
  all_goals
    have hk1 : (o.kind == 1) = ((o.kind : Int) == 1) := rfl
    have hk2 : (o.kind == 2) = ((o.kind : Int) == 2) := rfl
    have hk3' : (o.kind == 3) = ((o.kind : Int) == 3) := rfl
    have hk4 : (o.kind == 4) = ((o.kind : Int) == 4) := rfl
    have hk5 : (o.kind == 5) = ((o.kind : Int) == 5) := rfl
    conv at hk1 => rhs; rw [hk]; simp
    conv at hk2 => rhs; rw [hk]; simp
    conv at hk3' => rhs; rw [hk]; simp
    conv at hk4 => rhs; rw [hk]; simp
    conv at hk5 => rhs; rw [hk]; simp
    clear hk
    go_enter Tryz.func31, Tryz.ntmps31
    go_upto_region 1 with fail
    generalize ((w.alloc (.cells #[.int .i64 p.tx, .int .i64 p.time, .int .i64 p.unit, .int .i64 p.data, .slice A n c] 24)).alloc (.cells #[.int .i64 o.kind, .int .i64 o.dev, .int .i64 o.arg, .int .i64 o.n] 48)).alloc (.cells #[.int .i64 0, .int .i64 0, .int .i64 0, .int .i64 0, .slice none 0 0] 24) = w3 at *
    have hk3 := Below.refl w3.heap.size w3
    obtain ⟨x0, x1, x2, x3, x4⟩ := (HAH.out w3 hk3).1.2.1.cells
    obtain ⟨y0, y1, y2, y3⟩ := (HAH.out w3 hk3).1.2.2.1.cells
    obtain ⟨z0, z1, z2, z3, z4⟩ := (HAH.out w3 hk3).1.2.2.2.1.cells
    have f0 := (HAH.out w3 hk3).1.2.2.2.1.free 0
    have f1 := (HAH.out w3 hk3).1.2.2.2.1.free 1
    have f2 := (HAH.out w3 hk3).1.2.2.2.1.free 2
    have f3 := (HAH.out w3 hk3).1.2.2.2.1.free 3
    have f4 := (HAH.out w3 hk3).1.2.2.2.1.free 4
    go_wp2_with (go_at_call 54; (have hx := HCC.out w3 (HAH.out w3 hk3).1.1.size (HAH.out w3 hk3).2.1; with_reducible refine hx.mono ?_; clear hx); rintro e w4 ⟨A4, c4, M4, q4, rfl, hq4, ht4⟩; have HQ4 := Lib.hid hq4; have HT4 := Lib.hid ht4; have hz4 := ht4.size; have hrb4 := (ht4.block (box_lt (HAH.out w3 hk3).1.2.2.2.1) (fun e => (by have h1 := own1_lt H3.out hl.out _ e; omega))).trans (HAH.out w3 hk3).1.2.2.2.1; clear x0 x1 x2 x3 x4 y0 y1 y2 y3 z0 z1 z2 z3 z4 f0 f1 f2 f3 f4 hq4 ht4; obtain ⟨z0, z1, z2, z3, z4⟩ := cells5 hrb4; have f0 := free_of hrb4 0; have f1 := free_of hrb4 1; have f2 := free_of hrb4 2; have f3 := free_of hrb4 3; have f4 := free_of hrb4 4)
    obtain ⟨v0, v1, v2, v3, v4⟩ := cells5 (set5 hrb4 (.int .i64 q4.tx) (.int .i64 q4.time) (.int .i64 q4.unit) (.int .i64 q4.data) (.slice A4 q4.devs.length c4))
    refine bodyPost_ret (v := .tuple #[.agg #[.int .i64 q4.tx, .int .i64 q4.time, .int .i64 q4.unit, .int .i64 q4.data, .slice A4 q4.devs.length c4], .int .i64 r.1]) (by simp [results, Tryz.results31, go_sem, v0, v1, v2, v3, v4]) rfl ?_
    exact call_ret (HAH.out w3 hk3).1 H3.out hl.out HQ4.out HT4.out _ _ _ _ _
set_option maxRecDepth 100000 in
set_option maxHeartbeats 1600000 in
theorem rdo_blocks (w : World) (base c : Nat) (p : Pool) (A : Option Addr) (M : Nat → Value) (o : Mop) (h3 : OwnDevs w base (.slice A p.devs.length c) p.devs M) (r : Int × Pool) (hk : o.kind = 4 ∨ o.kind = 5)
    (HC : ∀ w', w.heap.size ≤ w'.heap.size → OwnDevs w' base (.slice A p.devs.length c) p.devs M → Calls Tryz.prog 56 #[.agg #[.int .i64 p.tx, .int .i64 p.time, .int .i64 p.unit, .int .i64 p.data, .slice A p.devs.length c], mopV o] w' (DoR2 w' base (.slice A p.devs.length c) p.devs.length M r)) :
    Calls Tryz.prog 31 #[.agg #[.int .i64 p.tx, .int .i64 p.time, .int .i64 p.unit, .int .i64 p.data, .slice A p.devs.length c], mopV o] w (DoR2 w base (.slice A p.devs.length c) p.devs.length M r) := by
  have T := three_new w p A p.devs.length c o
  dsimp only [poolBox, op9Box, zeroBox] at T
  have HAH := Lib.hid (op_ahead h3 T)
  have H3 := Lib.hid h3
  have HCC := Lib.hid HC
  clear h3 HC
  generalize hl0 : p.devs.length = n at *
  have hl := Lib.hid hl0
  clear hl0
  rcases hk with hk | hk
  all_goals
    have hk1 : (o.kind == 1) = ((o.kind : Int) == 1) := rfl
    have hk2 : (o.kind == 2) = ((o.kind : Int) == 2) := rfl
    have hk3' : (o.kind == 3) = ((o.kind : Int) == 3) := rfl
    have hk4 : (o.kind == 4) = ((o.kind : Int) == 4) := rfl
    have hk5 : (o.kind == 5) = ((o.kind : Int) == 5) := rfl
    conv at hk1 => rhs; rw [hk]; simp
    conv at hk2 => rhs; rw [hk]; simp
    conv at hk3' => rhs; rw [hk]; simp
    conv at hk4 => rhs; rw [hk]; simp
    conv at hk5 => rhs; rw [hk]; simp
    clear hk
    go_enter Tryz.func31, Tryz.ntmps31
    go_upto_region 1 with fail
    generalize ((w.alloc (.cells #[.int .i64 p.tx, .int .i64 p.time, .int .i64 p.unit, .int .i64 p.data, .slice A n c] 24)).alloc (.cells #[.int .i64 o.kind, .int .i64 o.dev, .int .i64 o.arg, .int .i64 o.n] 48)).alloc (.cells #[.int .i64 0, .int .i64 0, .int .i64 0, .int .i64 0, .slice none 0 0] 24) = w3 at *
    have hk3 := Below.refl w3.heap.size w3
    obtain ⟨x0, x1, x2, x3, x4⟩ := (HAH.out w3 hk3).1.2.1.cells
    obtain ⟨y0, y1, y2, y3⟩ := (HAH.out w3 hk3).1.2.2.1.cells
    obtain ⟨z0, z1, z2, z3, z4⟩ := (HAH.out w3 hk3).1.2.2.2.1.cells
    have f0 := (HAH.out w3 hk3).1.2.2.2.1.free 0
    have f1 := (HAH.out w3 hk3).1.2.2.2.1.free 1
    have f2 := (HAH.out w3 hk3).1.2.2.2.1.free 2
    have f3 := (HAH.out w3 hk3).1.2.2.2.1.free 3
    have f4 := (HAH.out w3 hk3).1.2.2.2.1.free 4
    go_wp2_with (go_at_call 56; (have hx := HCC.out w3 (HAH.out w3 hk3).1.1.size (HAH.out w3 hk3).2.1; with_reducible refine hx.mono ?_; clear hx); rintro e w4 ⟨A4, c4, M4, q4, rfl, hq4, ht4⟩; have HQ4 := Lib.hid hq4; have HT4 := Lib.hid ht4; have hz4 := ht4.size; have hrb4 := (ht4.block (box_lt (HAH.out w3 hk3).1.2.2.2.1) (fun e => (by have h1 := own1_lt H3.out hl.out _ e; omega))).trans (HAH.out w3 hk3).1.2.2.2.1; clear x0 x1 x2 x3 x4 y0 y1 y2 y3 z0 z1 z2 z3 z4 f0 f1 f2 f3 f4 hq4 ht4; obtain ⟨z0, z1, z2, z3, z4⟩ := cells5 hrb4; have f0 := free_of hrb4 0; have f1 := free_of hrb4 1; have f2 := free_of hrb4 2; have f3 := free_of hrb4 3; have f4 := free_of hrb4 4)
    obtain ⟨v0, v1, v2, v3, v4⟩ := cells5 (set5 hrb4 (.int .i64 q4.tx) (.int .i64 q4.time) (.int .i64 q4.unit) (.int .i64 q4.data) (.slice A4 q4.devs.length c4))
    refine bodyPost_ret (v := .tuple #[.agg #[.int .i64 q4.tx, .int .i64 q4.time, .int .i64 q4.unit, .int .i64 q4.data, .slice A4 q4.devs.length c4], .int .i64 r.1]) (by simp [results, Tryz.results31, go_sem, v0, v1, v2, v3, v4]) rfl ?_
    exact call_ret (HAH.out w3 hk3).1 H3.out hl.out HQ4.out HT4.out _ _ _ _ _
/-- One of the pool's numbers is set. -/
theorem num_ret {w w3 : World} {base n c i : Nat} {p q : Pool} {A : Option Addr} {M : Nat → Value} {o : Mop} {u : Value} (T : Three w w3 p A n c o) (h0 : OwnDevs w base (.slice A n c) p.devs M) (h3 : OwnDevs w3 base (.slice A n c) p.devs M) (hn : p.devs.length = n) (hq : q.devs = p.devs)
    (he : (#[.int .i64 p.tx, .int .i64 p.time, .int .i64 p.unit, .int .i64 p.data, .slice A n c] : Array Value).setIfInBounds i u = #[.int .i64 q.tx, .int .i64 q.time, .int .i64 q.unit, .int .i64 q.data, .slice A n c]) (W : World) (hW : w3.setCell ⟨w.heap.size, i, none⟩ u = W) :
    PBox W w.heap.size q A n c ∧ RBox W (w.heap.size + 1 + 1) (.int .i64 0) (.int .i64 0) (.int .i64 0) (.int .i64 0) (.slice none 0 0) ∧
      ∀ (u0 u1 u2 u3 u4 : Value), DoR2 w base (.slice A n c) n M (0, q) (.returned (.tuple #[.agg #[.int .i64 q.tx, .int .i64 q.time, .int .i64 q.unit, .int .i64 q.data, .slice A n c], .int .i64 0])) (((((W.setCell ⟨w.heap.size + 1 + 1, 0, none⟩ u0).setCell ⟨w.heap.size + 1 + 1, 1, none⟩ u1).setCell ⟨w.heap.size + 1 + 1, 2, none⟩ u2).setCell ⟨w.heap.size + 1 + 1, 3, none⟩ u3).setCell ⟨w.heap.size + 1 + 1, 4, none⟩ u4) := by
  subst hn hW
  have hz := T.2.2.2.2
  have hlt := own1_lt h0 rfl
  have hst := OwnP.stored (q := q) (i := i) (u := u) T.2.1 h3 (far_own1 rfl (fun h => by have := hlt _ h; omega)) hq he
  refine ⟨by have := hst.1; rw [hq] at this; exact this, (Below.heap_setCell _ ⟨w.heap.size, i, none⟩ _ _ (by simp only [ne_eq]; omega)).trans T.2.2.2.1, fun u0 u1 u2 u3 u4 => ?_⟩
  refine DoR.weak (do_ret (q := q) (Mq := M) (A := A) (by have := hst.2.1; rw [hq] at this ⊢; exact this) (by rw [hq]) (touch_set (Touch.of_below T.1) (Nat.le_refl _) i u) (by omega) (fun h => by have := hlt _ h; omega) (fun _ => rfl) (fun x hx => .inl hx) rfl u0 u1 u2 u3 u4)
set_option maxRecDepth 100000 in
set_option maxHeartbeats 1600000 in
theorem rdo_tick (w : World) (base c : Nat) (p : Pool) (A : Option Addr) (M : Nat → Value) (o : Mop) (h3 : OwnDevs w base (.slice A p.devs.length c) p.devs M) (hpc : poolChk p = 0) (hk : o.kind = 6) :
    Calls Tryz.prog 31 #[.agg #[.int .i64 p.tx, .int .i64 p.time, .int .i64 p.unit, .int .i64 p.data, .slice A p.devs.length c], mopV o] w (DoR2 w base (.slice A p.devs.length c) p.devs.length M (tickF p)) := by
  have T := three_new w p A p.devs.length c o
  dsimp only [poolBox, op9Box, zeroBox] at T
  have HAH := Lib.hid (op_ahead h3 T)
  have H3 := Lib.hid h3
  have hhd := (pool_head hpc).1
  have HTK := Lib.hid (show tickF p = if 2147483647 ≤ p.tx then (2, p) else (0, ⟨p.tx + 1, p.time, p.unit, p.data, p.devs⟩) from rfl)
  generalize tickF p = r at *
  clear h3 hpc
  generalize hl0 : p.devs.length = n at *
  have hl := Lib.hid hl0
  clear hl0
  have hk1 : (o.kind == 1) = ((o.kind : Int) == 1) := rfl
  have hk2 : (o.kind == 2) = ((o.kind : Int) == 2) := rfl
  have hk3' : (o.kind == 3) = ((o.kind : Int) == 3) := rfl
  have hk4 : (o.kind == 4) = ((o.kind : Int) == 4) := rfl
  have hk5 : (o.kind == 5) = ((o.kind : Int) == 5) := rfl
  have hk6 : (o.kind == 6) = ((o.kind : Int) == 6) := rfl
  have hk7 : (o.kind == 7) = ((o.kind : Int) == 7) := rfl
  conv at hk1 => rhs; rw [hk]; simp
  conv at hk2 => rhs; rw [hk]; simp
  conv at hk3' => rhs; rw [hk]; simp
  conv at hk4 => rhs; rw [hk]; simp
  conv at hk5 => rhs; rw [hk]; simp
  conv at hk6 => rhs; rw [hk]; simp
  conv at hk7 => rhs; rw [hk]; simp
  clear hk
  by_cases ht : p.tx = 2147483647
  · have HR2 := Lib.hid (show r = (2, p) by rw [HTK.out, if_pos (by omega)])
    have htb : (p.tx == 2147483647) = true := by simp [ht]
    clear HTK ht
    go_enter Tryz.func31, Tryz.ntmps31
    go_upto_region 1 with fail
    generalize ((w.alloc (.cells #[.int .i64 p.tx, .int .i64 p.time, .int .i64 p.unit, .int .i64 p.data, .slice A n c] 24)).alloc (.cells #[.int .i64 o.kind, .int .i64 o.dev, .int .i64 o.arg, .int .i64 o.n] 48)).alloc (.cells #[.int .i64 0, .int .i64 0, .int .i64 0, .int .i64 0, .slice none 0 0] 24) = w3 at *
    have hk3 := Below.refl w3.heap.size w3
    obtain ⟨x0, x1, x2, x3, x4⟩ := (HAH.out w3 hk3).1.2.1.cells
    obtain ⟨y0, y1, y2, y3⟩ := (HAH.out w3 hk3).1.2.2.1.cells
    obtain ⟨z0, z1, z2, z3, z4⟩ := (HAH.out w3 hk3).1.2.2.2.1.cells
    have f0 := (HAH.out w3 hk3).1.2.2.2.1.free 0
    have f1 := (HAH.out w3 hk3).1.2.2.2.1.free 1
    have f2 := (HAH.out w3 hk3).1.2.2.2.1.free 2
    have f3 := (HAH.out w3 hk3).1.2.2.2.1.free 3
    have f4 := (HAH.out w3 hk3).1.2.2.2.1.free 4
    go_wp2_with fail
    rw [HR2.out]
    obtain ⟨q0, q1, q2, q3, q4⟩ := cells5 (set5 (HAH.out w3 hk3).1.2.2.2.1 (.int .i64 p.tx) (.int .i64 p.time) (.int .i64 p.unit) (.int .i64 p.data) (.slice A n c))
    refine bodyPost_ret (v := .tuple #[.agg #[.int .i64 p.tx, .int .i64 p.time, .int .i64 p.unit, .int .i64 p.data, .slice A n c], .int .i64 2]) (by simp [results, Tryz.results31, go_sem, q0, q1, q2, q3, q4]) rfl ?_
    exact DoR.weak (do_stop hl.out (HAH.out w3 hk3).1 (HAH.out w3 hk3).2.1 H3.out rfl (by simp) _ _ _ _ _)
  · have HR2 := Lib.hid (show r = (0, ⟨p.tx + 1, p.time, p.unit, p.data, p.devs⟩) by rw [HTK.out, if_neg (by omega)])
    have htb : (p.tx == 2147483647) = false := by simp [ht]
    have hw1 : IntKind.i64.wrap (p.tx + 1) = p.tx + 1 := IntWalk.i64_in _ (by omega)
    clear HTK
    go_enter Tryz.func31, Tryz.ntmps31
    go_upto_region 1 with fail
    generalize ((w.alloc (.cells #[.int .i64 p.tx, .int .i64 p.time, .int .i64 p.unit, .int .i64 p.data, .slice A n c] 24)).alloc (.cells #[.int .i64 o.kind, .int .i64 o.dev, .int .i64 o.arg, .int .i64 o.n] 48)).alloc (.cells #[.int .i64 0, .int .i64 0, .int .i64 0, .int .i64 0, .slice none 0 0] 24) = w3 at *
    have hk3 := Below.refl w3.heap.size w3
    obtain ⟨x0, x1, x2, x3, x4⟩ := (HAH.out w3 hk3).1.2.1.cells
    obtain ⟨y0, y1, y2, y3⟩ := (HAH.out w3 hk3).1.2.2.1.cells
    obtain ⟨z0, z1, z2, z3, z4⟩ := (HAH.out w3 hk3).1.2.2.2.1.cells
    have f0 := (HAH.out w3 hk3).1.2.2.2.1.free 0
    have f1 := (HAH.out w3 hk3).1.2.2.2.1.free 1
    have f2 := (HAH.out w3 hk3).1.2.2.2.1.free 2
    have f3 := (HAH.out w3 hk3).1.2.2.2.1.free 3
    have f4 := (HAH.out w3 hk3).1.2.2.2.1.free 4
    have fp := (HAH.out w3 hk3).1.2.1.free 0
    go_upto_region 18 with fail
    obtain ⟨w6, hw6⟩ : ∃ x, w3.setCell ⟨w.heap.size, 0, none⟩ (.int .i64 (p.tx + 1)) = x := ⟨_, rfl⟩
    obtain ⟨b0, b2, hfin⟩ := num_ret (q := ⟨p.tx + 1, p.time, p.unit, p.data, p.devs⟩) (HAH.out w3 hk3).1 H3.out (HAH.out w3 hk3).2.1 hl.out rfl rfl w6 hw6
    have HF := Lib.hid hfin
    rw [hw6]
    clear hfin hw6 x0 x1 x2 x3 x4 y0 y1 y2 y3 z0 z1 z2 z3 z4 f0 f1 f2 f3 f4 fp
    obtain ⟨x0, x1, x2, x3, x4⟩ := b0.cells
    obtain ⟨z0, z1, z2, z3, z4⟩ := b2.cells
    have f0 := b2.free 0
    have f1 := b2.free 1
    have f2 := b2.free 2
    have f3 := b2.free 3
    have f4 := b2.free 4
    go_wp2_with fail
    rw [HR2.out]
    obtain ⟨q0, q1, q2, q3, q4⟩ := cells5 (set5 b2 (.int .i64 (p.tx + 1)) (.int .i64 p.time) (.int .i64 p.unit) (.int .i64 p.data) (.slice A n c))
    exact bodyPost_ret (v := .tuple #[.agg #[.int .i64 (p.tx + 1), .int .i64 p.time, .int .i64 p.unit, .int .i64 p.data, .slice A n c], .int .i64 0]) (by simp [results, Tryz.results31, go_sem, q0, q1, q2, q3, q4]) rfl (HF.out _ _ _ _ _)
set_option maxRecDepth 100000 in
set_option maxHeartbeats 1600000 in
theorem rdo_grow (w : World) (base c : Nat) (p : Pool) (A : Option Addr) (M : Nat → Value) (o : Mop) (h3 : OwnDevs w base (.slice A p.devs.length c) p.devs M) (hk : o.kind = 7) :
    Calls Tryz.prog 31 #[.agg #[.int .i64 p.tx, .int .i64 p.time, .int .i64 p.unit, .int .i64 p.data, .slice A p.devs.length c], mopV o] w (DoR2 w base (.slice A p.devs.length c) p.devs.length M (growF p o)) := by
  have T := three_new w p A p.devs.length c o
  dsimp only [poolBox, op9Box, zeroBox] at T
  have HAH := Lib.hid (op_ahead h3 T)
  have H3 := Lib.hid h3
  have HTK := Lib.hid (show growF p o = if o.n < p.data ∨ 65536 < o.n then (2, p) else (0, ⟨p.tx, p.time, p.unit, o.n, p.devs⟩) from rfl)
  generalize growF p o = r at *
  clear h3
  generalize hl0 : p.devs.length = n at *
  have hl := Lib.hid hl0
  clear hl0
  have hk1 : (o.kind == 1) = ((o.kind : Int) == 1) := rfl
  have hk2 : (o.kind == 2) = ((o.kind : Int) == 2) := rfl
  have hk3' : (o.kind == 3) = ((o.kind : Int) == 3) := rfl
  have hk4 : (o.kind == 4) = ((o.kind : Int) == 4) := rfl
  have hk5 : (o.kind == 5) = ((o.kind : Int) == 5) := rfl
  have hk6 : (o.kind == 6) = ((o.kind : Int) == 6) := rfl
  have hk7 : (o.kind == 7) = ((o.kind : Int) == 7) := rfl
  conv at hk1 => rhs; rw [hk]; simp
  conv at hk2 => rhs; rw [hk]; simp
  conv at hk3' => rhs; rw [hk]; simp
  conv at hk4 => rhs; rw [hk]; simp
  conv at hk5 => rhs; rw [hk]; simp
  conv at hk6 => rhs; rw [hk]; simp
  conv at hk7 => rhs; rw [hk]; simp
  clear hk
  by_cases ht : o.n < p.data ∨ 65536 < o.n
  · have HR2 := Lib.hid (show r = (2, p) by rw [HTK.out, if_pos ht])
    have ht2 : o.n < p.data ∨ (¬ o.n < p.data ∧ 65536 < o.n) := by omega
    clear HTK ht
    rcases ht2 with t1 | ⟨t1, t2⟩
    all_goals
      go_enter Tryz.func31, Tryz.ntmps31
      go_upto_region 1 with fail
      generalize ((w.alloc (.cells #[.int .i64 p.tx, .int .i64 p.time, .int .i64 p.unit, .int .i64 p.data, .slice A n c] 24)).alloc (.cells #[.int .i64 o.kind, .int .i64 o.dev, .int .i64 o.arg, .int .i64 o.n] 48)).alloc (.cells #[.int .i64 0, .int .i64 0, .int .i64 0, .int .i64 0, .slice none 0 0] 24) = w3 at *
      have hk3 := Below.refl w3.heap.size w3
      obtain ⟨x0, x1, x2, x3, x4⟩ := (HAH.out w3 hk3).1.2.1.cells
      obtain ⟨y0, y1, y2, y3⟩ := (HAH.out w3 hk3).1.2.2.1.cells
      obtain ⟨z0, z1, z2, z3, z4⟩ := (HAH.out w3 hk3).1.2.2.2.1.cells
      have f0 := (HAH.out w3 hk3).1.2.2.2.1.free 0
      have f1 := (HAH.out w3 hk3).1.2.2.2.1.free 1
      have f2 := (HAH.out w3 hk3).1.2.2.2.1.free 2
      have f3 := (HAH.out w3 hk3).1.2.2.2.1.free 3
      have f4 := (HAH.out w3 hk3).1.2.2.2.1.free 4
      go_wp2_with fail
      rw [HR2.out]
      obtain ⟨q0, q1, q2, q3, q4⟩ := cells5 (set5 (HAH.out w3 hk3).1.2.2.2.1 (.int .i64 p.tx) (.int .i64 p.time) (.int .i64 p.unit) (.int .i64 p.data) (.slice A n c))
      refine bodyPost_ret (v := .tuple #[.agg #[.int .i64 p.tx, .int .i64 p.time, .int .i64 p.unit, .int .i64 p.data, .slice A n c], .int .i64 2]) (by simp [results, Tryz.results31, go_sem, q0, q1, q2, q3, q4]) rfl ?_
      exact DoR.weak (do_stop hl.out (HAH.out w3 hk3).1 (HAH.out w3 hk3).2.1 H3.out rfl (by simp) _ _ _ _ _)
  · have HR2 := Lib.hid (show r = (0, ⟨p.tx, p.time, p.unit, o.n, p.devs⟩) by rw [HTK.out, if_neg ht])
    have t1 : ¬ o.n < p.data := by omega
    have t2 : ¬ 65536 < o.n := by omega
    clear HTK ht
    go_enter Tryz.func31, Tryz.ntmps31
    go_upto_region 1 with fail
    generalize ((w.alloc (.cells #[.int .i64 p.tx, .int .i64 p.time, .int .i64 p.unit, .int .i64 p.data, .slice A n c] 24)).alloc (.cells #[.int .i64 o.kind, .int .i64 o.dev, .int .i64 o.arg, .int .i64 o.n] 48)).alloc (.cells #[.int .i64 0, .int .i64 0, .int .i64 0, .int .i64 0, .slice none 0 0] 24) = w3 at *
    have hk3 := Below.refl w3.heap.size w3
    obtain ⟨x0, x1, x2, x3, x4⟩ := (HAH.out w3 hk3).1.2.1.cells
    obtain ⟨y0, y1, y2, y3⟩ := (HAH.out w3 hk3).1.2.2.1.cells
    obtain ⟨z0, z1, z2, z3, z4⟩ := (HAH.out w3 hk3).1.2.2.2.1.cells
    have f0 := (HAH.out w3 hk3).1.2.2.2.1.free 0
    have f1 := (HAH.out w3 hk3).1.2.2.2.1.free 1
    have f2 := (HAH.out w3 hk3).1.2.2.2.1.free 2
    have f3 := (HAH.out w3 hk3).1.2.2.2.1.free 3
    have f4 := (HAH.out w3 hk3).1.2.2.2.1.free 4
    have fp := (HAH.out w3 hk3).1.2.1.free 3
    go_upto_region 23 with fail
    obtain ⟨w6, hw6⟩ : ∃ x, w3.setCell ⟨w.heap.size, 3, none⟩ (.int .i64 o.n) = x := ⟨_, rfl⟩
    obtain ⟨b0, b2, hfin⟩ := num_ret (q := ⟨p.tx, p.time, p.unit, o.n, p.devs⟩) (HAH.out w3 hk3).1 H3.out (HAH.out w3 hk3).2.1 hl.out rfl rfl w6 hw6
    have HF := Lib.hid hfin
    rw [hw6]
    clear hfin hw6 x0 x1 x2 x3 x4 y0 y1 y2 y3 z0 z1 z2 z3 z4 f0 f1 f2 f3 f4 fp
    obtain ⟨x0, x1, x2, x3, x4⟩ := b0.cells
    obtain ⟨z0, z1, z2, z3, z4⟩ := b2.cells
    have f0 := b2.free 0
    have f1 := b2.free 1
    have f2 := b2.free 2
    have f3 := b2.free 3
    have f4 := b2.free 4
    go_wp2_with fail
    rw [HR2.out]
    obtain ⟨q0, q1, q2, q3, q4⟩ := cells5 (set5 b2 (.int .i64 p.tx) (.int .i64 p.time) (.int .i64 p.unit) (.int .i64 o.n) (.slice A n c))
    exact bodyPost_ret (v := .tuple #[.agg #[.int .i64 p.tx, .int .i64 p.time, .int .i64 p.unit, .int .i64 o.n, .slice A n c], .int .i64 0]) (by simp [results, Tryz.results31, go_sem, q0, q1, q2, q3, q4]) rfl (HF.out _ _ _ _ _)
set_option maxRecDepth 100000 in
set_option maxHeartbeats 1600000 in
theorem rdo_none (w : World) (base c : Nat) (p : Pool) (A : Option Addr) (M : Nat → Value) (o : Mop) (h3 : OwnDevs w base (.slice A p.devs.length c) p.devs M) (h1 : o.kind ≠ 1) (h2 : o.kind ≠ 2) (h3' : o.kind ≠ 3) (h4 : o.kind ≠ 4) (h5 : o.kind ≠ 5) (h6 : o.kind ≠ 6) (h7 : o.kind ≠ 7) :
    Calls Tryz.prog 31 #[.agg #[.int .i64 p.tx, .int .i64 p.time, .int .i64 p.unit, .int .i64 p.data, .slice A p.devs.length c], mopV o] w (DoR2 w base (.slice A p.devs.length c) p.devs.length M (1, p)) := by
  have T := three_new w p A p.devs.length c o
  dsimp only [poolBox, op9Box, zeroBox] at T
  have HAH := Lib.hid (op_ahead h3 T)
  have H3 := Lib.hid h3
  have hk1 : (o.kind == 1) = false := by simpa using h1
  have hk2 : (o.kind == 2) = false := by simpa using h2
  have hk3' : (o.kind == 3) = false := by simpa using h3'
  have hk4 : (o.kind == 4) = false := by simpa using h4
  have hk5 : (o.kind == 5) = false := by simpa using h5
  have hk6 : (o.kind == 6) = false := by simpa using h6
  have hk7 : (o.kind == 7) = false := by simpa using h7
  clear h3 h1 h2 h3' h4 h5 h6 h7
  generalize hl0 : p.devs.length = n at *
  have hl := Lib.hid hl0
  clear hl0
  go_enter Tryz.func31, Tryz.ntmps31
  go_upto_region 1 with fail
  generalize ((w.alloc (.cells #[.int .i64 p.tx, .int .i64 p.time, .int .i64 p.unit, .int .i64 p.data, .slice A n c] 24)).alloc (.cells #[.int .i64 o.kind, .int .i64 o.dev, .int .i64 o.arg, .int .i64 o.n] 48)).alloc (.cells #[.int .i64 0, .int .i64 0, .int .i64 0, .int .i64 0, .slice none 0 0] 24) = w3 at *
  have hk3 := Below.refl w3.heap.size w3
  obtain ⟨x0, x1, x2, x3, x4⟩ := (HAH.out w3 hk3).1.2.1.cells
  obtain ⟨y0, y1, y2, y3⟩ := (HAH.out w3 hk3).1.2.2.1.cells
  obtain ⟨z0, z1, z2, z3, z4⟩ := (HAH.out w3 hk3).1.2.2.2.1.cells
  have f0 := (HAH.out w3 hk3).1.2.2.2.1.free 0
  have f1 := (HAH.out w3 hk3).1.2.2.2.1.free 1
  have f2 := (HAH.out w3 hk3).1.2.2.2.1.free 2
  have f3 := (HAH.out w3 hk3).1.2.2.2.1.free 3
  have f4 := (HAH.out w3 hk3).1.2.2.2.1.free 4
  go_wp2_with fail
  obtain ⟨q0, q1, q2, q3, q4⟩ := cells5 (set5 (HAH.out w3 hk3).1.2.2.2.1 (.int .i64 p.tx) (.int .i64 p.time) (.int .i64 p.unit) (.int .i64 p.data) (.slice A n c))
  refine bodyPost_ret (v := .tuple #[.agg #[.int .i64 p.tx, .int .i64 p.time, .int .i64 p.unit, .int .i64 p.data, .slice A n c], .int .i64 1]) (by simp [results, Tryz.results31, go_sem, q0, q1, q2, q3, q4]) rfl ?_
  exact DoR.weak (do_stop hl.out (HAH.out w3 hk3).1 (HAH.out w3 hk3).2.1 H3.out rfl (by simp) _ _ _ _ _)
end Go.Proofs.YtcdfbpdejbpgjaaGreat

/- The reference's do (scantlingref49) at a Delete; at any op. Condition: the pool may be, and lies in memory of the call's own. -/
namespace Go.Proofs.YtcdfbpdejbpgjaaGreat

open Go.RowKit
attribute [local go_sem] Oper.semAt_some
set_option linter.unusedSimpArgs false
set_option linter.unusedVariables false

/-- A row picked from an older one: each device with its mappings. -/
theorem OwnDevs.pick {w w' : World} {base : Nat} {v v' : Value} {l l' : List Dev} {M : Nat → Value} {xs ys : List Value} (f : Nat → Nat) (hc : ∀ j, j < l.length → DevCells xs j (nth dev0 l j) (M j) ∧ OwnMaps w base (M j) (nth dev0 l j).maps ∧ (∀ g, (M j).ownBlock = some g → some g ≠ v.ownBlock))
    (hap : ∀ i j, i < l.length → j < l.length → i ≠ j → ∀ g, (M j).ownBlock = some g → some g ≠ (M i).ownBlock) (hB : Below w.heap.size w w') (hrow : w'.ownsRow base 36 5 v' l'.length ys)
    (hf : ∀ j, j < l'.length → f j < l.length ∧ nth dev0 l' j = nth dev0 l (f j) ∧ ∀ r, r < 5 → ys[j * 5 + r]? = xs[f j * 5 + r]?) (hinj : ∀ i j, i ≠ j → f i ≠ f j) (hnew : ∀ x, v'.ownBlock = some x → w.heap.size ≤ x) :
    OwnDevs w' base v' l' (fun j => M (f j)) := by
  refine ⟨ys, hrow, fun j hj => ?_, fun i j hi hj hij g hg => ?_⟩
  · obtain ⟨h1, h2, h3⟩ := hf j hj
    obtain ⟨⟨c0, c1, c2, c3, c4⟩, hm, _⟩ := hc (f j) h1
    rw [h2]
    refine ⟨⟨?_, ?_, ?_, ?_, ?_⟩, own_below hm hB (fun x hx => (hm.lt x hx).2), fun g hg he => ?_⟩
    · have := h3 0 (by omega); rw [Nat.add_zero, Nat.add_zero] at this; rw [this]; exact c0
    · rw [h3 1 (by omega)]; exact c1
    · rw [h3 2 (by omega)]; exact c2
    · rw [h3 3 (by omega)]; exact c3
    · rw [h3 4 (by omega)]; exact c4
    · have h4 := (hm.lt g hg).2
      have h5 := hnew g he.symm
      omega
  · exact hap (f i) (f j) (hf i hi).1 (hf j hj).1 (hinj i j hij) g hg
theorem src_takeX {w : World} {A : Option Addr} {xs : List Value} (i : Nat) (h : ∀ d, A = some d → ∀ j u, xs[j]? = some u → w.cell? (d.add j) = some u) : ∀ d, A = some d → ∀ j u, (xs.take i)[j]? = some u → w.cell? (d.add j) = some u := by
  intro d hd j u hj
  refine h d hd j u ?_
  rw [← hj, List.getElem?_take, if_pos]
  have := (List.getElem?_eq_some_iff.1 hj).1
  rw [List.length_take] at this
  omega
theorem src_dropX {w : World} {A : Option Addr} {xs : List Value} {L cm s : Nat} (i : Nat) (hi : i ≤ L) (hc : L ≤ cm) (hl : xs.length = L * s) (h : (∀ d, A = some d → ∀ j u, xs[j]? = some u → w.cell? (d.add j) = some u) ∧ (A = none → L = 0)) :
    (∀ d, (if cm = i then A else Option.map (fun x => x.add (i * s)) A) = some d → ∀ j u, (xs.drop (i * s))[j]? = some u → w.cell? (d.add j) = some u) ∧ ((if cm = i then A else Option.map (fun x => x.add (i * s)) A) = none → L - i = 0) := by
  by_cases e : cm = i
  · rw [if_pos e]
    refine ⟨fun d _ j u hj => ?_, fun _ => by omega⟩
    have : xs.length ≤ i * s := by rw [hl]; exact Nat.mul_le_mul_right _ (by omega)
    rw [List.drop_of_length_le this] at hj
    simp at hj
  · rw [if_neg e]
    refine ⟨fun d hd j u hj => ?_, fun hd => ?_⟩
    · obtain ⟨a, ha, rfl⟩ := Option.map_eq_some_iff.1 hd
      rw [add_add]
      exact h.1 a ha (i * s + j) u (by rw [← hj, List.getElem?_drop])
    · have : A = none := by simpa using hd
      have := h.2 this
      omega
theorem one_take {xs : List Value} {i : Nat} (h : ∀ u ∈ xs, u.oneCell' = true) : ∀ u ∈ xs.take i, u.oneCell' = true := fun u hu => h u (List.mem_of_mem_take hu)
theorem one_drop {xs : List Value} {i : Nat} (h : ∀ u ∈ xs, u.oneCell' = true) : ∀ u ∈ xs.drop i, u.oneCell' = true := fun u hu => h u (List.mem_of_mem_drop hu)
/-- Without device k. -/
theorem del_fin {w w3 W : World} {base n c k c9 : Nat} {p : Pool} {A A9 : Option Addr} {M : Nat → Value} {o : Mop} {xs : List Value} (T : Three w w3 p A n c o) (h0 : OwnDevs w base (.slice A n c) p.devs M) (hn : p.devs.length = n) (hk : k < n) (hb : base ≤ w.heap.size) (hx : xs.length = n * 5)
    (hc : ∀ j, j < p.devs.length → DevCells xs j (nth dev0 p.devs j) (M j) ∧ OwnMaps w3 base (M j) (nth dev0 p.devs j).maps ∧ (∀ g, (M j).ownBlock = some g → some g ≠ (Value.slice A n c).ownBlock))
    (hap : ∀ i j, i < p.devs.length → j < p.devs.length → i ≠ j → ∀ g, (M j).ownBlock = some g → some g ≠ (M i).ownBlock) (hB : Below w3.heap.size w3 W) (hlo : ∀ x, (Value.slice A9 (k + (n - (k + 1))) c9).ownBlock = some x → w3.heap.size ≤ x)
    (ho : W.ownsRow (w.heap.size + 3) 36 5 (.slice A9 (k + (n - (k + 1))) c9) (k + (n - (k + 1))) (xs.take (k * 5) ++ xs.drop ((k + 1) * 5))) (W2 : World) (hW : W.setCell ⟨w.heap.size, 4, none⟩ (.slice A9 (k + (n - (k + 1))) c9) = W2) :
    PBox W2 w.heap.size p A9 (k + (n - (k + 1))) c9 ∧ RBox W2 (w.heap.size + 1 + 1) (.int .i64 0) (.int .i64 0) (.int .i64 0) (.int .i64 0) (.slice none 0 0) ∧
      ∀ (u0 u1 u2 u3 u4 : Value), DoR2 w base (.slice A n c) n M (0, withDevs p (delAt p.devs k)) (.returned (.tuple #[.agg #[.int .i64 p.tx, .int .i64 p.time, .int .i64 p.unit, .int .i64 p.data, .slice A9 (k + (n - (k + 1))) c9], .int .i64 0])) (((((W2.setCell ⟨w.heap.size + 1 + 1, 0, none⟩ u0).setCell ⟨w.heap.size + 1 + 1, 1, none⟩ u1).setCell ⟨w.heap.size + 1 + 1, 2, none⟩ u2).setCell ⟨w.heap.size + 1 + 1, 3, none⟩ u3).setCell ⟨w.heap.size + 1 + 1, 4, none⟩ u4) := by
  subst hn hW
  have hz := T.2.2.2.2
  have hlt := own1_lt h0 rfl
  have hdl := delAt_length p.devs k hk
  have hm : k + (p.devs.length - (k + 1)) = (delAt p.devs k).length := by omega
  rw [hm] at ho hlo ⊢
  have hd : OwnDevs W base (.slice A9 (delAt p.devs k).length c9) (delAt p.devs k) (fun j => M (if j < k then j else j + 1)) := by
    refine OwnDevs.pick (fun j => if j < k then j else j + 1) hc hap hB (own_low ho (by omega)) (fun j hj => ?_) (fun i j hij => ?_) hlo
    · refine ⟨by split <;> omega, ?_, fun r hr => ?_⟩
      · rw [nth_delAt dev0 p.devs k j hk]
        split <;> rfl
      · have e : xs.take (k * 5) ++ xs.drop ((k + 1) * 5) = xs.take (k * 5) ++ xs.drop (k * 5 + 5) := by rw [Nat.add_mul]
        rw [e, delC_get hx hk hr]
        split <;> rfl
    · split <;> split <;> omega
  have hfar : ∀ b, w.heap.size ≤ b → b < w.heap.size + 3 → ¬ Own1 (.slice A9 (delAt p.devs k).length c9) (delAt p.devs k).length (fun j => M (if j < k then j else j + 1)) b := by
    rintro b h1 h2 (h | ⟨j, hj, h⟩)
    · have := hlo b h; omega
    · have := hlt b (.inr ⟨_, by split <;> omega, h⟩); omega
  refine ⟨?_, (Below.heap_setCell _ ⟨w.heap.size, 4, none⟩ _ _ (by simp only [ne_eq]; omega)).trans (box_up T.2.2.2.1 hB), fun u0 u1 u2 u3 u4 => ?_⟩
  · have hp : PBox W w.heap.size p A p.devs.length c := box_up T.2.1 hB
    unfold PBox at hp ⊢
    simp [World.setCell, Array.getElem?_modify, hp]
  · refine DoR.weak (do_ret (q := withDevs p (delAt p.devs k)) (hd.kept (grownBy_set W ⟨w.heap.size, 4, none⟩ _) (far_own1 rfl (hfar w.heap.size (Nat.le_refl _) (by omega)))) rfl (touch_set ((Touch.of_below T.1).trans (Touch.of_below hB)) (Nat.le_refl _) 4 _) (by omega) (hfar _ (by omega) (by omega)) (fun _ => rfl) (fun x hx => ?_) rfl u0 u1 u2 u3 u4)
    rcases hx with h | ⟨j, hj, h⟩
    · exact .inr (by have := hlo x h; omega)
    · refine .inl (.inr ⟨_, ?_, h⟩)
      have hj : j < (delAt p.devs k).length := hj
      split <;> omega
set_option maxRecDepth 100000 in
set_option maxHeartbeats 3200000 in
theorem rdo_remove (w : World) (base c : Nat) (p : Pool) (A : Option Addr) (M : Nat → Value) (o : Mop) (h3 : OwnDevs w base (.slice A p.devs.length c) p.devs M) (hb : base ≤ w.heap.size) (hpc : poolChk p = 0) (hk : o.kind = 3) :
    Calls Tryz.prog 31 #[.agg #[.int .i64 p.tx, .int .i64 p.time, .int .i64 p.unit, .int .i64 p.data, .slice A p.devs.length c], mopV o] w (DoR2 w base (.slice A p.devs.length c) p.devs.length M (removeF p o)) := by
  have T := three_new w p A p.devs.length c o
  dsimp only [poolBox, op9Box, zeroBox] at T
  have HAH := Lib.hid (op_ahead h3 T)
  have hln := pool_len hpc
  have HPL := Lib.hid (fun w' (hz : w.heap.size ≤ w'.heap.size) (h : IsPool w' (Lt w.heap.size) (.agg #[.int .i64 p.tx, .int .i64 p.time, .int .i64 p.unit, .int .i64 p.data, .slice A p.devs.length c]) p) => rplace_any w' (Lt w.heap.size) _ p o.dev (fun b (hb : b < w.heap.size) => Nat.lt_of_lt_of_le hb hz) h (incK_devs hpc) (by omega))
  have H3 := Lib.hid h3
  have hcr : removeF p o = if dhas p o.dev = false then (18, p) else (0, withDevs p (delAt p.devs (dpos p o.dev))) := rfl
  rw [hcr]
  have HPC := Lib.hid hpc
  have hk1 : (o.kind == 1) = ((o.kind : Int) == 1) := rfl
  have hk2 : (o.kind == 2) = ((o.kind : Int) == 2) := rfl
  have hk3' : (o.kind == 3) = ((o.kind : Int) == 3) := rfl
  have hk4 : (o.kind == 4) = ((o.kind : Int) == 4) := rfl
  have hk5 : (o.kind == 5) = ((o.kind : Int) == 5) := rfl
  have hk6 : (o.kind == 6) = ((o.kind : Int) == 6) := rfl
  have hk7 : (o.kind == 7) = ((o.kind : Int) == 7) := rfl
  conv at hk1 => rhs; rw [hk]; simp
  conv at hk2 => rhs; rw [hk]; simp
  conv at hk3' => rhs; rw [hk]; simp
  conv at hk4 => rhs; rw [hk]; simp
  conv at hk5 => rhs; rw [hk]; simp
  conv at hk6 => rhs; rw [hk]; simp
  conv at hk7 => rhs; rw [hk]; simp
  clear hk
  cases hbb : dhas p o.dev with
  | false =>
    rw [if_pos rfl]
    have hpl : placeI p o.dev = -1 := by unfold placeI; rw [if_neg (by rw [hbb]; simp)]
    rw [hpl] at HPL
    clear h3 hpc hcr hbb hpl
    generalize hl0 : p.devs.length = n at *
    have hl := Lib.hid hl0
    clear hl0
    go_enter Tryz.func31, Tryz.ntmps31
    go_upto_region 1 with fail
    generalize ((w.alloc (.cells #[.int .i64 p.tx, .int .i64 p.time, .int .i64 p.unit, .int .i64 p.data, .slice A n c] 24)).alloc (.cells #[.int .i64 o.kind, .int .i64 o.dev, .int .i64 o.arg, .int .i64 o.n] 48)).alloc (.cells #[.int .i64 0, .int .i64 0, .int .i64 0, .int .i64 0, .slice none 0 0] 24) = w3 at *
    have hk3 := Below.refl w3.heap.size w3
    obtain ⟨x0, x1, x2, x3, x4⟩ := (HAH.out w3 hk3).1.2.1.cells
    obtain ⟨y0, y1, y2, y3⟩ := (HAH.out w3 hk3).1.2.2.1.cells
    obtain ⟨z0, z1, z2, z3, z4⟩ := (HAH.out w3 hk3).1.2.2.2.1.cells
    have f0 := (HAH.out w3 hk3).1.2.2.2.1.free 0
    have f1 := (HAH.out w3 hk3).1.2.2.2.1.free 1
    have f2 := (HAH.out w3 hk3).1.2.2.2.1.free 2
    have f3 := (HAH.out w3 hk3).1.2.2.2.1.free 3
    have f4 := (HAH.out w3 hk3).1.2.2.2.1.free 4
    go_wp2_with (go_at_call 55; (have hx := HPL.out w3 (HAH.out w3 hk3).1.1.size (HAH.out w3 hk3).2.2.1; with_reducible refine hx.mono ?_; clear hx); rintro e w4 ⟨rfl, hk4⟩; clear x0 x1 x2 x3 x4 y0 y1 y2 y3 z0 z1 z2 z3 z4 f0 f1 f2 f3 f4; obtain ⟨x0, x1, x2, x3, x4⟩ := (HAH.out w4 hk4).1.2.1.cells; obtain ⟨y0, y1, y2, y3⟩ := (HAH.out w4 hk4).1.2.2.1.cells; obtain ⟨z0, z1, z2, z3, z4⟩ := (HAH.out w4 hk4).1.2.2.2.1.cells; have f0 := (HAH.out w4 hk4).1.2.2.2.1.free 0; have f1 := (HAH.out w4 hk4).1.2.2.2.1.free 1; have f2 := (HAH.out w4 hk4).1.2.2.2.1.free 2; have f3 := (HAH.out w4 hk4).1.2.2.2.1.free 3; have f4 := (HAH.out w4 hk4).1.2.2.2.1.free 4)
    obtain ⟨q0, q1, q2, q3, q4⟩ := cells5 (set5 (HAH.out w4 hk4).1.2.2.2.1 (.int .i64 p.tx) (.int .i64 p.time) (.int .i64 p.unit) (.int .i64 p.data) (.slice A n c))
    refine bodyPost_ret (v := .tuple #[.agg #[.int .i64 p.tx, .int .i64 p.time, .int .i64 p.unit, .int .i64 p.data, .slice A n c], .int .i64 18]) (by simp [results, Tryz.results31, go_sem, q0, q1, q2, q3, q4]) rfl ?_
    exact DoR.weak (do_stop hl.out (HAH.out w4 hk4).1 (HAH.out w4 hk4).2.1 H3.out rfl (by simp) _ _ _ _ _)
  | true =>
    rw [if_neg (by simp)]
    have hkl : dpos p o.dev < p.devs.length := (dpos_lt (fit_iff.1 hpc) hbb).1
    have hpl : placeI p o.dev = (dpos p o.dev : Int) := by unfold placeI; rw [if_pos hbb]
    rw [hpl] at HPL
    obtain ⟨_, _, _, _, hnc⟩ : ∃ xs, w.ownsRow base 36 5 (.slice A p.devs.length c) p.devs.length xs ∧ True ∧ True ∧ p.devs.length ≤ c := by
      obtain ⟨xs, r1, _⟩ := h3
      refine ⟨xs, r1, trivial, trivial, ?_⟩
      obtain ⟨_, c', e, h⟩ := own_form0 r1
      injection e with _ _ e3
      rw [e3]; exact h
    clear h3 hpc hcr hbb hpl
    generalize hkk : dpos p o.dev = k at *
    clear hkk
    generalize hl0 : p.devs.length = n at *
    have hl := Lib.hid hl0
    clear hl0
    have hp0 : ¬ ((k : Int) < 0) := by omega
    go_enter Tryz.func31, Tryz.ntmps31
    go_upto_region 1 with fail
    generalize ((w.alloc (.cells #[.int .i64 p.tx, .int .i64 p.time, .int .i64 p.unit, .int .i64 p.data, .slice A n c] 24)).alloc (.cells #[.int .i64 o.kind, .int .i64 o.dev, .int .i64 o.arg, .int .i64 o.n] 48)).alloc (.cells #[.int .i64 0, .int .i64 0, .int .i64 0, .int .i64 0, .slice none 0 0] 24) = w3 at *
    have hk3 := Below.refl w3.heap.size w3
    obtain ⟨x0, x1, x2, x3, x4⟩ := (HAH.out w3 hk3).1.2.1.cells
    obtain ⟨y0, y1, y2, y3⟩ := (HAH.out w3 hk3).1.2.2.1.cells
    obtain ⟨z0, z1, z2, z3, z4⟩ := (HAH.out w3 hk3).1.2.2.2.1.cells
    have f0 := (HAH.out w3 hk3).1.2.2.2.1.free 0
    have f1 := (HAH.out w3 hk3).1.2.2.2.1.free 1
    have f2 := (HAH.out w3 hk3).1.2.2.2.1.free 2
    have f3 := (HAH.out w3 hk3).1.2.2.2.1.free 3
    have f4 := (HAH.out w3 hk3).1.2.2.2.1.free 4
    go_wp2_with (go_at_call 55; (have hx := HPL.out w3 (HAH.out w3 hk3).1.1.size (HAH.out w3 hk3).2.2.1; with_reducible refine hx.mono ?_; clear hx); rintro e w4 ⟨rfl, hk4⟩; clear x0 x1 x2 x3 x4 y0 y1 y2 y3 z0 z1 z2 z3 z4 f0 f1 f2 f3 f4; obtain ⟨x0, x1, x2, x3, x4⟩ := (HAH.out w4 hk4).1.2.1.cells; obtain ⟨y0, y1, y2, y3⟩ := (HAH.out w4 hk4).1.2.2.1.cells; obtain ⟨z0, z1, z2, z3, z4⟩ := (HAH.out w4 hk4).1.2.2.2.1.cells; have f0 := (HAH.out w4 hk4).1.2.2.2.1.free 0; have f1 := (HAH.out w4 hk4).1.2.2.2.1.free 1; have f2 := (HAH.out w4 hk4).1.2.2.2.1.free 2; have f3 := (HAH.out w4 hk4).1.2.2.2.1.free 3; have f4 := (HAH.out w4 hk4).1.2.2.2.1.free 4)
    have hz4 := (HAH.out w4 hk4).1.2.2.2.2
    obtain ⟨xs, hrow, hc, hap⟩ := (HAH.out w4 hk4).2.1
    have hxs := own_len hrow
    rw [hl.out] at hxs
    have HXS := Lib.hid hxs
    have HRC := Lib.hid (And.intro hc hap)
    have HONE := Lib.hid (devs_one (own_len hrow) (fun j hj => ⟨(hc j hj).1, (hc j hj).2.1⟩))
    rw [hl.out] at hrow
    have HRW := Lib.hid (fun w' (hB : Below w4.heap.size w4 w') => own_src (own_below hrow hB (fun x hx => (hrow.lt x hx).2)))
    have HT5 := Lib.hid (show (xs.take (k * 5)).length = k * 5 by rw [List.length_take, hxs]; omega)
    have HD5 := Lib.hid (show (xs.drop ((k + 1) * 5)).length = (n - (k + 1)) * 5 by rw [List.length_drop, hxs]; omega)
    have hki : (k : Int) ≤ (c : Int) := by omega
    have hkj : (k : Int) + 1 ≤ (n : Int) := by omega
    have hkj0 : 0 ≤ (k : Int) + 1 := by omega
    have hwk : IntKind.i64.wrap ((k : Int) + 1) = ((k + 1 : Nat) : Int) := IntWalk.i64_in _ (by omega)
    clear hxs hc hap hrow x0 x1 x2 x3 x4 y0 y1 y2 y3 z0 z1 z2 z3 z4 f0 f1 f2 f3 f4
    refine wp_region_till (T := fun j => j == 13) (S := fun w' => Below w4.heap.size w4 w') (by kernel_rfl) (Below.refl w4.heap.size w4).drew (fun hHeld => ?_)
    obtain ⟨w101, hw0⟩ : ∃ x, w4.drew = x := ⟨_, rfl⟩
    rw [hw0] at hHeld ⊢
    have hkA : Below w4.heap.size w4 w101 := hHeld
    clear hHeld hw0
    refine wpTill_put 1 27 (oi := _) (v := ?_) rfl rfl (by kernel_rfl) (by kernel_rfl) (by kernel_rfl) (by kernel_rfl) (fun _ _ _ h => h) (by rfl) hkA ?_ ?_
    rotate_left
    · (intro w2' hSw; go_simp; (try with_reducible rfl))
    (try simp only [Act.put, List.setIfInBounds_toArray, List.set_cons_zero, List.set_cons_succ])
    refine wpTill_put 2 28 (oi := _) (v := ?_) rfl rfl (by kernel_rfl) (by kernel_rfl) (by kernel_rfl) (by kernel_rfl) (fun _ _ _ h => h) (by rfl) hkA ?_ ?_
    rotate_left
    · (intro w2' hSw; obtain ⟨x0, x1, x2, x3, x4⟩ := (HAH.out w2' (hk4.trans (Below.mono hSw hk4.size))).1.2.1.cells; go_simp; (try with_reducible rfl))
    (try simp only [Act.put, List.setIfInBounds_toArray, List.set_cons_zero, List.set_cons_succ])
    refine wpTill_put 3 29 (oi := _) (v := ?_) rfl rfl (by kernel_rfl) (by kernel_rfl) (by kernel_rfl) (by kernel_rfl) (fun _ _ _ h => h) (by rfl) hkA ?_ ?_
    rotate_left
    · (intro w2' hSw; go_simp; (try with_reducible rfl))
    (try simp only [Act.put, List.setIfInBounds_toArray, List.set_cons_zero, List.set_cons_succ])
    refine wpTill_put 4 30 (oi := _) (v := ?_) rfl rfl (by kernel_rfl) (by kernel_rfl) (by kernel_rfl) (by kernel_rfl) (fun _ _ _ h => h) (by rfl) hkA ?_ ?_
    rotate_left
    · (intro w2' hSw; go_simp; (try with_reducible rfl))
    (try simp only [Act.put, List.setIfInBounds_toArray, List.set_cons_zero, List.set_cons_succ])
    refine wpTill_put 6 32 (oi := _) (v := ?_) rfl rfl (by kernel_rfl) (by kernel_rfl) (by kernel_rfl) (by kernel_rfl) (fun _ _ _ h => h) (by rfl) hkA ?_ ?_
    rotate_left
    · (intro w2' hSw; go_simp; (try with_reducible rfl))
    (try simp only [Act.put, List.setIfInBounds_toArray, List.set_cons_zero, List.set_cons_succ])
    refine wpTill_put 7 33 (oi := _) (v := ?_) rfl rfl (by kernel_rfl) (by kernel_rfl) (by kernel_rfl) (by kernel_rfl) (fun _ _ _ h => h) (by rfl) hkA ?_ ?_
    rotate_left
    · (intro w2' hSw; obtain ⟨x0, x1, x2, x3, x4⟩ := (HAH.out w2' (hk4.trans (Below.mono hSw hk4.size))).1.2.1.cells; go_simp; (try with_reducible rfl))
    (try simp only [Act.put, List.setIfInBounds_toArray, List.set_cons_zero, List.set_cons_succ])
    refine wpTill_put 8 34 (oi := _) (v := ?_) rfl rfl (by kernel_rfl) (by kernel_rfl) (by kernel_rfl) (by kernel_rfl) (fun _ _ _ h => h) (by rfl) hkA ?_ ?_
    rotate_left
    · (intro w2' hSw; go_simp; (try with_reducible rfl))
    (try simp only [Act.put, List.setIfInBounds_toArray, List.set_cons_zero, List.set_cons_succ])
    refine wpTill_put 9 35 (oi := _) (v := ?_) rfl rfl (by kernel_rfl) (by kernel_rfl) (by kernel_rfl) (by kernel_rfl) (fun _ _ _ h => h) (by rfl) hkA ?_ ?_
    rotate_left
    · (intro w2' hSw; go_simp; (try with_reducible rfl))
    (try simp only [Act.put, List.setIfInBounds_toArray, List.set_cons_zero, List.set_cons_succ])
    refine wpTill_put 10 36 (oi := _) (v := ?_) rfl rfl (by kernel_rfl) (by kernel_rfl) (by kernel_rfl) (by kernel_rfl) (fun _ _ _ h => h) (by rfl) hkA ?_ ?_
    rotate_left
    · (intro w2' hSw; go_simp; (try with_reducible rfl))
    (try simp only [Act.put, List.setIfInBounds_toArray, List.set_cons_zero, List.set_cons_succ])
    refine wpTill_one 0 (o := _) (by kernel_rfl) rfl (fun K hK => ?_)
    go_simp
    obtain ⟨w102, hwn⟩ : ∃ x, w101.alloc (.cells #[] 36) = x := ⟨_, rfl⟩
    have hBn : Below w101.heap.size w101 w102 := by rw [← hwn]; exact (Below.refl _ _).alloc (Nat.le_refl _) _
    have b0 : w102.heap[w101.heap.size]? = some (.cells #[] 36) := by rw [← hwn]; exact heap_alloc_new w101 _
    have hge0 := hkA.size
    have hz0 : w101.heap.size < w102.heap.size := by rw [← hwn]; simp
    have hkA := hkA.trans (hBn.mono hkA.size)
    rw [hwn]
    clear hwn hBn
    refine hK.out _ _ (fun _ => hkA) (fun _ => ?_)
    clear hK K
    (try simp only [Act.put, List.setIfInBounds_toArray, List.set_cons_zero, List.set_cons_succ])
    refine wpTill_one 5 (o := _) (by kernel_rfl) rfl (fun K hK => ?_)
    have hsr := HRW.out w102 hkA
    refine step_append_optB Tryz.underlying22 info_dev rfl (by omega) (by omega) rfl (.tmp 26) (.tmp 30) rfl (w.heap.size + 3) (.slice (some ⟨w101.heap.size, 0, none⟩) 0 0) 0 [] rfl (made0 b0 (by omega)) A k c (xs.take (k * 5)) rfl HT5.out (src_takeX _ hsr.1) (one_take HONE.out) (by omega) (by omega) (fun h => by have := hsr.2 h; omega) ?_
    intro A5 c5 w103 ho5 hg5 hb5
    rw [Nat.zero_add, List.nil_append] at ho5
    rw [Nat.zero_add] at hb5
    have HB5 := Lib.hid (app_step hkA (app_lo hge0) hg5 hb5)
    have HO5 := Lib.hid ho5
    have hkA := HB5.out.1
    clear ho5 hg5 hb5 hsr
    simp only [Nat.zero_add]
    refine hK.out _ _ (fun _ => hkA) (fun _ => ?_)
    clear hK K
    (try simp only [Act.put, List.setIfInBounds_toArray, List.set_cons_zero, List.set_cons_succ])
    refine wpTill_one 11 (o := _) (by kernel_rfl) rfl (fun K hK => ?_)
    have hdr := src_dropX (k + 1) (by omega) hnc HXS.out (HRW.out w103 hkA)
    refine step_append_optB Tryz.underlying22 info_dev rfl (by omega) (by omega) rfl (.tmp 31) (.tmp 36) rfl (w.heap.size + 3) (.slice A5 k c5) k (xs.take (k * 5)) rfl HO5.out _ (n - (k + 1)) (c - (k + 1)) (xs.drop ((k + 1) * 5)) rfl HD5.out hdr.1 (one_drop HONE.out) (by omega) (by have := hkA.size; omega) hdr.2 ?_
    intro A6 c6 w104 ho6 hg6 hb6
    have HB6 := Lib.hid (app_step hkA HB5.out.2 hg6 hb6)
    have HO6 := Lib.hid ho6
    have hkA := HB6.out.1
    clear ho6 hg6 hb6 hdr
    refine hK.out _ _ (fun _ => hkA) (fun _ => ?_)
    clear hK K
    (try simp only [Act.put, List.setIfInBounds_toArray, List.set_cons_zero, List.set_cons_succ])
    refine wpTill_put 12 38 (oi := _) (v := ?_) rfl rfl (by kernel_rfl) (by kernel_rfl) (by kernel_rfl) (by kernel_rfl) (fun _ _ _ h => h) (by rfl) hkA ?_ ?_
    rotate_left
    · (intro w2' hSw; go_simp; (try with_reducible rfl))
    (try simp only [Act.put, List.setIfInBounds_toArray, List.set_cons_zero, List.set_cons_succ])
    refine wpTill_one 13 (o := _) (by kernel_rfl) rfl (fun K hK => ?_)
    obtain ⟨x0, x1, x2, x3, x4⟩ := (HAH.out w104 (hk4.trans (hkA.mono hk4.size))).1.2.1.cells
    have fp := (HAH.out w104 (hk4.trans (hkA.mono hk4.size))).1.2.1.free 4
    go_simp
    obtain ⟨w105, hwn⟩ : ∃ x, w104.setCell ⟨w.heap.size, 4, none⟩ (.slice A6 (k + (n - (k + 1))) c6) = x := ⟨_, rfl⟩
    have HFF := del_fin (HAH.out w4 hk4).1 H3.out hl.out hkl hb HXS.out HRC.out.1 HRC.out.2 HB6.out.1 HB6.out.2 HO6.out w105 hwn
    rw [hwn]
    clear hwn x0 x1 x2 x3 x4 fp
    refine hK.out _ _ (fun h => by cases h) (fun _ => ?_)
    clear hK K
    (try simp only [Act.put, List.setIfInBounds_toArray, List.set_cons_zero, List.set_cons_succ])
    refine wpTill_done (by kernel_rfl) ?_ _
    generalize (if c = k + 1 then A else Option.map (fun x => x.add ((k + 1) * 5)) A) = ad
    obtain ⟨t1, t2, t3⟩ := HFF
    have HT3 := Lib.hid t3
    clear t3
    obtain ⟨x0, x1, x2, x3, x4⟩ := t1.cells
    obtain ⟨z0, z1, z2, z3, z4⟩ := t2.cells
    have f0 := t2.free 0
    have f1 := t2.free 1
    have f2 := t2.free 2
    have f3 := t2.free 3
    have f4 := t2.free 4
    go_wp2_with fail
    all_goals
      obtain ⟨q0, q1, q2, q3, q4⟩ := cells5 (set5 t2 (.int .i64 p.tx) (.int .i64 p.time) (.int .i64 p.unit) (.int .i64 p.data) (.slice A6 (k + (n - (k + 1))) c6))
      exact bodyPost_ret (v := .tuple #[.agg #[.int .i64 p.tx, .int .i64 p.time, .int .i64 p.unit, .int .i64 p.data, .slice A6 (k + (n - (k + 1))) c6], .int .i64 0]) (by simp [results, Tryz.results31, go_sem, q0, q1, q2, q3, q4]) rfl (HT3.out _ _ _ _ _)
theorem rdo_any (w : World) (base c : Nat) (p : Pool) (A : Option Addr) (M : Nat → Value) (o : Mop) (h3 : OwnDevs w base (.slice A p.devs.length c) p.devs M) (hb : base ≤ w.heap.size) (hpc : poolChk p = 0) :
    Calls Tryz.prog 31 #[.agg #[.int .i64 p.tx, .int .i64 p.time, .int .i64 p.unit, .int .i64 p.data, .slice A p.devs.length c], mopV o] w (DoR2 w base (.slice A p.devs.length c) p.devs.length M (doF p o)) := by
  by_cases h1 : o.kind = 1
  · have e : doF p o = createF p o := by unfold doF; rw [if_pos h1]
    rw [e]
    refine rdo_create w base c p A M o h3 _ (.inl h1) (fun w' hz h => ?_)
    by_cases hf : freshE p o.dev = 0
    · exact (rcreate_one w' base c p A M o h (by omega) hpc hf h1).mono fun _ _ h => h.weak
    · exact (rcreate_far w' base c p A M o h hpc (createF p o) hf (by unfold createF; rw [if_pos hf])).mono fun _ _ h => h.weak
  by_cases h2 : o.kind = 2
  · have e : doF p o = snapF p o := by unfold doF; rw [if_neg h1, if_pos h2]
    rw [e]
    refine rdo_create w base c p A M o h3 _ (.inr h2) (fun w' hz h => ?_)
    by_cases hf : freshE p o.dev = 0
    · exact (rcreate_snap w' base c p A M o h (by omega) hpc hf h2).mono fun _ _ h => h.weak
    · exact (rcreate_far w' base c p A M o h hpc (snapF p o) hf (by unfold snapF; rw [if_pos hf])).mono fun _ _ h => h.weak
  by_cases h3' : o.kind = 3
  · have e : doF p o = removeF p o := by unfold doF; rw [if_neg h1, if_neg h2, if_pos h3']
    rw [e]
    exact rdo_remove w base c p A M o h3 hb hpc h3'
  by_cases h4 : o.kind = 4
  · have e : doF p o = writeF p o := by unfold doF; rw [if_neg h1, if_neg h2, if_neg h3', if_pos h4]
    rw [e]
    refine rdo_blocks w base c p A M o h3 _ (.inl h4) (fun w' hz h => ?_)
    by_cases hf : blkE p o = 0
    · exact rwrites_any w' base c p A M o h (by omega) hpc hf h4
    · exact (rblocks_far w' base c p A M o h hpc (writeF p o) hf (by unfold writeF; rw [if_pos hf])).mono fun _ _ h => h.weak
  by_cases h5 : o.kind = 5
  · have e : doF p o = discardF p o := by unfold doF; rw [if_neg h1, if_neg h2, if_neg h3', if_neg h4, if_pos h5]
    rw [e]
    refine rdo_blocks w base c p A M o h3 _ (.inr h5) (fun w' hz h => ?_)
    by_cases hf : blkE p o = 0
    · exact (rdiscard_any w' base c p A M o h (by omega) hpc hf h5).mono fun _ _ h => h.weak
    · exact (rblocks_far w' base c p A M o h hpc (discardF p o) hf (by unfold discardF; rw [if_pos hf])).mono fun _ _ h => h.weak
  by_cases h6 : o.kind = 6
  · have e : doF p o = tickF p := by unfold doF; rw [if_neg h1, if_neg h2, if_neg h3', if_neg h4, if_neg h5, if_pos h6]
    rw [e]
    exact rdo_tick w base c p A M o h3 hpc h6
  by_cases h7 : o.kind = 7
  · have e : doF p o = growF p o := by unfold doF; rw [if_neg h1, if_neg h2, if_neg h3', if_neg h4, if_neg h5, if_neg h6, if_pos h7]
    rw [e]
    exact rdo_grow w base c p A M o h3 h7
  · have e : doF p o = (1, p) := by unfold doF; rw [if_neg h1, if_neg h2, if_neg h3', if_neg h4, if_neg h5, if_neg h6, if_neg h7]
    rw [e]
    exact rdo_none w base c p A M o h3 h1 h2 h3' h4 h5 h6 h7
end Go.Proofs.YtcdfbpdejbpgjaaGreat

/- The reference's Apply (scantlingref49). Condition: the pool's numbers fit into Go's int. -/
namespace Go.Proofs.YtcdfbpdejbpgjaaGreat

open Go.RowKit
attribute [local go_sem] Oper.semAt_some
set_option linter.unusedSimpArgs false
set_option linter.unusedVariables false

/-- What Apply finds. -/
def ApAhead (n : Nat) (w w3 : World) (c : Nat) (p : Pool) (A : Option Addr) (o : Mop) : Prop :=
  ∀ w', Below w3.heap.size w3 w' → Three w w' p A n c o ∧ IsPool w' (Lt w.heap.size) (.agg #[.int .i64 p.tx, .int .i64 p.time, .int .i64 p.unit, .int .i64 p.data, .slice A n c]) p
theorem ap_ahead {w w3 : World} {c : Nat} {p : Pool} {A : Option Addr} {o : Mop} {S : Nat → Prop} (hS : ∀ b, S b → b < w.heap.size) (h : IsPool w S (.agg #[.int .i64 p.tx, .int .i64 p.time, .int .i64 p.unit, .int .i64 p.data, .slice A p.devs.length c]) p) (T : Three w w3 p A p.devs.length c o) : ApAhead p.devs.length w w3 c p A o := by
  intro w' hB
  have hT := T.below hB
  exact ⟨hT, pool_keep h hS (keep_below hT.1 hS)⟩
/-- What lies behind Apply's call of do. -/
def DoneAt (w w4 wx : World) (r : Int × Pool) (g : Nat) (A : Option Addr) (c : Nat) (M : Nat → Value) (q : Pool) (bs : Nat) : Prop :=
  RBox wx g (.int .i64 q.tx) (.int .i64 q.time) (.int .i64 q.unit) (.int .i64 q.data) (.slice A q.devs.length c) ∧ (r.1 = 0 → q = r.2 ∧ OwnDevs wx bs (.slice A q.devs.length c) q.devs M) ∧ w4.heap.size ≤ bs ∧ Below w4.heap.size w4 wx ∧ w4.heap.size ≤ g ∧ w.heap.size ≤ w4.heap.size
set_option maxRecDepth 100000 in
set_option maxHeartbeats 3200000 in
theorem rapply_both (w : World) (S : Nat → Prop) (v : Value) (p : Pool) (o : Mop) (hS : ∀ b, S b → b < w.heap.size) (h : IsPool w S v p) (hok : p.ok) :
    Calls Tryz.prog 14 #[v, mopV o] w (fun e w' => ApIs w (applyF p o) e w' ∧ ((applyF p o).1 = 0 → ApOwn w (applyF p o).2 e w')) := by
  have hp0 := h
  obtain ⟨A, c, rfl, _, _⟩ := h
  have T := three_new w p A p.devs.length c o
  dsimp only [poolBox, op9Box, zeroBox] at T
  have HAH := Lib.hid (ap_ahead hS hp0 T)
  have HCK := Lib.hid (fun w' (hz : w.heap.size ≤ w'.heap.size) (h : IsPool w' (Lt w.heap.size) (.agg #[.int .i64 p.tx, .int .i64 p.time, .int .i64 p.unit, .int .i64 p.data, .slice A p.devs.length c]) p) => rcheck_any w' (Lt w.heap.size) _ p (fun b (hb : b < w.heap.size) => Nat.lt_of_lt_of_le hb hz) h hok)
  clear hp0 hok
  by_cases hc : poolChk p = 0
  · have hln := pool_len hc
    have HCOP := Lib.hid (fun w' (hz : w.heap.size ≤ w'.heap.size) (h : IsPool w' (Lt w.heap.size) (.agg #[.int .i64 p.tx, .int .i64 p.time, .int .i64 p.unit, .int .i64 p.data, .slice A p.devs.length c]) p) => copied_any w' (Lt w.heap.size) _ p (fun b (hb : b < w.heap.size) => Nat.lt_of_lt_of_le hb hz) h hln (fun k hk => maps_len hc hk))
    have HDO := Lib.hid (fun w' base c' A' M' (h : OwnDevs w' base (.slice A' p.devs.length c') p.devs M') (hb : base ≤ w'.heap.size) => rdo_any w' base c' p A' M' o h hb hc)
    have hr : applyF p o = if (doF p o).1 ≠ 0 then ((doF p o).1, pool0) else (0, (doF p o).2) := by unfold applyF; rw [if_neg (by simpa using hc)]
    rw [hr]
    rw [hc] at HCK
    clear hc hr
    generalize doF p o = r at *
    generalize hrr : (if r.1 ≠ 0 then (r.1, pool0) else (0, r.2) : Int × Pool) = rr
    have HRR := Lib.hid hrr
    clear hrr
    generalize hl0 : p.devs.length = n at *
    have hl := Lib.hid hl0
    clear hl0
    go_enter Tryz.func14, Tryz.ntmps14
    go_upto_region 1 with fail
    generalize ((w.alloc (.cells #[.int .i64 p.tx, .int .i64 p.time, .int .i64 p.unit, .int .i64 p.data, .slice A n c] 24)).alloc (.cells #[.int .i64 o.kind, .int .i64 o.dev, .int .i64 o.arg, .int .i64 o.n] 48)).alloc (.cells #[.int .i64 0, .int .i64 0, .int .i64 0, .int .i64 0, .slice none 0 0] 24) = w3 at *
    have hk3 := Below.refl w3.heap.size w3
    obtain ⟨x0, x1, x2, x3, x4⟩ := (HAH.out w3 hk3).1.2.1.cells
    obtain ⟨y0, y1, y2, y3⟩ := (HAH.out w3 hk3).1.2.2.1.cells
    obtain ⟨z0, z1, z2, z3, z4⟩ := (HAH.out w3 hk3).1.2.2.2.1.cells
    have f0 := (HAH.out w3 hk3).1.2.2.2.1.free 0
    have f1 := (HAH.out w3 hk3).1.2.2.2.1.free 1
    have f2 := (HAH.out w3 hk3).1.2.2.2.1.free 2
    have f3 := (HAH.out w3 hk3).1.2.2.2.1.free 3
    have f4 := (HAH.out w3 hk3).1.2.2.2.1.free 4
    go_upto_region 3 with (go_at_call 30; (have hx := HCK.out w3 (HAH.out w3 hk3).1.1.size (HAH.out w3 hk3).2; with_reducible refine hx.mono ?_; clear hx); rintro e w4 ⟨rfl, hk4⟩; clear x0 x1 x2 x3 x4 y0 y1 y2 y3 z0 z1 z2 z3 z4 f0 f1 f2 f3 f4; obtain ⟨x0, x1, x2, x3, x4⟩ := (HAH.out w4 hk4).1.2.1.cells; obtain ⟨y0, y1, y2, y3⟩ := (HAH.out w4 hk4).1.2.2.1.cells; obtain ⟨z0, z1, z2, z3, z4⟩ := (HAH.out w4 hk4).1.2.2.2.1.cells; have f0 := (HAH.out w4 hk4).1.2.2.2.1.free 0; have f1 := (HAH.out w4 hk4).1.2.2.2.1.free 1; have f2 := (HAH.out w4 hk4).1.2.2.2.1.free 2; have f3 := (HAH.out w4 hk4).1.2.2.2.1.free 3; have f4 := (HAH.out w4 hk4).1.2.2.2.1.free 4)
    have hz4 := (HAH.out w4 hk4).1.2.2.2.2
    clear x0 x1 x2 x3 x4 y0 y1 y2 y3 z0 z1 z2 z3 z4 f0 f1 f2 f3 f4
    go_cut [6, 7] (fun s6 s7 wx => ∃ g A3 c3 M3 q3 bs, s6 = .pointer (some ⟨g, 0, none⟩) ∧ s7 = .int .i64 r.1 ∧ DoneAt w w4 wx r g A3 c3 M3 q3 bs)
    case first =>
      refine wp_region_till (T := fun _ => false) (S := fun w' => Below w4.heap.size w4 w') (by kernel_rfl) (Below.refl w4.heap.size w4).drew (fun hHeld => ?_)
      obtain ⟨w101, hw0⟩ : ∃ x, w4.drew = x := ⟨_, rfl⟩
      rw [hw0] at hHeld ⊢
      have hkA : Below w4.heap.size w4 w101 := hHeld
      clear hHeld hw0
      refine wpTill_put 0 15 (oi := _) (v := ?_) rfl rfl (by kernel_rfl) (by kernel_rfl) (by kernel_rfl) (by kernel_rfl) (fun _ _ _ h => h) (by rfl) hkA ?_ ?_
      rotate_left
      · (intro w2' hSw; obtain ⟨x0, x1, x2, x3, x4⟩ := (HAH.out w2' (hk4.trans (Below.mono hSw hk4.size))).1.2.1.cells; go_simp; (try with_reducible rfl))
      (try simp only [Act.put, List.setIfInBounds_toArray, List.set_cons_zero, List.set_cons_succ])
      refine wpTill_put 2 17 (oi := _) (v := ?_) rfl rfl (by kernel_rfl) (by kernel_rfl) (by kernel_rfl) (by kernel_rfl) (fun _ _ _ h => h) (by rfl) hkA ?_ ?_
      rotate_left
      · (intro w2' hSw; obtain ⟨y0, y1, y2, y3⟩ := (HAH.out w2' (hk4.trans (Below.mono hSw hk4.size))).1.2.2.1.cells; go_simp; (try with_reducible rfl))
      (try simp only [Act.put, List.setIfInBounds_toArray, List.set_cons_zero, List.set_cons_succ])
      refine wpTill_two 1 7 (oi := _) (oj := _) (by kernel_rfl) rfl rfl (fun K hK => ?_) (fun K hK => ?_)
      · skip
        go_simp
        have hkw := hk4.trans (hkA.mono hk4.size)
        refine (HCOP.out w101 (HAH.out w101 hkw).1.1.size (HAH.out w101 hkw).2).mono ?_
        rintro e w102 ⟨A1, c1, M1, rfl, ho1, hBn⟩
        rw [hl.out] at ho1 ⊢
        obtain ⟨bs, hbs⟩ : ∃ x, w101.heap.size = x := ⟨_, rfl⟩
        have hbs0 : w4.heap.size ≤ bs := by rw [← hbs]; exact hkA.size
        have hbs2 : bs ≤ w102.heap.size := by rw [← hbs]; exact hBn.size
        rw [hbs] at ho1
        have hkA := hkA.trans (hBn.mono hkA.size)
        clear hkw hBn hbs
        refine hK.out _ _ (fun _ => hkA) (fun _ => ?_)
        clear hK K
        (try simp only [Act.put, List.setIfInBounds_toArray, List.set_cons_zero, List.set_cons_succ])
        refine wpTill_two 3 7 (oi := _) (oj := _) (by kernel_rfl) rfl rfl (fun K hK => ?_) (fun K hK => ?_)
        · skip
          go_simp
          refine (HDO.out w102 bs c1 A1 M1 ho1 hbs2).mono ?_
          rintro e w103 ⟨A3, c3, M3, q3, rfl, hq3, ht3⟩
          have hlo := own1_lt ho1 hl.out
          have hq3 : r.1 = 0 → q3 = r.2 ∧ OwnDevs w103 bs (.slice A3 q3.devs.length c3) q3.devs M3 := fun h => ⟨(hq3 h).1, (hq3 h).2.1⟩
          have hkA := hkA.trans (Touch.below ht3 (fun x hx => Nat.le_trans hbs0 (hlo x hx).1) hkA.size)
          clear ht3 hlo
          refine hK.out _ _ (fun _ => hkA) (fun _ => ?_)
          clear hK K
          (try simp only [Act.put, List.setIfInBounds_toArray, List.set_cons_zero, List.set_cons_succ])
          refine wpTill_put 4 14 (oi := _) (v := ?_) rfl rfl (by kernel_rfl) (by kernel_rfl) (by kernel_rfl) (by kernel_rfl) (fun _ _ _ h => h) (by rfl) hkA ?_ ?_
          rotate_left
          · (intro w2' hSw; go_simp; (try with_reducible rfl))
          (try simp only [Act.put, List.setIfInBounds_toArray, List.set_cons_zero, List.set_cons_succ])
          refine wpTill_put 5 19 (oi := _) (v := ?_) rfl rfl (by kernel_rfl) (by kernel_rfl) (by kernel_rfl) (by kernel_rfl) (fun _ _ _ h => h) (by rfl) hkA ?_ ?_
          rotate_left
          · (intro w2' hSw; go_simp; (try with_reducible rfl))
          (try simp only [Act.put, List.setIfInBounds_toArray, List.set_cons_zero, List.set_cons_succ])
          refine wpTill_put 6 20 (oi := _) (v := ?_) rfl rfl (by kernel_rfl) (by kernel_rfl) (by kernel_rfl) (by kernel_rfl) (fun _ _ _ h => h) (by rfl) hkA ?_ ?_
          rotate_left
          · (intro w2' hSw; go_simp; (try with_reducible rfl))
          (try simp only [Act.put, List.setIfInBounds_toArray, List.set_cons_zero, List.set_cons_succ])
          refine wpTill_one 7 (o := _) (by kernel_rfl) rfl (fun K hK => ?_)
          go_simp
          obtain ⟨w104, hwn⟩ : ∃ x, w103.alloc (.cells #[.int .i64 0, .int .i64 0, .int .i64 0, .int .i64 0, .slice none 0 0] 24) = x := ⟨_, rfl⟩
          have hBn : Below w103.heap.size w103 w104 := by rw [← hwn]; exact (Below.refl _ _).alloc (Nat.le_refl _) _
          have b7 : w104.heap[w103.heap.size]? = some (.cells #[.int .i64 0, .int .i64 0, .int .i64 0, .int .i64 0, .slice none 0 0] 24) := by rw [← hwn]; exact heap_alloc_new w103 _
          have hge7 := hkA.size
          have hz7 : w103.heap.size < w104.heap.size := by rw [← hwn]; simp
          have hkA := hkA.trans (hBn.mono hkA.size)
          rw [hwn]
          have hn3 := (show r.1 = 0 → ¬ Own1 (.slice A3 q3.devs.length c3) q3.devs.length M3 (w103.heap.size) from fun h e => by have h1 := own1_lt (hq3 h).2 rfl _ e; omega)
          have hq3 := (show r.1 = 0 → q3 = r.2 ∧ OwnDevs w104 bs (.slice A3 q3.devs.length c3) q3.devs M3 from fun h => ⟨(hq3 h).1, (hq3 h).2.keep hBn (Nat.le_refl _)⟩)
          clear hwn hBn
          refine hK.out _ _ (fun _ => hkA) (fun _ => ?_)
          clear hK K
          (try simp only [Act.put, List.setIfInBounds_toArray, List.set_cons_zero, List.set_cons_succ])
          refine wpTill_one 8 (o := _) (by kernel_rfl) rfl (fun K hK => ?_)
          obtain ⟨z0, z1, z2, z3, z4⟩ := cells5 b7
          have f0 := free_of b7 0
          have f1 := free_of b7 1
          have f2 := free_of b7 2
          have f3 := free_of b7 3
          have f4 := free_of b7 4
          go_simp
          obtain ⟨w105, hwn⟩ : ∃ x, (((((w104.setCell ⟨w103.heap.size, 0, none⟩ (.int .i64 q3.tx)).setCell ⟨w103.heap.size, 1, none⟩ (.int .i64 q3.time)).setCell ⟨w103.heap.size, 2, none⟩ (.int .i64 q3.unit)).setCell ⟨w103.heap.size, 3, none⟩ (.int .i64 q3.data)).setCell ⟨w103.heap.size, 4, none⟩ (.slice A3 q3.devs.length c3)) = x := ⟨_, rfl⟩
          have hD : DoneAt w w4 w105 r (w103.heap.size) A3 c3 M3 q3 bs := by
            rw [← hwn]
            exact ⟨set5 b7 _ _ _ _ _, fun h => ⟨(hq3 h).1, kept5 (hq3 h).2 (far_own1 rfl (hn3 h)) _ _ _ _ _⟩, hbs0, below5 hkA (by omega) _ _ _ _ _, by omega, by omega⟩
          have hkA := hD.2.2.2.1
          rw [hwn]
          clear z0 z1 z2 z3 z4 f0 f1 f2 f3 f4 hwn b7
          refine hK.out _ _ (fun _ => hkA) (fun _ => ?_)
          clear hK K
          (try simp only [Act.put, List.setIfInBounds_toArray, List.set_cons_zero, List.set_cons_succ])
          refine wpTill_put 9 7 (oi := _) (v := ?_) rfl rfl (by kernel_rfl) (by kernel_rfl) (by kernel_rfl) (by kernel_rfl) (fun _ _ _ h => h) (by rfl) hkA ?_ ?_
          rotate_left
          · (intro w2' hSw; go_simp; (try with_reducible rfl))
          (try simp only [Act.put, List.setIfInBounds_toArray, List.set_cons_zero, List.set_cons_succ])
          refine wpTill_done (by kernel_rfl) ?_ _
          go_wp2_with fail
          go_meet
          exact ⟨_, A3, c3, M3, q3, bs, rfl, rfl, hD⟩
        · skip
          go_simp
          obtain ⟨w106, hwn⟩ : ∃ x, w102.alloc (.cells #[.int .i64 0, .int .i64 0, .int .i64 0, .int .i64 0, .slice none 0 0] 24) = x := ⟨_, rfl⟩
          have hBn : Below w102.heap.size w102 w106 := by rw [← hwn]; exact (Below.refl _ _).alloc (Nat.le_refl _) _
          have b7 : w106.heap[w102.heap.size]? = some (.cells #[.int .i64 0, .int .i64 0, .int .i64 0, .int .i64 0, .slice none 0 0] 24) := by rw [← hwn]; exact heap_alloc_new w102 _
          have hge7 := hkA.size
          have hz7 : w102.heap.size < w106.heap.size := by rw [← hwn]; simp
          have hkA := hkA.trans (hBn.mono hkA.size)
          rw [hwn]
          have hng := (show ¬ Own1 (.slice A1 n c1) n M1 (w102.heap.size) from fun e => by have h1 := own1_lt ho1 hl.out _ e; omega)
          have ho1 := ho1.keep hBn (Nat.le_refl _)
          have hbs2 := Nat.le_trans hbs2 hBn.size
          clear hwn hBn
          refine hK.out _ _ (fun _ => hkA) (fun _ => ?_)
          clear hK K
          (try simp only [Act.put, List.setIfInBounds_toArray, List.set_cons_zero, List.set_cons_succ])
          refine wpTill_one 3 (o := _) (by kernel_rfl) rfl (fun K hK => ?_)
          go_simp
          refine (HDO.out w106 bs c1 A1 M1 ho1 hbs2).mono ?_
          rintro e w107 ⟨A3, c3, M3, q3, rfl, hq3, ht3⟩
          have hlo := own1_lt ho1 hl.out
          have hn3 : r.1 = 0 → ¬ Own1 (.slice A3 q3.devs.length c3) q3.devs.length M3 (w102.heap.size) := fun h e => (((hq3 h).2.2 _ e).elim hng (fun h2 => by have h3 := box_lt b7; omega))
          have b7 := (ht3.block (box_lt b7) hng).trans b7
          have hq3 : r.1 = 0 → q3 = r.2 ∧ OwnDevs w107 bs (.slice A3 q3.devs.length c3) q3.devs M3 := fun h => ⟨(hq3 h).1, (hq3 h).2.1⟩
          have hkA := hkA.trans (Touch.below ht3 (fun x hx => Nat.le_trans hbs0 (hlo x hx).1) hkA.size)
          clear ht3 hlo
          refine hK.out _ _ (fun _ => hkA) (fun _ => ?_)
          clear hK K
          (try simp only [Act.put, List.setIfInBounds_toArray, List.set_cons_zero, List.set_cons_succ])
          refine wpTill_put 4 14 (oi := _) (v := ?_) rfl rfl (by kernel_rfl) (by kernel_rfl) (by kernel_rfl) (by kernel_rfl) (fun _ _ _ h => h) (by rfl) hkA ?_ ?_
          rotate_left
          · (intro w2' hSw; go_simp; (try with_reducible rfl))
          (try simp only [Act.put, List.setIfInBounds_toArray, List.set_cons_zero, List.set_cons_succ])
          refine wpTill_put 5 19 (oi := _) (v := ?_) rfl rfl (by kernel_rfl) (by kernel_rfl) (by kernel_rfl) (by kernel_rfl) (fun _ _ _ h => h) (by rfl) hkA ?_ ?_
          rotate_left
          · (intro w2' hSw; go_simp; (try with_reducible rfl))
          (try simp only [Act.put, List.setIfInBounds_toArray, List.set_cons_zero, List.set_cons_succ])
          refine wpTill_put 6 20 (oi := _) (v := ?_) rfl rfl (by kernel_rfl) (by kernel_rfl) (by kernel_rfl) (by kernel_rfl) (fun _ _ _ h => h) (by rfl) hkA ?_ ?_
          rotate_left
          · (intro w2' hSw; go_simp; (try with_reducible rfl))
          (try simp only [Act.put, List.setIfInBounds_toArray, List.set_cons_zero, List.set_cons_succ])
          refine wpTill_one 8 (o := _) (by kernel_rfl) rfl (fun K hK => ?_)
          obtain ⟨z0, z1, z2, z3, z4⟩ := cells5 b7
          have f0 := free_of b7 0
          have f1 := free_of b7 1
          have f2 := free_of b7 2
          have f3 := free_of b7 3
          have f4 := free_of b7 4
          go_simp
          obtain ⟨w108, hwn⟩ : ∃ x, (((((w107.setCell ⟨w102.heap.size, 0, none⟩ (.int .i64 q3.tx)).setCell ⟨w102.heap.size, 1, none⟩ (.int .i64 q3.time)).setCell ⟨w102.heap.size, 2, none⟩ (.int .i64 q3.unit)).setCell ⟨w102.heap.size, 3, none⟩ (.int .i64 q3.data)).setCell ⟨w102.heap.size, 4, none⟩ (.slice A3 q3.devs.length c3)) = x := ⟨_, rfl⟩
          have hD : DoneAt w w4 w108 r (w102.heap.size) A3 c3 M3 q3 bs := by
            rw [← hwn]
            exact ⟨set5 b7 _ _ _ _ _, fun h => ⟨(hq3 h).1, kept5 (hq3 h).2 (far_own1 rfl (hn3 h)) _ _ _ _ _⟩, hbs0, below5 hkA (by omega) _ _ _ _ _, by omega, by omega⟩
          have hkA := hD.2.2.2.1
          rw [hwn]
          clear z0 z1 z2 z3 z4 f0 f1 f2 f3 f4 hwn b7
          refine hK.out _ _ (fun _ => hkA) (fun _ => ?_)
          clear hK K
          (try simp only [Act.put, List.setIfInBounds_toArray, List.set_cons_zero, List.set_cons_succ])
          refine wpTill_put 9 7 (oi := _) (v := ?_) rfl rfl (by kernel_rfl) (by kernel_rfl) (by kernel_rfl) (by kernel_rfl) (fun _ _ _ h => h) (by rfl) hkA ?_ ?_
          rotate_left
          · (intro w2' hSw; go_simp; (try with_reducible rfl))
          (try simp only [Act.put, List.setIfInBounds_toArray, List.set_cons_zero, List.set_cons_succ])
          refine wpTill_done (by kernel_rfl) ?_ _
          go_wp2_with fail
          go_meet
          exact ⟨_, A3, c3, M3, q3, bs, rfl, rfl, hD⟩
      · skip
        go_simp
        obtain ⟨w109, hwn⟩ : ∃ x, w101.alloc (.cells #[.int .i64 0, .int .i64 0, .int .i64 0, .int .i64 0, .slice none 0 0] 24) = x := ⟨_, rfl⟩
        have hBn : Below w101.heap.size w101 w109 := by rw [← hwn]; exact (Below.refl _ _).alloc (Nat.le_refl _) _
        have b7 : w109.heap[w101.heap.size]? = some (.cells #[.int .i64 0, .int .i64 0, .int .i64 0, .int .i64 0, .slice none 0 0] 24) := by rw [← hwn]; exact heap_alloc_new w101 _
        have hge7 := hkA.size
        have hz7 : w101.heap.size < w109.heap.size := by rw [← hwn]; simp
        have hkA := hkA.trans (hBn.mono hkA.size)
        rw [hwn]
        clear hwn hBn
        refine hK.out _ _ (fun _ => hkA) (fun _ => ?_)
        clear hK K
        (try simp only [Act.put, List.setIfInBounds_toArray, List.set_cons_zero, List.set_cons_succ])
        refine wpTill_one 1 (o := _) (by kernel_rfl) rfl (fun K hK => ?_)
        go_simp
        have hkw := hk4.trans (hkA.mono hk4.size)
        refine (HCOP.out w109 (HAH.out w109 hkw).1.1.size (HAH.out w109 hkw).2).mono ?_
        rintro e w110 ⟨A1, c1, M1, rfl, ho1, hBn⟩
        rw [hl.out] at ho1 ⊢
        obtain ⟨bs, hbs⟩ : ∃ x, w109.heap.size = x := ⟨_, rfl⟩
        have hbs0 : w4.heap.size ≤ bs := by rw [← hbs]; exact hkA.size
        have hbs2 : bs ≤ w110.heap.size := by rw [← hbs]; exact hBn.size
        have hng : ¬ Own1 (.slice A1 n c1) n M1 (w101.heap.size) := fun e => by have h1 := own1_lt ho1 hl.out _ e; have h2 := box_lt b7; omega
        have b7 := box_up b7 hBn
        rw [hbs] at ho1
        have hkA := hkA.trans (hBn.mono hkA.size)
        clear hkw hBn hbs
        refine hK.out _ _ (fun _ => hkA) (fun _ => ?_)
        clear hK K
        (try simp only [Act.put, List.setIfInBounds_toArray, List.set_cons_zero, List.set_cons_succ])
        refine wpTill_one 3 (o := _) (by kernel_rfl) rfl (fun K hK => ?_)
        go_simp
        refine (HDO.out w110 bs c1 A1 M1 ho1 hbs2).mono ?_
        rintro e w111 ⟨A3, c3, M3, q3, rfl, hq3, ht3⟩
        have hlo := own1_lt ho1 hl.out
        have hn3 : r.1 = 0 → ¬ Own1 (.slice A3 q3.devs.length c3) q3.devs.length M3 (w101.heap.size) := fun h e => (((hq3 h).2.2 _ e).elim hng (fun h2 => by have h3 := box_lt b7; omega))
        have b7 := (ht3.block (box_lt b7) hng).trans b7
        have hq3 : r.1 = 0 → q3 = r.2 ∧ OwnDevs w111 bs (.slice A3 q3.devs.length c3) q3.devs M3 := fun h => ⟨(hq3 h).1, (hq3 h).2.1⟩
        have hkA := hkA.trans (Touch.below ht3 (fun x hx => Nat.le_trans hbs0 (hlo x hx).1) hkA.size)
        clear ht3 hlo
        refine hK.out _ _ (fun _ => hkA) (fun _ => ?_)
        clear hK K
        (try simp only [Act.put, List.setIfInBounds_toArray, List.set_cons_zero, List.set_cons_succ])
        refine wpTill_put 4 14 (oi := _) (v := ?_) rfl rfl (by kernel_rfl) (by kernel_rfl) (by kernel_rfl) (by kernel_rfl) (fun _ _ _ h => h) (by rfl) hkA ?_ ?_
        rotate_left
        · (intro w2' hSw; go_simp; (try with_reducible rfl))
        (try simp only [Act.put, List.setIfInBounds_toArray, List.set_cons_zero, List.set_cons_succ])
        refine wpTill_put 5 19 (oi := _) (v := ?_) rfl rfl (by kernel_rfl) (by kernel_rfl) (by kernel_rfl) (by kernel_rfl) (fun _ _ _ h => h) (by rfl) hkA ?_ ?_
        rotate_left
        · (intro w2' hSw; go_simp; (try with_reducible rfl))
        (try simp only [Act.put, List.setIfInBounds_toArray, List.set_cons_zero, List.set_cons_succ])
        refine wpTill_put 6 20 (oi := _) (v := ?_) rfl rfl (by kernel_rfl) (by kernel_rfl) (by kernel_rfl) (by kernel_rfl) (fun _ _ _ h => h) (by rfl) hkA ?_ ?_
        rotate_left
        · (intro w2' hSw; go_simp; (try with_reducible rfl))
        (try simp only [Act.put, List.setIfInBounds_toArray, List.set_cons_zero, List.set_cons_succ])
        refine wpTill_one 8 (o := _) (by kernel_rfl) rfl (fun K hK => ?_)
        obtain ⟨z0, z1, z2, z3, z4⟩ := cells5 b7
        have f0 := free_of b7 0
        have f1 := free_of b7 1
        have f2 := free_of b7 2
        have f3 := free_of b7 3
        have f4 := free_of b7 4
        go_simp
        obtain ⟨w112, hwn⟩ : ∃ x, (((((w111.setCell ⟨w101.heap.size, 0, none⟩ (.int .i64 q3.tx)).setCell ⟨w101.heap.size, 1, none⟩ (.int .i64 q3.time)).setCell ⟨w101.heap.size, 2, none⟩ (.int .i64 q3.unit)).setCell ⟨w101.heap.size, 3, none⟩ (.int .i64 q3.data)).setCell ⟨w101.heap.size, 4, none⟩ (.slice A3 q3.devs.length c3)) = x := ⟨_, rfl⟩
        have hD : DoneAt w w4 w112 r (w101.heap.size) A3 c3 M3 q3 bs := by
          rw [← hwn]
          exact ⟨set5 b7 _ _ _ _ _, fun h => ⟨(hq3 h).1, kept5 (hq3 h).2 (far_own1 rfl (hn3 h)) _ _ _ _ _⟩, hbs0, below5 hkA (by omega) _ _ _ _ _, by omega, by omega⟩
        have hkA := hD.2.2.2.1
        rw [hwn]
        clear z0 z1 z2 z3 z4 f0 f1 f2 f3 f4 hwn b7
        refine hK.out _ _ (fun _ => hkA) (fun _ => ?_)
        clear hK K
        (try simp only [Act.put, List.setIfInBounds_toArray, List.set_cons_zero, List.set_cons_succ])
        refine wpTill_put 9 7 (oi := _) (v := ?_) rfl rfl (by kernel_rfl) (by kernel_rfl) (by kernel_rfl) (by kernel_rfl) (fun _ _ _ h => h) (by rfl) hkA ?_ ?_
        rotate_left
        · (intro w2' hSw; go_simp; (try with_reducible rfl))
        (try simp only [Act.put, List.setIfInBounds_toArray, List.set_cons_zero, List.set_cons_succ])
        refine wpTill_done (by kernel_rfl) ?_ _
        go_wp2_with fail
        go_meet
        exact ⟨_, A3, c3, M3, q3, bs, rfl, rfl, hD⟩
    case rest =>
      obtain ⟨g, A3, c3, M3, q3, bs, rfl, rfl, hD⟩ := hcut
      have hkc := hk4.trans (hD.2.2.2.1.mono hk4.size)
      obtain ⟨x0, x1, x2, x3, x4⟩ := hD.1.cells
      obtain ⟨z0, z1, z2, z3, z4⟩ := (HAH.out wc hkc).1.2.2.2.1.cells
      have f0 := (HAH.out wc hkc).1.2.2.2.1.free 0
      have f1 := (HAH.out wc hkc).1.2.2.2.1.free 1
      have f2 := (HAH.out wc hkc).1.2.2.2.1.free 2
      have f3 := (HAH.out wc hkc).1.2.2.2.1.free 3
      have f4 := (HAH.out wc hkc).1.2.2.2.1.free 4
      have HDD := Lib.hid hD
      clear hD
      by_cases he : r.1 = 0
      · have HE := Lib.hid he
        have hbe : (r.1 != 0) = false := by simp [he]
        clear he
        go_wp2_with fail
        obtain ⟨q0, q1, q2, q3', q4⟩ := cells5 (set5 (HAH.out wc hkc).1.2.2.2.1 (.int .i64 q3.tx) (.int .i64 q3.time) (.int .i64 q3.unit) (.int .i64 q3.data) (.slice A3 q3.devs.length c3))
        refine bodyPost_ret (v := .tuple #[.agg #[.int .i64 q3.tx, .int .i64 q3.time, .int .i64 q3.unit, .int .i64 q3.data, .slice A3 q3.devs.length c3], .int .i64 0]) (by simp [results, Tryz.results14, go_sem, q0, q1, q2, q3', q4]) rfl ?_
        have hrr : rr = (0, r.2) := by rw [← HRR.out, if_neg (by simp [HE.out])]
        rw [hrr]
        obtain ⟨hq, ho⟩ := HDD.out.2.1 HE.out
        have hz := HDD.out.2.2
        have hlt := own1_lt ho rfl
        have ho2 := kept5 ho (far_own1 rfl (x := w.heap.size + 1 + 1) (fun e => by have := hlt _ e; omega)) (.int .i64 q3.tx) (.int .i64 q3.time) (.int .i64 q3.unit) (.int .i64 q3.data) (.slice A3 q3.devs.length c3)
        refine ⟨⟨_, rfl, ?_, below5 (HAH.out wc hkc).1.1 (by omega) _ _ _ _ _⟩, fun _ => ⟨A3, c3, M3, by rw [← hq], by rw [← hq]; exact ho2.low (by omega), below5 (HAH.out wc hkc).1.1 (by omega) _ _ _ _ _⟩⟩
        rw [← hq]
        exact pool_keep (OwnP.isp ho2) (fun b hb => ⟨by have := hb.1; omega, hb.2⟩) Keep.refl
      · have HE := Lib.hid he
        have hbe : (r.1 != 0) = true := by simpa using he
        have hrr : rr = (r.1, pool0) := by rw [← HRR.out, if_pos he]
        have HR1 := Lib.hid hrr
        clear he hrr HRR HDD
        generalize r.1 = r1 at *
        go_wp2_with fail
        obtain ⟨q0, q1, q2, q3', q4⟩ := cells5 (set5 (HAH.out wc hkc).1.2.2.2.1 (.int .i64 0) (.int .i64 0) (.int .i64 0) (.int .i64 0) (.slice none 0 0))
        refine bodyPost_ret (v := .tuple #[.agg #[.int .i64 0, .int .i64 0, .int .i64 0, .int .i64 0, .slice none 0 0], .int .i64 r1]) (by simp [results, Tryz.results14, go_sem, q0, q1, q2, q3', q4]) rfl ?_
        rw [HR1.out]
        exact ⟨⟨_, rfl, pool0_at _ _, below5 (HAH.out wc hkc).1.1 (by omega) _ _ _ _ _⟩, fun h => absurd h HE.out⟩
  · have hr : applyF p o = (poolChk p, pool0) := by unfold applyF; rw [if_pos hc]
    rw [hr]
    have hb1 : (poolChk p != 0) = true := by simpa using hc
    have HNZ := Lib.hid hc
    clear hr hc
    generalize poolChk p = fe at *
    generalize hl0 : p.devs.length = n at *
    clear hl0
    go_enter Tryz.func14, Tryz.ntmps14
    go_upto_region 1 with fail
    generalize ((w.alloc (.cells #[.int .i64 p.tx, .int .i64 p.time, .int .i64 p.unit, .int .i64 p.data, .slice A n c] 24)).alloc (.cells #[.int .i64 o.kind, .int .i64 o.dev, .int .i64 o.arg, .int .i64 o.n] 48)).alloc (.cells #[.int .i64 0, .int .i64 0, .int .i64 0, .int .i64 0, .slice none 0 0] 24) = w3 at *
    have hk3 := Below.refl w3.heap.size w3
    obtain ⟨x0, x1, x2, x3, x4⟩ := (HAH.out w3 hk3).1.2.1.cells
    obtain ⟨y0, y1, y2, y3⟩ := (HAH.out w3 hk3).1.2.2.1.cells
    obtain ⟨z0, z1, z2, z3, z4⟩ := (HAH.out w3 hk3).1.2.2.2.1.cells
    have f0 := (HAH.out w3 hk3).1.2.2.2.1.free 0
    have f1 := (HAH.out w3 hk3).1.2.2.2.1.free 1
    have f2 := (HAH.out w3 hk3).1.2.2.2.1.free 2
    have f3 := (HAH.out w3 hk3).1.2.2.2.1.free 3
    have f4 := (HAH.out w3 hk3).1.2.2.2.1.free 4
    go_wp2_with (first
      | (go_at_call 30; have _ := hk4; (have hx := HCK.out w4 (HAH.out w4 hk4).1.1.size (HAH.out w4 hk4).2; with_reducible refine hx.mono ?_; clear hx); rintro e w5 ⟨rfl, hB5⟩; have hk5 := hk4.trans (hB5.mono hk4.size); clear x0 x1 x2 x3 x4 y0 y1 y2 y3 z0 z1 z2 z3 z4 f0 f1 f2 f3 f4; obtain ⟨x0, x1, x2, x3, x4⟩ := (HAH.out w5 hk5).1.2.1.cells; obtain ⟨y0, y1, y2, y3⟩ := (HAH.out w5 hk5).1.2.2.1.cells; obtain ⟨z0, z1, z2, z3, z4⟩ := (HAH.out w5 hk5).1.2.2.2.1.cells; have f0 := (HAH.out w5 hk5).1.2.2.2.1.free 0; have f1 := (HAH.out w5 hk5).1.2.2.2.1.free 1; have f2 := (HAH.out w5 hk5).1.2.2.2.1.free 2; have f3 := (HAH.out w5 hk5).1.2.2.2.1.free 3; have f4 := (HAH.out w5 hk5).1.2.2.2.1.free 4)
      | (go_at_call 30; (have hx := HCK.out w3 (HAH.out w3 hk3).1.1.size (HAH.out w3 hk3).2; with_reducible refine hx.mono ?_; clear hx); rintro e w4 ⟨rfl, hk4⟩; clear x0 x1 x2 x3 x4 y0 y1 y2 y3 z0 z1 z2 z3 z4 f0 f1 f2 f3 f4; obtain ⟨x0, x1, x2, x3, x4⟩ := (HAH.out w4 hk4).1.2.1.cells; obtain ⟨y0, y1, y2, y3⟩ := (HAH.out w4 hk4).1.2.2.1.cells; obtain ⟨z0, z1, z2, z3, z4⟩ := (HAH.out w4 hk4).1.2.2.2.1.cells; have f0 := (HAH.out w4 hk4).1.2.2.2.1.free 0; have f1 := (HAH.out w4 hk4).1.2.2.2.1.free 1; have f2 := (HAH.out w4 hk4).1.2.2.2.1.free 2; have f3 := (HAH.out w4 hk4).1.2.2.2.1.free 3; have f4 := (HAH.out w4 hk4).1.2.2.2.1.free 4))
    obtain ⟨q0, q1, q2, q3, q4⟩ := cells5 (set5 (HAH.out w5 hk5).1.2.2.2.1 (.int .i64 0) (.int .i64 0) (.int .i64 0) (.int .i64 0) (.slice none 0 0))
    refine bodyPost_ret (v := .tuple #[.agg #[.int .i64 0, .int .i64 0, .int .i64 0, .int .i64 0, .slice none 0 0], .int .i64 fe]) (by simp [results, Tryz.results14, go_sem, q0, q1, q2, q3, q4]) rfl ?_
    have hz5 := (HAH.out w5 hk5).1.2.2.2.2
    exact ⟨⟨_, rfl, pool0_at _ _, below5 (HAH.out w5 hk5).1.1 (by omega) _ _ _ _ _⟩, fun h => absurd h HNZ.out⟩
theorem rapply_any (w : World) (S : Nat → Prop) (v : Value) (p : Pool) (o : Mop) (hS : ∀ b, S b → b < w.heap.size) (h : IsPool w S v p) (hok : p.ok) : Calls Tryz.prog 14 #[v, mopV o] w (ApIs w (applyF p o)) :=
  (rapply_both w S v p o hS h hok).mono fun _ _ h => h.1
end Go.Proofs.YtcdfbpdejbpgjaaGreat

/- pool.Find, scantlingref18.Find: the first device of an id. Condition: no slice is longer than the reach. -/
namespace Go.Proofs.YtcdfbpdejbpgjaaGreat
open Go.RowKit
theorem isDev0 (w : World) (S : Nat → Prop) : IsDev w S (.agg #[.int .i64 0, .int .i64 0, .int .i64 0, .int .i64 0, .slice none 0 0]) dev0 := ⟨none, 0, rfl, Nat.le_refl _, RowOf.nil_⟩

set_option maxRecDepth 100000 in
set_option maxHeartbeats 3200000 in
theorem rfind_any (w : World) (S : Nat → Prop) (v : Value) (p : Pool) (id : Int) (hS : ∀ b, S b → b < w.heap.size) (h : IsPool w S v p) (hnd : p.devs.length ≤ 1099511627776) :
    Calls Tryz.prog 15 #[v, .int .i64 id] w fun e w' => ∃ v', e = .returned (.tuple #[v', .bool (findB p.devs id)]) ∧ IsDev w' S v' (findD p.devs id) ∧ Below w.heap.size w w' := by
  obtain ⟨A, c, rfl, hc, hr⟩ := h
  have hB0 : Below w.heap.size w ((w.alloc (poolBox p A p.devs.length c)).alloc (.cells #[.int .i64 0, .int .i64 0, .int .i64 0, .int .i64 0, .slice none 0 0] 36)) := ((Below.refl _ _).alloc (Nat.le_refl _) _).alloc (by simp) _
  have hp1 : PBox ((w.alloc (poolBox p A p.devs.length c)).alloc (.cells #[.int .i64 0, .int .i64 0, .int .i64 0, .int .i64 0, .slice none 0 0] 36)) w.heap.size p A p.devs.length c := (PBox.new w p A p.devs.length c).below (Below.alloc (Below.refl _ _) (Nat.le_refl _) _) (by simp)
  dsimp only [poolBox] at hB0 hp1
  obtain ⟨x0, x1, x2, x3, x4⟩ := hp1.cells
  generalize hl0 : p.devs.length = n at *
  have hl := Lib.hid hl0
  clear hl0
  go_enter Tryz.func15, Tryz.ntmps15
  go_wp2_with fail
  go_loop [6] (fun i => ∃ k : Nat, k ≤ n ∧ i = .int .i64 k ∧ (∀ j, j < k → (nth dev0 p.devs j).id ≠ id)) (fun i => n - (intOf i).toNat)
  case atStart => exact ⟨0, by omega, rfl, fun j hj => absurd hj (by omega)⟩
  case round =>
    obtain ⟨k, hk, rfl, hA⟩ := hrel
    have HA := Lib.hid hA
    clear hA
    by_cases hlt : k < n
    · obtain ⟨b, off, rfl, hb, hc⟩ := devs_cells hr (by rw [hl.out]; omega)
      obtain ⟨c0, c1, c2, c3, A', c', c4, hc', hr'⟩ := hc k (by rw [hl.out]; omega)
      have hbs := hS b hb
      by_cases hid : (nth dev0 p.devs k).id = id
      · obtain ⟨e1, e2⟩ := found_yes (by rw [hl.out]; exact hlt) hid HA.out
        have HE1 := Lib.hid e1
        have HE2 := Lib.hid e2
        have hbb : ((nth dev0 p.devs k).id == id) = true := by simp [hid]
        have HRR := Lib.hid hr'
        clear e1 e2 hid hc HA hr'
        generalize nth dev0 p.devs k = d at *
        go_wp2_with fail
        refine bodyPost_ret (v := .tuple #[.agg #[.int .i64 d.id, .int .i64 d.tx, .int .i64 d.made, .int .i64 d.snapped, .slice A' d.maps.length c'], .bool true]) (by simp [results, Tryz.results15, go_sem]) rfl ?_
        have hBd : Below w.heap.size w ((w.alloc (poolBox p (some ⟨b, off, none⟩) n c)).alloc (devBox d A' c')) := ((Below.refl _ _).alloc (Nat.le_refl _) _).alloc (by simp) _
        exact ⟨_, by rw [HE2.out], by rw [HE1.out]; exact ⟨A', c', rfl, hc', HRR.out.keep rmp_stable (fun _ h => h) (keep_below hBd hS)⟩, hBd⟩
      · have hA2 : ∀ j, j < k + 1 → (nth dev0 p.devs j).id ≠ id := fun j hj => by
          by_cases e : j = k
          · rw [e]; exact hid
          · exact HA.out j (by omega)
        have HA2 := Lib.hid hA2
        have hbb : ((nth dev0 p.devs k).id == id) = false := by simp [hid]
        clear hid HA hA2 hc hr'
        generalize nth dev0 p.devs k = d at *
        go_wp2_with fail
        go_round
        case rel => exact ⟨k + 1, by omega, by go_num, HA2.out⟩
        case measure => simp [intOf]; omega
    · obtain ⟨e1, e2⟩ := found_no (l := p.devs) (id := id) (fun j hj => HA.out j (by rw [hl.out] at hj; omega))
      have HE1 := Lib.hid e1
      have HE2 := Lib.hid e2
      clear e1 e2 HA
      go_wp2_with fail
      refine bodyPost_ret (v := .tuple #[.agg #[.int .i64 0, .int .i64 0, .int .i64 0, .int .i64 0, .slice none 0 0], .bool false]) (by simp [results, Tryz.results15, go_sem]) rfl ?_
      exact ⟨_, by rw [HE2.out], by rw [HE1.out]; exact isDev0 _ _, hB0⟩
end Go.Proofs.YtcdfbpdejbpgjaaGreat

/- pool.Find: the first device of an id, with mappings of its own. Condition: no slice is longer than the reach. -/
namespace Go.Proofs.YtcdfbpdejbpgjaaGreat
open Go.RowKit

set_option maxRecDepth 100000 in
set_option maxHeartbeats 3200000 in
theorem find_any (w : World) (S : Nat → Prop) (v : Value) (p : Pool) (id : Int) (hS : ∀ b, S b → b < w.heap.size) (h : IsPool w S v p) (hnd : p.devs.length ≤ 1099511627776) (hmk : ∀ k, k < p.devs.length → (nth dev0 p.devs k).maps.length ≤ 2199023255552) :
    Calls Tryz.prog 12 #[v, .int .i64 id] w fun e w' => ∃ v', e = .returned (.tuple #[v', .bool (findB p.devs id)]) ∧ IsDev w' (Lt w'.heap.size) v' (findD p.devs id) ∧ Below w.heap.size w w' := by
  obtain ⟨A, c, rfl, hc, hr⟩ := h
  have hB0 : Below w.heap.size w (((w.alloc (poolBox p A p.devs.length c)).alloc (.cells #[.int .i64 id] 3)).alloc (.cells #[.int .i64 0, .int .i64 0, .int .i64 0, .int .i64 0, .slice none 0 0] 36)) := (((Below.refl _ _).alloc (Nat.le_refl _) _).alloc (by simp) _).alloc (by simp; omega) _
  have hp1 : PBox (((w.alloc (poolBox p A p.devs.length c)).alloc (.cells #[.int .i64 id] 3)).alloc (.cells #[.int .i64 0, .int .i64 0, .int .i64 0, .int .i64 0, .slice none 0 0] 36)) w.heap.size p A p.devs.length c := ((PBox.new w p A p.devs.length c).below (Below.alloc (Below.refl _ _) (Nat.le_refl _) _) (by simp)).below (Below.alloc (Below.refl _ _) (Nat.le_refl _) _) (by simp; omega)
  have hz0 : (((w.alloc (poolBox p A p.devs.length c)).alloc (.cells #[.int .i64 id] 3)).alloc (.cells #[.int .i64 0, .int .i64 0, .int .i64 0, .int .i64 0, .slice none 0 0] 36)).heap.size = w.heap.size + 3 := by simp
  have hi0 : (((w.alloc (poolBox p A p.devs.length c)).alloc (.cells #[.int .i64 id] 3)).alloc (.cells #[.int .i64 0, .int .i64 0, .int .i64 0, .int .i64 0, .slice none 0 0] 36)).cell? ⟨w.heap.size + 1, 0, none⟩ = some (.int .i64 id) := by
    rw [World.cell?_alloc_lt _ _ _ (by simp)]
    have := (Boxed.new (w.alloc (poolBox p A p.devs.length c)) 3 (.int .i64 id)).cell
    rw [World.size_alloc] at this
    exact this
  have hd0 : (((w.alloc (poolBox p A p.devs.length c)).alloc (.cells #[.int .i64 id] 3)).alloc (.cells #[.int .i64 0, .int .i64 0, .int .i64 0, .int .i64 0, .slice none 0 0] 36)).heap[w.heap.size + 1 + 1]? = some (.cells #[.int .i64 0, .int .i64 0, .int .i64 0, .int .i64 0, .slice none 0 0] 36 (0, 0)) := by
    have := heap_alloc_new ((w.alloc (poolBox p A p.devs.length c)).alloc (.cells #[.int .i64 id] 3)) (.cells #[.int .i64 0, .int .i64 0, .int .i64 0, .int .i64 0, .slice none 0 0] 36)
    simpa only [World.size_alloc] using this
  have hidx := idxDev_any (((w.alloc (poolBox p A p.devs.length c)).alloc (.cells #[.int .i64 id] 3)).alloc (.cells #[.int .i64 0, .int .i64 0, .int .i64 0, .int .i64 0, .slice none 0 0] 36)) S (.slice A p.devs.length c) p.devs (w.heap.size + 1) id (fun b hb => by have := hS b hb; omega) ⟨A, c, rfl, hc, hr.keep rdev_stable (fun _ h => h) (keep_below hB0 hS)⟩ hnd hi0 (by omega)
  dsimp only [poolBox] at hB0 hp1 hz0 hi0 hd0 hidx
  have HIDX := Lib.hid hidx
  clear hidx
  go_enter Tryz.func12, Tryz.ntmps12
  go_wp2_with fail
  refine HIDX.out.mono ?_
  rintro e w2 ⟨i, rfl, hfo, hB2⟩
  have hs2 := hB2.size
  have hB02 := hB0.trans (hB2.mono (by omega))
  obtain ⟨x0, x1, x2, x3, x4⟩ := (hp1.below hB2 (by omega)).cells
  have hd2 : w2.heap[w.heap.size + 1 + 1]? = _ := (hB2.block _ (by omega)).trans hd0
  have z0 : w2.cell? ⟨w.heap.size + 1 + 1, 0, none⟩ = some (.int .i64 0) := by simp [World.cell?, hd2]
  have z1 : w2.cell? ⟨w.heap.size + 1 + 1, 1, none⟩ = some (.int .i64 0) := by simp [World.cell?, hd2]
  have z2 : w2.cell? ⟨w.heap.size + 1 + 1, 2, none⟩ = some (.int .i64 0) := by simp [World.cell?, hd2]
  have z3 : w2.cell? ⟨w.heap.size + 1 + 1, 3, none⟩ = some (.int .i64 0) := by simp [World.cell?, hd2]
  have z4 : w2.cell? ⟨w.heap.size + 1 + 1, 4, none⟩ = some (.slice none 0 0) := by simp [World.cell?, hd2]
  have y0 : w2.frozen? ⟨w.heap.size + 1 + 1, 0, none⟩ = false := by simp [World.frozen?, hd2]
  have y1 : w2.frozen? ⟨w.heap.size + 1 + 1, 1, none⟩ = false := by simp [World.frozen?, hd2]
  have y2 : w2.frozen? ⟨w.heap.size + 1 + 1, 2, none⟩ = false := by simp [World.frozen?, hd2]
  have y3 : w2.frozen? ⟨w.heap.size + 1 + 1, 3, none⟩ = false := by simp [World.frozen?, hd2]
  have y4 : w2.frozen? ⟨w.heap.size + 1 + 1, 4, none⟩ = false := by simp [World.frozen?, hd2]
  rcases hfo with ⟨k, hk, rfl, hid, hn⟩ | ⟨rfl, hn⟩
  · obtain ⟨b, off, rfl, hb, hcl⟩ := devs_cells (hr.keep rdev_stable (fun _ h => h) (keep_below hB02 hS)) (by omega)
    obtain ⟨c0, c1, c2, c3, A', c', c4, hc', hr'⟩ := hcl k hk
    have hbs : b < w.heap.size := hS b hb
    obtain ⟨e1, e2⟩ := found_yes hk hid hn
    have HE1 := Lib.hid e1
    have HE2 := Lib.hid e2
    have hmk2 := hmk k hk
    have hS2 : ∀ b, S b → b < w2.heap.size := fun b hb => by have := hS b hb; omega
    clear e1 e2 hn hd0 hi0 hcl hid
    generalize nth dev0 p.devs k = d at *
    have hcln := cloneMaps (w2.alloc (devBox d A' c')) S (.slice A' d.maps.length c') d.maps (fun b hb => by have := hS2 b hb; simp; omega) ⟨A', c', rfl, hc', hr'.keep rmp_stable (fun _ h => h) (keep_alloc hS2 _)⟩ hmk2
    have hn7 : (w2.alloc (devBox d A' c')).heap[w2.heap.size]? = some (.cells #[.int .i64 d.id, .int .i64 d.tx, .int .i64 d.made, .int .i64 d.snapped, .slice A' d.maps.length c'] 36 (0, 0)) := heap_alloc_new w2 _
    have hd7 : (w2.alloc (devBox d A' c')).heap[w.heap.size + 1 + 1]? = _ := (Below.heap_alloc w2 (devBox d A' c') _ (by omega)).trans hd2
    have hB07 : Below w.heap.size w (w2.alloc (devBox d A' c')) := hB02.alloc (by omega) _
    dsimp only [devBox] at hcln hn7 hd7 hB07
    have HCLN := Lib.hid hcln
    clear hcln hr'
    go_wp2_with (go_at_call 29; refine HCLN.out.mono ?_; rintro e w3 ⟨v3, rfl, _, h3, hB3, _⟩
                 obtain ⟨A3, c3, rfl, hc3, hr3⟩ := h3 (fun b => S b ∨ (w2.heap.size + 1 ≤ b ∧ b < w3.heap.size)) (fun b h1 h2 => .inr ⟨by simpa using h1, h2⟩) (fun b hb => .inl hb)
                 have hsz3 := hB3.size
                 simp only [World.size_alloc] at hsz3
                 have hn3 : w3.heap[w2.heap.size]? = _ := (hB3.block _ (by simp)).trans hn7
                 have hd3 : w3.heap[w.heap.size + 1 + 1]? = _ := (hB3.block _ (by simp; omega)).trans hd7
                 obtain ⟨r0, r1, r2, r3, r4⟩ := cells5 hn3
                 obtain ⟨s0, s1, s2, s3, s4⟩ := cells5 hd3
                 have hfz : w3.frozen? ⟨w2.heap.size, 4, none⟩ = false := by simp [World.frozen?, hn3]
                 have f0 : w3.frozen? ⟨w.heap.size + 1 + 1, 0, none⟩ = false := by simp [World.frozen?, hd3]
                 have f1 : w3.frozen? ⟨w.heap.size + 1 + 1, 1, none⟩ = false := by simp [World.frozen?, hd3]
                 have f2 : w3.frozen? ⟨w.heap.size + 1 + 1, 2, none⟩ = false := by simp [World.frozen?, hd3]
                 have f3 : w3.frozen? ⟨w.heap.size + 1 + 1, 3, none⟩ = false := by simp [World.frozen?, hd3]
                 have f4 : w3.frozen? ⟨w.heap.size + 1 + 1, 4, none⟩ = false := by simp [World.frozen?, hd3]
                 have hne : ¬ w2.heap.size = w.heap.size + 1 + 1 := by omega
                 have hne2 : ¬ w.heap.size + 1 + 1 = w2.heap.size := by omega)
    have hd4 : (w3.setCell ⟨w2.heap.size, 4, none⟩ (.slice A3 d.maps.length c3)).heap[w.heap.size + 1 + 1]? = _ := (Below.heap_setCell w3 ⟨w2.heap.size, 4, none⟩ (.slice A3 d.maps.length c3) _ hne2).trans hd3
    have hs5 := set5 hd4 (.int .i64 d.id) (.int .i64 d.tx) (.int .i64 d.made) (.int .i64 d.snapped) (.slice A3 d.maps.length c3)
    have hb5 := below5 ((hB07.trans (hB3.mono (by simp; omega))).setCell (p := ⟨w2.heap.size, 4, none⟩) (by simp only; omega) (.slice A3 d.maps.length c3)) (b := w.heap.size + 1 + 1) (by omega) (.int .i64 d.id) (.int .i64 d.tx) (.int .i64 d.made) (.int .i64 d.snapped) (.slice A3 d.maps.length c3)
    have hz5 := size5 (w3.setCell ⟨w2.heap.size, 4, none⟩ (.slice A3 d.maps.length c3)) (w.heap.size + 1 + 1) (.int .i64 d.id) (.int .i64 d.tx) (.int .i64 d.made) (.int .i64 d.snapped) (.slice A3 d.maps.length c3)
    have hz4 : (w3.setCell ⟨w2.heap.size, 4, none⟩ (.slice A3 d.maps.length c3)).heap.size = w3.heap.size := by simp [World.setCell]
    have nS : ∀ g i, (g = w2.heap.size ∨ g = w.heap.size + 1 + 1) → ¬ (fun b => S b ∨ (w2.heap.size + 1 ≤ b ∧ b < w3.heap.size)) (⟨g, i, none⟩ : Addr).block := by
      rintro g i hg (h | h)
      · have := hS _ h; simp only at this; omega
      · simp only at h; omega
    have hk5 : Keep (fun b => S b ∨ (w2.heap.size + 1 ≤ b ∧ b < w3.heap.size)) w3 _ := (((((keep_setCell (w := w3) (p := ⟨w2.heap.size, 4, none⟩) (nS _ _ (.inl rfl)) (.slice A3 d.maps.length c3)).trans (keep_setCell (p := ⟨w.heap.size + 1 + 1, 0, none⟩) (nS _ _ (.inr rfl)) (.int .i64 d.id))).trans (keep_setCell (p := ⟨w.heap.size + 1 + 1, 1, none⟩) (nS _ _ (.inr rfl)) (.int .i64 d.tx))).trans (keep_setCell (p := ⟨w.heap.size + 1 + 1, 2, none⟩) (nS _ _ (.inr rfl)) (.int .i64 d.made))).trans (keep_setCell (p := ⟨w.heap.size + 1 + 1, 3, none⟩) (nS _ _ (.inr rfl)) (.int .i64 d.snapped))).trans (keep_setCell (p := ⟨w.heap.size + 1 + 1, 4, none⟩) (nS _ _ (.inr rfl)) (.slice A3 d.maps.length c3))
    generalize (((((w3.setCell ⟨w2.heap.size, 4, none⟩ (.slice A3 d.maps.length c3)).setCell ⟨w.heap.size + 1 + 1, 0, none⟩ (.int .i64 d.id)).setCell ⟨w.heap.size + 1 + 1, 1, none⟩ (.int .i64 d.tx)).setCell ⟨w.heap.size + 1 + 1, 2, none⟩ (.int .i64 d.made)).setCell ⟨w.heap.size + 1 + 1, 3, none⟩ (.int .i64 d.snapped)).setCell ⟨w.heap.size + 1 + 1, 4, none⟩ (.slice A3 d.maps.length c3) = w5 at *
    obtain ⟨r0, r1, r2, r3, r4⟩ := cells5 hs5
    refine bodyPost_ret (v := .tuple #[.agg #[.int .i64 d.id, .int .i64 d.tx, .int .i64 d.made, .int .i64 d.snapped, .slice A3 d.maps.length c3], .bool true]) (by simp [results, Tryz.results12, go_sem, r0, r1, r2, r3, r4]) rfl ?_
    refine ⟨_, by rw [HE2.out], ?_, hb5⟩
    rw [HE1.out]
    refine ⟨A3, c3, rfl, hc3, hr3.keep rmp_stable (fun b hb => ?_) hk5⟩
    rcases hb with hb | hb
    · have := hS b hb; show b < w5.heap.size; omega
    · show b < w5.heap.size; omega
  · obtain ⟨e1, e2⟩ := found_no (l := p.devs) (id := id) hn
    have HE1 := Lib.hid e1
    have HE2 := Lib.hid e2
    clear e1 e2 hn hd0 hi0
    have hs5 := set5 hd2 (.int .i64 0) (.int .i64 0) (.int .i64 0) (.int .i64 0) (.slice none 0 0)
    have hb5 := below5 hB02 (b := w.heap.size + 1 + 1) (by omega) (.int .i64 0) (.int .i64 0) (.int .i64 0) (.int .i64 0) (.slice none 0 0)
    have HS5 := Lib.hid hs5
    clear hs5 hd2
    go_wp2_with fail
    have hs5 := HS5.out
    generalize ((((w2.setCell ⟨w.heap.size + 1 + 1, 0, none⟩ (.int .i64 0)).setCell ⟨w.heap.size + 1 + 1, 1, none⟩ (.int .i64 0)).setCell ⟨w.heap.size + 1 + 1, 2, none⟩ (.int .i64 0)).setCell ⟨w.heap.size + 1 + 1, 3, none⟩ (.int .i64 0)).setCell ⟨w.heap.size + 1 + 1, 4, none⟩ (.slice none 0 0) = w5 at *
    obtain ⟨r0, r1, r2, r3, r4⟩ := cells5 hs5
    refine bodyPost_ret (v := .tuple #[.agg #[.int .i64 0, .int .i64 0, .int .i64 0, .int .i64 0, .slice none 0 0], .bool false]) (by simp [results, Tryz.results12, go_sem, r0, r1, r2, r3, r4]) rfl ?_
    exact ⟨_, by rw [HE2.out], by rw [HE1.out]; exact isDev0 _ _, hb5⟩
end Go.Proofs.YtcdfbpdejbpgjaaGreat

/- The reference's Minus, Cut and Move (scantlingref52). Condition: the slices are within the reach. -/
namespace Go.Proofs.YtcdfbpdejbpgjaaGreat
open Go.RowKit Go.Shelf
attribute [local go_sem] Oper.semAt_some

theorem elMp : Elem Tryz.prog 34 40 3 24 Mp.enc := ⟨Tryz.underlying34, ⟨_, info_map, rfl⟩, by omega, by omega, Mp.enc_len, Mp.enc_one⟩
theorem rchk (w : World) (S : Nat → Prop) (v : Value) (l : List Mp) (hn : l.length ≤ 140737488355328) (h : IsMaps w S v l) :
    Calls Tryz.prog 57 #[v] w fun e w' => e = .returned (.int .i64 (chk l)) ∧ Below w.heap.size w w' := (refChk w S v l hn h).mono fun _ _ ⟨he, m, hm⟩ => ⟨he, by rw [hm]; exact below_drewN (Below.refl _ _) _⟩
set_option maxHeartbeats 800000 in
theorem rbad_any (w : World) (S : Nat → Prop) (va vb : Value) (a b : List Mp) (hS : ∀ b, S b → b < w.heap.size) (ha : IsMaps w S va a) (hb : IsMaps w S vb b) (hal : a.length ≤ 140737488355328) (hbl : b.length ≤ 140737488355328) :
    Calls Tryz.prog 33 #[va, vb] w fun e w' => e = .returned (.int .i64 (chkAll [a, b])) ∧ Below w.heap.size w w' := by
  have HA := Lib.hid (fun w' (hB : Below w.heap.size w w') => rchk w' S va a hal (ha.keep rmp_stable (fun _ h => h) (keep_below hB hS)))
  have HB := Lib.hid (fun w' (hB : Below w.heap.size w w') => rchk w' S vb b hbl (hb.keep rmp_stable (fun _ h => h) (keep_below hB hS)))
  have hk0 := Below.refl w.heap.size w
  clear ha hb
  by_cases h1 : chk a = 0
  · have e : chkAll [a, b] = chk b := by
      simp only [chkAll]
      rw [if_neg (by simpa using h1)]
      split <;> omega
    rw [e]
    rw [h1] at HA
    clear h1 e
    generalize chk b = r at *
    go_enter Tryz.func33, Tryz.ntmps33
    go_wp2_with (first
      | (go_at_call 57; have _ := hk1; refine (HB.out _ hk1).mono ?_; rintro e w2 ⟨rfl, hB2⟩)
      | (go_at_call 57; refine (HA.out _ hk0).mono ?_; rintro e w1 ⟨rfl, hk1⟩))
    go_ret
    exact ⟨rfl, hk1.trans (hB2.mono hk1.size)⟩
  · have e : chkAll [a, b] = chk a := by simp only [chkAll]; rw [if_pos h1]
    rw [e]
    have hne : (chk a != 0) = true := by simpa using h1
    clear e h1
    generalize chk a = r at *
    go_enter Tryz.func33, Tryz.ntmps33
    go_wp2_with (first
      | (go_at_call 57; have _ := hk1; refine (HA.out _ hk1).mono ?_; rintro e w2 ⟨rfl, hB2⟩)
      | (go_at_call 57; refine (HA.out _ hk0).mono ?_; rintro e w1 ⟨rfl, hk1⟩))
    go_ret
    exact ⟨rfl, hk1.trans (hB2.mono hk1.size)⟩
end Go.Proofs.YtcdfbpdejbpgjaaGreat

/- The reference's Over (scantlingref52). Condition: the slices are within the reach. -/
namespace Go.Proofs.YtcdfbpdejbpgjaaGreat
open Go.RowKit Go.Shelf
attribute [local go_sem] Oper.semAt_some

/-- Behind i of the one and k of the other. -/
structure OvAt (a b : List Mp) (i k : Nat) (o : List Mp) : Prop where
  len : o.length ≤ i + k
  eq : o ++ mergeO (a.drop i) (b.drop k) = mergeO a b
theorem OvAt.low {a b : List Mp} {i k : Nat} {o : List Mp} (h : OvAt a b i k o) (hi : i < a.length) (hk : b.length ≤ k ∨ (k < b.length ∧ (nth mp0 a i).v < (nth mp0 b k).v)) : OvAt a b (i + 1) k (o ++ [nth mp0 a i]) := by
  refine ⟨by have := h.len; simp; omega, ?_⟩
  rw [← h.eq, drop_nth mp0 a i hi, List.append_assoc]
  congr 1
  rcases hk with h1 | ⟨h1, h2⟩
  · rw [List.drop_of_length_le h1, mergeO_nil, mergeO_nil]; rfl
  · rw [drop_nth mp0 b k h1, mergeO_lt h2]; rfl
theorem OvAt.both {a b : List Mp} {i k : Nat} {o : List Mp} (h : OvAt a b i k o) (hi : i < a.length) (hk : k < b.length) (he : (nth mp0 a i).v = (nth mp0 b k).v) : OvAt a b (i + 1) (k + 1) (o ++ [nth mp0 b k]) := by
  refine ⟨by have := h.len; simp; omega, ?_⟩
  rw [← h.eq, drop_nth mp0 a i hi, drop_nth mp0 b k hk, mergeO_eq he, List.append_assoc]; rfl
theorem OvAt.high {a b : List Mp} {i k : Nat} {o : List Mp} (h : OvAt a b i k o) (hk : k < b.length) (hi : a.length ≤ i ∨ (i < a.length ∧ (nth mp0 b k).v < (nth mp0 a i).v)) : OvAt a b i (k + 1) (o ++ [nth mp0 b k]) := by
  refine ⟨by have := h.len; simp; omega, ?_⟩
  rw [← h.eq, drop_nth mp0 b k hk, List.append_assoc]
  congr 1
  rcases hi with h1 | ⟨h1, h2⟩
  · rw [List.drop_of_length_le h1, nil_mergeO, nil_mergeO]; rfl
  · rw [drop_nth mp0 a i h1, mergeO_gt h2]; rfl
theorem OvAt.done {a b : List Mp} {i k : Nat} {o : List Mp} (h : OvAt a b i k o) (hi : a.length ≤ i) (hk : b.length ≤ k) : o = mergeO a b := by
  rw [← h.eq, List.drop_of_length_le hi, List.drop_of_length_le hk, nil_mergeO, List.append_nil]
set_option maxRecDepth 100000 in
set_option maxHeartbeats 3200000 in
theorem rover_any (w : World) (S : Nat → Prop) (va vb : Value) (a b : List Mp) (hS : ∀ b, S b → b < w.heap.size) (ha : IsMaps w S va a) (hb : IsMaps w S vb b) (hal : a.length ≤ 1000000) (hbl : b.length ≤ 1000000) :
    Calls Tryz.prog 16 #[va, vb] w (ResIs (chkAll [a, b]) (overR a b) w) := by
  have HCK := Lib.hid (rbad_any w S va vb a b hS ha hb (by omega) (by omega))
  by_cases h0 : chkAll [a, b] = 0
  · have e : overR a b = mergeO a b := by unfold overR; rw [if_pos h0]
    obtain ⟨A, c, rfl, hc, hr⟩ := ha
    obtain ⟨Ab, cb, rfl, hcb, hrb⟩ := hb
    have HC := Lib.hid (fun hp => maps_cells hr hp)
    have HCB := Lib.hid (fun hp => maps_cells hrb hp)
    rw [h0, e]
    rw [h0] at HCK
    clear e h0 hr hrb
    have HO0 := Lib.hid (show OvAt a b 0 0 [] from ⟨by simp, rfl⟩)
    have HDN := Lib.hid (fun i k o (h : OvAt a b i k o) => h.done)
    obtain ⟨res, hres⟩ : ∃ r, r = mergeO a b := ⟨_, rfl⟩
    rw [← hres] at HDN ⊢
    clear hres
    generalize hnn : a.length = na at *
    generalize hmm : b.length = nb at *
    have HN := Lib.hid hnn
    have HM := Lib.hid hmm
    clear hnn hmm
    go_enter Tryz.func16, Tryz.ntmps16
    go_wp2_with (go_at_call 33; refine HCK.out.mono ?_; rintro e w1 ⟨rfl, hB1⟩)
    go_loopw [7, 8, 9] (fun o i k wr => ∃ (p q : Nat) (l : List Mp), i = .int .i64 p ∧ k = .int .i64 q ∧ p ≤ na ∧ q ≤ nb ∧ Hid (OvAt a b p q l) ∧ wr.ownsRow w.heap.size 40 3 o l.length (flats Mp.enc l) ∧ Below w.heap.size w wr) (fun _ i k _ => (na - (intOf i).toNat) + (nb - (intOf k).toNat))
    case atStart => exact ⟨0, 0, [], rfl, rfl, by omega, by omega, HO0, World.ownsRow_nil _ _ _ _, hB1⟩
    case round =>
      obtain ⟨p, q, l, rfl, rfl, hp, hq, HO, hrow, hB⟩ := hrel
      have hz := hB.size
      have hll := HO.out.len
      obtain ⟨Ao, co, rfl, _⟩ := own_form0 hrow
      have hrow' := hrow
      generalize hrl : l.length = rl at *
      have HRL := Lib.hid hrl
      clear hrl
      by_cases h1 : q < nb
      · have h1i : ((q : Int) == (nb : Int)) = false := by simp; omega
        have h1d : (q : Int) < (nb : Int) := by omega
        obtain ⟨gb, offb, rfl, hbSb, hclb⟩ := HCB.out (by omega)
        have hb0b := hS gb hbSb
        obtain ⟨d0, d1, d2⟩ := hclb q (by omega)
        rw [← hB.cell (p := ⟨gb, offb + q * 3, none⟩) hb0b] at d0
        rw [← hB.cell (p := ⟨gb, offb + q * 3 + 1, none⟩) hb0b] at d1
        rw [← hB.cell (p := ⟨gb, offb + q * 3 + 2, none⟩) hb0b] at d2
        have hbwb : gb < wr.heap.size := by omega
        clear hclb
        obtain ⟨y, hy⟩ : ∃ y, y = nth mp0 b q := ⟨_, rfl⟩
        rw [← hy] at d0 d1 d2
        have HY := Lib.hid hy
        clear hy
        by_cases h2 : p < na
        · have h2d : decide ((p : Int) < (na : Int)) = true := by simp; omega
          obtain ⟨g, off, rfl, hbS, hcl⟩ := HC.out (by omega)
          have hb0 := hS g hbS
          obtain ⟨c0, c1, c2⟩ := hcl p (by omega)
          rw [← hB.cell (p := ⟨g, off + p * 3, none⟩) hb0] at c0
          rw [← hB.cell (p := ⟨g, off + p * 3 + 1, none⟩) hb0] at c1
          rw [← hB.cell (p := ⟨g, off + p * 3 + 2, none⟩) hb0] at c2
          have hbw : g < wr.heap.size := by omega
          clear hcl
          obtain ⟨x, hx⟩ : ∃ x, x = nth mp0 a p := ⟨_, rfl⟩
          rw [← hx] at c0 c1 c2
          have HX := Lib.hid hx
          clear hx
          have hpi : (p : Int) < (na : Int) := by omega
          by_cases h3 : x.v < y.v
          · have h3d : decide (x.v < y.v) = true := by simpa using h3
            have HN1 := Lib.hid (show OvAt a b (p + 1) q (l ++ [x]) by rw [HX.out]; exact HO.out.low (by rw [HN.out]; exact h2) (.inr ⟨by rw [HM.out]; exact h1, by rw [← HX.out, ← HY.out]; exact h3⟩))
            go_wp2_with fail
            go_quiet (fail)
            go_wp2_with (at_builtin; refine wpList_append_one elMp rfl _ _ rfl w.heap.size (.slice Ao rl co) rl l x rfl hrow rfl (by omega) hz ?_; intro A6 cap6 w6 hown hg)
            go_roundw
            case rel => exact ⟨p + 1, q, l ++ [x], by go_num, rfl, by omega, by omega, HN1, by rw [List.length_append, HRL.out]; exact hown, hB.grown (grown_drewN hg) hz (fun i hi => (hrow'.lt i hi).1)⟩
            case measure => simp [intOf]; omega
          · have h3d : decide (x.v < y.v) = false := by simpa using h3
            by_cases h4 : x.v = y.v
            · have h4d : (x.v == y.v) = true := by simpa using h4
              have HN1 := Lib.hid (show OvAt a b (p + 1) (q + 1) (l ++ [y]) by rw [HY.out]; exact HO.out.both (by rw [HN.out]; exact h2) (by rw [HM.out]; exact h1) (by rw [← HX.out, ← HY.out]; exact h4))
              clear h4
              go_wp2_with fail
              go_quiet (fail)
              go_wp2_with fail
              go_quiet (fail)
              go_wp2_with (at_builtin; refine wpList_append_one elMp rfl _ _ rfl w.heap.size (.slice Ao rl co) rl l y rfl hrow rfl (by omega) hz ?_; intro A6 cap6 w6 hown hg)
              go_roundw
              case rel => exact ⟨p + 1, q + 1, l ++ [y], by go_num, by go_num, by omega, by omega, HN1, by rw [List.length_append, HRL.out]; exact hown, hB.grown (grown_drewN hg) hz (fun i hi => (hrow'.lt i hi).1)⟩
              case measure => simp [intOf]; omega
            · have h4d : (x.v == y.v) = false := by simpa using h4
              have HN1 := Lib.hid (show OvAt a b p (q + 1) (l ++ [y]) by rw [HY.out]; exact HO.out.high (by rw [HM.out]; exact h1) (.inr ⟨by rw [HN.out]; exact h2, by rw [← HX.out, ← HY.out]; omega⟩))
              go_wp2_with fail
              go_quiet (fail)
              go_wp2_with fail
              go_quiet (fail)
              go_wp2_with (at_builtin; refine wpList_append_one elMp rfl _ _ rfl w.heap.size (.slice Ao rl co) rl l y rfl hrow rfl (by omega) hz ?_; intro A6 cap6 w6 hown hg)
              go_roundw
              case rel => exact ⟨p, q + 1, l ++ [y], rfl, by go_num, by omega, by omega, HN1, by rw [List.length_append, HRL.out]; exact hown, hB.grown (grown_drewN hg) hz (fun i hi => (hrow'.lt i hi).1)⟩
              case measure => simp [intOf]; omega
        · have h2d : decide ((p : Int) < (na : Int)) = false := by simp; omega
          have HN1 := Lib.hid (show OvAt a b p (q + 1) (l ++ [y]) by rw [HY.out]; exact HO.out.high (by rw [HM.out]; exact h1) (.inl (by rw [HN.out]; omega)))
          go_wp2_with fail
          go_quiet (fail)
          go_wp2_with fail
          go_quiet (fail)
          go_wp2_with (at_builtin; refine wpList_append_one elMp rfl _ _ rfl w.heap.size (.slice Ao rl co) rl l y rfl hrow rfl (by omega) hz ?_; intro A6 cap6 w6 hown hg)
          go_roundw
          case rel => exact ⟨p, q + 1, l ++ [y], rfl, by go_num, by omega, by omega, HN1, by rw [List.length_append, HRL.out]; exact hown, hB.grown (grown_drewN hg) hz (fun i hi => (hrow'.lt i hi).1)⟩
          case measure => simp [intOf]; omega
      · obtain rfl : q = nb := by omega
        have h1i : ((q : Int) == (q : Int)) = true := by simp
        by_cases h2 : p < na
        · have h2d : decide ((p : Int) < (na : Int)) = true := by simp; omega
          obtain ⟨g, off, rfl, hbS, hcl⟩ := HC.out (by omega)
          have hb0 := hS g hbS
          obtain ⟨c0, c1, c2⟩ := hcl p (by omega)
          rw [← hB.cell (p := ⟨g, off + p * 3, none⟩) hb0] at c0
          rw [← hB.cell (p := ⟨g, off + p * 3 + 1, none⟩) hb0] at c1
          rw [← hB.cell (p := ⟨g, off + p * 3 + 2, none⟩) hb0] at c2
          have hbw : g < wr.heap.size := by omega
          clear hcl
          obtain ⟨x, hx⟩ : ∃ x, x = nth mp0 a p := ⟨_, rfl⟩
          rw [← hx] at c0 c1 c2
          have HX := Lib.hid hx
          clear hx
          have hpi : (p : Int) < (na : Int) := by omega
          have HN1 := Lib.hid (show OvAt a b (p + 1) q (l ++ [x]) by rw [HX.out]; exact HO.out.low (by rw [HN.out]; exact h2) (.inl (by rw [HM.out]; omega)))
          go_wp2_with fail
          go_quiet (fail)
          go_wp2_with (at_builtin; refine wpList_append_one elMp rfl _ _ rfl w.heap.size (.slice Ao rl co) rl l x rfl hrow rfl (by omega) hz ?_; intro A6 cap6 w6 hown hg)
          go_roundw
          case rel => exact ⟨p + 1, q, l ++ [x], by go_num, rfl, by omega, by omega, HN1, by rw [List.length_append, HRL.out]; exact hown, hB.grown (grown_drewN hg) hz (fun i hi => (hrow'.lt i hi).1)⟩
          case measure => simp [intOf]; omega
        · have h2d : decide ((p : Int) < (na : Int)) = false := by simp; omega
          have h1d : decide ((q : Int) < (q : Int)) = false := by simp
          obtain rfl : p = na := by omega
          have HD := Lib.hid (HDN.out p q l HO.out (Nat.le_refl _) (Nat.le_refl _))
          have HROW := Lib.hid hrow
          clear hrow hrow'
          go_wp2_with fail
          go_ret2
          rw [← HD.out]
          exact ⟨Ao, _, co, HRL.out.symm, rfl, HROW.out, hB⟩
  · have e : overR a b = [] := by unfold overR; rw [if_neg h0]
    rw [e]
    have hne : (chkAll [a, b] != 0) = true := by simpa using h0
    clear e h0 ha hb
    generalize chkAll [a, b] = r at *
    go_enter Tryz.func16, Tryz.ntmps16
    go_wp2_with (go_at_call 33; refine HCK.out.mono ?_; rintro e w1 ⟨rfl, hB1⟩)
    go_ret2
    exact resNil r hB1
end Go.Proofs.YtcdfbpdejbpgjaaGreat

/- merge.Device and the reference's Device (scantlingref52). Condition: the pool's numbers fit into Go's int. -/
namespace Go.Proofs.YtcdfbpdejbpgjaaGreat

open Go.RowKit
attribute [local go_sem] Oper.semAt_some
set_option linter.unusedSimpArgs false
set_option linter.unusedVariables false

/-- What Device finds. -/
def MdAhead (n : Nat) (w w2 : World) (c : Nat) (p : Pool) (A : Option Addr) : Prop :=
  ∀ w', Below w2.heap.size w2 w' → Two w w' p A n c ∧ IsPool w' (Lt w.heap.size) (.agg #[.int .i64 p.tx, .int .i64 p.time, .int .i64 p.unit, .int .i64 p.data, .slice A n c]) p
theorem md_ahead {w w2 : World} {c : Nat} {p : Pool} {A : Option Addr} (h : IsPool w (Lt w.heap.size) (.agg #[.int .i64 p.tx, .int .i64 p.time, .int .i64 p.unit, .int .i64 p.data, .slice A p.devs.length c]) p) (T : Two w w2 p A p.devs.length c) : MdAhead p.devs.length w w2 c p A := by
  intro w' hB
  have hT := T.below hB
  exact ⟨hT, pool_keep h (fun _ hb => hb) (keep_below hT.1 (fun _ hb => hb))⟩
/-- The two's mappings are put into the new device. -/
theorem md_put {w5 w9 W : World} {base n c k g2 c9 m : Nat} {q : Pool} {A9 : Option Addr} {M : Nat → Value} {l : List Mp} (hn : q.devs.length = n) (h5 : OwnDevs w5 base (.slice (some ⟨g2, 0, none⟩) n c) q.devs M) (hk : k < n) (hb : base ≤ w5.heap.size) (hm : m = l.length) (hB : Below w5.heap.size w5 w9)
    (ho : w9.ownsRow w5.heap.size 40 3 (.slice A9 m c9) m (flats Mp.enc l)) (hW : w9.setCell ⟨g2, k * 5 + 4, none⟩ (.slice A9 m c9) = W) :
    OwnDevs W base (.slice (some ⟨g2, 0, none⟩) n c) (setMaps q k l).devs (fun j => if j = k then .slice A9 m c9 else M j) ∧ (∀ b, b < w5.heap.size → b ≠ g2 → W.heap[b]? = w5.heap[b]?) ∧ (∀ b, b < w9.heap.size → b ≠ g2 → W.heap[b]? = w9.heap[b]?) ∧ w9.heap.size = W.heap.size := by
  subst hn hm hW
  have hg : w5.grownBy w9 (M k).ownBlock := ⟨hB.os, hB.tape, hB.output, hB.size, fun j hj _ => hB.block j hj⟩
  have hlo : ∀ x, (Value.slice A9 l.length c9).ownBlock = some x → w5.heap.size ≤ x := fun x hx => (ho.lt x hx).1
  refine ⟨h5.put (d := ⟨(nth dev0 q.devs k).id, (nth dev0 q.devs k).tx, (nth dev0 q.devs k).made, (nth dev0 q.devs k).snapped, l⟩) hk hg (own_low ho hb) (fun x hx => .inr (hlo x hx)) ⟨rfl, rfl, rfl, rfl⟩, fun b h1 h2 => ?_, fun b h1 h2 => ?_, by simp⟩
  · exact (Below.heap_setCell w9 ⟨g2, k * 5 + 4, none⟩ _ b h2).trans (hB.block b h1)
  · exact Below.heap_setCell w9 ⟨g2, k * 5 + 4, none⟩ _ b h2
/-- A device's number, in a row of the call's own. -/
theorem OwnDevs.cell0 {w : World} {base g n c r : Nat} {l : List Dev} {M : Nat → Value} (h : OwnDevs w base (.slice (some ⟨g, 0, none⟩) n c) l M) (hr : r < l.length) : w.cell? ⟨g, r * 5, none⟩ = some (.int .i64 (nth dev0 l r).id) := by
  obtain ⟨xs, hrow, hc, _⟩ := h
  obtain rfl : n = l.length := own_n hrow
  have hx := own_len hrow
  rw [hrow.cellAt (r * 5) (by omega)]
  exact (hc r hr).1.1
theorem setMaps_id (q : Pool) (k j : Nat) (l : List Mp) (hk : k < q.devs.length) : (nth dev0 (setMaps q k l).devs j).id = (nth dev0 q.devs j).id := by
  show (nth dev0 (q.devs.set k _) j).id = _
  rw [nthG_set dev0 _ k j _ hk]
  split
  · rename_i h; rw [h]
  · rfl
theorem md_end {w W : World} {base g2 n c k : Nat} {q : Pool} {l : List Mp} {M : Nat → Value} (h : OwnDevs W base (.slice (some ⟨g2, 0, none⟩) n c) (setMaps q k l).devs M) (hn : (setMaps q k l).devs.length = n) (hB : Below w.heap.size w W) (hb : w.heap.size + 2 ≤ base) (u0 u1 u2 u3 u4 : Value) :
    ApIs w (0, setMaps q k l) (.returned (.tuple #[.agg #[.int .i64 q.tx, .int .i64 q.time, .int .i64 q.unit, .int .i64 q.data, .slice (some ⟨g2, 0, none⟩) n c], .int .i64 0])) (((((W.setCell ⟨w.heap.size + 1, 0, none⟩ u0).setCell ⟨w.heap.size + 1, 1, none⟩ u1).setCell ⟨w.heap.size + 1, 2, none⟩ u2).setCell ⟨w.heap.size + 1, 3, none⟩ u3).setCell ⟨w.heap.size + 1, 4, none⟩ u4) := by
  subst hn
  have hlt := own1_lt h rfl
  have h2 := kept5 h (far_own1 rfl (x := w.heap.size + 1) (fun e => by have := hlt _ e; omega)) u0 u1 u2 u3 u4
  exact ⟨_, rfl, pool_keep (OwnP.isp h2) (fun b hb => ⟨by have := hb.1; omega, hb.2⟩) Keep.refl, below5 hB (by omega) _ _ _ _ _⟩
/-- What Device's callees do. -/
def FindsAs (F : FuncId) (w : World) (v : Value) (p : Pool) : Prop := ∀ w' id, Below w.heap.size w w' → Calls Tryz.prog F #[v, .int .i64 id] w' fun e w'' => ∃ v', e = .returned (.tuple #[v', .bool (findB p.devs id)]) ∧ IsDev w'' (Lt w''.heap.size) v' (findD p.devs id) ∧ Below w'.heap.size w' w''
def OversAs (F : FuncId) : Prop := ∀ (w' : World) (va vb : Value) (a b : List Mp), IsMaps w' (Lt w'.heap.size) va a → IsMaps w' (Lt w'.heap.size) vb b → a.length ≤ 1000000 → b.length ≤ 1000000 → Calls Tryz.prog F #[va, vb] w' (ResIs (chkAll [a, b]) (overR a b) w')
def CountsAs (F : FuncId) (w : World) (v : Value) (p : Pool) : Prop := ∀ w', Below w.heap.size w w' → poolChk p = 0 → Calls Tryz.prog F #[v] w' fun e w'' => e = .returned (.int .i64 p.count) ∧ Below w'.heap.size w' w''
def AppliesAs (F : FuncId) (w : World) (v : Value) (p : Pool) (o : Mop) : Prop := ∀ w', Below w.heap.size w w' → Calls Tryz.prog F #[v, mopV o] w' fun e w'' => ApIs w' (applyF p o) e w'' ∧ ((applyF p o).1 = 0 → ApOwn w' (applyF p o).2 e w'')
set_option maxRecDepth 100000 in
set_option maxHeartbeats 3200000 in
theorem mdevice_any (w : World) (v : Value) (p : Pool) (bs tp id : Int) (h : IsPool w (Lt w.heap.size) v p) (hok : p.ok) (hap : AppliesAs 11 w v p ⟨1, id, 0, 0⟩) (hfi : FindsAs 12 w v p) (hov : OversAs 9) (hco : CountsAs 13 w v p) :
    Calls Tryz.prog 6 #[v, .int .i64 bs, .int .i64 tp, .int .i64 id] w (ApIs w (deviceF p bs tp id)) := by
  have hp0 := h
  obtain ⟨A, c, rfl, _, _⟩ := h
  have T := two_new w p A p.devs.length c
  dsimp only [poolBox, zeroBox] at T
  have HAH := Lib.hid (md_ahead hp0 T)
  have HAP := Lib.hid hap
  have HFI := Lib.hid hfi
  have HOV := Lib.hid hov
  have HCO := Lib.hid hco
  clear hp0 hok hap hfi hov hco
  unfold AppliesAs at HAP
  by_cases he : (applyF p ⟨1, id, 0, 0⟩).1 = 0
  · obtain ⟨hc, _, hqf, hk, hkid, hku⟩ := made_is he
    have hdf : deviceF p bs tp id = if findB p.devs bs = false ∨ findB p.devs tp = false then (18, pool0) else if 16384 < p.count + (overD p bs tp).length then (2, pool0) else (0, setMaps (applyF p ⟨1, id, 0, 0⟩).2 (dpos p id) (overD p bs tp)) := by unfold deviceF; rw [if_neg (by simpa using he)]
    have HAW := Lib.hid (fun w' hB => (HAP.out w' hB).mono fun e w'' h => h.2 he)
    rw [hdf]
    clear hdf he HAP
    generalize (applyF p ⟨1, id, 0, 0⟩).2 = q at *
    obtain ⟨a1, a2⟩ := chk_dev (id := bs) (fit_iff.1 hc)
    obtain ⟨b1, b2⟩ := chk_dev (id := tp) (fit_iff.1 hc)
    have hca : chkAll [(findD p.devs bs).maps, (findD p.devs tp).maps] = 0 := by simp only [chkAll]; rw [if_neg (by simpa using a1), if_neg (by simpa using b1)]
    have hor : overR (findD p.devs bs).maps (findD p.devs tp).maps = overD p bs tp := by unfold overR; rw [if_pos hca]; rfl
    have hle : (overD p bs tp).length ≤ (findD p.devs bs).maps.length + (findD p.devs tp).maps.length := mergeO_le _ _ _ (Nat.le_refl _)
    have HOW := Lib.hid (fun w' va vb h1 h2 => HOV.out w' va vb (findD p.devs bs).maps (findD p.devs tp).maps h1 h2 (by omega) (by omega))
    rw [hca, hor] at HOW
    have hcn : 0 ≤ p.count ∧ p.count ≤ 16384 := ⟨countL_nonneg _, (fit_iff.1 hc).2.2.1⟩
    have HKU := Lib.hid hku
    have HKI := Lib.hid hkid
    have HQF := Lib.hid hqf
    have HCC := Lib.hid (fun w' hB => HCO.out w' hB hc)
    have hql := pool_len (fit_iff.2 hqf)
    have HKL := Lib.hid hk
    clear hku hkid hqf HOV hca hor a1 b1 hc HCO
    generalize hov : overD p bs tp = ov at *
    have HOVE := Lib.hid hov
    clear hov
    generalize hovl : ov.length = L at *
    have HVL := Lib.hid hovl
    clear hovl
    generalize hkk : dpos p id = k at *
    clear hkk
    generalize p.devs.length = n at *
    generalize hrr : (if findB p.devs bs = false ∨ findB p.devs tp = false then (18, pool0) else if 16384 < p.count + (L : Int) then (2, pool0) else (0, setMaps q k ov) : Int × Pool) = r
    have HRR := Lib.hid hrr
    clear hrr
    go_enter Tryz.func6, Tryz.ntmps6
    go_upto_region 1 with fail
    generalize (w.alloc (.cells #[.int .i64 p.tx, .int .i64 p.time, .int .i64 p.unit, .int .i64 p.data, .slice A n c] 24)).alloc (.cells #[.int .i64 0, .int .i64 0, .int .i64 0, .int .i64 0, .slice none 0 0] 24) = w2 at *
    have hk2 := Below.refl w2.heap.size w2
    have hrs := (HAH.out w2 hk2).1.2.2.1
    obtain ⟨x0, x1, x2, x3, x4⟩ := (HAH.out w2 hk2).1.2.1.cells
    obtain ⟨z0, z1, z2, z3, z4⟩ := hrs.cells
    have f0 := hrs.free 0
    have f1 := hrs.free 1
    have f2 := hrs.free 2
    have f3 := hrs.free 3
    have f4 := hrs.free 4
    go_upto_region 4 with (go_at_call 11; refine (HAW.out w2 (HAH.out w2 hk2).1.1).mono ?_; rintro e w3 ⟨A3, c3, M3, rfl, ho3, hB3⟩; have hk3 := hk2.trans hB3)
    obtain ⟨w4, hw4⟩ : ∃ x, w3.alloc (.cells #[.int .i64 q.tx, .int .i64 q.time, .int .i64 q.unit, .int .i64 q.data, .slice A3 q.devs.length c3] 24) = x := ⟨_, rfl⟩
    have hB4 : Below w3.heap.size w3 w4 := by rw [← hw4]; exact (Below.refl _ _).alloc (Nat.le_refl _) _
    have b4 : RBox w4 w3.heap.size (.int .i64 q.tx) (.int .i64 q.time) (.int .i64 q.unit) (.int .i64 q.data) (.slice A3 q.devs.length c3) := by rw [← hw4]; exact heap_alloc_new w3 _
    have hgz4 := box_lt b4
    have HO4 := Lib.hid (fun w' (hB : Below w4.heap.size w4 w') => ho3.keep (hB4.trans (hB.mono hB4.size)) (Nat.le_refl _))
    have H3L := Lib.hid ho3.lt
    rw [hw4]
    clear hw4 ho3
    have hk4 := hk3.trans (hB4.mono hk3.size)
    clear hrs x0 x1 x2 x3 x4 z0 z1 z2 z3 z4 f0 f1 f2 f3 f4
    have hrs := (HAH.out w4 hk4).1.2.2.1
    obtain ⟨x0, x1, x2, x3, x4⟩ := (HAH.out w4 hk4).1.2.1.cells
    obtain ⟨z0, z1, z2, z3, z4⟩ := hrs.cells
    have f0 := hrs.free 0
    have f1 := hrs.free 1
    have f2 := hrs.free 2
    have f3 := hrs.free 3
    have f4 := hrs.free 4
    go_upto_region 5 with (go_at_call 12; refine (HFI.out w4 bs (HAH.out w4 hk4).1.1).mono ?_; rintro e w5 ⟨v5, rfl, ⟨A5, c5, rfl, hc5, hr5⟩, hB5⟩; have hk5 := hk4.trans (hB5.mono hk4.size))
    obtain ⟨w6, hw6⟩ : ∃ x, w5.alloc (.cells #[.int .i64 (findD p.devs bs).id, .int .i64 (findD p.devs bs).tx, .int .i64 (findD p.devs bs).made, .int .i64 (findD p.devs bs).snapped, .slice A5 (findD p.devs bs).maps.length c5] 36) = x := ⟨_, rfl⟩
    have hB6 : Below w5.heap.size w5 w6 := by rw [← hw6]; exact (Below.refl _ _).alloc (Nat.le_refl _) _
    have b6 : DBox w6 w5.heap.size (findD p.devs bs) A5 c5 := by rw [← hw6]; exact heap_alloc_new w5 _
    have HM6 := Lib.hid (fun w' (hB : Below w6.heap.size w6 w') => IsSl.keep (S' := Lt w'.heap.size) (l := (findD p.devs bs).maps) rmp_stable ⟨A5, c5, rfl, hc5, hr5⟩ (fun b (hb : b < w5.heap.size) => show b < w'.heap.size from Nat.lt_of_lt_of_le hb (Nat.le_trans hB6.size hB.size)) (keep_below (hB6.trans (hB.mono hB6.size)) (fun _ h => h)))
    rw [hw6]
    clear hw6 hc5 hr5
    have hk6 := hk5.trans (hB6.mono hk5.size)
    clear hrs x0 x1 x2 x3 x4 z0 z1 z2 z3 z4 f0 f1 f2 f3 f4
    have hrs := (HAH.out w6 hk6).1.2.2.1
    obtain ⟨x0, x1, x2, x3, x4⟩ := (HAH.out w6 hk6).1.2.1.cells
    obtain ⟨z0, z1, z2, z3, z4⟩ := hrs.cells
    have f0 := hrs.free 0
    have f1 := hrs.free 1
    have f2 := hrs.free 2
    have f3 := hrs.free 3
    have f4 := hrs.free 4
    go_upto_region 6 with (go_at_call 12; refine (HFI.out w6 tp (HAH.out w6 hk6).1.1).mono ?_; rintro e w7 ⟨v7, rfl, ⟨A7, c7, rfl, hc7, hr7⟩, hB7⟩; have hk7 := hk6.trans (hB7.mono hk6.size))
    obtain ⟨w8, hw8⟩ : ∃ x, w7.alloc (.cells #[.int .i64 (findD p.devs tp).id, .int .i64 (findD p.devs tp).tx, .int .i64 (findD p.devs tp).made, .int .i64 (findD p.devs tp).snapped, .slice A7 (findD p.devs tp).maps.length c7] 36) = x := ⟨_, rfl⟩
    have hB8 : Below w7.heap.size w7 w8 := by rw [← hw8]; exact (Below.refl _ _).alloc (Nat.le_refl _) _
    have b8 : DBox w8 w7.heap.size (findD p.devs tp) A7 c7 := by rw [← hw8]; exact heap_alloc_new w7 _
    have HM8 := Lib.hid (fun w' (hB : Below w8.heap.size w8 w') => IsSl.keep (S' := Lt w'.heap.size) (l := (findD p.devs tp).maps) rmp_stable ⟨A7, c7, rfl, hc7, hr7⟩ (fun b (hb : b < w7.heap.size) => show b < w'.heap.size from Nat.lt_of_lt_of_le hb (Nat.le_trans hB8.size hB.size)) (keep_below (hB8.trans (hB.mono hB8.size)) (fun _ h => h)))
    rw [hw8]
    clear hw8 hc7 hr7
    have hk8 := hk7.trans (hB8.mono hk7.size)
    have hB68 := hB7.trans (hB8.mono hB7.size)
    have hB48 := hB5.trans ((hB6.trans (hB68.mono hB6.size)).mono hB5.size)
    clear hrs x0 x1 x2 x3 x4 z0 z1 z2 z3 z4 f0 f1 f2 f3 f4
    have hrs := (HAH.out w8 hk8).1.2.2.1
    obtain ⟨x0, x1, x2, x3, x4⟩ := (HAH.out w8 hk8).1.2.1.cells
    obtain ⟨z0, z1, z2, z3, z4⟩ := hrs.cells
    have f0 := hrs.free 0
    have f1 := hrs.free 1
    have f2 := hrs.free 2
    have f3 := hrs.free 3
    have f4 := hrs.free 4
    by_cases hf : findB p.devs bs = false ∨ findB p.devs tp = false
    · obtain rfl : r = (18, pool0) := by rw [← HRR.out, if_pos hf]
      have hf2 : findB p.devs bs = false ∨ (findB p.devs bs = true ∧ findB p.devs tp = false) := by
        cases h1 : findB p.devs bs
        · exact .inl rfl
        · exact .inr ⟨rfl, by rcases hf with h | h; rw [h1] at h; cases h; exact h⟩
      clear hf HRR
      rcases hf2 with g1 | ⟨g1, g2⟩
      all_goals
        go_wp2_with fail
        obtain ⟨q0, q1, q2, q3, q4⟩ := cells5 (set5 hrs (.int .i64 0) (.int .i64 0) (.int .i64 0) (.int .i64 0) (.slice none 0 0))
        refine bodyPost_ret (v := .tuple #[.agg #[.int .i64 0, .int .i64 0, .int .i64 0, .int .i64 0, .slice none 0 0], .int .i64 18]) (by simp [results, Tryz.results6, go_sem, q0, q1, q2, q3, q4]) rfl ?_
        exact ⟨_, rfl, pool0_at _ _, below5 (HAH.out w8 hk8).1.1 (Nat.le_succ _) _ _ _ _ _⟩
    · have g1 : findB p.devs bs = true := by
        cases h1 : findB p.devs bs
        · exact absurd (.inl h1) hf
        · rfl
      have g2 : findB p.devs tp = true := by
        cases h1 : findB p.devs tp
        · exact absurd (.inr h1) hf
        · rfl
      have HRQ := Lib.hid (show r = if 16384 < p.count + (L : Int) then (2, pool0) else (0, setMaps q k ov) by rw [← HRR.out, if_neg hf])
      clear hf HRR
      obtain ⟨d0, d1, d2, d3, d4⟩ := DBox.cells (box_up b6 hB68)
      obtain ⟨e0, e1, e2, e3, e4⟩ := b8.cells
      go_upto_region 11 with (go_at_call 9; refine (HOW.out w8 _ _ (HM6.out w8 hB68) (HM8.out w8 (Below.refl _ _))).mono ?_; rintro e w9 ⟨A9, n9, c9, hn9, rfl, ho9, hB9⟩; have hn9 := (hn9.trans HVL.out).symm; subst hn9; have hk9 := hk8.trans (hB9.mono hk8.size))
      have HO9 := Lib.hid ho9
      have hLz : L ≤ 40000 := by omega
      clear ho9 d0 d1 d2 d3 d4 e0 e1 e2 e3 e4
      clear hrs x0 x1 x2 x3 x4 z0 z1 z2 z3 z4 f0 f1 f2 f3 f4
      have hrs := (HAH.out w9 hk9).1.2.2.1
      obtain ⟨x0, x1, x2, x3, x4⟩ := (HAH.out w9 hk9).1.2.1.cells
      obtain ⟨z0, z1, z2, z3, z4⟩ := hrs.cells
      have f0 := hrs.free 0
      have f1 := hrs.free 1
      have f2 := hrs.free 2
      have f3 := hrs.free 3
      have f4 := hrs.free 4
      have hws : IntKind.i64.wrap (p.count + (L : Int)) = p.count + (L : Int) := IntWalk.i64_in _ (by omega)
      by_cases hm : 16384 < p.count + (L : Int)
      · obtain rfl : r = (2, pool0) := by rw [HRQ.out, if_pos hm]
        clear HRQ
        go_wp2_with (go_at_call 13; refine (HCC.out w9 (HAH.out w9 hk9).1.1).mono ?_; rintro e w10 ⟨rfl, hB10⟩; have hk10 := hk9.trans (hB10.mono hk9.size); clear hrs x0 x1 x2 x3 x4 z0 z1 z2 z3 z4 f0 f1 f2 f3 f4; have hrs := (HAH.out w10 hk10).1.2.2.1; obtain ⟨z0, z1, z2, z3, z4⟩ := hrs.cells; have f0 := hrs.free 0; have f1 := hrs.free 1; have f2 := hrs.free 2; have f3 := hrs.free 3; have f4 := hrs.free 4)
        obtain ⟨q0, q1, q2, q3, q4⟩ := cells5 (set5 hrs (.int .i64 0) (.int .i64 0) (.int .i64 0) (.int .i64 0) (.slice none 0 0))
        refine bodyPost_ret (v := .tuple #[.agg #[.int .i64 0, .int .i64 0, .int .i64 0, .int .i64 0, .slice none 0 0], .int .i64 2]) (by simp [results, Tryz.results6, go_sem, q0, q1, q2, q3, q4]) rfl ?_
        exact ⟨_, rfl, pool0_at _ _, below5 (HAH.out w10 hk10).1.1 (Nat.le_succ _) _ _ _ _ _⟩
      · obtain rfl : r = (0, setMaps q k ov) := by rw [HRQ.out, if_neg hm]
        clear HRQ
        go_upto_region 13 with (go_at_call 13; refine (HCC.out w9 (HAH.out w9 hk9).1.1).mono ?_; rintro e w10 ⟨rfl, hB10⟩; have hk10 := hk9.trans (hB10.mono hk9.size))
        have hz10 := hB10.size
        have hz9 := hB9.size
        have hB410 := hB48.trans ((hB9.trans (hB10.mono hB9.size)).mono hB48.size)
        have b10 := box_up b4 hB410
        obtain ⟨g2, cq, hv, hbg2, hg2, hnc⟩ : ∃ g2 c2, (Value.slice A3 q.devs.length c3) = .slice (some ⟨g2, 0, none⟩) q.devs.length c2 ∧ w2.heap.size ≤ g2 ∧ g2 < w4.heap.size ∧ q.devs.length ≤ c2 := by
          obtain ⟨xs, r1, _⟩ := HO4.out w4 (Below.refl _ _)
          exact own_form r1 (by have := HKL.out; omega)
        injection hv with v1 v2 v3
        subst v1 v3
        clear v2
        have hgne : g2 ≠ w3.heap.size := fun e => by have := (H3L.out.1 g2 rfl).2; omega
        obtain ⟨W, hW⟩ : ∃ x, w10.setCell ⟨g2, k * 5 + 4, none⟩ (.slice A9 L c9) = x := ⟨_, rfl⟩
        have HW := Lib.hid hW
        have hz48 := hB48.size
        have ho8 := HO4.out w8 hB48
        have hpt := md_put (w9 := w10) rfl ho8 HKL.out (by have := hk8.size; omega) HVL.out.symm (hB9.trans (hB10.mono hB9.size)) (own_below HO9.out hB10 (fun x hx => (HO9.out.lt x hx).2)) hW
        have HPT := Lib.hid hpt
        have hoT := HO4.out w10 hB410
        have HC0 := Lib.hid (fun j (hj : j < q.devs.length) => hoT.cell0 hj)
        have HC1 := Lib.hid (fun j (hj : j < q.devs.length) => by
          have h := hpt.1.cell0 (r := j) (by rw [len_setMaps]; exact hj)
          rw [setMaps_id q k j ov HKL.out] at h
          exact h)
        have hcm := hoT.cellM HKL.out
        have HCM := Lib.hid hcm
        have bW : RBox W w3.heap.size (.int .i64 q.tx) (.int .i64 q.time) (.int .i64 q.unit) (.int .i64 q.data) (.slice (some ⟨g2, 0, none⟩) q.devs.length c3) := (hpt.2.2.1 _ (by omega) (fun e => hgne e.symm)).trans b10
        have hr10 := (HAH.out w10 hk10).1.2.2.1
        have hz2 := (HAH.out w2 hk2).1.2.2.2
        have rW : RBox W (w.heap.size + 1) (.int .i64 0) (.int .i64 0) (.int .i64 0) (.int .i64 0) (.slice none 0 0) := (hpt.2.2.1 _ (box_lt hr10) (by have := hk2.size; omega)).trans hr10
        clear hW hpt hoT hcm ho8 hrs x0 x1 x2 x3 x4 z0 z1 z2 z3 z4 f0 f1 f2 f3 f4
        have HKUI := Lib.hid (fun j hj => HKU.out j hj)
        generalize hql2 : q.devs.length = nq at *
        have HQL := Lib.hid hql2
        clear hql2
        obtain ⟨x0, x1, x2, x3, x4⟩ := cells5 b10
        have hnqi : nq ≤ 4096 := hql
        have hkl : k < nq := HKL.out
        go_wp2_with fail
        go_loopw [70] (fun i wr => ∃ j : Nat, i = .int .i64 j ∧ j ≤ nq ∧ (j ≤ k → wr = w10) ∧ (k < j → wr = W)) (fun i _ => nq - (intOf i).toNat)
        case atStart => exact ⟨0, rfl, by omega, fun _ => rfl, fun h => absurd h (by omega)⟩
        case round =>
          obtain ⟨j, rfl, hj, hwa, hwb⟩ := hrel
          clear x0 x1 x2 x3 x4
          by_cases hlt : j < nq
          · have hji : (j : Int) < (nq : Int) := by omega
            rcases Nat.lt_trichotomy j k with hjk | hjk | hjk
            · have hw := hwa (by omega)
              subst hw
              clear hwa hwb
              obtain ⟨x0, x1, x2, x3, x4⟩ := cells5 b10
              have c0 := HC0.out j hlt
              have hne : ((nth dev0 q.devs j).id == id) = false := by simpa using HKUI.out j hlt (by omega)
              generalize (nth dev0 q.devs j).id = y at *
              go_wp2_with fail
              go_roundw
              case rel => exact ⟨j + 1, by go_num, by omega, (by intro _; first | rfl | trivial), fun h => absurd h (by omega)⟩
              case measure => simp [intOf]; omega
            · subst hjk
              have hw := hwa (Nat.le_refl _)
              subst hw
              clear hwa hwb
              obtain ⟨x0, x1, x2, x3, x4⟩ := cells5 b10
              have c0 := HC0.out j hlt
              rw [HKI.out] at c0
              obtain ⟨m0, _, mf, _⟩ := HCM.out
              go_wp2_with fail
              go_roundw
              case rel => exact ⟨j + 1, by go_num, by omega, fun h => absurd h (by omega), (by intro _; first | exact HW.out | (rw [HVL.out]; exact HW.out))⟩
              case measure => simp [intOf]; omega
            · have hw := hwb hjk
              subst hw
              clear hwa hwb
              obtain ⟨x0, x1, x2, x3, x4⟩ := cells5 bW
              have c0 := HC1.out j hlt
              have hne : ((nth dev0 q.devs j).id == id) = false := by simpa using HKUI.out j hlt (by omega)
              generalize (nth dev0 q.devs j).id = y at *
              go_wp2_with fail
              go_roundw
              case rel => exact ⟨j + 1, by go_num, by omega, fun h => absurd h (by omega), (by intro _; first | rfl | trivial)⟩
              case measure => simp [intOf]; omega
          · obtain rfl : j = nq := by omega
            have hw := hwb hkl
            subst hw
            clear hwa hwb
            obtain ⟨x0, x1, x2, x3, x4⟩ := cells5 bW
            obtain ⟨z0, z1, z2, z3, z4⟩ := rW.cells
            have f0 := rW.free 0
            have f1 := rW.free 1
            have f2 := rW.free 2
            have f3 := rW.free 3
            have f4 := rW.free 4
            go_wp2_with fail
            obtain ⟨q0, q1, q2, q3, q4⟩ := cells5 (set5 rW (.int .i64 q.tx) (.int .i64 q.time) (.int .i64 q.unit) (.int .i64 q.data) (.slice (some ⟨g2, 0, none⟩) j c3))
            refine bodyPost_ret (v := .tuple #[.agg #[.int .i64 q.tx, .int .i64 q.time, .int .i64 q.unit, .int .i64 q.data, .slice (some ⟨g2, 0, none⟩) j c3], .int .i64 0]) (by simp [results, Tryz.results6, go_sem, q0, q1, q2, q3, q4]) rfl ?_
            have hBW : Below w.heap.size w wr := by rw [← HW.out]; exact (HAH.out w10 hk10).1.1.setCell (p := ⟨g2, k * 5 + 4, none⟩) (by have := hk2.size; show w.heap.size ≤ g2; omega) _
            exact md_end HPT.out.1 (by rw [len_setMaps]; exact HQL.out) hBW (by omega) _ _ _ _ _
  · have hdf : deviceF p bs tp id = ((applyF p ⟨1, id, 0, 0⟩).1, pool0) := by unfold deviceF; rw [if_pos he]
    rw [hdf]
    have HAI := Lib.hid (fun w' hB => (HAP.out w' hB).mono fun e w'' h => h.1)
    have hbe : ((applyF p ⟨1, id, 0, 0⟩).1 != 0) = true := by simpa using he
    clear hdf he HAP
    generalize (applyF p ⟨1, id, 0, 0⟩) = r at *
    obtain ⟨fe, q⟩ := r
    dsimp only at *
    generalize p.devs.length = n at *
    go_enter Tryz.func6, Tryz.ntmps6
    go_upto_region 1 with fail
    generalize (w.alloc (.cells #[.int .i64 p.tx, .int .i64 p.time, .int .i64 p.unit, .int .i64 p.data, .slice A n c] 24)).alloc (.cells #[.int .i64 0, .int .i64 0, .int .i64 0, .int .i64 0, .slice none 0 0] 24) = w2 at *
    have hk2 := Below.refl w2.heap.size w2
    have hrs := (HAH.out w2 hk2).1.2.2.1
    obtain ⟨x0, x1, x2, x3, x4⟩ := (HAH.out w2 hk2).1.2.1.cells
    obtain ⟨z0, z1, z2, z3, z4⟩ := hrs.cells
    have f0 := hrs.free 0
    have f1 := hrs.free 1
    have f2 := hrs.free 2
    have f3 := hrs.free 3
    have f4 := hrs.free 4
    go_upto_region 2 with (go_at_call 11; refine (HAI.out w2 (HAH.out w2 hk2).1.1).mono ?_; rintro e w3 ⟨v3, rfl, ⟨A3, c3, rfl, hc3, hr3⟩, hB3⟩; have hk3 := hk2.trans hB3)
    obtain ⟨w4, hw4⟩ : ∃ x, w3.alloc (.cells #[.int .i64 q.tx, .int .i64 q.time, .int .i64 q.unit, .int .i64 q.data, .slice A3 q.devs.length c3] 24) = x := ⟨_, rfl⟩
    have hB4 : Below w3.heap.size w3 w4 := by rw [← hw4]; exact (Below.refl _ _).alloc (Nat.le_refl _) _
    rw [hw4]
    clear hw4 hr3
    have hk4 := hk3.trans (hB4.mono hk3.size)
    clear hrs x0 x1 x2 x3 x4 z0 z1 z2 z3 z4 f0 f1 f2 f3 f4
    have hrs := (HAH.out w4 hk4).1.2.2.1
    obtain ⟨x0, x1, x2, x3, x4⟩ := (HAH.out w4 hk4).1.2.1.cells
    obtain ⟨z0, z1, z2, z3, z4⟩ := hrs.cells
    have f0 := hrs.free 0
    have f1 := hrs.free 1
    have f2 := hrs.free 2
    have f3 := hrs.free 3
    have f4 := hrs.free 4
    go_wp2_with fail
    obtain ⟨q0, q1, q2, q3, q4⟩ := cells5 (set5 hrs (.int .i64 0) (.int .i64 0) (.int .i64 0) (.int .i64 0) (.slice none 0 0))
    refine bodyPost_ret (v := .tuple #[.agg #[.int .i64 0, .int .i64 0, .int .i64 0, .int .i64 0, .slice none 0 0], .int .i64 fe]) (by simp [results, Tryz.results6, go_sem, q0, q1, q2, q3, q4]) rfl ?_
    exact ⟨_, rfl, pool0_at _ _, below5 (HAH.out w4 hk4).1.1 (Nat.le_succ _) _ _ _ _ _⟩
set_option maxRecDepth 100000 in
set_option maxHeartbeats 3200000 in
theorem rmdevice_any (w : World) (v : Value) (p : Pool) (bs tp id : Int) (h : IsPool w (Lt w.heap.size) v p) (hok : p.ok) (hap : AppliesAs 14 w v p ⟨1, id, 0, 0⟩) (hfi : FindsAs 15 w v p) (hov : OversAs 16) (hco : CountsAs 17 w v p) :
    Calls Tryz.prog 7 #[v, .int .i64 bs, .int .i64 tp, .int .i64 id] w (ApIs w (deviceF p bs tp id)) := by
  have hp0 := h
  obtain ⟨A, c, rfl, _, _⟩ := h
  have T := two_new w p A p.devs.length c
  dsimp only [poolBox, zeroBox] at T
  have HAH := Lib.hid (md_ahead hp0 T)
  have HAP := Lib.hid hap
  have HFI := Lib.hid hfi
  have HOV := Lib.hid hov
  have HCO := Lib.hid hco
  clear hp0 hok hap hfi hov hco
  unfold AppliesAs at HAP
  by_cases he : (applyF p ⟨1, id, 0, 0⟩).1 = 0
  · obtain ⟨hc, _, hqf, hk, hkid, hku⟩ := made_is he
    have hdf : deviceF p bs tp id = if findB p.devs bs = false ∨ findB p.devs tp = false then (18, pool0) else if 16384 < p.count + (overD p bs tp).length then (2, pool0) else (0, setMaps (applyF p ⟨1, id, 0, 0⟩).2 (dpos p id) (overD p bs tp)) := by unfold deviceF; rw [if_neg (by simpa using he)]
    have HAW := Lib.hid (fun w' hB => (HAP.out w' hB).mono fun e w'' h => h.2 he)
    rw [hdf]
    clear hdf he HAP
    generalize (applyF p ⟨1, id, 0, 0⟩).2 = q at *
    obtain ⟨a1, a2⟩ := chk_dev (id := bs) (fit_iff.1 hc)
    obtain ⟨b1, b2⟩ := chk_dev (id := tp) (fit_iff.1 hc)
    have hca : chkAll [(findD p.devs bs).maps, (findD p.devs tp).maps] = 0 := by simp only [chkAll]; rw [if_neg (by simpa using a1), if_neg (by simpa using b1)]
    have hor : overR (findD p.devs bs).maps (findD p.devs tp).maps = overD p bs tp := by unfold overR; rw [if_pos hca]; rfl
    have hle : (overD p bs tp).length ≤ (findD p.devs bs).maps.length + (findD p.devs tp).maps.length := mergeO_le _ _ _ (Nat.le_refl _)
    have HOW := Lib.hid (fun w' va vb h1 h2 => HOV.out w' va vb (findD p.devs bs).maps (findD p.devs tp).maps h1 h2 (by omega) (by omega))
    rw [hca, hor] at HOW
    have hcn : 0 ≤ p.count ∧ p.count ≤ 16384 := ⟨countL_nonneg _, (fit_iff.1 hc).2.2.1⟩
    have HKU := Lib.hid hku
    have HKI := Lib.hid hkid
    have HQF := Lib.hid hqf
    have HCC := Lib.hid (fun w' hB => HCO.out w' hB hc)
    have hql := pool_len (fit_iff.2 hqf)
    have HKL := Lib.hid hk
    clear hku hkid hqf HOV hca hor a1 b1 hc HCO
    generalize hov : overD p bs tp = ov at *
    have HOVE := Lib.hid hov
    clear hov
    generalize hovl : ov.length = L at *
    have HVL := Lib.hid hovl
    clear hovl
    generalize hkk : dpos p id = k at *
    clear hkk
    generalize p.devs.length = n at *
    generalize hrr : (if findB p.devs bs = false ∨ findB p.devs tp = false then (18, pool0) else if 16384 < p.count + (L : Int) then (2, pool0) else (0, setMaps q k ov) : Int × Pool) = r
    have HRR := Lib.hid hrr
    clear hrr
    go_enter Tryz.func7, Tryz.ntmps7
    go_upto_region 1 with fail
    generalize (w.alloc (.cells #[.int .i64 p.tx, .int .i64 p.time, .int .i64 p.unit, .int .i64 p.data, .slice A n c] 24)).alloc (.cells #[.int .i64 0, .int .i64 0, .int .i64 0, .int .i64 0, .slice none 0 0] 24) = w2 at *
    have hk2 := Below.refl w2.heap.size w2
    have hrs := (HAH.out w2 hk2).1.2.2.1
    obtain ⟨x0, x1, x2, x3, x4⟩ := (HAH.out w2 hk2).1.2.1.cells
    obtain ⟨z0, z1, z2, z3, z4⟩ := hrs.cells
    have f0 := hrs.free 0
    have f1 := hrs.free 1
    have f2 := hrs.free 2
    have f3 := hrs.free 3
    have f4 := hrs.free 4
    go_upto_region 4 with (go_at_call 14; refine (HAW.out w2 (HAH.out w2 hk2).1.1).mono ?_; rintro e w3 ⟨A3, c3, M3, rfl, ho3, hB3⟩; have hk3 := hk2.trans hB3)
    obtain ⟨w4, hw4⟩ : ∃ x, w3.alloc (.cells #[.int .i64 q.tx, .int .i64 q.time, .int .i64 q.unit, .int .i64 q.data, .slice A3 q.devs.length c3] 24) = x := ⟨_, rfl⟩
    have hB4 : Below w3.heap.size w3 w4 := by rw [← hw4]; exact (Below.refl _ _).alloc (Nat.le_refl _) _
    have b4 : RBox w4 w3.heap.size (.int .i64 q.tx) (.int .i64 q.time) (.int .i64 q.unit) (.int .i64 q.data) (.slice A3 q.devs.length c3) := by rw [← hw4]; exact heap_alloc_new w3 _
    have hgz4 := box_lt b4
    have HO4 := Lib.hid (fun w' (hB : Below w4.heap.size w4 w') => ho3.keep (hB4.trans (hB.mono hB4.size)) (Nat.le_refl _))
    have H3L := Lib.hid ho3.lt
    rw [hw4]
    clear hw4 ho3
    have hk4 := hk3.trans (hB4.mono hk3.size)
    clear hrs x0 x1 x2 x3 x4 z0 z1 z2 z3 z4 f0 f1 f2 f3 f4
    have hrs := (HAH.out w4 hk4).1.2.2.1
    obtain ⟨x0, x1, x2, x3, x4⟩ := (HAH.out w4 hk4).1.2.1.cells
    obtain ⟨z0, z1, z2, z3, z4⟩ := hrs.cells
    have f0 := hrs.free 0
    have f1 := hrs.free 1
    have f2 := hrs.free 2
    have f3 := hrs.free 3
    have f4 := hrs.free 4
    go_upto_region 5 with (go_at_call 15; refine (HFI.out w4 bs (HAH.out w4 hk4).1.1).mono ?_; rintro e w5 ⟨v5, rfl, ⟨A5, c5, rfl, hc5, hr5⟩, hB5⟩; have hk5 := hk4.trans (hB5.mono hk4.size))
    obtain ⟨w6, hw6⟩ : ∃ x, w5.alloc (.cells #[.int .i64 (findD p.devs bs).id, .int .i64 (findD p.devs bs).tx, .int .i64 (findD p.devs bs).made, .int .i64 (findD p.devs bs).snapped, .slice A5 (findD p.devs bs).maps.length c5] 36) = x := ⟨_, rfl⟩
    have hB6 : Below w5.heap.size w5 w6 := by rw [← hw6]; exact (Below.refl _ _).alloc (Nat.le_refl _) _
    have b6 : DBox w6 w5.heap.size (findD p.devs bs) A5 c5 := by rw [← hw6]; exact heap_alloc_new w5 _
    have HM6 := Lib.hid (fun w' (hB : Below w6.heap.size w6 w') => IsSl.keep (S' := Lt w'.heap.size) (l := (findD p.devs bs).maps) rmp_stable ⟨A5, c5, rfl, hc5, hr5⟩ (fun b (hb : b < w5.heap.size) => show b < w'.heap.size from Nat.lt_of_lt_of_le hb (Nat.le_trans hB6.size hB.size)) (keep_below (hB6.trans (hB.mono hB6.size)) (fun _ h => h)))
    rw [hw6]
    clear hw6 hc5 hr5
    have hk6 := hk5.trans (hB6.mono hk5.size)
    clear hrs x0 x1 x2 x3 x4 z0 z1 z2 z3 z4 f0 f1 f2 f3 f4
    have hrs := (HAH.out w6 hk6).1.2.2.1
    obtain ⟨x0, x1, x2, x3, x4⟩ := (HAH.out w6 hk6).1.2.1.cells
    obtain ⟨z0, z1, z2, z3, z4⟩ := hrs.cells
    have f0 := hrs.free 0
    have f1 := hrs.free 1
    have f2 := hrs.free 2
    have f3 := hrs.free 3
    have f4 := hrs.free 4
    go_upto_region 6 with (go_at_call 15; refine (HFI.out w6 tp (HAH.out w6 hk6).1.1).mono ?_; rintro e w7 ⟨v7, rfl, ⟨A7, c7, rfl, hc7, hr7⟩, hB7⟩; have hk7 := hk6.trans (hB7.mono hk6.size))
    obtain ⟨w8, hw8⟩ : ∃ x, w7.alloc (.cells #[.int .i64 (findD p.devs tp).id, .int .i64 (findD p.devs tp).tx, .int .i64 (findD p.devs tp).made, .int .i64 (findD p.devs tp).snapped, .slice A7 (findD p.devs tp).maps.length c7] 36) = x := ⟨_, rfl⟩
    have hB8 : Below w7.heap.size w7 w8 := by rw [← hw8]; exact (Below.refl _ _).alloc (Nat.le_refl _) _
    have b8 : DBox w8 w7.heap.size (findD p.devs tp) A7 c7 := by rw [← hw8]; exact heap_alloc_new w7 _
    have HM8 := Lib.hid (fun w' (hB : Below w8.heap.size w8 w') => IsSl.keep (S' := Lt w'.heap.size) (l := (findD p.devs tp).maps) rmp_stable ⟨A7, c7, rfl, hc7, hr7⟩ (fun b (hb : b < w7.heap.size) => show b < w'.heap.size from Nat.lt_of_lt_of_le hb (Nat.le_trans hB8.size hB.size)) (keep_below (hB8.trans (hB.mono hB8.size)) (fun _ h => h)))
    rw [hw8]
    clear hw8 hc7 hr7
    have hk8 := hk7.trans (hB8.mono hk7.size)
    have hB68 := hB7.trans (hB8.mono hB7.size)
    have hB48 := hB5.trans ((hB6.trans (hB68.mono hB6.size)).mono hB5.size)
    clear hrs x0 x1 x2 x3 x4 z0 z1 z2 z3 z4 f0 f1 f2 f3 f4
    have hrs := (HAH.out w8 hk8).1.2.2.1
    obtain ⟨x0, x1, x2, x3, x4⟩ := (HAH.out w8 hk8).1.2.1.cells
    obtain ⟨z0, z1, z2, z3, z4⟩ := hrs.cells
    have f0 := hrs.free 0
    have f1 := hrs.free 1
    have f2 := hrs.free 2
    have f3 := hrs.free 3
    have f4 := hrs.free 4
    by_cases hf : findB p.devs bs = false ∨ findB p.devs tp = false
    · obtain rfl : r = (18, pool0) := by rw [← HRR.out, if_pos hf]
      have hf2 : findB p.devs bs = false ∨ (findB p.devs bs = true ∧ findB p.devs tp = false) := by
        cases h1 : findB p.devs bs
        · exact .inl rfl
        · exact .inr ⟨rfl, by rcases hf with h | h; rw [h1] at h; cases h; exact h⟩
      clear hf HRR
      rcases hf2 with g1 | ⟨g1, g2⟩
      all_goals
        go_wp2_with fail
        obtain ⟨q0, q1, q2, q3, q4⟩ := cells5 (set5 hrs (.int .i64 0) (.int .i64 0) (.int .i64 0) (.int .i64 0) (.slice none 0 0))
        refine bodyPost_ret (v := .tuple #[.agg #[.int .i64 0, .int .i64 0, .int .i64 0, .int .i64 0, .slice none 0 0], .int .i64 18]) (by simp [results, Tryz.results7, go_sem, q0, q1, q2, q3, q4]) rfl ?_
        exact ⟨_, rfl, pool0_at _ _, below5 (HAH.out w8 hk8).1.1 (Nat.le_succ _) _ _ _ _ _⟩
    · have g1 : findB p.devs bs = true := by
        cases h1 : findB p.devs bs
        · exact absurd (.inl h1) hf
        · rfl
      have g2 : findB p.devs tp = true := by
        cases h1 : findB p.devs tp
        · exact absurd (.inr h1) hf
        · rfl
      have HRQ := Lib.hid (show r = if 16384 < p.count + (L : Int) then (2, pool0) else (0, setMaps q k ov) by rw [← HRR.out, if_neg hf])
      clear hf HRR
      obtain ⟨d0, d1, d2, d3, d4⟩ := DBox.cells (box_up b6 hB68)
      obtain ⟨e0, e1, e2, e3, e4⟩ := b8.cells
      go_upto_region 9 with (go_at_call 16; refine (HOW.out w8 _ _ (HM6.out w8 hB68) (HM8.out w8 (Below.refl _ _))).mono ?_; rintro e w9 ⟨A9, n9, c9, hn9, rfl, ho9, hB9⟩; have hn9 := (hn9.trans HVL.out).symm; subst hn9; have hk9 := hk8.trans (hB9.mono hk8.size))
      have HO9 := Lib.hid ho9
      have hLz : L ≤ 40000 := by omega
      clear ho9 d0 d1 d2 d3 d4 e0 e1 e2 e3 e4
      clear hrs x0 x1 x2 x3 x4 z0 z1 z2 z3 z4 f0 f1 f2 f3 f4
      have hrs := (HAH.out w9 hk9).1.2.2.1
      obtain ⟨x0, x1, x2, x3, x4⟩ := (HAH.out w9 hk9).1.2.1.cells
      obtain ⟨z0, z1, z2, z3, z4⟩ := hrs.cells
      have f0 := hrs.free 0
      have f1 := hrs.free 1
      have f2 := hrs.free 2
      have f3 := hrs.free 3
      have f4 := hrs.free 4
      have hws : IntKind.i64.wrap (p.count + (L : Int)) = p.count + (L : Int) := IntWalk.i64_in _ (by omega)
      by_cases hm : 16384 < p.count + (L : Int)
      · obtain rfl : r = (2, pool0) := by rw [HRQ.out, if_pos hm]
        clear HRQ
        go_wp2_with (go_at_call 17; refine (HCC.out w9 (HAH.out w9 hk9).1.1).mono ?_; rintro e w10 ⟨rfl, hB10⟩; have hk10 := hk9.trans (hB10.mono hk9.size); clear hrs x0 x1 x2 x3 x4 z0 z1 z2 z3 z4 f0 f1 f2 f3 f4; have hrs := (HAH.out w10 hk10).1.2.2.1; obtain ⟨z0, z1, z2, z3, z4⟩ := hrs.cells; have f0 := hrs.free 0; have f1 := hrs.free 1; have f2 := hrs.free 2; have f3 := hrs.free 3; have f4 := hrs.free 4)
        obtain ⟨q0, q1, q2, q3, q4⟩ := cells5 (set5 hrs (.int .i64 0) (.int .i64 0) (.int .i64 0) (.int .i64 0) (.slice none 0 0))
        refine bodyPost_ret (v := .tuple #[.agg #[.int .i64 0, .int .i64 0, .int .i64 0, .int .i64 0, .slice none 0 0], .int .i64 2]) (by simp [results, Tryz.results7, go_sem, q0, q1, q2, q3, q4]) rfl ?_
        exact ⟨_, rfl, pool0_at _ _, below5 (HAH.out w10 hk10).1.1 (Nat.le_succ _) _ _ _ _ _⟩
      · obtain rfl : r = (0, setMaps q k ov) := by rw [HRQ.out, if_neg hm]
        clear HRQ
        go_upto_region 11 with (go_at_call 17; refine (HCC.out w9 (HAH.out w9 hk9).1.1).mono ?_; rintro e w10 ⟨rfl, hB10⟩; have hk10 := hk9.trans (hB10.mono hk9.size))
        have hz10 := hB10.size
        have hz9 := hB9.size
        have hB410 := hB48.trans ((hB9.trans (hB10.mono hB9.size)).mono hB48.size)
        have b10 := box_up b4 hB410
        obtain ⟨g2, cq, hv, hbg2, hg2, hnc⟩ : ∃ g2 c2, (Value.slice A3 q.devs.length c3) = .slice (some ⟨g2, 0, none⟩) q.devs.length c2 ∧ w2.heap.size ≤ g2 ∧ g2 < w4.heap.size ∧ q.devs.length ≤ c2 := by
          obtain ⟨xs, r1, _⟩ := HO4.out w4 (Below.refl _ _)
          exact own_form r1 (by have := HKL.out; omega)
        injection hv with v1 v2 v3
        subst v1 v3
        clear v2
        have hgne : g2 ≠ w3.heap.size := fun e => by have := (H3L.out.1 g2 rfl).2; omega
        obtain ⟨W, hW⟩ : ∃ x, w10.setCell ⟨g2, k * 5 + 4, none⟩ (.slice A9 L c9) = x := ⟨_, rfl⟩
        have HW := Lib.hid hW
        have hz48 := hB48.size
        have ho8 := HO4.out w8 hB48
        have hpt := md_put (w9 := w10) rfl ho8 HKL.out (by have := hk8.size; omega) HVL.out.symm (hB9.trans (hB10.mono hB9.size)) (own_below HO9.out hB10 (fun x hx => (HO9.out.lt x hx).2)) hW
        have HPT := Lib.hid hpt
        have hoT := HO4.out w10 hB410
        have HC0 := Lib.hid (fun j (hj : j < q.devs.length) => hoT.cell0 hj)
        have HC1 := Lib.hid (fun j (hj : j < q.devs.length) => by
          have h := hpt.1.cell0 (r := j) (by rw [len_setMaps]; exact hj)
          rw [setMaps_id q k j ov HKL.out] at h
          exact h)
        have hcm := hoT.cellM HKL.out
        have HCM := Lib.hid hcm
        have bW : RBox W w3.heap.size (.int .i64 q.tx) (.int .i64 q.time) (.int .i64 q.unit) (.int .i64 q.data) (.slice (some ⟨g2, 0, none⟩) q.devs.length c3) := (hpt.2.2.1 _ (by omega) (fun e => hgne e.symm)).trans b10
        have hr10 := (HAH.out w10 hk10).1.2.2.1
        have hz2 := (HAH.out w2 hk2).1.2.2.2
        have rW : RBox W (w.heap.size + 1) (.int .i64 0) (.int .i64 0) (.int .i64 0) (.int .i64 0) (.slice none 0 0) := (hpt.2.2.1 _ (box_lt hr10) (by have := hk2.size; omega)).trans hr10
        clear hW hpt hoT hcm ho8 hrs x0 x1 x2 x3 x4 z0 z1 z2 z3 z4 f0 f1 f2 f3 f4
        have HKUI := Lib.hid (fun j hj => HKU.out j hj)
        generalize hql2 : q.devs.length = nq at *
        have HQL := Lib.hid hql2
        clear hql2
        obtain ⟨x0, x1, x2, x3, x4⟩ := cells5 b10
        have hnqi : nq ≤ 4096 := hql
        have hkl : k < nq := HKL.out
        go_wp2_with fail
        go_loopw [18] (fun i wr => ∃ j : Nat, i = .int .i64 j ∧ j ≤ nq ∧ (j ≤ k → wr = w10) ∧ (k < j → wr = W)) (fun i _ => nq - (intOf i).toNat)
        case atStart => exact ⟨0, rfl, by omega, fun _ => rfl, fun h => absurd h (by omega)⟩
        case round =>
          obtain ⟨j, rfl, hj, hwa, hwb⟩ := hrel
          clear x0 x1 x2 x3 x4
          by_cases hlt : j < nq
          · have hji : (j : Int) < (nq : Int) := by omega
            rcases Nat.lt_trichotomy j k with hjk | hjk | hjk
            · have hw := hwa (by omega)
              subst hw
              clear hwa hwb
              obtain ⟨x0, x1, x2, x3, x4⟩ := cells5 b10
              have c0 := HC0.out j hlt
              have hne : ((nth dev0 q.devs j).id == id) = false := by simpa using HKUI.out j hlt (by omega)
              generalize (nth dev0 q.devs j).id = y at *
              go_wp2_with fail
              go_roundw
              case rel => exact ⟨j + 1, by go_num, by omega, (by intro _; first | rfl | trivial), fun h => absurd h (by omega)⟩
              case measure => simp [intOf]; omega
            · subst hjk
              have hw := hwa (Nat.le_refl _)
              subst hw
              clear hwa hwb
              obtain ⟨x0, x1, x2, x3, x4⟩ := cells5 b10
              have c0 := HC0.out j hlt
              rw [HKI.out] at c0
              obtain ⟨m0, _, mf, _⟩ := HCM.out
              go_wp2_with fail
              go_roundw
              case rel => exact ⟨j + 1, by go_num, by omega, fun h => absurd h (by omega), (by intro _; first | exact HW.out | (rw [HVL.out]; exact HW.out))⟩
              case measure => simp [intOf]; omega
            · have hw := hwb hjk
              subst hw
              clear hwa hwb
              obtain ⟨x0, x1, x2, x3, x4⟩ := cells5 bW
              have c0 := HC1.out j hlt
              have hne : ((nth dev0 q.devs j).id == id) = false := by simpa using HKUI.out j hlt (by omega)
              generalize (nth dev0 q.devs j).id = y at *
              go_wp2_with fail
              go_roundw
              case rel => exact ⟨j + 1, by go_num, by omega, fun h => absurd h (by omega), (by intro _; first | rfl | trivial)⟩
              case measure => simp [intOf]; omega
          · obtain rfl : j = nq := by omega
            have hw := hwb hkl
            subst hw
            clear hwa hwb
            obtain ⟨x0, x1, x2, x3, x4⟩ := cells5 bW
            obtain ⟨z0, z1, z2, z3, z4⟩ := rW.cells
            have f0 := rW.free 0
            have f1 := rW.free 1
            have f2 := rW.free 2
            have f3 := rW.free 3
            have f4 := rW.free 4
            go_wp2_with fail
            obtain ⟨q0, q1, q2, q3, q4⟩ := cells5 (set5 rW (.int .i64 q.tx) (.int .i64 q.time) (.int .i64 q.unit) (.int .i64 q.data) (.slice (some ⟨g2, 0, none⟩) j c3))
            refine bodyPost_ret (v := .tuple #[.agg #[.int .i64 q.tx, .int .i64 q.time, .int .i64 q.unit, .int .i64 q.data, .slice (some ⟨g2, 0, none⟩) j c3], .int .i64 0]) (by simp [results, Tryz.results7, go_sem, q0, q1, q2, q3, q4]) rfl ?_
            have hBW : Below w.heap.size w wr := by rw [← HW.out]; exact (HAH.out w10 hk10).1.1.setCell (p := ⟨g2, k * 5 + 4, none⟩) (by have := hk2.size; show w.heap.size ≤ g2; omega) _
            exact md_end HPT.out.1 (by rw [len_setMaps]; exact HQL.out) hBW (by omega) _ _ _ _ _
  · have hdf : deviceF p bs tp id = ((applyF p ⟨1, id, 0, 0⟩).1, pool0) := by unfold deviceF; rw [if_pos he]
    rw [hdf]
    have HAI := Lib.hid (fun w' hB => (HAP.out w' hB).mono fun e w'' h => h.1)
    have hbe : ((applyF p ⟨1, id, 0, 0⟩).1 != 0) = true := by simpa using he
    clear hdf he HAP
    generalize (applyF p ⟨1, id, 0, 0⟩) = r at *
    obtain ⟨fe, q⟩ := r
    dsimp only at *
    generalize p.devs.length = n at *
    go_enter Tryz.func7, Tryz.ntmps7
    go_upto_region 1 with fail
    generalize (w.alloc (.cells #[.int .i64 p.tx, .int .i64 p.time, .int .i64 p.unit, .int .i64 p.data, .slice A n c] 24)).alloc (.cells #[.int .i64 0, .int .i64 0, .int .i64 0, .int .i64 0, .slice none 0 0] 24) = w2 at *
    have hk2 := Below.refl w2.heap.size w2
    have hrs := (HAH.out w2 hk2).1.2.2.1
    obtain ⟨x0, x1, x2, x3, x4⟩ := (HAH.out w2 hk2).1.2.1.cells
    obtain ⟨z0, z1, z2, z3, z4⟩ := hrs.cells
    have f0 := hrs.free 0
    have f1 := hrs.free 1
    have f2 := hrs.free 2
    have f3 := hrs.free 3
    have f4 := hrs.free 4
    go_upto_region 2 with (go_at_call 14; refine (HAI.out w2 (HAH.out w2 hk2).1.1).mono ?_; rintro e w3 ⟨v3, rfl, ⟨A3, c3, rfl, hc3, hr3⟩, hB3⟩; have hk3 := hk2.trans hB3)
    obtain ⟨w4, hw4⟩ : ∃ x, w3.alloc (.cells #[.int .i64 q.tx, .int .i64 q.time, .int .i64 q.unit, .int .i64 q.data, .slice A3 q.devs.length c3] 24) = x := ⟨_, rfl⟩
    have hB4 : Below w3.heap.size w3 w4 := by rw [← hw4]; exact (Below.refl _ _).alloc (Nat.le_refl _) _
    rw [hw4]
    clear hw4 hr3
    have hk4 := hk3.trans (hB4.mono hk3.size)
    clear hrs x0 x1 x2 x3 x4 z0 z1 z2 z3 z4 f0 f1 f2 f3 f4
    have hrs := (HAH.out w4 hk4).1.2.2.1
    obtain ⟨x0, x1, x2, x3, x4⟩ := (HAH.out w4 hk4).1.2.1.cells
    obtain ⟨z0, z1, z2, z3, z4⟩ := hrs.cells
    have f0 := hrs.free 0
    have f1 := hrs.free 1
    have f2 := hrs.free 2
    have f3 := hrs.free 3
    have f4 := hrs.free 4
    go_wp2_with fail
    obtain ⟨q0, q1, q2, q3, q4⟩ := cells5 (set5 hrs (.int .i64 0) (.int .i64 0) (.int .i64 0) (.int .i64 0) (.slice none 0 0))
    refine bodyPost_ret (v := .tuple #[.agg #[.int .i64 0, .int .i64 0, .int .i64 0, .int .i64 0, .slice none 0 0], .int .i64 fe]) (by simp [results, Tryz.results7, go_sem, q0, q1, q2, q3, q4]) rfl ?_
    exact ⟨_, rfl, pool0_at _ _, below5 (HAH.out w4 hk4).1.1 (Nat.le_succ _) _ _ _ _ _⟩
end Go.Proofs.YtcdfbpdejbpgjaaGreat
