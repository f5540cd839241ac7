/- pool.Refs returns the counts of the data blocks, or nothing. Condition: the numbers fit into Go's int, and no slice is longer than the reach. -/
import Derived.Test.YtcdfbpdejbpgjaaGreatWPool3
import Derived.Test.YtcdfbpdejbpgjaaGreatWRefs2
import Derived.Test.YtcdfbpdejbpgjaaGreatWIter
import Derived.Test.YtcdfbpdejbpgjaaGreatPBox
import Derived.Test.YtcdfbpdejbpgjaaGreatTri
import Derived.RangeFuncBox
namespace Go.Proofs.YtcdfbpdejbpgjaaGreat
open Go.RowKit Go.Shelf
attribute [local go_sem] Oper.semAt_some

def bumps (l : List Int) (ms : List (Nat × Mp)) : List Int := ms.foldl (fun l x => bump l x.2.b) l
def refsOf (p : Pool) : List Int := bumps (List.replicate p.data.toNat 0) (pairs p.devs)
def refsRes (p : Pool) : List Int := if poolChk p = 0 then refsOf p else []
theorem bumps_snoc (l : List Int) (ms : List (Nat × Mp)) (x : Nat × Mp) : bumps l (ms ++ [x]) = bump (bumps l ms) x.2.b := by simp [bumps]
theorem bumps_length (l : List Int) (ms : List (Nat × Mp)) : (bumps l ms).length = l.length := by
  induction ms generalizing l with
  | nil => rfl
  | cons x ms ih => have : bumps l (x :: ms) = bumps (bump l x.2.b) ms := rfl
                    rw [this, ih, bump_length]
theorem nth_set (l : List Int) (i j : Nat) (u : Int) : nth 0 (l.set i u) j = if i = j ∧ i < l.length then u else nth 0 l j := by
  unfold nth
  simp only [List.getD, List.getElem?_set]
  by_cases h : i = j
  · subst h
    by_cases hi : i < l.length
    · simp [hi]
    · simp [hi]
  · simp [h]
theorem bumps_bound : ∀ (ms : List (Nat × Mp)) (l : List Int) (c : Nat), (∀ j, 0 ≤ nth 0 l j ∧ nth 0 l j ≤ c) → ∀ j, 0 ≤ nth 0 (bumps l ms) j ∧ nth 0 (bumps l ms) j ≤ ((c + ms.length : Nat) : Int) := by
  intro ms
  induction ms with
  | nil => intro l c h j; exact h j
  | cons x ms ih =>
    intro l c h j
    have := ih (bump l x.2.b) (c + 1) (fun j => by
      unfold bump
      rw [nth_set]
      split
      · have := h x.2.b.toNat; omega
      · have := h j; omega) j
    have e : bumps l (x :: ms) = bumps (bump l x.2.b) ms := rfl
    rw [e]
    simp only [List.length_cons]
    omega
theorem nth_replicate (n j : Nat) : nth 0 (List.replicate n (0 : Int)) j = 0 := by
  unfold nth
  by_cases h : j < n <;> simp [List.getD, h]
theorem counts_bound (n : Nat) (ms : List (Nat × Mp)) (j : Nat) : 0 ≤ nth 0 (bumps (List.replicate n 0) ms) j ∧ nth 0 (bumps (List.replicate n 0) ms) j ≤ ms.length := by
  have := bumps_bound ms (List.replicate n 0) 0 (fun j => by rw [nth_replicate]; simp) j
  simpa using this
/-- A pool that may be: its mappings' data blocks are there, and they are few. -/
theorem mapChkFrom_ok {data : Int} : ∀ (l : List Mp) (last : Int), mapChkFrom data last l = 0 → ∀ m ∈ l, mapB data m = true := by
  intro l
  induction l with
  | nil => intro _ _ m hm; cases hm
  | cons x l ih =>
    intro last h m hm
    simp only [mapChkFrom] at h
    by_cases h1 : mapB data x = false
    · rw [if_pos h1] at h; cases h
    · rw [if_neg h1] at h
      by_cases h2 : x.v ≤ last
      · rw [if_pos h2] at h; cases h
      · rw [if_neg h2] at h
        rcases List.mem_cons.1 hm with rfl | hm
        · simpa using h1
        · exact ih _ h m hm
theorem devsChk_ok {data : Int} : ∀ (l : List Dev) (last : Int), devsChk data last l = 0 → ∀ d ∈ l, mapChk data d.maps = 0 ∧ devB d = true := by
  intro l
  induction l with
  | nil => intro _ _ m hm; cases hm
  | cons x l ih =>
    intro last h d hd
    simp only [devsChk] at h
    by_cases h1 : devChk x last ≠ 0
    · rw [if_pos h1] at h; exact absurd h h1
    · rw [if_neg h1] at h
      by_cases h2 : mapChk data x.maps ≠ 0
      · rw [if_pos h2] at h; exact absurd h h2
      · rw [if_neg h2] at h
        rcases List.mem_cons.1 hd with rfl | hd
        · refine ⟨by simpa using h2, ?_⟩
          cases hb : devB d with
          | true => rfl
          | false => exact absurd (by unfold devChk; rw [if_pos hb]; simp) h1
        · exact ih _ h d hd
theorem poolChk_parts {p : Pool} (h : poolChk p = 0) : headB p = true ∧ sizeB p = true ∧ devsChk p.data (-1) p.devs = 0 := by
  unfold poolChk at h
  by_cases h1 : headB p = false
  · rw [if_pos h1] at h; cases h
  · rw [if_neg h1] at h
    by_cases h2 : sizeB p = false
    · rw [if_pos h2] at h; cases h
    · rw [if_neg h2] at h
      exact ⟨by simpa using h1, by simpa using h2, h⟩
theorem pairsFrom_mem {x : Nat × Mp} : ∀ {l : List Dev} {i : Nat}, x ∈ pairsFrom i l → ∃ d ∈ l, x.2 ∈ d.maps := by
  intro l
  induction l with
  | nil => intro i h; cases h
  | cons d l ih =>
    intro i h
    rcases List.mem_append.1 h with h | h
    · obtain ⟨m, hm, rfl⟩ := List.mem_map.1 h
      exact ⟨d, by simp, hm⟩
    · obtain ⟨d', h1, h2⟩ := ih h
      exact ⟨d', by simp [h1], h2⟩
theorem pairsFrom_length : ∀ (l : List Dev) (i : Nat), ((pairsFrom i l).length : Int) = countL l := by
  intro l
  induction l with
  | nil => intro i; rfl
  | cons d l ih => intro i; simp only [pairsFrom, List.length_append, List.length_map, countL]; have := ih (i + 1); omega
theorem pairs_b {p : Pool} (h : poolChk p = 0) : ∀ x ∈ pairs p.devs, 0 ≤ x.2.b ∧ x.2.b < p.data := by
  intro x hx
  obtain ⟨d, hd, hm⟩ := pairsFrom_mem hx
  have h1 := (devsChk_ok _ _ (poolChk_parts h).2.2 d hd).1
  have h2 := mapChkFrom_ok _ _ h1 _ hm
  simp only [mapB, Bool.and_eq_true] at h2
  have := inB_iff.1 h2.2.1
  omega
theorem pairs_few {p : Pool} (h : poolChk p = 0) : (pairs p.devs).length ≤ 16384 := by
  have h1 := pairsFrom_length p.devs 0
  have h2 := (poolChk_parts h).2.1
  simp only [sizeB, decide_eq_true_eq] at h2
  unfold Pool.count at h2
  unfold pairs
  omega

theorem refIs_own {β : Type} (rb base g : Nat) (f : β → List Int) : Own (fun s W => RefIs W rb base g (f s)) := by
  rintro s X Y row ⟨cap, h1, h2, h3, h4, h5⟩ hg hrow
  have hn1 : some rb ≠ row := fun e => by obtain ⟨o, ho, hc⟩ := hrow rb e.symm; rw [show X.heap[rb]? = _ from h1] at ho; cases ho; cases hc
  have hn2 : some g ≠ row := fun e => by
    obtain ⟨o, ho, hc⟩ := hrow g e.symm
    rcases h2.2 with ⟨hv, _⟩ | ⟨g', cap', cur, hv, _, hgb, _⟩
    · simp at hv
    · simp at hv
      rw [← hv.1] at hgb
      rw [hgb] at ho; cases ho; cases hc
  exact ⟨cap, h1.grown hg hn1, h2.kept hg (.inr (by simp [Value.ownBlock]; exact hn2)), h3, Nat.lt_of_lt_of_le h4 hg.size, h5⟩

set_option maxRecDepth 100000 in
set_option maxHeartbeats 3200000 in
theorem refs_any (w : World) (S : Nat → Prop) (v : Value) (p : Pool) (hS : ∀ b, S b → b < w.heap.size) (h : IsPool w S v p) (hok : p.ok) :
    Calls Tryz.prog 77 #[v] w fun e w' => ∃ v', e = .returned v' ∧ IsInts w' (Btw w.heap.size w'.heap.size) v' (refsRes p) ∧ Below w.heap.size w w' := by
  have hp0 := h
  obtain ⟨A, c, rfl, hc, hr⟩ := h
  have hck := fun w2 (hB : Below w.heap.size w w2) => check_any w2 S _ p (fun b hb => Nat.lt_of_lt_of_le (hS b hb) hB.size) (hp0.below hB hS) hok
  have HCK := Lib.hid hck
  have hw1 : Below w.heap.size w (w.alloc (.cells #[.int .i64 p.tx, .int .i64 p.time, .int .i64 p.unit, .int .i64 p.data, .slice A p.devs.length c] 24)) := (Below.refl _ _).alloc (Nat.le_refl _) _
  by_cases hz : poolChk p = 0
  · have e : refsRes p = refsOf p := by unfold refsRes; rw [if_pos hz]
    rw [e]
    have hzb : (poolChk p != 0) = false := by simp [hz]
    obtain ⟨q1, q2, _⟩ := poolChk_parts hz
    have hdat : 0 ≤ p.data ∧ p.data ≤ 65536 := by simp [headB] at q1; exact inB_iff.1 q1.2.2
    have hnd : p.devs.length ≤ 4096 := by simp [sizeB] at q2; exact q2.1
    have hpb := pairs_b hz
    have hpf := pairs_few hz
    have HZ := Lib.hid hz
    clear hz e q1 q2 hck
    obtain ⟨dn, hdn⟩ := Int.eq_ofNat_of_zero_le hdat.1
    have HDN := Lib.hid hdn
    have hN := fun w => refsNew_any w dn (by omega)
    rw [← hdn] at hN
    have HN := Lib.hid hN
    clear hN
    have hdn2 : dn ≤ 65536 := by omega
    have f1 : Fence.wide.fn 24 := trivial
    have f2 : Fence.wide.fn 91 := trivial
    have f3 : Fence.wide.fn 92 := trivial
    clear hdn
    refine (callsIn_wide (n := 3)).1 ?_
    refine callsIn_of_wp_marks Tryz.func77 rfl trivial ?_ rfl
    simp only [Tryz.ntmps77, List.size_toArray, List.length_cons, List.length_nil, Nat.reduceAdd, Nat.reduceSub, Array.replicate_succ, Array.replicate_zero, List.push_toArray, List.append_toArray, List.nil_append, List.cons_append]
    gi_wp2_with (first
      | (gi_at_call 24; refine (callsIn_wide.2 (HCK.out _ hw1)).mono ?_; rintro e w2 ⟨rfl, hB2⟩; have hsz2 := hB2.size; have hB2' := hw1.trans (hB2.mono (by simp)); have hp2 := (PBox.new w p A p.devs.length c).below hB2 (by simp); obtain ⟨x0, x1, x2, x3, x4⟩ := hp2.cells; simp only [World.size_alloc] at hsz2)
      | (gi_at_call 91; refine (callsIn_wide.2 (HN.out _)).mono ?_; rintro e w3 ⟨rb, g, rfl, hR3, hrb3, hB3⟩; have hsz3 := hB3.size; have hp3 := hp2.below hB3 (by omega); clear x0 x1 x2 x3 x4; obtain ⟨x0, x1, x2, x3, x4⟩ := hp3.cells; have hlt3 : w.heap.size < w3.heap.size := by omega)
      | (gi_at_call 92; refine (callsIn_wide.2 (maps_fn _ _ _ _ _)).mono ?_; rintro e w4 ⟨rfl, rfl⟩))
    have q1 := (Boxed.new w3 123 (.pointer (some ⟨rb, 0, none⟩))).alloc (.cells #[.int .i64 p.tx, .int .i64 p.time, .int .i64 p.unit, .int .i64 p.data, .slice A p.devs.length c] 24)
    have q2 := PBox.new (w3.alloc (.cells #[.pointer (some ⟨rb, 0, none⟩)] 123)) p A p.devs.length c
    have q3 : Below w3.heap.size w3 ((w3.alloc (.cells #[.pointer (some ⟨rb, 0, none⟩)] 123)).alloc (.cells #[.int .i64 p.tx, .int .i64 p.time, .int .i64 p.unit, .int .i64 p.data, .slice A p.devs.length c] 24)) := ((Below.refl _ w3).alloc (Nat.le_refl _) _).alloc (by simp) _
    have q4 : ((w3.alloc (.cells #[.pointer (some ⟨rb, 0, none⟩)] 123)).alloc (.cells #[.int .i64 p.tx, .int .i64 p.time, .int .i64 p.unit, .int .i64 p.data, .slice A p.devs.length c] 24)).heap.size = w3.heap.size + 2 := by simp
    generalize (w3.alloc (.cells #[.pointer (some ⟨rb, 0, none⟩)] 123)).alloc (.cells #[.int .i64 p.tx, .int .i64 p.time, .int .i64 p.unit, .int .i64 p.data, .slice A p.devs.length c] 24) = w4 at *
    simp only [World.size_alloc] at q2
    have hB4 : Below w.heap.size w w4 := (hB2'.trans (hB3.mono (by omega))).trans (q3.mono (by omega))
    have hR4 := hR3.below q3
    have hS4 : ∀ b, S b → b < w4.heap.size := fun b hb => by have := hS b hb; omega
    have hrg : g < w3.heap.size := by obtain ⟨_, _, _, _, h, _⟩ := hR3; exact h
    have hg2 : w2.heap.size ≤ g := by obtain ⟨_, _, _, h, _⟩ := hR3; exact h
    clear x0 x1 x2 x3 x4 hR3 hp3 hp2
    refine wpIn_rangeFunc_ownH rfl (by omega) (gf := 104) (lb := #[.pointer (some ⟨w3.heap.size + 1, 0, none⟩)]) rfl trivial (enters_of Tryz.func104 (by kernel_rfl) rfl)
      (maps_stops Fence.wide 2 trivial rfl (by omega) (w3.heap.size + 1) S A c p.devs (fun x => 0 ≤ x.2.b ∧ x.2.b < p.data) hpb w4 hS4 (by omega) (fun k hk => by have := (hok.dev hk).2.2.2.2.2; omega) (by omega) q2.cells.2.2.2.2 (hr.keep rdev_stable (fun _ h => h) (keep_below hB4 hS)))
      kpM_t (fun W l o o' hl _ _ _ => kpM_b hS4 W l o' hl) (Below.refl _ _) (fun _ => rfl)
      (fun pre W => (RefIs W rb w2.heap.size g (bumps (List.replicate dn 0) (pre.map (·.1))) ∧ Boxed W w3.heap.size 123 (.pointer (some ⟨rb, 0, none⟩))) ∧ Below w.heap.size w W)
      (fun _ _ _ => False)
      (OwnFrom.and (OwnFrom.and (Own.from (refIs_own _ _ _ _) _) (Own.from (boxed_own _ _ _) _)) (ownFrom_below (Nat.le_refl _) (by omega)))
      (fun _ _ _ _ _ hs _ _ => hs)
      ⟨⟨hR4, q1⟩, hB4⟩
      (fun x a' W => ∃ Bx, Tri W Bx x.1.2 ∧ a' = { tmps := #[.agg #[.int .i64 p.tx, .int .i64 p.time, .int .i64 p.unit, .int .i64 p.data, .slice A p.devs.length c], .pointer (some ⟨w.heap.size, 0, none⟩), .slice none 0 0, .pointer (some ⟨w3.heap.size, 0, none⟩), .int .i64 0, undef, .pointer (some ⟨Bx, 0, none⟩), .agg #[.int .i64 p.tx, .int .i64 p.time, .int .i64 p.unit, .int .i64 p.data, .slice A p.devs.length c], .int .i64 (poolChk p), .bool false, .tuple #[.pointer (some ⟨rb, 0, none⟩), .int .i64 0], .pointer (some ⟨w.heap.size, 3, none⟩), .int .i64 p.data, .tuple #[.pointer (some ⟨rb, 0, none⟩), .int .i64 0], .pointer (some ⟨rb, 0, none⟩), .int .i64 0, .agg #[.int .i64 p.tx, .int .i64 p.time, .int .i64 p.unit, .int .i64 p.data, .slice A p.devs.length c], .func (.func 104) #[] #[.pointer (some ⟨w3.heap.size + 1, 0, none⟩)], .int .i64 x.1.1, .agg #[.int .i64 x.1.2.v, .int .i64 x.1.2.b, .int .i64 x.1.2.t], undef, undef, undef, undef, undef, undef], defers := [] })
      (fun x a' _ X Y row hs hg hr => by obtain ⟨Bx, h2, h3⟩ := hs; exact ⟨Bx, tri_own Bx x.1.2 () X Y row h2 hg (fun r e => (hr r e).2), h3⟩)
      ?assign ?body ?done ?stop
    case assign =>
      rintro l pre x W K ⟨⟨hRW, hbW⟩, hBW⟩ hK
      dsimp only [encP]
      have hsz := hBW.size
      gi_wp2
      exact hK _ _ ((KeepsOthers.alloc _ _).from _) ⟨keep_alloc (fun b hb => by have := hS b hb; omega) _, by simp⟩ ⟨⟨refIs_own rb w2.heap.size g (fun (_ : Unit) => _) () _ _ none hRW (World.grownBy_alloc _ _ _) (fun r e => by cases e), hbW.alloc _⟩, hBW.alloc hsz _⟩ ⟨W.heap.size, Tri.new W x.1.2, rfl⟩
    case body =>
      rintro l pre x a' W hl ⟨r, hr⟩ ⟨⟨hRW, hbW⟩, hBW⟩ ⟨Bx, hT, rfl⟩ hlt
      have e0 := hbW.cell
      obtain ⟨t0, t1, t2⟩ := hT.cell
      have hln : (bumps (List.replicate dn 0) (pre.map (·.1))).length = dn := by rw [bumps_length, List.length_replicate]
      have hcb := counts_bound dn (pre.map (·.1)) x.1.2.b.toNat
      rw [List.length_map] at hcb
      have hx1 := x.2.1
      have hx2 := x.2.2
      have hAdd := refsAdd_any W rb w2.heap.size g _ x.1.2.b hRW hx1 (by rw [hln, ← HDN.out]; exact hx2) (by rw [hln]; exact hdn2) ⟨hcb.1, by omega⟩
      have HADD := Lib.hid hAdd
      clear hAdd hcb hln
      have f4 : Fence.wide.fn 93 := trivial
      gi_wp2_with (gi_at_call 93; refine (CallsIn.inRound l (callsIn_wide.2 HADD.out)).mono ?_; rintro e w5 ⟨rfl, rfl, hR5⟩)
      have hgl : w.heap.size ≤ g := by omega
      have hne : w3.heap.size ≠ g := by omega
      refine ⟨(KeepsOthers.setCell _ _ _).from _, ⟨keep_setCell (fun hs => by have := hS _ hs; simp only at this; omega) _, (KeepsOthers.setCell _ _ _).size⟩, ⟨?_, ?_⟩, ?_⟩
      · rw [List.map_append, List.map_cons, List.map_nil, bumps_snoc]; exact hR5
      · exact (Below.heap_setCell W _ _ w3.heap.size hne).trans hbW
      · exact hBW.setCell hgl _
    case done =>
      rintro D xs W hD hxs ⟨⟨hRW, hbW⟩, hBW⟩ hK
      have e0 := hbW.cell
      have hLs := refsList_any W rb w2.heap.size g _ hRW (by rw [bumps_length, List.length_replicate]; exact hdn2)
      have HLS := Lib.hid hLs
      clear hLs
      have f4 : Fence.wide.fn 94 := trivial
      gi_wp2_with (gi_at_call 94; refine (callsIn_wide.2 HLS.out).mono ?_; rintro e w5 ⟨v', rfl, hv5, hB5⟩)
      have hsW := hBW.size
      have hDW : D < W.heap.size := (Array.getElem?_eq_some_iff.1 hK).1
      have hK5 : w5.heap[D]? = some (.deferred (some [])) := (hB5.block D hDW).trans hK
      refine ⟨by simp, .inl ⟨_, _, rfl, run_takeDeferred hK5, ?_⟩⟩
      refine ⟨_, results_tmp rfl _ _ _, _, rfl, ?_, ?_⟩
      · have e : bumps (List.replicate dn 0) (xs.map (·.1)) = refsOf p := by rw [hxs]; unfold refsOf; rw [HDN.out, Int.toNat_natCast]
        rw [e] at hv5
        refine hv5.keep (flat_stable _) (fun b hb => ⟨by have := hb.1; omega, Nat.lt_of_lt_of_le hb.2 (grownBy_putObj' w5 D _).size⟩) (keep_putObj (fun b hb => by have := hb.1; omega) _)
      · exact (hBW.trans (hB5.mono (by omega))).grown (grownBy_putObj' w5 D _) (by have := hB5.size; omega) (fun k e => by cases e; omega)
    case stop =>
      rintro D c pre W _ _ h _
      exact h.elim
  · have e : refsRes p = [] := by unfold refsRes; rw [if_neg hz]
    rw [e]
    have hzb : (poolChk p != 0) = true := by simp [hz]
    clear hz e hck
    go_enter Tryz.func77, Tryz.ntmps77
    go_wp2_with (go_at_call 24; refine (HCK.out _ hw1).mono ?_; rintro e w2 ⟨rfl, hB2⟩)
    go_ret
    exact ⟨_, rfl, IsSl.nil_, hw1.trans (hB2.mono (by simp))⟩
end Go.Proofs.YtcdfbpdejbpgjaaGreat
