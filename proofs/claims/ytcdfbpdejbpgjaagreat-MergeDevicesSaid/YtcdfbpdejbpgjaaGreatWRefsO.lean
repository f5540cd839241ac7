/- pool.Refs, and what it calls: the counts lie in memory of the call's own. Condition: the pool's numbers fit into Go's int. -/
import Derived.Test.YtcdfbpdejbpgjaaGreatWPoolRefs
import Derived.Test.YtcdfbpdejbpgjaaGreatWCopyO
import Derived.RangeFuncBox
namespace Go.Proofs.YtcdfbpdejbpgjaaGreat
open Go.RowKit Go.Shelf
attribute [local go_sem] Oper.semAt_some
/-- Numbers in a row of the call's own. -/
def OwnInts (w : World) (base : Nat) (v : Value) (l : List Int) : Prop := ∃ A c, v = .slice A l.length c ∧ l.length ≤ c ∧ w.ownsRow base 3 1 v l.length (flats encI l)
set_option maxHeartbeats 400000 in
theorem cloneIntsO (w : World) (S : Nat → Prop) (v : Value) (l : List Int) (h : IsInts w S v l) (hn : l.length ≤ 5864062014805) :
    Calls Tryz.prog 105 #[v] w fun e w' => ∃ v', e = .returned v' ∧ OwnInts w' w.heap.size v' l ∧ Below w.heap.size w w' := by
  obtain ⟨A, c, rfl, hc, hr⟩ := h
  have heq := Lib.run_eql_slice_nil (P := Tryz.prog) w 97 3 A l.length c 0 0 Tryz.underlying97
  cases A with
  | none =>
    have hl : l = [] := by
      rcases Nat.eq_zero_or_pos l.length with h0 | h0
      · exact List.eq_nil_of_length_eq_zero h0
      · obtain ⟨_, _, e, _⟩ := hr h0
        cases e
    subst hl
    simp only [List.length_nil] at heq ⊢
    go_enter Tryz.func105, Tryz.ntmps105
    go_wp2
    go_ret
    exact ⟨_, rfl, ⟨none, 0, rfl, Nat.le_refl _, World.ownsRow_nil _ _ _ _⟩, Below.refl _ _⟩
  | some a =>
    obtain ⟨xs, hx, hcl⟩ := some_cellsOf hr
    have hxs : xs = flats encI l := by
      rw [flats_encI]
      apply List.ext_getElem?
      intro j
      by_cases hj : j < l.length
      · obtain ⟨cs, h1, h2, h3⟩ := hx.2 j hj
        obtain rfl : cs = _ := h2
        have := h3 0 (by omega)
        simp at this
        rw [this, nth_get 0 l j hj]; simp [hj]
      · have h1 := hx.1
        rw [List.getElem?_eq_none (by omega), List.getElem?_eq_none (by simp; omega)]
    subst hxs
    go_enter Tryz.func105, Tryz.ntmps105
    go_wp2_with (at_builtin; go_loud (refine wpList_append_cells Tryz.underlying97 info_int rfl (by omega) (by omega) rfl _ _ rfl w.heap.size (.slice (some ⟨w.heap.size, 0, none⟩) 0 0) 0 [] rfl (World.ownsRow_made w #[] 0 (Nat.le_refl _) (by simp [maxLen]) rfl) a l.length c (flats encI l) rfl hx.1 (fun j u hu => by
        have hold := hcl j u hu
        have hlt := World.block_lt_of_cell? _ _ hold
        rw [World.cell?_alloc_lt _ _ _ hlt]; exact hold) (hx.one (fun _ _ cs x h => by obtain rfl : cs = _ := h; intro u hu; simp at hu; subst hu; rfl)) (by omega) (by simp) ?_); intro A' cap' w1 hown hg)
    go_ret
    refine ⟨_, rfl, ?_, ?_⟩
    · have h2 : w1.ownsRow w.heap.size 3 1 (.slice A' l.length cap') l.length (flats encI l) := by simpa using hown
      obtain ⟨A2, c2, e2, h3⟩ := own_form0 h2
      injection e2 with _ _ e3
      subst e3
      exact ⟨A', cap', by simp, h3, by simpa using h2⟩
    · exact ((Below.refl _ w).alloc (Nat.le_refl _) _).grown hg (by simp) (fun k hk => by simp [Value.ownBlock] at hk; omega)


theorem refsListO_any (w : World) (rb base g : Nat) (l : List Int) (h : RefIs w rb base g l) (hn : l.length ≤ 65536) :
    Calls Tryz.prog 94 #[.pointer (some ⟨rb, 0, none⟩)] w fun e w' => ∃ v', e = .returned v' ∧ OwnInts w' w.heap.size v' l ∧ Below w.heap.size w w' := by
  obtain ⟨cap, h1, h2, h3, h4, h5⟩ := h
  have hc := cloneIntsO w (Btw base w.heap.size) (.slice (some ⟨g, 0, none⟩) l.length cap) l (IsSl.own (enc := encI) encI_len h2 (by omega)) (by omega)
  have HC := Lib.hid hc
  have q := h1.cell
  clear hc h1 h2
  go_enter Tryz.func94, Tryz.ntmps94
  go_wp2_with (first
    | (go_at_call 106; refine (refsOwn_any _ _ _ _ _ q).mono ?_; rintro e w' ⟨rfl, rfl⟩)
    | (go_at_call 105; refine HC.out.mono ?_; rintro e w2 ⟨v2, rfl, hv2, hB2⟩))
  go_ret
  exact ⟨_, rfl, hv2, hB2⟩

set_option maxRecDepth 100000 in
set_option maxHeartbeats 3200000 in
theorem refsO_any (w : World) (S : Nat → Prop) (v : Value) (p : Pool) (hS : ∀ b, S b → b < w.heap.size) (h : IsPool w S v p) (hok : p.ok) :
    Calls Tryz.prog 77 #[v] w fun e w' => ∃ v', e = .returned v' ∧ OwnInts w' w.heap.size v' (refsRes p) ∧ Below w.heap.size w w' := by
  have hp0 := h
  obtain ⟨A, c, rfl, hc, hr⟩ := h
  have hck := fun w2 (hB : Below w.heap.size w w2) => check_any w2 S _ p (fun b hb => Nat.lt_of_lt_of_le (hS b hb) hB.size) (hp0.below hB hS) hok
  have HCK := Lib.hid hck
  have hw1 : Below w.heap.size w (w.alloc (.cells #[.int .i64 p.tx, .int .i64 p.time, .int .i64 p.unit, .int .i64 p.data, .slice A p.devs.length c] 24)) := (Below.refl _ _).alloc (Nat.le_refl _) _
  by_cases hz : poolChk p = 0
  · have e : refsRes p = refsOf p := by unfold refsRes; rw [if_pos hz]
    rw [e]
    have hzb : (poolChk p != 0) = false := by simp [hz]
    obtain ⟨q1, q2, _⟩ := poolChk_parts hz
    have hdat : 0 ≤ p.data ∧ p.data ≤ 65536 := by simp [headB] at q1; exact inB_iff.1 q1.2.2
    have hnd : p.devs.length ≤ 4096 := by simp [sizeB] at q2; exact q2.1
    have hpb := pairs_b hz
    have hpf := pairs_few hz
    have HZ := Lib.hid hz
    clear hz e q1 q2 hck
    obtain ⟨dn, hdn⟩ := Int.eq_ofNat_of_zero_le hdat.1
    have HDN := Lib.hid hdn
    have hN := fun w => refsNew_any w dn (by omega)
    rw [← hdn] at hN
    have HN := Lib.hid hN
    clear hN
    have hdn2 : dn ≤ 65536 := by omega
    have f1 : Fence.wide.fn 24 := trivial
    have f2 : Fence.wide.fn 91 := trivial
    have f3 : Fence.wide.fn 92 := trivial
    clear hdn
    refine (callsIn_wide (n := 3)).1 ?_
    refine callsIn_of_wp_marks Tryz.func77 rfl trivial ?_ rfl
    simp only [Tryz.ntmps77, List.size_toArray, List.length_cons, List.length_nil, Nat.reduceAdd, Nat.reduceSub, Array.replicate_succ, Array.replicate_zero, List.push_toArray, List.append_toArray, List.nil_append, List.cons_append]
    gi_wp2_with (first
      | (gi_at_call 24; refine (callsIn_wide.2 (HCK.out _ hw1)).mono ?_; rintro e w2 ⟨rfl, hB2⟩; have hsz2 := hB2.size; have hB2' := hw1.trans (hB2.mono (by simp)); have hp2 := (PBox.new w p A p.devs.length c).below hB2 (by simp); obtain ⟨x0, x1, x2, x3, x4⟩ := hp2.cells; simp only [World.size_alloc] at hsz2)
      | (gi_at_call 91; refine (callsIn_wide.2 (HN.out _)).mono ?_; rintro e w3 ⟨rb, g, rfl, hR3, hrb3, hB3⟩; have hsz3 := hB3.size; have hp3 := hp2.below hB3 (by omega); clear x0 x1 x2 x3 x4; obtain ⟨x0, x1, x2, x3, x4⟩ := hp3.cells; have hlt3 : w.heap.size < w3.heap.size := by omega)
      | (gi_at_call 92; refine (callsIn_wide.2 (maps_fn _ _ _ _ _)).mono ?_; rintro e w4 ⟨rfl, rfl⟩))
    have q1 := (Boxed.new w3 123 (.pointer (some ⟨rb, 0, none⟩))).alloc (.cells #[.int .i64 p.tx, .int .i64 p.time, .int .i64 p.unit, .int .i64 p.data, .slice A p.devs.length c] 24)
    have q2 := PBox.new (w3.alloc (.cells #[.pointer (some ⟨rb, 0, none⟩)] 123)) p A p.devs.length c
    have q3 : Below w3.heap.size w3 ((w3.alloc (.cells #[.pointer (some ⟨rb, 0, none⟩)] 123)).alloc (.cells #[.int .i64 p.tx, .int .i64 p.time, .int .i64 p.unit, .int .i64 p.data, .slice A p.devs.length c] 24)) := ((Below.refl _ w3).alloc (Nat.le_refl _) _).alloc (by simp) _
    have q4 : ((w3.alloc (.cells #[.pointer (some ⟨rb, 0, none⟩)] 123)).alloc (.cells #[.int .i64 p.tx, .int .i64 p.time, .int .i64 p.unit, .int .i64 p.data, .slice A p.devs.length c] 24)).heap.size = w3.heap.size + 2 := by simp
    generalize (w3.alloc (.cells #[.pointer (some ⟨rb, 0, none⟩)] 123)).alloc (.cells #[.int .i64 p.tx, .int .i64 p.time, .int .i64 p.unit, .int .i64 p.data, .slice A p.devs.length c] 24) = w4 at *
    simp only [World.size_alloc] at q2
    have hB4 : Below w.heap.size w w4 := (hB2'.trans (hB3.mono (by omega))).trans (q3.mono (by omega))
    have hR4 := hR3.below q3
    have hS4 : ∀ b, S b → b < w4.heap.size := fun b hb => by have := hS b hb; omega
    have hrg : g < w3.heap.size := by obtain ⟨_, _, _, _, h, _⟩ := hR3; exact h
    have hg2 : w2.heap.size ≤ g := by obtain ⟨_, _, _, h, _⟩ := hR3; exact h
    clear x0 x1 x2 x3 x4 hR3 hp3 hp2
    refine wpIn_rangeFunc_ownH rfl (by omega) (gf := 104) (lb := #[.pointer (some ⟨w3.heap.size + 1, 0, none⟩)]) rfl trivial (enters_of Tryz.func104 (by kernel_rfl) rfl)
      (maps_stops Fence.wide 2 trivial rfl (by omega) (w3.heap.size + 1) S A c p.devs (fun x => 0 ≤ x.2.b ∧ x.2.b < p.data) hpb w4 hS4 (by omega) (fun k hk => by have := (hok.dev hk).2.2.2.2.2; omega) (by omega) q2.cells.2.2.2.2 (hr.keep rdev_stable (fun _ h => h) (keep_below hB4 hS)))
      kpM_t (fun W l o o' hl _ _ _ => kpM_b hS4 W l o' hl) (Below.refl _ _) (fun _ => rfl)
      (fun pre W => (RefIs W rb w2.heap.size g (bumps (List.replicate dn 0) (pre.map (·.1))) ∧ Boxed W w3.heap.size 123 (.pointer (some ⟨rb, 0, none⟩))) ∧ Below w.heap.size w W)
      (fun _ _ _ => False)
      (OwnFrom.and (OwnFrom.and (Own.from (refIs_own _ _ _ _) _) (Own.from (boxed_own _ _ _) _)) (ownFrom_below (Nat.le_refl _) (by omega)))
      (fun _ _ _ _ _ hs _ _ => hs)
      ⟨⟨hR4, q1⟩, hB4⟩
      (fun x a' W => ∃ Bx, Tri W Bx x.1.2 ∧ a' = { tmps := #[.agg #[.int .i64 p.tx, .int .i64 p.time, .int .i64 p.unit, .int .i64 p.data, .slice A p.devs.length c], .pointer (some ⟨w.heap.size, 0, none⟩), .slice none 0 0, .pointer (some ⟨w3.heap.size, 0, none⟩), .int .i64 0, undef, .pointer (some ⟨Bx, 0, none⟩), .agg #[.int .i64 p.tx, .int .i64 p.time, .int .i64 p.unit, .int .i64 p.data, .slice A p.devs.length c], .int .i64 (poolChk p), .bool false, .tuple #[.pointer (some ⟨rb, 0, none⟩), .int .i64 0], .pointer (some ⟨w.heap.size, 3, none⟩), .int .i64 p.data, .tuple #[.pointer (some ⟨rb, 0, none⟩), .int .i64 0], .pointer (some ⟨rb, 0, none⟩), .int .i64 0, .agg #[.int .i64 p.tx, .int .i64 p.time, .int .i64 p.unit, .int .i64 p.data, .slice A p.devs.length c], .func (.func 104) #[] #[.pointer (some ⟨w3.heap.size + 1, 0, none⟩)], .int .i64 x.1.1, .agg #[.int .i64 x.1.2.v, .int .i64 x.1.2.b, .int .i64 x.1.2.t], undef, undef, undef, undef, undef, undef], defers := [] })
      (fun x a' _ X Y row hs hg hr => by obtain ⟨Bx, h2, h3⟩ := hs; exact ⟨Bx, tri_own Bx x.1.2 () X Y row h2 hg (fun r e => (hr r e).2), h3⟩)
      ?assign ?body ?done ?stop
    case assign =>
      rintro l pre x W K ⟨⟨hRW, hbW⟩, hBW⟩ hK
      dsimp only [encP]
      have hsz := hBW.size
      gi_wp2
      exact hK _ _ ((KeepsOthers.alloc _ _).from _) ⟨keep_alloc (fun b hb => by have := hS b hb; omega) _, by simp⟩ ⟨⟨refIs_own rb w2.heap.size g (fun (_ : Unit) => _) () _ _ none hRW (World.grownBy_alloc _ _ _) (fun r e => by cases e), hbW.alloc _⟩, hBW.alloc hsz _⟩ ⟨W.heap.size, Tri.new W x.1.2, rfl⟩
    case body =>
      rintro l pre x a' W hl ⟨r, hr⟩ ⟨⟨hRW, hbW⟩, hBW⟩ ⟨Bx, hT, rfl⟩ hlt
      have e0 := hbW.cell
      obtain ⟨t0, t1, t2⟩ := hT.cell
      have hln : (bumps (List.replicate dn 0) (pre.map (·.1))).length = dn := by rw [bumps_length, List.length_replicate]
      have hcb := counts_bound dn (pre.map (·.1)) x.1.2.b.toNat
      rw [List.length_map] at hcb
      have hx1 := x.2.1
      have hx2 := x.2.2
      have hAdd := refsAdd_any W rb w2.heap.size g _ x.1.2.b hRW hx1 (by rw [hln, ← HDN.out]; exact hx2) (by rw [hln]; exact hdn2) ⟨hcb.1, by omega⟩
      have HADD := Lib.hid hAdd
      clear hAdd hcb hln
      have f4 : Fence.wide.fn 93 := trivial
      gi_wp2_with (gi_at_call 93; refine (CallsIn.inRound l (callsIn_wide.2 HADD.out)).mono ?_; rintro e w5 ⟨rfl, rfl, hR5⟩)
      have hgl : w.heap.size ≤ g := by omega
      have hne : w3.heap.size ≠ g := by omega
      refine ⟨(KeepsOthers.setCell _ _ _).from _, ⟨keep_setCell (fun hs => by have := hS _ hs; simp only at this; omega) _, (KeepsOthers.setCell _ _ _).size⟩, ⟨?_, ?_⟩, ?_⟩
      · rw [List.map_append, List.map_cons, List.map_nil, bumps_snoc]; exact hR5
      · exact (Below.heap_setCell W _ _ w3.heap.size hne).trans hbW
      · exact hBW.setCell hgl _
    case done =>
      rintro D xs W hD hxs ⟨⟨hRW, hbW⟩, hBW⟩ hK
      have e0 := hbW.cell
      have hLs := refsListO_any W rb w2.heap.size g _ hRW (by rw [bumps_length, List.length_replicate]; exact hdn2)
      have HLS := Lib.hid hLs
      clear hLs
      have f4 : Fence.wide.fn 94 := trivial
      gi_wp2_with (gi_at_call 94; refine (callsIn_wide.2 HLS.out).mono ?_; rintro e w5 ⟨v', rfl, hv5, hB5⟩)
      have hsW := hBW.size
      have hDW : D < W.heap.size := (Array.getElem?_eq_some_iff.1 hK).1
      have hK5 : w5.heap[D]? = some (.deferred (some [])) := (hB5.block D hDW).trans hK
      refine ⟨by simp, .inl ⟨_, _, rfl, run_takeDeferred hK5, ?_⟩⟩
      refine ⟨_, results_tmp rfl _ _ _, _, rfl, ?_, ?_⟩
      · have e : bumps (List.replicate dn 0) (xs.map (·.1)) = refsOf p := by rw [hxs]; unfold refsOf; rw [HDN.out, Int.toNat_natCast]
        rw [e] at hv5
        obtain ⟨A5, c5, rfl, hc5, ho5⟩ := hv5
        exact ⟨A5, c5, rfl, hc5, (own_low ho5 (by omega)).kept (grownBy_putObj' w5 D _) (.inr (fun e => by have := (ho5.lt D e).1; omega))⟩
      · exact (hBW.trans (hB5.mono (by omega))).grown (grownBy_putObj' w5 D _) (by have := hB5.size; omega) (fun k e => by cases e; omega)
    case stop =>
      rintro D c pre W _ _ h _
      exact h.elim
  · have e : refsRes p = [] := by unfold refsRes; rw [if_neg hz]
    rw [e]
    have hzb : (poolChk p != 0) = true := by simp [hz]
    clear hz e hck
    go_enter Tryz.func77, Tryz.ntmps77
    go_wp2_with (go_at_call 24; refine (HCK.out _ hw1).mono ?_; rintro e w2 ⟨rfl, hB2⟩)
    go_ret
    exact ⟨_, rfl, ⟨none, 0, rfl, Nat.le_refl _, World.ownsRow_nil _ _ _ _⟩, hw1.trans (hB2.mono (by simp))⟩
end Go.Proofs.YtcdfbpdejbpgjaaGreat
