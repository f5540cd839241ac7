/- rank.Sort: candidates in new memory, in order. Condition: at most 30, their pools are small. -/
import Derived.Test.YtolpgblegbahgaaWStable
import Derived.Test.YtolpgblegbahgaaWSortNil
import Derived.Test.YtolpgblegbahgaaWRSort36
import Derived.Test.YtolpgblegbahgaaAppB
import Derived.Test.YtolpgblegbahgaaSortG
namespace Go.Proofs.Ytolpgblegbahgaa
open Go.RowKit Go.Shelf Go.Sort
attribute [local go_sem] Oper.semAt_some
set_option linter.unusedVariables false
set_option linter.unusedSimpArgs false

theorem info_hcand : (Try.prog.info? 33).map (fun i => (i.zero, i.size, i.bytes)) = some (some (.agg #[.bool false, .int .i64 0, .int .i64 0, .int .i64 0, .int .i64 0, .int .i64 0, .int .i64 0, .slice none 0 0]), 8, 80) := by kernel_rfl
theorem elHc : Elem Try.prog 22 33 8 80 RC.enc := ⟨Try.underlying22, ⟨_, info_hcand, rfl⟩, by omega, by omega, RC.enc_len, RC.enc_one⟩
theorem cand0_few : cand0.few := ⟨⟨by simp [In64, cand0, pool0], by simp [In64, cand0, pool0], by simp [In64, cand0, pool0], by simp [In64, cand0, pool0], by simp [cand0, pool0], by simp [cand0, pool0]⟩, by simp [cand0, pool0], by simp [cand0, pool0, Pool.count, countL]⟩
/-- candidates that lie in a world -/
def VC (w : World) (S : Nat → Prop) : Type := {r : RC // r.at w S ∧ r.c.few}
instance (w : World) (S : Nat → Prop) : Inhabited (VC w S) := ⟨⟨rc0, RC.at0 w S, cand0_few⟩⟩
def VC.enc {w : World} {S : Nat → Prop} (r : VC w S) : List Value := r.1.enc
def VC.c {w : World} {S : Nat → Prop} (r : VC w S) : Cand := r.1.c
def cfV {w : World} {S : Nat → Prop} (x y : VC w S) : Int := cmpC x.c y.c
theorem keep_far1 {blk : Nat} {w w' : World} {S : Nat → Prop} (h : Far1 blk w w') (hS : ∀ b, S b → b < w.heap.size ∧ b ≠ blk) : Keep S w w' := fun b o hb => by
  have := h.2.2.2.2 b (hS b hb).1 (hS b hb).2
  simp [World.cell?, this]
theorem cmp_bel {w0 : World} {S : Nat → Prop} {blk off n : Nat} (hS : ∀ b, S b → b < w0.heap.size ∧ b ≠ blk) : CmpBel (VC.enc (w := w0) (S := S)) w0 blk off n 14 cfV := fun w d hd hR x y => by
  have hk := keep_far1 hR.2.1 hS
  have hz := hR.2.1.2.2.2.1
  exact compare_any w S S _ _ x.1.c y.1.c (fun b hb => Nat.lt_of_lt_of_le (hS b hb).1 hz) (fun b hb => Nat.lt_of_lt_of_le (hS b hb).1 hz) (x.2.1.keep (fun _ h => h) hk).is (y.2.1.keep (fun _ h => h) hk).is x.2.2 y.2.2
theorem stabV {w : World} {S : Nat → Prop} (l : List (VC w S)) : (stab default (fun x y => decide (cfV x y < 0)) l).map VC.c = refS cand0 ltC [] (l.map VC.c) := by
  have e : (fun x y : VC w S => decide (cfV x y < 0)) = fun x y => ltC x.c y.c := rfl
  rw [e, stab_eq default _ (fun x => ?_) (fun x y z h1 h2 => ?_) (fun x y z h1 h2 => ?_) l]
  · exact map_refS VC.c default ltC l
  · simp [ltC, ahead_irrefl]
  · simp only [ltC, decide_eq_true_eq] at *
    exact ahead_trans h1 h2
  · simp only [ltC, decide_eq_false_iff_not] at *
    rw [cmpC_lex] at *
    exact lexC_ntrans _ _ _ (keyC_len _ _) (keyC_len _ _) h1 h2
/-- a sorted row reads as candidates -/
theorem row_is {w0 w : World} {S S' : Nat → Prop} {g n c : Nat} {L : List (VC w0 S)} (hn : L.length = n) (hc : n ≤ c) (h : RowAt VC.enc w0 g 0 w L) (hS : ∀ b, S b → b < w0.heap.size ∧ b ≠ g) (hg : S' g) (hs : ∀ b, S b → S' b) :
    IsSl RCand 8 cand0 w S' (.slice (some ⟨g, 0, none⟩) n c) (L.map VC.c) := by
  refine ⟨_, _, by rw [List.length_map, hn], by rw [List.length_map, hn]; exact hc, fun _ => ⟨g, 0, rfl, hg, fun k hk => ?_⟩⟩
  rw [List.length_map] at hk
  have hq := HoldsK.cells (k := 8) h.1 (fun _ => rfl) (i := k) (by simpa using hk)
  rw [arr_nth L hk] at hq
  have hn2 : nth cand0 (L.map VC.c) k = (nth default L k).c := by
    simp only [nth, List.getD_eq_getElem?_getD, List.getElem?_map]
    rw [List.getElem?_eq_getElem hk]
    rfl
  refine ⟨(nth default L k).enc, rfl, ?_, fun j u hu => ?_⟩
  · rw [hn2]
    exact ((nth default L k).2.1.keep hs (keep_far1 h.2.1 hS)).rcand
  · have := hq j u hu
    rwa [Addr.add_lit] at this
theorem vc_list {w : World} {S : Nat → Prop} : ∀ (l : List RC), (∀ r ∈ l, r.at w S ∧ r.c.few) → ∃ L : List (VC w S), L.length = l.length ∧ L.map VC.c = l.map RC.c ∧ flats VC.enc L = flats RC.enc l
  | [], _ => ⟨[], rfl, rfl, rfl⟩
  | r :: l, h => by
    obtain ⟨L, h1, h2, h3⟩ := vc_list l (fun x hx => h x (List.mem_cons_of_mem _ hx))
    refine ⟨(⟨r, h r List.mem_cons_self⟩ : VC w S) :: L, congrArg (· + 1) h1, congrArg (r.c :: ·) h2, ?_⟩
    show VC.enc _ ++ flats VC.enc L = RC.enc r ++ flats RC.enc l
    rw [h3]
    rfl
theorem refS_length {α : Type} (d : α) (lt : α → α → Bool) : ∀ (r o : List α), (refS d lt o r).length = o.length + r.length
  | [], o => rfl
  | x :: r, o => by rw [refS, refS_length d lt r, insDown_length]; simp; omega
set_option maxRecDepth 100000 in
set_option maxHeartbeats 6400000 in
theorem ranksort_any (w : World) (S : Nat → Prop) (v : Value) (l : List Cand) (hS : ∀ b, S b → b < w.heap.size) (h : IsSl RCand 8 cand0 w S v l) (hl0 : 0 < l.length) (hl1 : l.length ≤ 30) (hfew : ∀ c ∈ l, c.few) (hmk : ∀ c ∈ l, ∀ k, k < c.pool.devs.length → (nth dev0 c.pool.devs k).maps.length ≤ 2199023255552) :
    Calls Try.prog 11 #[v] w fun e w' => ∃ v', e = .returned v' ∧ IsSl RCand 8 cand0 w' (fun b => Btw w.heap.size w'.heap.size b) v' (refS cand0 ltC [] l) ∧ Below w.heap.size w w' := by
  obtain ⟨A, c, rfl, hc, hr⟩ := h
  obtain ⟨raws, hm, hok, hcl⟩ := raws_of hr
  have hlen : raws.length = l.length := by rw [← hm, List.length_map]
  have HFW : Hid (∀ r ∈ raws, r.at w S ∧ r.c.few ∧ ∀ k, k < r.c.pool.devs.length → (nth dev0 r.c.pool.devs k).maps.length ≤ 2199023255552) := fun r hr => ⟨hok r hr, hfew _ (by rw [← hm]; exact List.mem_map_of_mem hr), hmk _ (by rw [← hm]; exact List.mem_map_of_mem hr)⟩
  generalize hn : l.length = n at *
  have HN := Lib.hid hn
  have HM := Lib.hid hm
  have HLEN := Lib.hid hlen
  have HCL := Lib.hid hcl
  clear hn hlen hm hok hcl hr hfew hmk
  go_enter Try.func11, Try.ntmps11
  go_wp2_with fail
  go_loopw [3, 8] (fun t i wr => ∃ (k : Nat) (out : List RC), k ≤ n ∧ i = .int .i64 k ∧ out.length = k ∧ wr.ownsRow w.heap.size 33 8 t k (flats RC.enc out) ∧ Below w.heap.size w wr ∧ Hid ((∀ r ∈ out, r.at wr (fun b => Btw w.heap.size wr.heap.size b ∧ some b ≠ t.ownBlock) ∧ r.c.few) ∧ out.map RC.c = l.take k)) (fun _ i _ => n - (intOf i).toNat)
  case atStart => exact ⟨0, [], by omega, rfl, rfl, World.ownsRow_nil _ _ _ _, Below.refl _ _, Lib.hid ⟨by simp, by simp⟩⟩
  case round =>
    obtain ⟨k, out, hk, rfl, hol, hrow, hB, HO⟩ := hrel
    have hz := hB.size
    obtain ⟨At, ct, rfl, hct⟩ := own_form0 hrow
    have HOL := Lib.hid hol
    clear hol
    by_cases hlt : k < n
    · obtain ⟨b, off, rfl, hb, hq⟩ := HCL.out (by omega)
      have hb0 := hS b hb
      obtain ⟨c0, c1, c2, c3, c4, c5, c6, c7⟩ := hq k hlt
      clear hq
      obtain ⟨x, hx⟩ : ∃ x, nth rc0 raws k = x := ⟨_, rfl⟩
      have hxm : x ∈ raws := by rw [← hx]; exact nth_mem_rc (by rw [HLEN.out]; exact hlt)
      have HTK : Hid (l.take (k + 1) = l.take k ++ [x.c]) := by
        show _ = _
        rw [← HM.out, ← List.map_take, ← List.map_take, take_snoc_rc (by rw [HLEN.out]; exact hlt), hx, List.map_append]
        rfl
      have HXW := Lib.hid (HFW.out x hxm)
      rw [hx] at c0 c1 c2 c3 c4 c5 c6 c7
      clear hx hxm
      have d0 := (hB.cell (p := ⟨b, off + k * 8, none⟩) hb0).trans c0
      have d1 := (hB.cell (p := ⟨b, off + k * 8 + 1, none⟩) hb0).trans c1
      have d2 := (hB.cell (p := ⟨b, off + k * 8 + 2, none⟩) hb0).trans c2
      have d3 := (hB.cell (p := ⟨b, off + k * 8 + 3, none⟩) hb0).trans c3
      have d4 := (hB.cell (p := ⟨b, off + k * 8 + 4, none⟩) hb0).trans c4
      have d5 := (hB.cell (p := ⟨b, off + k * 8 + 5, none⟩) hb0).trans c5
      have d6 := (hB.cell (p := ⟨b, off + k * 8 + 6, none⟩) hb0).trans c6
      have d7 := (hB.cell (p := ⟨b, off + k * 8 + 7, none⟩) hb0).trans c7
      clear c0 c1 c2 c3 c4 c5 c6 c7
      go_upto_region 5 with fail
      obtain ⟨wb, hwb⟩ : ∃ wb, wr.alloc (.cells #[.bool x.c.super, .int .i64 x.c.top, .int .i64 x.c.details, .int .i64 x.c.pool.tx, .int .i64 x.c.pool.time, .int .i64 x.c.pool.unit, .int .i64 x.c.pool.data, .slice x.A x.c.pool.devs.length x.n] 33) = wb := ⟨_, rfl⟩
      have hbb : Below wr.heap.size wr wb := by rw [← hwb]; exact (Below.refl _ _).alloc (Nat.le_refl _) _
      have hbx : CBoxT 33 wb wr.heap.size x.c x.A x.n := by rw [← hwb]; exact heap_alloc_new wr _
      rw [hwb]
      clear hwb d0 d1 d2 d3 d4 d5 d6 d7
      obtain ⟨c0, c1, c2, c3, c4, c5, c6, c7⟩ := hbx.cells
      have hBb := hB.trans (hbb.mono hz)
      have hzb := hBb.size
      have hzz := hbb.size
      have how := own_any wb S _ x.c (fun b hb => by have := hS b hb; omega) (HXW.out.1.below hBb hS).is HXW.out.2.1.2.1 HXW.out.2.2
      have HOW := Lib.hid how
      have hrb := hrow.below_ hbb
      dsimp only [RC.enc, RC.cells, Cand.cells] at HOW
      clear how hbx
      go_upto_region 6 with (first
        | (go_at_call 16; refine HOW.out.mono ?_; rintro e w3 ⟨v3, rfl, ⟨A3, n3, rfl, hn3, hr3⟩, hB3⟩; have hrow3 := hrb.below_ hB3; have hk3 := hBb.trans (hB3.mono hzb); have hz3 := hk3.size; have hzz3 := hB3.size)
        | (at_builtin; have _ := hz3; go_loud (refine wpList_append_oneB elHc rfl _ _ rfl w.heap.size (.slice At k ct) k out ⟨x.c, A3, n3⟩ rfl hrow3 rfl (by omega) (by omega) ?_); intro A6 cap6 w6 hown hg hbk))
      have hB6 := hk3.grown hg hz3 (fun j hj => (hrow3.lt j hj).1)
      go_wp2_with fail
      go_roundw
      case rel =>
        refine ⟨k + 1, out ++ [⟨x.c, A3, n3⟩], by omega, by go_num, by rw [List.length_append, HOL.out]; rfl, hown, hB6, Lib.hid ⟨fun r hr => ?_, ?_⟩⟩
        · have hz6 := hg.size
          have hfar : ∀ b, wb.heap.size ≤ b → ¬ (Value.slice At k ct).ownBlock = some b := fun b hb1 he => by
            have := (hrow.lt b he).2
            omega
          rcases List.mem_append.1 hr with h | h
          · have q := HO.out.1 r h
            refine ⟨(q.1.keep (w' := w3) (fun _ h => h) (keep_below (hbb.trans (hB3.mono hzz)) (fun b hb => hb.1.2))).keep (fun b hb => ?_) (keep_grown hg (fun b hb => by have := hb.1.2; omega) (fun b hb hs => hs.2 hb.symm)), q.2⟩
            refine ⟨⟨hb.1.1, by have := hb.1.2; omega⟩, fun he => ?_⟩
            rcases hbk b he.symm with h1 | h1
            · exact hb.2 h1.symm
            · have := hb.1.2
              omega
          · obtain rfl := List.mem_singleton.1 h
            refine ⟨RC.at.keep (w := w3) (S := fun b => Btw wb.heap.size w3.heap.size b ∧ Thaw w3 b) ⟨hn3, hr3⟩ (fun b hb => ?_) (keep_grown hg (fun b hb => hb.1.2) (fun b hb hs => hfar b hs.1.1 hb)), HXW.out.2.1⟩
            have hb1 : wb.heap.size ≤ b := hb.1.1
            have hb2 : b < w3.heap.size := hb.1.2
            refine ⟨⟨by omega, by omega⟩, fun he => ?_⟩
            rcases hbk b he.symm with h1 | h1
            · exact hfar b hb1 h1
            · omega
        · rw [List.map_append, HO.out.2, HTK.out]
          rfl
      case measure => simp [intOf]; omega
    · obtain rfl : k = n := by omega
      obtain ⟨g, cap', heq, hg1, hg2, hg3⟩ := own_form hrow (by omega)
      simp only [Value.slice.injEq, true_and] at heq
      obtain ⟨rfl, rfl⟩ := heq
      have hSg : ∀ b, (Btw w.heap.size wr.heap.size b ∧ some b ≠ some g) → b < wr.heap.size ∧ b ≠ g := fun b hb => ⟨hb.1.2, fun h => hb.2 (by rw [h])⟩
      obtain ⟨L, hL1, hL2, hL3⟩ := vc_list (w := wr) (S := fun b => Btw w.heap.size wr.heap.size b ∧ some b ≠ some g) out HO.out.1
      have hLn : L.length = k := by rw [hL1, HOL.out]
      have hrw : wr.ownsRow w.heap.size 33 8 (.slice (some ⟨g, 0, none⟩) k ct) k (flats VC.enc L) := by rw [hL3]; exact hrow
      have hRow : RowAt VC.enc wr g 0 wr L := ⟨own_holdsG (k := 8) default (fun _ => rfl) (by omega) hrw, Far1.refl _ _, hg2⟩
      have hst := sortStable_any VC.enc (fun _ => rfl) (fun r => RC.enc_one r.1) cfV wr wr g 0 ct k L hLn (by omega) hRow (cmp_bel hSg)
      have HSS := Lib.hid hst
      have HSG := Lib.hid hSg
      have HLL := Lib.hid (And.intro hLn hL2)
      clear hst hSg hL1 hL2 hL3 hLn hrw hRow
      go_wp2_with (go_at_call 18; refine HSS.out.mono ?_; rintro e w5 ⟨rfl, hR5⟩; have HR5 := Lib.hid hR5; clear hR5)
      go_ret
      have hz5 := HR5.out.2.1.2.2.2.1
      have hlen5 : (stab default (fun x y => decide (cfV x y < 0)) L).length = k := by
        have e := congrArg List.length (stabV L)
        rw [List.length_map, refS_length, List.length_map, HLL.out.1] at e
        simpa using e
      have hq := row_is (S' := fun b => Btw w.heap.size w5.heap.size b) (c := ct) hlen5 (by omega) HR5.out HSG.out ⟨hg1, by omega⟩ (fun b hb => ⟨hb.1.1, by have := hb.1.2; omega⟩)
      rw [stabV, HLL.out.2, HO.out.2, List.take_of_length_le (by rw [HN.out]; exact Nat.le_refl _)] at hq
      exact ⟨_, rfl, hq, hB.trans (HR5.out.2.1.below hg1 hz)⟩
theorem ranksort_nil (w : World) (A : Option Addr) (c : Nat) :
    Calls Try.prog 11 #[.slice A 0 c] w fun e w' => e = .returned (.slice none 0 0) ∧ Below w.heap.size w w' := by
  go_enter Try.func11, Try.ntmps11
  go_wp2_with fail
  go_loopw [3, 8] (fun t i wr => t = .slice none 0 0 ∧ i = .int .i64 0 ∧ wr = w) (fun _ _ _ => 0)
  case atStart => exact ⟨rfl, rfl, rfl⟩
  case round =>
    obtain ⟨rfl, rfl, rfl⟩ := hrel
    go_wp2_with (go_at_call 18; refine (sortStable_nil _ _ _ _).mono ?_; rintro e w3 ⟨rfl, rfl⟩)
    go_ret
    exact ⟨rfl, Below.refl _ _⟩
end Go.Proofs.Ytolpgblegbahgaa
