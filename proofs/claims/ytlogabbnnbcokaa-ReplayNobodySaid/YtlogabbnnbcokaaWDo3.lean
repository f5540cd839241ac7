/- replay.do at no image. Condition: the slices are within the reach. -/
import Derived.Test.YtlogabbnnbcokaaWDo2
namespace Go.Proofs.Ytlogabbnnbcokaa
open Go.RowKit Go.Shelf
attribute [local go_sem] Oper.semAt_some

set_option maxRecDepth 100000 in
set_option maxHeartbeats 3200000 in
theorem do_nil (w : World) (S : Nat → Prop) (gf : Nat) (lb : Array Value) (A : Option Addr) (l : List Wr) (V : Nat → Option Addr × Nat) (js : List Nat) (N : Nat)
    (hS : ∀ b, S b → b < w.heap.size) (_hw : WrsIs w S A l V)
    (eg : ∀ args w, (callFunc gf args).run Try.prog w = .ok (.enter gf args) w)
    (hseq : ∀ w', Below w.heap.size w w' → SeqStopsK Fence.wide 2 Try.prog gf lb (fun x : { k : Nat // k < l.length } => encW l V x.1) (KpS S) (fun xs => xs.map (·.1) = js) (fun pre => pre.map (·.1) <+: js) N w') :
    Calls Try.prog 19 #[.pointer none, .func (.func gf) #[] lb] w fun e w' => e = .returned (.pointer none) ∧ Below w.heap.size w w' := by
  have HCP := Lib.hid (imageCopy_nil w)
  have f1 : Fence.wide.fn 26 := trivial
  refine (callsIn_wide (n := 3)).1 ?_
  refine callsIn_of_wp_marks Try.func19 rfl trivial ?_ rfl
  simp only [Try.ntmps19, List.size_toArray, List.length_cons, List.length_nil, Nat.reduceAdd, Nat.reduceSub, Array.replicate_succ, Array.replicate_zero, List.push_toArray, List.append_toArray, List.nil_append, List.cons_append]
  gi_wp2_with (gi_at_call 26; refine (callsIn_wide.2 HCP.out).mono ?_; rintro e wx ⟨rfl, rfl⟩)
  have hB2 := Below.refl w.heap.size w
  have hk3 := hB2.alloc hB2.size (.cells #[.pointer none] 31)
  have hb3 := Boxed.new w 31 (.pointer none)
  have hz3 : (w.alloc (.cells #[.pointer none] 31)).heap.size = w.heap.size + 1 := by simp
  generalize w.alloc (.cells #[.pointer none] 31) = w3 at *
  have hS3 : ∀ b, S b → b < w3.heap.size := fun b hb => by have := hS b hb; have := hB2.size; omega
  have hsz2 := hB2.size
  refine wpIn_rangeFunc_ownH rfl (by omega) (gf := gf) (lb := lb) rfl trivial eg (hseq w3 hk3)
    kpS_t (fun W l o o' hl _ _ _ => kpS_b hS3 W l o' hl) (Below.refl _ _) (fun _ => rfl)
    (fun pre W => Boxed W w.heap.size 31 (.pointer none) ∧ Below w.heap.size w W)
    (fun _ _ _ => False)
    (OwnFrom.and (Own.from (boxed_own _ _ _) _) (ownFrom_below (Nat.le_refl _) (by omega)))
    (fun _ _ _ _ _ hs _ _ => hs)
    ⟨hb3, hk3⟩
    (fun x a2 W => ∃ Bx, WrBox W Bx (nth wr0 l x.1) (V x.1) ∧ a2 = { tmps := #[.pointer none, .func (.func gf) #[] lb, undef, undef, .pointer none, .pointer (some ⟨w.heap.size, 0, none⟩), .pointer (some ⟨Bx, 0, none⟩), undef, .pointer none, .pointer none, .func (.func gf) #[] lb, wrV (nth wr0 l x.1) (V x.1), undef, undef, undef, undef, undef, undef, undef, undef, undef], defers := [] })
    (fun x a2 _ X Y row hs hg hr => by obtain ⟨Bx, h2, h3⟩ := hs; exact ⟨Bx, wrBox_own Bx _ _ () X Y row h2 hg (fun r e => (hr r e).2), h3⟩)
    ?assign ?body ?done ?stop
  case assign =>
    rintro lp pre x W K ⟨hb, hB⟩ hK
    dsimp only [encW, wrV]
    have hsz := hB.size
    gi_wp2
    exact hK _ _ ((KeepsOthers.alloc _ _).from _) ⟨keep_alloc (fun b hb => by have := hS b hb; omega) _, by simp⟩ ⟨hb.alloc _, hB.alloc hsz _⟩ ⟨W.heap.size, heap_alloc_new W _, rfl⟩
  case body =>
    rintro lp pre x a2 W hl ⟨r, hr⟩ ⟨hb, hB⟩ ⟨Bx, hW, rfl⟩ hlt
    have e0 := hb.cell
    obtain ⟨t0, t1⟩ := hW.cell
    have f4 : Fence.wide.fn 27 := trivial
    dsimp only [wrV]
    gi_wp2_with (gi_at_call 27; refine (CallsIn.inRound lp (callsIn_wide.2 (write_nil _ _ _))).mono ?_; rintro e w5 ⟨rfl, rfl⟩)
    exact ⟨(KeepsOthers.refl _).from _, ⟨Keep.refl, Nat.le_refl _⟩, hb, hB⟩
  case done =>
    rintro D xs W hD hxs ⟨hb, hB⟩ hK
    have e0 := hb.cell
    gi_wp2
    have hDW : D < W.heap.size := (Array.getElem?_eq_some_iff.1 hK).1
    have hsW := hB.size
    refine ⟨by simp, .inl ⟨_, _, rfl, run_takeDeferred hK, ?_⟩⟩
    exact ⟨_, results_tmp rfl _ _ _, rfl, hB.grown (grownBy_putObj' W D _) hsW (fun k e => by cases e; omega)⟩
  case stop =>
    rintro D c pre W _ _ h _
    exact h.elim
end Go.Proofs.Ytlogabbnnbcokaa
