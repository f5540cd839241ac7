/- replay.do: writes, one after the other, done to a copy of an image; whatever iterator tells their places. Condition: the slices are within the reach. -/
import Derived.Test.YtlogabbnnbcokaaWDo
import Derived.Deep.QuietTactic
import Derived.Outline
namespace Go.Proofs.Ytlogabbnnbcokaa
open Go.RowKit Go.Shelf
attribute [local go_sem] Oper.semAt_some

set_option maxRecDepth 100000 in
set_option maxHeartbeats 3200000 in
theorem do_any (w : World) (S0 S : Nat → Prop) (a : Nat) (bs : List UInt8) (gf : Nat) (lb : Array Value) (A : Option Addr) (l : List Wr) (V : Nat → Option Addr × Nat) (js : List Nat) (N : Nat)
    (hS0 : ∀ b, S0 b → b < w.heap.size) (himg : IsImg w S0 a bs) (hbn : bs.length ≤ 140737488355328) (hS : ∀ b, S b → b < w.heap.size) (hw : WrsIs w S A l V) (hlw : ∀ k, k < l.length → (nth wr0 l k).bytes.length ≤ 140737488355328)
    (eg : ∀ args w, (callFunc gf args).run Try.prog w = .ok (.enter gf args) w)
    (hseq : ∀ w', Below w.heap.size w w' → SeqStopsK Fence.wide 2 Try.prog gf lb (fun x : { k : Nat // k < l.length } => encW l V x.1) (KpS S) (fun xs => xs.map (·.1) = js) (fun pre => pre.map (·.1) <+: js) N w') :
    Calls Try.prog 19 #[.pointer (some ⟨a, 0, none⟩), .func (.func gf) #[] lb] w fun e w' => ∃ a', e = .returned (.pointer (some ⟨a', 0, none⟩)) ∧ OwnImg w' w.heap.size a' (doF l bs js) ∧ Below w.heap.size w w' := by
  have HCP := Lib.hid (imageCopy_any w S0 a bs hS0 himg hbn)
  have f1 : Fence.wide.fn 26 := trivial
  clear himg
  refine (callsIn_wide (n := 3)).1 ?_
  refine callsIn_of_wp_marks Try.func19 rfl trivial ?_ rfl
  simp only [Try.ntmps19, List.size_toArray, List.length_cons, List.length_nil, Nat.reduceAdd, Nat.reduceSub, Array.replicate_succ, Array.replicate_zero, List.push_toArray, List.append_toArray, List.nil_append, List.cons_append]
  gi_wp2_with (gi_at_call 26; refine (callsIn_wide.2 HCP.out).mono ?_; rintro e w2 ⟨a', rfl, hI2, hB2⟩)
  have hk3 := hB2.alloc hB2.size (.cells #[.pointer (some ⟨a', 0, none⟩)] 31)
  have hb3 := Boxed.new w2 31 (.pointer (some ⟨a', 0, none⟩))
  have hI3 := hI2.below ((Below.refl w2.heap.size w2).alloc (Nat.le_refl _) (.cells #[.pointer (some ⟨a', 0, none⟩)] 31)) (Nat.le_refl _)
  have hz3 : (w2.alloc (.cells #[.pointer (some ⟨a', 0, none⟩)] 31)).heap.size = w2.heap.size + 1 := by simp
  generalize w2.alloc (.cells #[.pointer (some ⟨a', 0, none⟩)] 31) = w3 at *
  have hS3 : ∀ b, S b → b < w3.heap.size := fun b hb => by have := hS b hb; have := hB2.size; omega
  have hsz2 := hB2.size
  refine wpIn_rangeFunc_ownH rfl (by omega) (gf := gf) (lb := lb) rfl trivial eg (hseq w3 hk3)
    kpS_t (fun W l o o' hl _ _ _ => kpS_b hS3 W l o' hl) (Below.refl _ _) (fun _ => rfl)
    (fun pre W => (OwnImg W w.heap.size a' (doF l bs (pre.map (·.1))) ∧ Boxed W w2.heap.size 31 (.pointer (some ⟨a', 0, none⟩))) ∧ Below w.heap.size w W)
    (fun _ _ _ => False)
    (OwnFrom.and (OwnFrom.and (Own.from (ownImg_own _ _ _) _) (Own.from (boxed_own _ _ _) _)) (ownFrom_below (Nat.le_refl _) (by omega)))
    (fun _ _ _ _ _ hs _ _ => hs)
    ⟨⟨hI3, hb3⟩, hk3⟩
    (fun x a2 W => ∃ Bx, WrBox W Bx (nth wr0 l x.1) (V x.1) ∧ a2 = { tmps := #[.pointer (some ⟨a, 0, none⟩), .func (.func gf) #[] lb, undef, undef, .pointer none, .pointer (some ⟨w2.heap.size, 0, none⟩), .pointer (some ⟨Bx, 0, none⟩), undef, .pointer (some ⟨a, 0, none⟩), .pointer (some ⟨a', 0, none⟩), .func (.func gf) #[] lb, wrV (nth wr0 l x.1) (V x.1), undef, undef, undef, undef, undef, undef, undef, undef, undef], defers := [] })
    (fun x a2 _ X Y row hs hg hr => by obtain ⟨Bx, h2, h3⟩ := hs; exact ⟨Bx, wrBox_own Bx _ _ () X Y row h2 hg (fun r e => (hr r e).2), h3⟩)
    ?assign ?body ?done ?stop
  case assign =>
    rintro lp pre x W K ⟨⟨hI, hb⟩, hB⟩ hK
    dsimp only [encW, wrV]
    have hsz := hB.size
    gi_wp2
    exact hK _ _ ((KeepsOthers.alloc _ _).from _) ⟨keep_alloc (fun b hb => by have := hS b hb; omega) _, by simp⟩ ⟨⟨ownImg_own _ _ (fun (_ : Unit) => _) () _ _ none hI (World.grownBy_alloc _ _ _) (fun r e => by cases e), hb.alloc _⟩, hB.alloc hsz _⟩ ⟨W.heap.size, heap_alloc_new W _, rfl⟩
  case body =>
    rintro lp pre x a2 W hl ⟨r, hr⟩ ⟨⟨hI, hb⟩, hB⟩ ⟨Bx, hW, rfl⟩ hlt
    have e0 := hb.cell
    obtain ⟨t0, t1⟩ := hW.cell
    have hx := x.2
    obtain ⟨wb, wo, _, _, hat⟩ := hw.keep (keep_below hB hS) (by omega)
    obtain ⟨_, _, hvc, hvr⟩ := hat x.1 hx
    have hwr := write_any W S w.heap.size a' _ (nth wr0 l x.1).no (.slice (V x.1).1 (nth wr0 l x.1).bytes.length (V x.1).2) (nth wr0 l x.1).bytes hI (by rw [doF_len]; exact hbn) ⟨_, _, rfl, hvc, hvr⟩ (hlw x.1 hx)
    have HWR := Lib.hid hwr
    have HSN := Lib.hid (doF_snoc l bs (pre.map (·.1)) x.1)
    have HI := Lib.hid hI
    have HB := Lib.hid hB
    have hszW := hB.size
    clear hwr hat hvc hvr hI
    have f4 : Fence.wide.fn 27 := trivial
    dsimp only [wrV]
    gi_wp2_with (gi_at_call 27; refine (CallsIn.inRound lp (callsIn_wide.2 HWR.out)).mono ?_; rintro e w5 ⟨n5, rfl, hI5, hT5⟩)
    all_goals
      obtain ⟨hKO, hKp, hBel, hBx⟩ := touched_facts HI.out hT5
      refine ⟨hKO.from _, ⟨hKp S hS, hKO.size⟩, ⟨?_, hBx _ _ _ hb (by decide)⟩, hBel _ _ HB.out (Nat.le_refl _) hszW⟩
      rw [List.map_append, List.map_cons, List.map_nil, HSN.out]
      exact hI5
  case done =>
    rintro D xs W hD hxs ⟨⟨hI, hb⟩, hB⟩ hK
    have e0 := hb.cell
    gi_wp2
    have hDW : D < W.heap.size := (Array.getElem?_eq_some_iff.1 hK).1
    have hsW := hB.size
    refine ⟨by simp, .inl ⟨_, _, rfl, run_takeDeferred hK, ?_⟩⟩
    refine ⟨_, results_tmp rfl _ _ _, a', rfl, ?_, ?_⟩
    · rw [← hxs]
      exact ownImg_own _ _ (fun (_ : Unit) => _) () W _ (some D) hI (grownBy_putObj' W D _) (fun r e => by cases e; exact ⟨_, hK, rfl⟩)
    · exact hB.grown (grownBy_putObj' W D _) hsW (fun k e => by cases e; omega)
  case stop =>
    rintro D c pre W _ _ h _
    exact h.elim
end Go.Proofs.Ytlogabbnnbcokaa
