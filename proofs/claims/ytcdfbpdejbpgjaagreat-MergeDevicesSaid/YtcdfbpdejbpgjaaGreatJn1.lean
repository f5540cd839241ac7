import Derived.Test.YtcdfbpdejbpgjaaGreatWModel6
import Derived.Test.YtcdfbpdejbpgjaaGreatOwnPut
import Derived.Test.YtcdfbpdejbpgjaaGreatWriter
import Derived.Test.YtcdfbpdejbpgjaaGreatRegT
import Derived.Deep.LoopGhost
import Derived.Deep.QuietTactic
import Derived.BigQuiet
import Derived.Outline
import Derived.IntWalk
import Derived.Test.YtcdfbpdejbpgjaaGreatWCmp
import Derived.Test.YtcdfbpdejbpgjaaGreatSearchK
import Derived.Test.YtcdfbpdejbpgjaaGreatCopyK
import Derived.Test.YtcdfbpdejbpgjaaGreatCloneA
import Derived.Deep.AppendLies
import Derived.Laws.NewBlocks
import Derived.Test.YtcdfbpdejbpgjaaGreatWModel3
import Derived.WideMake
import Derived.Test.YtcdfbpdejbpgjaaGreatWPool3
import Derived.Test.YtcdfbpdejbpgjaaGreatMap
import Derived.Test.YtcdfbpdejbpgjaaGreatProg
import Derived.Test.YtcdfbpdejbpgjaaGreatWDelF
import Derived.Test.YtcdfbpdejbpgjaaGreatWCloneM
import Derived.Test.YtcdfbpdejbpgjaaGreatClearK
import Derived.Shelf.SlSortCmp.NoneTotal
import Derived.Test.YtcdfbpdejbpgjaaGreatCells
import Derived.Laws.AppendOwnNone
import Derived.Test.YtcdfbpdejbpgjaaGreatWCopyO
import Derived.Test.YtcdfbpdejbpgjaaGreatPool
set_option linter.unusedVariables false
set_option linter.unusedSimpArgs false
/- model.discard. Condition: the pool may be, and lies in memory of the call's own. -/
namespace Go.Proofs.YtcdfbpdejbpgjaaGreat
open Go.RowKit
attribute [local go_sem] Oper.semAt_some

set_option maxRecDepth 100000 in
set_option maxHeartbeats 1600000 in
theorem inOp_any (bo : Nat) (o : Mop) (h1 : 0 ≤ o.arg) (h2 : o.arg ≤ 281474976710655) (h3 : 1 ≤ o.n) (h4 : o.n ≤ 16384) :
    PredB 79 #[.pointer (some ⟨bo, 0, none⟩)] (inOp o) bo (.cells #[.int .i64 o.kind, .int .i64 o.dev, .int .i64 o.arg, .int .i64 o.n] 44 (0, 0)) := by
  intro w' hb m
  have hlt : bo < w'.heap.size := (Array.getElem?_eq_some_iff.1 hb).1
  obtain ⟨y0, y1, y2, y3⟩ := MBox.cells (show MBox w' bo o from hb)
  have hB : Below w'.heap.size w' (w'.alloc (.cells #[.int .i64 m.v, .int .i64 m.b, .int .i64 m.t] 40)) := (Below.refl _ _).alloc (Nat.le_refl _) _
  have hw : IntKind.i64.wrap (o.arg + o.n) = o.arg + o.n := IntWalk.i64_in _ (by omega)
  show Calls Tryz.prog 79 #[.agg #[.int .i64 m.v, .int .i64 m.b, .int .i64 m.t], .pointer (some ⟨bo, 0, none⟩)] w' _
  by_cases ha : o.arg ≤ m.v
  · have ha' : decide (o.arg ≤ m.v) = true := by simpa using ha
    by_cases hc : m.v < o.arg + o.n
    · have hc' : decide (m.v < o.arg + o.n) = true := by simpa using hc
      have he : inOp o m = true := by unfold inOp; rw [ha', hc']; rfl
      rw [he]
      clear he hc ha hb
      go_enter Tryz.func79, Tryz.ntmps79
      go_wp2_with fail
      go_ret
      exact ⟨rfl, hB⟩
    · have hc' : decide (m.v < o.arg + o.n) = false := by simpa using hc
      have he : inOp o m = false := by unfold inOp; rw [ha', hc']; rfl
      rw [he]
      clear he hc ha hb
      go_enter Tryz.func79, Tryz.ntmps79
      go_wp2_with fail
      go_ret
      exact ⟨rfl, hB⟩
  · have ha' : decide (o.arg ≤ m.v) = false := by simpa using ha
    have he : inOp o m = false := by unfold inOp; rw [ha']; rfl
    rw [he]
    clear he ha hb
    go_enter Tryz.func79, Tryz.ntmps79
    go_wp2_with fail
    go_ret
    exact ⟨rfl, hB⟩
theorem enters_disc : ∀ args w, (callFunc 79 args).run Tryz.prog w = .ok (.enter 79 args) w := enters_of Tryz.func79 (by kernel_rfl) rfl
theorem blkE_ok {p : Pool} {o : Mop} (h : blkE p o = 0) : dhas p o.dev = true ∧ 1 ≤ o.n ∧ o.n ≤ 16384 ∧ 0 ≤ o.arg ∧ o.arg ≤ 281474976710655 ∧ o.n ≤ 281474976710656 - o.arg := by
  unfold blkE at h
  cases hb : dhas p o.dev with
  | false => rw [if_pos hb] at h; cases h
  | true =>
    rw [if_neg (by rw [hb]; simp)] at h
    have : ¬ (o.n < 1 ∨ 16384 < o.n ∨ o.arg < 0 ∨ 281474976710655 < o.arg ∨ 281474976710656 - o.arg < o.n) := fun hx => by rw [if_pos hx] at h; cases h
    exact ⟨rfl, by omega, by omega, by omega, by omega, by omega⟩
theorem maps_len {p : Pool} (h : poolChk p = 0) {k : Nat} (hk : k < p.devs.length) : (nth dev0 p.devs k).maps.length ≤ 16384 := by
  have hcn : countL p.devs ≤ 16384 := (fit_iff.1 h).2.2.1
  have h1 := countL_take p.devs _ hk
  have h2 := countL_take_le p.devs (k + 1)
  have h3 := countL_nonneg (p.devs.take k)
  omega
set_option maxRecDepth 100000 in
set_option maxHeartbeats 3200000 in
theorem discard_any (w : World) (base g : Nat) (p : Pool) (o : Mop) (h : OwnP w base g p) (hpc : poolChk p = 0) (hb : base ≤ w.heap.size) :
    Calls Tryz.prog 49 #[.pointer (some ⟨g, 0, none⟩), mopV o] w (DoIs w base g (discardF p o)) := by
  have hwb : Below w.heap.size w (w.alloc (.cells #[.int .i64 o.kind, .int .i64 o.dev, .int .i64 o.arg, .int .i64 o.n] 44)) := (Below.refl _ _).alloc (Nat.le_refl _) _
  by_cases hbe : blkE p o = 0
  · obtain ⟨e1, e2, e3, e4, e5, e6⟩ := blkE_ok hbe
    obtain ⟨hk, _⟩ := hasK_at (d := dev0) (v := o.dev) (incK_devs hpc) e1
    have hk : dpos p o.dev < p.devs.length := hk
    obtain ⟨A, c, M, h1, h2, h3, h4⟩ := h
    obtain ⟨g2, c2, hv, hbg2, hg2⟩ : ∃ g2 c2, (Value.slice A p.devs.length c) = .slice (some ⟨g2, 0, none⟩) p.devs.length c2 ∧ base ≤ g2 ∧ g2 < w.heap.size := by
      obtain ⟨xs, r1, _⟩ := h3
      obtain ⟨g2, c2, h1, h2, h3, _⟩ := own_form r1 (by omega)
      exact ⟨g2, c2, h1, h2, h3⟩
    injection hv with e1 e2 e3
    subst e1 e3
    have HMB := Lib.hid (fun w' (hB : Below (w.alloc (.cells #[.int .i64 o.kind, .int .i64 o.dev, .int .i64 o.arg, .int .i64 o.n] 44)).heap.size (w.alloc (.cells #[.int .i64 o.kind, .int .i64 o.dev, .int .i64 o.arg, .int .i64 o.n] 44)) w') => (MBox.new w o).below hB (MBox.new w o).lt)
    have HBK := Lib.hid (fun w' (hB : Below w.heap.size w w') => blocks_ok w' base g g2 c p o M (h1.below hB h1.lt) h2 (h3.below hB) h4 hpc hbe)
    have HK := Lib.hid (fun w1 (hB : Below w.heap.size w w1) => (⟨h1.below hB h1.lt, h3.below hB⟩ : PBox w1 g p (some ⟨g2, 0, none⟩) p.devs.length c ∧ OwnDevs w1 base (.slice (some ⟨g2, 0, none⟩) p.devs.length c) p.devs M))
    have hml := maps_len hpc hk
    have HPR := Lib.hid (inOp_any w.heap.size o (by omega) (by omega) (by omega) (by omega))
    have hdf : discardF p o = (0, setMaps p (dpos p o.dev) ((mapsOf p (dpos p o.dev)).filter fun m => !inOp o m)) := by unfold discardF; rw [if_neg (by rw [hbe]; simp)]
    rw [hdf]
    obtain ⟨Am, cm, hMk, hcm⟩ := (h3.cellM hk).2.2.2
    have HOM := Lib.hid (fun w' (hB : Below w.heap.size w w') => (by
      obtain ⟨xs, _, hc, _⟩ := h3.below hB
      have h := (hc _ hk).2.1
      rw [hMk] at h
      exact h : OwnMaps w' base (.slice Am (mapsOf p (dpos p o.dev)).length cm) (mapsOf p (dpos p o.dev))))
    have HMK := Lib.hid hMk
    have hMl : ∀ x, (M (dpos p o.dev)).ownBlock = some x → x < w.heap.size := fun x hx => (h3.lt.2 _ hk x hx).2
    rw [hMk] at hMl
    have HPO := Lib.hid (fun w' (hB : Below w.heap.size w w') w1 u m => put_own (w := w') (w1 := w1) (u := u) (m := m) rfl (HK.out w' hB).1 (HK.out w' hB).2 h4 hk)
    have hml2 : (mapsOf p (dpos p o.dev)).length ≤ 16384 := hml
    have HKM := Lib.hid (fun w' (hB : Below w.heap.size w w') => (HK.out w' hB).2.cellM hk)
    have hMg : (Value.slice Am (mapsOf p (dpos p o.dev)).length cm).ownBlock ≠ some g2 := by
      obtain ⟨xs, _, hc, _⟩ := h3
      intro e
      have e2 : (M (dpos p o.dev)).ownBlock = some g2 := by rw [hMk]; exact e
      exact (hc _ hk).2.2 g2 e2 rfl
    simp only [hMk] at HKM HPO
    have hgw := h1.lt
    clear h1 h3 h4 hdf hMk hml hbe HMK
    have hml3 : (nth dev0 p.devs (dpos p o.dev)).maps = mapsOf p (dpos p o.dev) := rfl
    rw [hml3] at HKM HPO hMl
    clear hml3
    have HLE := Lib.hid (len_setMaps p (dpos p o.dev) ((mapsOf p (dpos p o.dev)).filter fun m => !inOp o m))
    generalize hq : setMaps p (dpos p o.dev) ((mapsOf p (dpos p o.dev)).filter fun m => !inOp o m) = q at *
    have HQ := Lib.hid hq
    clear hq
    have HPO2 := Lib.hid (fun w' hB w1 u => HPO.out w' hB w1 u ((mapsOf p (dpos p o.dev)).filter fun m => !inOp o m))
    rw [HQ.out] at HPO2
    generalize mapsOf p (dpos p o.dev) = ml at *
    generalize dpos p o.dev = k at *
    generalize hL : ml.length = L at *
    have HL := Lib.hid hL
    clear hL HPO
    generalize hnl : p.devs.length = n at *
    clear hnl
    have hki : (k : Int) < (n : Int) := by omega
    have hwbz : (w.alloc (.cells #[.int .i64 o.kind, .int .i64 o.dev, .int .i64 o.arg, .int .i64 o.n] 44)).heap.size = w.heap.size + 1 := by simp
    have HFIN := Lib.hid (fun w2 (hB2 : Below (w.alloc (.cells #[.int .i64 o.kind, .int .i64 o.dev, .int .i64 o.arg, .int .i64 o.n] 44)).heap.size (w.alloc (.cells #[.int .i64 o.kind, .int .i64 o.dev, .int .i64 o.arg, .int .i64 o.n] 44)) w2) =>
      deleteOwn_any w2 base Am L cm ml 79 #[.pointer (some ⟨w.heap.size, 0, none⟩)] (inOp o) w.heap.size _ (by have h : w2.ownsRow base 40 3 (.slice Am L cm) ml.length (flats Mp.enc ml) := HOM.out w2 (hwb.trans (hB2.mono hwb.size)); rw [HL.out] at h; exact h) HL.out (by omega) enters_disc (HMB.out w2 hB2) (fun e => by have := hMl _ e; omega) (by have := hB2.size; omega) HPR.out)
    unfold DelOwn at HFIN
    generalize hfl : (ml.filter fun m => !inOp o m) = fl at *
    clear hfl
    generalize hfn : fl.length = fn at *
    have HFN := Lib.hid hfn
    clear hfn
    clear hwbz
    unfold mopV at *
    go_enter Tryz.func49, Tryz.ntmps49
    go_wp2_with (first
      | (go_at_call 76; refine (HBK.out _ hwb).mono ?_; rintro e w2 ⟨rfl, hB2⟩; have hk2 := hwb.trans (hB2.mono hwb.size); obtain ⟨z0, _, z2, _⟩ := HKM.out _ hk2)
      | (go_at_call 35; refine (HFIN.out _ hB2).mono ?_; rintro e w3 ⟨rfl, ho3, hB3, hg3⟩; have hbl := hg3.block g2 (by have := hk2.size; omega) (fun e => hMg e.symm); have z3 := (World.cell?_of_block (a := ⟨g2, k * 5 + 4, none⟩) hbl).trans z0; have z4 : w3.frozen? ⟨g2, k * 5 + 4, none⟩ = false := (by have h := z2 (k * 5 + 4); unfold World.frozen? at h ⊢; rw [hbl]; exact h); clear z0 z2 hbl))
    go_ret
    have hfi := HPO2.out _ hk2 _ (.slice Am fn cm) hg3 (by have h := ho3; rw [← HFN.out] at h ⊢; exact h) (fun x hx => .inl (by cases Am with
      | none => simp [Value.ownBlock] at hx
      | some a => simpa [Value.ownBlock] using hx))
    refine ⟨rfl, ((hk2.mono hb).trans hB3).setCell (p := ⟨g2, k * 5 + 4, none⟩) hbg2 _, fun _ => ?_⟩
    exact ⟨some ⟨g2, 0, none⟩, c, _, by show PBox _ _ q _ q.devs.length _; rw [HLE.out]; exact hfi.1, h2, by show OwnDevs _ _ (.slice _ q.devs.length _) q.devs _; rw [HLE.out]; exact hfi.2.1, by show Far (.slice _ q.devs.length _) q.devs _ _; rw [HLE.out]; exact hfi.2.2⟩
  · obtain ⟨A, c, M, h1, h2, h3, h4⟩ := h
    have HBK := Lib.hid (fun w' (hB : Below w.heap.size w w') => blocks_bad w' base g p o ⟨A, c, M, h1.below hB h1.lt, h2, h3.below hB, h4⟩ hpc hbe)
    have HMB := Lib.hid (MBox.new w o).cells
    have hdf : discardF p o = (blkE p o, p) := by unfold discardF; rw [if_pos hbe]
    rw [hdf]
    clear h1 h2 h3 h4 hdf
    generalize blkE p o = fe at *
    have hf2 : (fe == 0) = false := by simpa using hbe
    have hf3 : (fe != 0) = true := by simpa using hbe
    unfold mopV at *
    go_enter Tryz.func49, Tryz.ntmps49
    go_wp2_with (go_at_call 76; refine (HBK.out _ hwb).mono ?_; rintro e w2 ⟨rfl, hB2⟩; have hk2 := hwb.trans (hB2.mono hwb.size))
    go_ret
    exact ⟨rfl, hk2.mono hb, fun h => absurd h hbe⟩
end Go.Proofs.YtcdfbpdejbpgjaaGreat

/- The writer's state, and what a write leaves of it. No condition. -/
namespace Go.Proofs.YtcdfbpdejbpgjaaGreat
open Go.RowKit

/-- What is fixed while an op writes: blocks, and the op. -/
structure Wp where
  base : Nat
  g : Nat
  g2 : Nat
  c : Nat
  k : Nat
  bw : Nat
  bo : Nat
  nc : Nat
  cc : Nat
  Ac : Option Addr
  o : Mop
  n : Nat
abbrev Wp.dv (q : Wp) : Value := .slice (some ⟨q.g2, 0, none⟩) q.n q.c
abbrev Wp.cv (q : Wp) : Value := .slice q.Ac q.nc q.cc
/-- The pool, its counts, and the writer. -/
structure WSt (w : World) (q : Wp) (p : Pool) (M : Nat → Value) (next : Nat) : Prop where
  pb : PBox w q.g p (some ⟨q.g2, 0, none⟩) q.n q.c
  od : OwnDevs w q.base q.dv p.devs M
  hn : p.devs.length = q.n
  fg : Far q.dv p.devs M q.g
  fw : Far q.dv p.devs M q.bw
  fo : Far q.dv p.devs M q.bo
  fc : ∀ x, q.cv.ownBlock = some x → Far q.dv p.devs M x ∧ x ≠ q.g ∧ x ≠ q.bw ∧ x ≠ q.bo
  wb : WBox w q.bw q.g q.g2 q.k q.Ac q.nc q.cc next p.count
  cr : w.ownsRow q.base 3 1 q.cv q.nc (flats encI (refsRes p))
  mb : MBox w q.bo q.o
  chk : poolChk p = 0
  len : (refsRes p).length = q.nc
  nx : next ≤ q.nc
  low : ∀ j, j < next → 0 < nth 0 (refsRes p) j
  hk : q.k < q.n
  hg : q.base ≤ q.g
  hw : q.base ≤ q.bw
  hb : q.base ≤ w.heap.size
  gw : q.g ≠ q.bw
  go_ : q.g ≠ q.bo
  wo : q.bw ≠ q.bo
theorem far_not {v : Value} {l : List Dev} {M : Nat → Value} {x : Nat} {R : Nat → Prop} (hv : ∀ y, v.ownBlock = some y → ¬ R y) (hm : ∀ j, j < l.length → ∀ y, (M j).ownBlock = some y → ¬ R y) (hx : R x) : Far v l M x :=
  ⟨fun e => hv x e hx, fun j hj e => hm j hj x e hx⟩
theorem WSt.touch {w w' : World} {q : Wp} {p : Pool} {M : Nat → Value} {next : Nat} (h : WSt w q p M next) (k : Touch (fun _ => False) w w') : WSt w' q p M next :=
  { pb := (k.block h.pb.lt (fun e => e)).trans h.pb, od := h.od.touch k (fun _ _ e => e) (fun _ _ _ _ e => e), hn := h.hn, fg := h.fg, fw := h.fw, fo := h.fo, fc := h.fc
    wb := h.wb.touch k (fun e => e), cr := own_touch h.cr k (fun _ _ e => e), mb := (k.block h.mb.lt (fun e => e)).trans h.mb, chk := h.chk, len := h.len, nx := h.nx, low := h.low, hk := h.hk, hg := h.hg, hw := h.hw, hb := Nat.le_trans h.hb k.size, gw := h.gw, go_ := h.go_, wo := h.wo }
theorem OwnDevs.inplace {w w1 : World} {base r : Nat} {v : Value} {l : List Dev} {M : Nat → Value} {d : Dev} (h : OwnDevs w base v l M) (hr : r < l.length) (hgrow : w.grownBy w1 (M r).ownBlock)
    (hu : OwnMaps w1 base (M r) d.maps) (hd : d.id = (nth dev0 l r).id ∧ d.tx = (nth dev0 l r).tx ∧ d.made = (nth dev0 l r).made ∧ d.snapped = (nth dev0 l r).snapped) : OwnDevs w1 base v (l.set r d) M := by
  obtain ⟨xs, hrow, hc, ha⟩ := h
  have hn : ∀ j, nth dev0 (l.set r d) j = if j = r then d else nth dev0 l j := fun j => nthG_set dev0 l r j d hr
  have hne : v.ownBlock = none ∨ v.ownBlock ≠ (M r).ownBlock := by
    cases hb : (M r).ownBlock with
    | none =>
      cases hv : v.ownBlock with
      | none => exact .inl rfl
      | some x => exact .inr (by simp)
    | some x => exact .inr (fun e => (hc r hr).2.2 x hb (by rw [e]))
  refine ⟨xs, ?_, fun j hj => ?_, fun i j hi hj => ?_⟩
  · rw [List.length_set]; exact hrow.kept hgrow hne
  · rw [List.length_set] at hj
    obtain ⟨e0, hm, hb⟩ := hc j hj
    rw [hn]
    by_cases e : j = r
    · subst e
      rw [if_pos rfl]
      refine ⟨?_, hu, hb⟩
      obtain ⟨e0, e1, e2, e3, e4⟩ := e0
      exact ⟨by rw [hd.1]; exact e0, by rw [hd.2.1]; exact e1, by rw [hd.2.2.1]; exact e2, by rw [hd.2.2.2]; exact e3, e4⟩
    · rw [if_neg e]
      refine ⟨e0, hm.kept hgrow ?_, hb⟩
      cases hbb : (M j).ownBlock with
      | none => exact .inl rfl
      | some g' => exact .inr (fun e2 => ha j r hj hr e g' (by rw [← e2]) (by rw [hbb]))
  · rw [List.length_set] at hi hj
    exact ha i j hi hj
theorem far_set {v : Value} {l : List Dev} {M : Nat → Value} {x r : Nat} {d : Dev} (h : Far v l M x) : Far v (l.set r d) M x := ⟨h.1, fun j hj => h.2 j (by rw [List.length_set] at hj; exact hj)⟩
/-- Where the written device's mappings lie. -/
theorem WSt.maps_ {w : World} {q : Wp} {p : Pool} {M : Nat → Value} {next : Nat} (h : WSt w q p M next) : OwnMaps w q.base (M q.k) (mapsOf p q.k) ∧ w.cell? ⟨q.g2, q.k * 5 + 4, none⟩ = some (M q.k) ∧ (∀ o, w.frozen? ⟨q.g2, o, none⟩ = false) ∧ (∀ x, (M q.k).ownBlock = some x → x ≠ q.g2 ∧ x ≠ q.g ∧ x ≠ q.bw ∧ x ≠ q.bo) := by
  have hk : q.k < p.devs.length := by rw [h.hn]; exact h.hk
  obtain ⟨c1, _, c3, _⟩ := h.od.cellM hk
  refine ⟨?_, c1, c3, fun x hx => ⟨fun e => ?_, fun e => h.fg.2 _ hk (by rw [hx, e]), fun e => h.fw.2 _ hk (by rw [hx, e]), fun e => h.fo.2 _ hk (by rw [hx, e])⟩⟩
  · obtain ⟨xs, _, hc, _⟩ := h.od
    exact (hc _ hk).2.1
  · obtain ⟨xs, _, hc, _⟩ := h.od
    exact (hc _ hk).2.2 x hx (by rw [e]; rfl)
/-- A mapping was replaced in place. -/
theorem WSt.put {w w' : World} {q : Wp} {p p' : Pool} {M : Nat → Value} {next f : Nat} {m' : List Mp} (h : WSt w q p M next) (hp : p' = setMaps p q.k m')
    (hT : Touch (fun x => x = q.bw ∨ q.cv.ownBlock = some x ∨ (M q.k).ownBlock = some x) w w')
    (hwb : WBox w' q.bw q.g q.g2 q.k q.Ac q.nc q.cc f p'.count) (hcr : w'.ownsRow q.base 3 1 q.cv q.nc (flats encI (refsRes p'))) (hm : OwnMaps w' q.base (M q.k) m')
    (hchk : poolChk p' = 0) (hlen : (refsRes p').length = q.nc) (hnx : f ≤ q.nc) (hlow : ∀ j, j < f → 0 < nth 0 (refsRes p') j) : WSt w' q p' M f := by
  have hk : q.k < p.devs.length := by rw [h.hn]; exact h.hk
  obtain ⟨_, _, _, hmk⟩ := h.maps_
  have hn1 : ∀ x, (x = q.bw ∨ q.cv.ownBlock = some x ∨ (M q.k).ownBlock = some x) → x ≠ q.g ∧ x ≠ q.bo := by
    rintro x (rfl | hx | hx)
    · exact ⟨fun e => h.gw e.symm, h.wo⟩
    · exact ⟨(h.fc x hx).2.1, (h.fc x hx).2.2.2⟩
    · exact ⟨(hmk x hx).2.1, (hmk x hx).2.2.2⟩
  -- the world with the other rows as they were: the written row's block is grown
  obtain ⟨xs, hrow, hc, ha⟩ := h.od
  have hrow' : w'.ownsRow q.base 36 5 q.dv p.devs.length xs := own_touch hrow hT (fun x hx => by
    rintro (e | e | e)
    · exact h.fw.1 (by rw [hx, e])
    · exact (h.fc x e).1.1 hx
    · exact (hc _ hk).2.2 x e hx.symm)
  have hod : OwnDevs w' q.base q.dv (p.devs.set q.k ⟨(nth dev0 p.devs q.k).id, (nth dev0 p.devs q.k).tx, (nth dev0 p.devs q.k).made, (nth dev0 p.devs q.k).snapped, m'⟩) M := by
    refine ⟨xs, by rw [List.length_set]; exact hrow', fun j hj => ?_, fun i j hi hj => ?_⟩
    · rw [List.length_set] at hj
      obtain ⟨e0, hmj, hb⟩ := hc j hj
      rw [nthG_set dev0 p.devs q.k j _ hk]
      by_cases e : j = q.k
      · subst e
        rw [if_pos rfl]
        exact ⟨e0, hm, hb⟩
      · rw [if_neg e]
        refine ⟨e0, own_touch hmj hT (fun x hx => ?_), hb⟩
        rintro (e2 | e2 | e2)
        · exact h.fw.2 j hj (by rw [hx, e2])
        · exact (h.fc x e2).1.2 j hj hx
        · exact ha j q.k hj hk e x e2 hx.symm
    · rw [List.length_set] at hi hj
      exact ha i j hi hj
  have hf : ∀ x, Far q.dv p.devs M x → Far q.dv p'.devs M x := fun x hx => by rw [hp]; exact far_set hx
  exact
    { pb := by
        have h1 := (hT.block h.pb.lt (fun hr => (hn1 _ hr).1 rfl)).trans h.pb
        rw [hp]; exact h1
      od := by rw [hp]; exact hod
      hn := by rw [hp, len_setMaps]; exact h.hn
      fg := hf _ h.fg, fw := hf _ h.fw, fo := hf _ h.fo, fc := fun x hx => ⟨hf _ (h.fc x hx).1, (h.fc x hx).2⟩
      wb := hwb, cr := hcr, mb := (hT.block h.mb.lt (fun hr => (hn1 _ hr).2 rfl)).trans h.mb
      chk := hchk, len := hlen, nx := hnx, low := hlow, hk := h.hk, hg := h.hg, hw := h.hw, hb := Nat.le_trans h.hb hT.size, gw := h.gw, go_ := h.go_, wo := h.wo }
/-- A mapping was put in: the device's mappings may lie elsewhere. -/
theorem WSt.ins {w w1 w' : World} {q : Wp} {p p' : Pool} {M : Nat → Value} {next f : Nat} {m' : List Mp} {u : Value} (h : WSt w q p M next) (hp : p' = setMaps p q.k m')
    (hT : Touch (fun x => x = q.bw ∨ q.cv.ownBlock = some x ∨ (M q.k).ownBlock = some x) w w1)
    (hm : OwnMaps w1 q.base u m') (hat : ∀ x, u.ownBlock = some x → (M q.k).ownBlock = some x ∨ w.heap.size ≤ x)
    (hw' : w' = (w1.setCell ⟨q.g2, q.k * 5 + 4, none⟩ u))
    (hwb : WBox w1 q.bw q.g q.g2 q.k q.Ac q.nc q.cc f p'.count) (hcr : w1.ownsRow q.base 3 1 q.cv q.nc (flats encI (refsRes p')))
    (hchk : poolChk p' = 0) (hlen : (refsRes p').length = q.nc) (hnx : f ≤ q.nc) (hlow : ∀ j, j < f → 0 < nth 0 (refsRes p') j) : WSt w' q p' (fun j => if j = q.k then u else M j) f := by
  subst hw'
  have hk : q.k < p.devs.length := by rw [h.hn]; exact h.hk
  obtain ⟨_, _, _, hmk⟩ := h.maps_
  have hn1 : ∀ x, (x = q.bw ∨ q.cv.ownBlock = some x ∨ (M q.k).ownBlock = some x) → x ≠ q.g ∧ x ≠ q.bo := by
    rintro x (rfl | hx | hx)
    · exact ⟨fun e => h.gw e.symm, h.wo⟩
    · exact ⟨(h.fc x hx).2.1, (h.fc x hx).2.2.2⟩
    · exact ⟨(hmk x hx).2.1, (hmk x hx).2.2.2⟩
  obtain ⟨xs, hrow, hc, ha⟩ := h.od
  have hg2 : q.g2 < w.heap.size := (hrow.lt q.g2 rfl).2
  have hrow1 : w1.ownsRow q.base 36 5 q.dv p.devs.length xs := own_touch hrow hT (fun x hx => by
    rintro (e | e | e)
    · exact h.fw.1 (by rw [hx, e])
    · exact (h.fc x e).1.1 hx
    · exact (hc _ hk).2.2 x e hx.symm)
  have hoth : ∀ j, j < p.devs.length → j ≠ q.k → OwnMaps w1 q.base (M j) (nth dev0 p.devs j).maps := fun j hj e => own_touch (hc j hj).2.1 hT (fun x hx => by
    rintro (e2 | e2 | e2)
    · exact h.fw.2 j hj (by rw [hx, e2])
    · exact (h.fc x e2).1.2 j hj hx
    · exact ha j q.k hj hk e x e2 hx.symm)
  have hug : ∀ x, u.ownBlock = some x → x ≠ q.g2 := fun x hx e => by
    rcases hat x hx with h1 | h1
    · exact (hc _ hk).2.2 x h1 (by rw [e]; rfl)
    · omega
  have hkeep : ∀ {v1 : Value} {l1 : List Mp}, OwnMaps w1 q.base v1 l1 → (∀ g', v1.ownBlock = some g' → g' ≠ q.g2) → OwnMaps (w1.setCell ⟨q.g2, q.k * 5 + 4, none⟩ u) q.base v1 l1 := by
    intro v1 l1 ho hne'
    exact ho.kept (grownBy_set w1 ⟨q.g2, q.k * 5 + 4, none⟩ _) (.inr (fun e => hne' q.g2 e rfl))
  have hn := own_n hrow
  have hxl := own_len hrow
  have hod : OwnDevs (w1.setCell ⟨q.g2, q.k * 5 + 4, none⟩ u) q.base q.dv (p.devs.set q.k ⟨(nth dev0 p.devs q.k).id, (nth dev0 p.devs q.k).tx, (nth dev0 p.devs q.k).made, (nth dev0 p.devs q.k).snapped, m'⟩) (fun j => if j = q.k then u else M j) := by
    refine ⟨xs.set (q.k * 5 + 4) u, ?_, fun j hj => ?_, fun i j hi hj hij g' hg' => ?_⟩
    · rw [List.length_set]
      have h1 : w1.ownsRow q.base 36 5 (.slice (some ⟨q.g2, 0, none⟩) q.n q.c) q.n xs := by rw [h.hn] at hrow1; exact hrow1
      have h2 := (h1.stored (q.k * 5 + 4) u).1
      rw [h.hn]; exact h2
    · rw [List.length_set] at hj
      obtain ⟨⟨e0, e1, e2, e3, e4⟩, hmj, hb⟩ := hc j hj
      rw [nthG_set dev0 p.devs q.k j _ hk]
      simp only
      by_cases e : j = q.k
      · subst e
        rw [if_pos rfl, if_pos rfl]
        refine ⟨⟨?_, ?_, ?_, ?_, ?_⟩, hkeep hm hug, fun g' hg' he => hug g' hg' (by simpa [Value.ownBlock] using he)⟩
        · rw [List.getElem?_set_ne (by omega)]; exact e0
        · rw [List.getElem?_set_ne (by omega)]; exact e1
        · rw [List.getElem?_set_ne (by omega)]; exact e2
        · rw [List.getElem?_set_ne (by omega)]; exact e3
        · rw [List.getElem?_set_self (by omega)]
      · rw [if_neg e, if_neg e]
        refine ⟨⟨?_, ?_, ?_, ?_, ?_⟩, hkeep (hoth j hj e) (fun g' hg' he => hb g' hg' (by rw [he]; rfl)), hb⟩
        · rw [List.getElem?_set_ne (by omega)]; exact e0
        · rw [List.getElem?_set_ne (by omega)]; exact e1
        · rw [List.getElem?_set_ne (by omega)]; exact e2
        · rw [List.getElem?_set_ne (by omega)]; exact e3
        · rw [List.getElem?_set_ne (by omega)]; exact e4
    · rw [List.length_set] at hi hj
      simp only at hg' ⊢
      have hapn : ∀ i, i < p.devs.length → i ≠ q.k → ∀ x, u.ownBlock = some x → some x ≠ (M i).ownBlock := by
        intro i hi hir x hx
        rcases hat x hx with h1 | h1
        · exact ha i q.k hi hk hir x h1
        · intro e; have := ((hc i hi).2.1.lt x e.symm).2; omega
      by_cases ei : i = q.k
      · rw [if_pos ei]
        rw [if_neg (by omega)] at hg'
        intro he
        exact hapn j hj (by omega) g' he.symm hg'.symm
      · rw [if_neg ei]
        by_cases ej : j = q.k
        · rw [if_pos ej] at hg'
          exact hapn i hi ei g' hg'
        · rw [if_neg ej] at hg'
          exact ha i j hi hj hij g' hg'
  have hd' : p'.devs = p.devs.set q.k ⟨(nth dev0 p.devs q.k).id, (nth dev0 p.devs q.k).tx, (nth dev0 p.devs q.k).made, (nth dev0 p.devs q.k).snapped, m'⟩ := by rw [hp]; rfl
  have hf : ∀ x, x < w.heap.size → Far q.dv p.devs M x → Far q.dv p'.devs (fun j => if j = q.k then u else M j) x := fun x hx hF => by
    refine ⟨hF.1, fun j hj => ?_⟩
    rw [hd', List.length_set] at hj
    simp only
    by_cases e : j = q.k
    · rw [if_pos e]
      intro he
      rcases hat x he with h1 | h1
      · exact hF.2 _ hk h1
      · omega
    · rw [if_neg e]; exact hF.2 j hj
  have hne2 : ∀ x, x ≠ q.g2 → (w1.setCell ⟨q.g2, q.k * 5 + 4, none⟩ u).heap[x]? = w1.heap[x]? := fun x hx => Below.heap_setCell w1 ⟨q.g2, q.k * 5 + 4, none⟩ u x hx
  have hgg : q.g ≠ q.g2 := fun e => h.fg.1 (by rw [e]; rfl)
  have hwg : q.bw ≠ q.g2 := fun e => h.fw.1 (by rw [e]; rfl)
  have hog : q.bo ≠ q.g2 := fun e => h.fo.1 (by rw [e]; rfl)
  exact
    { pb := by
        have h1 := (hne2 q.g hgg).trans ((hT.block h.pb.lt (fun hr => (hn1 _ hr).1 rfl)).trans h.pb)
        rw [hp]; exact h1
      od := by rw [hd']; exact hod
      hn := by rw [hp, len_setMaps]; exact h.hn
      fg := hf _ h.pb.lt h.fg, fw := hf _ h.wb.lt h.fw, fo := hf _ h.mb.lt h.fo
      fc := fun x hx => ⟨hf x (h.cr.lt x hx).2 (h.fc x hx).1, (h.fc x hx).2⟩
      wb := (hne2 q.bw hwg).trans hwb
      cr := hcr.kept (grownBy_set w1 ⟨q.g2, q.k * 5 + 4, none⟩ _) (by
        cases hv : q.cv.ownBlock with
        | none => exact .inl rfl
        | some x => exact .inr (fun e => (h.fc x hv).1.1 (by rw [e]; rfl)))
      mb := (hne2 q.bo hog).trans ((hT.block h.mb.lt (fun hr => (hn1 _ hr).2 rfl)).trans h.mb)
      chk := hchk, len := hlen, nx := hnx, low := hlow, hk := h.hk, hg := h.hg, hw := h.hw
      hb := by have := h.hb; have := hT.size; simp [World.setCell]; omega
      gw := h.gw, go_ := h.go_, wo := h.wo }
end Go.Proofs.YtcdfbpdejbpgjaaGreat

/- (*model.writer).take: the first free data block. Condition: the writer and its counts lie in memory of the call's own. -/
namespace Go.Proofs.YtcdfbpdejbpgjaaGreat
open Go.RowKit
attribute [local go_sem] Oper.semAt_some

set_option maxRecDepth 100000 in
set_option maxHeartbeats 3200000 in
theorem take_none (w : World) (base bw g g2 k : Nat) (Ac : Option Addr) (nc cc next : Nat) (m : Int) (cs : List Int) (hW : WBox w bw g g2 k Ac nc cc next m) (hC : w.ownsRow base 3 1 (.slice Ac nc cc) nc (flats encI cs)) (hn : cs.length = nc) (hne : (Value.slice Ac nc cc).ownBlock ≠ some bw)
    (hnx : next ≤ nc) (hf : freeAt cs = nc) (hnl : nc ≤ 65536) :
    Calls Tryz.prog 97 #[.pointer (some ⟨bw, 0, none⟩)] w fun e w' => e = .returned (.tuple #[.int .i64 0, .bool false]) ∧ WBox w' bw g g2 k Ac nc cc nc m ∧ Touch (fun x => x = bw) w w' := by
  have hpos : ∀ j, j < nc → 0 < nth 0 cs j := fun j hj => by
    have h := posK_below (f := fun x : Int => -x) (d := 0) (v := 0) (l := cs) j (by have : posK (fun x : Int => -x) 0 cs = nc := hf; omega)
    have h : -(nth 0 cs j) < 0 := h
    omega
  have HPOS := Lib.hid hpos
  have HC := Lib.hid hC
  have HN := Lib.hid hn
  have HW := Lib.hid hW
  clear hpos hC hn hW hf
  go_enter Tryz.func97, Tryz.ntmps97
  go_wp2_with fail
  go_loopg [4] (nc - next) (fun gk _ wr => ∃ t : Nat, t ≤ nc ∧ gk = nc - t ∧ WBox wr bw g g2 k Ac nc cc t m ∧ Touch (fun x => x = bw) w wr)
  case atStart => exact ⟨next, hnx, rfl, HW.out, Touch.refl⟩
  case round =>
    obtain ⟨t, ht, hgk, hWB, hT⟩ := hrel
    obtain ⟨x0, x1, x2, x3, x4⟩ := hWB.cells
    have hfr := hWB.free 3
    have HWB := Lib.hid hWB
    clear hWB
    by_cases hlt : t < nc
    · obtain ⟨gc, hAc⟩ : ∃ gc, Ac = some ⟨gc, 0, none⟩ := by
        obtain ⟨gc, c', hv, _⟩ := own_form HC.out (by omega)
        injection hv with e1
        exact ⟨gc, e1⟩
      subst hAc
      have hCr := own_touch HC.out hT (fun x hx e => hne (by rw [hx, e]))
      have z0 := ownI_cell hCr hlt HN.out
      have hp := HPOS.out t hlt
      generalize nth 0 cs t = ct at *
      have hti : (t : Int) < (nc : Int) := by omega
      have hti2 : decide ((t : Int) < (nc : Int)) = true := by simpa using hti
      have hct : decide (0 < ct) = true := by simpa using hp
      clear hCr
      have HGK := Lib.hid hgk
      clear hgk
      go_wp2_with fail
      go_quiet (fail)
      rename_i nq _
      have hWq : WBox (wr.drewN nq) bw g g2 k (some ⟨gc, 0, none⟩) nc cc t m := HWB.out
      have hWq2 := hWq.next_ ((t : Int) + 1)
      have HW2 := Lib.hid hWq2
      clear hWq hWq2
      go_wp2_with fail
      go_roundg (nc - (t + 1))
      case measure => have := HGK.out; omega
      case rel =>
        refine ⟨t + 1, by omega, rfl, ?_, ?_⟩
        · exact HW2.out
        · exact (hT.trans (Touch.drewN _)).trans (Touch.set_ rfl)
    · obtain rfl : t = nc := by omega
      clear hgk
      have hti2 : decide ((t : Int) < (t : Int)) = false := by simp
      go_wp2_with fail
      go_quiet (fail)
      go_wp2_with fail
      go_quiet (fail)
      go_wp2_with fail
      go_ret2
      exact ⟨rfl, HWB.out, (hT.trans (Touch.drewN _)).trans (Touch.drewN _)⟩
set_option maxRecDepth 100000 in
set_option maxHeartbeats 3200000 in
theorem take_some (w : World) (base bw g g2 k gc : Nat) (nc cc next f : Nat) (m : Int) (cs : List Int) (hW : WBox w bw g g2 k (some ⟨gc, 0, none⟩) nc cc next m) (hC : w.ownsRow base 3 1 (.slice (some ⟨gc, 0, none⟩) nc cc) nc (flats encI cs)) (hn : cs.length = nc) (hne : gc ≠ bw)
    (hnx : next ≤ f) (hf : freeAt cs = f) (hfn : f < nc) (hlo : ∀ j, -1099511627776 ≤ nth 0 cs j) (hnl : nc ≤ 65536) :
    Calls Tryz.prog 97 #[.pointer (some ⟨bw, 0, none⟩)] w fun e w' => e = .returned (.tuple #[.int .i64 f, .bool true]) ∧ WBox w' bw g g2 k (some ⟨gc, 0, none⟩) nc cc f m ∧ w'.ownsRow base 3 1 (.slice (some ⟨gc, 0, none⟩) nc cc) nc (flats encI (cs.set f (nth 0 cs f + 1))) ∧ Touch (fun x => x = bw ∨ x = gc) w w' := by
  have hneg : nth 0 cs f ≤ 0 := by
    have h := posK_at (f := fun x : Int => -x) (d := 0) (v := 0) (l := cs) (by have : posK (fun x : Int => -x) 0 cs = f := hf; omega)
    have e : posK (fun x : Int => -x) 0 cs = f := hf
    rw [e] at h
    have h : 0 ≤ -(nth 0 cs f) := h
    omega
  have hlow : -1099511627776 ≤ nth 0 cs f := hlo f
  have hpos : ∀ j, j < f → 0 < nth 0 cs j := fun j hj => by
    have h := posK_below (f := fun x : Int => -x) (d := 0) (v := 0) (l := cs) j (by have : posK (fun x : Int => -x) 0 cs = f := hf; omega)
    have h : -(nth 0 cs j) < 0 := h
    omega
  have HPOS := Lib.hid hpos
  have HC := Lib.hid hC
  have HN := Lib.hid hn
  have HW := Lib.hid hW
  have HNG := Lib.hid hneg
  have HLW := Lib.hid hlow
  clear hpos hC hn hW hf hneg hlow hlo
  go_enter Tryz.func97, Tryz.ntmps97
  go_wp2_with fail
  go_loopg [4] (f - next) (fun gk _ wr => ∃ t : Nat, t ≤ f ∧ gk = f - t ∧ WBox wr bw g g2 k (some ⟨gc, 0, none⟩) nc cc t m ∧ Touch (fun x => x = bw) w wr)
  case atStart => exact ⟨next, hnx, rfl, HW.out, Touch.refl⟩
  case round =>
    obtain ⟨t, ht, hgk, hWB, hT⟩ := hrel
    obtain ⟨x0, x1, x2, x3, x4⟩ := hWB.cells
    have hfr := hWB.free 3
    have HWB := Lib.hid hWB
    clear hWB
    by_cases hlt : t < f
    · have hCr := own_touch HC.out hT (fun x hx e => hne (by simpa [Value.ownBlock, e] using hx))
      have z0 := ownI_cell hCr (show t < nc by omega) HN.out
      have hp := HPOS.out t hlt
      generalize nth 0 cs t = ct at *
      have hti : (t : Int) < (nc : Int) := by omega
      have hti2 : decide ((t : Int) < (nc : Int)) = true := by simpa using hti
      have hct : decide (0 < ct) = true := by simpa using hp
      clear hCr
      have HGK := Lib.hid hgk
      clear hgk
      go_wp2_with fail
      go_quiet (fail)
      rename_i nq _
      have hWq : WBox (wr.drewN nq) bw g g2 k (some ⟨gc, 0, none⟩) nc cc t m := HWB.out
      have hWq2 := hWq.next_ ((t : Int) + 1)
      have HW2 := Lib.hid hWq2
      clear hWq hWq2
      go_wp2_with fail
      go_roundg (f - (t + 1))
      case measure => have := HGK.out; omega
      case rel =>
        refine ⟨t + 1, by omega, rfl, ?_, ?_⟩
        · exact HW2.out
        · exact (hT.trans (Touch.drewN _)).trans (Touch.set_ rfl)
    · obtain rfl : t = f := by omega
      clear hgk
      have hCr := own_touch HC.out hT (fun x hx e => hne (by simpa [Value.ownBlock, e] using hx))
      have z0 := ownI_cell hCr hfn HN.out
      have z1 := hCr.frozenAt t
      have hng := HNG.out
      have hlw := HLW.out
      have HCR := Lib.hid hCr
      clear hCr
      generalize hct0 : nth 0 cs t = ct at *
      have HCT := Lib.hid hct0
      clear hct0
      have hti : (t : Int) < (nc : Int) := by omega
      have hti2 : decide ((t : Int) < (nc : Int)) = true := by simpa using hti
      have hct : decide (0 < ct) = false := by simpa using hng
      have hte : ((t : Int) == (nc : Int)) = false := by simp; omega
      go_wp2_with fail
      go_quiet (fail)
      have hT4 := hT.trans (Touch.drewN nq)
      have HW4 := Lib.hid (show WBox (wr.drewN nq) bw g g2 k (some ⟨gc, 0, none⟩) nc cc t m from HWB.out)
      have HC4 := Lib.hid (show (wr.drewN nq).ownsRow base 3 1 (.slice (some ⟨gc, 0, none⟩) nc cc) nc (flats encI cs) from HCR.out)
      have y0 : (wr.drewN nq).cell? ⟨gc, t, none⟩ = some (.int .i64 ct) := z0
      have y1 : (wr.drewN nq).frozen? ⟨gc, t, none⟩ = false := z1
      clear x0 x1 x2 x3 x4 z0 z1 hT HWB HCR hfr
      generalize wr.drewN nq = w4 at *
      obtain ⟨x0, x1, x2, x3, x4⟩ := HW4.out.cells
      go_wp2_with fail
      go_quiet (fail)
      have hT5 := hT4.trans (Touch.drewN nq)
      have HW5 := Lib.hid (show WBox (w4.drewN nq) bw g g2 k (some ⟨gc, 0, none⟩) nc cc t m from HW4.out)
      have HC5 := Lib.hid (show (w4.drewN nq).ownsRow base 3 1 (.slice (some ⟨gc, 0, none⟩) nc cc) nc (flats encI cs) from HC4.out)
      have z0 : (w4.drewN nq).cell? ⟨gc, t, none⟩ = some (.int .i64 ct) := y0
      have z1 : (w4.drewN nq).frozen? ⟨gc, t, none⟩ = false := y1
      clear x0 x1 x2 x3 x4 y0 y1 hT4 HW4 HC4
      generalize w4.drewN nq = w5 at *
      have hw5 := HW5.out
      have hsum : IntKind.i64.wrap (ct + 1) = ct + 1 := IntWalk.i64_in _ (by omega)
      have HWS := Lib.hid (show WBox (w5.setCell ⟨gc, t, none⟩ (.int .i64 (ct + 1))) bw g g2 k (some ⟨gc, 0, none⟩) nc cc t m from (Below.heap_setCell w5 ⟨gc, t, none⟩ _ bw (by show bw ≠ gc; omega)).trans hw5)
      go_wp2_with fail
      refine wp_region_till (T := fun j => j == 12) (S := fun w' => WBox w' bw g g2 k (some ⟨gc, 0, none⟩) nc cc t m ∧ w'.cell? ⟨gc, t, none⟩ = some (.int .i64 ct)) (by kernel_rfl) (⟨hw5, z0⟩) (fun hHeld => ?_)
      refine wpTill_put 0 44 (oi := _) (v := ?_) rfl rfl (by kernel_rfl) (by kernel_rfl) (by kernel_rfl) (by kernel_rfl) (fun _ _ _ h => h) (by rfl) hHeld ?_ ?_
      rotate_left
      · (intro w hSw; go_simp; (try with_reducible rfl))
      (try simp only [Act.put, List.setIfInBounds_toArray, List.set_cons_zero, List.set_cons_succ])
      refine wpTill_put 1 45 (oi := _) (v := ?_) rfl rfl (by kernel_rfl) (by kernel_rfl) (by kernel_rfl) (by kernel_rfl) (fun _ _ _ h => h) (by rfl) hHeld ?_ ?_
      rotate_left
      · (intro w hSw; go_simp; (try with_reducible rfl))
      (try simp only [Act.put, List.setIfInBounds_toArray, List.set_cons_zero, List.set_cons_succ])
      refine wpTill_put 2 46 (oi := _) (v := ?_) rfl rfl (by kernel_rfl) (by kernel_rfl) (by kernel_rfl) (by kernel_rfl) (fun _ _ _ h => h) (by rfl) hHeld ?_ ?_
      rotate_left
      · (intro w hSw; go_simp; (try with_reducible rfl))
      (try simp only [Act.put, List.setIfInBounds_toArray, List.set_cons_zero, List.set_cons_succ])
      refine wpTill_put 3 47 (oi := _) (v := ?_) rfl rfl (by kernel_rfl) (by kernel_rfl) (by kernel_rfl) (by kernel_rfl) (fun _ _ _ h => h) (by rfl) hHeld ?_ ?_
      rotate_left
      · (intro w hSw; obtain ⟨l0, l1, l2, l3, l4⟩ := WBox.cells hSw.1; go_simp; (try with_reducible rfl))
      (try simp only [Act.put, List.setIfInBounds_toArray, List.set_cons_zero, List.set_cons_succ])
      refine wpTill_put 4 48 (oi := _) (v := ?_) rfl rfl (by kernel_rfl) (by kernel_rfl) (by kernel_rfl) (by kernel_rfl) (fun _ _ _ h => h) (by rfl) hHeld ?_ ?_
      rotate_left
      · (intro w hSw; go_simp; (try with_reducible rfl))
      (try simp only [Act.put, List.setIfInBounds_toArray, List.set_cons_zero, List.set_cons_succ])
      refine wpTill_put 5 49 (oi := _) (v := ?_) rfl rfl (by kernel_rfl) (by kernel_rfl) (by kernel_rfl) (by kernel_rfl) (fun _ _ _ h => h) (by rfl) hHeld ?_ ?_
      rotate_left
      · (intro w hSw; go_simp; (try with_reducible rfl))
      (try simp only [Act.put, List.setIfInBounds_toArray, List.set_cons_zero, List.set_cons_succ])
      refine wpTill_put 6 50 (oi := _) (v := ?_) rfl rfl (by kernel_rfl) (by kernel_rfl) (by kernel_rfl) (by kernel_rfl) (fun _ _ _ h => h) (by rfl) hHeld ?_ ?_
      rotate_left
      · (intro w hSw; go_simp; (try with_reducible rfl))
      (try simp only [Act.put, List.setIfInBounds_toArray, List.set_cons_zero, List.set_cons_succ])
      refine wpTill_put 7 51 (oi := _) (v := ?_) rfl rfl (by kernel_rfl) (by kernel_rfl) (by kernel_rfl) (by kernel_rfl) (fun _ _ _ h => h) (by rfl) hHeld ?_ ?_
      rotate_left
      · (intro w hSw; obtain ⟨l0, l1, l2, l3, l4⟩ := WBox.cells hSw.1; go_simp; (try with_reducible rfl))
      (try simp only [Act.put, List.setIfInBounds_toArray, List.set_cons_zero, List.set_cons_succ])
      refine wpTill_put 8 52 (oi := _) (v := ?_) rfl rfl (by kernel_rfl) (by kernel_rfl) (by kernel_rfl) (by kernel_rfl) (fun _ _ _ h => h) (by rfl) hHeld ?_ ?_
      rotate_left
      · (intro w hSw; go_simp; (try with_reducible rfl))
      (try simp only [Act.put, List.setIfInBounds_toArray, List.set_cons_zero, List.set_cons_succ])
      refine wpTill_put 9 53 (oi := _) (v := ?_) rfl rfl (by kernel_rfl) (by kernel_rfl) (by kernel_rfl) (by kernel_rfl) (fun _ _ _ h => h) (by rfl) hHeld ?_ ?_
      rotate_left
      · (intro w hSw; have l5 := hSw.2; go_simp; (try with_reducible rfl))
      (try simp only [Act.put, List.setIfInBounds_toArray, List.set_cons_zero, List.set_cons_succ])
      refine wpTill_put 10 54 (oi := _) (v := ?_) rfl rfl (by kernel_rfl) (by kernel_rfl) (by kernel_rfl) (by kernel_rfl) (fun _ _ _ h => h) (by rfl) hHeld ?_ ?_
      rotate_left
      · (intro w hSw; go_simp; (try with_reducible rfl))
      (try simp only [Act.put, List.setIfInBounds_toArray, List.set_cons_zero, List.set_cons_succ])
      refine wpTill_put 11 55 (oi := _) (v := ?_) rfl rfl (by kernel_rfl) (by kernel_rfl) (by kernel_rfl) (by kernel_rfl) (fun _ _ _ h => h) (by rfl) hHeld ?_ ?_
      rotate_left
      · (intro w hSw; go_simp; (try with_reducible rfl))
      (try simp only [Act.put, List.setIfInBounds_toArray, List.set_cons_zero, List.set_cons_succ])
      refine wpTill_one 12 (o := _) (by kernel_rfl) rfl (fun K hK => ?_)
      go_simp
      refine hK.out _ _ (fun h => by cases h) (fun _ => ?_)
      clear hK K hHeld
      (try simp only [Act.put, List.setIfInBounds_toArray])
      refine wpTill_done (by kernel_rfl) ?_ _
      obtain ⟨x0, x1, x2, x3, x4⟩ := HWS.out.cells
      go_wp2_with fail
      go_ret2
      exact ⟨rfl, HWS.out, by rw [HCT.out]; exact (ownI_set HC5.out (ct + 1)).drew, ((Touch.weak hT5 (fun _ h => .inl h)).trans (Touch.set_ (p := ⟨gc, t, none⟩) (.inr rfl))).trans Touch.drew⟩
end Go.Proofs.YtcdfbpdejbpgjaaGreat

/- slices.BinarySearchFunc at mappings, by (*model.writer).write's own order: where a virtual block stands. Condition: the mappings are in order. -/
namespace Go.Proofs.YtcdfbpdejbpgjaaGreat
open Go.RowKit
attribute [local go_sem] Oper.semAt_some

theorem ordM_any (w : World) (x : Mp) (v : Int) : Calls Tryz.prog 96 #[.agg #[.int .i64 x.v, .int .i64 x.b, .int .i64 x.t], .int .i64 v] w fun e w' =>
    e = .returned (.int .i64 (cmpI x.v v)) ∧ Below w.heap.size w w' := by
  have hc := fun w' => cmp_any w' x.v v
  generalize cmpI x.v v = r at *
  go_enter Tryz.func96, Tryz.ntmps96
  go_wp2_with (go_at_call 40; refine (hc _).mono ?_; rintro e w' ⟨rfl, rfl⟩)
  go_ret
  exact ⟨rfl, (Below.refl _ _).alloc (Nat.le_refl _) _⟩
def SrchM (l : List Mp) (v : Int) (w : World) (e : Ending) (w' : World) : Prop := e = .returned (.tuple #[.int .i64 (posK Mp.v v l : Nat), .bool (hasK Mp.v v l)]) ∧ Below w.heap.size w w'
set_option maxRecDepth 100000 in
set_option maxHeartbeats 3200000 in
theorem srchM_any (w : World) (S : Nat → Prop) (v : Value) (l : List Mp) (x : Int) (hS : ∀ b, S b → b < w.heap.size) (h : IsMaps w S v l) (hl1 : l.length ≤ 140737488355328) (hi : IncK Mp.v mp0 l) :
    Calls Tryz.prog 95 #[v, .int .i64 x, .func (.func 96) #[] #[]] w (SrchM l x w) := by
  obtain ⟨A, c, rfl, hc, hr⟩ := h
  have HC := Lib.hid (fun hp => maps_cells hr hp)
  have HI := Lib.hid hi
  clear hr hi
  generalize hnn : l.length = n at *
  have HN := Lib.hid hnn
  clear hnn
  go_enter Tryz.func95, Tryz.ntmps95
  go_wp2_with fail
  go_loopw [9, 10] (fun i j wr => ∃ p q : Nat, i = .int .i64 p ∧ j = .int .i64 q ∧ p ≤ q ∧ q ≤ n ∧ (∀ k, k < p → (nth mp0 l k).v < x) ∧ (∀ k, q ≤ k → k < n → x ≤ (nth mp0 l k).v) ∧ Below w.heap.size w wr) (fun i j _ => (intOf j).toNat - (intOf i).toNat)
  case atStart => exact ⟨0, n, rfl, rfl, by omega, by omega, fun k hk => by omega, fun k h1 h2 => by omega, Below.refl _ _⟩
  case round =>
    obtain ⟨p, q, rfl, rfl, hpq, hqn, hlo, hhi, hB⟩ := hrel
    have HLO := Lib.hid hlo
    have HHI := Lib.hid hhi
    have hz := hB.size
    clear hlo hhi
    by_cases hlt : p < q
    · obtain ⟨m, hm⟩ : ∃ m : Nat, m = (p + q) / 2 := ⟨_, rfl⟩
      have hmp : p ≤ m := by omega
      have hmq : m < q := by omega
      obtain ⟨b, off, rfl, hbS, hcl⟩ := HC.out (by omega)
      have hb0 := hS b hbS
      obtain ⟨c0, c1, c2⟩ := hcl m (by omega)
      rw [← hB.cell (p := ⟨b, off + m * 3, none⟩) hb0] at c0
      rw [← hB.cell (p := ⟨b, off + m * 3 + 1, none⟩) hb0] at c1
      rw [← hB.cell (p := ⟨b, off + m * 3 + 2, none⟩) hb0] at c2
      clear hcl
      have hme : ((p : Int) + (q : Int)) / 2 = (m : Int) := by omega
      have hsum : (0 : Int) ≤ (p : Int) + (q : Int) := by omega
      have hsum2 : (p : Int) + (q : Int) ≤ 281474976710656 := by omega
      have hmn : (m : Int) < (n : Int) := by omega
      have HM := Lib.hid (show m < l.length by rw [HN.out]; omega)
      clear hm
      generalize hy : nth mp0 l m = y at *
      have HY := Lib.hid hy
      clear hy
      have HOR := Lib.hid (fun w' => ordM_any w' y x)
      have hsg := cmpI_lt (a := y.v) (b := x)
      generalize cmpI y.v x = r at *
      by_cases hneg : r < 0
      · have HV := Lib.hid (hsg.1 hneg)
        clear hsg
        go_wp2_with (go_at_call 96; refine (HOR.out _).mono ?_; rintro e w5 ⟨rfl, hB5⟩)
        go_roundw
        case rel => exact ⟨m + 1, q, by go_num, rfl, by omega, hqn, fun k hk => (by rcases Nat.lt_or_ge k p with h | h; exact HLO.out k h; have := HI.out.mono (i := k) (j := m) (by omega) HM.out; rw [HY.out] at this; have := HV.out; omega), HHI.out, hB.trans (hB5.mono hz)⟩
        case measure => simp [intOf]; omega
      · have HV := Lib.hid (Int.not_lt.1 fun h => hneg (hsg.2 h))
        clear hsg
        go_wp2_with (go_at_call 96; refine (HOR.out _).mono ?_; rintro e w5 ⟨rfl, hB5⟩)
        go_roundw
        case rel => exact ⟨p, m, rfl, rfl, by omega, by omega, HLO.out, fun k h1 h2 => (by have := HI.out.mono (i := m) (j := k) h1 (by rw [HN.out]; exact h2); rw [HY.out] at this; have := HV.out; omega), hB.trans (hB5.mono hz)⟩
        case measure => simp [intOf]; omega
    · obtain rfl : p = q := by omega
      have hpt : p = posK Mp.v x l := posK_of (d := mp0) (by rw [HN.out]; exact hqn) HLO.out (fun h2 => HHI.out p (Nat.le_refl _) (by rw [HN.out] at h2; exact h2))
      have hha := hasK_pos (v := x) HI.out
      rw [← hpt] at hha
      have HPT := Lib.hid hpt
      clear hpt
      by_cases hpn : p < n
      · have hpi : decide ((p : Int) < (n : Int)) = true := by simp; omega
        obtain ⟨b, off, rfl, hbS, hcl⟩ := HC.out (by omega)
        have hb0 := hS b hbS
        obtain ⟨c0, c1, c2⟩ := hcl p (by omega)
        rw [← hB.cell (p := ⟨b, off + p * 3, none⟩) hb0] at c0
        rw [← hB.cell (p := ⟨b, off + p * 3 + 1, none⟩) hb0] at c1
        rw [← hB.cell (p := ⟨b, off + p * 3 + 2, none⟩) hb0] at c2
        clear hcl
        have hpl : p < l.length := by rw [HN.out]; omega
        generalize hy : nth mp0 l p = y at *
        have hhb : hasK Mp.v x l = (cmpI y.v x == 0) := by
          rw [hha, Bool.eq_iff_iff, decide_eq_true_eq, beq_iff_eq, cmpI_eq]
          exact ⟨fun h => h.2, fun h => ⟨hpl, h⟩⟩
        have HHB := Lib.hid hhb
        clear hy hha hhb hpl
        have HOR := Lib.hid (fun w' => ordM_any w' y x)
        generalize cmpI y.v x = r at *
        go_wp2_with (go_at_call 96; refine (HOR.out _).mono ?_; rintro e w5 ⟨rfl, hB5⟩)
        go_ret2
        exact ⟨by rw [HHB.out, ← HPT.out]; rfl, hB.trans (hB5.mono hz)⟩
      · have hpi : decide ((p : Int) < (n : Int)) = false := by simp; omega
        have hhb : hasK Mp.v x l = false := by rw [hha]; simp [HN.out]; omega
        have HHB := Lib.hid hhb
        clear hha hhb
        go_wp2_with fail
        go_ret2
        exact ⟨by rw [HHB.out, ← HPT.out]; rfl, hB⟩
end Go.Proofs.YtcdfbpdejbpgjaaGreat

/- slices.Insert at mappings: one element, from a block of its own, into a row of the call's own. Condition: the row is within the reach. -/
namespace Go.Proofs.YtcdfbpdejbpgjaaGreat
open Go.RowKit Go.Shelf
attribute [local go_sem] Oper.semAt_some

/-- What slices.Insert leaves of a row of mappings. -/
def InsM (w : World) (base : Nat) (v : Value) (n i : Nat) (xs new : List Value) (e : Ending) (w' : World) : Prop :=
  ∃ g c, e = .returned (.slice (some ⟨g, 0, none⟩) (n + 1) c) ∧ w'.ownsRow base 40 3 (.slice (some ⟨g, 0, none⟩) (n + 1) c) (n + 1) (insC xs (i * 3) new) ∧ w.grownBy w' v.ownBlock ∧ (v.ownBlock = some g ∨ g = w.heap.size)
set_option maxRecDepth 100000 in
set_option maxHeartbeats 1600000 in
theorem insM_end (w : World) (base : Nat) (v : Value) (n vb : Nat) (xs new : List Value) (h : w.ownsRow base 40 3 v n xs) (hn : n ≤ 1099511627776) (hb : base ≤ w.heap.size) (hx : w.heap[vb]? = some (.cells new.toArray 40 (0, 0))) (hl : new.length = 3) (h1 : ∀ u ∈ new, u.oneCell' = true) :
    Calls Tryz.prog 98 #[v, .int .i64 n, .slice (some ⟨vb, 0, none⟩) 1 1] w (InsM w base v n n xs new) := by
  obtain ⟨i0, hi0, hz0, hz1, hz2⟩ := info_parts info_map
  have hnew : ∀ j u, new[j]? = some u → w.cell? ((⟨vb, 0, none⟩ : Addr).add j) = some u := fun j u hj => by
    rw [Addr.add_lit, Nat.zero_add]
    simp [World.cell?, hx, hj]
  have hxl := own_len h
  have hown := Lib.hid h
  have HI := Lib.hid (insC_end (o := n * 3) hxl new)
  obtain ⟨A, c, rfl, hnc⟩ := own_form0 h
  have hA : A = none → n = 0 ∧ c = 0 := fun e => by
    rcases h.2 with ⟨h, h0⟩ | ⟨_, _, _, h, _⟩
    · injection h with _ h2 h3
      exact ⟨h2, h3⟩
    · rw [e] at h; injection h with h; cases h
  clear h hxl hx
  cases A with
  | none =>
    obtain ⟨rfl, rfl⟩ := hA rfl
    go_enter Tryz.func98, Tryz.ntmps98
    go_wp2_with (at_builtin; refine wpList_append_lies _ rfl _ _ 34 rfl base 40 i0 _ 3 24 Tryz.underlying34 hi0 hz0 hz1 hz2 rfl (by omega) _ 0 xs rfl hown.out ⟨vb, 0, none⟩ 1 1 new rfl (by omega) hnew h1 (by omega) (by unfold maxLen; omega) (by omega) hb _ rfl ?_; intro g' c' w1 hown1 hgrow hat hlt)
    go_ret
    exact ⟨g', c', rfl, by rw [HI.out]; simpa using hown1, hgrow, hat⟩
  | some a =>
    clear hA
    go_enter Tryz.func98, Tryz.ntmps98
    go_wp2_with (at_builtin; refine wpList_append_lies _ rfl _ _ 34 rfl base 40 i0 _ 3 24 Tryz.underlying34 hi0 hz0 hz1 hz2 rfl (by omega) _ n xs rfl hown.out ⟨vb, 0, none⟩ 1 1 new rfl (by omega) hnew h1 (by omega) (by unfold maxLen; omega) (by omega) hb _ rfl ?_; intro g' c' w1 hown1 hgrow hat hlt)
    all_goals
      go_ret
      exact ⟨g', c', rfl, by rw [HI.out]; exact hown1, hgrow, hat⟩
set_option maxRecDepth 100000 in
set_option maxHeartbeats 3200000 in
theorem insM_room (w : World) (base g c : Nat) (n i vb : Nat) (xs new : List Value) (h : w.ownsRow base 40 3 (.slice (some ⟨g, 0, none⟩) n c) n xs) (hi : i < n) (hroom : n + 1 ≤ c) (hx : w.heap[vb]? = some (.cells new.toArray 40 (0, 0))) (hvb : vb ≠ g) (hl : new.length = 3) (h1 : ∀ u ∈ new, u.oneCell' = true) (h1x : ∀ u ∈ xs, u.oneCell' = true) :
    Calls Tryz.prog 98 #[.slice (some ⟨g, 0, none⟩) n c, .int .i64 i, .slice (some ⟨vb, 0, none⟩) 1 1] w (InsM w base (.slice (some ⟨g, 0, none⟩) n c) n i xs new) := by
  obtain ⟨cur, hbg, hg, hnc, hcm, hcs, htk⟩ := own_open h
  have hlc := own_len h
  unfold maxLen at hcm
  have hsz : (Tryz.prog.info? 40).map (·.size) = some 3 := by kernel_rfl
  have hso : ∀ w, (Go.sizeOf 40).run Tryz.prog w = .ok 3 w := fun _ => by kernel_rfl
  have hov : ∀ lb cb, (callFunc 107 #[.slice (some ⟨vb, 0, none⟩) 1 1, .slice (some ⟨g, (i + 1) * 3, none⟩) lb cb]).run Tryz.prog w = .ok (.value (.bool false)) w := fun lb cb => by
    rw [run_callFunc_extern (fn := Tryz.f107) (by kernel_rfl) (by kernel_rfl) (by kernel_rfl) (by kernel_rfl) (e := Extern.SlicesOverlaps.overlaps #[34, 34] #[4]) (by kernel_rfl),
      Lib.run_overlaps_apart w 34 4 40 Tryz.underlying34 3 hso ⟨vb, 0, none⟩ ⟨g, (i + 1) * 3, none⟩ 1 1 lb cb hvb 40 40 3 (c * 3) (by simp [World.shape?, hx, hl]) (by simp [World.shape?, hg, hcs]) (by omega) (by simp [World.frozen?, hx]) (by simp [World.frozen?, hx])]
    rfl
  obtain ⟨D, hD⟩ : ∃ D, D = xs.drop (i * 3) := ⟨_, rfl⟩
  have hDl : D.length = (n - i) * 3 := by rw [hD, List.length_drop, hlc]; omega
  have hDc : ∀ j u, D[j]? = some u → w.cell? ⟨g, i * 3 + j, none⟩ = some u := fun j u hj => by
    rw [h.cellAt _ (by
      have := (List.getElem?_eq_some_iff.1 hj).1
      rw [hD, List.length_drop] at this
      omega)]
    rwa [hD, List.getElem?_drop] at hj
  have hcp1 : ∀ ty dc sc, (Builtin.copy_ #[34, 34] ty #[.slice (some ⟨g, (i + 1) * 3, none⟩) (n - i) dc, .slice (some ⟨g, i * 3, none⟩) (n + 1 - i) sc]).run Tryz.prog w.drew = .ok (goInt ((n - i : Nat) : Int)) (w.drew.setRow g (splice cur.toList ((i + 1) * 3) D).toArray) := fun ty dc sc =>
    run_copy_rowK w.drew _ _ ty 40 3 g ((i + 1) * 3) (n - i) dc ⟨g, i * 3, none⟩ (n + 1 - i) sc (n - i) cur 40 D Tryz.underlying34 hsz hg (by simp only [Nat.min_def]; split <;> omega) hDl
      (fun j u hj => by rw [Addr.add_lit]; exact hDc j u hj) (by rw [hDl, hcs]; omega) (fun u hu => h1x u (by rw [hD] at hu; exact List.mem_of_mem_drop hu))
  obtain ⟨c1, hc1⟩ : ∃ c1 : Array Value, c1 = (splice cur.toList ((i + 1) * 3) D).toArray := ⟨_, rfl⟩
  rw [← hc1] at hcp1
  have hc1s : c1.size = c * 3 := by rw [hc1]; simp only [List.size_toArray]; rw [length_splice _ _ _ (by rw [hDl, Array.length_toList, hcs]; omega), Array.length_toList, hcs]
  have hg1 : (w.drew.setRow g c1).heap[g]? = some (.cells c1 40 (0, 0)) := setRow_heap w.drew g cur c1 _ (0, 0) hg
  have hx1 : ∀ j u, new[j]? = some u → (w.drew.setRow g c1).cell? ((⟨vb, 0, none⟩ : Addr).add j) = some u := fun j u hj => by
    rw [Addr.add_lit, Nat.zero_add]
    have e : (w.drew.setRow g c1).heap[vb]? = some (.cells new.toArray 40 (0, 0)) := (setRow_other w.drew g vb c1 hvb).trans hx
    simp [World.cell?, e, hj]
  have hcp2 : ∀ ty dc, (Builtin.copy_ #[34, 34] ty #[.slice (some ⟨g, i * 3, none⟩) (n + 1 - i) dc, .slice (some ⟨vb, 0, none⟩) 1 1]).run Tryz.prog (w.drew.setRow g c1) = .ok (goInt ((1 : Nat) : Int)) ((w.drew.setRow g c1).setRow g (splice c1.toList (i * 3) new).toArray) := fun ty dc =>
    run_copy_rowK (w.drew.setRow g c1) _ _ ty 40 3 g (i * 3) (n + 1 - i) dc ⟨vb, 0, none⟩ 1 1 1 c1 40 new Tryz.underlying34 hsz hg1 (by simp only [Nat.min_def]; split <;> omega) (by omega) hx1 (by rw [hl, hc1s]; omega) h1
  obtain ⟨f1, f2⟩ := insC_room (cur := cur.toList) (xs := xs) (new := new) (n := n) (i := i) (s := 3) (c := c) htk (by rw [Array.length_toList, hcs]) hl (by omega) hroom
  rw [← hD] at f1 f2
  have hfin : ((w.drew.setRow g c1).setRow g (splice c1.toList (i * 3) new).toArray).ownsRow base 40 3 (.slice (some ⟨g, 0, none⟩) (n + 1) c) (n + 1) (insC xs (i * 3) new) := by
    refine own_mk hbg (setRow_heap _ g c1 _ _ (0, 0) hg1) hroom (by unfold maxLen; omega) ?_ ?_
    · rw [hc1]; simp only [List.size_toArray]; exact f2
    · rw [hc1]; simp only; exact f1
  have hgr : w.grownBy ((w.drew.setRow g c1).setRow g (splice c1.toList (i * 3) new).toArray) (some g) := grown_trans (w1 := w.drew.setRow g c1) (grown_drewN (n := 1) (grown_setRow (w := w.drewN 1) g c1)) (grown_setRow g _)
  have HF := Lib.hid hfin
  have HG := Lib.hid hgr
  have hw1 : IntKind.i64.wrap ((i : Int) + 1) = (i : Int) + 1 := by rw [IntKind.wrap_i64]; omega
  have hb1 : (0 : Int) ≤ (i : Int) + 1 := by omega
  have htn : ((i : Int) + 1).toNat = i + 1 := by omega
  have hb2 : ¬ (c = i + 1) := by omega
  have hb3 : (i : Int) ≤ (n : Int) + 1 := by omega
  have hb4 : ¬ (c = i) := by omega
  have hin : i ≤ n := by omega
  have hz2 : ¬ ((i : Int) = (n : Int)) := by omega
  clear hfin hgr f1 f2 hx1 hg1 hc1s hc1 hDc hDl hD htk hcs hlc h hg hx hl h1 h1x hso hsz
  go_enter Tryz.func98, Tryz.ntmps98
  go_wp2_with (simp only [hov])
  go_region_law (refine step_copy_runI rfl _ _ 34 34 rfl _ _ (by simp [Act.eval, Act.put]) (by simp [Act.eval, Act.put]) (hcp1 _ _ _) ?_)
  go_wp2_with (at_builtin; refine wpList_copy_runI _ rfl _ _ 34 34 rfl _ _ rfl rfl (hcp2 _ _) ?_)
  go_ret
  exact ⟨g, c, rfl, HF.out, HG.out, .inl rfl⟩
set_option maxRecDepth 100000 in
set_option maxHeartbeats 3200000 in
theorem insM_grow (w : World) (base g c : Nat) (n i vb : Nat) (xs new : List Value) (h : w.ownsRow base 40 3 (.slice (some ⟨g, 0, none⟩) n c) n xs) (hi : i < n) (hroom : c < n + 1) (hn : n ≤ 1099511627776) (hb : base ≤ w.heap.size) (hx : w.heap[vb]? = some (.cells new.toArray 40 (0, 0))) (hl : new.length = 3) (h1 : ∀ u ∈ new, u.oneCell' = true) (h1x : ∀ u ∈ xs, u.oneCell' = true) :
    Calls Tryz.prog 98 #[.slice (some ⟨g, 0, none⟩) n c, .int .i64 i, .slice (some ⟨vb, 0, none⟩) 1 1] w (InsM w base (.slice (some ⟨g, 0, none⟩) n c) n i xs new) := by
  obtain ⟨cur, hbg, hg, hnc, hcm, hcs, htk⟩ := own_open h
  have hlc := own_len h
  unfold maxLen at hcm
  obtain ⟨i0, hi0, hz0, hzs, hzb⟩ := info_parts info_map
  have hsz : (Tryz.prog.info? 40).map (·.size) = some 3 := by kernel_rfl
  have hgw : g < w.heap.size := (Array.getElem?_eq_some_iff.1 hg).1
  have hvw : vb < w.heap.size := (Array.getElem?_eq_some_iff.1 hx).1
  obtain ⟨X, hX⟩ : ∃ X, X = xs.take (i * 3) := ⟨_, rfl⟩
  have hXl : X.length = i * 3 := by rw [hX, List.length_take, hlc]; omega
  have hkk : (n : Int) + 1 - (i : Int) = ((n + 1 - i : Nat) : Int) := by omega
  have hik : i + (n + 1 - i) = n + 1 := by omega
  have hold : (Builtin.firstCells i0.size i (.slice (some ⟨g, 0, none⟩) i c)).run Tryz.prog w.drew = .ok X.toArray w.drew := by
    rw [hzs]
    exact run_firstCells_some w.drew 3 i ⟨g, 0, none⟩ i c X (by rw [hXl]) (fun j u hj => by
      rw [Addr.add_lit, Nat.zero_add]
      rw [hX, List.getElem?_take] at hj
      split at hj
      · show w.cell? _ = _
        rw [h.cellAt _ (by omega)]; exact hj
      · cases hj)
  obtain ⟨z, hz⟩ : ∃ z : Value, z = .agg #[.int .i64 0, .int .i64 0, .int .i64 0] := ⟨_, rfl⟩
  have hzl : z.cells.size = 3 := by rw [hz]; rfl
  rw [← hz] at hz0
  obtain ⟨G, hG⟩ : ∃ G, G = grownCap w (n + 1) c 40 := ⟨_, rfl⟩
  obtain ⟨ROW, hROW⟩ : ∃ ROW : Array Value, ROW = X.toArray ++ Builtin.zeroCells z.cells (n + 1 - i) ++ Builtin.zeroCells z.cells (G - (n + 1)) := ⟨_, rfl⟩
  have hrz : ∀ ty, (Builtin.append_ #[34, 3] ty #[.slice (some ⟨g, 0, none⟩) i c, .int .i64 ((n : Int) + 1 - (i : Int))]).run Tryz.prog w =
      .ok (.slice (some ⟨w.heap.size, 0, none⟩) (n + 1) G) (w.drew.alloc (.cells ROW 40)) := fun ty => by
    have h := Lib.run_append_grow_zeros (P := Tryz.prog) w 34 3 ty 40 i0 z .i64 .i64 Tryz.underlying34 Tryz.underlying3 hi0 hz0 (some ⟨g, 0, none⟩) i c X hold (n + 1 - i) (by omega) (by omega) (by omega) (by omega) (by rw [hzb]; omega) (by rw [hzb, hik]; exact growslice_fits hroom (by omega))
    rw [hik, ← hG, ← hROW] at h
    rw [hkk]
    exact h
  have hGn : n + 1 ≤ G := by rw [hG]; exact grownCap_ge w _ _ _
  have hG63 : G ≤ 9223372036854775807 := by
    have := grownCap_le_maxLen w (n + 1) c 40 (by unfold maxLen; omega)
    rw [← hG] at this
    unfold maxLen at this
    omega
  have hRs : ROW.size = G * 3 := by
    rw [hROW]
    simp [Builtin.zeroCells, hzl, hXl]
    omega
  have hRt : ROW.toList.take (i * 3) = X := by
    rw [hROW]
    simp only [Array.toList_append, List.append_assoc]
    rw [List.take_append_of_le_length (by omega), List.take_of_length_le (by omega)]
  obtain ⟨W1, hW1⟩ : ∃ W1, W1 = w.drew.alloc (.cells ROW 40) := ⟨_, rfl⟩
  obtain ⟨H, hH⟩ : ∃ H, H = w.heap.size := ⟨_, rfl⟩
  have hgH : g ≠ H := by omega
  have hvH : vb ≠ H := by omega
  have hN : W1.heap[H]? = some (.cells ROW 40 (0, 0)) := by rw [hW1, hH]; exact heap_alloc_new w.drew _
  have hO : ∀ b, b < w.heap.size → W1.heap[b]? = w.heap[b]? := fun b hb' => by rw [hW1]; exact Below.heap_alloc w.drew _ b hb'
  have hx1 : W1.heap[vb]? = some (.cells new.toArray 40 (0, 0)) := (hO vb hvw).trans hx
  have hg1 : W1.heap[g]? = some (.cells cur 40 (0, 0)) := (hO g hgw).trans hg
  have hgr0 : w.grownBy W1 (some g) := by rw [hW1]; exact ⟨rfl, rfl, rfl, by simp, fun k hk _ => Below.heap_alloc w.drew _ k hk⟩
  rw [← hW1, ← hH] at hrz
  have hcpA : ∀ ty dc, (Builtin.copy_ #[34, 34] ty #[.slice (some ⟨H, i * 3, none⟩) (n + 1 - i) dc, .slice (some ⟨vb, 0, none⟩) 1 1]).run Tryz.prog W1 = .ok (goInt ((1 : Nat) : Int)) (W1.setRow H (splice ROW.toList (i * 3) new).toArray) := fun ty dc =>
    run_copy_rowK W1 _ _ ty 40 3 H (i * 3) (n + 1 - i) dc ⟨vb, 0, none⟩ 1 1 1 ROW 40 new Tryz.underlying34 hsz hN (by simp only [Nat.min_def]; split <;> omega) (by omega)
      (fun j u hj => by rw [Addr.add_lit, Nat.zero_add]; simp [World.cell?, hx1, hj]) (by rw [hl, hRs]; omega) h1
  obtain ⟨c1, hc1⟩ : ∃ c1 : Array Value, c1 = (splice ROW.toList (i * 3) new).toArray := ⟨_, rfl⟩
  rw [← hc1] at hcpA
  have hc1s : c1.size = G * 3 := by rw [hc1]; simp only [List.size_toArray]; rw [length_splice _ _ _ (by rw [hl, Array.length_toList, hRs]; omega), Array.length_toList, hRs]
  obtain ⟨W2, hW2⟩ : ∃ W2, W2 = W1.setRow H c1 := ⟨_, rfl⟩
  rw [← hW2] at hcpA
  have hN2 : W2.heap[H]? = some (.cells c1 40 (0, 0)) := by rw [hW2]; exact setRow_heap W1 H ROW c1 _ (0, 0) hN
  have hg2 : W2.heap[g]? = some (.cells cur 40 (0, 0)) := by rw [hW2]; exact (setRow_other W1 H g c1 hgH).trans hg1
  have hgr2 : w.grownBy W2 (some g) := by
    rw [hW2]
    exact ⟨hgr0.os, hgr0.tape, hgr0.output, by rw [setRow_size]; exact hgr0.size, fun k hk hne => (setRow_other W1 H k c1 (by omega)).trans (hgr0.block k hk hne)⟩
  obtain ⟨D, hD⟩ : ∃ D, D = xs.drop (i * 3) := ⟨_, rfl⟩
  have hDl : D.length = (n - i) * 3 := by rw [hD, List.length_drop, hlc]; omega
  have hxc : ∀ j, j < n * 3 → cur[j]? = xs[j]? := fun j hj => by
    rw [← htk, List.getElem?_take, if_pos hj, Array.getElem?_toList]
  have hDc : ∀ j u, D[j]? = some u → W2.cell? ⟨g, i * 3 + j, none⟩ = some u := fun j u hj => by
    have hlt := (List.getElem?_eq_some_iff.1 hj).1
    rw [hD, List.length_drop] at hlt
    have : cur[i * 3 + j]? = some u := by
      rw [hxc _ (by omega)]
      rwa [hD, List.getElem?_drop] at hj
    simp [World.cell?, hg2, this]
  have hcpB : ∀ ty dc sc, (Builtin.copy_ #[34, 34] ty #[.slice (some ⟨H, (i + 1) * 3, none⟩) (n - i) dc, .slice (some ⟨g, i * 3, none⟩) (n - i) sc]).run Tryz.prog W2.drew = .ok (goInt ((n - i : Nat) : Int)) (W2.drew.setRow H (splice c1.toList ((i + 1) * 3) D).toArray) := fun ty dc sc =>
    run_copy_rowK W2.drew _ _ ty 40 3 H ((i + 1) * 3) (n - i) dc ⟨g, i * 3, none⟩ (n - i) sc (n - i) c1 40 D Tryz.underlying34 hsz hN2 (by simp) hDl
      (fun j u hj => by rw [Addr.add_lit]; exact hDc j u hj) (by rw [hDl, hc1s]; omega) (fun u hu => h1x u (by rw [hD] at hu; exact List.mem_of_mem_drop hu))
  obtain ⟨f1, f2⟩ := insC_new (row := ROW.toList) (xs := xs) (new := new) (n := n) (i := i) (s := 3) (c := G) (by rw [hRt, hX]) hlc (by rw [Array.length_toList, hRs]) hl (by omega) hGn
  rw [← hD] at f1 f2
  have hfin : (W2.drew.setRow H (splice c1.toList ((i + 1) * 3) D).toArray).ownsRow base 40 3 (.slice (some ⟨H, 0, none⟩) (n + 1) G) (n + 1) (insC xs (i * 3) new) := by
    refine own_mk (by omega) (setRow_heap _ H c1 _ _ (0, 0) hN2) hGn (by unfold maxLen; omega) ?_ ?_
    · rw [hc1]; simp only [List.size_toArray]; exact f2
    · rw [hc1]; simp only; exact f1
  have hgr : w.grownBy (W2.drew.setRow H (splice c1.toList ((i + 1) * 3) D).toArray) (some g) :=
    ⟨hgr2.os, hgr2.tape, hgr2.output, by rw [setRow_size]; exact hgr2.size, fun k hk hne => (setRow_other W2.drew H k _ (by omega)).trans (hgr2.block k hk hne)⟩
  have HF := Lib.hid hfin
  have HG := Lib.hid hgr
  have HH := Lib.hid hH
  have hw1 : IntKind.i64.wrap ((i : Int) + 1) = (i : Int) + 1 := by rw [IntKind.wrap_i64]; omega
  have hb1 : (0 : Int) ≤ (i : Int) + 1 := by omega
  have htn : ((i : Int) + 1).toNat = i + 1 := by omega
  have hGi : ¬ (G = i) := by omega
  have hGim : ¬ (G = i + 1) := by omega
  have hb3 : (i : Int) ≤ (n : Int) := by omega
  have hb4 : ¬ (c = i) := by omega
  have hin : i ≤ n := by omega
  have hz2 : ¬ ((i : Int) = (n : Int)) := by omega
  have hz3 : (c : Int) < (n : Int) + 1 := by omega
  clear hfin hgr f1 f2 hDc hDl hD hxc hgr2 hg2 hN2 hW2 hc1s hc1 hgr0 hg1 hx1 hO hN hW1 hRt hRs hROW hG hz hzl hz0 hold hkk hik hX hXl htk hcs hlc h hg hx hl h1 h1x hsz hi0 hzs hzb hH hgH hvH hgw hvw hbg hb
  go_enter Tryz.func98, Tryz.ntmps98
  go_wp2_with (first
    | (at_builtin; refine Lib.wpList_append_run _ rfl _ _ _ _ rfl _ _ rfl rfl _ _ (hrz _) ?_)
    | (at_builtin; refine wpList_copy_runI _ rfl _ _ 34 34 rfl _ _ rfl rfl (hcpA _ _) ?_))
  go_region_law (refine step_copy_runI rfl _ _ 34 34 rfl _ _ (by simp [Act.eval, Act.put]) (by simp [Act.eval, Act.put]) (hcpB _ _ _) ?_)
  go_wp2_with fail
  go_ret
  exact ⟨H, G, rfl, HF.out, HG.out, .inr HH.out⟩
theorem insM_any (w : World) (base : Nat) (v : Value) (n i vb : Nat) (xs new : List Value) (h : w.ownsRow base 40 3 v n xs) (hi : i ≤ n) (hn : n ≤ 1099511627776) (hb : base ≤ w.heap.size) (hx : w.heap[vb]? = some (.cells new.toArray 40 (0, 0))) (hvb : v.ownBlock ≠ some vb) (hl : new.length = 3) (h1 : ∀ u ∈ new, u.oneCell' = true) (h1x : ∀ u ∈ xs, u.oneCell' = true) :
    Calls Tryz.prog 98 #[v, .int .i64 i, .slice (some ⟨vb, 0, none⟩) 1 1] w (InsM w base v n i xs new) := by
  rcases Nat.lt_or_ge i n with hlt | hge
  · obtain ⟨g, c, rfl, _, _, _⟩ := own_form h (by omega)
    have hvg : vb ≠ g := fun e => hvb (by rw [e]; rfl)
    rcases Nat.lt_or_ge c (n + 1) with hc | hc
    · exact insM_grow w base g c n i vb xs new h hlt hc hn hb hx hl h1 h1x
    · exact insM_room w base g c n i vb xs new h hlt hc hx hvg hl h1 h1x
  · obtain rfl : i = n := by omega
    exact insM_end w base v i vb xs new h hn hb hx hl h1
end Go.Proofs.YtcdfbpdejbpgjaaGreat

/- (*model.writer).write: one virtual block. Condition: the writer's state holds. -/
namespace Go.Proofs.YtcdfbpdejbpgjaaGreat
open Go.RowKit
attribute [local go_sem] Oper.semAt_some

/-- What the search finds, in every world that is as w but for new blocks. -/
theorem WSt.srch {w : World} {q : Wp} {p : Pool} {M : Nat → Value} {next : Nat} (h : WSt w q p M next) (v : Int) :
    ∃ Am cm, M q.k = .slice Am (mapsOf p q.k).length cm ∧ (mapsOf p q.k).length ≤ cm ∧ (mapsOf p q.k).length ≤ 16384 ∧
      Calls Tryz.prog 95 #[.slice Am (mapsOf p q.k).length cm, .int .i64 v, .func (.func 96) #[] #[]] w (SrchM (mapsOf p q.k) v w) := by
  have hk : q.k < p.devs.length := by rw [h.hn]; exact h.hk
  obtain ⟨hm, _, _, _⟩ := h.maps_
  obtain ⟨Am, cm, hM, hcm⟩ := hm.form
  have hl := maps_len h.chk hk
  refine ⟨Am, cm, hM, hcm, hl, ?_⟩
  have := srchM_any w (Btw q.base w.heap.size) _ (mapsOf p q.k) v (fun b hb => hb.2) (hm.isl (S := Btw q.base w.heap.size) (fun b h1 h2 => ⟨h1, h2⟩)) (by have : (mapsOf p q.k).length ≤ 16384 := hl; omega) (incK_maps h.chk hk)
  rw [hM] at this
  exact this
/-- The cells that a write reads where the virtual block is there. -/
theorem WSt.there {w : World} {q : Wp} {p : Pool} {M : Nat → Value} {next : Nat} {v : Int} {Am : Option Addr} {cm : Nat} (h : WSt w q p M next) (hM : M q.k = .slice Am (mapsOf p q.k).length cm) (hh : hasK Mp.v v (mapsOf p q.k) = true) :
    ∃ gm gc, Am = some ⟨gm, 0, none⟩ ∧ q.Ac = some ⟨gc, 0, none⟩ ∧ posK Mp.v v (mapsOf p q.k) < (mapsOf p q.k).length ∧ 0 ≤ (nth mp0 (mapsOf p q.k) (posK Mp.v v (mapsOf p q.k))).b ∧ (nth mp0 (mapsOf p q.k) (posK Mp.v v (mapsOf p q.k))).b.toNat < q.nc ∧
      ∀ w1, Touch (fun _ => False) w w1 → w1.cell? ⟨gm, posK Mp.v v (mapsOf p q.k) * 3 + 1, none⟩ = some (.int .i64 (nth mp0 (mapsOf p q.k) (posK Mp.v v (mapsOf p q.k))).b) ∧ w1.cell? ⟨gc, (nth mp0 (mapsOf p q.k) (posK Mp.v v (mapsOf p q.k))).b.toNat, none⟩ = some (.int .i64 (cntAt p q.k (posK Mp.v v (mapsOf p q.k)))) := by
  have hk : q.k < p.devs.length := by rw [h.hn]; exact h.hk
  have hf := fit_iff.1 h.chk
  obtain ⟨hj, _⟩ := hasK_at (d := mp0) (v := v) (inc_of hf hk) hh
  obtain ⟨p1, p2, p3⟩ := cnt_pos hf hk hj
  have hlr := refs_leng h.chk
  have hnc := h.len
  obtain ⟨gm, hAm⟩ : ∃ gm, Am = some ⟨gm, 0, none⟩ := by
    obtain ⟨hm, _⟩ := h.maps_
    rw [hM] at hm
    obtain ⟨g', c', hv, _⟩ := own_form hm (by omega)
    injection hv with e1
    exact ⟨g', e1⟩
  obtain ⟨gc, hAc⟩ : ∃ gc, q.Ac = some ⟨gc, 0, none⟩ := by
    obtain ⟨g', c', hv, _⟩ := own_form h.cr (by omega)
    injection hv with e1
    exact ⟨g', e1⟩
  subst hAm
  refine ⟨gm, gc, rfl, hAc, hj, p2, by omega, fun w1 hB => ?_⟩
  have hS := h.touch hB
  obtain ⟨m1, _⟩ := hS.maps_
  rw [hM] at m1
  have hcr := hS.cr
  unfold Wp.cv at hcr
  rw [hAc] at hcr
  exact ⟨(own3 m1 hj rfl).2.1, ownI_cell hcr (j := (nth mp0 (mapsOf p q.k) (posK Mp.v v (mapsOf p q.k))).b.toNat) (by omega) hnc⟩
/-- The writer's cells, and where the mappings lie. -/
theorem WSt.base_ {w : World} {q : Wp} {p : Pool} {M : Nat → Value} {next : Nat} (h : WSt w q p M next) (w1 : World) (hB : Touch (fun _ => False) w w1) :
    w1.cell? ⟨q.g2, q.k * 5 + 4, none⟩ = some (M q.k) ∧ w1.cell? ⟨q.bw, 0, none⟩ = some (.pointer (some ⟨q.g, 0, none⟩)) ∧ w1.cell? ⟨q.bw, 1, none⟩ = some (.pointer (some ⟨q.g2, q.k * 5, none⟩)) ∧ w1.cell? ⟨q.bw, 2, none⟩ = some (.slice q.Ac q.nc q.cc) ∧ w1.cell? ⟨q.bw, 3, none⟩ = some (.int .i64 next) ∧ w1.cell? ⟨q.bw, 4, none⟩ = some (.int .i64 p.count) := by
  have hS := h.touch hB
  exact ⟨hS.maps_.2.1, hS.wb.cells⟩
set_option maxRecDepth 100000 in
set_option maxHeartbeats 3200000 in
theorem write_same (w : World) (q : Wp) (p : Pool) (M : Nat → Value) (next : Nat) (v : Int) (h : WSt w q p M next) (hh : hasK Mp.v v (mapsOf p q.k) = true) (hc : cntAt p q.k (posK Mp.v v (mapsOf p q.k)) = 1) :
    Calls Tryz.prog 78 #[.pointer (some ⟨q.bw, 0, none⟩), .int .i64 v] w fun e w' => e = .returned (.int .i64 0) ∧ Touch (fun _ => False) w w' := by
  have hk : q.k < p.devs.length := by rw [h.hn]; exact h.hk
  obtain ⟨Am, cm, hM, hcm, hl, hs⟩ := h.srch v
  unfold SrchM at hs
  rw [hh] at hs
  have hf := fit_iff.1 h.chk
  obtain ⟨hj, _⟩ := hasK_at (d := mp0) (v := v) (inc_of hf hk) hh
  obtain ⟨p1, p2, p3⟩ := cnt_pos hf hk hj
  have hlr := refs_leng h.chk
  have hnc := h.len
  have hK := Lib.hid (fun w1 (hB : Touch (fun _ => False) w w1) => h.touch hB)
  have hml : 0 < (mapsOf p q.k).length := by omega
  obtain ⟨gm, hAm⟩ : ∃ gm, Am = some ⟨gm, 0, none⟩ := by
    obtain ⟨hm, _⟩ := h.maps_
    rw [hM] at hm
    obtain ⟨g', c', hv, _⟩ := own_form hm hml
    injection hv with e1
    exact ⟨g', e1⟩
  subst hAm
  obtain ⟨gc, hAc⟩ : ∃ gc, q.Ac = some ⟨gc, 0, none⟩ := by
    obtain ⟨g', c', hv, _⟩ := own_form h.cr (by omega)
    injection hv with e1
    exact ⟨g', e1⟩
  have HC := Lib.hid (fun w1 (hB : Touch (fun _ => False) w w1) => (by
    have hS := h.touch hB
    obtain ⟨m1, m2, _⟩ := hS.maps_
    rw [hM] at m1 m2
    have hcr := hS.cr
    have hwb := hS.wb.cells
    unfold Wp.cv at hcr
    rw [hAc] at hcr hwb
    refine ⟨m2, (own3 m1 hj rfl).2.1, ?_, hwb⟩
    have hz := ownI_cell hcr (j := (nth mp0 (mapsOf p q.k) (posK Mp.v v (mapsOf p q.k))).b.toNat) (by omega) hnc
    have e1 : nth 0 (refsRes p) (nth mp0 (mapsOf p q.k) (posK Mp.v v (mapsOf p q.k))).b.toNat = 1 := hc
    rw [e1] at hz
    exact hz : w1.cell? ⟨q.g2, q.k * 5 + 4, none⟩ = some (.slice (some ⟨gm, 0, none⟩) (mapsOf p q.k).length cm) ∧
      w1.cell? ⟨gm, posK Mp.v v (mapsOf p q.k) * 3 + 1, none⟩ = some (.int .i64 (nth mp0 (mapsOf p q.k) (posK Mp.v v (mapsOf p q.k))).b) ∧
      w1.cell? ⟨gc, (nth mp0 (mapsOf p q.k) (posK Mp.v v (mapsOf p q.k))).b.toNat, none⟩ = some (.int .i64 1) ∧
      w1.cell? ⟨q.bw, 0, none⟩ = some (.pointer (some ⟨q.g, 0, none⟩)) ∧ w1.cell? ⟨q.bw, 1, none⟩ = some (.pointer (some ⟨q.g2, q.k * 5, none⟩)) ∧ w1.cell? ⟨q.bw, 2, none⟩ = some (.slice (some ⟨gc, 0, none⟩) q.nc q.cc) ∧ w1.cell? ⟨q.bw, 3, none⟩ = some (.int .i64 next) ∧ w1.cell? ⟨q.bw, 4, none⟩ = some (.int .i64 p.count)))
  have HS := Lib.hid hs
  have hbn : (nth mp0 (mapsOf p q.k) (posK Mp.v v (mapsOf p q.k))).b < (q.nc : Int) := by omega
  clear hK hs h hM hh hc hf hlr p1 p3
  generalize nth mp0 (mapsOf p q.k) (posK Mp.v v (mapsOf p q.k)) = y at *
  generalize posK Mp.v v (mapsOf p q.k) = j at *
  generalize (mapsOf p q.k).length = L at *
  generalize q.nc = nc at *
  have hji : (j : Int) < (L : Int) := by omega
  obtain ⟨z0, _, _, x0, x1, x2, x3, x4⟩ := HC.out w Touch.refl
  go_enter Tryz.func78, Tryz.ntmps78
  go_wp2_with (go_at_call 95; refine HS.out.mono ?_; rintro e w1 ⟨rfl, hB1⟩; have hT1 := Touch.of_below (R := fun _ => False) hB1; clear z0 x0 x1 x2 x3 x4; obtain ⟨z0, z1, z2, x0, x1, x2, x3, x4⟩ := HC.out w1 hT1)
  go_quiet (fail)
  go_wp2_with fail
  go_ret
  exact ⟨rfl, hT1.trans (Touch.drewN _)⟩
set_option maxRecDepth 100000 in
set_option maxHeartbeats 3200000 in
theorem write_full (w : World) (q : Wp) (p : Pool) (M : Nat → Value) (next : Nat) (v : Int) (h : WSt w q p M next) (hh : hasK Mp.v v (mapsOf p q.k) = false) (hc : 16384 ≤ p.count) :
    Calls Tryz.prog 78 #[.pointer (some ⟨q.bw, 0, none⟩), .int .i64 v] w fun e w' => e = .returned (.int .i64 2) ∧ Touch (fun _ => False) w w' := by
  obtain ⟨Am, cm, hM, hcm, hl, hs⟩ := h.srch v
  unfold SrchM at hs
  rw [hh] at hs
  have HB := Lib.hid h.base_
  rw [hM] at HB
  have HS := Lib.hid hs
  have hc2 : decide (16384 ≤ p.count) = true := by simpa using hc
  clear hs h hM hh hcm
  generalize posK Mp.v v (mapsOf p q.k) = j at *
  generalize (mapsOf p q.k).length = L at *
  obtain ⟨z0, x0, x1, x2, x3, x4⟩ := HB.out w Touch.refl
  go_enter Tryz.func78, Tryz.ntmps78
  go_wp2_with (go_at_call 95; refine HS.out.mono ?_; rintro e w1 ⟨rfl, hB1⟩; have hT1 := Touch.of_below (R := fun _ => False) hB1; clear z0 x0 x1 x2 x3 x4; obtain ⟨z0, x0, x1, x2, x3, x4⟩ := HB.out w1 hT1)
  go_quiet (fail)
  go_wp2_with fail
  go_ret
  exact ⟨rfl, hT1.trans (Touch.drewN _)⟩
theorem freeAt_le (l : List Int) : freeAt l ≤ l.length := posK_le
set_option maxRecDepth 100000 in
set_option maxHeartbeats 3200000 in
theorem write_none (w : World) (q : Wp) (p : Pool) (M : Nat → Value) (next : Nat) (v : Int) (h : WSt w q p M next) (hA : ¬ (hasK Mp.v v (mapsOf p q.k) = true ∧ cntAt p q.k (posK Mp.v v (mapsOf p q.k)) = 1)) (hB : ¬ (hasK Mp.v v (mapsOf p q.k) = false ∧ 16384 ≤ p.count)) (hf : freeAt (refsRes p) = (refsRes p).length) :
    Calls Tryz.prog 78 #[.pointer (some ⟨q.bw, 0, none⟩), .int .i64 v] w fun e w' => e = .returned (.int .i64 14) ∧ Touch (fun x => x = q.bw) w w' := by
  obtain ⟨Am, cm, hM, hcm, hl, hs⟩ := h.srch v
  unfold SrchM at hs
  have HB := Lib.hid h.base_
  rw [hM] at HB
  have hrl : q.nc ≤ 65536 := by have := refs_leng h.chk; have := h.len; have := pool_data h.chk; omega
  have HTK := Lib.hid (fun w1 (hT : Touch (fun _ => False) w w1) => take_none w1 q.base q.bw q.g q.g2 q.k q.Ac q.nc q.cc next p.count (refsRes p) (h.touch hT).wb (h.touch hT).cr h.len (fun e => (h.fc _ e).2.2.1 rfl) h.nx (by rw [hf]; exact h.len) hrl)
  cases hh : hasK Mp.v v (mapsOf p q.k) with
  | false =>
    have hc2 : decide (16384 ≤ p.count) = false := by simp only [decide_eq_false_iff_not]; intro hx; exact hB ⟨hh, hx⟩
    rw [hh] at hs
    have HS := Lib.hid hs
    clear hs h hM hh hcm hA hB hf
    generalize posK Mp.v v (mapsOf p q.k) = j at *
    generalize (mapsOf p q.k).length = L at *
    obtain ⟨z0, x0, x1, x2, x3, x4⟩ := HB.out w Touch.refl
    go_enter Tryz.func78, Tryz.ntmps78
    go_wp2_with (go_at_call 95; refine HS.out.mono ?_; rintro e w1 ⟨rfl, hB1⟩; have hT1 := Touch.of_below (R := fun _ => False) hB1; clear z0 x0 x1 x2 x3 x4; obtain ⟨z0, x0, x1, x2, x3, x4⟩ := HB.out w1 hT1)
    go_quiet (fail)
    have hT2 := hT1.trans (Touch.drewN (R := fun _ => False) nq)
    generalize w1.drewN nq = w2 at *
    clear z0 x0 x1 x2 x3 x4
    obtain ⟨z0, x0, x1, x2, x3, x4⟩ := HB.out w2 hT2
    go_wp2_with (go_at_call 97; refine (HTK.out _ hT2).mono ?_; rintro e w3 ⟨rfl, hW3, hT3⟩)
    go_ret
    exact ⟨rfl, (hT2.weak (fun _ h => h.elim)).trans hT3⟩
  | true =>
    have hcn : cntAt p q.k (posK Mp.v v (mapsOf p q.k)) ≠ 1 := fun e => hA ⟨hh, e⟩
    rw [hh] at hs
    obtain ⟨gm, gc, rfl, hAc, hj, p2, p3, hcells⟩ := h.there hM hh
    have HC := Lib.hid hcells
    have HS := Lib.hid hs
    rw [hAc] at HB
    have hbn : (nth mp0 (mapsOf p q.k) (posK Mp.v v (mapsOf p q.k))).b < (q.nc : Int) := by omega
    have hc2 : (cntAt p q.k (posK Mp.v v (mapsOf p q.k)) == 1) = false := by simpa using hcn
    clear hs h hM hh hcm hA hB hf hcells p3 hAc hcn
    generalize cntAt p q.k (posK Mp.v v (mapsOf p q.k)) = ct at *
    generalize nth mp0 (mapsOf p q.k) (posK Mp.v v (mapsOf p q.k)) = y at *
    generalize posK Mp.v v (mapsOf p q.k) = j at *
    generalize (mapsOf p q.k).length = L at *
    generalize q.nc = nc at *
    have hji : (j : Int) < (L : Int) := by omega
    obtain ⟨z0, x0, x1, x2, x3, x4⟩ := HB.out w Touch.refl
    go_enter Tryz.func78, Tryz.ntmps78
    go_wp2_with (go_at_call 95; refine HS.out.mono ?_; rintro e w1 ⟨rfl, hB1⟩; have hT1 := Touch.of_below (R := fun _ => False) hB1; clear z0 x0 x1 x2 x3 x4; obtain ⟨z0, x0, x1, x2, x3, x4⟩ := HB.out w1 hT1; obtain ⟨z1, z2⟩ := HC.out w1 hT1)
    go_quiet (fail)
    have hT2 := hT1.trans (Touch.drewN (R := fun _ => False) nq)
    generalize w1.drewN nq = w2 at *
    clear z0 x0 x1 x2 x3 x4 z1 z2
    obtain ⟨z0, x0, x1, x2, x3, x4⟩ := HB.out w2 hT2
    go_wp2_with (go_at_call 97; refine (HTK.out _ hT2).mono ?_; rintro e w3 ⟨rfl, hW3, hT3⟩)
    go_ret
    exact ⟨rfl, (hT2.weak (fun _ h => h.elim)).trans hT3⟩
end Go.Proofs.YtcdfbpdejbpgjaaGreat

/- (*model.writer).write: a mapping is replaced. Condition: the writer's state holds. -/
namespace Go.Proofs.YtcdfbpdejbpgjaaGreat
open Go.RowKit
attribute [local go_sem] Oper.semAt_some

theorem refs_nn (p : Pool) (j : Nat) : 0 ≤ nth 0 (refsRes p) j ∧ nth 0 (refsRes p) j ≤ 16384 := by
  unfold refsRes
  by_cases h : poolChk p = 0
  · rw [if_pos h]
    unfold refsOf
    have := counts_bound p.data.toNat (pairs p.devs) j
    have := pairs_few h
    omega
  · rw [if_neg h]
    unfold nth
    simp
/-- Where a write has come to once it has its data block: the writer, the counts, the mappings. -/
structure Wat (w w4 : World) (q : Wp) (p : Pool) (M : Nat → Value) (gc f : Nat) (cs : List Int) : Prop where
  t : Touch (fun x => x = q.bw ∨ x = gc) w w4
  wb : WBox w4 q.bw q.g q.g2 q.k (some ⟨gc, 0, none⟩) q.nc q.cc f p.count
  cr : w4.ownsRow q.base 3 1 (.slice (some ⟨gc, 0, none⟩) q.nc q.cc) q.nc (flats encI cs)
theorem Wat.maps_ {w w4 : World} {q : Wp} {p : Pool} {M : Nat → Value} {next gc f : Nat} {cs : List Int} (h : WSt w q p M next) (hA : q.Ac = some ⟨gc, 0, none⟩) (k : Wat w w4 q p M gc f cs) :
    OwnMaps w4 q.base (M q.k) (mapsOf p q.k) ∧ w4.cell? ⟨q.g2, q.k * 5 + 4, none⟩ = some (M q.k) ∧ (∀ o, w4.frozen? ⟨q.g2, o, none⟩ = false) ∧ PBox w4 q.g p (some ⟨q.g2, 0, none⟩) q.n q.c := by
  have hk : q.k < p.devs.length := by rw [h.hn]; exact h.hk
  have hc0 := h.fc gc (by unfold Wp.cv; rw [hA]; rfl)
  have hod := h.od.touch k.t (fun x hx => by rintro (e | e); exact h.fw.1 (by rw [hx, e]); exact hc0.1.1 (by rw [hx, e])) (fun j hj x hx => by rintro (e | e); exact h.fw.2 j hj (by rw [hx, e]); exact hc0.1.2 j hj (by rw [hx, e]))
  obtain ⟨c1, _, c3, _⟩ := hod.cellM hk
  obtain ⟨xs, _, hc, _⟩ := hod
  exact ⟨(hc _ hk).2.1, c1, c3, (k.t.block h.pb.lt (by rintro (e | e); exact h.gw e; exact hc0.2.1 e.symm)).trans h.pb⟩
theorem Wat.more {w w4 w5 : World} {q : Wp} {p : Pool} {M : Nat → Value} {gc f : Nat} {cs : List Int} (k : Wat w w4 q p M gc f cs) (hB : Touch (fun _ => False) w4 w5) : Wat w w5 q p M gc f cs :=
  ⟨k.t.trans (hB.weak (fun _ h => h.elim)), k.wb.touch hB (fun e => e), own_touch k.cr hB (fun _ _ e => e)⟩
/-- The cells that a replacing write reads. -/
theorem put_at {w w4 : World} {q : Wp} {p : Pool} {M : Nat → Value} {next gc gm f cm j old : Nat} {cs : List Int} {y : Mp} {ct : Int} (h : WSt w q p M next) (hA : q.Ac = some ⟨gc, 0, none⟩) (hM : M q.k = .slice (some ⟨gm, 0, none⟩) (mapsOf p q.k).length cm) (hj : j < (mapsOf p q.k).length) (hy : nth mp0 (mapsOf p q.k) j = y)
    (ho : old < q.nc) (hcs : cs.length = q.nc) (hct : nth 0 cs old = ct) (K : Wat w w4 q p M gc f cs) :
      w4.cell? ⟨q.g2, q.k * 5 + 4, none⟩ = some (.slice (some ⟨gm, 0, none⟩) (mapsOf p q.k).length cm) ∧
      (w4.cell? ⟨gm, j * 3, none⟩ = some (.int .i64 y.v) ∧ w4.cell? ⟨gm, j * 3 + 1, none⟩ = some (.int .i64 y.b) ∧ w4.cell? ⟨gm, j * 3 + 2, none⟩ = some (.int .i64 y.t)) ∧
      w4.cell? ⟨gc, old, none⟩ = some (.int .i64 ct) ∧
      w4.frozen? ⟨gc, old, none⟩ = false ∧ (∀ o, w4.frozen? ⟨gm, o, none⟩ = false) ∧
      (w4.cell? ⟨q.bw, 0, none⟩ = some (.pointer (some ⟨q.g, 0, none⟩)) ∧ w4.cell? ⟨q.bw, 1, none⟩ = some (.pointer (some ⟨q.g2, q.k * 5, none⟩)) ∧ w4.cell? ⟨q.bw, 2, none⟩ = some (.slice (some ⟨gc, 0, none⟩) q.nc q.cc) ∧ w4.cell? ⟨q.bw, 3, none⟩ = some (.int .i64 (f : Nat)) ∧ w4.cell? ⟨q.bw, 4, none⟩ = some (.int .i64 p.count)) ∧
      (w4.cell? ⟨q.g, 0, none⟩ = some (.int .i64 p.tx) ∧ w4.cell? ⟨q.g, 1, none⟩ = some (.int .i64 p.time) ∧ w4.cell? ⟨q.g, 2, none⟩ = some (.int .i64 p.unit) ∧ w4.cell? ⟨q.g, 3, none⟩ = some (.int .i64 p.data) ∧ w4.cell? ⟨q.g, 4, none⟩ = some (.slice (some ⟨q.g2, 0, none⟩) q.n q.c)) := by
  obtain ⟨m1, m2, m3, m4⟩ := Wat.maps_ h hA K
  rw [hM] at m1 m2
  have hz := ownI_cell K.cr ho hcs
  rw [hct] at hz
  have h3 := own3 m1 hj rfl
  rw [hy] at h3
  exact ⟨m2, h3, hz, K.cr.frozenAt _, m1.frozenAt, K.wb.cells, m4.cells⟩
/-- What is left once a replacing write has stored. -/
theorem put_fin {w w4 w5 w6 : World} {q : Wp} {p pq : Pool} {M : Nat → Value} {next gc gm f cm j old : Nat} {cs : List Int} {v ct t : Int} (h : WSt w q p M next) (hA : q.Ac = some ⟨gc, 0, none⟩) (hM : M q.k = .slice (some ⟨gm, 0, none⟩) (mapsOf p q.k).length cm) (hj : j < (mapsOf p q.k).length)
    (K : Wat w w4 q p M gc f cs) (hpq : pq = setMaps p q.k ((mapsOf p q.k).set j ⟨v, f, t⟩)) (r1 : PoolFit pq) (r2 : refsRes pq = cs.set old (ct - 1)) (r3 : pq.count = p.count) (r5 : ∀ j : Nat, j < f → 0 < nth 0 (refsRes pq) j) (hcs : cs.length = q.nc) (hf : f ≤ q.nc)
    (e5 : w5 = (w4.setCell ⟨gc, old, none⟩ (.int .i64 (ct - 1))).drew)
    (e6 : w6 = (((w5.setCell ⟨gm, j * 3, none⟩ (.int .i64 v)).setCell ⟨gm, j * 3 + 1, none⟩ (.int .i64 f)).setCell ⟨gm, j * 3 + 2, none⟩ (.int .i64 t)).drew) :
    Touch (fun x => x = q.bw ∨ q.cv.ownBlock = some x ∨ (M q.k).ownBlock = some x) w w6 ∧ WSt w6 q pq M f := by
  have hk : q.k < p.devs.length := by rw [h.hn]; exact h.hk
  have hc0 := h.fc gc (by unfold Wp.cv; rw [hA]; rfl)
  obtain ⟨_, _, _, hmk⟩ := h.maps_
  have hmk := hmk gm (by rw [hM]; rfl)
  have hgmc : gm ≠ gc := fun e => hc0.1.2 _ hk (by rw [hM, e]; rfl)
  obtain ⟨m1, _⟩ := Wat.maps_ h hA K
  have hcr5 := (ownI_set K.cr (j := old) (ct - 1)).drew
  rw [← e5] at hcr5
  have t5 : Touch (fun x => x = gc) w4 w5 := by
    rw [e5]; exact (Touch.set_ (R := fun x => x = gc) (p := ⟨gc, old, none⟩) rfl).trans Touch.drew
  have m5 := own_touch m1 t5 (fun x hx e => by
    rw [hM] at hx
    have : gm = x := by simpa [Value.ownBlock] using hx
    exact hgmc (this.trans e))
  have t6 : Touch (fun x => x = gm) w5 w6 := by
    rw [e6]
    exact (((Touch.set_ (R := fun x => x = gm) (p := ⟨gm, j * 3, none⟩) rfl).trans (Touch.set_ (R := fun x => x = gm) (p := ⟨gm, j * 3 + 1, none⟩) rfl)).trans (Touch.set_ (R := fun x => x = gm) (p := ⟨gm, j * 3 + 2, none⟩) rfl)).trans Touch.drew
  rw [hM] at m5
  have m6 := (own_set3 m5 ⟨v, f, t⟩ hj rfl).drew
  have wb6 := (K.wb.touch t5 (fun e => hc0.2.2.1 e.symm)).touch t6 (fun e => hmk.2.2.1 e.symm)
  have cr6 := own_touch hcr5 t6 (fun x hx e => by
    have : gc = x := by simpa [Value.ownBlock] using hx
    exact hgmc (e.symm.trans this.symm))
  have T6 : Touch (fun x => x = q.bw ∨ q.cv.ownBlock = some x ∨ (M q.k).ownBlock = some x) w w6 := by
    refine ((K.t.weak (fun x hx => ?_)).trans (t5.weak (fun x hx => ?_))).trans (t6.weak (fun x hx => ?_))
    · rcases hx with e | e
      · exact .inl e
      · right; left; unfold Wp.cv; rw [hA, e]; rfl
    · right; left; unfold Wp.cv; rw [hA, hx]; rfl
    · right; right; rw [hM, hx]; rfl
  refine ⟨T6, h.put hpq T6 ?_ ?_ ?_ (fit_iff.2 r1) ?_ hf r5⟩
  · rw [hA, r3]; exact wb6
  · unfold Wp.cv; rw [hA, r2]; exact cr6
  · rw [hM]
    show w6.ownsRow _ _ 3 (.slice (some ⟨gm, 0, none⟩) (mapsOf p q.k).length cm) ((mapsOf p q.k).set _ _).length _
    rw [List.length_set, e6]
    exact m6
  · rw [r2, List.length_set]; exact hcs
set_option maxRecDepth 100000 in
set_option maxHeartbeats 3200000 in
theorem write_put (w : World) (q : Wp) (p : Pool) (M : Nat → Value) (next : Nat) (v : Int) (h : WSt w q p M next) (hv : 0 ≤ v ∧ v ≤ 281474976710655) (hh : hasK Mp.v v (mapsOf p q.k) = true) (hcn : cntAt p q.k (posK Mp.v v (mapsOf p q.k)) ≠ 1) (hf : freeAt (refsRes p) ≠ (refsRes p).length) :
    Calls Tryz.prog 78 #[.pointer (some ⟨q.bw, 0, none⟩), .int .i64 v] w fun e w' => e = .returned (.int .i64 0) ∧ Touch (fun x => x = q.bw ∨ q.cv.ownBlock = some x ∨ (M q.k).ownBlock = some x) w w' ∧
      WSt w' q (setMaps p q.k ((mapsOf p q.k).set (posK Mp.v v (mapsOf p q.k)) ⟨v, freeAt (refsRes p), p.time⟩)) M (freeAt (refsRes p)) := by
  have hk : q.k < p.devs.length := by rw [h.hn]; exact h.hk
  have hfit := fit_iff.1 h.chk
  obtain ⟨r1, r2, r3, r4, r5⟩ := wr_there hfit hk hv hh hcn hf
  obtain ⟨Am, cm, hM, hcm, hl, hs⟩ := h.srch v
  unfold SrchM at hs
  rw [hh] at hs
  have HB := Lib.hid h.base_
  rw [hM] at HB
  obtain ⟨gm, gc, rfl, hAc, hj, p2, p3, hcells⟩ := h.there hM hh
  rw [hAc] at HB
  have hrl : q.nc ≤ 65536 := by have := refs_leng h.chk; have := h.len; have := pool_data h.chk; omega
  have hnc := h.len
  have hfn : freeAt (refsRes p) < q.nc := by have := freeAt_le (refsRes p); omega
  have hc0 := h.fc gc (by unfold Wp.cv; rw [hAc]; rfl)
  have hnx : next ≤ freeAt (refsRes p) := by
    rcases Nat.lt_or_ge (freeAt (refsRes p)) next with hlt | hge
    · have h1 := h.low _ hlt
      have h2 := posK_at (f := fun x : Int => -x) (d := 0) (v := 0) (l := refsRes p) (by have : posK (fun x : Int => -x) 0 (refsRes p) = freeAt (refsRes p) := rfl; omega)
      have h2 : 0 ≤ -(nth 0 (refsRes p) (freeAt (refsRes p))) := h2
      omega
    · exact hge
  have HTK := Lib.hid (fun w1 (hT : Touch (fun _ => False) w w1) => take_some w1 q.base q.bw q.g q.g2 q.k gc q.nc q.cc next (freeAt (refsRes p)) p.count (refsRes p) (by have hx := (h.touch hT).wb; rw [hAc] at hx; exact hx) (by have hx := (h.touch hT).cr; unfold Wp.cv at hx; rw [hAc] at hx; exact hx) h.len hc0.2.2.1 hnx rfl hfn (fun j => by have := refs_nn p j; omega) hrl)
  have hctb := refs_nn p (nth mp0 (mapsOf p q.k) (posK Mp.v v (mapsOf p q.k))).b.toNat
  have hco : nth 0 (refsRes p) (nth mp0 (mapsOf p q.k) (posK Mp.v v (mapsOf p q.k))).b.toNat = cntAt p q.k (posK Mp.v v (mapsOf p q.k)) := rfl
  have hhd := pool_head h.chk
  have hmk := h.maps_.2.2.2
  rw [hM] at hmk
  have hmk := hmk gm rfl
  have hgmc : gm ≠ gc := fun e => hc0.1.2 _ hk (by rw [hM, e]; rfl)
  have hggc : q.g2 ≠ gc := fun e => hc0.1.1 (by rw [← e]; rfl)
  have hgw2 : q.g2 ≠ q.bw := fun e => h.fw.1 (by rw [← e]; rfl)
  generalize hcs : (refsRes p).set (freeAt (refsRes p)) (nth 0 (refsRes p) (freeAt (refsRes p)) + 1) = cs at *
  have hcsl : cs.length = q.nc := by rw [← hcs, List.length_set]; exact hnc
  have hct : nth 0 cs (nth mp0 (mapsOf p q.k) (posK Mp.v v (mapsOf p q.k))).b.toNat = cntAt p q.k (posK Mp.v v (mapsOf p q.k)) := by rw [← hcs, nth_set, if_neg (fun e => r4 e.1), hco]
  rw [hco] at r2
  have HW4 := Lib.hid (fun w4 K => put_at (w4 := w4) (f := freeAt (refsRes p)) h hAc hM hj rfl p3 hcsl hct K)
  have HFIN := Lib.hid (fun w4 w5 w6 K e5 e6 => put_fin (w4 := w4) (w5 := w5) (w6 := w6) h hAc hM hj K rfl r1 r2 r3 r5 hcsl (by omega) e5 e6)
  have HC := Lib.hid hcells
  have HS := Lib.hid hs
  have hbn : (nth mp0 (mapsOf p q.k) (posK Mp.v v (mapsOf p q.k))).b < (q.nc : Int) := by omega
  have hc2 : (cntAt p q.k (posK Mp.v v (mapsOf p q.k)) == 1) = false := by simpa using hcn
  rw [hco] at hctb
  have HPST := Lib.hid (show (0 : Int) = 0 from rfl)
  generalize hqq : setMaps p q.k ((mapsOf p q.k).set (posK Mp.v v (mapsOf p q.k)) ⟨v, freeAt (refsRes p), p.time⟩) = pq at *
  clear hqq
  have hgm2 := hmk.1
  have hgmg := hmk.2.1
  have hgmw := hmk.2.2.1
  have hgcw := hc0.2.2.1
  have hgcg := hc0.2.1
  clear hs h hM hh hcm hcells p3 hAc hcn r1 r2 r3 r4 r5 hf hfit hc0 hmk hnc hco HPST hnx
  clear hcs hct hcsl
  generalize freeAt (refsRes p) = f at *
  generalize cntAt p q.k (posK Mp.v v (mapsOf p q.k)) = ct at *
  generalize nth mp0 (mapsOf p q.k) (posK Mp.v v (mapsOf p q.k)) = y at *
  generalize posK Mp.v v (mapsOf p q.k) = j at *
  generalize (mapsOf p q.k).length = L at *
  generalize hnq : q.nc = nc at *
  have HNQ := Lib.hid hnq
  clear hnq
  have hji : (j : Int) < (L : Int) := by omega
  obtain ⟨z0, x0, x1, x2, x3, x4⟩ := HB.out w Touch.refl
  go_enter Tryz.func78, Tryz.ntmps78
  go_wp2_with (go_at_call 95; refine HS.out.mono ?_; rintro e w1 ⟨rfl, hB1⟩; have hT1 := Touch.of_below (R := fun _ => False) hB1; clear z0 x0 x1 x2 x3 x4; obtain ⟨z0, x0, x1, x2, x3, x4⟩ := HB.out w1 hT1; obtain ⟨z1, z2⟩ := HC.out w1 hT1)
  go_quiet (fail)
  have hT2 := hT1.trans (Touch.drewN (R := fun _ => False) nq)
  generalize w1.drewN nq = w2 at *
  clear z0 x0 x1 x2 x3 x4 z1 z2
  obtain ⟨z0, x0, x1, x2, x3, x4⟩ := HB.out w2 hT2
  go_wp2_with (go_at_call 97; refine (HTK.out _ hT2).mono ?_; rintro e w3 ⟨rfl, hW3, hC3, hT3⟩; clear z0 x0 x1 x2 x3 x4; have hK3 : Wat w w3 q p M gc f cs := ⟨(hT2.weak (fun _ h => h.elim)).trans hT3, by rw [HNQ.out]; exact hW3, by rw [HNQ.out]; exact hC3⟩; obtain ⟨z0, ⟨y0, y1, y2⟩, z1, z2, z3, ⟨x0, x1, x2, x3, x4⟩, ⟨u0, u1, u2, u3, u4⟩⟩ := HW4.out w3 hK3)
  have hbl4 : Below w3.heap.size w3 (w3.alloc (.cells #[.int .i64 v, .int .i64 (f : Nat), .int .i64 p.time] 40)) := (Below.refl _ _).alloc (Nat.le_refl _) _
  have hxb := heap_alloc_new w3 (.cells #[.int .i64 v, .int .i64 (f : Nat), .int .i64 p.time] 40)
  have hK4 := hK3.more (Touch.of_below hbl4)
  have hxgc : w3.heap.size ≠ gc := fun e => by have h1 := (hC3.lt gc rfl).2; omega
  obtain ⟨w4, hw4⟩ : ∃ w4, w3.alloc (.cells #[.int .i64 v, .int .i64 (f : Nat), .int .i64 p.time] 40) = w4 := ⟨_, rfl⟩
  rw [hw4] at hbl4 hxb hK4 ⊢
  obtain ⟨xb, hxb0⟩ : ∃ xb, w3.heap.size = xb := ⟨_, rfl⟩
  rw [hxb0] at hxb hxgc ⊢
  clear hxb0 hw4 z0 y0 y1 y2 z1 z2 z3 x0 x1 x2 x3 x4 u0 u1 u2 u3 u4 hbl4
  obtain ⟨z0, ⟨y0, y1, y2⟩, z1, z2, z3, ⟨x0, x1, x2, x3, x4⟩, ⟨u0, u1, u2, u3, u4⟩⟩ := HW4.out w4 hK4
  have hsum : IntKind.i64.wrap (ct - 1) = ct - 1 := IntWalk.i64_in _ (by omega)
  clear hK3 hW3 hC3 hT3 hT2
  refine wp_region_till (T := fun j => j == 19) (S := fun w' => w'.cell? ⟨q.bw, 2, none⟩ = some (.slice (some ⟨gc, 0, none⟩) nc q.cc) ∧ w'.cell? ⟨q.bw, 1, none⟩ = some (.pointer (some ⟨q.g2, q.k * 5, none⟩)) ∧ w'.cell? ⟨q.g2, q.k * 5 + 4, none⟩ = some (.slice (some ⟨gm, 0, none⟩) L cm) ∧ w'.cell? ⟨gm, j * 3 + 1, none⟩ = some (.int .i64 y.b) ∧ w'.cell? ⟨gc, y.b.toNat, none⟩ = some (.int .i64 ct)) (by kernel_rfl) (⟨x2, x1, z0, y1, z1⟩) (fun hHeld => ?_)
  refine wpTill_put 0 70 (oi := _) (v := ?_) rfl rfl (by kernel_rfl) (by kernel_rfl) (by kernel_rfl) (by kernel_rfl) (fun _ _ _ h => h) (by rfl) hHeld ?_ ?_
  rotate_left
  · (intro w hSw; go_simp; (try with_reducible rfl))
  (try simp only [Act.put, List.setIfInBounds_toArray, List.set_cons_zero, List.set_cons_succ])
  refine wpTill_put 1 71 (oi := _) (v := ?_) rfl rfl (by kernel_rfl) (by kernel_rfl) (by kernel_rfl) (by kernel_rfl) (fun _ _ _ h => h) (by rfl) hHeld ?_ ?_
  rotate_left
  · (intro w hSw; go_simp; (try with_reducible rfl))
  (try simp only [Act.put, List.setIfInBounds_toArray, List.set_cons_zero, List.set_cons_succ])
  refine wpTill_put 2 72 (oi := _) (v := ?_) rfl rfl (by kernel_rfl) (by kernel_rfl) (by kernel_rfl) (by kernel_rfl) (fun _ _ _ h => h) (by rfl) hHeld ?_ ?_
  rotate_left
  · (intro w hSw; go_simp; (try with_reducible rfl))
  (try simp only [Act.put, List.setIfInBounds_toArray, List.set_cons_zero, List.set_cons_succ])
  refine wpTill_put 3 73 (oi := _) (v := ?_) rfl rfl (by kernel_rfl) (by kernel_rfl) (by kernel_rfl) (by kernel_rfl) (fun _ _ _ h => h) (by rfl) hHeld ?_ ?_
  rotate_left
  · (intro w hSw; have l1 := hSw.1; go_simp; (try with_reducible rfl))
  (try simp only [Act.put, List.setIfInBounds_toArray, List.set_cons_zero, List.set_cons_succ])
  refine wpTill_put 4 74 (oi := _) (v := ?_) rfl rfl (by kernel_rfl) (by kernel_rfl) (by kernel_rfl) (by kernel_rfl) (fun _ _ _ h => h) (by rfl) hHeld ?_ ?_
  rotate_left
  · (intro w hSw; go_simp; (try with_reducible rfl))
  (try simp only [Act.put, List.setIfInBounds_toArray, List.set_cons_zero, List.set_cons_succ])
  refine wpTill_put 5 75 (oi := _) (v := ?_) rfl rfl (by kernel_rfl) (by kernel_rfl) (by kernel_rfl) (by kernel_rfl) (fun _ _ _ h => h) (by rfl) hHeld ?_ ?_
  rotate_left
  · (intro w hSw; go_simp; (try with_reducible rfl))
  (try simp only [Act.put, List.setIfInBounds_toArray, List.set_cons_zero, List.set_cons_succ])
  refine wpTill_put 6 76 (oi := _) (v := ?_) rfl rfl (by kernel_rfl) (by kernel_rfl) (by kernel_rfl) (by kernel_rfl) (fun _ _ _ h => h) (by rfl) hHeld ?_ ?_
  rotate_left
  · (intro w hSw; go_simp; (try with_reducible rfl))
  (try simp only [Act.put, List.setIfInBounds_toArray, List.set_cons_zero, List.set_cons_succ])
  refine wpTill_put 7 77 (oi := _) (v := ?_) rfl rfl (by kernel_rfl) (by kernel_rfl) (by kernel_rfl) (by kernel_rfl) (fun _ _ _ h => h) (by rfl) hHeld ?_ ?_
  rotate_left
  · (intro w hSw; have l1 := hSw.2.1; go_simp; (try with_reducible rfl))
  (try simp only [Act.put, List.setIfInBounds_toArray, List.set_cons_zero, List.set_cons_succ])
  refine wpTill_put 8 78 (oi := _) (v := ?_) rfl rfl (by kernel_rfl) (by kernel_rfl) (by kernel_rfl) (by kernel_rfl) (fun _ _ _ h => h) (by rfl) hHeld ?_ ?_
  rotate_left
  · (intro w hSw; go_simp; (try with_reducible rfl))
  (try simp only [Act.put, List.setIfInBounds_toArray, List.set_cons_zero, List.set_cons_succ])
  refine wpTill_put 9 79 (oi := _) (v := ?_) rfl rfl (by kernel_rfl) (by kernel_rfl) (by kernel_rfl) (by kernel_rfl) (fun _ _ _ h => h) (by rfl) hHeld ?_ ?_
  rotate_left
  · (intro w hSw; go_simp; (try with_reducible rfl))
  (try simp only [Act.put, List.setIfInBounds_toArray, List.set_cons_zero, List.set_cons_succ])
  refine wpTill_put 10 80 (oi := _) (v := ?_) rfl rfl (by kernel_rfl) (by kernel_rfl) (by kernel_rfl) (by kernel_rfl) (fun _ _ _ h => h) (by rfl) hHeld ?_ ?_
  rotate_left
  · (intro w hSw; have l1 := hSw.2.2.1; go_simp; (try with_reducible rfl))
  (try simp only [Act.put, List.setIfInBounds_toArray, List.set_cons_zero, List.set_cons_succ])
  refine wpTill_put 11 81 (oi := _) (v := ?_) rfl rfl (by kernel_rfl) (by kernel_rfl) (by kernel_rfl) (by kernel_rfl) (fun _ _ _ h => h) (by rfl) hHeld ?_ ?_
  rotate_left
  · (intro w hSw; go_simp; (try with_reducible rfl))
  (try simp only [Act.put, List.setIfInBounds_toArray, List.set_cons_zero, List.set_cons_succ])
  refine wpTill_put 12 82 (oi := _) (v := ?_) rfl rfl (by kernel_rfl) (by kernel_rfl) (by kernel_rfl) (by kernel_rfl) (fun _ _ _ h => h) (by rfl) hHeld ?_ ?_
  rotate_left
  · (intro w hSw; go_simp; (try with_reducible rfl))
  (try simp only [Act.put, List.setIfInBounds_toArray, List.set_cons_zero, List.set_cons_succ])
  refine wpTill_put 13 83 (oi := _) (v := ?_) rfl rfl (by kernel_rfl) (by kernel_rfl) (by kernel_rfl) (by kernel_rfl) (fun _ _ _ h => h) (by rfl) hHeld ?_ ?_
  rotate_left
  · (intro w hSw; go_simp; (try with_reducible rfl))
  (try simp only [Act.put, List.setIfInBounds_toArray, List.set_cons_zero, List.set_cons_succ])
  refine wpTill_put 14 84 (oi := _) (v := ?_) rfl rfl (by kernel_rfl) (by kernel_rfl) (by kernel_rfl) (by kernel_rfl) (fun _ _ _ h => h) (by rfl) hHeld ?_ ?_
  rotate_left
  · (intro w hSw; have l1 := hSw.2.2.2.1; go_simp; (try with_reducible rfl))
  (try simp only [Act.put, List.setIfInBounds_toArray, List.set_cons_zero, List.set_cons_succ])
  refine wpTill_put 15 85 (oi := _) (v := ?_) rfl rfl (by kernel_rfl) (by kernel_rfl) (by kernel_rfl) (by kernel_rfl) (fun _ _ _ h => h) (by rfl) hHeld ?_ ?_
  rotate_left
  · (intro w hSw; go_simp; (try with_reducible rfl))
  (try simp only [Act.put, List.setIfInBounds_toArray, List.set_cons_zero, List.set_cons_succ])
  refine wpTill_put 16 86 (oi := _) (v := ?_) rfl rfl (by kernel_rfl) (by kernel_rfl) (by kernel_rfl) (by kernel_rfl) (fun _ _ _ h => h) (by rfl) hHeld ?_ ?_
  rotate_left
  · (intro w hSw; have l1 := hSw.2.2.2.2; go_simp; (try with_reducible rfl))
  (try simp only [Act.put, List.setIfInBounds_toArray, List.set_cons_zero, List.set_cons_succ])
  refine wpTill_put 17 87 (oi := _) (v := ?_) rfl rfl (by kernel_rfl) (by kernel_rfl) (by kernel_rfl) (by kernel_rfl) (fun _ _ _ h => h) (by rfl) hHeld ?_ ?_
  rotate_left
  · (intro w hSw; go_simp; (try with_reducible rfl))
  (try simp only [Act.put, List.setIfInBounds_toArray, List.set_cons_zero, List.set_cons_succ])
  refine wpTill_put 18 88 (oi := _) (v := ?_) rfl rfl (by kernel_rfl) (by kernel_rfl) (by kernel_rfl) (by kernel_rfl) (fun _ _ _ h => h) (by rfl) hHeld ?_ ?_
  rotate_left
  · (intro w hSw; go_simp; (try with_reducible rfl))
  (try simp only [Act.put, List.setIfInBounds_toArray, List.set_cons_zero, List.set_cons_succ])
  refine wpTill_one 19 (o := _) (by kernel_rfl) rfl (fun K hK => ?_)
  go_simp
  refine hK.out _ _ (fun h => by cases h) (fun _ => ?_)
  clear hK K hHeld
  (try simp only [Act.put, List.setIfInBounds_toArray])
  refine wpTill_done (by kernel_rfl) ?_ _
  have hcn : ∀ b o, b ≠ gc → ((w4.setCell ⟨gc, y.b.toNat, none⟩ (.int .i64 (ct - 1))).drew).cell? ⟨b, o, none⟩ = w4.cell? ⟨b, o, none⟩ := fun b o hb => World.cell?_setCell_other w4 ⟨gc, y.b.toNat, none⟩ ⟨b, o, none⟩ _ (fun e => hb (congrArg Addr.block e).symm)
  have hfn5 : ∀ o, ((w4.setCell ⟨gc, y.b.toNat, none⟩ (.int .i64 (ct - 1))).drew).frozen? ⟨gm, o, none⟩ = false := fun o => by
    show (w4.setCell _ _).frozen? _ = false
    rw [World.frozen?_setCell]; exact z3 o
  have n1 := (hcn q.bw 1 (fun e => hgcw e.symm)).trans x1
  have n2 := (hcn q.g2 (q.k * 5 + 4) hggc).trans z0
  have n3 := (hcn gm (j * 3) hgmc).trans y0
  have n4 := (hcn gm (j * 3 + 1) hgmc).trans y1
  have n5 := (hcn gm (j * 3 + 2) hgmc).trans y2
  have n6 := (hcn xb 0 hxgc).trans (show w4.cell? ⟨xb, 0, none⟩ = some (.int .i64 v) by simp [World.cell?, hxb])
  have n7 := (hcn xb 1 hxgc).trans (show w4.cell? ⟨xb, 1, none⟩ = some (.int .i64 (f : Nat)) by simp [World.cell?, hxb])
  have n8 := (hcn xb 2 hxgc).trans (show w4.cell? ⟨xb, 2, none⟩ = some (.int .i64 p.time) by simp [World.cell?, hxb])
  have m1 := hfn5 (j * 3)
  have m2 := hfn5 (j * 3 + 1)
  have m3 := hfn5 (j * 3 + 2)
  clear hcn hfn5 z0 y0 y1 y2 z1 z2 z3 x0 x1 x2 x3 x4 u0 u1 u2 u3 u4 hxb
  go_wp2_with fail
  obtain ⟨w5, hw5⟩ : ∃ w5, (w4.setCell ⟨gc, y.b.toNat, none⟩ (.int .i64 (ct - 1))).drew = w5 := ⟨_, rfl⟩
  rw [hw5] at n1 n2 n3 n4 n5 n6 n7 n8 m1 m2 m3 ⊢
  have HW5 := Lib.hid hw5.symm
  clear hw5
  refine wp_region_till (T := fun j => j == 10) (S := fun w' => w'.cell? ⟨q.bw, 1, none⟩ = some (.pointer (some ⟨q.g2, q.k * 5, none⟩)) ∧ w'.cell? ⟨q.g2, q.k * 5 + 4, none⟩ = some (.slice (some ⟨gm, 0, none⟩) L cm) ∧ w'.cell? ⟨xb, 0, none⟩ = some (.int .i64 v) ∧ w'.cell? ⟨xb, 1, none⟩ = some (.int .i64 (f : Nat)) ∧ w'.cell? ⟨xb, 2, none⟩ = some (.int .i64 p.time)) (by kernel_rfl) (⟨n1, n2, n6, n7, n8⟩) (fun hHeld => ?_)
  refine wpTill_put 0 89 (oi := _) (v := ?_) rfl rfl (by kernel_rfl) (by kernel_rfl) (by kernel_rfl) (by kernel_rfl) (fun _ _ _ h => h) (by rfl) hHeld ?_ ?_
  rotate_left
  · (intro w hSw; go_simp; (try with_reducible rfl))
  (try simp only [Act.put, List.setIfInBounds_toArray, List.set_cons_zero, List.set_cons_succ])
  refine wpTill_put 1 90 (oi := _) (v := ?_) rfl rfl (by kernel_rfl) (by kernel_rfl) (by kernel_rfl) (by kernel_rfl) (fun _ _ _ h => h) (by rfl) hHeld ?_ ?_
  rotate_left
  · (intro w hSw; go_simp; (try with_reducible rfl))
  (try simp only [Act.put, List.setIfInBounds_toArray, List.set_cons_zero, List.set_cons_succ])
  refine wpTill_put 2 91 (oi := _) (v := ?_) rfl rfl (by kernel_rfl) (by kernel_rfl) (by kernel_rfl) (by kernel_rfl) (fun _ _ _ h => h) (by rfl) hHeld ?_ ?_
  rotate_left
  · (intro w hSw; go_simp; (try with_reducible rfl))
  (try simp only [Act.put, List.setIfInBounds_toArray, List.set_cons_zero, List.set_cons_succ])
  refine wpTill_put 3 92 (oi := _) (v := ?_) rfl rfl (by kernel_rfl) (by kernel_rfl) (by kernel_rfl) (by kernel_rfl) (fun _ _ _ h => h) (by rfl) hHeld ?_ ?_
  rotate_left
  · (intro w hSw; have l1 := hSw.1; go_simp; (try with_reducible rfl))
  (try simp only [Act.put, List.setIfInBounds_toArray, List.set_cons_zero, List.set_cons_succ])
  refine wpTill_put 4 93 (oi := _) (v := ?_) rfl rfl (by kernel_rfl) (by kernel_rfl) (by kernel_rfl) (by kernel_rfl) (fun _ _ _ h => h) (by rfl) hHeld ?_ ?_
  rotate_left
  · (intro w hSw; go_simp; (try with_reducible rfl))
  (try simp only [Act.put, List.setIfInBounds_toArray, List.set_cons_zero, List.set_cons_succ])
  refine wpTill_put 5 94 (oi := _) (v := ?_) rfl rfl (by kernel_rfl) (by kernel_rfl) (by kernel_rfl) (by kernel_rfl) (fun _ _ _ h => h) (by rfl) hHeld ?_ ?_
  rotate_left
  · (intro w hSw; go_simp; (try with_reducible rfl))
  (try simp only [Act.put, List.setIfInBounds_toArray, List.set_cons_zero, List.set_cons_succ])
  refine wpTill_put 6 95 (oi := _) (v := ?_) rfl rfl (by kernel_rfl) (by kernel_rfl) (by kernel_rfl) (by kernel_rfl) (fun _ _ _ h => h) (by rfl) hHeld ?_ ?_
  rotate_left
  · (intro w hSw; have l1 := hSw.2.1; go_simp; (try with_reducible rfl))
  (try simp only [Act.put, List.setIfInBounds_toArray, List.set_cons_zero, List.set_cons_succ])
  refine wpTill_put 7 96 (oi := _) (v := ?_) rfl rfl (by kernel_rfl) (by kernel_rfl) (by kernel_rfl) (by kernel_rfl) (fun _ _ _ h => h) (by rfl) hHeld ?_ ?_
  rotate_left
  · (intro w hSw; go_simp; (try with_reducible rfl))
  (try simp only [Act.put, List.setIfInBounds_toArray, List.set_cons_zero, List.set_cons_succ])
  refine wpTill_put 8 97 (oi := _) (v := ?_) rfl rfl (by kernel_rfl) (by kernel_rfl) (by kernel_rfl) (by kernel_rfl) (fun _ _ _ h => h) (by rfl) hHeld ?_ ?_
  rotate_left
  · (intro w hSw; obtain ⟨_, _, l1, l2, l3⟩ := hSw; go_simp; (try with_reducible rfl))
  (try simp only [Act.put, List.setIfInBounds_toArray, List.set_cons_zero, List.set_cons_succ])
  refine wpTill_put 9 98 (oi := _) (v := ?_) rfl rfl (by kernel_rfl) (by kernel_rfl) (by kernel_rfl) (by kernel_rfl) (fun _ _ _ h => h) (by rfl) hHeld ?_ ?_
  rotate_left
  · (intro w hSw; go_simp; (try with_reducible rfl))
  (try simp only [Act.put, List.setIfInBounds_toArray, List.set_cons_zero, List.set_cons_succ])
  refine wpTill_one 10 (o := _) (by kernel_rfl) rfl (fun K hK => ?_)
  go_simp
  refine hK.out _ _ (fun h => by cases h) (fun _ => ?_)
  clear hK K hHeld
  (try simp only [Act.put, List.setIfInBounds_toArray])
  refine wpTill_done (by kernel_rfl) ?_ _
  go_wp2_with fail
  go_ret
  exact ⟨rfl, HFIN.out w4 w5 _ hK4 HW5.out rfl⟩
end Go.Proofs.YtcdfbpdejbpgjaaGreat

/- (*model.writer).write: a mapping is put in. Condition: the writer's state holds. -/
namespace Go.Proofs.YtcdfbpdejbpgjaaGreat
open Go.RowKit
attribute [local go_sem] Oper.semAt_some

theorem setCell_comm {w : World} {p q : Addr} (u v : Value) (h : p.block ≠ q.block) : (w.setCell p u).setCell q v = (w.setCell q v).setCell p u := by
  unfold World.setCell
  simp only
  congr 1
  apply Array.ext_getElem?
  intro i
  simp only [Array.getElem?_modify]
  by_cases h1 : p.block = i
  · have h2 : ¬ q.block = i := fun e => h (h1.trans e.symm)
    simp [h1, h2]
  · by_cases h2 : q.block = i
    · simp [h1, h2]
    · simp [h1, h2]
/-- What is left once an inserting write has stored. -/
theorem ins_fin {w w4 w5 w6 w7 : World} {o : Obj} {q : Wp} {p pq : Pool} {M : Nat → Value} {next gc gn f cm c' j n' : Nat} {Am : Option Addr} {cs : List Int} {x : Mp} (h : WSt w q p M next) (hA : q.Ac = some ⟨gc, 0, none⟩) (hM : M q.k = .slice Am (mapsOf p q.k).length cm)
    (K : Wat w w4 q p M gc f cs) (hpq : pq = setMaps p q.k (insAt (mapsOf p q.k) j x)) (hj : j ≤ (mapsOf p q.k).length) (r1 : PoolFit pq) (r2 : refsRes pq = cs) (r3 : pq.count = p.count + 1) (r5 : ∀ j : Nat, j < f → 0 < nth 0 (refsRes pq) j) (hcs : cs.length = q.nc) (hf : f ≤ q.nc)
    (ho5 : w5.ownsRow q.base 40 3 (.slice (some ⟨gn, 0, none⟩) n' c') n' (insC (flats Mp.enc (mapsOf p q.k)) (j * 3) x.enc)) (hn' : n' = (mapsOf p q.k).length + 1) (hg5 : ((w4.alloc o).drew).grownBy w5 (Value.slice Am (mapsOf p q.k).length cm).ownBlock) (hat : (Value.slice Am (mapsOf p q.k).length cm).ownBlock = some gn ∨ gn = ((w4.alloc o).drew).heap.size)
    (e6 : w6 = w5.setCell ⟨q.g2, q.k * 5 + 4, none⟩ (.slice (some ⟨gn, 0, none⟩) n' c')) (e7 : w7 = w6.setCell ⟨q.bw, 4, none⟩ (.int .i64 (p.count + 1))) :
    Below q.base w w7 ∧ ∃ M', WSt w7 q pq M' f := by
  subst hn'
  have hk : q.k < p.devs.length := by rw [h.hn]; exact h.hk
  have hc0 := h.fc gc (by unfold Wp.cv; rw [hA]; rfl)
  have hmk := h.maps_.2.2.2
  have hwg : q.bw ≠ q.g2 := fun e => h.fw.1 (by rw [← e.symm]; rfl)
  -- the writer's count first, then the device's cell
  have ecomm : w7 = ((w5.setCell ⟨q.bw, 4, none⟩ (.int .i64 (p.count + 1))).setCell ⟨q.g2, q.k * 5 + 4, none⟩ (.slice (some ⟨gn, 0, none⟩) ((mapsOf p q.k).length + 1) c')) := by
    rw [e7, e6]
    exact setCell_comm (w := w5) (p := ⟨q.g2, q.k * 5 + 4, none⟩) (q := ⟨q.bw, 4, none⟩) _ _ (fun e => hwg e.symm)
  have tA : Touch (fun _ => False) w4 (w4.alloc o).drew := Touch.of_below (((Below.refl _ _).alloc (Nat.le_refl _) o).drew)
  have tB : Touch (fun y => (M q.k).ownBlock = some y) (w4.alloc o).drew w5 := Touch.of_grown hg5 (fun y hy => by rw [hM]; exact hy)
  have tC : Touch (fun y => (M q.k).ownBlock = some y) w4 w5 := (tA.weak (fun _ h => h.elim)).trans tB
  have tD : Touch (fun y => y = q.bw) w5 (w5.setCell ⟨q.bw, 4, none⟩ (.int .i64 (p.count + 1))) := Touch.set_ (R := fun y => y = q.bw) (p := ⟨q.bw, 4, none⟩) rfl
  have hwC : WBox w5 q.bw q.g q.g2 q.k (some ⟨gc, 0, none⟩) q.nc q.cc f p.count := K.wb.touch tC (fun e => (hmk _ e).2.2.1 rfl)
  have hwD := hwC.maps_ (p.count + 1)
  have hcC := own_touch K.cr tC (fun y hy e => by
    have e2 : gc = y := by simpa [Value.ownBlock] using hy
    exact hc0.1.2 _ hk (by rw [e2]; exact e))
  have hcD := own_touch hcC tD (fun y hy e => by
    have e2 : gc = y := by simpa [Value.ownBlock] using hy
    exact hc0.2.2.1 (e2.trans e))
  have hlt4 := K.t.size
  have hgn : gn ≠ q.bw := by
    intro e
    rcases hat with h1 | h1
    · rw [← hM] at h1; exact (hmk _ h1).2.2.1 e
    · have := h.wb.lt; simp at h1; omega
  have hmD : OwnMaps (w5.setCell ⟨q.bw, 4, none⟩ (.int .i64 (p.count + 1))) q.base (.slice (some ⟨gn, 0, none⟩) ((mapsOf p q.k).length + 1) c') (insAt (mapsOf p q.k) j x) := by
    show World.ownsRow _ _ _ 3 _ (insAt (mapsOf p q.k) j x).length (flats Mp.enc (insAt (mapsOf p q.k) j x))
    rw [insAt_length _ _ _ hj, ← insC_flats Mp.enc_len]
    exact own_touch ho5 tD (fun y hy e => by
      have e2 : gn = y := by simpa [Value.ownBlock] using hy
      exact hgn (e2.trans e))
  have T : Touch (fun y => y = q.bw ∨ q.cv.ownBlock = some y ∨ (M q.k).ownBlock = some y) w (w5.setCell ⟨q.bw, 4, none⟩ (.int .i64 (p.count + 1))) := by
    refine ((K.t.weak (fun y hy => ?_)).trans (tC.weak (fun y hy => ?_))).trans (tD.weak (fun y hy => ?_))
    · rcases hy with e | e
      · exact .inl e
      · right; left; unfold Wp.cv; rw [hA, e]; rfl
    · exact .inr (.inr hy)
    · exact .inl hy
  refine ⟨?_, _, h.ins hpq T hmD (fun y hy => ?_) ecomm ?_ ?_ (fit_iff.2 r1) ?_ hf r5⟩
  · rw [ecomm]
    have hBb : Below q.base w (w5.setCell ⟨q.bw, 4, none⟩ (.int .i64 (p.count + 1))) := T.below (fun y hy => by
      rcases hy with e | e | e
      · rw [e]; exact h.hw
      · exact (h.cr.lt y e).1
      · exact (h.od.lt.2 _ hk y e).1) h.hb
    exact hBb.setCell (p := ⟨q.g2, q.k * 5 + 4, none⟩) ((h.od.lt.1 q.g2 rfl).1) _
  · have e2 : gn = y := by simpa [Value.ownBlock] using hy
    rw [← e2]
    rcases hat with h1 | h1
    · exact .inl (by rw [hM]; exact h1)
    · right; simp at h1; omega
  · rw [hA, r3]; exact hwD
  · unfold Wp.cv; rw [hA, r2]; exact hcD
  · rw [r2]; exact hcs
theorem maps_one (l : List Mp) : ∀ u ∈ flats Mp.enc l, u.oneCell' = true := by
  intro u hu
  unfold flats at hu
  obtain ⟨m, _, h⟩ := List.mem_flatMap.1 hu
  simp only [Mp.enc, List.mem_cons, List.not_mem_nil, or_false] at h
  rcases h with rfl | rfl | rfl <;> rfl
/-- The cells that an inserting write reads. -/
theorem ins_at {w w4 : World} {q : Wp} {p : Pool} {M : Nat → Value} {next gc f cm : Nat} {Am : Option Addr} {cs : List Int} (h : WSt w q p M next) (hA : q.Ac = some ⟨gc, 0, none⟩) (hM : M q.k = .slice Am (mapsOf p q.k).length cm) (K : Wat w w4 q p M gc f cs) :
      w4.cell? ⟨q.g2, q.k * 5 + 4, none⟩ = some (.slice Am (mapsOf p q.k).length cm) ∧ (∀ o, w4.frozen? ⟨q.g2, o, none⟩ = false) ∧
      w4.ownsRow q.base 40 3 (.slice Am (mapsOf p q.k).length cm) (mapsOf p q.k).length (flats Mp.enc (mapsOf p q.k)) ∧
      (w4.cell? ⟨q.bw, 0, none⟩ = some (.pointer (some ⟨q.g, 0, none⟩)) ∧ w4.cell? ⟨q.bw, 1, none⟩ = some (.pointer (some ⟨q.g2, q.k * 5, none⟩)) ∧ w4.cell? ⟨q.bw, 2, none⟩ = some (.slice (some ⟨gc, 0, none⟩) q.nc q.cc) ∧ w4.cell? ⟨q.bw, 3, none⟩ = some (.int .i64 (f : Nat)) ∧ w4.cell? ⟨q.bw, 4, none⟩ = some (.int .i64 p.count)) ∧
      (w4.cell? ⟨q.g, 0, none⟩ = some (.int .i64 p.tx) ∧ w4.cell? ⟨q.g, 1, none⟩ = some (.int .i64 p.time) ∧ w4.cell? ⟨q.g, 2, none⟩ = some (.int .i64 p.unit) ∧ w4.cell? ⟨q.g, 3, none⟩ = some (.int .i64 p.data) ∧ w4.cell? ⟨q.g, 4, none⟩ = some (.slice (some ⟨q.g2, 0, none⟩) q.n q.c)) := by
  obtain ⟨m1, m2, m3, m4⟩ := Wat.maps_ h hA K
  rw [hM] at m1 m2
  exact ⟨m2, m3, m1, K.wb.cells, m4.cells⟩
set_option maxRecDepth 100000 in
set_option maxHeartbeats 3200000 in
theorem write_ins (w : World) (q : Wp) (p : Pool) (M : Nat → Value) (next : Nat) (v : Int) (h : WSt w q p M next) (hv : 0 ≤ v ∧ v ≤ 281474976710655) (hh : hasK Mp.v v (mapsOf p q.k) = false) (hcn : p.count < 16384) (hf : freeAt (refsRes p) ≠ (refsRes p).length) :
    Calls Tryz.prog 78 #[.pointer (some ⟨q.bw, 0, none⟩), .int .i64 v] w fun e w' => e = .returned (.int .i64 0) ∧ Below q.base w w' ∧
      ∃ M', WSt w' q (setMaps p q.k (insAt (mapsOf p q.k) (posK Mp.v v (mapsOf p q.k)) ⟨v, freeAt (refsRes p), p.time⟩)) M' (freeAt (refsRes p)) := by
  have hk : q.k < p.devs.length := by rw [h.hn]; exact h.hk
  have hfit := fit_iff.1 h.chk
  obtain ⟨r1, r2, r3, r5⟩ := wr_new hfit hk hv hh hcn hf
  obtain ⟨Am, cm, hM, hcm, hl, hs⟩ := h.srch v
  unfold SrchM at hs
  rw [hh] at hs
  have HB := Lib.hid h.base_
  rw [hM] at HB
  have hrl : q.nc ≤ 65536 := by have := refs_leng h.chk; have := h.len; have := pool_data h.chk; omega
  have hnc := h.len
  have hfn : freeAt (refsRes p) < q.nc := by have := freeAt_le (refsRes p); omega
  obtain ⟨gc, hAc⟩ : ∃ gc, q.Ac = some ⟨gc, 0, none⟩ := by
    obtain ⟨g', c', hv, _⟩ := own_form h.cr (by omega)
    injection hv with e1
    exact ⟨g', e1⟩
  rw [hAc] at HB
  have hc0 := h.fc gc (by unfold Wp.cv; rw [hAc]; rfl)
  have hnx : next ≤ freeAt (refsRes p) := by
    rcases Nat.lt_or_ge (freeAt (refsRes p)) next with hlt | hge
    · have h1 := h.low _ hlt
      have h2 := posK_at (f := fun x : Int => -x) (d := 0) (v := 0) (l := refsRes p) (by have : posK (fun x : Int => -x) 0 (refsRes p) = freeAt (refsRes p) := rfl; omega)
      have h2 : 0 ≤ -(nth 0 (refsRes p) (freeAt (refsRes p))) := h2
      omega
    · exact hge
  have HTK := Lib.hid (fun w1 (hT : Touch (fun _ => False) w w1) => take_some w1 q.base q.bw q.g q.g2 q.k gc q.nc q.cc next (freeAt (refsRes p)) p.count (refsRes p) (by have hx := (h.touch hT).wb; rw [hAc] at hx; exact hx) (by have hx := (h.touch hT).cr; unfold Wp.cv at hx; rw [hAc] at hx; exact hx) h.len hc0.2.2.1 hnx rfl hfn (fun j => by have := refs_nn p j; omega) hrl)
  have hhd := pool_head h.chk
  have hmk := h.maps_.2.2.2
  rw [hM] at hmk
  have hggc : q.g2 ≠ gc := fun e => hc0.1.1 (by rw [← e]; rfl)
  have hgw2 : q.g2 ≠ q.bw := fun e => h.fw.1 (by rw [← e]; rfl)
  generalize hcs : (refsRes p).set (freeAt (refsRes p)) (nth 0 (refsRes p) (freeAt (refsRes p)) + 1) = cs at *
  have hcsl : cs.length = q.nc := by rw [← hcs, List.length_set]; exact hnc
  have hjl : posK Mp.v v (mapsOf p q.k) ≤ (mapsOf p q.k).length := posK_le
  have HW4 := Lib.hid (fun w4 K => ins_at (w4 := w4) (f := freeAt (refsRes p)) (cs := cs) h hAc hM K)
  have HFIN := Lib.hid (fun w4 w5 w6 w7 o gn c' K ho5 hg5 hat e6 e7 => ins_fin (w4 := w4) (w5 := w5) (w6 := w6) (w7 := w7) (o := o) (gn := gn) (c' := c') (cs := cs) h hAc hM K rfl hjl r1 r2 r3 r5 hcsl (by omega) ho5 rfl hg5 hat e6 e7)
  have HONE := Lib.hid (maps_one (mapsOf p q.k))
  have HS := Lib.hid hs
  have hc2 : decide (16384 ≤ p.count) = false := by simp only [decide_eq_false_iff_not]; omega
  have hcp : 0 ≤ p.count := countL_nonneg _
  have hg2b : q.g2 < w.heap.size := (h.od.lt.1 q.g2 rfl).2
  have hbwb := h.wb.lt
  have hbb := h.hb
  have HAW := Lib.hid (fun x (hx : (Value.slice Am (mapsOf p q.k).length cm).ownBlock = some x) => (by have := (h.od.lt.2 _ hk x (by rw [hM]; exact hx)).2; exact this : x < w.heap.size))
  generalize hqq : setMaps p q.k (insAt (mapsOf p q.k) (posK Mp.v v (mapsOf p q.k)) ⟨v, freeAt (refsRes p), p.time⟩) = pq at *
  clear hqq
  have HMK := Lib.hid hmk
  have hgcw := hc0.2.2.1
  have hgcg := hc0.2.1
  clear hs h hM hh hcm hAc r1 r2 r3 r5 hf hfit hc0 hmk hnc hnx hcs hcsl
  generalize freeAt (refsRes p) = f at *
  generalize posK Mp.v v (mapsOf p q.k) = j at *
  generalize hxs : flats Mp.enc (mapsOf p q.k) = xs at *
  clear hxs
  generalize (mapsOf p q.k).length = L at *
  generalize hnq : q.nc = nc at *
  have HNQ := Lib.hid hnq
  clear hnq
  obtain ⟨z0, x0, x1, x2, x3, x4⟩ := HB.out w Touch.refl
  go_enter Tryz.func78, Tryz.ntmps78
  go_wp2_with (go_at_call 95; refine HS.out.mono ?_; rintro e w1 ⟨rfl, hB1⟩; have hT1 := Touch.of_below (R := fun _ => False) hB1; clear z0 x0 x1 x2 x3 x4; obtain ⟨z0, x0, x1, x2, x3, x4⟩ := HB.out w1 hT1)
  go_quiet (fail)
  have hT2 := hT1.trans (Touch.drewN (R := fun _ => False) nq)
  generalize w1.drewN nq = w2 at *
  clear z0 x0 x1 x2 x3 x4
  obtain ⟨z0, x0, x1, x2, x3, x4⟩ := HB.out w2 hT2
  go_wp2_with (go_at_call 97; refine (HTK.out _ hT2).mono ?_; rintro e w3 ⟨rfl, hW3, hC3, hT3⟩; clear z0 x0 x1 x2 x3 x4; have hK3 : Wat w w3 q p M gc f cs := ⟨(hT2.weak (fun _ h => h.elim)).trans hT3, by rw [HNQ.out]; exact hW3, by rw [HNQ.out]; exact hC3⟩; obtain ⟨z0, _, _, ⟨x0, x1, x2, x3, x4⟩, ⟨u0, u1, u2, u3, u4⟩⟩ := HW4.out w3 hK3)
  have hbl4 : Below w3.heap.size w3 (w3.alloc (.cells #[.int .i64 v, .int .i64 (f : Nat), .int .i64 p.time] 40)) := (Below.refl _ _).alloc (Nat.le_refl _) _
  have hxb := heap_alloc_new w3 (.cells #[.int .i64 v, .int .i64 (f : Nat), .int .i64 p.time] 40)
  have hK4 := hK3.more (Touch.of_below hbl4)
  have hsz3 := hK3.t.size
  obtain ⟨w4, hw4⟩ : ∃ w4, w3.alloc (.cells #[.int .i64 v, .int .i64 (f : Nat), .int .i64 p.time] 40) = w4 := ⟨_, rfl⟩
  rw [hw4] at hbl4 hxb hK4 ⊢
  have hsz4 := hK4.t.size
  have hxbl : w3.heap.size < w4.heap.size := (Array.getElem?_eq_some_iff.1 hxb).1
  obtain ⟨xb, hxb0⟩ : ∃ xb, w3.heap.size = xb := ⟨_, rfl⟩
  rw [hxb0] at hxb hxbl hsz3 ⊢
  clear hxb0 hw4 z0 x0 x1 x2 x3 x4 u0 u1 u2 u3 u4 hbl4 hK3 hW3 hC3 hT3 hT2
  obtain ⟨z0, z3, m1, ⟨x0, x1, x2, x3, x4⟩, ⟨u0, u1, u2, u3, u4⟩⟩ := HW4.out w4 hK4
  have HM1 := Lib.hid m1
  have HZ3 := Lib.hid z3
  have y0 : w4.cell? ⟨xb, 0, none⟩ = some (.int .i64 v) := by simp [World.cell?, hxb]
  have y1 : w4.cell? ⟨xb, 1, none⟩ = some (.int .i64 (f : Nat)) := by simp [World.cell?, hxb]
  have y2 : w4.cell? ⟨xb, 2, none⟩ = some (.int .i64 p.time) := by simp [World.cell?, hxb]
  clear m1 z3 hxb
  have hrr : w4.heap[q.bw]? = w4.heap[q.bw]? ∧ w4.heap[q.g2]? = w4.heap[q.g2]? ∧ w4.heap[xb]? = w4.heap[xb]? := ⟨rfl, rfl, rfl⟩
  have HRR := Lib.hid hrr
  clear hrr
  refine wp_region_till (T := fun j => j == 17) (S := fun w' => w'.heap[q.bw]? = w4.heap[q.bw]? ∧ w'.heap[q.g2]? = w4.heap[q.g2]? ∧ w'.heap[xb]? = w4.heap[xb]?) (by kernel_rfl) (HRR.out) (fun hHeld => ?_)
  refine wpTill_put 0 99 (oi := _) (v := ?_) rfl rfl (by kernel_rfl) (by kernel_rfl) (by kernel_rfl) (by kernel_rfl) (fun _ _ _ h => h) (by rfl) hHeld ?_ ?_
  rotate_left
  · (intro w hSw; go_simp; (try with_reducible rfl))
  (try simp only [Act.put, List.setIfInBounds_toArray, List.set_cons_zero, List.set_cons_succ])
  refine wpTill_put 1 100 (oi := _) (v := ?_) rfl rfl (by kernel_rfl) (by kernel_rfl) (by kernel_rfl) (by kernel_rfl) (fun _ _ _ h => h) (by rfl) hHeld ?_ ?_
  rotate_left
  · (intro w hSw; go_simp; (try with_reducible rfl))
  (try simp only [Act.put, List.setIfInBounds_toArray, List.set_cons_zero, List.set_cons_succ])
  refine wpTill_put 2 101 (oi := _) (v := ?_) rfl rfl (by kernel_rfl) (by kernel_rfl) (by kernel_rfl) (by kernel_rfl) (fun _ _ _ h => h) (by rfl) hHeld ?_ ?_
  rotate_left
  · (intro w hSw; go_simp; (try with_reducible rfl))
  (try simp only [Act.put, List.setIfInBounds_toArray, List.set_cons_zero, List.set_cons_succ])
  refine wpTill_put 3 102 (oi := _) (v := ?_) rfl rfl (by kernel_rfl) (by kernel_rfl) (by kernel_rfl) (by kernel_rfl) (fun _ _ _ h => h) (by rfl) hHeld ?_ ?_
  rotate_left
  · (intro w hSw; have l1 := (World.cell?_of_block (a := ⟨q.bw, 1, none⟩) hSw.1).trans x1; go_simp; (try with_reducible rfl))
  (try simp only [Act.put, List.setIfInBounds_toArray, List.set_cons_zero, List.set_cons_succ])
  refine wpTill_put 4 103 (oi := _) (v := ?_) rfl rfl (by kernel_rfl) (by kernel_rfl) (by kernel_rfl) (by kernel_rfl) (fun _ _ _ h => h) (by rfl) hHeld ?_ ?_
  rotate_left
  · (intro w hSw; go_simp; (try with_reducible rfl))
  (try simp only [Act.put, List.setIfInBounds_toArray, List.set_cons_zero, List.set_cons_succ])
  refine wpTill_put 5 104 (oi := _) (v := ?_) rfl rfl (by kernel_rfl) (by kernel_rfl) (by kernel_rfl) (by kernel_rfl) (fun _ _ _ h => h) (by rfl) hHeld ?_ ?_
  rotate_left
  · (intro w hSw; go_simp; (try with_reducible rfl))
  (try simp only [Act.put, List.setIfInBounds_toArray, List.set_cons_zero, List.set_cons_succ])
  refine wpTill_put 6 105 (oi := _) (v := ?_) rfl rfl (by kernel_rfl) (by kernel_rfl) (by kernel_rfl) (by kernel_rfl) (fun _ _ _ h => h) (by rfl) hHeld ?_ ?_
  rotate_left
  · (intro w hSw; go_simp; (try with_reducible rfl))
  (try simp only [Act.put, List.setIfInBounds_toArray, List.set_cons_zero, List.set_cons_succ])
  refine wpTill_put 7 106 (oi := _) (v := ?_) rfl rfl (by kernel_rfl) (by kernel_rfl) (by kernel_rfl) (by kernel_rfl) (fun _ _ _ h => h) (by rfl) hHeld ?_ ?_
  rotate_left
  · (intro w hSw; have l1 := (World.cell?_of_block (a := ⟨q.bw, 1, none⟩) hSw.1).trans x1; go_simp; (try with_reducible rfl))
  (try simp only [Act.put, List.setIfInBounds_toArray, List.set_cons_zero, List.set_cons_succ])
  refine wpTill_put 8 107 (oi := _) (v := ?_) rfl rfl (by kernel_rfl) (by kernel_rfl) (by kernel_rfl) (by kernel_rfl) (fun _ _ _ h => h) (by rfl) hHeld ?_ ?_
  rotate_left
  · (intro w hSw; go_simp; (try with_reducible rfl))
  (try simp only [Act.put, List.setIfInBounds_toArray, List.set_cons_zero, List.set_cons_succ])
  refine wpTill_put 9 108 (oi := _) (v := ?_) rfl rfl (by kernel_rfl) (by kernel_rfl) (by kernel_rfl) (by kernel_rfl) (fun _ _ _ h => h) (by rfl) hHeld ?_ ?_
  rotate_left
  · (intro w hSw; go_simp; (try with_reducible rfl))
  (try simp only [Act.put, List.setIfInBounds_toArray, List.set_cons_zero, List.set_cons_succ])
  refine wpTill_put 10 109 (oi := _) (v := ?_) rfl rfl (by kernel_rfl) (by kernel_rfl) (by kernel_rfl) (by kernel_rfl) (fun _ _ _ h => h) (by rfl) hHeld ?_ ?_
  rotate_left
  · (intro w hSw; have l1 := (World.cell?_of_block (a := ⟨q.g2, q.k * 5 + 4, none⟩) hSw.2.1).trans z0; go_simp; (try with_reducible rfl))
  (try simp only [Act.put, List.setIfInBounds_toArray, List.set_cons_zero, List.set_cons_succ])
  refine wpTill_put 11 110 (oi := _) (v := ?_) rfl rfl (by kernel_rfl) (by kernel_rfl) (by kernel_rfl) (by kernel_rfl) (fun _ _ _ h => h) (by rfl) hHeld ?_ ?_
  rotate_left
  · (intro w hSw; go_simp; (try with_reducible rfl))
  (try simp only [Act.put, List.setIfInBounds_toArray, List.set_cons_zero, List.set_cons_succ])
  refine wpTill_put 12 111 (oi := _) (v := ?_) rfl rfl (by kernel_rfl) (by kernel_rfl) (by kernel_rfl) (by kernel_rfl) (fun _ _ _ h => h) (by rfl) hHeld ?_ ?_
  rotate_left
  · (intro w hSw; have l1 := (World.cell?_of_block (a := ⟨xb, 0, none⟩) hSw.2.2).trans y0; have l2 := (World.cell?_of_block (a := ⟨xb, 1, none⟩) hSw.2.2).trans y1; have l3 := (World.cell?_of_block (a := ⟨xb, 2, none⟩) hSw.2.2).trans y2; go_simp; (try with_reducible rfl))
  (try simp only [Act.put, List.setIfInBounds_toArray, List.set_cons_zero, List.set_cons_succ])
  refine wpTill_one 13 (o := _) (by kernel_rfl) rfl (fun K hK => ?_)
  go_simp
  refine hK.out _ _ (fun _ => ⟨Below.heap_alloc w4.drew _ q.bw (by show q.bw < w4.heap.size; omega), Below.heap_alloc w4.drew _ q.g2 (by show q.g2 < w4.heap.size; omega), Below.heap_alloc w4.drew _ xb hxbl⟩) (fun _ => ?_)
  clear hK K hHeld
  (try simp only [Act.put, List.setIfInBounds_toArray])
  refine wpTill_one 14 (o := _) (by kernel_rfl) rfl (fun K hK => ?_)
  go_simp
  refine (insM_any ((w4.alloc (.cells #[.int .i64 v, .int .i64 (f : Nat), .int .i64 p.time] 40)).drew) q.base (.slice Am L cm) L j w4.heap.size xs (Mp.enc ⟨v, (f : Nat), p.time⟩) ((HM1.out.alloc _).drew) hjl (by omega) (by simp; omega) (heap_alloc_new w4 _) (fun e => by have := HAW.out _ e; omega) rfl (Mp.enc_one _) HONE.out).mono ?_
  rintro e w5 ⟨gn, c5, rfl, ho5, hg5, hat⟩
  have hS5 : w5.heap[q.bw]? = w4.heap[q.bw]? ∧ w5.heap[q.g2]? = w4.heap[q.g2]? ∧ w5.heap[xb]? = w4.heap[xb]? := ⟨(hg5.block q.bw (by simp; omega) (fun e => (HMK.out _ e.symm).2.2.1 rfl)).trans (Below.heap_alloc w4 _ q.bw (by omega)), (hg5.block q.g2 (by simp; omega) (fun e => (HMK.out _ e.symm).1 rfl)).trans (Below.heap_alloc w4 _ q.g2 (by omega)), (hg5.block xb (by simp; omega) (fun e => by have := HAW.out _ e.symm; omega)).trans (Below.heap_alloc w4 _ xb hxbl)⟩
  have hHeld := hS5
  refine hK.out _ _ (fun _ => hHeld) (fun _ => ?_)
  clear hK K
  (try simp only [Act.put, List.setIfInBounds_toArray])
  refine wpTill_one 15 (o := _) (by kernel_rfl) rfl (fun K hK => ?_)
  go_simp
  refine hK.out _ _ (fun _ => hHeld) (fun _ => ?_)
  clear hK K
  (try simp only [Act.put, List.setIfInBounds_toArray])
  refine wpTill_put 16 115 (oi := _) (v := ?_) rfl rfl (by kernel_rfl) (by kernel_rfl) (by kernel_rfl) (by kernel_rfl) (fun _ _ _ h => h) (by rfl) hHeld ?_ ?_
  rotate_left
  · (intro w hSw; go_simp; (try with_reducible rfl))
  (try simp only [Act.put, List.setIfInBounds_toArray, List.set_cons_zero, List.set_cons_succ])
  refine wpTill_one 17 (o := _) (by kernel_rfl) rfl (fun K hK => ?_)
  have l1 := (World.cell?_of_block (a := ⟨q.g2, q.k * 5 + 4, none⟩) hS5.2.1).trans z0; have l2 : w5.frozen? ⟨q.g2, q.k * 5 + 4, none⟩ = false := (by have h := HZ3.out (q.k * 5 + 4); unfold World.frozen? at h ⊢; rw [hS5.2.1]; exact h)
  go_simp
  refine hK.out _ _ (fun h => by cases h) (fun _ => ?_)
  clear hK K hHeld
  (try simp only [Act.put, List.setIfInBounds_toArray])
  refine wpTill_done (by kernel_rfl) ?_ _
  have n4 : (w5.setCell ⟨q.g2, q.k * 5 + 4, none⟩ (.slice (some ⟨gn, 0, none⟩) (L + 1) c5)).cell? ⟨q.bw, 4, none⟩ = some (.int .i64 p.count) := (World.cell?_setCell_other w5 ⟨q.g2, q.k * 5 + 4, none⟩ ⟨q.bw, 4, none⟩ _ (fun e => hgw2 (congrArg Addr.block e))).trans ((World.cell?_of_block (a := ⟨q.bw, 4, none⟩) hS5.1).trans x4)
  have n5 : (w5.setCell ⟨q.g2, q.k * 5 + 4, none⟩ (.slice (some ⟨gn, 0, none⟩) (L + 1) c5)).frozen? ⟨q.bw, 4, none⟩ = false := by
    rw [World.frozen?_setCell]
    have h := hK4.wb.free 4
    unfold World.frozen? at h ⊢
    rw [hS5.1]; exact h
  have HFI := Lib.hid (fun w6 w7 e6 e7 => HFIN.out w4 w5 w6 w7 _ gn c5 hK4 ho5 hg5 hat e6 e7)
  clear ho5 hg5 hat hS5 z0 x0 x1 x2 x3 x4 u0 u1 u2 u3 u4 y0 y1 y2
  go_wp2_with fail
  go_ret
  exact ⟨rfl, HFI.out _ _ rfl rfl⟩
end Go.Proofs.YtcdfbpdejbpgjaaGreat

/- model.write: virtual blocks, one by one. Condition: the pool may be, and lies in memory of the call's own. -/
namespace Go.Proofs.YtcdfbpdejbpgjaaGreat
open Go.RowKit
attribute [local go_sem] Oper.semAt_some

theorem fit_ok {p : Pool} (h : PoolFit p) : p.ok := by
  obtain ⟨⟨h1, h2, h3, h4⟩, h5, h6, h7, h8⟩ := h
  refine ⟨⟨by omega, by omega⟩, ⟨by omega, by omega⟩, ⟨by omega, by omega⟩, ⟨by omega, by omega⟩, fun d hd => ?_, by omega⟩
  obtain ⟨f1, f2, f3, f4, f5, f6⟩ := h8 d hd
  refine ⟨⟨by omega, by omega⟩, ⟨by omega, by omega⟩, ⟨by omega, by omega⟩, ⟨by omega, by omega⟩, fun m hm => ?_, ?_⟩
  · obtain ⟨g1, g2, g3⟩ := f6 m hm
    exact ⟨⟨by omega, by omega⟩, ⟨by omega, by omega⟩, ⟨by omega, by omega⟩⟩
  · obtain ⟨k, hk, rfl⟩ := List.mem_iff_getElem.1 hd
    have e1 := countL_take p.devs k hk
    have e2 := countL_take_le p.devs (k + 1)
    have e3 := countL_nonneg (p.devs.take k)
    have e4 : countL p.devs ≤ 16384 := h6
    rw [nth_get dev0 _ k hk] at e1
    omega
/-- What one write leaves. -/
def WrIs (w : World) (q : Wp) (p : Pool) (v : Int) (e : Ending) (w' : World) : Prop :=
  e = .returned (.int .i64 (wr1 p q.k v).1) ∧ Below q.base w w' ∧ ((wr1 p q.k v).1 = 0 → ∃ M' next', WSt w' q (wr1 p q.k v).2 M' next')
theorem write_any (w : World) (q : Wp) (p : Pool) (M : Nat → Value) (next : Nat) (v : Int) (h : WSt w q p M next) (hv : 0 ≤ v ∧ v ≤ 281474976710655) :
    Calls Tryz.prog 78 #[.pointer (some ⟨q.bw, 0, none⟩), .int .i64 v] w (WrIs w q p v) := by
  have hk : q.k < p.devs.length := by rw [h.hn]; exact h.hk
  unfold WrIs
  by_cases h1 : hasK Mp.v v (mapsOf p q.k) = true ∧ cntAt p q.k (posK Mp.v v (mapsOf p q.k)) = 1
  · have e : wr1 p q.k v = (0, p) := by unfold wr1; rw [if_pos h1]
    rw [e]
    exact (write_same w q p M next v h h1.1 h1.2).mono fun e w' ⟨he, hT⟩ => ⟨he, hT.below (fun _ h => h.elim) h.hb, fun _ => ⟨M, next, h.touch hT⟩⟩
  · by_cases h2 : hasK Mp.v v (mapsOf p q.k) = false ∧ 16384 ≤ p.count
    · have e : wr1 p q.k v = (2, p) := by unfold wr1; rw [if_neg h1, if_pos h2]
      rw [e]
      exact (write_full w q p M next v h h2.1 h2.2).mono fun e w' ⟨he, hT⟩ => ⟨he, hT.below (fun _ h => h.elim) h.hb, fun h => by cases h⟩
    · by_cases h3 : freeAt (refsRes p) = (refsRes p).length
      · have e : wr1 p q.k v = (14, p) := by unfold wr1; rw [if_neg h1, if_neg h2, if_pos h3]
        rw [e]
        exact (write_none w q p M next v h h1 h2 h3).mono fun e w' ⟨he, hT⟩ => ⟨he, hT.below (fun x hx => by rw [hx]; exact h.hw) h.hb, fun h => by cases h⟩
      · cases hh : hasK Mp.v v (mapsOf p q.k) with
        | true =>
          have e : wr1 p q.k v = (0, setMaps p q.k ((mapsOf p q.k).set (posK Mp.v v (mapsOf p q.k)) ⟨v, freeAt (refsRes p), p.time⟩)) := by unfold wr1; rw [if_neg h1, if_neg h2, if_neg h3, if_pos hh]
          rw [e]
          exact (write_put w q p M next v h hv hh (fun e => h1 ⟨hh, e⟩) h3).mono fun e w' ⟨he, hT, hS⟩ => ⟨he, hT.below (fun x hx => by
            rcases hx with e | e | e
            · rw [e]; exact h.hw
            · exact (h.cr.lt x e).1
            · exact (h.od.lt.2 _ hk x e).1) h.hb, fun _ => ⟨M, _, hS⟩⟩
        | false =>
          have hc : p.count < 16384 := by
            rcases Int.lt_or_le p.count 16384 with h | h
            · exact h
            · exact absurd ⟨hh, h⟩ h2
          have e : wr1 p q.k v = (0, setMaps p q.k (insAt (mapsOf p q.k) (posK Mp.v v (mapsOf p q.k)) ⟨v, freeAt (refsRes p), p.time⟩)) := by unfold wr1; rw [if_neg h1, if_neg h2, if_neg h3, if_neg (by rw [hh]; simp)]
          rw [e]
          exact (write_ins w q p M next v h hv hh hc h3).mono fun e w' ⟨he, hB, M', hS⟩ => ⟨he, hB, fun _ => ⟨M', _, hS⟩⟩
theorem wrN_stop {p : Pool} {k : Nat} {v : Int} {n : Nat} (h : (wr1 p k v).1 ≠ 0) : wrN p k v (n + 1) = wr1 p k v := by
  show (if (wr1 p k v).1 ≠ 0 then wr1 p k v else _) = _
  rw [if_pos h]
theorem wrN_next {p : Pool} {k : Nat} {v : Int} {n : Nat} (h : (wr1 p k v).1 = 0) : wrN p k v (n + 1) = wrN (wr1 p k v).2 k (v + 1) n := by
  show (if (wr1 p k v).1 ≠ 0 then wr1 p k v else _) = _
  rw [if_neg (by simpa using h)]
theorem WSt.own {w : World} {q : Wp} {p : Pool} {M : Nat → Value} {next : Nat} (h : WSt w q p M next) : OwnP w q.base q.g p :=
  ⟨some ⟨q.g2, 0, none⟩, q.c, M, by have := h.pb; rw [← h.hn] at this; exact this, h.hg, by have := h.od; unfold Wp.dv at this; rw [← h.hn] at this; exact this, by have := h.fg; unfold Wp.dv at this; rw [← h.hn] at this; exact this⟩
/-- The state as the writer is made. -/
theorem WSt.start {w w1 : World} {base g g2 c k bo nc cc n : Nat} {Ac : Option Addr} {p : Pool} {M : Nat → Value} {o : Mop} (hn : p.devs.length = n) (h1 : PBox w g p (some ⟨g2, 0, none⟩) n c) (hg : base ≤ g) (h3 : OwnDevs w base (.slice (some ⟨g2, 0, none⟩) n c) p.devs M) (h4 : Far (.slice (some ⟨g2, 0, none⟩) n c) p.devs M g)
    (hm : MBox w1 bo o) (hbo : w.heap.size ≤ bo) (hB : Below w.heap.size w w1) {cb : Nat} (hcb : bo < cb) (hcr : w1.ownsRow cb 3 1 (.slice Ac nc cc) nc (flats encI (refsRes p))) (hlen : (refsRes p).length = nc) (hchk : poolChk p = 0) (hk : k < n) :
    WSt (w1.alloc (.cells #[.pointer (some ⟨g, 0, none⟩), .pointer (some ⟨g2, k * 5, none⟩), .slice Ac nc cc, .int .i64 0, .int .i64 p.count] 109)) ⟨base, g, g2, c, k, w1.heap.size, bo, nc, cc, Ac, o, n⟩ p M 0 := by
  subst hn
  have hz := hB.size
  have hal : Below w1.heap.size w1 (w1.alloc (.cells #[.pointer (some ⟨g, 0, none⟩), .pointer (some ⟨g2, k * 5, none⟩), .slice Ac nc cc, .int .i64 0, .int .i64 p.count] 109)) := (Below.refl _ _).alloc (Nat.le_refl _) _
  have hmlt := hm.lt
  have hfar : ∀ x, w.heap.size ≤ x → Far (.slice (some ⟨g2, 0, none⟩) p.devs.length c) p.devs M x := fun x hx => h3.far_new hx
  have hgl := h1.lt
  exact
    { pb := ((h1.below hB hgl).below hal (by omega)), od := (h3.below hB).below hal, hn := rfl
      fg := h4, fw := hfar _ (by show w.heap.size ≤ w1.heap.size; omega), fo := hfar _ hbo
      fc := fun x hx => by
        have h5 := hcr.lt x hx
        exact ⟨hfar x (by omega), by show x ≠ g; omega, by show x ≠ w1.heap.size; omega, by show x ≠ bo; omega⟩
      wb := heap_alloc_new w1 _, cr := own_low (hcr.alloc _) (by show base ≤ cb; omega)
      mb := hm.below hal hmlt, chk := hchk, len := hlen, nx := Nat.zero_le _, low := fun j hj => by omega, hk := hk, hg := hg, hw := by show base ≤ w1.heap.size; omega
      hb := by show base ≤ _; simp; omega
      gw := by show g ≠ w1.heap.size; omega
      go_ := by show g ≠ bo; omega
      wo := by show w1.heap.size ≠ bo; omega }
set_option maxRecDepth 100000 in
set_option maxHeartbeats 3200000 in
theorem writes_any (w : World) (base g : Nat) (p : Pool) (o : Mop) (h : OwnP w base g p) (hpc : poolChk p = 0) (hb : base ≤ w.heap.size) :
    Calls Tryz.prog 48 #[.pointer (some ⟨g, 0, none⟩), mopV o] w (DoIs w base g (writeF p o)) := by
  have hwb : Below w.heap.size w (w.alloc (.cells #[.int .i64 o.kind, .int .i64 o.dev, .int .i64 o.arg, .int .i64 o.n] 44)) := (Below.refl _ _).alloc (Nat.le_refl _) _
  by_cases hbe : blkE p o = 0
  · obtain ⟨e1, e2, e3, e4, e5, e6⟩ := blkE_ok hbe
    obtain ⟨hk, _⟩ := hasK_at (d := dev0) (v := o.dev) (incK_devs hpc) e1
    have hk : dpos p o.dev < p.devs.length := hk
    have hok := fit_ok (fit_iff.1 hpc)
    obtain ⟨A, c, M, h1, h2, h3, h4⟩ := h
    obtain ⟨g2, c2, hv, hbg2, hg2⟩ : ∃ g2 c2, (Value.slice A p.devs.length c) = .slice (some ⟨g2, 0, none⟩) p.devs.length c2 ∧ base ≤ g2 ∧ g2 < w.heap.size := by
      obtain ⟨xs, r1, _⟩ := h3
      obtain ⟨g2, c2, h1, h2, h3, _⟩ := own_form r1 (by omega)
      exact ⟨g2, c2, h1, h2, h3⟩
    injection hv with v1 v2 v3
    subst v1 v3
    have HMB := Lib.hid (fun w' (hB : Below (w.alloc (.cells #[.int .i64 o.kind, .int .i64 o.dev, .int .i64 o.arg, .int .i64 o.n] 44)).heap.size (w.alloc (.cells #[.int .i64 o.kind, .int .i64 o.dev, .int .i64 o.arg, .int .i64 o.n] 44)) w') => (MBox.new w o).below hB (MBox.new w o).lt)
    have HBK := Lib.hid (fun w' (hB : Below w.heap.size w w') => blocks_ok w' base g g2 c p o M (h1.below hB h1.lt) h2 (h3.below hB) h4 hpc hbe)
    have HP := Lib.hid (fun w' (hB : Below w.heap.size w w') => h1.below hB h1.lt)
    have HRF := Lib.hid (fun w' (hB : Below w.heap.size w w') => refsO_any w' (Btw base w'.heap.size) _ p (fun b hb => hb.2) (OwnP.isp (h3.below hB)) hok)
    have HCT := Lib.hid (fun w' (hB : Below w.heap.size w w') => count_any w' (Btw base w'.heap.size) _ p (fun b hb => hb.2) (OwnP.isp (h3.below hB)) (by have := pool_len hpc; omega) (by have := (fit_iff.1 hpc).2.2.1; omega))
    have HST := Lib.hid (fun w1 Ac nc cc cb (hB : Below w.heap.size w w1) (hm : MBox w1 w.heap.size o) hcb hcr hlen => WSt.start (w := w) (w1 := w1) (base := base) (g := g) (g2 := g2) (c := c) (k := dpos p o.dev) (bo := w.heap.size) (nc := nc) (cc := cc) (Ac := Ac) (cb := cb) (o := o) rfl h1 h2 h3 h4 hm (Nat.le_refl _) hB hcb hcr hlen hpc hk)
    have hdf : writeF p o = wrN p (dpos p o.dev) o.arg o.n.toNat := by unfold writeF; rw [if_neg (by rw [hbe]; simp)]
    rw [hdf]
    have hgw := h1.lt
    have hnn := pool_len hpc
    clear h1 h3 h4 hdf hbe e1 hok
    generalize hrr : wrN p (dpos p o.dev) o.arg o.n.toNat = r at *
    have HRR := Lib.hid hrr
    clear hrr
    generalize dpos p o.dev = k at *
    generalize hnl : p.devs.length = n at *
    clear hnl
    unfold mopV at *
    go_enter Tryz.func48, Tryz.ntmps48
    go_wp2_with (go_at_call 76; refine (HBK.out _ hwb).mono ?_; rintro e w2 ⟨rfl, hB2⟩; have hk2 := hwb.trans (hB2.mono hwb.size))
    have hm2 := HMB.out _ hB2
    have hp2 := HP.out _ hk2
    have hz2 := hk2.size
    clear hwb hB2
    refine wp_region_till (T := fun _ => false) (S := fun w' => PBox w' g p (some ⟨g2, 0, none⟩) n c) (by kernel_rfl) (hp2) (fun hHeld => ?_)
    refine wpTill_put 0 19 (oi := _) (v := ?_) rfl rfl (by kernel_rfl) (by kernel_rfl) (by kernel_rfl) (by kernel_rfl) (fun _ _ _ h => h) (by rfl) hHeld ?_ ?_
    rotate_left
    · (intro w hSw; go_simp; (try with_reducible rfl))
    (try simp only [Act.put, List.setIfInBounds_toArray, List.set_cons_zero, List.set_cons_succ])
    refine wpTill_put 1 20 (oi := _) (v := ?_) rfl rfl (by kernel_rfl) (by kernel_rfl) (by kernel_rfl) (by kernel_rfl) (fun _ _ _ h => h) (by rfl) hHeld ?_ ?_
    rotate_left
    · (intro w hSw; go_simp; (try with_reducible rfl))
    (try simp only [Act.put, List.setIfInBounds_toArray, List.set_cons_zero, List.set_cons_succ])
    refine wpTill_put 2 21 (oi := _) (v := ?_) rfl rfl (by kernel_rfl) (by kernel_rfl) (by kernel_rfl) (by kernel_rfl) (fun _ _ _ h => h) (by rfl) hHeld ?_ ?_
    rotate_left
    · (intro w hSw; go_simp; (try with_reducible rfl))
    (try simp only [Act.put, List.setIfInBounds_toArray, List.set_cons_zero, List.set_cons_succ])
    refine wpTill_put 3 22 (oi := _) (v := ?_) rfl rfl (by kernel_rfl) (by kernel_rfl) (by kernel_rfl) (by kernel_rfl) (fun _ _ _ h => h) (by rfl) hHeld ?_ ?_
    rotate_left
    · (intro w hSw; go_simp; (try with_reducible rfl))
    (try simp only [Act.put, List.setIfInBounds_toArray, List.set_cons_zero, List.set_cons_succ])
    refine wpTill_put 4 23 (oi := _) (v := ?_) rfl rfl (by kernel_rfl) (by kernel_rfl) (by kernel_rfl) (by kernel_rfl) (fun _ _ _ h => h) (by rfl) hHeld ?_ ?_
    rotate_left
    · (intro w hSw; obtain ⟨l0, l1, l2, l3, l4⟩ := PBox.cells hSw; go_simp; (try with_reducible rfl))
    (try simp only [Act.put, List.setIfInBounds_toArray, List.set_cons_zero, List.set_cons_succ])
    refine wpTill_put 6 25 (oi := _) (v := ?_) rfl rfl (by kernel_rfl) (by kernel_rfl) (by kernel_rfl) (by kernel_rfl) (fun _ _ _ h => h) (by rfl) hHeld ?_ ?_
    rotate_left
    · (intro w hSw; go_simp; (try with_reducible rfl))
    (try simp only [Act.put, List.setIfInBounds_toArray, List.set_cons_zero, List.set_cons_succ])
    refine wpTill_put 7 26 (oi := _) (v := ?_) rfl rfl (by kernel_rfl) (by kernel_rfl) (by kernel_rfl) (by kernel_rfl) (fun _ _ _ h => h) (by rfl) hHeld ?_ ?_
    rotate_left
    · (intro w hSw; go_simp; (try with_reducible rfl))
    (try simp only [Act.put, List.setIfInBounds_toArray, List.set_cons_zero, List.set_cons_succ])
    refine wpTill_put 8 27 (oi := _) (v := ?_) rfl rfl (by kernel_rfl) (by kernel_rfl) (by kernel_rfl) (by kernel_rfl) (fun _ _ _ h => h) (by rfl) hHeld ?_ ?_
    rotate_left
    · (intro w hSw; obtain ⟨l0, l1, l2, l3, l4⟩ := PBox.cells hSw; go_simp; (try with_reducible rfl))
    (try simp only [Act.put, List.setIfInBounds_toArray, List.set_cons_zero, List.set_cons_succ])
    refine wpTill_one 5 (o := _) (by kernel_rfl) rfl (fun K hK => ?_)
    go_simp
    refine (HRF.out w2.drew (hk2.trans ⟨rfl, rfl, rfl, Nat.le_refl _, fun _ _ => rfl⟩)).mono ?_
    rintro e w3 ⟨v3, rfl, ⟨Ac, cc, rfl, hcc, ho3⟩, hB3⟩
    have hB3' : Below w2.heap.size w2 w3 := ⟨hB3.os, hB3.tape, hB3.output, hB3.size, hB3.block⟩
    have hk3 := hk2.trans (hB3'.mono hz2)
    have hm3 := hm2.below hB3' hm2.lt
    have hp3 := HP.out _ hk3
    have hHeld := hp3
    refine hK.out _ _ (fun _ => hHeld) (fun _ => ?_)
    clear hK K
    (try simp only [Act.put, List.setIfInBounds_toArray])
    refine wpTill_one 9 (o := _) (by kernel_rfl) rfl (fun K hK => ?_)
    go_simp
    refine (HCT.out w3 hk3).mono ?_
    rintro e w4 ⟨rfl, hB4⟩
    have hk4 := hk3.trans (hB4.mono hk3.size)
    have hm4 := hm3.below hB4 hm3.lt
    have hp4 := HP.out _ hk4
    have hHeld := hp4
    refine hK.out _ _ (fun _ => hHeld) (fun _ => ?_)
    clear hK K
    (try simp only [Act.put, List.setIfInBounds_toArray])
    refine wpTill_put 10 29 (oi := _) (v := ?_) rfl rfl (by kernel_rfl) (by kernel_rfl) (by kernel_rfl) (by kernel_rfl) (fun _ _ _ h => h) (by rfl) hHeld ?_ ?_
    rotate_left
    · (intro w hSw; go_simp; (try with_reducible rfl))
    (try simp only [Act.put, List.setIfInBounds_toArray, List.set_cons_zero, List.set_cons_succ])
    refine wpTill_one 11 (o := _) (by kernel_rfl) rfl (fun K hK => ?_)
    go_simp
    clear hHeld
    have hHeld := (Below.heap_alloc w4 (.cells #[.pointer (some ⟨g, 0, none⟩), .pointer (some ⟨g2, k * 5, none⟩), .slice Ac (refsRes p).length cc, .int .i64 0, .int .i64 p.count] 109) g hp4.lt).trans hp4
    refine hK.out _ _ (fun _ => hHeld) (fun _ => ?_)
    clear hK K
    (try simp only [Act.put, List.setIfInBounds_toArray])
    refine wpTill_put 12 7 (oi := _) (v := ?_) rfl rfl (by kernel_rfl) (by kernel_rfl) (by kernel_rfl) (by kernel_rfl) (fun _ _ _ h => h) (by rfl) hHeld ?_ ?_
    rotate_left
    · (intro w hSw; go_simp; (try with_reducible rfl))
    (try simp only [Act.put, List.setIfInBounds_toArray, List.set_cons_zero, List.set_cons_succ])
    refine wpTill_done (by kernel_rfl) ?_ _
    obtain ⟨nc, hnc⟩ : ∃ nc, (refsRes p).length = nc := ⟨_, rfl⟩
    rw [hnc] at ho3 ⊢
    have hS := HST.out w4 Ac nc cc w2.heap.size hk4 hm4 hm2.lt (own_below ho3 hB4 (fun x hx => (ho3.lt x hx).2)) hnc
    have hbW := (hk4.mono hb).alloc (by have := hk4.size; omega) (.cells #[.pointer (some ⟨g, 0, none⟩), .pointer (some ⟨g2, k * 5, none⟩), .slice Ac nc cc, .int .i64 0, .int .i64 p.count] 109)
    obtain ⟨W, hW⟩ : ∃ W, w4.alloc (.cells #[.pointer (some ⟨g, 0, none⟩), .pointer (some ⟨g2, k * 5, none⟩), .slice Ac nc cc, .int .i64 0, .int .i64 p.count] 109) = W := ⟨_, rfl⟩
    rw [hW] at hS hbW ⊢
    clear hW
    obtain ⟨bw, hbw⟩ : ∃ bw, w4.heap.size = bw := ⟨_, rfl⟩
    rw [hbw] at hS ⊢
    obtain ⟨bo, hbo⟩ : ∃ bo, w.heap.size = bo := ⟨_, rfl⟩
    rw [hbo] at hS ⊢
    clear hbw hp2 hp3 hp4 hm2 hm3 hm4 ho3 hB3 hB3' hB4 hk2 hk3 hk4 hz2 HMB HBK HP HRF HCT HST hcc hHeld
    obtain ⟨Q, hQ⟩ : ∃ Q : Wp, Q = ⟨base, g, g2, c, k, bw, bo, nc, cc, Ac, o, n⟩ := ⟨_, rfl⟩
    rw [← hQ] at hS
    have HWA := Lib.hid (fun wr p' M' nx v (hS : WSt wr Q p' M' nx) (hv : 0 ≤ v ∧ v ≤ 281474976710655) => (by
      have h := write_any wr Q p' M' nx v hS hv
      unfold WrIs at h
      subst hQ
      exact h : Calls Tryz.prog 78 #[.pointer (some ⟨bw, 0, none⟩), .int .i64 v] wr (fun e w' => e = .returned (.int .i64 (wr1 p' k v).1) ∧ Below base wr w' ∧ ((wr1 p' k v).1 = 0 → ∃ M' nx', WSt w' Q (wr1 p' k v).2 M' nx'))))
    have HMO := Lib.hid (fun wr p' M' nx (hS : WSt wr Q p' M' nx) => (by
      have h := hS.mb.cells
      subst hQ
      exact h : wr.cell? ⟨bo, 0, none⟩ = some (.int .i64 o.kind) ∧ wr.cell? ⟨bo, 1, none⟩ = some (.int .i64 o.dev) ∧ wr.cell? ⟨bo, 2, none⟩ = some (.int .i64 o.arg) ∧ wr.cell? ⟨bo, 3, none⟩ = some (.int .i64 o.n)))
    have HOW := Lib.hid (fun wr p' M' nx (hS : WSt wr Q p' M' nx) => (by
      have h := hS.own
      have hb := hS.hb
      subst hQ
      exact ⟨h, hb⟩ : OwnP wr base g p' ∧ base ≤ wr.heap.size))
    clear hQ
    have HS0 := Lib.hid hS
    obtain ⟨x0, x1, x2, x3⟩ := HMO.out _ _ _ _ hS
    clear hS
    have hsz : o.n.toNat ≤ 16384 := by omega
    have HR0 : Hid (wrN p k o.arg o.n.toNat = wrN p k (o.arg + ((0 : Nat) : Int)) (o.n.toNat - 0)) := Lib.hid (by simp)
    go_wp2_with fail
    go_loopw [8] (fun v wr => ∃ (t : Nat) (p' : Pool) (M' : Nat → Value) (nx : Nat), t ≤ o.n.toNat ∧ v = .int .i64 (o.arg + t) ∧ WSt wr Q p' M' nx ∧ Below base W wr ∧ Hid (wrN p k o.arg o.n.toNat = wrN p' k (o.arg + t) (o.n.toNat - t))) (fun v _ => (o.n - (intOf v - o.arg)).toNat)
    case atStart => exact ⟨0, p, M, 0, by omega, by simp, HS0.out, Below.refl _ _, HR0⟩
    case round =>
      obtain ⟨t, p', M', nx, ht, rfl, hSr, hBr, HRr⟩ := hrel
      clear x0 x1 x2 x3
      obtain ⟨x0, x1, x2, x3⟩ := HMO.out _ _ _ _ hSr
      have HSR := Lib.hid hSr
      have hbr := (HOW.out _ _ _ _ hSr).2
      clear hSr
      by_cases hlt : t < o.n.toNat
      · have hd1 : decide (o.arg + (t : Int) < o.arg + o.n) = true := by simp only [decide_eq_true_eq]; omega
        have hw1 : IntKind.i64.wrap (o.arg + o.n) = o.arg + o.n := IntWalk.i64_in _ (by omega)
        have hcall := HWA.out wr p' M' nx (o.arg + t) HSR.out (by omega)
        have hlt2 : o.arg + (t : Int) < o.arg + o.n := by omega
        obtain ⟨m, hm⟩ : ∃ m, o.n.toNat - t = m + 1 := ⟨o.n.toNat - t - 1, by omega⟩
        have HM := Lib.hid hm
        clear hm
        have hst := fun h => @wrN_stop p' k (o.arg + t) m h
        have hnx := fun h => @wrN_next p' k (o.arg + t) m h
        have HSTP := Lib.hid hst
        have HNXT := Lib.hid hnx
        clear hst hnx
        by_cases he : (wr1 p' k (o.arg + t)).1 = 0
        · rw [he] at hcall
          have HCA := Lib.hid hcall
          have HE := Lib.hid he
          clear hcall he
          go_wp2_with (go_at_call 78; refine HCA.out.mono ?_; rintro e w5 ⟨rfl, hB5, hS5⟩)
          go_roundw
          case rel =>
            obtain ⟨M5, nx5, hS5⟩ := hS5 trivial
            have hmm := HM.out
            exact ⟨t + 1, _, M5, nx5, by omega, by congr 1; omega, hS5, hBr.trans hB5, Lib.hid (by rw [HRr.out, HM.out, HNXT.out HE.out, show o.n.toNat - (t + 1) = m by omega, show o.arg + ((t + 1 : Nat) : Int) = o.arg + (t : Int) + 1 by omega])⟩
          case measure => simp [intOf]; omega
        · generalize hfe : (wr1 p' k (o.arg + t)).1 = fe at *
          have hf2 : (fe == 0) = false := by simpa using he
          have hf3 : (fe != 0) = true := by simpa using he
          have HFE := Lib.hid hfe
          have HCA := Lib.hid hcall
          clear hcall hfe
          go_wp2_with (go_at_call 78; refine HCA.out.mono ?_; rintro e w5 ⟨rfl, hB5, hS5⟩)
          go_ret
          have hr : r.1 = fe := by rw [← HRR.out, HRr.out, HM.out, HSTP.out he, HFE.out]
          exact ⟨(by show Ending.returned (.int .i64 fe) = _; rw [hr]), hbW.trans (hBr.trans hB5), fun h => absurd (hr.symm.trans h) he⟩
      · have hd1 : decide (o.arg + (t : Int) < o.arg + o.n) = false := by simp only [decide_eq_false_iff_not]; omega
        have hw1 : IntKind.i64.wrap (o.arg + o.n) = o.arg + o.n := IntWalk.i64_in _ (by omega)
        have hge : o.arg + o.n ≤ o.arg + (t : Int) := by omega
        go_wp2_with fail
        go_ret
        have hr : r = (0, p') := by rw [← HRR.out, HRr.out, show o.n.toNat - t = 0 by omega]; rfl
        rw [hr]
        exact ⟨rfl, hbW.trans hBr, fun _ => (HOW.out _ _ _ _ HSR.out).1⟩
  · obtain ⟨A, c, M, h1, h2, h3, h4⟩ := h
    have HBK := Lib.hid (fun w' (hB : Below w.heap.size w w') => blocks_bad w' base g p o ⟨A, c, M, h1.below hB h1.lt, h2, h3.below hB, h4⟩ hpc hbe)
    have hdf : writeF p o = (blkE p o, p) := by unfold writeF; rw [if_pos hbe]
    rw [hdf]
    clear h1 h2 h3 h4 hdf
    generalize blkE p o = fe at *
    have hf2 : (fe == 0) = false := by simpa using hbe
    have hf3 : (fe != 0) = true := by simpa using hbe
    unfold mopV at *
    go_enter Tryz.func48, Tryz.ntmps48
    go_wp2_with (go_at_call 76; refine (HBK.out _ hwb).mono ?_; rintro e w2 ⟨rfl, hB2⟩; have hk2 := hwb.trans (hB2.mono hwb.size))
    go_ret
    exact ⟨rfl, hk2.mono hb, fun h => absurd h hbe⟩
end Go.Proofs.YtcdfbpdejbpgjaaGreat

/- model.kinds: a map of what each kind does; what is found in it. No condition. -/
namespace Go.Proofs.YtcdfbpdejbpgjaaGreat
open Go.RowKit
attribute [local go_sem] Oper.semAt_some

theorem run_putK {P : Program} {w : World} {T K E r clock : Nat} {k : Int} {v : Value} {es : Array MapEntry} (hT : P.underlying T = some (.map K E)) (hK : P.underlying K = some (.int .i64)) (hb : w.heap[r]? = some (.map es clock)) (hf : Instr.findNow (.int .i64) (.int .i64 k) es.toList 0 = some none) :
    (Instr.mapUpdate T (.map (some r)) (.int .i64 k) v).run P w = .ok () { w with heap := w.heap.setIfInBounds r (.map (es.push { key := .int .i64 k, val := v, born := clock }) (clock + 1)) } := by
  have hc : (Instr.checkKey false 10000 K (.int .i64 k)).run P w = .ok () w := MapKept.run_checkKey (k := .int .i64 k) hK (by simp [MapKept.IsKey]) false 9999
  simp [Instr.mapUpdate, run_underlying hT, MapKept.run_getObj_map hb, hc, MapKept.run_findKey hK hf, MapKept.run_setObj_map _ hb, Result.andThen]
theorem run_lookK {P : Program} {w : World} {T K E r clock : Nat} {k : Int} {v z : Value} {ok : Bool} {es : Array MapEntry} {a : Option (Nat × Value)} (hT : P.underlying T = some (.map K E)) (hK : P.underlying K = some (.int .i64)) (hb : w.heap[r]? = some (.map es clock)) (hz : (zeroValue E).run P w = .ok z w)
    (hf : Instr.findNow (.int .i64) (.int .i64 k) es.toList 0 = some a) (hv : (match a with | some (_, v) => (v, true) | none => (z, false)) = (v, ok)) :
    (Instr.lookup T (.map (some r)) (.int .i64 k) true).run P w = .ok (.tuple #[v, .bool ok]) w := by
  have hc : ∀ b, (Instr.checkKey b 10000 K (.int .i64 k)).run P w = .ok () w := fun b => MapKept.run_checkKey (k := .int .i64 k) hK (by simp [MapKept.IsKey]) b 9999
  cases a with
  | none =>
    injection hv with h1 h2
    subst h1 h2
    simp [Instr.lookup, run_underlying hT, MapKept.run_getObj_map hb, hc, MapKept.run_findKey hK hf, hz, Result.andThen]
  | some x =>
    obtain ⟨i, u⟩ := x
    injection hv with h1 h2
    subst h1 h2
    simp [Instr.lookup, run_underlying hT, MapKept.run_getObj_map hb, hc, MapKept.run_findKey hK hf, Result.andThen]
theorem alloc_put (w : World) (o o' : Obj) : ({ (w.alloc o) with heap := (w.alloc o).heap.setIfInBounds w.heap.size o' } : World) = w.alloc o' := by
  have h : (w.heap.push o).setIfInBounds w.heap.size o' = w.heap.push o' := by
    apply Array.ext_getElem?
    intro i
    rw [Array.getElem?_setIfInBounds, Array.getElem?_push, Array.getElem?_push]
    by_cases hi : w.heap.size = i
    · subst hi; simp
    · rw [if_neg hi, if_neg (fun e => hi e.symm), if_neg (fun e => hi e.symm)]
  show ({ (w.alloc o) with heap := (w.heap.push o).setIfInBounds w.heap.size o' } : World) = w.alloc o'
  rw [h]
  rfl
def kEnt (k : Int) (f : Nat) (b : Nat) : MapEntry := { key := .int .i64 k, val := .func (.func f) #[] #[], born := b }
def kAll : Array MapEntry := #[kEnt 1 45 0, kEnt 2 46 1, kEnt 3 47 2, kEnt 4 48 3, kEnt 5 49 4, kEnt 6 50 5, kEnt 7 51 6]
theorem kinds_step (w : World) (T : Nat) (k : Int) (f n : Nat) (es : Array MapEntry) {K E : Nat} (hT : Tryz.prog.underlying T = some (.map K E)) (hK : Tryz.prog.underlying K = some (.int .i64)) (hf : Instr.findNow (.int .i64) (.int .i64 k) es.toList 0 = some none) :
    (Instr.mapUpdate T (.map (some w.heap.size)) (.int .i64 k) (.func (.func f) #[] #[])).run Tryz.prog (w.alloc (.map es n)) = .ok () (w.alloc (.map (es.push (kEnt k f n)) (n + 1))) := by
  rw [run_putK hT hK (heap_alloc_new w (.map es n)) hf]
  exact congrArg _ (alloc_put w _ _)
set_option maxRecDepth 100000 in
set_option maxHeartbeats 1600000 in
theorem kinds_any (w : World) : Calls Tryz.prog 25 #[] w fun e w' => e = .returned (.map (some w.heap.size)) ∧ w' = w.alloc (.map kAll 7) := by
  have hmm : ∀ w, (Instr.makeMap 61 none).run Tryz.prog w = .ok (.map (some w.heap.size)) (w.alloc (.map #[] 0)) := fun w => run_makeMap_plain w _
  have hT := Tryz.underlying61
  have hK := Tryz.underlying3
  have h1 := kinds_step w _ 1 45 0 #[] hT hK rfl
  have h2 := kinds_step w _ 2 46 1 (#[].push (kEnt 1 45 0)) hT hK rfl
  have h3 := kinds_step w _ 3 47 2 ((#[].push (kEnt 1 45 0)).push (kEnt 2 46 1)) hT hK rfl
  have h4 := kinds_step w _ 4 48 3 (((#[].push (kEnt 1 45 0)).push (kEnt 2 46 1)).push (kEnt 3 47 2)) hT hK rfl
  have h5 := kinds_step w _ 5 49 4 ((((#[].push (kEnt 1 45 0)).push (kEnt 2 46 1)).push (kEnt 3 47 2)).push (kEnt 4 48 3)) hT hK rfl
  have h6 := kinds_step w _ 6 50 5 (((((#[].push (kEnt 1 45 0)).push (kEnt 2 46 1)).push (kEnt 3 47 2)).push (kEnt 4 48 3)).push (kEnt 5 49 4)) hT hK rfl
  have h7 := kinds_step w _ 7 51 6 ((((((#[].push (kEnt 1 45 0)).push (kEnt 2 46 1)).push (kEnt 3 47 2)).push (kEnt 4 48 3)).push (kEnt 5 49 4)).push (kEnt 6 50 5)) hT hK rfl
  clear hT hK
  obtain ⟨w1, e1⟩ : ∃ x, w.alloc (.map #[] 0) = x := ⟨_, rfl⟩
  obtain ⟨w2, e2⟩ : ∃ x, w.alloc (.map (#[].push (kEnt 1 45 0)) (0 + 1)) = x := ⟨_, rfl⟩
  obtain ⟨w3, e3⟩ : ∃ x, w.alloc (.map ((#[].push (kEnt 1 45 0)).push (kEnt 2 46 1)) (1 + 1)) = x := ⟨_, rfl⟩
  obtain ⟨w4, e4⟩ : ∃ x, w.alloc (.map (((#[].push (kEnt 1 45 0)).push (kEnt 2 46 1)).push (kEnt 3 47 2)) (2 + 1)) = x := ⟨_, rfl⟩
  obtain ⟨w5, e5⟩ : ∃ x, w.alloc (.map ((((#[].push (kEnt 1 45 0)).push (kEnt 2 46 1)).push (kEnt 3 47 2)).push (kEnt 4 48 3)) (3 + 1)) = x := ⟨_, rfl⟩
  obtain ⟨w6, e6⟩ : ∃ x, w.alloc (.map (((((#[].push (kEnt 1 45 0)).push (kEnt 2 46 1)).push (kEnt 3 47 2)).push (kEnt 4 48 3)).push (kEnt 5 49 4)) (4 + 1)) = x := ⟨_, rfl⟩
  obtain ⟨w7, e7⟩ : ∃ x, w.alloc (.map ((((((#[].push (kEnt 1 45 0)).push (kEnt 2 46 1)).push (kEnt 3 47 2)).push (kEnt 4 48 3)).push (kEnt 5 49 4)).push (kEnt 6 50 5)) (5 + 1)) = x := ⟨_, rfl⟩
  obtain ⟨w8, e8⟩ : ∃ x, w.alloc (.map (((((((#[].push (kEnt 1 45 0)).push (kEnt 2 46 1)).push (kEnt 3 47 2)).push (kEnt 4 48 3)).push (kEnt 5 49 4)).push (kEnt 6 50 5)).push (kEnt 7 51 6)) (6 + 1)) = x := ⟨_, rfl⟩
  rw [e1, e2] at h1
  rw [e2, e3] at h2
  rw [e3, e4] at h3
  rw [e4, e5] at h4
  rw [e5, e6] at h5
  rw [e6, e7] at h6
  rw [e7, e8] at h7
  have hmw := hmm w
  rw [e1] at hmw
  have E8 := Lib.hid e8
  clear e1 e2 e3 e4 e5 e6 e7 e8 hmm
  go_enter Tryz.func25, Tryz.ntmps25
  go_wp2
  go_ret
  exact ⟨rfl, E8.out.symm⟩
end Go.Proofs.YtcdfbpdejbpgjaaGreat

/- model.Apply: what becomes of a pool by an op. Condition: the pool's numbers fit into Go's int. -/
namespace Go.Proofs.YtcdfbpdejbpgjaaGreat
open Go.RowKit
attribute [local go_sem] Oper.semAt_some

theorem kinds_b (w : World) : Calls Tryz.prog 25 #[] w fun e w' => e = .returned (.map (some w.heap.size)) ∧ w'.heap[w.heap.size]? = some (.map kAll 7) ∧ Below w.heap.size w w' :=
  (kinds_any w).mono fun _ _ ⟨he, hw⟩ => ⟨he, by rw [hw]; exact heap_alloc_new w _, by rw [hw]; exact (Below.refl _ _).alloc (Nat.le_refl _) _⟩
theorem kfind (k : Int) : Instr.findNow (.int .i64) (.int .i64 k) kAll.toList 0 =
    some (if k = 1 then some (0, .func (.func 45) #[] #[]) else if k = 2 then some (1, .func (.func 46) #[] #[]) else if k = 3 then some (2, .func (.func 47) #[] #[]) else if k = 4 then some (3, .func (.func 48) #[] #[]) else if k = 5 then some (4, .func (.func 49) #[] #[]) else if k = 6 then some (5, .func (.func 50) #[] #[]) else if k = 7 then some (6, .func (.func 51) #[] #[]) else none) := by
  have hs : ∀ a : Int, Instr.sameNow (.int .i64) (.int .i64 k) (.int .i64 a) = some (k == a) := fun a => by simp [Instr.sameNow]
  by_cases h1 : k = 1
  · subst h1; rfl
  by_cases h2 : k = 2
  · subst h2; rfl
  by_cases h3 : k = 3
  · subst h3; rfl
  by_cases h4 : k = 4
  · subst h4; rfl
  by_cases h5 : k = 5
  · subst h5; rfl
  by_cases h6 : k = 6
  · subst h6; rfl
  by_cases h7 : k = 7
  · subst h7; rfl
  rw [if_neg h1, if_neg h2, if_neg h3, if_neg h4, if_neg h5, if_neg h6, if_neg h7]
  have b : ∀ a : Int, k ≠ a → (k == a) = false := fun a h => by simpa using h
  show Instr.findNow _ _ [kEnt 1 45 0, kEnt 2 46 1, kEnt 3 47 2, kEnt 4 48 3, kEnt 5 49 4, kEnt 6 50 5, kEnt 7 51 6] 0 = some none
  simp only [kEnt, Instr.findNow, hs, b 1 h1, b 2 h2, b 3 h3, b 4 h4, b 5 h5, b 6 h6, b 7 h7]
/-- The boxes at the head of Apply. -/
abbrev opBox (o : Mop) : Obj := .cells #[.int .i64 o.kind, .int .i64 o.dev, .int .i64 o.arg, .int .i64 o.n] 44
abbrev zeroBox : Obj := .cells #[.int .i64 0, .int .i64 0, .int .i64 0, .int .i64 0, .slice none 0 0] 24
def ApIs (w : World) (r : Int × Pool) (e : Ending) (w' : World) : Prop := ∃ v', e = .returned (.tuple #[v', .int .i64 r.1]) ∧ IsPool w' (Btw w.heap.size w'.heap.size) v' r.2 ∧ Below w.heap.size w w'
theorem pool0_at (w : World) (S : Nat → Prop) : IsPool w S (.agg #[.int .i64 0, .int .i64 0, .int .i64 0, .int .i64 0, .slice none 0 0]) pool0 :=
  ⟨none, 0, rfl, Nat.le_refl _, fun h => absurd h (by simp [pool0])⟩
/-- A block of the call's own that holds a pool. -/
def RBox (w : World) (b : Nat) (v0 v1 v2 v3 v4 : Value) : Prop := w.heap[b]? = some (.cells #[v0, v1, v2, v3, v4] 24 (0, 0))
theorem RBox.below {w w' : World} {b k : Nat} {v0 v1 v2 v3 v4 : Value} (h : RBox w b v0 v1 v2 v3 v4) (hB : Below k w w') (hk : b < k) : RBox w' b v0 v1 v2 v3 v4 := (hB.block b hk).trans h
theorem RBox.cells {w : World} {b : Nat} {v0 v1 v2 v3 v4 : Value} (h : RBox w b v0 v1 v2 v3 v4) : w.cell? ⟨b, 0, none⟩ = some v0 ∧ w.cell? ⟨b, 1, none⟩ = some v1 ∧ w.cell? ⟨b, 2, none⟩ = some v2 ∧ w.cell? ⟨b, 3, none⟩ = some v3 ∧ w.cell? ⟨b, 4, none⟩ = some v4 := by
  unfold RBox at h; simp [World.cell?, h]
theorem RBox.free {w : World} {b : Nat} {v0 v1 v2 v3 v4 : Value} (h : RBox w b v0 v1 v2 v3 v4) (i : Nat) : w.frozen? ⟨b, i, none⟩ = false := by unfold RBox at h; simp [World.frozen?, h]
set_option maxRecDepth 100000 in
set_option maxHeartbeats 3200000 in
theorem apply_bad (w : World) (S : Nat → Prop) (v : Value) (p : Pool) (o : Mop) (hS : ∀ b, S b → b < w.heap.size) (h : IsPool w S v p) (hok : p.ok) (hc : poolChk p ≠ 0) :
    Calls Tryz.prog 11 #[v, mopV o] w (ApIs w (applyF p o)) := by
  have hr : applyF p o = (poolChk p, pool0) := by unfold applyF; rw [if_pos hc]
  rw [hr]
  have HCK := Lib.hid (fun w' (hB : Below w.heap.size w w') => check_any w' S v p (fun b hb => Nat.lt_of_lt_of_le (hS b hb) hB.size) (h.below hB hS) hok)
  obtain ⟨A, c, rfl, _, _⟩ := h
  have hB3 : Below w.heap.size w (((w.alloc (poolBox p A p.devs.length c)).alloc (opBox o)).alloc zeroBox) := (((Below.refl _ _).alloc (Nat.le_refl _) _).alloc (by simp) _).alloc (by simp; omega) _
  have hr3 : RBox (((w.alloc (poolBox p A p.devs.length c)).alloc (opBox o)).alloc zeroBox) (w.heap.size + 1 + 1) (.int .i64 0) (.int .i64 0) (.int .i64 0) (.int .i64 0) (.slice none 0 0) := by
    have := heap_alloc_new ((w.alloc (poolBox p A p.devs.length c)).alloc (opBox o)) zeroBox
    simp only [World.size_alloc] at this
    exact this
  have HR := Lib.hid (fun w' (hB : Below (w.heap.size + 3) (((w.alloc (poolBox p A p.devs.length c)).alloc (opBox o)).alloc zeroBox) w') => hr3.below hB (by omega))
  have HB3 := Lib.hid hB3
  have hzs : (((w.alloc (poolBox p A p.devs.length c)).alloc (opBox o)).alloc zeroBox).heap.size = w.heap.size + 3 := by simp
  have HZS := Lib.hid hzs
  clear hr3 hB3 hzs
  generalize poolChk p = fe at *
  have hf2 : (fe == 0) = false := by simpa using hc
  have hf3 : (fe != 0) = true := by simpa using hc
  dsimp only [poolBox, opBox, zeroBox] at HB3 HR HZS
  go_enter Tryz.func11, Tryz.ntmps11
  go_wp2_with (go_at_call 24; refine (HCK.out _ HB3.out).mono ?_; rintro e w4 ⟨rfl, hB4⟩; rw [HZS.out] at hB4; have hr4 := HR.out _ hB4; obtain ⟨x0, x1, x2, x3, x4⟩ := hr4.cells; have f0 := hr4.free 0; have f1 := hr4.free 1; have f2 := hr4.free 2; have f3 := hr4.free 3; have f4 := hr4.free 4)
  obtain ⟨q0, q1, q2, q3, q4⟩ := cells5 (set5 hr4 (.int .i64 0) (.int .i64 0) (.int .i64 0) (.int .i64 0) (.slice none 0 0))
  have hB4' : Below w.heap.size w w4 := HB3.out.trans (hB4.mono (by omega))
  refine bodyPost_ret (v := .tuple #[.agg #[.int .i64 0, .int .i64 0, .int .i64 0, .int .i64 0, .slice none 0 0], .int .i64 fe]) (by simp [results, Tryz.results11, go_sem, q0, q1, q2, q3, q4]) rfl ?_
  exact ⟨_, rfl, pool0_at _ _, below5 hB4' (by omega) _ _ _ _ _⟩
theorem pool_keep {w w' : World} {S S' : Nat → Prop} {v : Value} {p : Pool} (h : IsPool w S v p) (hs : ∀ b, S b → S' b) (hk : Keep S w w') : IsPool w' S' v p := by
  obtain ⟨A, c, h1, h2, h3⟩ := h
  exact ⟨A, c, h1, h2, h3.keep rdev_stable hs hk⟩
theorem keep5 {w : World} {S : Nat → Prop} {b : Nat} (hb : ¬ S b) (u0 u1 u2 u3 u4 : Value) : Keep S w (((((w.setCell ⟨b, 0, none⟩ u0).setCell ⟨b, 1, none⟩ u1).setCell ⟨b, 2, none⟩ u2).setCell ⟨b, 3, none⟩ u3).setCell ⟨b, 4, none⟩ u4) :=
  ((((keep_setCell (p := ⟨b, 0, none⟩) hb u0).trans (keep_setCell (p := ⟨b, 1, none⟩) hb u1)).trans (keep_setCell (p := ⟨b, 2, none⟩) hb u2)).trans (keep_setCell (p := ⟨b, 3, none⟩) hb u3)).trans (keep_setCell (p := ⟨b, 4, none⟩) hb u4)
theorem own_start {w : World} {base c : Nat} {p : Pool} {A : Option Addr} {M : Nat → Value} (h : OwnDevs w base (.slice A p.devs.length c) p.devs M) (hb : base ≤ w.heap.size := by omega) : OwnP (w.alloc (.cells #[.int .i64 p.tx, .int .i64 p.time, .int .i64 p.unit, .int .i64 p.data, .slice A p.devs.length c] 24)) base w.heap.size p :=
  ⟨A, c, M, PBox.new w p A _ c, hb, h.below ((Below.refl _ _).alloc (Nat.le_refl _) _), h.far_new (Nat.le_refl _)⟩
set_option maxRecDepth 100000 in
set_option maxHeartbeats 6400000 in
theorem apply_do (w : World) (S : Nat → Prop) (v : Value) (p : Pool) (o : Mop) (f i : Nat) (hS : ∀ b, S b → b < w.heap.size) (h : IsPool w S v p) (hok : p.ok) (hc : poolChk p = 0) (hfd : Instr.findNow (.int .i64) (.int .i64 o.kind) kAll.toList 0 = some (some (i, .func (.func f) #[] #[])))
    (eg : ∀ args w, (callFunc f args).run Tryz.prog w = .ok (.enter f args) w) (hdo : ∀ w' base g, OwnP w' base g p → base ≤ w'.heap.size → Calls Tryz.prog f #[.pointer (some ⟨g, 0, none⟩), mopV o] w' (DoIs w' base g (doF p o))) :
    Calls Tryz.prog 11 #[v, mopV o] w (ApIs w (applyF p o)) := by
  have hr : applyF p o = if (doF p o).1 ≠ 0 then ((doF p o).1, pool0) else (0, (doF p o).2) := by unfold applyF; rw [if_neg (by simpa using hc)]
  generalize applyF p o = r at *
  have HRR := Lib.hid hr
  have HCK := Lib.hid (fun w' (hB : Below w.heap.size w w') => check_any w' S v p (fun b hb => Nat.lt_of_lt_of_le (hS b hb) hB.size) (h.below hB hS) hok)
  rw [hc] at HCK
  have hln := pool_len hc
  have HCP := Lib.hid (fun w' (hB : Below w.heap.size w w') => copy_own w' S v p (fun b hb => Nat.lt_of_lt_of_le (hS b hb) hB.size) (h.below hB hS) (by omega) (fun k hk => by have := maps_len hc hk; omega))
  obtain ⟨A, c, rfl, _, _⟩ := h
  have hB3 : Below w.heap.size w (((w.alloc (poolBox p A p.devs.length c)).alloc (opBox o)).alloc zeroBox) := (((Below.refl _ _).alloc (Nat.le_refl _) _).alloc (by simp) _).alloc (by simp; omega) _
  have hr3 : RBox (((w.alloc (poolBox p A p.devs.length c)).alloc (opBox o)).alloc zeroBox) (w.heap.size + 1 + 1) (.int .i64 0) (.int .i64 0) (.int .i64 0) (.int .i64 0) (.slice none 0 0) := by
    have := heap_alloc_new ((w.alloc (poolBox p A p.devs.length c)).alloc (opBox o)) zeroBox
    simp only [World.size_alloc] at this
    exact this
  have hm3 : MBox (((w.alloc (poolBox p A p.devs.length c)).alloc (opBox o)).alloc zeroBox) (w.heap.size + 1) o := by
    have := (MBox.new (w.alloc (poolBox p A p.devs.length c)) o).below ((Below.refl _ _).alloc (Nat.le_refl _) zeroBox) (MBox.new (w.alloc (poolBox p A p.devs.length c)) o).lt
    simp only [World.size_alloc] at this
    exact this
  have hp3 : PBox (((w.alloc (poolBox p A p.devs.length c)).alloc (opBox o)).alloc zeroBox) w.heap.size p A p.devs.length c :=
    (PBox.new w p A p.devs.length c).below (((Below.refl _ _).alloc (Nat.le_refl _) _).alloc (by simp) _) (by simp)
  have HR := Lib.hid (fun w' (hB : Below (w.heap.size + 3) (((w.alloc (poolBox p A p.devs.length c)).alloc (opBox o)).alloc zeroBox) w') => (⟨hr3.below hB (by omega), hm3.below hB (by omega), hp3.below hB (by omega)⟩ : RBox w' (w.heap.size + 1 + 1) (.int .i64 0) (.int .i64 0) (.int .i64 0) (.int .i64 0) (.slice none 0 0) ∧ MBox w' (w.heap.size + 1) o ∧ PBox w' w.heap.size p A p.devs.length c))
  have HB3 := Lib.hid hB3
  have hzs : (((w.alloc (poolBox p A p.devs.length c)).alloc (opBox o)).alloc zeroBox).heap.size = w.heap.size + 3 := by simp
  have HZS := Lib.hid hzs
  have HDO := Lib.hid hdo
  have HLK := Lib.hid (fun (w' : World) (r : Nat) (hb : w'.heap[r]? = some (.map kAll 7)) => run_lookK (P := Tryz.prog) (ok := true) (w := w') (z := .nilFunc) Tryz.underlying61 Tryz.underlying3 hb (by kernel_rfl) hfd rfl)
  clear hr3 hm3 hp3 hB3 hzs hdo hr hfd
  dsimp only [poolBox, opBox, zeroBox] at HB3 HR HZS
  generalize hdd : doF p o = dd at *
  clear hdd hc
  clear hok hS
  obtain ⟨fe, d⟩ := dd
  by_cases he : fe = 0
  · subst he
    have HR1 := Lib.hid (show r = (0, d) by rw [HRR.out, if_neg (by simp)])
    clear HRR
    go_enter Tryz.func11, Tryz.ntmps11
    go_wp2_with (go_at_call 24; refine (HCK.out _ HB3.out).mono ?_; rintro e w4 ⟨rfl, hB4⟩; rw [HZS.out] at hB4; have hB4' : Below w.heap.size w w4 := HB3.out.trans (hB4.mono (by omega)); have hz4 := hB4.size; rw [HZS.out] at hz4)
    have hm4 := (HR.out _ hB4).2.1
    refine wp_region_till (T := fun _ => false) (S := fun w' => Below w4.heap.size w4 w') (by kernel_rfl) (Below.refl w4.heap.size w4).drew (fun hHeld => ?_)
    have hkr : Below w4.heap.size w4 w4.drew := (Below.refl w4.heap.size w4).drew
    refine wpTill_put 1 19 (oi := _) (v := ?_) rfl rfl (by kernel_rfl) (by kernel_rfl) (by kernel_rfl) (by kernel_rfl) (fun _ _ _ h => h) (by rfl) hHeld ?_ ?_
    rotate_left
    · (intro w hSw; go_simp; (try with_reducible rfl))
    (try simp only [Act.put, List.setIfInBounds_toArray, List.set_cons_zero, List.set_cons_succ])
    refine wpTill_put 2 20 (oi := _) (v := ?_) rfl rfl (by kernel_rfl) (by kernel_rfl) (by kernel_rfl) (by kernel_rfl) (fun _ _ _ h => h) (by rfl) hHeld ?_ ?_
    rotate_left
    · (intro w hSw; obtain ⟨y0, y1, y2, y3⟩ := (MBox.below hm4 hSw hm4.lt).cells; go_simp; (try with_reducible rfl))
    (try simp only [Act.put, List.setIfInBounds_toArray, List.set_cons_zero, List.set_cons_succ])
    refine wpTill_one 0 (o := _) (by kernel_rfl) rfl (fun K hK => ?_)
    go_simp
    refine (kinds_b _).mono ?_
    rintro e w5 ⟨rfl, hmp5, hB5⟩
    have hkr := hkr.trans (hB5.mono hkr.size)
    refine hK.out _ _ (fun _ => (Below.refl w4.heap.size w4).drew.trans (hB5.mono (Below.refl w4.heap.size w4).drew.size)) (fun _ => ?_)
    clear hK K hHeld
    (try simp only [Act.put, List.setIfInBounds_toArray, List.set_cons_zero, List.set_cons_succ])
    refine wpTill_more (S' := fun w' => Below w5.heap.size w5 w') (fun _ h => ((Below.refl w4.heap.size w4).drew.trans (hB5.mono (Below.refl w4.heap.size w4).drew.size)).trans (h.mono (hkr.size))) _ _ _ _ ?_
    have hHeld : (fun w' => Below w5.heap.size w5 w') w5 := Below.refl _ _
    refine wpTill_put 3 21 (oi := _) (v := ?_) rfl rfl (by kernel_rfl) (by kernel_rfl) (by kernel_rfl) (by kernel_rfl) (fun _ _ _ h => h) (by rfl) hHeld ?_ ?_
    rotate_left
    · (intro w hSw; have hlk := HLK.out w w4.heap.size ((hSw.block w4.heap.size (Array.getElem?_eq_some_iff.1 hmp5).1).trans hmp5); go_simp; (try with_reducible rfl))
    (try simp only [Act.put, List.setIfInBounds_toArray, List.set_cons_zero, List.set_cons_succ])
    refine wpTill_put 4 17 (oi := _) (v := ?_) rfl rfl (by kernel_rfl) (by kernel_rfl) (by kernel_rfl) (by kernel_rfl) (fun _ _ _ h => h) (by rfl) hHeld ?_ ?_
    rotate_left
    · (intro w hSw; go_simp; (try with_reducible rfl))
    (try simp only [Act.put, List.setIfInBounds_toArray, List.set_cons_zero, List.set_cons_succ])
    refine wpTill_put 5 22 (oi := _) (v := ?_) rfl rfl (by kernel_rfl) (by kernel_rfl) (by kernel_rfl) (by kernel_rfl) (fun _ _ _ h => h) (by rfl) hHeld ?_ ?_
    rotate_left
    · (intro w hSw; go_simp; (try with_reducible rfl))
    (try simp only [Act.put, List.setIfInBounds_toArray, List.set_cons_zero, List.set_cons_succ])
    refine wpTill_put 6 23 (oi := _) (v := ?_) rfl rfl (by kernel_rfl) (by kernel_rfl) (by kernel_rfl) (by kernel_rfl) (fun _ _ _ h => h) (by rfl) hHeld ?_ ?_
    rotate_left
    · (intro w hSw; go_simp; (try with_reducible rfl))
    (try simp only [Act.put, List.setIfInBounds_toArray, List.set_cons_zero, List.set_cons_succ])
    refine wpTill_put 7 7 (oi := _) (v := ?_) rfl rfl (by kernel_rfl) (by kernel_rfl) (by kernel_rfl) (by kernel_rfl) (fun _ _ _ h => h) (by rfl) hHeld ?_ ?_
    rotate_left
    · (intro w hSw; go_simp; (try with_reducible rfl))
    (try simp only [Act.put, List.setIfInBounds_toArray, List.set_cons_zero, List.set_cons_succ])
    refine wpTill_put 8 8 (oi := _) (v := ?_) rfl rfl (by kernel_rfl) (by kernel_rfl) (by kernel_rfl) (by kernel_rfl) (fun _ _ _ h => h) (by rfl) hHeld ?_ ?_
    rotate_left
    · (intro w hSw; go_simp; (try with_reducible rfl))
    (try simp only [Act.put, List.setIfInBounds_toArray, List.set_cons_zero, List.set_cons_succ])
    refine wpTill_done (by kernel_rfl) ?_ _
    have hk5 : Below w.heap.size w w5 := hB4'.trans (hkr.mono (by omega))
    have hB5 := hB4.trans (hkr.mono hz4)
    have hz5 := hk5.size
    obtain ⟨r5, m5, p5⟩ := HR.out _ hB5
    obtain ⟨x0, x1, x2, x3, x4⟩ := p5.cells
    have hm5l := m5.lt
    have hr5l : w.heap.size + 1 + 1 < w5.heap.size := (Array.getElem?_eq_some_iff.1 r5).1
    clear hm4 hkr
    go_wp2_with (go_at_call 26; refine (HCP.out _ hk5).mono ?_; rintro e w6 ⟨A6, c6, M6, rfl, ho6, hB6⟩; have hz6 := hB6.size; have hk6 := hk5.trans (hB6.mono hz5); clear x0 x1 x2 x3 x4; obtain ⟨y0, y1, y2, y3⟩ := (m5.below hB6 hm5l).cells; have hm6l : w.heap.size + 1 < w6.heap.size := (by omega); have hO6 := own_start ho6)
    refine (HDO.out _ _ _ hO6 (by simp; omega)).mono ?_
    rintro e w8 ⟨rfl, hB8, hO8⟩
    obtain ⟨A8, c8, M8, p8, hg8, od8, _⟩ := hO8 rfl
    have hkk : Below w.heap.size w w8 := (hk6.trans ((Below.refl _ _).alloc hk6.size _)).trans (hB8.mono (by omega))
    have hr8 := (r5.below hB6 hr5l).below (((Below.refl _ _).alloc hz6 _).trans hB8) hr5l
    have hip := OwnP.isp od8
    obtain ⟨x0, x1, x2, x3, x4⟩ := hr8.cells
    obtain ⟨u0, u1, u2, u3, u4⟩ := p8.cells
    have f0 := hr8.free 0
    have f1 := hr8.free 1
    have f2 := hr8.free 2
    have f3 := hr8.free 3
    have f4 := hr8.free 4
    obtain ⟨n8, hn8⟩ : ∃ n, d.devs.length = n := ⟨_, rfl⟩
    rw [hn8] at u4 hip
    clear hn8 y0 y1 y2 y3
    go_wp2_with fail
    obtain ⟨q0, q1, q2, q3, q4⟩ := cells5 (set5 hr8 (.int .i64 d.tx) (.int .i64 d.time) (.int .i64 d.unit) (.int .i64 d.data) (.slice A8 n8 c8))
    refine bodyPost_ret (v := .tuple #[.agg #[.int .i64 d.tx, .int .i64 d.time, .int .i64 d.unit, .int .i64 d.data, .slice A8 n8 c8], .int .i64 0]) (by simp [results, Tryz.results11, go_sem, q0, q1, q2, q3, q4]) rfl ?_
    rw [HR1.out]
    exact ⟨_, rfl, pool_keep hip (fun b hb => ⟨by have := hb.1; omega, by have := hb.2; simp [World.setCell]; omega⟩) (keep5 (fun hb => by have := hb.1; omega) _ _ _ _ _), below5 hkk (by omega) _ _ _ _ _⟩
  · have HR1 := Lib.hid (show r = (fe, pool0) by rw [HRR.out, if_pos he])
    have hf2 : (fe == 0) = false := by simpa using he
    have hf3 : (fe != 0) = true := by simpa using he
    clear HRR
    go_enter Tryz.func11, Tryz.ntmps11
    go_wp2_with (go_at_call 24; refine (HCK.out _ HB3.out).mono ?_; rintro e w4 ⟨rfl, hB4⟩; rw [HZS.out] at hB4; have hB4' : Below w.heap.size w w4 := HB3.out.trans (hB4.mono (by omega)); have hz4 := hB4.size; rw [HZS.out] at hz4)
    have hm4 := (HR.out _ hB4).2.1
    refine wp_region_till (T := fun _ => false) (S := fun w' => Below w4.heap.size w4 w') (by kernel_rfl) (Below.refl w4.heap.size w4).drew (fun hHeld => ?_)
    have hkr : Below w4.heap.size w4 w4.drew := (Below.refl w4.heap.size w4).drew
    refine wpTill_put 1 19 (oi := _) (v := ?_) rfl rfl (by kernel_rfl) (by kernel_rfl) (by kernel_rfl) (by kernel_rfl) (fun _ _ _ h => h) (by rfl) hHeld ?_ ?_
    rotate_left
    · (intro w hSw; go_simp; (try with_reducible rfl))
    (try simp only [Act.put, List.setIfInBounds_toArray, List.set_cons_zero, List.set_cons_succ])
    refine wpTill_put 2 20 (oi := _) (v := ?_) rfl rfl (by kernel_rfl) (by kernel_rfl) (by kernel_rfl) (by kernel_rfl) (fun _ _ _ h => h) (by rfl) hHeld ?_ ?_
    rotate_left
    · (intro w hSw; obtain ⟨y0, y1, y2, y3⟩ := (MBox.below hm4 hSw hm4.lt).cells; go_simp; (try with_reducible rfl))
    (try simp only [Act.put, List.setIfInBounds_toArray, List.set_cons_zero, List.set_cons_succ])
    refine wpTill_one 0 (o := _) (by kernel_rfl) rfl (fun K hK => ?_)
    go_simp
    refine (kinds_b _).mono ?_
    rintro e w5 ⟨rfl, hmp5, hB5⟩
    have hkr := hkr.trans (hB5.mono hkr.size)
    refine hK.out _ _ (fun _ => (Below.refl w4.heap.size w4).drew.trans (hB5.mono (Below.refl w4.heap.size w4).drew.size)) (fun _ => ?_)
    clear hK K hHeld
    (try simp only [Act.put, List.setIfInBounds_toArray, List.set_cons_zero, List.set_cons_succ])
    refine wpTill_more (S' := fun w' => Below w5.heap.size w5 w') (fun _ h => ((Below.refl w4.heap.size w4).drew.trans (hB5.mono (Below.refl w4.heap.size w4).drew.size)).trans (h.mono (hkr.size))) _ _ _ _ ?_
    have hHeld : (fun w' => Below w5.heap.size w5 w') w5 := Below.refl _ _
    refine wpTill_put 3 21 (oi := _) (v := ?_) rfl rfl (by kernel_rfl) (by kernel_rfl) (by kernel_rfl) (by kernel_rfl) (fun _ _ _ h => h) (by rfl) hHeld ?_ ?_
    rotate_left
    · (intro w hSw; have hlk := HLK.out w w4.heap.size ((hSw.block w4.heap.size (Array.getElem?_eq_some_iff.1 hmp5).1).trans hmp5); go_simp; (try with_reducible rfl))
    (try simp only [Act.put, List.setIfInBounds_toArray, List.set_cons_zero, List.set_cons_succ])
    refine wpTill_put 4 17 (oi := _) (v := ?_) rfl rfl (by kernel_rfl) (by kernel_rfl) (by kernel_rfl) (by kernel_rfl) (fun _ _ _ h => h) (by rfl) hHeld ?_ ?_
    rotate_left
    · (intro w hSw; go_simp; (try with_reducible rfl))
    (try simp only [Act.put, List.setIfInBounds_toArray, List.set_cons_zero, List.set_cons_succ])
    refine wpTill_put 5 22 (oi := _) (v := ?_) rfl rfl (by kernel_rfl) (by kernel_rfl) (by kernel_rfl) (by kernel_rfl) (fun _ _ _ h => h) (by rfl) hHeld ?_ ?_
    rotate_left
    · (intro w hSw; go_simp; (try with_reducible rfl))
    (try simp only [Act.put, List.setIfInBounds_toArray, List.set_cons_zero, List.set_cons_succ])
    refine wpTill_put 6 23 (oi := _) (v := ?_) rfl rfl (by kernel_rfl) (by kernel_rfl) (by kernel_rfl) (by kernel_rfl) (fun _ _ _ h => h) (by rfl) hHeld ?_ ?_
    rotate_left
    · (intro w hSw; go_simp; (try with_reducible rfl))
    (try simp only [Act.put, List.setIfInBounds_toArray, List.set_cons_zero, List.set_cons_succ])
    refine wpTill_put 7 7 (oi := _) (v := ?_) rfl rfl (by kernel_rfl) (by kernel_rfl) (by kernel_rfl) (by kernel_rfl) (fun _ _ _ h => h) (by rfl) hHeld ?_ ?_
    rotate_left
    · (intro w hSw; go_simp; (try with_reducible rfl))
    (try simp only [Act.put, List.setIfInBounds_toArray, List.set_cons_zero, List.set_cons_succ])
    refine wpTill_put 8 8 (oi := _) (v := ?_) rfl rfl (by kernel_rfl) (by kernel_rfl) (by kernel_rfl) (by kernel_rfl) (fun _ _ _ h => h) (by rfl) hHeld ?_ ?_
    rotate_left
    · (intro w hSw; go_simp; (try with_reducible rfl))
    (try simp only [Act.put, List.setIfInBounds_toArray, List.set_cons_zero, List.set_cons_succ])
    refine wpTill_done (by kernel_rfl) ?_ _
    have hk5 : Below w.heap.size w w5 := hB4'.trans (hkr.mono (by omega))
    have hB5 := hB4.trans (hkr.mono hz4)
    have hz5 := hk5.size
    obtain ⟨r5, m5, p5⟩ := HR.out _ hB5
    obtain ⟨x0, x1, x2, x3, x4⟩ := p5.cells
    have hm5l := m5.lt
    have hr5l : w.heap.size + 1 + 1 < w5.heap.size := (Array.getElem?_eq_some_iff.1 r5).1
    clear hm4 hkr
    go_wp2_with (go_at_call 26; refine (HCP.out _ hk5).mono ?_; rintro e w6 ⟨A6, c6, M6, rfl, ho6, hB6⟩; have hz6 := hB6.size; have hk6 := hk5.trans (hB6.mono hz5); clear x0 x1 x2 x3 x4; obtain ⟨y0, y1, y2, y3⟩ := (m5.below hB6 hm5l).cells; have hm6l : w.heap.size + 1 < w6.heap.size := (by omega); have hO6 := own_start ho6)
    refine (HDO.out _ _ _ hO6 (by simp; omega)).mono ?_
    rintro e w8 ⟨rfl, hB8, _⟩
    have hkk : Below w.heap.size w w8 := (hk6.trans ((Below.refl _ _).alloc hk6.size _)).trans (hB8.mono (by omega))
    have hr8 := (r5.below hB6 hr5l).below (((Below.refl _ _).alloc hz6 _).trans hB8) hr5l
    obtain ⟨x0, x1, x2, x3, x4⟩ := hr8.cells
    have f0 := hr8.free 0
    have f1 := hr8.free 1
    have f2 := hr8.free 2
    have f3 := hr8.free 3
    have f4 := hr8.free 4
    go_wp2_with fail
    obtain ⟨q0, q1, q2, q3, q4⟩ := cells5 (set5 hr8 (.int .i64 0) (.int .i64 0) (.int .i64 0) (.int .i64 0) (.slice none 0 0))
    refine bodyPost_ret (v := .tuple #[.agg #[.int .i64 0, .int .i64 0, .int .i64 0, .int .i64 0, .slice none 0 0], .int .i64 fe]) (by simp [results, Tryz.results11, go_sem, q0, q1, q2, q3, q4]) rfl ?_
    rw [HR1.out]
    exact ⟨_, rfl, pool0_at _ _, below5 hkk (by omega) _ _ _ _ _⟩
end Go.Proofs.YtcdfbpdejbpgjaaGreat

/- merge.order: mappings by their virtual blocks. No condition. -/
namespace Go.Proofs.YtcdfbpdejbpgjaaGreat
open Go.RowKit
attribute [local go_sem] Oper.semAt_some
theorem order_any (w : World) (x y : Mp) : Calls Tryz.prog 23 #[.agg #[.int .i64 x.v, .int .i64 x.b, .int .i64 x.t], .agg #[.int .i64 y.v, .int .i64 y.b, .int .i64 y.t]] w fun e w' =>
    e = .returned (.int .i64 (cmpI x.v y.v)) ∧ w' = (w.alloc (.cells #[.int .i64 x.v, .int .i64 x.b, .int .i64 x.t] 40)).alloc (.cells #[.int .i64 y.v, .int .i64 y.b, .int .i64 y.t] 40) := by
  have hc := fun w' => cmp_any w' x.v y.v
  generalize cmpI x.v y.v = r at *
  go_enter Tryz.func23, Tryz.ntmps23
  go_wp2_with (go_at_call 40; refine (hc _).mono ?_; rintro e w' ⟨rfl, rfl⟩)
  go_ret
  exact ⟨rfl, rfl⟩
theorem order_below (w : World) (x y : Mp) : Calls Tryz.prog 23 #[.agg #[.int .i64 x.v, .int .i64 x.b, .int .i64 x.t], .agg #[.int .i64 y.v, .int .i64 y.b, .int .i64 y.t]] w fun e w' =>
    e = .returned (.int .i64 (cmpI x.v y.v)) ∧ Below w.heap.size w w' := (order_any w x y).mono fun _ _ ⟨he, hw⟩ => ⟨he, by rw [hw]; exact ((Below.refl _ _).alloc (Nat.le_refl _) _).alloc (by simp) _⟩
end Go.Proofs.YtcdfbpdejbpgjaaGreat

/- Where a virtual block stands in mappings in order. No condition: no program is in sight here. -/
namespace Go.Proofs.YtcdfbpdejbpgjaaGreat
open Go.RowKit
/-- k parts the mappings: those ahead of it are below v, the others are not. -/
def Parts (l : List Mp) (v : Int) (k : Nat) : Prop := k ≤ l.length ∧ (∀ j, j < k → (nth mp0 l j).v < v) ∧ (∀ j, k ≤ j → j < l.length → v ≤ (nth mp0 l j).v)
def hasV (l : List Mp) (v : Int) : Bool := l.any fun m => m.v == v
def Inc (l : List Mp) : Prop := ∀ i j, i < j → j < l.length → (nth mp0 l i).v < (nth mp0 l j).v
theorem hasV_iff {l : List Mp} {v : Int} : hasV l v = true ↔ ∃ k, k < l.length ∧ (nth mp0 l k).v = v := by
  unfold hasV
  rw [List.any_eq_true]
  constructor
  · rintro ⟨m, hm, he⟩
    obtain ⟨k, hk, rfl⟩ := List.mem_iff_getElem.1 hm
    exact ⟨k, hk, by rw [nth_get mp0 l k hk]; simpa using he⟩
  · rintro ⟨k, hk, he⟩
    exact ⟨nth mp0 l k, nth_mem mp0 l k hk, by simpa using he⟩
theorem parts_has {l : List Mp} {v : Int} {k : Nat} (h : Parts l v k) (hi : Inc l) : hasV l v = decide (k < l.length ∧ (nth mp0 l k).v = v) := by
  rw [Bool.eq_iff_iff, hasV_iff, decide_eq_true_eq]
  constructor
  · rintro ⟨j, hj, he⟩
    obtain ⟨h1, h2, h3⟩ := h
    have hkj : k ≤ j := by
      rcases Nat.lt_or_ge j k with hlt | hge
      · have := h2 j hlt; omega
      · exact hge
    refine ⟨by omega, ?_⟩
    rcases Nat.lt_or_ge k j with hlt | hge
    · have := hi k j hlt hj
      have := h3 k (Nat.le_refl _) (by omega)
      omega
    · obtain rfl : j = k := by omega
      exact he
  · rintro ⟨h1, h2⟩
    exact ⟨k, h1, h2⟩
theorem inc_mono {l : List Mp} (hi : Inc l) {i j : Nat} (h : i ≤ j) (hj : j < l.length) : (nth mp0 l i).v ≤ (nth mp0 l j).v := by
  rcases Nat.lt_or_ge i j with hlt | hge
  · have := hi i j hlt hj; omega
  · obtain rfl : i = j := by omega
    omega
theorem chkFrom_inc : ∀ (l : List Mp) (last : Int), chkFrom last l = 0 → Inc l ∧ (∀ j, j < l.length → last < (nth mp0 l j).v) ∧ (∀ j, j < l.length → 0 ≤ (nth mp0 l j).v ∧ (nth mp0 l j).v ≤ 281474976710655) := by
  intro l
  induction l with
  | nil => intro last _; exact ⟨fun i j _ h => by simp at h, fun j h => by simp at h, fun j h => by simp at h⟩
  | cons m r ih =>
    intro last h
    simp only [chkFrom] at h
    by_cases h1 : m.v < 0 ∨ 281474976710655 < m.v
    · rw [if_pos h1] at h; omega
    · rw [if_neg h1] at h
      by_cases h2 : m.v ≤ last
      · rw [if_pos h2] at h; omega
      · rw [if_neg h2] at h
        obtain ⟨i1, i2, i3⟩ := ih m.v h
        refine ⟨fun i j hij hj => ?_, fun j hj => ?_, fun j hj => ?_⟩
        · simp only [List.length_cons] at hj
          cases j with
          | zero => omega
          | succ j =>
            rw [nth_cons_succ]
            cases i with
            | zero => rw [nth_cons_zero]; exact i2 j (by omega)
            | succ i => rw [nth_cons_succ]; exact i1 i j (by omega) (by omega)
        · simp only [List.length_cons] at hj
          cases j with
          | zero => rw [nth_cons_zero]; omega
          | succ j => rw [nth_cons_succ]; have := i2 j (by omega); omega
        · simp only [List.length_cons] at hj
          cases j with
          | zero => rw [nth_cons_zero]; omega
          | succ j => rw [nth_cons_succ]; exact i3 j (by omega)
theorem chk_inc {l : List Mp} (h : chk l = 0) : Inc l := (chkFrom_inc l (-1) h).1
theorem chk_range {l : List Mp} (h : chk l = 0) {j : Nat} (hj : j < l.length) : 0 ≤ (nth mp0 l j).v ∧ (nth mp0 l j).v ≤ 281474976710655 := (chkFrom_inc l (-1) h).2.2 j hj
end Go.Proofs.YtcdfbpdejbpgjaaGreat

/- slices.BinarySearchFunc at mappings, by merge.order: where a virtual block stands. Condition: the mappings are in order. -/
namespace Go.Proofs.YtcdfbpdejbpgjaaGreat
open Go.RowKit
attribute [local go_sem] Oper.semAt_some

def SearchIs (l : List Mp) (v : Int) (w : World) (e : Ending) (w' : World) : Prop := ∃ k, Parts l v k ∧ e = .returned (.tuple #[.int .i64 (k : Nat), .bool (hasV l v)]) ∧ Below w.heap.size w w'
/-- The three cells of a mapping. -/
theorem box3 {w : World} {b : Nat} {x y z : Value} {t : TypeId} (h : w.heap[b]? = some (.cells #[x, y, z] t (0, 0))) : w.cell? ⟨b, 0, none⟩ = some x ∧ w.cell? ⟨b, 1, none⟩ = some y ∧ w.cell? ⟨b, 2, none⟩ = some z := by
  simp [World.cell?, h]
set_option maxRecDepth 100000 in
set_option maxHeartbeats 3200000 in
theorem search_any (w : World) (S : Nat → Prop) (v : Value) (l : List Mp) (x : Mp) (hS : ∀ b, S b → b < w.heap.size) (h : IsMaps w S v l) (hl1 : l.length ≤ 140737488355328) (hi : Inc l) :
    Calls Tryz.prog 37 #[v, .agg #[.int .i64 x.v, .int .i64 x.b, .int .i64 x.t], .func (.func 23) #[] #[]] w (SearchIs l x.v w) := by
  obtain ⟨A, c, rfl, hc, hr⟩ := h
  have HC := Lib.hid (fun hp => maps_cells hr hp)
  have HI := Lib.hid hi
  have hbox : (w.alloc (.cells #[.int .i64 x.v, .int .i64 x.b, .int .i64 x.t] 40)).heap[w.heap.size]? = some (.cells #[.int .i64 x.v, .int .i64 x.b, .int .i64 x.t] 40 (0, 0)) := heap_alloc_new w _
  have HB0 := Lib.hid hbox
  have hB0 : Below w.heap.size w (w.alloc (.cells #[.int .i64 x.v, .int .i64 x.b, .int .i64 x.t] 40)) := (Below.refl _ _).alloc (Nat.le_refl _) _
  clear hr hi hbox
  generalize hnn : l.length = n at *
  have HN := Lib.hid hnn
  clear hnn
  go_enter Tryz.func37, Tryz.ntmps37
  go_wp2_with fail
  go_loopw [9, 10] (fun i j wr => ∃ p q : Nat, i = .int .i64 p ∧ j = .int .i64 q ∧ p ≤ q ∧ q ≤ n ∧ (∀ k, k < p → (nth mp0 l k).v < x.v) ∧ (∀ k, q ≤ k → k < n → x.v ≤ (nth mp0 l k).v) ∧ Below w.heap.size w wr ∧ wr.heap[w.heap.size]? = some (.cells #[.int .i64 x.v, .int .i64 x.b, .int .i64 x.t] 40 (0, 0))) (fun i j _ => (intOf j).toNat - (intOf i).toNat)
  case atStart => exact ⟨0, n, rfl, rfl, by omega, by omega, fun k hk => by omega, fun k h1 h2 => by omega, hB0, HB0.out⟩
  case round =>
    obtain ⟨p, q, rfl, rfl, hpq, hqn, hlo, hhi, hB, hbx⟩ := hrel
    have HLO := Lib.hid hlo
    have HHI := Lib.hid hhi
    have HBX := Lib.hid hbx
    have hz := hB.size
    have hzx : w.heap.size < wr.heap.size := (Array.getElem?_eq_some_iff.1 hbx).1
    clear hlo hhi hbx hB0
    by_cases hlt : p < q
    · obtain ⟨m, hm⟩ : ∃ m : Nat, m = (p + q) / 2 := ⟨_, rfl⟩
      have hmp : p ≤ m := by omega
      have hmq : m < q := by omega
      obtain ⟨b, off, rfl, hbS, hcl⟩ := HC.out (by omega)
      have hb0 := hS b hbS
      have hcm := hcl m (by omega)
      clear hcl
      have hme : ((p : Int) + (q : Int)) / 2 = (m : Int) := by omega
      have hsum : (0 : Int) ≤ (p : Int) + (q : Int) := by omega
      have hsum2 : (p : Int) + (q : Int) ≤ 281474976710656 := by omega
      have hmn : (m : Int) < (n : Int) := by omega
      have HM := Lib.hid (show m < l.length by rw [HN.out]; omega)
      clear hm
      generalize hy : nth mp0 l m = y at *
      have HY := Lib.hid hy
      clear hy
      have HCL := Lib.hid (fun w' (hB' : Below wr.heap.size wr w') => (⟨(hB'.cell (p := ⟨b, off + m * 3, none⟩) (Nat.lt_of_lt_of_le hb0 hz)).trans ((hB.cell (p := ⟨b, off + m * 3, none⟩) hb0).trans hcm.1), (hB'.cell (p := ⟨b, off + m * 3 + 1, none⟩) (Nat.lt_of_lt_of_le hb0 hz)).trans ((hB.cell (p := ⟨b, off + m * 3 + 1, none⟩) hb0).trans hcm.2.1), (hB'.cell (p := ⟨b, off + m * 3 + 2, none⟩) (Nat.lt_of_lt_of_le hb0 hz)).trans ((hB.cell (p := ⟨b, off + m * 3 + 2, none⟩) hb0).trans hcm.2.2)⟩ : w'.cell? ⟨b, off + m * 3, none⟩ = some (.int .i64 y.v) ∧ w'.cell? ⟨b, off + m * 3 + 1, none⟩ = some (.int .i64 y.b) ∧ w'.cell? ⟨b, off + m * 3 + 2, none⟩ = some (.int .i64 y.t)))
      have HBL := Lib.hid (fun w' (hB' : Below wr.heap.size wr w') => box3 ((hB'.block w.heap.size hzx).trans HBX.out))
      clear hcm
      have HOR := Lib.hid (fun w' => order_below w' y x)
      have hsg := cmpI_lt (a := y.v) (b := x.v)
      generalize cmpI y.v x.v = r at *
      by_cases hneg : r < 0
      · have HV := Lib.hid (hsg.1 hneg)
        clear hsg
        go_wp2_with fail
        refine wp_region_till (T := fun _ => false) (S := fun w' => Below wr.heap.size wr w') (by kernel_rfl) (Below.refl wr.heap.size wr).drew (fun hHeld => ?_)
        have hkr : Below wr.heap.size wr wr.drew := (Below.refl wr.heap.size wr).drew
        refine wpTill_put 0 24 (oi := _) (v := ?_) rfl rfl (by kernel_rfl) (by kernel_rfl) (by kernel_rfl) (by kernel_rfl) (fun _ _ _ h => h) (by rfl) hHeld ?_ ?_
        rotate_left
        · (intro w hSw; go_simp; (try with_reducible rfl))
        (try simp only [Act.put, List.setIfInBounds_toArray, List.set_cons_zero, List.set_cons_succ])
        refine wpTill_put 1 25 (oi := _) (v := ?_) rfl rfl (by kernel_rfl) (by kernel_rfl) (by kernel_rfl) (by kernel_rfl) (fun _ _ _ h => h) (by rfl) hHeld ?_ ?_
        rotate_left
        · (intro w hSw; go_simp; (try with_reducible rfl))
        (try simp only [Act.put, List.setIfInBounds_toArray, List.set_cons_zero, List.set_cons_succ])
        refine wpTill_put 2 26 (oi := _) (v := ?_) rfl rfl (by kernel_rfl) (by kernel_rfl) (by kernel_rfl) (by kernel_rfl) (fun _ _ _ h => h) (by rfl) hHeld ?_ ?_
        rotate_left
        · (intro w hSw; go_simp; (try with_reducible rfl))
        (try simp only [Act.put, List.setIfInBounds_toArray, List.set_cons_zero, List.set_cons_succ])
        refine wpTill_put 3 27 (oi := _) (v := ?_) rfl rfl (by kernel_rfl) (by kernel_rfl) (by kernel_rfl) (by kernel_rfl) (fun _ _ _ h => h) (by rfl) hHeld ?_ ?_
        rotate_left
        · (intro w hSw; go_simp; (try with_reducible rfl))
        (try simp only [Act.put, List.setIfInBounds_toArray, List.set_cons_zero, List.set_cons_succ])
        refine wpTill_put 4 28 (oi := _) (v := ?_) rfl rfl (by kernel_rfl) (by kernel_rfl) (by kernel_rfl) (by kernel_rfl) (fun _ _ _ h => h) (by rfl) hHeld ?_ ?_
        rotate_left
        · (intro w hSw; obtain ⟨l0, l1, l2⟩ := HCL.out _ hSw; go_simp; (try with_reducible rfl))
        (try simp only [Act.put, List.setIfInBounds_toArray, List.set_cons_zero, List.set_cons_succ])
        refine wpTill_put 5 29 (oi := _) (v := ?_) rfl rfl (by kernel_rfl) (by kernel_rfl) (by kernel_rfl) (by kernel_rfl) (fun _ _ _ h => h) (by rfl) hHeld ?_ ?_
        rotate_left
        · (intro w hSw; obtain ⟨l0, l1, l2⟩ := HBL.out _ hSw; go_simp; (try with_reducible rfl))
        (try simp only [Act.put, List.setIfInBounds_toArray, List.set_cons_zero, List.set_cons_succ])
        refine wpTill_one 6 (o := _) (by kernel_rfl) rfl (fun K hK => ?_)
        go_simp
        refine (HOR.out _).mono ?_
        rintro e w5 ⟨rfl, hB5⟩
        have hkr := hkr.trans (hB5.mono hkr.size)
        refine hK.out _ _ (fun _ => (Below.refl wr.heap.size wr).drew.trans (hB5.mono (Below.refl wr.heap.size wr).drew.size)) (fun _ => ?_)
        clear hK K hHeld
        (try simp only [Act.put, List.setIfInBounds_toArray, List.set_cons_zero, List.set_cons_succ])
        refine wpTill_more (S' := fun w' => Below w5.heap.size w5 w') (fun _ h => ((Below.refl wr.heap.size wr).drew.trans (hB5.mono (Below.refl wr.heap.size wr).drew.size)).trans (h.mono (hkr.size))) _ _ _ _ ?_
        have hHeld : (fun w' => Below w5.heap.size w5 w') w5 := Below.refl _ _
        refine wpTill_put 7 31 (oi := _) (v := ?_) rfl rfl (by kernel_rfl) (by kernel_rfl) (by kernel_rfl) (by kernel_rfl) (fun _ _ _ h => h) (by rfl) hHeld ?_ ?_
        rotate_left
        · (intro w hSw; go_simp; (try with_reducible rfl))
        (try simp only [Act.put, List.setIfInBounds_toArray, List.set_cons_zero, List.set_cons_succ])
        refine wpTill_done (by kernel_rfl) ?_ _
        go_wp2_with fail
        go_roundw
        case rel => exact ⟨m + 1, q, by go_num, rfl, by omega, hqn, fun k hk => (by rcases Nat.lt_or_ge k p with h | h; exact HLO.out k h; have := inc_mono HI.out (i := k) (j := m) (by omega) HM.out; rw [HY.out] at this; have := HV.out; omega), HHI.out, hB.trans (hkr.mono hz), (hkr.block w.heap.size hzx).trans HBX.out⟩
        case measure => simp [intOf]; omega
      · have HV := Lib.hid (Int.not_lt.1 fun h => hneg (hsg.2 h))
        clear hsg
        go_wp2_with fail
        refine wp_region_till (T := fun _ => false) (S := fun w' => Below wr.heap.size wr w') (by kernel_rfl) (Below.refl wr.heap.size wr).drew (fun hHeld => ?_)
        have hkr : Below wr.heap.size wr wr.drew := (Below.refl wr.heap.size wr).drew
        refine wpTill_put 0 24 (oi := _) (v := ?_) rfl rfl (by kernel_rfl) (by kernel_rfl) (by kernel_rfl) (by kernel_rfl) (fun _ _ _ h => h) (by rfl) hHeld ?_ ?_
        rotate_left
        · (intro w hSw; go_simp; (try with_reducible rfl))
        (try simp only [Act.put, List.setIfInBounds_toArray, List.set_cons_zero, List.set_cons_succ])
        refine wpTill_put 1 25 (oi := _) (v := ?_) rfl rfl (by kernel_rfl) (by kernel_rfl) (by kernel_rfl) (by kernel_rfl) (fun _ _ _ h => h) (by rfl) hHeld ?_ ?_
        rotate_left
        · (intro w hSw; go_simp; (try with_reducible rfl))
        (try simp only [Act.put, List.setIfInBounds_toArray, List.set_cons_zero, List.set_cons_succ])
        refine wpTill_put 2 26 (oi := _) (v := ?_) rfl rfl (by kernel_rfl) (by kernel_rfl) (by kernel_rfl) (by kernel_rfl) (fun _ _ _ h => h) (by rfl) hHeld ?_ ?_
        rotate_left
        · (intro w hSw; go_simp; (try with_reducible rfl))
        (try simp only [Act.put, List.setIfInBounds_toArray, List.set_cons_zero, List.set_cons_succ])
        refine wpTill_put 3 27 (oi := _) (v := ?_) rfl rfl (by kernel_rfl) (by kernel_rfl) (by kernel_rfl) (by kernel_rfl) (fun _ _ _ h => h) (by rfl) hHeld ?_ ?_
        rotate_left
        · (intro w hSw; go_simp; (try with_reducible rfl))
        (try simp only [Act.put, List.setIfInBounds_toArray, List.set_cons_zero, List.set_cons_succ])
        refine wpTill_put 4 28 (oi := _) (v := ?_) rfl rfl (by kernel_rfl) (by kernel_rfl) (by kernel_rfl) (by kernel_rfl) (fun _ _ _ h => h) (by rfl) hHeld ?_ ?_
        rotate_left
        · (intro w hSw; obtain ⟨l0, l1, l2⟩ := HCL.out _ hSw; go_simp; (try with_reducible rfl))
        (try simp only [Act.put, List.setIfInBounds_toArray, List.set_cons_zero, List.set_cons_succ])
        refine wpTill_put 5 29 (oi := _) (v := ?_) rfl rfl (by kernel_rfl) (by kernel_rfl) (by kernel_rfl) (by kernel_rfl) (fun _ _ _ h => h) (by rfl) hHeld ?_ ?_
        rotate_left
        · (intro w hSw; obtain ⟨l0, l1, l2⟩ := HBL.out _ hSw; go_simp; (try with_reducible rfl))
        (try simp only [Act.put, List.setIfInBounds_toArray, List.set_cons_zero, List.set_cons_succ])
        refine wpTill_one 6 (o := _) (by kernel_rfl) rfl (fun K hK => ?_)
        go_simp
        refine (HOR.out _).mono ?_
        rintro e w5 ⟨rfl, hB5⟩
        have hkr := hkr.trans (hB5.mono hkr.size)
        refine hK.out _ _ (fun _ => (Below.refl wr.heap.size wr).drew.trans (hB5.mono (Below.refl wr.heap.size wr).drew.size)) (fun _ => ?_)
        clear hK K hHeld
        (try simp only [Act.put, List.setIfInBounds_toArray, List.set_cons_zero, List.set_cons_succ])
        refine wpTill_more (S' := fun w' => Below w5.heap.size w5 w') (fun _ h => ((Below.refl wr.heap.size wr).drew.trans (hB5.mono (Below.refl wr.heap.size wr).drew.size)).trans (h.mono (hkr.size))) _ _ _ _ ?_
        have hHeld : (fun w' => Below w5.heap.size w5 w') w5 := Below.refl _ _
        refine wpTill_put 7 31 (oi := _) (v := ?_) rfl rfl (by kernel_rfl) (by kernel_rfl) (by kernel_rfl) (by kernel_rfl) (fun _ _ _ h => h) (by rfl) hHeld ?_ ?_
        rotate_left
        · (intro w hSw; go_simp; (try with_reducible rfl))
        (try simp only [Act.put, List.setIfInBounds_toArray, List.set_cons_zero, List.set_cons_succ])
        refine wpTill_done (by kernel_rfl) ?_ _
        go_wp2_with fail
        go_roundw
        case rel => exact ⟨p, m, rfl, rfl, by omega, by omega, HLO.out, fun k h1 h2 => (by have := inc_mono HI.out (i := m) (j := k) h1 (by rw [HN.out]; exact h2); rw [HY.out] at this; have := HV.out; omega), hB.trans (hkr.mono hz), (hkr.block w.heap.size hzx).trans HBX.out⟩
        case measure => simp [intOf]; omega
    · obtain rfl : p = q := by omega
      have hpt : Parts l x.v p := ⟨by rw [HN.out]; exact hqn, HLO.out, fun j h1 h2 => HHI.out j h1 (by rw [HN.out] at h2; exact h2)⟩
      have hha := parts_has hpt HI.out
      have HPT := Lib.hid hpt
      clear hpt
      by_cases hpn : p < n
      · have hpi : decide ((p : Int) < (n : Int)) = true := by simp; omega
        obtain ⟨b, off, rfl, hbS, hcl⟩ := HC.out (by omega)
        have hb0 := hS b hbS
        have hcm := hcl p (by omega)
        clear hcl
        have hpl : p < l.length := by rw [HN.out]; omega
        generalize hy : nth mp0 l p = y at *
        have hhb : hasV l x.v = (cmpI y.v x.v == 0) := by
          rw [hha, Bool.eq_iff_iff, decide_eq_true_eq, beq_iff_eq, cmpI_eq]
          exact ⟨fun h => h.2, fun h => ⟨hpl, h⟩⟩
        have HHB := Lib.hid hhb
        clear hy hha hhb hpl
        have HCL := Lib.hid (fun w' (hB' : Below wr.heap.size wr w') => (⟨(hB'.cell (p := ⟨b, off + p * 3, none⟩) (Nat.lt_of_lt_of_le hb0 hz)).trans ((hB.cell (p := ⟨b, off + p * 3, none⟩) hb0).trans hcm.1), (hB'.cell (p := ⟨b, off + p * 3 + 1, none⟩) (Nat.lt_of_lt_of_le hb0 hz)).trans ((hB.cell (p := ⟨b, off + p * 3 + 1, none⟩) hb0).trans hcm.2.1), (hB'.cell (p := ⟨b, off + p * 3 + 2, none⟩) (Nat.lt_of_lt_of_le hb0 hz)).trans ((hB.cell (p := ⟨b, off + p * 3 + 2, none⟩) hb0).trans hcm.2.2)⟩ : w'.cell? ⟨b, off + p * 3, none⟩ = some (.int .i64 y.v) ∧ w'.cell? ⟨b, off + p * 3 + 1, none⟩ = some (.int .i64 y.b) ∧ w'.cell? ⟨b, off + p * 3 + 2, none⟩ = some (.int .i64 y.t)))
        have HBL := Lib.hid (fun w' (hB' : Below wr.heap.size wr w') => box3 ((hB'.block w.heap.size hzx).trans HBX.out))
        clear hcm
        have HOR := Lib.hid (fun w' => order_below w' y x)
        generalize cmpI y.v x.v = r at *
        go_wp2_with fail
        refine wp_region_till (T := fun _ => false) (S := fun w' => Below wr.heap.size wr w') (by kernel_rfl) (Below.refl wr.heap.size wr).drew (fun hHeld => ?_)
        have hkr : Below wr.heap.size wr wr.drew := (Below.refl wr.heap.size wr).drew
        refine wpTill_put 0 35 (oi := _) (v := ?_) rfl rfl (by kernel_rfl) (by kernel_rfl) (by kernel_rfl) (by kernel_rfl) (fun _ _ _ h => h) (by rfl) hHeld ?_ ?_
        rotate_left
        · (intro w hSw; go_simp; (try with_reducible rfl))
        (try simp only [Act.put, List.setIfInBounds_toArray, List.set_cons_zero, List.set_cons_succ])
        refine wpTill_put 1 36 (oi := _) (v := ?_) rfl rfl (by kernel_rfl) (by kernel_rfl) (by kernel_rfl) (by kernel_rfl) (fun _ _ _ h => h) (by rfl) hHeld ?_ ?_
        rotate_left
        · (intro w hSw; go_simp; (try with_reducible rfl))
        (try simp only [Act.put, List.setIfInBounds_toArray, List.set_cons_zero, List.set_cons_succ])
        refine wpTill_put 2 37 (oi := _) (v := ?_) rfl rfl (by kernel_rfl) (by kernel_rfl) (by kernel_rfl) (by kernel_rfl) (fun _ _ _ h => h) (by rfl) hHeld ?_ ?_
        rotate_left
        · (intro w hSw; go_simp; (try with_reducible rfl))
        (try simp only [Act.put, List.setIfInBounds_toArray, List.set_cons_zero, List.set_cons_succ])
        refine wpTill_put 3 38 (oi := _) (v := ?_) rfl rfl (by kernel_rfl) (by kernel_rfl) (by kernel_rfl) (by kernel_rfl) (fun _ _ _ h => h) (by rfl) hHeld ?_ ?_
        rotate_left
        · (intro w hSw; go_simp; (try with_reducible rfl))
        (try simp only [Act.put, List.setIfInBounds_toArray, List.set_cons_zero, List.set_cons_succ])
        refine wpTill_put 4 39 (oi := _) (v := ?_) rfl rfl (by kernel_rfl) (by kernel_rfl) (by kernel_rfl) (by kernel_rfl) (fun _ _ _ h => h) (by rfl) hHeld ?_ ?_
        rotate_left
        · (intro w hSw; go_simp; (try with_reducible rfl))
        (try simp only [Act.put, List.setIfInBounds_toArray, List.set_cons_zero, List.set_cons_succ])
        refine wpTill_put 5 40 (oi := _) (v := ?_) rfl rfl (by kernel_rfl) (by kernel_rfl) (by kernel_rfl) (by kernel_rfl) (fun _ _ _ h => h) (by rfl) hHeld ?_ ?_
        rotate_left
        · (intro w hSw; go_simp; (try with_reducible rfl))
        (try simp only [Act.put, List.setIfInBounds_toArray, List.set_cons_zero, List.set_cons_succ])
        refine wpTill_put 6 41 (oi := _) (v := ?_) rfl rfl (by kernel_rfl) (by kernel_rfl) (by kernel_rfl) (by kernel_rfl) (fun _ _ _ h => h) (by rfl) hHeld ?_ ?_
        rotate_left
        · (intro w hSw; go_simp; (try with_reducible rfl))
        (try simp only [Act.put, List.setIfInBounds_toArray, List.set_cons_zero, List.set_cons_succ])
        refine wpTill_put 7 42 (oi := _) (v := ?_) rfl rfl (by kernel_rfl) (by kernel_rfl) (by kernel_rfl) (by kernel_rfl) (fun _ _ _ h => h) (by rfl) hHeld ?_ ?_
        rotate_left
        · (intro w hSw; go_simp; (try with_reducible rfl))
        (try simp only [Act.put, List.setIfInBounds_toArray, List.set_cons_zero, List.set_cons_succ])
        refine wpTill_put 8 43 (oi := _) (v := ?_) rfl rfl (by kernel_rfl) (by kernel_rfl) (by kernel_rfl) (by kernel_rfl) (fun _ _ _ h => h) (by rfl) hHeld ?_ ?_
        rotate_left
        · (intro w hSw; go_simp; (try with_reducible rfl))
        (try simp only [Act.put, List.setIfInBounds_toArray, List.set_cons_zero, List.set_cons_succ])
        refine wpTill_put 9 44 (oi := _) (v := ?_) rfl rfl (by kernel_rfl) (by kernel_rfl) (by kernel_rfl) (by kernel_rfl) (fun _ _ _ h => h) (by rfl) hHeld ?_ ?_
        rotate_left
        · (intro w hSw; obtain ⟨l0, l1, l2⟩ := HCL.out _ hSw; go_simp; (try with_reducible rfl))
        (try simp only [Act.put, List.setIfInBounds_toArray, List.set_cons_zero, List.set_cons_succ])
        refine wpTill_put 10 45 (oi := _) (v := ?_) rfl rfl (by kernel_rfl) (by kernel_rfl) (by kernel_rfl) (by kernel_rfl) (fun _ _ _ h => h) (by rfl) hHeld ?_ ?_
        rotate_left
        · (intro w hSw; obtain ⟨l0, l1, l2⟩ := HBL.out _ hSw; go_simp; (try with_reducible rfl))
        (try simp only [Act.put, List.setIfInBounds_toArray, List.set_cons_zero, List.set_cons_succ])
        refine wpTill_one 11 (o := _) (by kernel_rfl) rfl (fun K hK => ?_)
        go_simp
        refine (HOR.out _).mono ?_
        rintro e w5 ⟨rfl, hB5⟩
        have hkr := hkr.trans (hB5.mono hkr.size)
        refine hK.out _ _ (fun _ => (Below.refl wr.heap.size wr).drew.trans (hB5.mono (Below.refl wr.heap.size wr).drew.size)) (fun _ => ?_)
        clear hK K hHeld
        (try simp only [Act.put, List.setIfInBounds_toArray, List.set_cons_zero, List.set_cons_succ])
        refine wpTill_more (S' := fun w' => Below w5.heap.size w5 w') (fun _ h => ((Below.refl wr.heap.size wr).drew.trans (hB5.mono (Below.refl wr.heap.size wr).drew.size)).trans (h.mono (hkr.size))) _ _ _ _ ?_
        have hHeld : (fun w' => Below w5.heap.size w5 w') w5 := Below.refl _ _
        refine wpTill_put 12 47 (oi := _) (v := ?_) rfl rfl (by kernel_rfl) (by kernel_rfl) (by kernel_rfl) (by kernel_rfl) (fun _ _ _ h => h) (by rfl) hHeld ?_ ?_
        rotate_left
        · (intro w hSw; go_simp; (try with_reducible rfl))
        (try simp only [Act.put, List.setIfInBounds_toArray, List.set_cons_zero, List.set_cons_succ])
        refine wpTill_put 13 48 (oi := _) (v := ?_) rfl rfl (by kernel_rfl) (by kernel_rfl) (by kernel_rfl) (by kernel_rfl) (fun _ _ _ h => h) (by rfl) hHeld ?_ ?_
        rotate_left
        · (intro w hSw; go_simp; (try with_reducible rfl))
        (try simp only [Act.put, List.setIfInBounds_toArray, List.set_cons_zero, List.set_cons_succ])
        refine wpTill_put 14 6 (oi := _) (v := ?_) rfl rfl (by kernel_rfl) (by kernel_rfl) (by kernel_rfl) (by kernel_rfl) (fun _ _ _ h => h) (by rfl) hHeld ?_ ?_
        rotate_left
        · (intro w hSw; go_simp; (try with_reducible rfl))
        (try simp only [Act.put, List.setIfInBounds_toArray, List.set_cons_zero, List.set_cons_succ])
        refine wpTill_put 15 7 (oi := _) (v := ?_) rfl rfl (by kernel_rfl) (by kernel_rfl) (by kernel_rfl) (by kernel_rfl) (fun _ _ _ h => h) (by rfl) hHeld ?_ ?_
        rotate_left
        · (intro w hSw; go_simp; (try with_reducible rfl))
        (try simp only [Act.put, List.setIfInBounds_toArray, List.set_cons_zero, List.set_cons_succ])
        refine wpTill_done (by kernel_rfl) ?_ _
        go_wp2_with fail
        go_ret2
        exact ⟨p, HPT.out, by rw [HHB.out]; rfl, hB.trans (hkr.mono hz)⟩
      · have hpi : decide ((p : Int) < (n : Int)) = false := by simp; omega
        have hhb : hasV l x.v = false := by rw [hha]; simp [HN.out]; omega
        have HHB := Lib.hid hhb
        clear hha hhb
        go_wp2_with fail
        go_quiet (fail)
        go_wp2_with fail
        go_ret2
        exact ⟨p, HPT.out, by rw [HHB.out]; rfl, below_drewN hB _⟩
end Go.Proofs.YtcdfbpdejbpgjaaGreat

/- delta.Check and scantlingref39.Check return chk of the mappings, for any slice of mappings; nothing that was there changes. -/
namespace Go.Proofs.YtcdfbpdejbpgjaaGreat
open Go.RowKit

set_option maxHeartbeats 400000 in
theorem refChk (w : World) (S : Nat → Prop) (v : Value) (l : List Mp) (hn : l.length ≤ 140737488355328) (h : IsMaps w S v l) :
    Calls Tryz.prog 57 #[v] w fun e w' => e = .returned (.int .i64 (chk l)) ∧ ∃ m, w' = w.drewN m := by
  obtain ⟨A, c, rfl, _, hr⟩ := h
  generalize hl0 : l.length = n at *
  have hl := Lib.hid hl0
  clear hl0
  go_enter Tryz.func57, Tryz.ntmps57
  go_wp2_with fail
  go_loopw [3] (fun i wr => ∃ k : Nat, k ≤ n ∧ i = .int .i64 k ∧ (∃ m, wr = w.drewN m) ∧ ChkAt l k) (fun i _ => n - (intOf i).toNat)
  case atStart => exact ⟨0, by omega, rfl, ⟨0, rfl⟩, ChkAt.zero l⟩
  case round =>
    obtain ⟨k, hk, rfl, ⟨m, rfl⟩, hA⟩ := hrel
    by_cases hlt : k < n
    · obtain ⟨b, off, rfl, hb, hc⟩ := maps_cells hr (by rw [hl.out]; omega)
      obtain ⟨c0, c1, c2⟩ := hc k (by rw [hl.out]; omega)
      have hlt' := hlt
      rw [← hl.out] at hlt'
      have HA := Lib.hid hA
      clear hA
      by_cases h0 : 0 < k
      · obtain ⟨d0, d1, d2⟩ := hc (k - 1) (by rw [hl.out]; omega)
        have HL := Lib.hid (lastV_pos l h0)
        have hd : decide ((0 : Int) < (k : Int)) = true := by simp; omega
        have h1 : ((k : Int) - 1).toNat = k - 1 := by omega
        clear hc
        go_wp2_with fail
        any_goals (go_quiet (fail); go_wp2)
        all_goals first
          | (go_ret; exact ⟨ret_int (HA.out.range hlt' (by omega)).symm, by first | exact ⟨_, rfl⟩ | exact dr2 _ _ _⟩)
          | (go_ret; exact ⟨ret_int (HA.out.order hlt' (by omega) (by omega) (by rw [HL.out]; omega)).symm, by first | exact ⟨_, rfl⟩ | exact dr2 _ _ _⟩)
          | (go_roundw
             case rel => exact ⟨k + 1, by omega, by go_num, by first | exact ⟨_, rfl⟩ | exact dr2 _ _ _, HA.out.next hlt' (by omega) (by omega) (by rw [HL.out]; omega)⟩
             case measure => simp [intOf]; omega)
      · have hd : decide ((0 : Int) < (k : Int)) = false := by simp; omega
        have HL : Hid (lastV l k = -1) := by obtain rfl : k = 0 := by omega
                                             rfl
        clear hc
        go_wp2_with fail
        any_goals (go_quiet (fail); go_wp2)
        all_goals first
          | (go_ret; exact ⟨ret_int (HA.out.range hlt' (by omega)).symm, by first | exact ⟨_, rfl⟩ | exact dr2 _ _ _⟩)
          | (go_roundw
             case rel => exact ⟨k + 1, by omega, by go_num, by first | exact ⟨_, rfl⟩ | exact dr2 _ _ _, HA.out.next hlt' (by omega) (by omega) (by rw [HL.out]; omega)⟩
             case measure => simp [intOf]; omega)
    · go_wp2
      go_ret
      exact ⟨ret_int (hA.done (by rw [hl.out]; omega)).symm, m, rfl⟩

set_option maxHeartbeats 400000 in
theorem proChk (w : World) (S : Nat → Prop) (v : Value) (l : List Mp) (hS : ∀ b, S b → b < w.heap.size) (hn : l.length ≤ 140737488355328) (h : IsMaps w S v l) :
    Calls Tryz.prog 34 #[v] w fun e w' => e = .returned (.int .i64 (chk l)) ∧ Below w.heap.size w w' := by
  obtain ⟨A, c, rfl, _, hr⟩ := h
  generalize hl0 : l.length = n at *
  have hl := Lib.hid hl0
  clear hl0
  go_enter Tryz.func34, Tryz.ntmps34
  go_wp2_with fail
  go_loopw [3, 8] (fun last i wr => ∃ k : Nat, k ≤ n ∧ i = .int .i64 k ∧ last = .int .i64 (lastV l k) ∧ Below w.heap.size w wr ∧ ChkAt l k) (fun _ i _ => n - (intOf i).toNat)
  case atStart => exact ⟨0, by omega, rfl, rfl, Below.refl _ _, ChkAt.zero l⟩
  case round =>
    obtain ⟨k, hk, rfl, rfl, hB, hA⟩ := hrel
    by_cases hlt : k < n
    · obtain ⟨b, off, rfl, hb, hc⟩ := maps_cells (hr.keep rmp_stable (fun _ h => h) (keep_below hB hS)) (by rw [hl.out]; omega)
      obtain ⟨c0, c1, c2⟩ := hc k (by rw [hl.out]; omega)
      have hlt' := hlt
      rw [← hl.out] at hlt'
      have HA := Lib.hid hA
      have hbs : b < wr.heap.size := by have := hS b hb; have := hB.size; omega
      clear hA hc
      have HB := hB.alloc hB.size (.cells #[.int .i64 (nth mp0 l k).v, .int .i64 (nth mp0 l k).b, .int .i64 (nth mp0 l k).t] 40)
      go_wp2
      all_goals first
        | (go_ret; exact ⟨ret_int (HA.out.range hlt' (by omega)).symm, HB⟩)
        | (go_ret; exact ⟨ret_int (HA.out.order hlt' (by omega) (by omega) (by omega)).symm, HB⟩)
        | (go_roundw
           case rel => exact ⟨k + 1, by omega, by go_num, by rw [lastV_succ], HB, HA.out.next hlt' (by omega) (by omega) (by omega)⟩
           case measure => simp [intOf]; omega)
    · go_wp2
      go_ret
      exact ⟨ret_int (hA.done (by rw [hl.out]; omega)).symm, hB⟩
end Go.Proofs.YtcdfbpdejbpgjaaGreat

/- merge.check, merge.has, merge.without, merge.Cut's test. Condition: the slices are within the reach. -/
namespace Go.Proofs.YtcdfbpdejbpgjaaGreat
open Go.RowKit Go.Shelf
attribute [local go_sem] Oper.semAt_some

theorem enters_has : ∀ args w, (callFunc 36 args).run Tryz.prog w = .ok (.enter 36 args) w := enters_of Tryz.func36 (by kernel_rfl) rfl
theorem has_any (w : World) (A : Option Addr) (n c : Nat) : Calls Tryz.prog 21 #[.slice A n c] w fun e w' => e = .returned (.func (.func 36) #[] #[.pointer (some ⟨w.heap.size, 0, none⟩)]) ∧ w' = w.alloc (.cells #[.slice A n c] 34) := by
  go_enter Tryz.func21, Tryz.ntmps21
  go_wp2
  go_ret
  exact ⟨rfl, rfl⟩
set_option maxHeartbeats 800000 in
theorem has1_any (w : World) (S : Nat → Prop) (b : Nat) (A : Option Addr) (c : Nat) (l : List Mp) (m : Mp) (hS : ∀ b, S b → b < w.heap.size) (hb : w.cell? ⟨b, 0, none⟩ = some (.slice A l.length c)) (hbl : b < w.heap.size) (h : IsMaps w S (.slice A l.length c) l) (hl1 : l.length ≤ 140737488355328) (hi : Inc l) :
    Calls Tryz.prog 36 #[.agg #[.int .i64 m.v, .int .i64 m.b, .int .i64 m.t], .pointer (some ⟨b, 0, none⟩)] w fun e w' => e = .returned (.bool (hasV l m.v)) ∧ Below w.heap.size w w' := by
  have hs := fun w' (hB : Below w.heap.size w w') => search_any w' S _ l m (fun b hb => Nat.lt_of_lt_of_le (hS b hb) hB.size) (h.keep rmp_stable (fun _ h => h) (keep_below hB hS)) hl1 hi
  unfold SearchIs at hs
  have hs2 : ∀ w', Below w.heap.size w w' → Calls Tryz.prog 37 #[.slice A l.length c, .agg #[.int .i64 m.v, .int .i64 m.b, .int .i64 m.t], .func (.func 23) #[] #[]] w' fun e w'' => ∃ k : Int, e = .returned (.tuple #[.int .i64 k, .bool (hasV l m.v)]) ∧ Below w'.heap.size w' w'' := fun w' hB => (hs w' hB).mono fun e w'' ⟨k, _, he, hB2⟩ => ⟨k, he, hB2⟩
  have HS := Lib.hid hs2
  have hal : Below w.heap.size w (w.alloc (.cells #[.int .i64 m.v, .int .i64 m.b, .int .i64 m.t] 40)) := (Below.refl _ _).alloc (Nat.le_refl _) _
  clear hs hs2 h
  generalize hasV l m.v = r at *
  generalize l.length = n at *
  go_enter Tryz.func36, Tryz.ntmps36
  go_wp2_with (go_at_call 37; refine (HS.out _ hal).mono ?_; rintro e w5 ⟨k, rfl, hB5⟩)
  go_ret
  exact ⟨rfl, hal.trans (hB5.mono (by simp))⟩
/-- The test of 'without': it is in the list. -/
theorem has_pred (w : World) (S : Nat → Prop) (A : Option Addr) (c : Nat) (l : List Mp) (hS : ∀ b, S b → b < w.heap.size) (h : IsMaps w S (.slice A l.length c) l) (hl1 : l.length ≤ 140737488355328) (hi : Inc l) :
    PredIs 36 #[.pointer (some ⟨w.heap.size, 0, none⟩)] (fun m => hasV l m.v) (w.heap.size + 1) (w.alloc (.cells #[.slice A l.length c] 34)) := fun w' hB m => by
  have hal : Below w.heap.size w (w.alloc (.cells #[.slice A l.length c] 34)) := (Below.refl _ _).alloc (Nat.le_refl _) _
  have hk := hal.trans (hB.mono (by omega))
  have hc : w'.cell? ⟨w.heap.size, 0, none⟩ = some (.slice A l.length c) := ((One.new w (.slice A l.length c) 34).below hB (by omega)).cell
  exact has1_any w' S w.heap.size A c l m (fun b hb => Nat.lt_of_lt_of_le (hS b hb) hk.size) hc (by have := hB.size; simp at this; omega) (h.keep rmp_stable (fun _ h => h) (keep_below hk hS)) hl1 hi
/-- The mappings of which the test says no, in new memory. -/
def WithoutIs (l : List Mp) (w : World) (e : Ending) (w' : World) : Prop :=
  ∃ A' c', e = .returned (.slice A' l.length c') ∧ w'.ownsRow w.heap.size 40 3 (.slice A' l.length c') l.length (flats Mp.enc l) ∧ Below w.heap.size w w'
theorem flat_cells {w : World} {S : Nat → Prop} {l : List Mp} {xs : List Value} (h : CellsOf RMp 3 mp0 w S l xs) : xs = flats Mp.enc l := by
  apply List.ext_getElem?
  intro i
  by_cases hi : i < l.length * 3
  · obtain ⟨cs, _, hr, hg⟩ := h.2 (i / 3) (by omega)
    obtain rfl : cs = _ := hr
    have h2 := flats_get (d := mp0) Mp.enc_len l (i / 3) (i % 3)
    have hl : i % 3 < (Mp.enc (nth mp0 l (i / 3))).length := by rw [Mp.enc_len]; omega
    have e : i / 3 * 3 + i % 3 = i := by omega
    have a1 := hg (i % 3) hl
    have a2 := h2 _ (by omega) (List.getElem?_eq_getElem hl)
    rw [e] at a1 a2
    rw [a2]
    exact a1.trans (List.getElem?_eq_getElem hl)
  · rw [List.getElem?_eq_none (by rw [h.1]; omega), List.getElem?_eq_none (by rw [flats_length Mp.enc_len]; omega)]
set_option maxHeartbeats 800000 in
theorem without_any (w : World) (S : Nat → Prop) (v : Value) (l : List Mp) (g : Nat) (cb : Array Value) (pf : Mp → Bool) (hS : ∀ b, S b → b < w.heap.size) (h : IsMaps w S v l) (hl1 : l.length ≤ 2199023255552)
    (eg : ∀ args w, (callFunc g args).run Tryz.prog w = .ok (.enter g args) w) (B : Nat) (w0 : World) (hB0 : Below B w0 w) (hBw : B ≤ w.heap.size) (hp : PredIs g cb pf B w0) :
    Calls Tryz.prog 20 #[v, .func (.func g) #[] cb] w (WithoutIs (l.filter fun m => !pf m) w) := by
  have hcl : Calls Tryz.prog 29 #[v] w fun e w' => ∃ A n c, n = l.length ∧ e = .returned (.slice A n c) ∧ w'.ownsRow w.heap.size 40 3 (.slice A n c) n (flats Mp.enc l) ∧ Below w.heap.size w w' := (cloneMaps w S v l hS h hl1).mono fun e w' ⟨v', he, _, _, hB, xs, hown, hc⟩ => by
    obtain ⟨A, c, rfl, _⟩ := own_form0 hown
    rw [flat_cells hc] at hown
    exact ⟨A, _, c, rfl, he, hown, hB⟩
  have hde := fun w' A n c (hn : n = l.length) (hown : w'.ownsRow w.heap.size 40 3 (.slice A n c) n (flats Mp.enc l)) (hB : Below w.heap.size w w') => deleteFunc_any w' w.heap.size A n c l g cb pf B w0 hown hn.symm (by omega) eg (hB0.trans (hB.mono hBw)) hBw hB.size hp
  unfold DelIs at hde
  have HCL := Lib.hid hcl
  have HDE := Lib.hid hde
  clear hcl hde h hp eg
  generalize l.filter (fun m => !pf m) = r at *
  unfold WithoutIs
  go_enter Tryz.func20, Tryz.ntmps20
  go_wp2_with (first
    | (go_at_call 29; refine HCL.out.mono ?_; rintro e w1 ⟨A1, n1, c1, hn1, rfl, hown1, hB1⟩; have HN1 := Lib.hid hn1; clear hn1)
    | (go_at_call 35; refine (HDE.out _ _ _ _ HN1.out hown1 hB1).mono ?_; rintro e w2 ⟨A2, c2, rfl, hown2, hB2⟩))
  go_ret
  exact ⟨A2, c2, rfl, hown2, hB1.trans hB2⟩
end Go.Proofs.YtcdfbpdejbpgjaaGreat

/- merge.check: the first error of lists. Condition: the slices are within the reach. -/
namespace Go.Proofs.YtcdfbpdejbpgjaaGreat
open Go.RowKit Go.Shelf
attribute [local go_sem] Oper.semAt_some

def chkAll : List (List Mp) → Int
  | [] => 0
  | l :: r => if chk l ≠ 0 then chk l else chkAll r
set_option maxHeartbeats 800000 in
theorem mcheck_any (w : World) (S : Nat → Prop) (G n c : Nat) (V : Nat → Value) (ls : List (List Mp)) (hn : ls.length = n) (hn2 : n ≤ 2) (hG : G < w.heap.size) (hS : ∀ b, S b → b < w.heap.size) (hc : ∀ k, k < n → w.cell? ⟨G, k, none⟩ = some (V k)) (h : ∀ k, k < n → IsMaps w S (V k) (nth [] ls k)) (hl1 : ∀ k, k < n → (nth [] ls k).length ≤ 140737488355328) :
    Calls Tryz.prog 19 #[.slice (some ⟨G, 0, none⟩) n c] w fun e w' => e = .returned (.int .i64 (chkAll ls)) ∧ Below w.heap.size w w' := by
  have HC := Lib.hid hc
  have HK := Lib.hid (fun k hk w' (hB : Below w.heap.size w w') => proChk w' S (V k) (nth [] ls k) (fun b hb => Nat.lt_of_lt_of_le (hS b hb) hB.size) (hl1 k hk) ((h k hk).keep rmp_stable (fun _ h => h) (keep_below hB hS)))
  have HN := Lib.hid hn
  clear hc h hl1 hn
  go_enter Tryz.func19, Tryz.ntmps19
  go_wp2_with fail
  go_loopw [8] (fun i wr => ∃ k : Nat, i = .int .i64 k ∧ k ≤ n ∧ Hid (chkAll (ls.drop k) = chkAll ls) ∧ Below w.heap.size w wr) (fun i _ => n - (intOf i).toNat)
  case atStart => exact ⟨0, rfl, by omega, Lib.hid rfl, Below.refl _ _⟩
  case round =>
    obtain ⟨k, rfl, hk, HA, hB⟩ := hrel
    have hz := hB.size
    by_cases hlt : k < n
    · have hki : (k : Int) < (n : Int) := by omega
      have c0 := (hB.cell (p := ⟨G, k, none⟩) hG).trans (HC.out k hlt)
      have hcall := HK.out k hlt wr hB
      have hd := drop_nth [] ls k (by rw [HN.out]; exact hlt)
      have ha := HA.out
      rw [hd] at ha
      simp only [chkAll] at ha
      generalize V k = vk at *
      by_cases h0 : chk (nth [] ls k) = 0
      · rw [if_neg (by simpa using h0)] at ha
        rw [h0] at hcall
        have HA2 := Lib.hid ha
        have HCA := Lib.hid hcall
        clear ha hcall hd h0
        go_wp2_with (go_at_call 34; refine HCA.out.mono ?_; rintro e w5 ⟨rfl, hB5⟩)
        go_roundw
        case rel => exact ⟨k + 1, by go_num, by omega, HA2, hB.trans (hB5.mono hz)⟩
        case measure => simp [intOf]; omega
      · rw [if_pos h0] at ha
        rw [ha] at hcall
        have hne : (chkAll ls != 0) = true := by rw [← ha]; simpa using h0
        have HCA := Lib.hid hcall
        clear ha hcall hd h0
        generalize hr : chkAll ls = r at *
        have HR := Lib.hid hr
        clear hr
        go_wp2_with (go_at_call 34; refine HCA.out.mono ?_; rintro e w5 ⟨rfl, hB5⟩)
        go_ret
        exact ⟨by rw [HR.out]; rfl, hB.trans (hB5.mono hz)⟩
    · obtain rfl : k = n := by omega
      have ha := HA.out
      rw [List.drop_of_length_le (by rw [HN.out]; omega)] at ha
      have HA2 := Lib.hid (show chkAll ls = 0 from ha.symm)
      clear ha
      go_wp2_with fail
      go_ret
      exact ⟨by rw [HA2.out]; rfl, hB⟩
end Go.Proofs.YtcdfbpdejbpgjaaGreat

/- slices.SortFunc at mappings in a row of the call's own. No condition: for any program. -/
namespace Go.Proofs.YtcdfbpdejbpgjaaGreat
open Go Go.RowKit Go.Shelf Go.Sort

instance : Inhabited Mp := ⟨mp0⟩
theorem mpget (l : List Mp) (i : Nat) (h : i < l.length) : l.toArray[i]! = nth mp0 l i := by
  rw [nth_get mp0 l i h, getElem!_pos _ _ (by simpa using h)]; simp
theorem flatK_flats (l : List Mp) : (flatK Mp.enc 3 l.toArray).toList = flats Mp.enc l := by
  apply List.ext_getElem?
  intro i
  by_cases hi : i < l.length * 3
  · have h1 : (flatK Mp.enc 3 l.toArray).toList[i]? = some (flatK Mp.enc 3 l.toArray)[i]! := by
      rw [getElem!_pos _ _ (by rw [size_flatK]; simpa using hi)]
      simp [size_flatK, hi]
    have hl : i % 3 < (Mp.enc (nth mp0 l (i / 3))).length := by rw [Mp.enc_len]; omega
    have h2 := flats_get (d := mp0) Mp.enc_len l (i / 3) (i % 3) _ (by omega) (List.getElem?_eq_getElem hl)
    rw [show i / 3 * 3 + i % 3 = i by omega] at h2
    rw [h1, h2, get_flatK _ _ _ _ (by simpa using hi), mpget l _ (by omega), getElem!_pos (Mp.enc (nth mp0 l (i / 3))) (i % 3) hl]
  · rw [List.getElem?_eq_none (by simp [size_flatK]; omega), List.getElem?_eq_none (by rw [flats_length Mp.enc_len]; omega)]
section
variable {w : World} {base e g n c : Nat} {l l' : List Mp}
theorem own_holds (h : w.ownsRow base e 3 (.slice (some ⟨g, 0, none⟩) n c) n (flats Mp.enc l)) (_ : l.length = n) : HoldsK Mp.enc 3 w g 0 l.toArray := by
  intro j hj
  rw [size_flatK] at hj
  simp only [List.size_toArray] at hj
  refine ⟨?_, h.frozenAt _⟩
  rw [Nat.zero_add, h.cellAt _ (by omega), ← flatK_flats]
  rw [getElem!_pos _ _ (by rw [size_flatK]; simpa using hj)]
  simp [size_flatK, hj]
theorem own_sorted (h : w.ownsRow base e 3 (.slice (some ⟨g, 0, none⟩) n c) n (flats Mp.enc l)) (_ : l.length = n) (hl' : l'.length = n) (m : Nat) (os : Array Obj) :
    (sortWorldK Mp.enc 3 w g 0 m l'.toArray os).ownsRow base e 3 (.slice (some ⟨g, 0, none⟩) n c) n (flats Mp.enc l') ∧ Below base w (sortWorldK Mp.enc 3 w g 0 m l'.toArray os) := by
  rcases h.2 with ⟨hv, _⟩ | ⟨g', cap', cur, hv, hb, hg, hnc, hcm, hcs, htake⟩
  · injection hv with e1; cases e1
  · injection hv with e1 e2 e3
    injection e1 with e1
    injection e1 with e1
    subst e1 e3
    have hlt : g < w.heap.size := (Array.getElem?_eq_some_iff.1 hg).1
    have hblk : ∀ k, k < w.heap.size → (sortWorldK Mp.enc 3 w g 0 m l'.toArray os).heap[k]? = (putRowK Mp.enc 3 w g 0 l'.toArray).heap[k]? := fun k hk => by
      have hsz : (putRowK Mp.enc 3 w g 0 l'.toArray).heap.size = w.heap.size := size_putRow _ _ _ _ _
      show ((putRowK Mp.enc 3 w g 0 l'.toArray).heap ++ os)[k]? = _
      rw [Array.getElem?_append_left (by rw [hsz]; exact hk)]
    have hnew : (sortWorldK Mp.enc 3 w g 0 m l'.toArray os).heap[g]? = some (.cells (putCells id 0 (flatK Mp.enc 3 l'.toArray) cur) e (0, 0)) := by
      rw [hblk g hlt]
      simp [putRowK, putRow, mapBlock, Array.getElem?_modify, hg, onCells]
    refine ⟨⟨by rw [flats_length Mp.enc_len, hl'], .inr ⟨g, c, _, rfl, hb, hnew, hnc, hcm, by simpa [putCells] using hcs, ?_⟩⟩, rfl, rfl, rfl, ?_, fun k hk => ?_⟩
    · rw [← flatK_flats]
      apply List.ext_getElem?
      intro i
      rw [List.getElem?_take]
      have hle : n * 3 ≤ cur.size := by rw [hcs]; exact Nat.mul_le_mul_right _ hnc
      by_cases hi : i < n * 3
      · rw [if_pos hi]
        have h3 : i < (flatK Mp.enc 3 l'.toArray).size := by rw [size_flatK]; simpa [hl'] using hi
        have hic : i < cur.size := by omega
        rw [Array.getElem?_toList, Array.getElem?_toList]
        unfold putCells
        rw [Array.getElem?_mapIdx, Array.getElem?_eq_getElem hic, Array.getElem?_eq_getElem h3]
        simp only [Option.map_some, Nat.zero_le, Nat.zero_add, true_and, Nat.sub_zero, id]
        rw [if_pos h3, getElem!_pos (flatK Mp.enc 3 l'.toArray) i h3]
      · rw [if_neg hi, List.getElem?_eq_none (by simp [size_flatK, hl']; omega)]
    · show w.heap.size ≤ ((putRowK Mp.enc 3 w g 0 l'.toArray).heap ++ os).size
      have hsz : (putRowK Mp.enc 3 w g 0 l'.toArray).heap.size = w.heap.size := size_putRow _ _ _ _ _
      rw [Array.size_append, hsz]; omega
    · rw [hblk k (by omega)]
      have hne : g ≠ k := by omega
      simp [putRowK, putRow, mapBlock, Array.getElem?_modify, hne]
end
end Go.Proofs.YtcdfbpdejbpgjaaGreat

/- slices.SortFunc at structs, by the shelf: the table of numbers, and a field for each fact. No condition. -/
namespace Go.Proofs.YtcdfbpdejbpgjaaGreat
open Go.Shelf
def sortMaps_ren : Go.Shelf.Ren := ⟨fun | 6 => 22 | 15 => 39 | 14 => 38 | 28 => 67 | 29 => 68 | 20 => 59 | 21 => 60 | 22 => 61 | 23 => 62 | 24 => 63 | 25 => 64 | 26 => 65 | 27 => 66 | 46 => 82 | 47 => 83 | 48 => 84 | 49 => 85 | 50 => 86 | 57 => 101 | n => n, fun | 22 => 34 | 24 => 40 | 25 => 57 | 3 => 3 | 39 => 75 | 0 => 0 | 53 => 93 | 55 => 95 | 4 => 4 | 46 => 87 | 45 => 86 | 50 => 71 | 5 => 5 | 9 => 9 | 66 => 113 | 70 => 117 | 76 => 136 | 77 => 137 | n => n, fun | n => n⟩
theorem sortMaps : Go.Proofs.SlLaysF0.n6 Tryz.prog sortMaps_ren := {
  mixed := by kernel_rfl
  f6 := ⟨Tryz.f22.name, by decide, Tryz.func22.trans (congrArg some (by kernel_rfl))⟩
  f14 := ⟨Tryz.f38.name, by decide, Tryz.func38.trans (congrArg some (by kernel_rfl))⟩
  f15 := Tryz.func39.trans (congrArg some (by kernel_rfl))
  f20 := ⟨Tryz.f59.name, by decide, Tryz.func59.trans (congrArg some (by kernel_rfl))⟩
  f21 := ⟨Tryz.f60.name, by decide, Tryz.func60.trans (congrArg some (by kernel_rfl))⟩
  f22 := ⟨Tryz.f61.name, by decide, Tryz.func61.trans (congrArg some (by kernel_rfl))⟩
  f23 := ⟨Tryz.f62.name, by decide, Tryz.func62.trans (congrArg some (by kernel_rfl))⟩
  f24 := ⟨Tryz.f63.name, by decide, Tryz.func63.trans (congrArg some (by kernel_rfl))⟩
  f25 := ⟨Tryz.f64.name, by decide, Tryz.func64.trans (congrArg some (by kernel_rfl))⟩
  f26 := ⟨Tryz.f65.name, by decide, Tryz.func65.trans (congrArg some (by kernel_rfl))⟩
  f27 := ⟨Tryz.f66.name, by decide, Tryz.func66.trans (congrArg some (by kernel_rfl))⟩
  f28 := Tryz.func67.trans (congrArg some (by kernel_rfl))
  f29 := Tryz.func68.trans (congrArg some (by kernel_rfl))
  f46 := ⟨Tryz.f82.name, by decide, Tryz.func82.trans (congrArg some (by kernel_rfl))⟩
  f47 := Tryz.func83.trans (congrArg some (by kernel_rfl))
  f48 := Tryz.func84.trans (congrArg some (by kernel_rfl))
  f49 := ⟨Tryz.f85.name, by decide, Tryz.func85.trans (congrArg some (by kernel_rfl))⟩
  f50 := ⟨Tryz.f86.name, by decide, Tryz.func86.trans (congrArg some (by kernel_rfl))⟩
  f57 := ⟨Tryz.f101.name, by decide, Tryz.func101.trans (congrArg some (by kernel_rfl))⟩
  t0 := Tryz.underlying0
  a0 := Tryz.isAgg0
  z0 := Tryz.sizeOf0
  v0 := Tryz.zeroValue0
  t3 := Tryz.underlying3
  a3 := Tryz.isAgg3
  z3 := Tryz.sizeOf3
  v3 := Tryz.zeroValue3
  t4 := Tryz.underlying4
  a4 := Tryz.isAgg4
  z4 := Tryz.sizeOf4
  v4 := Tryz.zeroValue4
  t5 := Tryz.underlying5
  a5 := Tryz.isAgg5
  z5 := Tryz.sizeOf5
  v5 := Tryz.zeroValue5
  t9 := Tryz.underlying9
  a9 := Tryz.isAgg9
  z9 := Tryz.sizeOf9
  v9 := Tryz.zeroValue9
  t22 := Tryz.underlying34
  a22 := Tryz.isAgg34
  z22 := Tryz.sizeOf34
  v22 := Tryz.zeroValue34
  t25 := Tryz.underlying57
  a25 := Tryz.isAgg57
  z25 := Tryz.sizeOf57
  v25 := Tryz.zeroValue57
  t39 := Tryz.underlying75
  a39 := Tryz.isAgg75
  z39 := Tryz.sizeOf75
  v39 := Tryz.zeroValue75
  t45 := Tryz.underlying86
  a45 := Tryz.isAgg86
  z45 := Tryz.sizeOf86
  v45 := Tryz.zeroValue86
  t46 := Tryz.underlying87
  a46 := Tryz.isAgg87
  z46 := Tryz.sizeOf87
  v46 := Tryz.zeroValue87
  t50 := Tryz.underlying71
  a50 := Tryz.isAgg71
  z50 := Tryz.sizeOf71
  v50 := Tryz.zeroValue71
  t53 := Tryz.underlying93
  a53 := Tryz.isAgg93
  z53 := Tryz.sizeOf93
  v53 := Tryz.zeroValue93
  t55 := Tryz.underlying95
  a55 := Tryz.isAgg95
  z55 := Tryz.sizeOf95
  v55 := Tryz.zeroValue95
  t66 := Tryz.underlying113
  a66 := Tryz.isAgg113
  z66 := Tryz.sizeOf113
  v66 := Tryz.zeroValue113
  t70 := Tryz.underlying117
  a70 := Tryz.isAgg117
  z70 := Tryz.sizeOf117
  v70 := Tryz.zeroValue117
  t76 := Tryz.underlying136
  a76 := Tryz.isAgg136
  z76 := Tryz.sizeOf136
  v76 := Tryz.zeroValue136
  t77 := Tryz.underlying137
  a77 := Tryz.isAgg137
  z77 := Tryz.sizeOf137
  v77 := Tryz.zeroValue137 }
end Go.Proofs.YtcdfbpdejbpgjaaGreat

/- slices.SortFunc at mappings by merge.order: a permutation, in order. No condition. -/
namespace Go.Proofs.YtcdfbpdejbpgjaaGreat
open Go.RowKit Go.Shelf Go.Sort

def cfV (x y : Mp) : Int := cmpI x.v y.v
theorem ltV (x y : Mp) : ltOf cfV x y = decide (x.v < y.v) := by
  unfold ltOf cfV
  rw [Bool.eq_iff_iff]
  simp [cmpI_lt]
theorem swoV : SWO (ltOf cfV) where
  irrefl x := by rw [ltV]; simp
  trans x y z h1 h2 := by rw [ltV] at *; simp at *; omega
  ntrans x y z h1 h2 := by rw [ltV] at *; simp at *; omega
theorem order_lays (w : World) (blk off size : Nat) : CmpLays Tryz.prog 23 #[] Mp.enc 3 cfV blk off size w := fun m os dk _ x y => by
  refine (order_any _ x y).mono ?_
  rintro e w' ⟨rfl, rfl⟩
  exact ⟨rfl, 0, _, by rw [alloc_eq_grow, alloc_eq_grow, grow_grow]; rfl⟩
def SortIs (l : List Mp) (base : Nat) (A : Option Addr) (n c : Nat) (w : World) (e : Ending) (w' : World) : Prop :=
  ∃ l', l'.Perm l ∧ (∀ i j, i < j → j < l'.length → (nth mp0 l' i).v ≤ (nth mp0 l' j).v) ∧ e = .returned (.tuple #[]) ∧ w'.ownsRow base 40 3 (.slice A n c) n (flats Mp.enc l') ∧ Below base w w'
theorem sort_any (w : World) (base : Nat) (A : Option Addr) (n c : Nat) (l : List Mp) (hown : w.ownsRow base 40 3 (.slice A n c) n (flats Mp.enc l)) (hl : l.length = n) (hn : n < 4611686018427387904) :
    Calls Tryz.prog 22 #[.slice A n c, .func (.func 23) #[] #[]] w (SortIs l base A n c w) := by
  rcases Nat.eq_zero_or_pos n with h0 | h0
  · subst h0
    obtain rfl : l = [] := List.eq_nil_of_length_eq_zero hl
    have h := AnyF.slices_SortFunc_none sortMaps A c (.func (.func 23) #[] #[]) w
    refine Calls.mono (show Calls Tryz.prog 22 _ _ _ from h) ?_
    rintro e w' ⟨rfl, rfl⟩
    exact ⟨[], List.Perm.refl _, fun i j _ h => by simp at h, rfl, hown, Below.refl _ _⟩
  · obtain ⟨g, cap, hv, hg1, hg2, _⟩ := own_form hown h0
    injection hv with e1 e2 e3
    subst e1 e3
    have h := AnyQ.slices_SortFunc sortMaps 3 Tryz.isAgg40 Tryz.sizeOf40 Mp.enc Mp.enc_len Mp.enc_one cfV swoV 23 #[] g 0 c l.toArray w (enters_of Tryz.func23 (by kernel_rfl) rfl) (order_lays w g 0 _) (own_holds hown hl) hg2 (by simpa [hl] using hn)
    have h2 : Calls Tryz.prog 22 #[.slice (some ⟨g, 0, none⟩) l.toArray.size c, .func (.func 23) #[] #[]] w _ := h
    rw [List.size_toArray, hl] at h2
    refine h2.mono ?_
    rintro e w' ⟨rfl, d', m, os, hp, hs, rfl⟩
    obtain ⟨l', rfl⟩ : ∃ l', d' = l'.toArray := ⟨d'.toList, by simp⟩
    obtain ⟨p1, _, p3⟩ := hp
    simp only [List.size_toArray] at p1
    have hl' : l'.length = n := by omega
    obtain ⟨o1, o2⟩ := own_sorted (l' := l') hown hl hl' m os
    refine ⟨l', ?_, fun i j hij hj => ?_, rfl, o1, o2⟩
    · rw [← hl] at p3
      simpa [List.take_of_length_le, hl, hl'] using p3
    · have := hs i j (Nat.zero_le _) hij (by omega)
      rw [ltV, mpget l' i (by omega), mpget l' j hj] at this
      simpa using this
end Go.Proofs.YtcdfbpdejbpgjaaGreat

/- Mappings over others, without others, cut and moved, as plain Lean. No condition: no program is in sight here. -/
namespace Go.Proofs.YtcdfbpdejbpgjaaGreat
open Go.RowKit

abbrev IncP (l : List Mp) : Prop := l.Pairwise fun x y => x.v < y.v
theorem inc_iff {l : List Mp} : Inc l ↔ IncP l := by
  unfold IncP
  rw [List.pairwise_iff_getElem]
  constructor
  · intro h i j hi hj hij
    have := h i j hij hj
    rwa [nth_get mp0 l i hi, nth_get mp0 l j hj] at this
  · intro h i j hij hj
    rw [nth_get mp0 l i (by omega), nth_get mp0 l j hj]
    exact h i j (by omega) hj hij
theorem incP_ext : ∀ {l r : List Mp}, IncP l → IncP r → (∀ m, m ∈ l ↔ m ∈ r) → l = r := by
  intro l
  induction l with
  | nil =>
    intro r _ _ h
    cases r with
    | nil => rfl
    | cons y r => have := (h y).2 (by simp); simp at this
  | cons x l ih =>
    intro r hl hr h
    cases r with
    | nil => have := (h x).1 (by simp); simp at this
    | cons y r =>
      obtain ⟨h1, h2⟩ := List.pairwise_cons.1 hl
      obtain ⟨h3, h4⟩ := List.pairwise_cons.1 hr
      have hxy : x = y := by
        rcases List.mem_cons.1 ((h x).1 (by simp)) with e | e
        · exact e
        · rcases List.mem_cons.1 ((h y).2 (by simp)) with e2 | e2
          · exact e2.symm
          · have := h1 y e2
            have := h3 x e
            omega
      subst hxy
      rw [ih h2 h4 fun m => ?_]
      constructor
      · intro hm
        rcases List.mem_cons.1 ((h m).1 (List.mem_cons_of_mem _ hm)) with e | e
        · have := h1 m hm; rw [e] at this; omega
        · exact e
      · intro hm
        rcases List.mem_cons.1 ((h m).2 (List.mem_cons_of_mem _ hm)) with e | e
        · have := h3 m hm; rw [e] at this; omega
        · exact e
/-- Mappings over others. -/
def mergeO : List Mp → List Mp → List Mp
  | [], b => b
  | x :: a, [] => x :: a
  | x :: a, y :: b => if x.v < y.v then x :: mergeO a (y :: b) else if x.v = y.v then y :: mergeO a b else y :: mergeO (x :: a) b
termination_by a b => a.length + b.length
def minusF (a b : List Mp) : List Mp := a.filter fun m => !hasV b m.v
def cutF (l : List Mp) (f t : Int) : List Mp := l.filter fun m => decide (f ≤ m.v) && decide (m.v < t)
def movesB (v by_ : Int) : Bool := decide (-v ≤ by_) && decide (by_ ≤ 281474976710655 - v)
def moveL (l : List Mp) (by_ : Int) : List Mp := l.map fun m => ⟨m.v + by_, m.b, m.t⟩
theorem mergeO_nil (a : List Mp) : mergeO a [] = a := by cases a <;> simp [mergeO]
theorem nil_mergeO (b : List Mp) : mergeO [] b = b := by simp [mergeO]
theorem mergeO_lt {x y : Mp} {a b : List Mp} (h : x.v < y.v) : mergeO (x :: a) (y :: b) = x :: mergeO a (y :: b) := by rw [mergeO, if_pos h]
theorem mergeO_eq {x y : Mp} {a b : List Mp} (h : x.v = y.v) : mergeO (x :: a) (y :: b) = y :: mergeO a b := by rw [mergeO, if_neg (by omega), if_pos h]
theorem mergeO_gt {x y : Mp} {a b : List Mp} (h : y.v < x.v) : mergeO (x :: a) (y :: b) = y :: mergeO (x :: a) b := by rw [mergeO, if_neg (by omega), if_neg (by omega)]
theorem hasV_mem {l : List Mp} {v : Int} : hasV l v = true ↔ ∃ m ∈ l, m.v = v := by
  unfold hasV; rw [List.any_eq_true]; simp
theorem mem_merge : ∀ (n : Nat) (a b : List Mp), a.length + b.length ≤ n → IncP a → IncP b → ∀ m, m ∈ mergeO a b ↔ m ∈ b ∨ (m ∈ a ∧ hasV b m.v = false) := by
  intro n
  induction n with
  | zero =>
    intro a b hn _ _ m
    obtain rfl : a = [] := List.eq_nil_of_length_eq_zero (by omega)
    obtain rfl : b = [] := List.eq_nil_of_length_eq_zero (by omega)
    simp [mergeO]
  | succ n ih =>
    intro a b hn ha hb m
    cases a with
    | nil => simp [mergeO]
    | cons x a =>
      cases b with
      | nil => rw [mergeO_nil]; simp [hasV]
      | cons y b =>
        simp only [List.length_cons] at hn
        obtain ⟨a1, a2⟩ := List.pairwise_cons.1 ha
        obtain ⟨b1, b2⟩ := List.pairwise_cons.1 hb
        have hh : ∀ {l : List Mp} {v : Int}, hasV l v = false ↔ ∀ m ∈ l, m.v ≠ v := fun {l v} => by
          rw [← Bool.not_eq_true, hasV_mem]
          exact ⟨fun h m hm he => h ⟨m, hm, he⟩, fun h ⟨m, hm, he⟩ => h m hm he⟩
        rcases Int.lt_trichotomy x.v y.v with h | h | h
        · rw [mergeO_lt h, List.mem_cons, ih a (y :: b) (by simp only [List.length_cons]; omega) a2 hb, List.mem_cons, List.mem_cons]
          have hx : hasV (y :: b) x.v = false := hh.2 fun m hm => by
            rcases List.mem_cons.1 hm with rfl | hm
            · omega
            · have := b1 m hm; omega
          constructor
          · rintro (rfl | h2 | ⟨h2, h3⟩)
            · exact .inr ⟨.inl rfl, hx⟩
            · exact .inl h2
            · exact .inr ⟨.inr h2, h3⟩
          · rintro (h2 | ⟨rfl | h2, h3⟩)
            · exact .inr (.inl h2)
            · exact .inl rfl
            · exact .inr (.inr ⟨h2, h3⟩)
        · rw [mergeO_eq h, List.mem_cons, ih a b (by omega) a2 b2, List.mem_cons, List.mem_cons]
          constructor
          · rintro (rfl | h2 | ⟨h2, h3⟩)
            · exact .inl (.inl rfl)
            · exact .inl (.inr h2)
            · refine .inr ⟨.inr h2, hh.2 fun k hk => ?_⟩
              rcases List.mem_cons.1 hk with rfl | hk
              · have := a1 m h2; omega
              · exact hh.1 h3 k hk
          · rintro ((rfl | h2) | ⟨rfl | h2, h3⟩)
            · exact .inl rfl
            · exact .inr (.inl h2)
            · exact absurd h.symm (hh.1 h3 y (by simp))
            · exact .inr (.inr ⟨h2, hh.2 fun k hk => hh.1 h3 k (List.mem_cons_of_mem _ hk)⟩)
        · rw [mergeO_gt h, List.mem_cons, ih (x :: a) b (by simp only [List.length_cons]; omega) ha b2, List.mem_cons (b := y)]
          constructor
          · rintro (rfl | h2 | ⟨h2, h3⟩)
            · exact .inl (.inl rfl)
            · exact .inl (.inr h2)
            · refine .inr ⟨h2, hh.2 fun k hk => ?_⟩
              rcases List.mem_cons.1 hk with rfl | hk
              · rcases List.mem_cons.1 h2 with rfl | h2
                · omega
                · have := a1 m h2; omega
              · exact hh.1 h3 k hk
          · rintro ((rfl | h2) | ⟨h2, h3⟩)
            · exact .inl rfl
            · exact .inr (.inl h2)
            · exact .inr (.inr ⟨h2, hh.2 fun k hk => hh.1 h3 k (List.mem_cons_of_mem _ hk)⟩)
theorem merge_head {a b : List Mp} {m : Mp} {v : Int} (ha : ∀ k ∈ a, v < k.v) (hb : ∀ k ∈ b, v < k.v) (hia : IncP a) (hib : IncP b) (hm : m ∈ mergeO a b) : v < m.v := by
  rcases (mem_merge _ a b (Nat.le_refl _) hia hib m).1 hm with h | ⟨h, _⟩
  · exact hb m h
  · exact ha m h
theorem merge_inc : ∀ (n : Nat) (a b : List Mp), a.length + b.length ≤ n → IncP a → IncP b → IncP (mergeO a b) := by
  intro n
  induction n with
  | zero =>
    intro a b hn _ _
    obtain rfl : a = [] := List.eq_nil_of_length_eq_zero (by omega)
    obtain rfl : b = [] := List.eq_nil_of_length_eq_zero (by omega)
    simp [mergeO]
  | succ n ih =>
    intro a b hn ha hb
    cases a with
    | nil => rw [nil_mergeO]; exact hb
    | cons x a =>
      cases b with
      | nil => rw [mergeO_nil]; exact ha
      | cons y b =>
        simp only [List.length_cons] at hn
        obtain ⟨a1, a2⟩ := List.pairwise_cons.1 ha
        obtain ⟨b1, b2⟩ := List.pairwise_cons.1 hb
        rcases Int.lt_trichotomy x.v y.v with h | h | h
        · rw [mergeO_lt h]
          refine List.pairwise_cons.2 ⟨fun m hm => merge_head a1 (fun k hk => ?_) a2 hb hm, ih _ _ (by simp only [List.length_cons]; omega) a2 hb⟩
          rcases List.mem_cons.1 hk with rfl | hk
          · exact h
          · have := b1 k hk; omega
        · rw [mergeO_eq h]
          exact List.pairwise_cons.2 ⟨fun m hm => merge_head (fun k hk => by have := a1 k hk; omega) b1 a2 b2 hm, ih _ _ (by omega) a2 b2⟩
        · rw [mergeO_gt h]
          refine List.pairwise_cons.2 ⟨fun m hm => merge_head (fun k hk => ?_) b1 ha b2 hm, ih _ _ (by simp only [List.length_cons]; omega) ha b2⟩
          rcases List.mem_cons.1 hk with rfl | hk
          · exact h
          · have := a1 k hk; omega
theorem mergeO_len : ∀ (n : Nat) (a b : List Mp), a.length + b.length ≤ n → (mergeO a b).length ≤ a.length + b.length := by
  intro n
  induction n with
  | zero =>
    intro a b hn
    obtain rfl : a = [] := List.eq_nil_of_length_eq_zero (by omega)
    obtain rfl : b = [] := List.eq_nil_of_length_eq_zero (by omega)
    simp [mergeO]
  | succ n ih =>
    intro a b hn
    cases a with
    | nil => rw [nil_mergeO]; simp
    | cons x a =>
      cases b with
      | nil => rw [mergeO_nil]; simp
      | cons y b =>
        simp only [List.length_cons] at hn ⊢
        rcases Int.lt_trichotomy x.v y.v with h | h | h
        · rw [mergeO_lt h]; have := ih a (y :: b) (by simp only [List.length_cons]; omega); simp only [List.length_cons] at this ⊢; omega
        · rw [mergeO_eq h]; have := ih a b (by omega); simp only [List.length_cons] at this ⊢; omega
        · rw [mergeO_gt h]; have := ih (x :: a) b (by simp only [List.length_cons]; omega); simp only [List.length_cons] at this ⊢; omega
/-- What the program sorts is what the reference lays side by side. -/
theorem sorted_merge {a b l : List Mp} (ha : Inc a) (hb : Inc b) (hp : l.Perm (minusF a b ++ b)) (hs : ∀ i j, i < j → j < l.length → (nth mp0 l i).v ≤ (nth mp0 l j).v) : l = mergeO a b := by
  rw [inc_iff] at ha hb
  have hmin : IncP (minusF a b) := ha.filter _
  have hne : (minusF a b ++ b).Pairwise fun x y => x.v ≠ y.v := by
    refine List.pairwise_append.2 ⟨hmin.imp fun h => by omega, hb.imp fun h => by omega, fun x hx y hy he => ?_⟩
    have := (List.mem_filter.1 hx).2
    have h2 : hasV b x.v = true := hasV_mem.2 ⟨y, hy, he.symm⟩
    rw [h2] at this
    cases this
  have hl : l.Pairwise fun x y => x.v ≠ y.v := (hp.pairwise_iff (fun h => fun e => h e.symm)).2 hne
  have hinc : IncP l := by
    rw [← inc_iff]
    intro i j hij hj
    have h1 := hs i j hij hj
    have h2 := List.pairwise_iff_getElem.1 hl i j (by omega) hj hij
    rw [nth_get mp0 l i (by omega), nth_get mp0 l j hj] at *
    omega
  refine incP_ext hinc (merge_inc _ a b (Nat.le_refl _) ha hb) fun m => ?_
  rw [hp.mem_iff, mem_merge _ a b (Nat.le_refl _) ha hb, List.mem_append]
  unfold minusF
  rw [List.mem_filter]
  simp only [Bool.not_eq_true']
  exact Or.comm
end Go.Proofs.YtcdfbpdejbpgjaaGreat

/- 'append(out, s...)', out nil or the call's own, s nil or at an address. No condition: for any program. -/
namespace Go.Proofs.YtcdfbpdejbpgjaaGreat
open Go Go.RowKit
theorem run_append_owned_nil {P : Program} {w : World} (base : Nat) (t ty e : TypeId) (i : TypeInfo) (size : Nat) (ht : P.underlying t = some (.slice e)) (hi : P.info? e = some i)
    (v : Value) (n : Nat) (xs : List Value) (c : Nat) (hown : w.ownsRow base e size v n xs) :
    (Builtin.append_ #[t, t] ty #[v, .slice none 0 c]).run P w = .ok v w := by
  rcases hown.2 with ⟨rfl, rfl⟩ | ⟨g, cap, cur, rfl, _, _, hnc, _⟩
  · simp [Builtin.append_, run_underlying ht, sizeOf, typeInfo, hi, Builtin.lenOf, Builtin.firstCells]
  · simp [Builtin.append_, run_underlying ht, sizeOf, typeInfo, hi, Builtin.lenOf, Builtin.firstCells, hnc, storeCells]
theorem wpList_append_opt {P : Program} {w : World} {ops : Array Oper} {rest : List Oper} {o : Oper} {a : Act} {Q : Exit → Act → World → Prop} {t e size bytes : Nat} {z : Value}
    (hu : P.underlying t = some (.slice e)) (hinfo : (P.info? e).map (fun i => (i.zero, i.size, i.bytes)) = some (some z, size, bytes)) (hz : z.cells.size = size) (hsz : 0 < size) (hby : 0 < bytes)
    (hg : o.guard = none) (s y : Operand) (hop : o.op = Op.call { callee := Callee.builtin Builtin.append, args := #[s, y], argTypes := #[t, t] })
    (base : Nat) (v : Value) (n : Nat) (xs : List Value) (hs : a.eval s = v) (hown : w.ownsRow base e size v n xs) (ad : Option Addr) (m c : Nat) (news : List Value) (hy : a.eval y = .slice ad m c)
    (hl : news.length = m * size) (hc : ∀ d, ad = some d → ∀ j u, news[j]? = some u → w.cell? (d.add j) = some u) (h1 : ∀ u ∈ news, u.oneCell' = true) (hb : (n + m) * bytes ≤ 140737488355328) (hbase : base ≤ w.heap.size) (hno : ad = none → m = 0)
    (hK : ∀ A cap w', w'.ownsRow base e size (.slice A (n + m) cap) (n + m) (xs ++ news) → w.grownBy w' v.ownBlock → wpList P ops Q rest (a.put o.dst (.slice A (n + m) cap)) w') :
    wpList P ops Q (o :: rest) a w := by
  cases ad with
  | some d => exact wpList_append_cells hu hinfo hz hsz hby hg s y hop base v n xs hs hown d m c news hy hl (hc d rfl) h1 hb hbase hK
  | none =>
    obtain rfl := hno rfl
    obtain ⟨i0, hi, _, hz1, _⟩ := info_parts hinfo
    obtain rfl : news = [] := List.eq_nil_of_length_eq_zero (by omega)
    obtain ⟨A, cap, rfl, _⟩ := own_form0 hown
    have hKK := hK A cap w (by simpa using hown) (World.grownBy.refl w _)
    rw [Nat.add_zero] at hKK
    refine wpList_plain hg fun K hK => ?_
    have hrun := run_append_owned_nil (P := P) (w := w) base t o.type e i0 size hu hi _ n xs c hown
    unfold Oper.wp
    simp [execOp, hop, resolve, invoke, builtin, hs, hy, hrun, Result.andThen]
    refine hK _ _ ?_
    exact hKK
/-- A guarded operation whose guard lets it by. -/
theorem wpList_ungd {P : Program} {w : World} {ops : Array Oper} {rest : List Oper} {o : Oper} {a : Act} {Q : Exit → Act → World → Prop} (hw : Region.wanted o (yielded ops a.tmps) = true)
    (h : wpList P ops Q ({ o with guard := none } :: rest) a w) : wpList P ops Q (o :: rest) a w := by
  unfold wpList at h ⊢
  rw [if_pos hw]
  rw [if_pos (by rfl)] at h
  exact h
end Go.Proofs.YtcdfbpdejbpgjaaGreat

/- merge.Over, merge.Minus, merge.Cut. Condition: the slices are within the reach. -/
namespace Go.Proofs.YtcdfbpdejbpgjaaGreat
open Go.RowKit Go.Shelf
attribute [local go_sem] Oper.semAt_some

/-- Mappings in new memory, and an error. -/
def ResIs (r : Int) (l : List Mp) (w : World) (e : Ending) (w' : World) : Prop :=
  ∃ A n c, n = l.length ∧ e = .returned (.tuple #[.slice A n c, .int .i64 r]) ∧ w'.ownsRow w.heap.size 40 3 (.slice A n c) n (flats Mp.enc l) ∧ Below w.heap.size w w'
theorem resNil (r : Int) {w w' : World} (hB : Below w.heap.size w w') : ResIs r [] w (.returned (.tuple #[.slice none 0 0, .int .i64 r])) w' := ⟨none, 0, 0, rfl, rfl, World.ownsRow_nil _ _ _ _, hB⟩
/-- check of two lists, as Over and Minus ask it. -/
theorem check2 (w : World) (S : Nat → Prop) (va vb : Value) (a b : List Mp) (hS : ∀ b, S b → b < w.heap.size) (ha : IsMaps w S va a) (hb : IsMaps w S vb b) (hal : a.length ≤ 140737488355328) (hbl : b.length ≤ 140737488355328) :
    Calls Tryz.prog 19 #[.slice (some ⟨w.heap.size, 0, none⟩) 2 2] (w.alloc (.cells #[va, vb] 34)) fun e w' => e = .returned (.int .i64 (chkAll [a, b])) ∧ Below w.heap.size w w' := by
  have hB : Below w.heap.size w (w.alloc (.cells #[va, vb] 34)) := (Below.refl _ _).alloc (Nat.le_refl _) _
  have hblk : (w.alloc (.cells #[va, vb] 34)).heap[w.heap.size]? = some (.cells #[va, vb] 34 (0, 0)) := heap_alloc_new w _
  refine (mcheck_any _ S w.heap.size 2 2 (fun k => if k = 0 then va else vb) [a, b] rfl (by omega) (by simp) (fun b hb => Nat.lt_of_lt_of_le (hS b hb) hB.size) (fun k hk => ?_) (fun k hk => ?_) (fun k hk => ?_)).mono fun e w' ⟨he, hB2⟩ => ⟨he, hB.trans (hB2.mono hB.size)⟩
  · match k, hk with
    | 0, _ => exact cell_of_row _ _ 0 _ _ _ hblk
    | 1, _ => exact cell_of_row _ _ 1 _ _ _ hblk
  · match k, hk with
    | 0, _ => exact ha.keep rmp_stable (fun _ h => h) (keep_below hB hS)
    | 1, _ => exact hb.keep rmp_stable (fun _ h => h) (keep_below hB hS)
  · match k, hk with
    | 0, _ => exact hal
    | 1, _ => exact hbl
theorem chkAll2 {a b : List Mp} (h : chkAll [a, b] = 0) : chk a = 0 ∧ chk b = 0 := by
  simp only [chkAll] at h
  by_cases h1 : chk a = 0
  · by_cases h2 : chk b = 0
    · exact ⟨h1, h2⟩
    · rw [if_neg (by simpa using h1), if_pos h2] at h; exact absurd h h2
  · rw [if_pos h1] at h; exact absurd h h1
def minusR (a b : List Mp) : List Mp := if chkAll [a, b] = 0 then minusF a b else []
def overR (a b : List Mp) : List Mp := if chkAll [a, b] = 0 then mergeO a b else []
/-- without(a, has(b)). -/
theorem wohas (w : World) (S : Nat → Prop) (va : Value) (A : Option Addr) (c : Nat) (a b : List Mp) (hS : ∀ b, S b → b < w.heap.size) (ha : IsMaps w S va a) (hb : IsMaps w S (.slice A b.length c) b) (hal : a.length ≤ 2199023255552) (hbl : b.length ≤ 140737488355328) (hi : Inc b) :
    Calls Tryz.prog 20 #[va, .func (.func 36) #[] #[.pointer (some ⟨w.heap.size, 0, none⟩)]] (w.alloc (.cells #[.slice A b.length c] 34)) (WithoutIs (minusF a b) (w.alloc (.cells #[.slice A b.length c] 34))) := by
  have hB : Below w.heap.size w (w.alloc (.cells #[.slice A b.length c] 34)) := (Below.refl _ _).alloc (Nat.le_refl _) _
  exact without_any _ S va a 36 _ (fun m => hasV b m.v) (fun b hb => Nat.lt_of_lt_of_le (hS b hb) hB.size) (ha.keep rmp_stable (fun _ h => h) (keep_below hB hS)) hal enters_has (w.heap.size + 1) _ (Below.refl _ _) (by simp) (has_pred w S A c b hS hb hbl hi)
set_option maxHeartbeats 1600000 in
theorem over_any (w : World) (S : Nat → Prop) (va vb : Value) (a b : List Mp) (hS : ∀ b, S b → b < w.heap.size) (ha : IsMaps w S va a) (hb : IsMaps w S vb b) (hal : a.length ≤ 1000000) (hbl : b.length ≤ 1000000) :
    Calls Tryz.prog 9 #[va, vb] w (ResIs (chkAll [a, b]) (overR a b) w) := by
  have HCK := Lib.hid (check2 w S va vb a b hS ha hb (by omega) (by omega))
  obtain ⟨A, c, rfl, hc⟩ := hb
  have hb : IsMaps w S (.slice A b.length c) b := ⟨A, c, rfl, hc⟩
  obtain ⟨Aa, ca, rfl, hca⟩ := ha
  have ha : IsMaps w S (.slice Aa a.length ca) a := ⟨Aa, ca, rfl, hca⟩
  have HB0 := Lib.hid (Below.refl w.heap.size w)
  by_cases h0 : chkAll [a, b] = 0
  · have HWO := Lib.hid (fun w' (hB : Below w.heap.size w w') => wohas w' S _ A c a b (fun b hb => Nat.lt_of_lt_of_le (hS b hb) hB.size) (ha.keep rmp_stable (fun _ h => h) (keep_below hB hS)) (hb.keep rmp_stable (fun _ h => h) (keep_below hB hS)) (by omega) (by omega) (chk_inc (chkAll2 h0).2))
    have e : overR a b = mergeO a b := by unfold overR; rw [if_pos h0]
    have hml : (minusF a b).length ≤ 1000000 := Nat.le_trans (List.length_filter_le _ _) hal
    have hsm : ∀ l, l.Perm (minusF a b ++ b) → (∀ i j, i < j → j < l.length → (nth mp0 l i).v ≤ (nth mp0 l j).v) → l = mergeO a b := fun l h1 h2 => sorted_merge (chk_inc (chkAll2 h0).1) (chk_inc (chkAll2 h0).2) h1 h2
    have HSM := Lib.hid hsm
    unfold WithoutIs at HWO
    rw [h0, e]
    rw [h0] at HCK
    have hcl : ∀ w', Below w.heap.size w w' → ∀ d, A = some d → ∀ j u, (flats Mp.enc b)[j]? = some u → w'.cell? (d.add j) = some u := fun w' hB d hd j u hj => by
      subst hd
      obtain ⟨xs, hx, hcl⟩ := some_cellsOf hc.2
      rw [flat_cells hx] at hcl
      have := hcl j u hj
      rw [hB.cell (World.block_lt_of_cell? _ _ this)]
      exact this
    have hno : A = none → b.length = 0 := fun h => by
      subst h
      rcases Nat.eq_zero_or_pos b.length with h0 | h0
      · exact h0
      · obtain ⟨_, _, e, _⟩ := hc.2 h0
        cases e
    have hfl : (flats Mp.enc b).length = b.length * 3 := flats_length Mp.enc_len b
    have hfo : ∀ u ∈ flats Mp.enc b, u.oneCell' = true := fun u hu => by
      obtain ⟨x, _, hx⟩ := List.mem_flatMap.1 hu
      exact Mp.enc_one x u hx
    have HCL := Lib.hid hcl
    have HNO := Lib.hid hno
    have HFL := Lib.hid hfl
    have HFO := Lib.hid hfo
    have HSO := Lib.hid (fun w' base A' n c' (hn : n = (minusF a b ++ b).length) (hown : w'.ownsRow base 40 3 (.slice A' n c') n (flats Mp.enc (minusF a b ++ b))) => sort_any w' base A' n c' (minusF a b ++ b) hown hn.symm (by rw [hn, List.length_append]; omega))
    have HFA := Lib.hid (flats_append (enc := Mp.enc) (minusF a b) b)
    have HLA := Lib.hid (@List.length_append _ (minusF a b) b)
    unfold SortIs at HSO
    clear e h0 ha hb hc hca hsm hcl hno hfl hfo
    generalize mergeO a b = r at *
    generalize flats Mp.enc b = fb at *
    generalize minusF a b ++ b = ab at *
    generalize minusF a b = mb at *
    generalize b.length = n at *
    generalize a.length = na at *
    generalize hml2 : mb.length = nm at *
    have HML := Lib.hid hml2
    clear hml2
    go_enter Tryz.func9, Tryz.ntmps9
    go_wp2_with (first
      | (go_at_call 19; refine HCK.out.mono ?_; rintro e w1 ⟨rfl, hB1⟩)
      | (go_at_call 21; refine (has_any _ _ _ _).mono ?_; rintro e w2 ⟨rfl, rfl⟩)
      | (go_at_call 20; refine (HWO.out _ hB1).mono ?_; rintro e w3 ⟨A3, c3, rfl, hown3, hB3⟩; have hz1 := hB1.size; have hB3' := ((hB1.alloc hz1 (.cells #[.slice A n c] 34)).trans (hB3.mono (Nat.le_trans hz1 (by simp)))); have hown3' := own_low (base' := w.heap.size) hown3 (Nat.le_trans hz1 (by simp)))
      | (at_builtin; refine wpList_append_opt Tryz.underlying34 info_map rfl (by omega) (by omega) rfl _ _ rfl w.heap.size _ nm _ rfl hown3' A n c fb rfl HFL.out (HCL.out _ hB3') HFO.out (by omega) hB3'.size HNO.out ?_; intro A4 c4 w4 hown4 hg4; have hB4 := hB3'.grown hg4 hB3'.size (fun k hk => (hown3'.lt k hk).1); rw [← HFA.out] at hown4)
      | (go_at_call 22; refine (HSO.out _ _ _ _ _ HLA.out.symm hown4).mono ?_; rintro e w5 ⟨l5, hp5, hs5, rfl, hown5, hB5⟩))
    go_ret2
    have hl5 := HSM.out l5 hp5 hs5
    subst hl5
    exact ⟨A4, _, c4, by rw [hp5.length_eq, HLA.out], rfl, hown5, hB4.trans hB5⟩
  · have e : overR a b = [] := by unfold overR; rw [if_neg h0]
    rw [e]
    have hne : (chkAll [a, b] != 0) = true := by simpa using h0
    clear e h0 ha hb hc hca
    generalize chkAll [a, b] = r at *
    generalize b.length = n at *
    generalize a.length = na at *
    go_enter Tryz.func9, Tryz.ntmps9
    go_wp2_with (go_at_call 19; refine HCK.out.mono ?_; rintro e w1 ⟨rfl, hB1⟩)
    go_ret2
    exact resNil r hB1
end Go.Proofs.YtcdfbpdejbpgjaaGreat

/- Whether a pool is small enough. No condition: no program is in sight here. -/
namespace Go.Proofs.YtcdfbpdejbpgjaaGreat
open Go.RowKit
/-- Is a pool small enough for the laws' own looks? -/
def fewB (p : Pool) : Bool := decide (p.devs.length ≤ 200 ∧ p.count ≤ 2000)
def fewN (p : Pool) : Int := if fewB p = true then 1 else 0

theorem fewN_yes {p : Pool} (h1 : p.devs.length ≤ 200) (h2 : p.count ≤ 2000) : fewN p = 1 := by unfold fewN; rw [if_pos]; simp only [fewB, decide_eq_true_eq]; exact ⟨h1, h2⟩
theorem fewN_no {p : Pool} (h : ¬ (p.devs.length ≤ 200 ∧ p.count ≤ 2000)) : fewN p = 0 := by unfold fewN; rw [if_neg]; simp only [fewB, decide_eq_true_eq]; exact h

theorem countL_take_bound {p : Pool} (h : p.ok) (k : Nat) (hk : k ≤ 201) : countL (p.devs.take k) ≤ 1178676464975805 := by
  have h1 := countL_bound (c := 5864062014805) (p.devs.take k) (fun d hd => (h.2.2.2.2.1 d (List.mem_of_mem_take hd)).2.2.2.2.2)
  have h2 : (p.devs.take k).length * 5864062014805 ≤ 201 * 5864062014805 := Nat.mul_le_mul_right _ (by rw [List.length_take]; omega)
  omega

end Go.Proofs.YtcdfbpdejbpgjaaGreat
