/- replay.Apply, replay.Some. Condition: the slices are within the reach. -/
import Derived.Test.YtlogabbnnbcokaaWAt
namespace Go.Proofs.Ytlogabbnnbcokaa
open Go.RowKit Go.Shelf
attribute [local go_sem] Oper.semAt_some

theorem withinN_nat (n : Int) (m : Nat) : ∃ k : Nat, withinN n m = k ∧ k ≤ m := ⟨(withinN n m).toNat, by unfold withinN; omega, by unfold withinN; omega⟩
theorem WrsIs.take {w : World} {S : Nat → Prop} {A : Option Addr} {l : List Wr} {V : Nat → Option Addr × Nat} (h : WrsIs w S A l V) (m : Nat) : WrsIs w S A (l.take m) V := fun hl => by
  have hl2 : 0 < l.length := by rw [List.length_take] at hl; omega
  obtain ⟨b, off, e, hb, hat⟩ := h hl2
  refine ⟨b, off, e, hb, fun k hk => ?_⟩
  rw [List.length_take] at hk
  have e1 : nth wr0 (l.take m) k = nth wr0 l k := by rw [nth_get wr0 _ k (by rw [List.length_take]; omega), nth_get wr0 _ k (by omega), List.getElem_take]
  rw [e1]
  exact hat k (by omega)
theorem WrsIs.sub {w : World} {S S' : Nat → Prop} {A : Option Addr} {l : List Wr} {V : Nat → Option Addr × Nat} (h : WrsIs w S A l V) (hs : ∀ b, S b → S' b) : WrsIs w S' A l V := fun hl => by
  obtain ⟨b, off, e, hb, hat⟩ := h hl
  refine ⟨b, off, e, hs b hb, fun k hk => ?_⟩
  obtain ⟨h1, h2, h3, h4⟩ := hat k hk
  exact ⟨h1, h2, h3, h4.keep (flat_stable _) hs Keep.refl⟩
theorem doF_take (l : List Wr) (bs : List UInt8) (m : Nat) (hm : m ≤ l.length) : ∀ k, k ≤ m → doF (l.take m) bs (List.range k) = doF l bs (List.range k) := by
  intro k
  induction k with
  | zero => intro _; rfl
  | succ k ih =>
    intro hk
    rw [List.range_succ, doF_snoc, doF_snoc, ih (by omega)]
    have e1 : nth wr0 (l.take m) k = nth wr0 l k := by rw [nth_get wr0 _ k (by rw [List.length_take]; omega), nth_get wr0 _ k (by omega), List.getElem_take]
    rw [e1]
theorem enters_vals : ∀ args w, (callFunc 28 args).run Try.prog w = .ok (.enter 28 args) w := enters_of Try.func28 (by kernel_rfl) rfl
theorem enters_at : ∀ args w, (callFunc 30 args).run Try.prog w = .ok (.enter 30 args) w := enters_of Try.func30 (by kernel_rfl) rfl
/-- What values_fn leaves serves do. -/
theorem vals_seq {w : World} {S : Nat → Prop} {A : Option Addr} {c n : Nat} {l : List Wr} {V : Nat → Option Addr × Nat} (hS : ∀ b, S b → b < w.heap.size) (hw : WrsIs w S A l V) (hnl : l.length ≤ 1099511627776) (hn : n = l.length) (w' : World) (hB : Below (w.alloc (.cells #[.slice A n c] 23)).heap.size (w.alloc (.cells #[.slice A n c] 23)) w') :
    SeqStopsK Fence.wide 2 Try.prog 28 #[.pointer (some ⟨w.heap.size, 0, none⟩)] (fun x : { k : Nat // k < l.length } => encW l V x.1) (KpS S) (fun xs => xs.map (·.1) = List.range l.length) (fun pre => pre.map (·.1) <+: List.range l.length) l.length w' := by
  subst hn
  have hB1 : Below w.heap.size w (w.alloc (.cells #[.slice A l.length c] 23)) := (Below.refl _ _).alloc (Nat.le_refl _) _
  have hB2 : Below w.heap.size w w' := hB1.trans (hB.mono (by simp))
  have hsz := hB.size
  simp only [World.size_alloc] at hsz
  refine values_stops Fence.wide 2 trivial rfl (by omega) w.heap.size S A c l V w' (fun b hb => by have := hS b hb; omega) hnl (by omega) ?_ (hw.keep (keep_below hB2 hS))
  have h1 : One w' w.heap.size (.slice A l.length c) 23 := (One.new w (.slice A l.length c) 23).below hB (by simp)
  exact h1.cell
set_option maxRecDepth 100000 in
set_option maxHeartbeats 1600000 in
theorem apply_any (w : World) (S0 S : Nat → Prop) (a : Nat) (bs : List UInt8) (v : Value) (l : List Wr) (n : Int) (hS0 : ∀ b, S0 b → b < w.heap.size) (himg : IsImg w S0 a bs) (hbn : bs.length ≤ 140737488355328) (hS : ∀ b, S b → b < w.heap.size) (hl : IsWrs w S v l) (hnl : l.length ≤ 1099511627776) (hlw : ∀ k, k < l.length → (nth wr0 l k).bytes.length ≤ 140737488355328) :
    Calls Try.prog 9 #[.pointer (some ⟨a, 0, none⟩), v, .int .i64 n] w fun e w' => ∃ a', e = .returned (.pointer (some ⟨a', 0, none⟩)) ∧ OwnImg w' w.heap.size a' (doF l bs (List.range (withinN n l.length).toNat)) ∧ Below w.heap.size w w' := by
  obtain ⟨A, c, rfl, hc, hr⟩ := hl
  obtain ⟨V, hV⟩ := wrs_cells hr
  obtain ⟨m, hm, hml⟩ := withinN_nat n l.length
  have hlt : (l.take m).length = m := by rw [List.length_take]; omega
  have hwt : WrsIs w S A (l.take m) V := WrsIs.take hV m
  have hwi := fun (w' : World) => within_any w' n (l.length : Int)
  rw [hm] at hwi
  have HWI := Lib.hid hwi
  have hB1 : Below w.heap.size w (w.alloc (.cells #[.slice A m c] 23)) := (Below.refl _ _).alloc (Nat.le_refl _) _
  have hdo := do_any (w.alloc (.cells #[.slice A m c] 23)) S0 S a bs 28 #[.pointer (some ⟨w.heap.size, 0, none⟩)] A (l.take m) V (List.range (l.take m).length) (l.take m).length (fun b hb => by have := hS0 b hb; simp; omega) (himg.below hB1 hS0) hbn (fun b hb => by have := hS b hb; simp; omega) (hwt.keep (keep_below hB1 hS))
    (fun k hk => by
      rw [hlt] at hk
      have e1 : nth wr0 (l.take m) k = nth wr0 l k := by rw [nth_get wr0 _ k (by rw [List.length_take]; omega), nth_get wr0 _ k (by omega), List.getElem_take]
      rw [e1]; exact hlw k (by omega)) enters_vals
    (fun w' hB => vals_seq (c := c) (n := m) hS hwt (by omega) hlt.symm w' hB)
  rw [hlt, doF_take l bs m hml m (Nat.le_refl _)] at hdo
  have HDO := Lib.hid hdo
  have hfin : doF l bs (List.range (withinN n l.length).toNat) = doF l bs (List.range m) := by rw [hm, Int.toNat_natCast]
  rw [hfin]
  have hmi : (m : Int) ≤ (c : Int) := by omega
  have hmi2 : (m : Int) ≤ (l.length : Int) := by omega
  clear hdo hwi hfin hwt hV hr himg hlw hm hlt
  generalize doF l bs (List.range m) = out at *
  generalize l.length = nl at *
  go_enter Try.func9, Try.ntmps9
  go_wp2_with (first
    | (go_at_call 21; refine (HWI.out _).mono ?_; rintro e w' ⟨rfl, rfl⟩)
    | (go_at_call 20; refine (values_fn _ _ _ _).mono ?_; rintro e w2 ⟨rfl, rfl⟩)
    | (go_at_call 19; refine HDO.out.mono ?_; rintro e w3 ⟨a3, rfl, hI3, hB3⟩))
  go_ret
  exact ⟨a3, rfl, hI3.low (by simp), hB1.trans (hB3.mono (by simp))⟩
set_option maxRecDepth 100000 in
set_option maxHeartbeats 1600000 in
theorem apply_nil (w : World) (S : Nat → Prop) (v : Value) (l : List Wr) (n : Int) (hS : ∀ b, S b → b < w.heap.size) (hl : IsWrs w S v l) (hnl : l.length ≤ 1099511627776) :
    Calls Try.prog 9 #[.pointer none, v, .int .i64 n] w fun e w' => e = .returned (.pointer none) ∧ Below w.heap.size w w' := by
  obtain ⟨A, c, rfl, hc, hr⟩ := hl
  obtain ⟨V, hV⟩ := wrs_cells hr
  obtain ⟨m, hm, hml⟩ := withinN_nat n l.length
  have hlt : (l.take m).length = m := by rw [List.length_take]; omega
  have hwt : WrsIs w S A (l.take m) V := WrsIs.take hV m
  have hwi := fun (w' : World) => within_any w' n (l.length : Int)
  rw [hm] at hwi
  have HWI := Lib.hid hwi
  have hB1 : Below w.heap.size w (w.alloc (.cells #[.slice A m c] 23)) := (Below.refl _ _).alloc (Nat.le_refl _) _
  have hdo := do_nil (w.alloc (.cells #[.slice A m c] 23)) S 28 #[.pointer (some ⟨w.heap.size, 0, none⟩)] A (l.take m) V (List.range (l.take m).length) (l.take m).length (fun b hb => by have := hS b hb; simp; omega) (hwt.keep (keep_below hB1 hS)) enters_vals
    (fun w' hB => vals_seq (c := c) (n := m) hS hwt (by omega) hlt.symm w' hB)
  have HDO := Lib.hid hdo
  have hmi : (m : Int) ≤ (c : Int) := by omega
  have hmi2 : (m : Int) ≤ (l.length : Int) := by omega
  clear hdo hwi hwt hV hr hm hlt
  generalize l.length = nl at *
  go_enter Try.func9, Try.ntmps9
  go_wp2_with (first
    | (go_at_call 21; refine (HWI.out _).mono ?_; rintro e w' ⟨rfl, rfl⟩)
    | (go_at_call 20; refine (values_fn _ _ _ _).mono ?_; rintro e w2 ⟨rfl, rfl⟩)
    | (go_at_call 19; refine HDO.out.mono ?_; rintro e w3 ⟨rfl, hB3⟩))
  go_ret
  exact ⟨rfl, hB1.trans (hB3.mono (by simp))⟩
/-- The boxes that replay.at makes: what they hold. -/
theorem at_seq {w : World} {S : Nat → Prop} {A Ap : Option Addr} {c cp : Nat} {l : List Wr} {V : Nat → Option Addr × Nat} {ps : List Int} (hS : ∀ b, S b → b < w.heap.size) (hw : WrsIs w S A l V) (hnl : l.length ≤ 1099511627776) (hnp : ps.length ≤ 1099511627776) (hrp : RowOf (Flat fun n : Int => [.int .i64 n]) 1 0 w S Ap ps)
    (w1 : World) (hw1 : w1 = (w.alloc (.cells #[.slice A l.length c] 23)).alloc (.cells #[.slice Ap ps.length cp] 24)) (w' : World) (hB : Below w1.heap.size w1 w') :
    SeqStopsK Fence.wide 2 Try.prog 30 #[.pointer (some ⟨w.heap.size + 1, 0, none⟩), .pointer (some ⟨w.heap.size, 0, none⟩)] (fun x : { k : Nat // k < l.length } => encW l V x.1) (KpS (fun b => S b ∨ b = w.heap.size)) (fun xs => xs.map (·.1) = atF l.length ps) (fun pre => pre.map (·.1) <+: atF l.length ps) ps.length w' := by
  have hB1 : Below w.heap.size w w1 := by rw [hw1]; exact ((Below.refl _ _).alloc (Nat.le_refl _) _).alloc (by simp) _
  have hs1 : w1.heap.size = w.heap.size + 2 := by rw [hw1]; simp
  have hB2 : Below w.heap.size w w' := hB1.trans (hB.mono (by omega))
  have hsz := hB.size
  have h1 : One w1 w.heap.size (.slice A l.length c) 23 := by rw [hw1]; exact (One.new w (.slice A l.length c) 23).alloc _
  have h2 : One w1 (w.heap.size + 1) (.slice Ap ps.length cp) 24 := by
    rw [hw1]
    have := One.new (w.alloc (.cells #[.slice A l.length c] 23)) (.slice Ap ps.length cp) 24
    rwa [World.size_alloc] at this
  refine at_stops Fence.wide 2 trivial rfl (by omega) (w.heap.size + 1) w.heap.size (fun b => S b ∨ b = w.heap.size) A Ap c cp l V ps w' (fun b hb => hb.elim (fun h => by have := hS b h; omega) (fun h => by omega)) hnl hnp (.inr rfl) (by omega)
    (h1.below hB (by omega)).cell (h2.below hB (by omega)).cell ((hrp.keep (flat_stable _) (fun b hb => .inl hb) (keep_below hB2 hS))) ((hw.keep (keep_below hB2 hS)).sub (fun b hb => .inl hb))
set_option maxRecDepth 100000 in
set_option maxHeartbeats 1600000 in
theorem some_any (w : World) (S0 S : Nat → Prop) (a : Nat) (bs : List UInt8) (v vp : Value) (l : List Wr) (ps : List Int) (hS0 : ∀ b, S0 b → b < w.heap.size) (himg : IsImg w S0 a bs) (hbn : bs.length ≤ 140737488355328) (hS : ∀ b, S b → b < w.heap.size) (hl : IsWrs w S v l) (hnl : l.length ≤ 1099511627776) (hlw : ∀ k, k < l.length → (nth wr0 l k).bytes.length ≤ 140737488355328) (hp : IsInts w S vp ps) (hnp : ps.length ≤ 1099511627776) :
    Calls Try.prog 15 #[.pointer (some ⟨a, 0, none⟩), v, vp] w fun e w' => ∃ a', e = .returned (.pointer (some ⟨a', 0, none⟩)) ∧ OwnImg w' w.heap.size a' (doF l bs (atF l.length ps)) ∧ Below w.heap.size w w' := by
  obtain ⟨A, c, rfl, hc, hr⟩ := hl
  obtain ⟨Ap, cp, rfl, hcp, hrp⟩ := hp
  obtain ⟨V, hV⟩ := wrs_cells hr
  have hV : WrsIs w S A l V := hV
  obtain ⟨w1, hw1⟩ : ∃ w1, w1 = (w.alloc (.cells #[.slice A l.length c] 23)).alloc (.cells #[.slice Ap ps.length cp] 24) := ⟨_, rfl⟩
  have hB1 : Below w.heap.size w w1 := by rw [hw1]; exact ((Below.refl _ _).alloc (Nat.le_refl _) _).alloc (by simp) _
  have hs1 : w1.heap.size = w.heap.size + 2 := by rw [hw1]; simp
  have hdo := do_any w1 S0 (fun b => S b ∨ b = w.heap.size) a bs 30 #[.pointer (some ⟨w.heap.size + 1, 0, none⟩), .pointer (some ⟨w.heap.size, 0, none⟩)] A l V (atF l.length ps) ps.length (fun b hb => by have := hS0 b hb; omega) (himg.below hB1 hS0) hbn (fun b hb => hb.elim (fun h => by have := hS b h; omega) (fun h => by omega)) ((hV.keep (keep_below hB1 hS)).sub (fun b hb => .inl hb)) hlw enters_at
    (fun w' hB => at_seq (cp := cp) (c := c) hS hV hnl hnp hrp w1 hw1 w' hB)
  have HDO := Lib.hid hdo
  have HW1 := Lib.hid hw1
  clear hdo hV hr himg hlw hrp hw1
  generalize doF l bs (atF l.length ps) = out at *
  generalize l.length = nl at *
  generalize ps.length = np at *
  go_enter Try.func15, Try.ntmps15
  go_wp2_with (first
    | (go_at_call 25; refine (at_fn _ _ _ _ _ _ _).mono ?_; rintro e w2 ⟨rfl, hw2⟩; rw [← HW1.out] at hw2; subst hw2)
    | (go_at_call 19; refine HDO.out.mono ?_; rintro e w3 ⟨a3, rfl, hI3, hB3⟩))
  go_ret
  exact ⟨a3, rfl, hI3.low (by omega), hB1.trans (hB3.mono (by omega))⟩
set_option maxRecDepth 100000 in
set_option maxHeartbeats 1600000 in
theorem some_nil (w : World) (S : Nat → Prop) (v vp : Value) (l : List Wr) (ps : List Int) (hS : ∀ b, S b → b < w.heap.size) (hl : IsWrs w S v l) (hnl : l.length ≤ 1099511627776) (hp : IsInts w S vp ps) (hnp : ps.length ≤ 1099511627776) :
    Calls Try.prog 15 #[.pointer none, v, vp] w fun e w' => e = .returned (.pointer none) ∧ Below w.heap.size w w' := by
  obtain ⟨A, c, rfl, hc, hr⟩ := hl
  obtain ⟨Ap, cp, rfl, hcp, hrp⟩ := hp
  obtain ⟨V, hV⟩ := wrs_cells hr
  have hV : WrsIs w S A l V := hV
  obtain ⟨w1, hw1⟩ : ∃ w1, w1 = (w.alloc (.cells #[.slice A l.length c] 23)).alloc (.cells #[.slice Ap ps.length cp] 24) := ⟨_, rfl⟩
  have hB1 : Below w.heap.size w w1 := by rw [hw1]; exact ((Below.refl _ _).alloc (Nat.le_refl _) _).alloc (by simp) _
  have hs1 : w1.heap.size = w.heap.size + 2 := by rw [hw1]; simp
  have hdo := do_nil w1 (fun b => S b ∨ b = w.heap.size) 30 #[.pointer (some ⟨w.heap.size + 1, 0, none⟩), .pointer (some ⟨w.heap.size, 0, none⟩)] A l V (atF l.length ps) ps.length (fun b hb => hb.elim (fun h => by have := hS b h; omega) (fun h => by omega)) ((hV.keep (keep_below hB1 hS)).sub (fun b hb => .inl hb)) enters_at
    (fun w' hB => at_seq (cp := cp) (c := c) hS hV hnl hnp hrp w1 hw1 w' hB)
  have HDO := Lib.hid hdo
  have HW1 := Lib.hid hw1
  clear hdo hV hr hrp hw1
  generalize l.length = nl at *
  generalize ps.length = np at *
  go_enter Try.func15, Try.ntmps15
  go_wp2_with (first
    | (go_at_call 25; refine (at_fn _ _ _ _ _ _ _).mono ?_; rintro e w2 ⟨rfl, hw2⟩; rw [← HW1.out] at hw2; subst hw2)
    | (go_at_call 19; refine HDO.out.mono ?_; rintro e w3 ⟨rfl, hB3⟩))
  go_ret
  exact ⟨rfl, hB1.trans (hB3.mono (by omega))⟩
end Go.Proofs.Ytlogabbnnbcokaa
