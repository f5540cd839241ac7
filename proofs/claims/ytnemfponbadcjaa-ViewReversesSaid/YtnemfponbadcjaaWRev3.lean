/- view.Reverse. Condition: the pool's numbers fit into Go's int. -/
import Derived.Test.YtnemfponbadcjaaWRev2
import Derived.Test.YtnemfponbadcjaaPBox
namespace Go.Proofs.Ytnemfponbadcjaa
open Go.RowKit Go.Shelf
attribute [local go_sem] Oper.semAt_some

def revE (p : Pool) (f t : Int) : Int := if poolChk p ≠ 0 then poolChk p else if f < 0 ∨ t > p.data ∨ f > t then 2 else 0
def RevIs (p : Pool) (f t : Int) (w : World) (e : Ending) (w' : World) : Prop :=
  ∃ A c l, e = .returned (.tuple #[.slice A l.length c, .int .i64 (revE p f t)]) ∧ w'.ownsRow w.heap.size 36 4 (.slice A l.length c) l.length (flats Bk.enc l) ∧ Below w.heap.size w w' ∧ (revE p f t = 0 → l.Perm (rawP f t p) ∧ l.Pairwise (fun x y => aheadB y x = false)) ∧ (revE p f t ≠ 0 → l = [])
theorem bkOf_len (id f t : Int) (r : Rn) : (bkOf id f t r).length ≤ 1 := by unfold bkOf; split <;> simp
theorem flatB_len (id f t : Int) (l : List Rn) : (l.flatMap (bkOf id f t)).length ≤ l.length := by
  induction l with
  | nil => simp
  | cons r l ih =>
    rw [List.flatMap_cons, List.length_append, List.length_cons]
    have := bkOf_len id f t r
    omega
theorem rawOf_len (f t : Int) (hs : ∀ d : Dev, (rawDev f t d).length ≤ d.maps.length) (l : List Dev) : ((l.flatMap (rawDev f t)).length : Int) ≤ countL l := by
  induction l with
  | nil => simp [countL]
  | cons d l ih =>
    rw [List.flatMap_cons, List.length_append]
    simp only [countL]
    have := hs d
    omega
theorem runs_len (l : List Mp) : (runsOf l).length ≤ l.length := by
  have : ∀ k, k ≤ l.length → (runsOf (l.take k)).length ≤ k := by
    intro k
    induction k with
    | zero => intro _; simp [runsOf]
    | succ k ih =>
      intro hk
      rw [runsOf_take l k (by omega)]
      have := addR_length (runsOf (l.take k)) (oneR (nth mp0 l k))
      have := ih (by omega)
      omega
  have h := this l.length (Nat.le_refl _)
  rwa [List.take_length] at h
theorem rawDev_len (f t : Int) (d : Dev) : (rawDev f t d).length ≤ d.maps.length := Nat.le_trans (flatB_len _ _ _ _) (runs_len _)
theorem runs_cells {w : World} {S : Nat → Prop} {A : Option Addr} {l : List Rn} (h : RowOf (Flat Rn.enc) 4 rn0 w S A l) (hl : 0 < l.length) :
    ∃ b off, A = some ⟨b, off, none⟩ ∧ S b ∧ ∀ k, k < l.length → w.cell? ⟨b, off + k * 4, none⟩ = some (.int .i64 (nth rn0 l k).v) ∧ w.cell? ⟨b, off + k * 4 + 1, none⟩ = some (.int .i64 (nth rn0 l k).b) ∧ w.cell? ⟨b, off + k * 4 + 2, none⟩ = some (.int .i64 (nth rn0 l k).n) ∧ w.cell? ⟨b, off + k * 4 + 3, none⟩ = some (.int .i64 (nth rn0 l k).t) := by
  obtain ⟨b, off, e, hb, hc⟩ := h hl
  refine ⟨b, off, e, hb, fun k hk => ?_⟩
  obtain ⟨cs, _, hr, h3⟩ := hc k hk
  obtain rfl : cs = _ := hr
  exact ⟨h3 0 _ rfl, h3 1 _ rfl, h3 2 _ rfl, h3 3 _ rfl⟩
/-- Rows of other elements lie in other blocks. -/
theorem own_tag {w : World} {base e size n g : Nat} {v : Value} {xs : List Value} {cs : Array Value} {e2 : TypeId} {fr : Nat × Nat} (h : w.ownsRow base e size v n xs) (hg : w.heap[g]? = some (.cells cs e2 fr)) (hne : e ≠ e2) : some g ≠ v.ownBlock := fun hv => by
  rcases h.2 with ⟨rfl, _⟩ | ⟨g', cap, cur, rfl, _, hg', _⟩
  · cases hv
  · simp only [Value.ownBlock, Option.some.injEq] at hv
    subst hv
    rw [hg] at hg'
    injection hg' with hg'
    injection hg' with _ h2
    exact hne h2.symm
theorem own_other {w w' : World} {b1 e1 s1 n1 b2 e2 s2 n2 : Nat} {v1 v2 : Value} {xs1 xs2 : List Value} (h : w.ownsRow b1 e1 s1 v1 n1 xs1) (h2 : w.ownsRow b2 e2 s2 v2 n2 xs2) (hne : e2 ≠ e1) (hg : w.grownBy w' v2.ownBlock) : w'.ownsRow b1 e1 s1 v1 n1 xs1 := by
  refine h.kept hg ?_
  rcases h.2 with ⟨rfl, _⟩ | ⟨g', cap, cur, rfl, _, hg', _⟩
  · exact .inl rfl
  · exact .inr (own_tag h2 hg' hne)
theorem own4 {w : World} {base e g n cap k : Nat} {l : List Rn} (h : w.ownsRow base e 4 (.slice (some ⟨g, 0, none⟩) n cap) n (flats Rn.enc l)) (hk : k < n) (hn : l.length = n) :
    w.cell? ⟨g, k * 4, none⟩ = some (.int .i64 (nth rn0 l k).v) ∧ w.cell? ⟨g, k * 4 + 1, none⟩ = some (.int .i64 (nth rn0 l k).b) ∧ w.cell? ⟨g, k * 4 + 2, none⟩ = some (.int .i64 (nth rn0 l k).n) ∧ w.cell? ⟨g, k * 4 + 3, none⟩ = some (.int .i64 (nth rn0 l k).t) := by
  subst hn
  exact ⟨(h.cellAt _ (by omega)).trans (flats_get (d := rn0) Rn.enc_len l k 0 _ hk rfl), (h.cellAt _ (by omega)).trans (flats_get (d := rn0) Rn.enc_len l k 1 _ hk rfl), (h.cellAt _ (by omega)).trans (flats_get (d := rn0) Rn.enc_len l k 2 _ hk rfl), (h.cellAt _ (by omega)).trans (flats_get (d := rn0) Rn.enc_len l k 3 _ hk rfl)⟩
/-- The runs of a pool's mappings are small. -/
theorem pool_runs {p : Pool} (h : poolChk p = 0) {d : Dev} (hd : d ∈ p.devs) : (∀ m ∈ d.maps, MpS m) ∧ ∀ r ∈ runsOf d.maps, RnS d.maps.length r := by
  obtain ⟨_, _, hm⟩ := pool_dev h hd
  have hdt := pool_data h
  have h1 : ∀ m ∈ d.maps, MpS m := fun m hmm => by
    obtain ⟨⟨a, b⟩, ⟨c, e⟩, _⟩ := hm m hmm
    unfold MpS
    omega
  refine ⟨h1, ?_⟩
  have := (runsOf_small (l := d.maps) h1 d.maps.length (Nat.le_refl _)).1
  rwa [List.take_length] at this
/-- A run of a list stands at one of its mappings' data blocks. -/
theorem runs_b {P : Int → Prop} {l : List Mp} (h : ∀ m ∈ l, P m.b) : ∀ r ∈ runsOf l, P r.b := by
  have : ∀ k, k ≤ l.length → ∀ r ∈ runsOf (l.take k), P r.b := by
    intro k
    induction k with
    | zero => intro _ r hr; simp [runsOf] at hr
    | succ k ih =>
      intro hk r hr
      rw [runsOf_take l k (by omega)] at hr
      have hm := h (nth mp0 l k) (nth_mem mp0 l k (by omega))
      rcases List.eq_nil_or_concat (runsOf (l.take k)) with e | ⟨i, p, e⟩
      · rw [e, addR_nil, List.mem_singleton] at hr
        subst hr
        exact hm
      · rw [List.concat_eq_append] at e
        have ih' := ih (by omega)
        rw [e] at hr ih'
        cases hf : folB p (oneR (nth mp0 l k)) with
        | true =>
          rw [addR_hit i p _ hf, List.mem_append, List.mem_singleton] at hr
          rcases hr with hr | rfl
          · exact ih' r (by simp [hr])
          · exact ih' p (by simp)
        | false =>
          rw [addR_miss i p _ hf, List.mem_append, List.mem_singleton] at hr
          rcases hr with hr | rfl
          · exact ih' r hr
          · exact hm
  have h2 := this l.length (Nat.le_refl _)
  rwa [List.take_length] at h2
set_option maxRecDepth 100000 in
set_option maxHeartbeats 3200000 in
theorem reverse_any (w : World) (S : Nat → Prop) (v : Value) (p : Pool) (f t : Int) (hS : ∀ b, S b → b < w.heap.size) (h : IsPool w S v p) (hok : p.ok) :
    Calls Try.prog 7 #[v, .int .i64 f, .int .i64 t] w (RevIs p f t w) := by
  have h0 := h
  obtain ⟨A, c, rfl, hc, hr⟩ := h
  have hB1 : Below w.heap.size w (w.alloc (poolBox p A p.devs.length c)) := (Below.refl _ _).alloc (Nat.le_refl _) _
  have hpb := PBox.new w p A p.devs.length c
  have hck := check_any (w.alloc (poolBox p A p.devs.length c)) S _ p (fun b hb => by have := hS b hb; simp; omega) (h0.below hB1 hS) hok
  obtain ⟨x0, x1, x2, x3, x4⟩ := hpb.cells
  have HCK := Lib.hid hck
  have HPB := Lib.hid hpb
  have HB1 := Lib.hid hB1
  clear hck h0 hpb
  dsimp only [poolBox] at HCK HPB HB1 x0 x1 x2 x3 x4
  unfold RevIs
  by_cases hz : poolChk p = 0
  · rw [hz] at HCK
    obtain ⟨hd0, hd1⟩ := pool_data hz
    by_cases hrg : f < 0 ∨ t > p.data ∨ f > t
    · have e : revE p f t = 2 := by unfold revE; rw [if_neg (by simpa using hz), if_pos hrg]
      rw [e]
      have HZ := Lib.hid hz
      clear hz e hok
      generalize p.devs.length = n at *
      by_cases g1 : f < 0
      · have d1 : decide (f < 0) = true := by simpa using g1
        clear hrg
        go_enter Try.func7, Try.ntmps7
        go_wp2_with (go_at_call 9; refine HCK.out.mono ?_; rintro e w2 ⟨rfl, hB2⟩; have hk2 := HB1.out.trans (hB2.mono (by simp)); have hp2 := HPB.out.below hB2 (by simp); clear x0 x1 x2 x3 x4; obtain ⟨x0, x1, x2, x3, x4⟩ := hp2.cells)
        go_ret2
        exact ⟨none, 0, [], rfl, World.ownsRow_nil _ _ _ _, hk2, fun h => absurd h (by decide), fun _ => rfl⟩
      · have d1 : decide (f < 0) = false := by simpa using g1
        by_cases g2 : t > p.data
        · have d2 : decide (t > p.data) = true := by simpa using g2
          clear hrg
          go_enter Try.func7, Try.ntmps7
          go_wp2_with (go_at_call 9; refine HCK.out.mono ?_; rintro e w2 ⟨rfl, hB2⟩; have hk2 := HB1.out.trans (hB2.mono (by simp)); have hp2 := HPB.out.below hB2 (by simp); clear x0 x1 x2 x3 x4; obtain ⟨x0, x1, x2, x3, x4⟩ := hp2.cells)
          go_ret2
          exact ⟨none, 0, [], rfl, World.ownsRow_nil _ _ _ _, hk2, fun h => absurd h (by decide), fun _ => rfl⟩
        · have d2 : decide (t > p.data) = false := by simpa using g2
          have g3 : f > t := by omega
          clear hrg
          go_enter Try.func7, Try.ntmps7
          go_wp2_with (go_at_call 9; refine HCK.out.mono ?_; rintro e w2 ⟨rfl, hB2⟩; have hk2 := HB1.out.trans (hB2.mono (by simp)); have hp2 := HPB.out.below hB2 (by simp); clear x0 x1 x2 x3 x4; obtain ⟨x0, x1, x2, x3, x4⟩ := hp2.cells)
          go_ret2
          exact ⟨none, 0, [], rfl, World.ownsRow_nil _ _ _ _, hk2, fun h => absurd h (by decide), fun _ => rfl⟩
    · have e : revE p f t = 0 := by unfold revE; rw [if_neg (by simpa using hz), if_neg hrg]
      rw [e]
      have d1 : decide (f < 0) = false := by simp; omega
      have d2 : decide (t > p.data) = false := by simp; omega
      have d3 : ¬ f > t := by omega
      have d4 : ¬ f < 0 := by omega
      have d5 : ¬ t > p.data := by omega
      have hdv : ∀ k, k < p.devs.length → (∀ m ∈ (nth dev0 p.devs k).maps, MpS m) ∧ (∀ r ∈ runsOf (nth dev0 p.devs k).maps, RnS (nth dev0 p.devs k).maps.length r) ∧ (∀ r ∈ runsOf (nth dev0 p.devs k).maps, 0 ≤ r.b ∧ r.b < p.data) ∧ (nth dev0 p.devs k).maps.length ≤ 16384 := fun k hk => by
        have hm := nth_mem dev0 p.devs k hk
        obtain ⟨a1, a2⟩ := pool_runs hz hm
        obtain ⟨_, _, a3⟩ := pool_dev hz hm
        refine ⟨a1, a2, runs_b (P := fun b => 0 ≤ b ∧ b < p.data) fun m hmm => (a3 m hmm).2.1, ?_⟩
        have hs := (poolChk_parts hz).2.1
        unfold sizeB at hs
        simp only [decide_eq_true_eq] at hs
        have h1 := countL_take p.devs k hk
        have h2 := countL_take_le p.devs (k + 1)
        have h3 := countL_nonneg (p.devs.take k)
        unfold Pool.count at hs
        omega
      have hcn : ∀ k, (((p.devs.take k).flatMap (rawDev f t)).length : Int) ≤ 16384 := fun k => by
        have hs := (poolChk_parts hz).2.1
        unfold sizeB at hs
        simp only [decide_eq_true_eq] at hs
        have h1 := rawOf_len f t (rawDev_len f t) (p.devs.take k)
        have h2 := countL_take_le p.devs k
        unfold Pool.count at hs
        omega
      have hnb : p.devs.length ≤ 4096 := by
        have hs := (poolChk_parts hz).2.1
        unfold sizeB at hs
        simp only [decide_eq_true_eq] at hs
        omega
      have HDV := Lib.hid hdv
      have HCN := Lib.hid hcn
      have HRP := Lib.hid (show rawP f t p = (p.devs.take p.devs.length).flatMap (rawDev f t) by rw [List.take_length]; rfl)
      have HR0 := Lib.hid (show (p.devs.take 0).flatMap (rawDev f t) = [] from rfl)
      have HRK := Lib.hid (show ∀ k, k < p.devs.length → (p.devs.take (k + 1)).flatMap (rawDev f t) = (p.devs.take k).flatMap (rawDev f t) ++ rawDev f t (nth dev0 p.devs k) from fun k hk => by rw [take_nth dev0 _ _ hk]; simp)
      obtain ⟨Q, hQ⟩ : ∃ Q : Nat → List Bk, Q = fun k => (p.devs.take k).flatMap (rawDev f t) := ⟨_, rfl⟩
      have HQN := Lib.hid (show ∀ k, ((Q k).length : Int) ≤ 16384 by rw [hQ]; exact HCN.out)
      have HQP := Lib.hid (show rawP f t p = Q p.devs.length by rw [hQ]; exact HRP.out)
      have HQ0 := Lib.hid (show Q 0 = [] by rw [hQ]; exact HR0.out)
      have HQK := Lib.hid (show ∀ k, k < p.devs.length → Q (k + 1) = Q k ++ rawDev f t (nth dev0 p.devs k) by rw [hQ]; exact HRK.out)
      clear hz hrg e hdv hcn hok HCN HRP HR0 HRK hQ
      obtain ⟨res, hres⟩ : ∃ r, r = rawP f t p := ⟨_, rfl⟩
      rw [← hres] at HQP ⊢
      clear hres
      generalize hnn : p.devs.length = n at *
      have HN := Lib.hid hnn
      clear hnn
      go_enter Try.func7, Try.ntmps7
      go_wp2_with (go_at_call 9; refine HCK.out.mono ?_; rintro e w2 ⟨rfl, hB2⟩; have hk2 := HB1.out.trans (hB2.mono (by simp)); have hp2 := HPB.out.below hB2 (by simp); clear x0 x1 x2 x3 x4; obtain ⟨x0, x1, x2, x3, x4⟩ := hp2.cells)
      clear x0 x1 x2 x3 x4 hp2
      go_loopw [9, 37] (fun o i wr => ∃ k : Nat, i = .int .i64 k ∧ k ≤ n ∧ wr.ownsRow w.heap.size 36 4 o (Q k).length (flats Bk.enc (Q k)) ∧ Below w.heap.size w wr) (fun _ i _ => n - (intOf i).toNat)
      case atStart => exact ⟨0, rfl, by omega, by rw [HQ0.out]; exact World.ownsRow_nil _ _ _ _, hk2⟩
      case round =>
        obtain ⟨k, rfl, hk, hrow, hB⟩ := hrel
        obtain ⟨wo, rfl⟩ : ∃ wo : World, wo = wr := ⟨_, rfl⟩
        have hz := hB.size
        obtain ⟨Ao, co, rfl, _⟩ := own_form0 hrow
        by_cases hlt : k < n
        · have hki : (k : Int) < (n : Int) := by omega
          obtain ⟨b, off, rfl, hb, hcl⟩ := devs_cells (hr.keep rdev_stable (fun _ h => h) (keep_below hB hS)) (by rw [HN.out]; omega)
          obtain ⟨c0, c1, c2, c3, A', c', c4, hc', hr'⟩ := hcl k (by rw [HN.out]; exact hlt)
          obtain ⟨e1, e2, e3, e4⟩ := HDV.out k hlt
          have hqk := HQK.out k hlt
          have hbw : b < wo.heap.size := by have := hS b hb; omega
          clear hcl
          generalize nth dev0 p.devs k = d at *
          obtain ⟨w5, hw5⟩ : ∃ w5, wo.alloc (.cells #[.int .i64 d.id, .int .i64 d.tx, .int .i64 d.made, .int .i64 d.snapped, .slice A' d.maps.length c'] 52) = w5 := ⟨_, rfl⟩
          have hal : Below wo.heap.size wo w5 := by rw [← hw5]; exact (Below.refl _ _).alloc (Nat.le_refl _) _
          have hof := runsOf_any w5 S (.slice A' d.maps.length c') d.maps (fun b hb => Nat.lt_of_lt_of_le (hS b hb) (Nat.le_trans hz hal.size)) ⟨A', c', rfl, hc', hr'.keep rmp_stable (fun _ h => h) (keep_below hal (fun b hb => Nat.lt_of_lt_of_le (hS b hb) hz))⟩ (by omega) e1
          unfold OfIs at hof
          have hdb : w5.heap[wo.heap.size]? = some (.cells #[.int .i64 d.id, .int .i64 d.tx, .int .i64 d.made, .int .i64 d.snapped, .slice A' d.maps.length c'] 52 (0, 0)) := by rw [← hw5]; exact heap_alloc_new wo _
          have hrow5 : w5.ownsRow w.heap.size 36 4 (.slice Ao (Q k).length co) (Q k).length (flats Bk.enc (Q k)) := by rw [← hw5]; exact hrow.alloc _
          have hs5 : wo.heap.size < w5.heap.size := by rw [← hw5]; simp
          have hrd := rawDev_len f t d
          have hq16 := HQN.out k
          have hrdf : rawDev f t d = (runsOf d.maps).flatMap (bkOf d.id f t) := rfl
          have hrl := runs_len d.maps
          have hrl2 : (runsOf d.maps).length ≤ 16384 := Nat.le_trans hrl e4
          rw [hrdf] at hqk hrd
          have HQ1 := Lib.hid hqk
          have HRD := Lib.hid hrd
          have HOF := Lib.hid hof
          have HDB := Lib.hid hdb
          have HROW5 := Lib.hid hrow5
          have HW5 := Lib.hid hw5
          have HAL := Lib.hid hal
          clear hqk hrd hof hdb hrow5 hw5 hal hrdf e1 hr' hrow
          generalize runsOf d.maps = rs at *
          generalize hdl : d.maps.length = dl at *
          clear hdl
          go_wp2_with fail
          rw [HW5.out]
          refine HOF.out.mono ?_
          rintro e w6 ⟨A6, n6, c6, hn6, rfl, hown6, hB6⟩
          have HN6 := Lib.hid hn6
          have hn6b : n6 ≤ 16384 := by have := HN6.out; omega
          have hz5 := HAL.out.size
          have hz6 := hB6.size
          have hkB6 := hB.trans ((HAL.out.mono hz).trans (hB6.mono (Nat.le_trans hz hz5)))
          have HK6 := Lib.hid hkB6
          have HR6 := Lib.hid (own_lowR (base' := 0) hown6 (by omega))
          have HO6 := Lib.hid (HROW5.out.below2 hB6)
          have HD6 := Lib.hid ((hB6.block _ hs5).trans HDB.out)
          clear hkB6 hown6 hn6
          go_wp2_with fail
          go_loopw [9, 45] (fun o j wr => ∃ (q : Nat) (l : List Bk), j = .int .i64 q ∧ q ≤ n6 ∧ Hid (l = Q k ++ (rs.take q).flatMap (bkOf d.id f t)) ∧ wr.ownsRow w.heap.size 36 4 o l.length (flats Bk.enc l) ∧ wr.ownsRow 0 58 4 (.slice A6 n6 c6) n6 (flats Rn.enc rs) ∧ wr.heap[wo.heap.size]? = some (.cells #[.int .i64 d.id, .int .i64 d.tx, .int .i64 d.made, .int .i64 d.snapped, .slice A' dl c'] 52 (0, 0)) ∧ Below w.heap.size w wr) (fun _ j _ => n6 - (intOf j).toNat)
          case atStart => exact ⟨0, Q k, rfl, by omega, Lib.hid (by simp), HO6.out, HR6.out, HD6.out, HK6.out⟩
          case round =>
            obtain ⟨q, l, rfl, hq, HL, hro, hru, hdv, hBi⟩ := hrel
            have hzi := hBi.size
            obtain ⟨Ai, ci, rfl, _⟩ := own_form0 hro
            by_cases hql : q < n6
            · have hqi : (q : Int) < (n6 : Int) := by omega
              obtain ⟨g6, cap6, hv, hg1, hg2, _⟩ := own_form hru (by omega)
              injection hv with v1 v2 v3
              subst v1 v3
              obtain ⟨y0, y1, y2, y3⟩ := own4 hru hql HN6.out.symm
              have hmem := nth_mem rn0 rs q (by rw [← HN6.out]; exact hql)
              obtain ⟨s1, s2, s3, s4, s5, s6⟩ := e2 _ hmem
              obtain ⟨s7, s8⟩ := e3 _ hmem
              have hnx : (rs.take (q + 1)).flatMap (bkOf d.id f t) = (rs.take q).flatMap (bkOf d.id f t) ++ bkOf d.id f t (nth rn0 rs q) := by rw [take_nth rn0 _ _ (by rw [← HN6.out]; exact hql)]; simp
              have hll : l.length ≤ 40000 := by
                rw [HL.out, List.length_append]
                have a1 := flatB_len d.id f t (rs.take q)
                rw [List.length_take] at a1
                have a2 := HN6.out
                omega
              obtain ⟨w7, hw7⟩ : ∃ w7, wr.alloc (.cells #[.int .i64 (nth rn0 rs q).v, .int .i64 (nth rn0 rs q).b, .int .i64 (nth rn0 rs q).n, .int .i64 (nth rn0 rs q).t] 58) = w7 := ⟨_, rfl⟩
              have hal7 : Below wr.heap.size wr w7 := by rw [← hw7]; exact (Below.refl _ _).alloc (Nat.le_refl _) _
              have hcut := cut_any w7 (nth rn0 rs q) f t ⟨s1, s2, s3, s4, s5, by omega⟩ (by omega) (by omega) (by omega)
              have hdc := (cells5 hdv).1
              have hdlt : wo.heap.size < wr.heap.size := (Array.getElem?_eq_some_iff.1 hdv).1
              have HNX := Lib.hid hnx
              have HW7 := Lib.hid hw7
              have HAL7 := Lib.hid hal7
              have HRU := Lib.hid hru
              have HRO := Lib.hid hro
              have HDV2 := Lib.hid hdv
              have hb7 : wr.heap.size ≤ w7.heap.size := hal7.size
              have HID := Lib.hid (fun w' (hB : Below w7.heap.size w7 w') => (hB.cell (p := ⟨wo.heap.size, 0, none⟩) (Nat.lt_of_lt_of_le hdlt hb7)).trans ((hal7.cell (p := ⟨wo.heap.size, 0, none⟩) hdlt).trans hdc))
              unfold rnV at hcut
              clear hnx hw7 hal7 hru hro hdv hmem s1 s2 s3 s4 s5 s6 s7 s8 hdc
              have HY := Lib.hid (show bkOf d.id f t (nth rn0 rs q) = if cutB f t (nth rn0 rs q) = true then [⟨(cutN f t (nth rn0 rs q)).b, (cutN f t (nth rn0 rs q)).n, d.id, (cutN f t (nth rn0 rs q)).v⟩] else [] from rfl)
              cases hcb : cutB f t (nth rn0 rs q) with
              | true =>
                rw [hcb] at hcut HY
                have HCUT := Lib.hid hcut
                have HNX1 := Lib.hid (show (rs.take (q + 1)).flatMap (bkOf d.id f t) = (rs.take q).flatMap (bkOf d.id f t) ++ [⟨(cutN f t (nth rn0 rs q)).b, (cutN f t (nth rn0 rs q)).n, d.id, (cutN f t (nth rn0 rs q)).v⟩] by rw [HNX.out, HY.out]; simp)
                clear hcut hcb HY HNX
                generalize nth rn0 rs q = y at *
                go_wp2_with fail
                rw [HW7.out]
                refine HCUT.out.mono ?_
                rintro e w8 ⟨rfl, hB8⟩
                have hid8 := HID.out w8 hB8
                have hro8 : w8.ownsRow w.heap.size 36 4 (.slice Ai l.length ci) l.length (flats Bk.enc l) := by
                  have : w7.ownsRow w.heap.size 36 4 (.slice Ai l.length ci) l.length (flats Bk.enc l) := by rw [← HW7.out]; exact HRO.out.alloc _
                  exact this.below2 hB8
                have hru8 : w8.ownsRow 0 58 4 (.slice (some ⟨g6, 0, none⟩) n6 c6) n6 (flats Rn.enc rs) := by
                  have : w7.ownsRow 0 58 4 (.slice (some ⟨g6, 0, none⟩) n6 c6) n6 (flats Rn.enc rs) := by rw [← HW7.out]; exact HRU.out.alloc _
                  exact this.below2 hB8
                have hdv8 : w8.heap[wo.heap.size]? = some (.cells #[.int .i64 d.id, .int .i64 d.tx, .int .i64 d.made, .int .i64 d.snapped, .slice A' dl c'] 52 (0, 0)) := (hB8.block _ (Nat.lt_of_lt_of_le hdlt hb7)).trans ((HAL7.out.block _ hdlt).trans HDV2.out)
                have hb8 : w7.heap.size ≤ w8.heap.size := hB8.size
                have hd8 : wo.heap.size < w8.heap.size := by omega
                have hkB8 := hBi.trans ((HAL7.out.mono hzi).trans (hB8.mono (Nat.le_trans hzi hb7)))
                have hz8 := hkB8.size
                have hro9 := hro8.alloc (.cells #[.int .i64 (cutN f t y).v, .int .i64 (cutN f t y).b, .int .i64 (cutN f t y).n, .int .i64 (cutN f t y).t] 58)
                have HRU8 := Lib.hid hru8
                have HDV8 := Lib.hid hdv8
                have HRO8 := Lib.hid hro8
                have HKB8 := Lib.hid hkB8
                clear hru8 hdv8 hro8 hkB8
                generalize cutN f t y = z at *
                go_wp2_with (at_builtin; go_loud (refine wpList_append_one elBk rfl _ _ rfl w.heap.size (.slice Ai l.length ci) l.length l ⟨z.b, z.n, d.id, z.v⟩ rfl hro9 (by rw [World.size_alloc]; rfl) (by omega) (by rw [World.size_alloc]; omega) ?_); intro A9 c9 w9 hown9 hg9)
                go_roundw
                case rel =>
                  have hg8 := grown_new hg9
                  refine ⟨q + 1, l ++ [⟨z.b, z.n, d.id, z.v⟩], by go_num, by omega, Lib.hid (by rw [HNX1.out, HL.out, List.append_assoc]), by rw [List.length_append]; exact hown9, own_other HRU8.out HRO8.out (by decide) hg8, (hg8.block _ hd8 (own_tag HRO8.out HDV8.out (by decide))).trans HDV8.out, HKB8.out.grown hg8 hz8 (fun j hj => (HRO8.out.lt j hj).1)⟩
                case measure => simp [intOf]; omega
              | false =>
                rw [hcb] at hcut HY
                have HCUT := Lib.hid hcut
                have HNX1 := Lib.hid (show (rs.take (q + 1)).flatMap (bkOf d.id f t) = (rs.take q).flatMap (bkOf d.id f t) by rw [HNX.out, HY.out]; simp)
                clear hcut hcb HY HNX
                generalize nth rn0 rs q = y at *
                go_wp2_with fail
                rw [HW7.out]
                refine HCUT.out.mono ?_
                rintro e w8 ⟨rfl, hB8⟩
                have hid8 := HID.out w8 hB8
                have hro8 : w8.ownsRow w.heap.size 36 4 (.slice Ai l.length ci) l.length (flats Bk.enc l) := by
                  have : w7.ownsRow w.heap.size 36 4 (.slice Ai l.length ci) l.length (flats Bk.enc l) := by rw [← HW7.out]; exact HRO.out.alloc _
                  exact this.below2 hB8
                have hru8 : w8.ownsRow 0 58 4 (.slice (some ⟨g6, 0, none⟩) n6 c6) n6 (flats Rn.enc rs) := by
                  have : w7.ownsRow 0 58 4 (.slice (some ⟨g6, 0, none⟩) n6 c6) n6 (flats Rn.enc rs) := by rw [← HW7.out]; exact HRU.out.alloc _
                  exact this.below2 hB8
                have hdv8 : w8.heap[wo.heap.size]? = some (.cells #[.int .i64 d.id, .int .i64 d.tx, .int .i64 d.made, .int .i64 d.snapped, .slice A' dl c'] 52 (0, 0)) := (hB8.block _ (Nat.lt_of_lt_of_le hdlt hb7)).trans ((HAL7.out.block _ hdlt).trans HDV2.out)
                have hb8 : w7.heap.size ≤ w8.heap.size := hB8.size
                have hd8 : wo.heap.size < w8.heap.size := by omega
                have hkB8 := hBi.trans ((HAL7.out.mono hzi).trans (hB8.mono (Nat.le_trans hzi hb7)))
                have hz8 := hkB8.size
                have HRU8 := Lib.hid hru8
                have HDV8 := Lib.hid hdv8
                have HRO8 := Lib.hid hro8
                have HKB8 := Lib.hid hkB8
                clear hru8 hdv8 hro8 hkB8
                generalize cutN f t y = z at *
                go_wp2_with fail
                go_roundw
                case rel => exact ⟨q + 1, l, by go_num, by omega, Lib.hid (by rw [HNX1.out]; exact HL.out), HRO8.out.alloc _, HRU8.out.alloc _, (Below.heap_alloc _ _ _ hd8).trans HDV8.out, HKB8.out.alloc hz8 _⟩
                case measure => simp [intOf]; omega
            · obtain rfl : q = n6 := by omega
              have hl2 : l = Q (k + 1) := by
                rw [HL.out, HQ1.out]
                have a2 := HN6.out
                rw [a2, List.take_length]
              have HL2 := Lib.hid hl2
              have HRO := Lib.hid hro
              clear hro hl2
              go_wp2_with fail
              go_roundw
              case rel => exact ⟨k + 1, by go_num, by omega, by rw [← HL2.out]; exact HRO.out, hBi⟩
              case measure => simp [intOf]; omega
        · obtain rfl : k = n := by omega
          have HRES := Lib.hid (show res = Q k from HQP.out)
          have hq16 := HQN.out k
          have HSO := Lib.hid (sortB_any wo w.heap.size Ao (Q k).length co (Q k) hrow rfl (by omega))
          unfold SortBIs at HSO
          clear hrow
          generalize hql : (Q k).length = ql at *
          have HQL := Lib.hid hql
          clear hql
          go_wp2_with (go_at_call 16; refine HSO.out.mono ?_; rintro e w9 ⟨l9, hp9, hs9, rfl, hown9, hB9⟩)
          go_ret2
          have hl9 : l9.length = ql := by rw [hp9.length_eq]; exact HQL.out
          subst hl9
          exact ⟨Ao, co, l9, rfl, hown9, hB.trans hB9, fun _ => ⟨by rw [HRES.out]; exact hp9, hs9⟩, fun h => absurd rfl h⟩
  · have e : revE p f t = poolChk p := by unfold revE; rw [if_pos hz]
    rw [e]
    have hne : (poolChk p != 0) = true := by simpa using hz
    have HZ := Lib.hid hz
    clear hz e hok
    generalize poolChk p = r at *
    generalize p.devs.length = n at *
    go_enter Try.func7, Try.ntmps7
    go_wp2_with (go_at_call 9; refine HCK.out.mono ?_; rintro e w2 ⟨rfl, hB2⟩; have hk2 := HB1.out.trans (hB2.mono (by simp)); have hp2 := HPB.out.below hB2 (by simp); clear x0 x1 x2 x3 x4)
    go_ret2
    exact ⟨none, 0, [], rfl, World.ownsRow_nil _ _ _ _, hk2, fun h => absurd h HZ.out, fun _ => rfl⟩
end Go.Proofs.Ytnemfponbadcjaa
