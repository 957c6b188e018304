/- The law FnBestTimeLess holds of the given program: the proof's own part, with its row and its card, part 4 of 9. -/
import Derived.Test.YtimbfcedigaffaaDoorZFnBestTimeLess3
set_option linter.unusedVariables false
set_option linter.unusedSimpArgs false
namespace Go.Proofs.YtimbfcedigaffaaDoor.P
abbrev T4q : Bool := true
abbrev F4q : Bool := false
end Go.Proofs.YtimbfcedigaffaaDoor.P
section
namespace Go.Proofs.YtimbfcedigaffaaDoor.P
open Go.RowKit Go.Proofs.YtimbfcedigaffaaDoorW.PrintWords Go.Proofs.YtimbfcedigaffaaDoorW.PrintLast Go.Proofs.YtimbfcedigaffaaDoorW.PrintMore
attribute [local go_sem] max2_int min2_int max_two min_two max_three min_three max_four min_four
mutual
def spec_turned.l0 : Nat → List (S39) → List (S39) → Int → Int → Option ((List (S39)))
 | 0, _, _, _, _ => none
 | k + 1, x0, x3, x4, x5 => if x5 ≥ 0 then (if 0 ≤ x5 then (if x5 < (x0.length : Int) then (spec_turned.l1 k x0 x3 x4 x5 (([] : List Int)) (wrap64 ((((rd_T39 x0 x5).f1).length : Int) - 1)) ((rd_T39 x0 x5).f0) ((rd_T39 x0 x5).f1) ((rd_T39 x0 x5).f2) ((rd_T39 x0 x5).f3)) else (none)) else (none)) else (some x3)
def spec_turned.l1 : Nat → List (S39) → List (S39) → Int → Int → List Int → Int → Int → List Int → Int → Int → Option ((List (S39)))
 | 0, _, _, _, _, _, _, _, _, _, _ => none
 | k + 1, x0, x3, x4, x5, x7, x8, x377000, x377001, x377002, x377003 => if x8 ≥ 0 then (if 0 ≤ x8 then (if x8 < (x377001.length : Int) then (if x7.length < 17592186044416 then (spec_turned.l1 k x0 x3 x4 x5 (x7 ++ [wrap64 (x4 - (rd x377001 x8))]) (wrap64 (x8 - 1)) x377000 x377001 x377002 x377003) else (none)) else (none)) else (none)) else (if x3.length < 2932031007402 then (spec_turned.l0 k x0 (x3 ++ [(⟨x377000, x7, x377002, x377003⟩ : S39)]) x4 (wrap64 (x5 - 1))) else (none))
end
def spec_turned.f (k : Nat) (l0 : List (S39)) : Option ((List (S39))) := spec_turned.l0 k l0 (([] : List (S39))) (wrap64 ((l0.length : Int) - 1)) (wrap64 ((l0.length : Int) - 1))
theorem spec_turned.mono_l : ∀ k, (∀ y0 y1 y2 y3, LeO (spec_turned.l0 k y0 y1 y2 y3) (spec_turned.l0 (k + 1) y0 y1 y2 y3)) ∧ (∀ y0 y1 y2 y3 y4 y5 y6 y7 y8 y9, LeO (spec_turned.l1 k y0 y1 y2 y3 y4 y5 y6 y7 y8 y9) (spec_turned.l1 (k + 1) y0 y1 y2 y3 y4 y5 y6 y7 y8 y9))
 | 0 => ⟨fun _ _ _ _ r h => by simp [spec_turned.l0] at h, fun _ _ _ _ _ _ _ _ _ _ r h => by simp [spec_turned.l1] at h⟩
 | k + 1 => by
  obtain ⟨ih0, ih1⟩ := spec_turned.mono_l k
  refine ⟨?_, ?_⟩
  ·intro y0 y1 y2 y3
   unfold spec_turned.l0
   repeat' first
   | (with_reducible exact ih0 _ _ _ _)
   | (with_reducible exact ih1 _ _ _ _ _ _ _ _ _ _)
   | (with_reducible exact LeO.refl _)
   | (with_reducible exact LeO.none _)
   | (with_reducible refine LeO.ite ?_ ?_)
   | (with_reducible refine LeO.bind ?_ (fun _ => ?_))
   | exact ih0 _ _ _ _
   | exact ih1 _ _ _ _ _ _ _ _ _ _
   | exact LeO.none _
   | refine LeO.ite ?_ ?_
   | refine LeO.bind ?_ (fun _ => ?_)
  ·intro y0 y1 y2 y3 y4 y5 y6 y7 y8 y9
   unfold spec_turned.l1
   repeat' first
   | (with_reducible exact ih0 _ _ _ _)
   | (with_reducible exact ih1 _ _ _ _ _ _ _ _ _ _)
   | (with_reducible exact LeO.refl _)
   | (with_reducible exact LeO.none _)
   | (with_reducible refine LeO.ite ?_ ?_)
   | (with_reducible refine LeO.bind ?_ (fun _ => ?_))
   | exact ih0 _ _ _ _
   | exact ih1 _ _ _ _ _ _ _ _ _ _
   | exact LeO.none _
   | refine LeO.ite ?_ ?_
   | refine LeO.bind ?_ (fun _ => ?_)
theorem spec_turned.mono : ∀ a0 k, LeO (spec_turned.f k a0) (spec_turned.f (k + 1) a0) := by
 intro a0 k
 obtain ⟨ih0, ih1⟩ := spec_turned.mono_l k
 unfold spec_turned.f
 repeat' first
   | (with_reducible exact ih0 _ _ _ _)
   | (with_reducible exact ih1 _ _ _ _ _ _ _ _ _ _)
   | (with_reducible exact LeO.refl _)
   | (with_reducible exact LeO.none _)
   | (with_reducible refine LeO.ite ?_ ?_)
   | (with_reducible refine LeO.bind ?_ (fun _ => ?_))
   | exact ih0 _ _ _ _
   | exact ih1 _ _ _ _ _ _ _ _ _ _
   | exact LeO.none _
   | refine LeO.ite ?_ ?_
   | refine LeO.bind ?_ (fun _ => ?_)
set_option maxHeartbeats 8000000 in
set_option maxRecDepth 100000 in
theorem spec_turned.calls (k : Nat) (A0 : Option Addr) (c0 : Nat) (l0 : List (S39)) (r : List (S39)) (w : World) (hr0 : Kd.C k39 w A0 l0.length l0) (hc0 : l0.length ≤ c0) (h : spec_turned.f k l0 = some r) :
  Calls Tryd.prog 69 #[.slice A0 l0.length c0] w fun e w' => ∃ v0_ : Value, e = .returned (v0_) ∧ Kd.S k39 39 w' w.heap.size (fun _ => True) v0_ r ∧ Below w.heap.size w w' := by
 have hu39 := Tryd.underlying39
 have HR0 := m0 hr0
 have HC0 := m0 hc0
 clear hr0 hc0
 have HB := m0 (Below.refl w.heap.size w)
 have H : (spec_turned.l0 k l0 (([] : List (S39))) (wrap64 ((l0.length : Int) - 1)) (wrap64 ((l0.length : Int) - 1))) = some r := h
 clear h
 obtain ⟨y372, hy372⟩ : ∃ y_ : List (S39), y_ = (([] : List (S39))) := ⟨_, rfl⟩
 replace H : (spec_turned.l0 k l0 y372 (wrap64 ((l0.length : Int) - 1)) (wrap64 ((l0.length : Int) - 1))) = some r := by first | (rw [hy372]; with_reducible exact H) | (have H2_ := (Option.bind_some _ _).symm.trans H; rw [hy372]; with_reducible exact H2_) | (have H2_ := (Option.bind_some _ _).symm.trans H; with_reducible exact H2_) | with_reducible exact H | (rw [hy372]; exact H) | exact H
 have Ny372 := m0 hy372
 clear hy372
 have H' := m0 H
 clear H
 go_enter Tryd.func69, Tryd.ntmps69
 go_wp2_with (first | ((with_reducible refine gate_dst (N := 9) rfl ?_); refine Kd.S_lit k39 _ 39 ?hg (N := 9) ?hd (xs := ([] : List (S39))) (inner := []) (ok := fun _ => True) (okp := fun _ => True) ?hr ?hp (fun _ hk => hk) trivial (Below.refl _ _) (Nat.le_refl _) (by simp) ?_; (case hd => rfl); (case hg => rfl); (case hr => first | (go_simp; done) | (go_simp; rfl)); (case hp => exact (Reps.none _ _)); intro v373 w2 ho3 hb hg_ hnew_; clear hg_ hnew_; (first | rw [← Ny372.out] at ho3 | (simp only [Int.reduceToNat] at ho3; rw [← Ny372.out] at ho3)); have n0_ := m0 (Kd.S_lower ho3 (below_size HB.out)); have n1_ := m0 (below_step HB.out hb); clear HB; have HO374 := n0_; have HB := n1_; clear n0_ n1_; clear hb ho3))
 go_loopg [3, 5] k (fun kq v3 v5 w' => ∃ (x3_1 : List (S39)) (x5_1 : Int), v5 = .int .i64 x5_1 ∧ Aside0 (spec_turned.l0 kq l0 x3_1 (wrap64 ((l0.length : Int) - 1)) x5_1 = some r) ∧ Aside0 (kq ≤ k) ∧ Aside0 (Kd.S k39 39 w' w.heap.size (fun _ => True) v3 x3_1) ∧ Aside0 (Below w.heap.size w w'))
 case atStart => exact ⟨(y372), (wrap64 ((l0.length : Int) - 1)), (by first | rfl | (simp; done) | (simp [*]; done)), H', ⟨Nat.le_refl _⟩, ⟨HO374.out⟩, ⟨HB.out⟩⟩
 case round =>
  clear H'
  try clear p2
  obtain ⟨x3_1, x5_1, rfl, HA, HK1, HO_3, HB⟩ := hrel
  cases gk with
  | zero => exact absurd HA.out (by simp [spec_turned.l0])
  | succ k1 =>
   have H := HA.out
   clear HA
   simp only [spec_turned.l0] at H
   by_cases c4 : x5_1 ≥ 0
   ·rw [if_pos c4] at H
    have c4b0 : decide (0 ≤ x5_1) = true := decide_eq_true c4
    clear c4
    by_cases c5 : 0 ≤ x5_1
    ·rw [if_pos c5] at H
     have c5b0 : decide (0 ≤ x5_1) = true := decide_eq_true c5
     clear c5
     by_cases c6 : x5_1 < (l0.length : Int)
     ·rw [if_pos c6] at H
      have c6b0 : decide (x5_1 < (l0.length : Int)) = true := decide_eq_true c6
      clear c6
      obtain ⟨y377, hy377⟩ : ∃ y_ : List Int, y_ = (([] : List Int)) := ⟨_, rfl⟩
      replace H : (spec_turned.l1 k1 l0 x3_1 (wrap64 ((l0.length : Int) - 1)) x5_1 y377 (wrap64 ((((rd_T39 l0 x5_1).f1).length : Int) - 1)) ((rd_T39 l0 x5_1).f0) ((rd_T39 l0 x5_1).f1) ((rd_T39 l0 x5_1).f2) ((rd_T39 l0 x5_1).f3)) = some r := by first | (rw [hy377]; with_reducible exact H) | (have H2_ := (Option.bind_some _ _).symm.trans H; rw [hy377]; with_reducible exact H2_) | (have H2_ := (Option.bind_some _ _).symm.trans H; with_reducible exact H2_) | with_reducible exact H | (rw [hy377]; exact H) | exact H
      have Ny377 := m0 hy377
      clear hy377
      have H' := m0 H
      clear H
      have p375 : 0 ≤ (x5_1 : Int) := of_decide_eq_true (by first | (with_reducible assumption) | assumption)
      have q375 : x5_1 < (l0.length : Int) := of_decide_eq_true (by first | (with_reducible assumption) | assumption)
      obtain ⟨ad375, A375_1, c375_1, e375, hx375_0, hx375_1, hx375_2, hx375_3, hl375_1, hi375_1⟩ := at_T39 HR0.out x5_1 p375 q375
      cases e375
      (try replace hx375_0 := (HB.out.cell (World.block_lt_of_cell? w _ hx375_0)).trans hx375_0)
      (try replace hx375_1 := (HB.out.cell (World.block_lt_of_cell? w _ hx375_1)).trans hx375_1)
      (try replace hx375_2 := (HB.out.cell (World.block_lt_of_cell? w _ hx375_2)).trans hx375_2)
      (try replace hx375_3 := (HB.out.cell (World.block_lt_of_cell? w _ hx375_3)).trans hx375_3)
      have HR375_1 := m0 hi375_1
      have HC375_1 := m0 hl375_1
      clear hi375_1 hl375_1
      replace p375 := eq_true p375
      replace q375 := eq_true q375
      go_wp2_with (first | ((with_reducible refine gate_dst (N := 6) rfl ?_); refine box_event ?hg (N := 6) ?hd (cs := #[.int .i64 0, .slice none 0 0, .int .i64 0, .int .i64 0]) (t := 39) ?hr ?_; (case hd => rfl); (case hg => rfl); (case hr => first | (go_simp; done) | (go_simp; rfl)); intro gb376 hg w7 hbox hb; have n0_ := m0 (Kd.S_below (Kd.S_elderB HO_3.out gb376 (Nat.le_of_eq hg.symm)) hb); have n1_ := m0 (below_step HB.out hb); have n2_ := m0 (hbox); have n3_ := m0 ((by rw [hg]; exact (below_size HB.out) : w.heap.size ≤ gb376)); have n4_ := m0 ((by rw [hg]; exact (below_size HB.out) : w.heap.size ≤ gb376)); clear HO_3; clear HB; have HO_3 := n0_; have HB := n1_; have BK376 := n2_; have GW376 := n3_; have GE376 := n4_; clear n0_ n1_ n2_ n3_ n4_; clear hb hbox hg; have hcz8_0 : w7.cell? ⟨gb376, 0, none⟩ = some (.int .i64 0) := (blk_cell BK376.out 0).trans rfl; have hcz8_1 : w7.cell? ⟨gb376, 1, none⟩ = some (.slice none 0 0) := (blk_cell BK376.out 1).trans rfl; have hcz8_2 : w7.cell? ⟨gb376, 2, none⟩ = some (.int .i64 0) := (blk_cell BK376.out 2).trans rfl; have hcz8_3 : w7.cell? ⟨gb376, 3, none⟩ = some (.int .i64 0) := (blk_cell BK376.out 3).trans rfl; have hfz8_0 := blk_frozen BK376.out 0; have hfz8_1 := blk_frozen BK376.out 1; have hfz8_2 := blk_frozen BK376.out 2; have hfz8_3 := blk_frozen BK376.out 3) | ((with_reducible refine gate_dst (N := 22) rfl ?_); refine Kd.R_lit (Kd.int .i64) _ 3 ?hg (N := 22) ?hd (xs := ([] : List Int)) (inner := []) (ok := fun _ => True) (okp := fun _ => True) ?hr ?hp (fun _ hk => hk) trivial (Below.refl _ _) (Nat.le_refl _) (by simp) ?_; (case hd => rfl); (case hg => rfl); (case hr => first | (go_simp; done) | (go_simp; rfl)); (case hp => exact (Reps.none _ _)); intro v378 w9 ho10 hb hg_ hnew_; clear hg_ hnew_; (first | rw [← Ny377.out] at ho10 | (simp only [Int.reduceToNat] at ho10; rw [← Ny377.out] at ho10)); have n0_ := m0 (Kd.S_elder' (by (with_reducible repeat (first | apply Kd.S_alloc | apply Kd.S_drewN | apply Kd.S_drew)); exact (Kd.S_mono (Kd.S_far (p := ⟨gb376, 3, none⟩) (Kd.S_far (p := ⟨gb376, 2, none⟩) (Kd.S_far (p := ⟨gb376, 1, none⟩) (Kd.S_far (p := ⟨gb376, 0, none⟩) (Kd.S_mono HO_3.out (fun k_ hk => (⟨hk, hk.2⟩ : _ ∧ k_ ≠ gb376))) (fun _ hk => hk.2) (.int .i64 ((rd_T39 l0 x5_1).f0))) (fun _ hk => hk.2) (.slice A375_1 ((rd_T39 l0 x5_1).f1).length c375_1)) (fun _ hk => hk.2) (.int .i64 ((rd_T39 l0 x5_1).f2))) (fun _ hk => hk.2) (.int .i64 ((rd_T39 l0 x5_1).f3))) (fun _ h_ => h_.1))) (Kd.R_base ho10) hb); have n1_ := m0 (Kd.R_lower ho10 (below_size (by repeat (first | (with_reducible first | exact HB.out | apply below_alloc | apply pw_below_drewN | apply below_drew1 | refine below_set ?_ GE376.out) | exact HB.out)))); have n2_ := m0 (blk_below (g := gb376) (o := .cells #[.int .i64 ((rd_T39 l0 x5_1).f0), .slice A375_1 ((rd_T39 l0 x5_1).f1).length c375_1, .int .i64 ((rd_T39 l0 x5_1).f2), .int .i64 ((rd_T39 l0 x5_1).f3)] 39 (0, 0)) (by (with_reducible repeat (first | refine blk_drewN ?_ _ | refine blk_drew ?_ | refine blk_alloc ?_ _)); refine blk_put (cs := #[.int .i64 ((rd_T39 l0 x5_1).f0), .slice A375_1 ((rd_T39 l0 x5_1).f1).length c375_1, .int .i64 ((rd_T39 l0 x5_1).f2), .int .i64 0]) ?_ 3 _ rfl; (with_reducible repeat (first | refine blk_drewN ?_ _ | refine blk_drew ?_ | refine blk_alloc ?_ _)); refine blk_put (cs := #[.int .i64 ((rd_T39 l0 x5_1).f0), .slice A375_1 ((rd_T39 l0 x5_1).f1).length c375_1, .int .i64 0, .int .i64 0]) ?_ 2 _ rfl; (with_reducible repeat (first | refine blk_drewN ?_ _ | refine blk_drew ?_ | refine blk_alloc ?_ _)); refine blk_put (cs := #[.int .i64 ((rd_T39 l0 x5_1).f0), .slice none 0 0, .int .i64 0, .int .i64 0]) ?_ 1 _ rfl; (with_reducible repeat (first | refine blk_drewN ?_ _ | refine blk_drew ?_ | refine blk_alloc ?_ _)); refine blk_put (cs := #[.int .i64 0, .slice none 0 0, .int .i64 0, .int .i64 0]) ?_ 0 _ rfl; (with_reducible repeat (first | refine blk_drewN ?_ _ | refine blk_drew ?_ | refine blk_alloc ?_ _)); exact BK376.out) hb); have n3_ := m0 (below_step (by repeat (first | (with_reducible first | exact HB.out | apply below_alloc | apply pw_below_drewN | apply below_drew1 | refine below_set ?_ GE376.out) | exact HB.out)) hb); clear HO_3; clear BK376; clear HB; have HO_3 := n0_; have HO379 := n1_; have BK376 := n2_; have HB := n3_; clear n0_ n1_ n2_ n3_; clear hb ho10; have hcz11_0 : w9.cell? ⟨gb376, 0, none⟩ = some (.int .i64 ((rd_T39 l0 x5_1).f0)) := (blk_cell BK376.out 0).trans rfl; have hcz11_1 : w9.cell? ⟨gb376, 1, none⟩ = some (.slice A375_1 ((rd_T39 l0 x5_1).f1).length c375_1) := (blk_cell BK376.out 1).trans rfl; have hcz11_2 : w9.cell? ⟨gb376, 2, none⟩ = some (.int .i64 ((rd_T39 l0 x5_1).f2)) := (blk_cell BK376.out 2).trans rfl; have hcz11_3 : w9.cell? ⟨gb376, 3, none⟩ = some (.int .i64 ((rd_T39 l0 x5_1).f3)) := (blk_cell BK376.out 3).trans rfl; have hfz11_0 := blk_frozen BK376.out 0; have hfz11_1 := blk_frozen BK376.out 1; have hfz11_2 := blk_frozen BK376.out 2; have hfz11_3 := blk_frozen BK376.out 3))
      go_loopg [7, 8] k1 (fun kq v7 v8 w' => ∃ (x7_2 : List Int) (x8_2 : Int), v8 = .int .i64 x8_2 ∧ Aside0 (spec_turned.l1 kq l0 x3_1 (wrap64 ((l0.length : Int) - 1)) x5_1 x7_2 x8_2 ((rd_T39 l0 x5_1).f0) ((rd_T39 l0 x5_1).f1) ((rd_T39 l0 x5_1).f2) ((rd_T39 l0 x5_1).f3) = some r) ∧ Aside0 (kq ≤ k1) ∧ Aside0 (Kd.S k39 39 w' w.heap.size (fun k_ => some k_ ≠ (v7 : Value).ownBlock ∧ k_ ≠ gb376) u3 x3_1) ∧ Aside0 (Kd.R (Kd.int .i64) 3 w' w.heap.size (fun _ => True) v7 x7_2) ∧ Aside0 (w'.heap[gb376]? = some (.cells #[.int .i64 ((rd_T39 l0 x5_1).f0), (.slice A375_1 ((rd_T39 l0 x5_1).f1).length c375_1), .int .i64 ((rd_T39 l0 x5_1).f2), .int .i64 ((rd_T39 l0 x5_1).f3)] 39 (0, 0))) ∧ Aside0 (Below w.heap.size w w'))
      case atStart => exact ⟨(y377), (wrap64 ((((rd_T39 l0 x5_1).f1).length : Int) - 1)), (by first | rfl | (simp; done) | (simp [*]; done)), H', ⟨Nat.le_refl _⟩, ⟨by (with_reducible repeat (first | apply Kd.S_alloc | apply Kd.S_drewN | apply Kd.S_drew)); exact Kd.S_mono HO_3.out (fun _ hk => ⟨hk.2, hk.1.2⟩)⟩, ⟨HO379.out⟩, ⟨by (with_reducible repeat (first | refine blk_drewN ?_ _ | refine blk_drew ?_ | refine blk_alloc ?_ _)); exact BK376.out⟩, ⟨by repeat (first | (with_reducible first | exact HB.out | apply below_alloc | apply pw_below_drewN | apply below_drew1 | refine below_set ?_ GE376.out) | exact HB.out)⟩⟩
      case round =>
       clear H'
       try clear p2
       try clear c3
       try clear p3
       try clear q3
       try clear hx3
       try clear c4
       try clear c4b0
       try clear c5
       try clear c5b0
       try clear c6
       try clear c6b0
       try clear p6
       try clear hcz11_0
       try clear hcz11_1
       try clear hcz11_2
       try clear hcz11_3
       try clear hcz8_0
       try clear hcz8_1
       try clear hcz8_2
       try clear hcz8_3
       try clear hfz11_0
       try clear hfz11_1
       try clear hfz11_2
       try clear hfz11_3
       try clear hfz8_0
       try clear hfz8_1
       try clear hfz8_2
       try clear hfz8_3
       try clear hx375_0
       try clear hx375_1
       try clear hx375_2
       try clear hx375_3
       try clear p2
       try clear p375
       try clear q375
       obtain ⟨x7_2, x8_2, rfl, HA, HK2, HO_3, HO_7, BK376, HB⟩ := hrel
       cases gk with
       | zero => exact absurd HA.out (by simp [spec_turned.l1])
       | succ k2 =>
        have H := HA.out
        clear HA
        simp only [spec_turned.l1] at H
        by_cases c12 : x8_2 ≥ 0
        ·rw [if_pos c12] at H
         have c12b0 : decide (0 ≤ x8_2) = true := decide_eq_true c12
         clear c12
         by_cases c13 : 0 ≤ x8_2
         ·rw [if_pos c13] at H
          have c13b0 : decide (0 ≤ x8_2) = true := decide_eq_true c13
          clear c13
          by_cases c14 : x8_2 < (((rd_T39 l0 x5_1).f1).length : Int)
          ·rw [if_pos c14] at H
           have c14b0 : decide (x8_2 < (((rd_T39 l0 x5_1).f1).length : Int)) = true := decide_eq_true c14
           clear c14
           by_cases c15 : x7_2.length < 17592186044416
           ·rw [if_pos c15] at H
            have LMc15 := m0 c15
            clear c15
            obtain ⟨y381, hy381⟩ : ∃ y_ : List Int, y_ = (x7_2 ++ [wrap64 ((wrap64 ((l0.length : Int) - 1)) - (rd ((rd_T39 l0 x5_1).f1) x8_2))]) := ⟨_, rfl⟩
            replace H : (spec_turned.l1 k2 l0 x3_1 (wrap64 ((l0.length : Int) - 1)) x5_1 y381 (wrap64 (x8_2 - 1)) ((rd_T39 l0 x5_1).f0) ((rd_T39 l0 x5_1).f1) ((rd_T39 l0 x5_1).f2) ((rd_T39 l0 x5_1).f3)) = some r := by first | (rw [hy381]; with_reducible exact H) | (have H2_ := (Option.bind_some _ _).symm.trans H; rw [hy381]; with_reducible exact H2_) | (have H2_ := (Option.bind_some _ _).symm.trans H; with_reducible exact H2_) | with_reducible exact H | (rw [hy381]; exact H) | exact H
            have Ny381 := m0 hy381
            clear hy381
            have H' := m0 H
            clear H
            have hcz16_0 : wr.cell? ⟨gb376, 0, none⟩ = some (.int .i64 ((rd_T39 l0 x5_1).f0)) := (blk_cell BK376.out 0).trans rfl
            have hcz16_1 : wr.cell? ⟨gb376, 1, none⟩ = some (.slice A375_1 ((rd_T39 l0 x5_1).f1).length c375_1) := (blk_cell BK376.out 1).trans rfl
            have hcz16_2 : wr.cell? ⟨gb376, 2, none⟩ = some (.int .i64 ((rd_T39 l0 x5_1).f2)) := (blk_cell BK376.out 2).trans rfl
            have hcz16_3 : wr.cell? ⟨gb376, 3, none⟩ = some (.int .i64 ((rd_T39 l0 x5_1).f3)) := (blk_cell BK376.out 3).trans rfl
            have hfz16_0 := blk_frozen BK376.out 0
            have hfz16_1 := blk_frozen BK376.out 1
            have hfz16_2 := blk_frozen BK376.out 2
            have hfz16_3 := blk_frozen BK376.out 3
            have p380 : 0 ≤ (x8_2 : Int) := of_decide_eq_true (by first | (with_reducible assumption) | assumption)
            have q380 : x8_2 < (((rd_T39 l0 x5_1).f1).length : Int) := of_decide_eq_true (by first | (with_reducible assumption) | assumption)
            obtain ⟨ad380, e380, hx380_0⟩ := Kd.at_int HR375_1.out x8_2 p380 q380
            cases e380
            (try replace hx380_0 := (HB.out.cell (World.block_lt_of_cell? w _ hx380_0)).trans hx380_0)
            replace p380 := eq_true p380
            replace q380 := eq_true q380
            go_wp2_with (first | ((with_reducible refine gate_builtin (b := .append) (xs := #[.tmp 31, .tmp 39]) rfl ?_); at_builtin; refine Kd.R_append (Kd.int .i64) (w0 := w) w.heap.size rfl (.tmp 31) (.tmp 39) 23 3 (.int .i64 0) 8 rfl Tryd.underlying23 info3 rfl (by decide) (by omega) u7 x7_2 (wrap64 ((wrap64 ((l0.length : Int) - 1)) - (rd ((rd_T39 l0 x5_1).f1) x8_2))) [.int .i64 (wrap64 ((wrap64 ((l0.length : Int) - 1)) - (rd ((rd_T39 l0 x5_1).f1) x8_2)))] (fun _ => True) (fun _ => False) rfl rfl ?aP (fun _ hk => hk.elim) ?aF ?aO ?aB ?aS ?aL ?_; (case aP => exact rfl); (case aB => exact (by repeat (first | (with_reducible first | exact HB.out | apply below_alloc | apply pw_below_drewN | apply below_drew1 | refine below_set ?_ GE376.out) | exact HB.out))); (case aF => exact (fun _ _ => trivial)); (case aO => exact HO_7.out); (case aS => exact (below_size (by repeat (first | (with_reducible first | exact HB.out | apply below_alloc | apply pw_below_drewN | apply below_drew1 | refine below_set ?_ GE376.out) | exact HB.out)))); (case aL => have := LMc15.out; omega); intro v382 w17 ho hb hg hat; rw [← Ny381.out] at ho; have n0_ := m0 (Kd.S_after (ok := (fun k_ => k_ ≠ gb376)) (Kd.S_mono HO_3.out (fun _ hk => ⟨hk.2, hk.1⟩)) hg hat); have n1_ := m0 (blk_grown (g := gb376) (o := .cells #[.int .i64 ((rd_T39 l0 x5_1).f0), .slice (some ad380) ((rd_T39 l0 x5_1).f1).length c375_1, .int .i64 ((rd_T39 l0 x5_1).f2), .int .i64 ((rd_T39 l0 x5_1).f3)] 39 (0, 0)) (by (with_reducible repeat (first | refine blk_drewN ?_ _ | refine blk_drew ?_ | refine blk_alloc ?_ _)); exact BK376.out) hg (Kd.R_ne HO_7.out BK376.out (by decide))); have n2_ := m0 (hb); have n3_ := m0 (ho); clear HO_3; clear BK376; clear HB; clear HO_7; have HO_3 := n0_; have BK376 := n1_; have HB := n2_; have HO383 := n3_; clear n0_ n1_ n2_ n3_; clear ho hb hg hat))
            go_roundg k2
            case measure => have := HK1.out; have := HK2.out; omega
            case rel => exact ⟨(y381), (wrap64 (x8_2 - 1)), (by first | rfl | (simp; done) | (simp [*]; done)), H', ⟨by have := HK1.out; have := HK2.out; omega⟩, ⟨by (with_reducible repeat (first | apply Kd.S_alloc | apply Kd.S_drewN | apply Kd.S_drew)); exact Kd.S_mono HO_3.out (fun _ hk => ⟨hk.2, hk.1⟩)⟩, ⟨HO383.out⟩, ⟨by (with_reducible repeat (first | refine blk_drewN ?_ _ | refine blk_drew ?_ | refine blk_alloc ?_ _)); exact BK376.out⟩, ⟨by repeat (first | (with_reducible first | exact HB.out | apply below_alloc | apply pw_below_drewN | apply below_drew1 | refine below_set ?_ GE376.out) | exact HB.out)⟩⟩
           ·rw [if_neg c15] at H
            exact absurd H (by simp)
          ·rw [if_neg c14] at H
           exact absurd H (by simp)
         ·rw [if_neg c13] at H
          exact absurd H (by simp)
        ·rw [if_neg c12] at H
         have c12b0 : decide (0 ≤ x8_2) = false := decide_eq_false c12
         clear c12
         by_cases c18 : x3_1.length < 2932031007402
         ·rw [if_pos c18] at H
          have LMc18 := m0 c18
          clear c18
          obtain ⟨y384, hy384⟩ : ∃ y_ : List (S39), y_ = (x3_1 ++ [(⟨((rd_T39 l0 x5_1).f0), x7_2, ((rd_T39 l0 x5_1).f2), ((rd_T39 l0 x5_1).f3)⟩ : S39)]) := ⟨_, rfl⟩
          replace H : (spec_turned.l0 k2 l0 y384 (wrap64 ((l0.length : Int) - 1)) (wrap64 (x5_1 - 1))) = some r := by first | (rw [hy384]; with_reducible exact H) | (have H2_ := (Option.bind_some _ _).symm.trans H; rw [hy384]; with_reducible exact H2_) | (have H2_ := (Option.bind_some _ _).symm.trans H; with_reducible exact H2_) | with_reducible exact H | (rw [hy384]; exact H) | exact H
          have Ny384 := m0 hy384
          clear hy384
          have H' := m0 H
          clear H
          obtain ⟨Ao19, co19, eo19⟩ := Kd.R_slice HO_7.out
          subst eo19
          have hcz20_0 : wr.cell? ⟨gb376, 0, none⟩ = some (.int .i64 ((rd_T39 l0 x5_1).f0)) := (blk_cell BK376.out 0).trans rfl
          have hcz20_1 : wr.cell? ⟨gb376, 1, none⟩ = some (.slice A375_1 ((rd_T39 l0 x5_1).f1).length c375_1) := (blk_cell BK376.out 1).trans rfl
          have hcz20_2 : wr.cell? ⟨gb376, 2, none⟩ = some (.int .i64 ((rd_T39 l0 x5_1).f2)) := (blk_cell BK376.out 2).trans rfl
          have hcz20_3 : wr.cell? ⟨gb376, 3, none⟩ = some (.int .i64 ((rd_T39 l0 x5_1).f3)) := (blk_cell BK376.out 3).trans rfl
          have hfz20_0 := blk_frozen BK376.out 0
          have hfz20_1 := blk_frozen BK376.out 1
          have hfz20_2 := blk_frozen BK376.out 2
          have hfz20_3 := blk_frozen BK376.out 3
          go_wp2_with (first | ((with_reducible refine gate_store (t := 23) (p := 42) rfl ?_); refine store_event (t := 23) (p := 42) (v := ?vo_w21) (w1 := (wr.setCell ⟨gb376, 1, none⟩ (.slice Ao19 x7_2.length co19))) ?hg ?ho ?hn ?hr ?_; (case ho => rfl); (case hg => rfl); (case hn => rfl); (case hr => first | (go_simp; done) | (go_simp; rfl)); intro w21 hw; have n0_ : Aside0 (Kd.S k39 39 w21 w.heap.size (fun k_ => some k_ ≠ (.slice Ao19 x7_2.length co19 : Value).ownBlock ∧ k_ ≠ gb376) u3 x3_1) := ⟨(by rw [hw]; exact (by (with_reducible repeat (first | apply Kd.S_alloc | apply Kd.S_drewN | apply Kd.S_drew)); exact Kd.S_mono (Kd.S_far (p := ⟨gb376, 1, none⟩) (Kd.S_mono HO_3.out (fun k_ hk => (⟨hk, hk.2⟩ : _ ∧ k_ ≠ gb376))) (fun _ hk => hk.2) (.slice Ao19 x7_2.length co19)) (fun _ hk => ⟨hk.1.1, hk.1.2⟩)))⟩; have n1_ : Aside0 (Kd.R (Kd.int .i64) 3 w21 w.heap.size (fun _ => True) (.slice Ao19 x7_2.length co19) x7_2) := ⟨(by rw [hw]; exact (Kd.R_mono (Kd.R_far (p := ⟨gb376, 1, none⟩) (Kd.R_types HO_7.out BK376.out (by decide)) (fun _ hk => hk.2) (.slice Ao19 x7_2.length co19)) (fun _ hk => trivial)))⟩; have n2_ : Aside0 (w21.heap[gb376]? = some (.cells #[.int .i64 ((rd_T39 l0 x5_1).f0), .slice Ao19 x7_2.length co19, .int .i64 ((rd_T39 l0 x5_1).f2), .int .i64 ((rd_T39 l0 x5_1).f3)] 39 (0, 0))) := ⟨(by rw [hw]; exact (by (with_reducible repeat (first | refine blk_drewN ?_ _ | refine blk_drew ?_ | refine blk_alloc ?_ _)); refine blk_put (cs := #[.int .i64 ((rd_T39 l0 x5_1).f0), .slice A375_1 ((rd_T39 l0 x5_1).f1).length c375_1, .int .i64 ((rd_T39 l0 x5_1).f2), .int .i64 ((rd_T39 l0 x5_1).f3)]) ?_ 1 _ rfl; (with_reducible repeat (first | refine blk_drewN ?_ _ | refine blk_drew ?_ | refine blk_alloc ?_ _)); exact BK376.out))⟩; have n3_ : Aside0 (Below w.heap.size w w21) := ⟨(by rw [hw]; exact (by repeat (first | (with_reducible first | exact HB.out | apply below_alloc | apply pw_below_drewN | apply below_drew1 | refine below_set ?_ GE376.out) | exact HB.out)))⟩; clear hw; clear HO_3; clear HO_7; clear BK376; clear HB; have HO_3 := n0_; have HO_7 := n1_; have BK376 := n2_; have HB := n3_; clear n0_ n1_ n2_ n3_; have hcz22_0 : w21.cell? ⟨gb376, 0, none⟩ = some (.int .i64 ((rd_T39 l0 x5_1).f0)) := (blk_cell BK376.out 0).trans rfl; have hcz22_1 : w21.cell? ⟨gb376, 1, none⟩ = some (.slice Ao19 x7_2.length co19) := (blk_cell BK376.out 1).trans rfl; have hcz22_2 : w21.cell? ⟨gb376, 2, none⟩ = some (.int .i64 ((rd_T39 l0 x5_1).f2)) := (blk_cell BK376.out 2).trans rfl; have hcz22_3 : w21.cell? ⟨gb376, 3, none⟩ = some (.int .i64 ((rd_T39 l0 x5_1).f3)) := (blk_cell BK376.out 3).trans rfl; have hfz22_0 := blk_frozen BK376.out 0; have hfz22_1 := blk_frozen BK376.out 1; have hfz22_2 := blk_frozen BK376.out 2; have hfz22_3 := blk_frozen BK376.out 3) | ((with_reducible refine gate_builtin (b := .append) (xs := #[.tmp 43, .tmp 45]) rfl ?_); at_builtin; refine Kd.S_append k39 (w0 := w) w.heap.size rfl (.tmp 43) (.tmp 45) 26 39 (.agg #[(.int .i64 0), (.slice none 0 0), (.int .i64 0), (.int .i64 0)]) 48 rfl Tryd.underlying26 info39 rfl (by decide) (by omega) u3 x3_1 (⟨((rd_T39 l0 x5_1).f0), x7_2, ((rd_T39 l0 x5_1).f2), ((rd_T39 l0 x5_1).f3)⟩ : S39) [.int .i64 ((rd_T39 l0 x5_1).f0), .slice Ao19 x7_2.length co19, .int .i64 ((rd_T39 l0 x5_1).f2), .int .i64 ((rd_T39 l0 x5_1).f3)] (fun k_ => k_ ≠ gb376) (fun k_ => some k_ = (.slice Ao19 x7_2.length co19 : Value).ownBlock) rfl rfl ?aP (fun k_ hk_ => ((Kd.R_mono (ok' := fun k_ => ((fun k_ => k_ ≠ gb376)) k_ ∧ some k_ ≠ (u3 : Value).ownBlock) (Kd.R_types (Kd.R_apart' (HO_7.out) (Kd.S_typed HO_3.out) (by decide)) BK376.out (by decide)) (fun k_ hk => ⟨hk.2, hk.1.2⟩))).1 k_ hk_.symm) ?aF ?aO ?aB ?aS ?aL ?_; (case aP => exact k39_mkM _ _ _ (⟨((rd_T39 l0 x5_1).f0), x7_2, ((rd_T39 l0 x5_1).f2), ((rd_T39 l0 x5_1).f3)⟩ : S39) (Kd.R_mono (Kd.R_tight rfl (Kd.R_mono (ok' := fun k_ => ((fun k_ => k_ ≠ gb376)) k_ ∧ some k_ ≠ (u3 : Value).ownBlock) (Kd.R_types (Kd.R_apart' (HO_7.out) (Kd.S_typed HO_3.out) (by decide)) BK376.out (by decide)) (fun k_ hk => ⟨hk.2, hk.1.2⟩))) (fun _ h_ => h_))); (case aB => exact (by repeat (first | (with_reducible first | exact HB.out | apply below_alloc | apply pw_below_drewN | apply below_drew1 | refine below_set ?_ GE376.out) | exact HB.out))); (case aF => exact (fun k_ hk => Kd.freshB (g := gb376) (o := .cells #[.int .i64 ((rd_T39 l0 x5_1).f0), .slice Ao19 x7_2.length co19, .int .i64 ((rd_T39 l0 x5_1).f2), .int .i64 ((rd_T39 l0 x5_1).f3)] 39 (0, 0)) (by (with_reducible repeat (first | refine blk_drewN ?_ _ | refine blk_drew ?_ | refine blk_alloc ?_ _)); exact BK376.out) k_ hk)); (case aO => exact (Kd.S_mono HO_3.out (fun k_ hk => ⟨hk.2, fun e_ => hk.1 e_⟩))); (case aS => exact (below_size (by repeat (first | (with_reducible first | exact HB.out | apply below_alloc | apply pw_below_drewN | apply below_drew1 | refine below_set ?_ GE376.out) | exact HB.out)))); (case aL => have := LMc18.out; omega); intro v385 w23 ho hb hg hat; rw [← Ny384.out] at ho; have n0_ := m0 (blk_grown (g := gb376) (o := .cells #[.int .i64 ((rd_T39 l0 x5_1).f0), .slice Ao19 x7_2.length co19, .int .i64 ((rd_T39 l0 x5_1).f2), .int .i64 ((rd_T39 l0 x5_1).f3)] 39 (0, 0)) (by (with_reducible repeat (first | refine blk_drewN ?_ _ | refine blk_drew ?_ | refine blk_alloc ?_ _)); exact BK376.out) hg (Kd.S_away HO_3.out (fun _ hk => hk.2))); have n1_ := m0 (hb); have n2_ := m0 (ho); clear BK376; clear HB; clear HO_3; clear HO_7; have BK376 := n0_; have HB := n1_; have HO386 := n2_; clear n0_ n1_ n2_; clear ho hb hg hat))
          go_roundg k2
          case measure => have := HK1.out; have := HK2.out; omega
          case rel => exact ⟨(y384), (wrap64 (x5_1 - 1)), (by first | rfl | (simp; done) | (simp [*]; done)), H', ⟨by have := HK1.out; have := HK2.out; omega⟩, ⟨by (with_reducible repeat (first | apply Kd.S_alloc | apply Kd.S_drewN | apply Kd.S_drew)); exact Kd.S_mono HO386.out (fun _ hk => trivial)⟩, ⟨by repeat (first | (with_reducible first | exact HB.out | apply below_alloc | apply pw_below_drewN | apply below_drew1 | refine below_set ?_ GE376.out) | exact HB.out)⟩⟩
         ·rw [if_neg c18] at H
          exact absurd H (by simp)
     ·rw [if_neg c6] at H
      exact absurd H (by simp)
    ·rw [if_neg c5] at H
     exact absurd H (by simp)
   ·rw [if_neg c4] at H
    have c4b0 : decide (0 ≤ x5_1) = false := decide_eq_false c4
    clear c4
    obtain rfl := Option.some.inj H
    go_wp2
    go_ret
    exact ⟨_, by first | rfl | (simp [errW_none, errW_some] <;> rfl) | (simp [*, errW_none, errW_some] <;> rfl), HO_3.out, HB.out⟩
end Go.Proofs.YtimbfcedigaffaaDoor.P
end
section
namespace Go.Proofs.YtimbfcedigaffaaDoor.P
open Go.RowKit Go.Proofs.YtimbfcedigaffaaDoorW.PrintWords Go.Proofs.YtimbfcedigaffaaDoorW.PrintLast Go.Proofs.YtimbfcedigaffaaDoorW.PrintMore
attribute [local go_sem] max2_int min2_int max_two min_two max_three min_three max_four min_four
mutual
def spec_someGraph.l0 : Nat → List (S39) → Int → List Int → Int → Option ((List (S39)) × Int)
 | 0, _, _, _, _ => none
 | k + 1, x5, x6, x1000, x1001 => if x6 > 0 then ((spec_reader_one.f k x1000 x1001 (([1, 3, 5, 2, 7, 20] : List Int))).bind fun bt398 => ((spec_reader_pick.f k x1000 bt398.2 3).bind fun bt400 => ((spec_reader_pick.f k x1000 bt400.2 4).bind fun bt402 => (spec_someGraph.l1 k x5 x6 0 x1000 bt402.2 bt398.1 (([] : List Int)) bt400.1 (wrap64 (1 + bt402.1)))))) else (if (x5.length : Int) > 1 then ((spec_reader_pick.f k x1000 x1001 4).bind fun bt416 => (if bt416.1 = 0 then ((spec_turned.f k x5).bind fun t418 => (some (t418, bt416.2))) else (some (x5, bt416.2)))) else (some (x5, x1001)))
def spec_someGraph.l1 : Nat → List (S39) → Int → Int → List Int → Int → Int → List Int → Int → Int → Option ((List (S39)) × Int)
 | 0, _, _, _, _, _, _, _, _, _ => none
 | k + 1, x5, x6, x8, x1000, x1001, x408000, x408001, x408002, x408003 => if x8 < (x5.length : Int) then ((spec_reader_pick.f k x1000 x1001 3).bind fun bt408 => (if bt408.1 = 0 then (if x408001.length < 17592186044416 then (spec_someGraph.l1 k x5 x6 (wrap64 (x8 + 1)) x1000 bt408.2 x408000 (x408001 ++ [x8]) x408002 x408003) else (none)) else (spec_someGraph.l1 k x5 x6 (wrap64 (x8 + 1)) x1000 bt408.2 x408000 x408001 x408002 x408003))) else (if x5.length < 2932031007402 then (spec_someGraph.l0 k (x5 ++ [(⟨x408000, x408001, x408002, x408003⟩ : S39)]) (wrap64 (x6 - 1)) x1000 x1001) else (none))
end
def spec_someGraph.f (k : Nat) (s0_0 : List Int) (s0_1 : Int) (a1 : Int) : Option ((List (S39)) × Int) := (spec_reader_one.f k s0_0 s0_1 (([4, 5, 3, 6, 2, 1, 0, 8] : List Int))).bind fun bt393 => (spec_someGraph.l0 k (([] : List (S39))) (mn a1 bt393.1) s0_0 bt393.2)
theorem spec_someGraph.mono_l : ∀ k, (∀ y0 y1 y2 y3, LeO (spec_someGraph.l0 k y0 y1 y2 y3) (spec_someGraph.l0 (k + 1) y0 y1 y2 y3)) ∧ (∀ y0 y1 y2 y3 y4 y5 y6 y7 y8, LeO (spec_someGraph.l1 k y0 y1 y2 y3 y4 y5 y6 y7 y8) (spec_someGraph.l1 (k + 1) y0 y1 y2 y3 y4 y5 y6 y7 y8))
 | 0 => ⟨fun _ _ _ _ r h => by simp [spec_someGraph.l0] at h, fun _ _ _ _ _ _ _ _ _ r h => by simp [spec_someGraph.l1] at h⟩
 | k + 1 => by
  obtain ⟨ih0, ih1⟩ := spec_someGraph.mono_l k
  refine ⟨?_, ?_⟩
  ·intro y0 y1 y2 y3
   unfold spec_someGraph.l0
   repeat' first
   | (with_reducible exact ih0 _ _ _ _)
   | (with_reducible exact ih1 _ _ _ _ _ _ _ _ _)
   | (with_reducible exact spec_reader_one.mono _ _ _ _)
   | (with_reducible exact spec_reader_pick.mono _ _ _ _)
   | (with_reducible exact spec_turned.mono _ _)
   | (with_reducible exact LeO.refl _)
   | (with_reducible exact LeO.none _)
   | (with_reducible refine LeO.ite ?_ ?_)
   | (with_reducible refine LeO.bind ?_ (fun _ => ?_))
   | exact ih0 _ _ _ _
   | exact ih1 _ _ _ _ _ _ _ _ _
   | exact spec_reader_one.mono _ _ _ _
   | exact spec_reader_pick.mono _ _ _ _
   | exact spec_turned.mono _ _
   | exact LeO.none _
   | refine LeO.ite ?_ ?_
   | refine LeO.bind ?_ (fun _ => ?_)
  ·intro y0 y1 y2 y3 y4 y5 y6 y7 y8
   unfold spec_someGraph.l1
   repeat' first
   | (with_reducible exact ih0 _ _ _ _)
   | (with_reducible exact ih1 _ _ _ _ _ _ _ _ _)
   | (with_reducible exact spec_reader_one.mono _ _ _ _)
   | (with_reducible exact spec_reader_pick.mono _ _ _ _)
   | (with_reducible exact spec_turned.mono _ _)
   | (with_reducible exact LeO.refl _)
   | (with_reducible exact LeO.none _)
   | (with_reducible refine LeO.ite ?_ ?_)
   | (with_reducible refine LeO.bind ?_ (fun _ => ?_))
   | exact ih0 _ _ _ _
   | exact ih1 _ _ _ _ _ _ _ _ _
   | exact spec_reader_one.mono _ _ _ _
   | exact spec_reader_pick.mono _ _ _ _
   | exact spec_turned.mono _ _
   | exact LeO.none _
   | refine LeO.ite ?_ ?_
   | refine LeO.bind ?_ (fun _ => ?_)
theorem spec_someGraph.mono : ∀ a0 a1 a2 k, LeO (spec_someGraph.f k a0 a1 a2) (spec_someGraph.f (k + 1) a0 a1 a2) := by
 intro a0 a1 a2 k
 obtain ⟨ih0, ih1⟩ := spec_someGraph.mono_l k
 unfold spec_someGraph.f
 repeat' first
   | (with_reducible exact ih0 _ _ _ _)
   | (with_reducible exact ih1 _ _ _ _ _ _ _ _ _)
   | (with_reducible exact spec_reader_one.mono _ _ _ _)
   | (with_reducible exact spec_reader_pick.mono _ _ _ _)
   | (with_reducible exact spec_turned.mono _ _)
   | (with_reducible exact LeO.refl _)
   | (with_reducible exact LeO.none _)
   | (with_reducible refine LeO.ite ?_ ?_)
   | (with_reducible refine LeO.bind ?_ (fun _ => ?_))
   | exact ih0 _ _ _ _
   | exact ih1 _ _ _ _ _ _ _ _ _
   | exact spec_reader_one.mono _ _ _ _
   | exact spec_reader_pick.mono _ _ _ _
   | exact spec_turned.mono _ _
   | exact LeO.none _
   | refine LeO.ite ?_ ?_
   | refine LeO.bind ?_ (fun _ => ?_)
set_option maxHeartbeats 8000000 in
set_option maxRecDepth 100000 in
theorem spec_someGraph.calls (k : Nat) (g : Nat) (s0_0 : List Int) (s0_1 : Int) (a1 : Int) (r1 : List (S39)) (r2 : Int) (w0 w : World) (hI : IsS80 w0 w g s0_0 s0_1) (hB : Below w0.heap.size w0 w) (h : spec_someGraph.f k s0_0 s0_1 a1 = some (r1, r2)) :
  Calls Tryd.prog 52 #[.pointer (some ⟨g, 0, none⟩), .int .i64 a1] w fun e w' => ∃ v0_ : Value, e = .returned (v0_) ∧ Kd.S k39 39 w' w.heap.size (fun _ => True) v0_ r1 ∧ IsS80 w0 w' g s0_0 r2 ∧ Below w0.heap.size w0 w' ∧ KeepBut w w' g none := by
 have hu39 := Tryd.underlying39
 have HI0 := m0 hI
 have HK := m0 (KeepBut.refl w g none)
 have HL := m0 hB.size
 clear hI
 have HW0 := m0 hB.size
 have HB := m0 hB
 clear hB
 have H : ((spec_reader_one.f k s0_0 s0_1 (([4, 5, 3, 6, 2, 1, 0, 8] : List Int))).bind fun bt393 => (spec_someGraph.l0 k (([] : List (S39))) (mn a1 bt393.1) s0_0 bt393.2)) = some (r1, r2) := h
 clear h
 obtain ⟨y387, hy387⟩ : ∃ y_ : List (S39), y_ = (([] : List (S39))) := ⟨_, rfl⟩
 replace H : ((spec_reader_one.f k s0_0 s0_1 (([4, 5, 3, 6, 2, 1, 0, 8] : List Int))).bind fun bt393 => (spec_someGraph.l0 k y387 (mn a1 bt393.1) s0_0 bt393.2)) = some (r1, r2) := by first | (rw [hy387]; with_reducible exact H) | (have H2_ := (Option.bind_some _ _).symm.trans H; rw [hy387]; with_reducible exact H2_) | (have H2_ := (Option.bind_some _ _).symm.trans H; with_reducible exact H2_) | with_reducible exact H | (rw [hy387]; exact H) | exact H
 have Ny387 := m0 hy387
 clear hy387
 obtain ⟨y390, hy390⟩ : ∃ y_ : List Int, y_ = (([4, 5, 3, 6, 2, 1, 0, 8] : List Int)) := ⟨_, rfl⟩
 replace H : ((spec_reader_one.f k s0_0 s0_1 y390).bind fun bt393 => (spec_someGraph.l0 k y387 (mn a1 bt393.1) s0_0 bt393.2)) = some (r1, r2) := by first | (rw [hy390]; with_reducible exact H) | (have H2_ := (Option.bind_some _ _).symm.trans H; rw [hy390]; with_reducible exact H2_) | (have H2_ := (Option.bind_some _ _).symm.trans H; with_reducible exact H2_) | with_reducible exact H | (rw [hy390]; exact H) | exact H
 have Ny390 := m0 hy390
 clear hy390
 replace H := Option.bind_eq_some_iff.mp H
 obtain ⟨⟨t393, t394⟩, A30, H⟩ := H
 replace H : (spec_someGraph.l0 k y387 (mn a1 t393) s0_0 t394) = some (r1, r2) := H
 have A3 := m0 A30
 clear A30
 obtain ⟨ji4, hji4⟩ : ∃ j_ : Int, (mn a1 t393) = j_ := ⟨_, rfl⟩
 replace H : (spec_someGraph.l0 k y387 ji4 s0_0 t394) = some (r1, r2) := by first | (rw [hji4] at H; exact H) | (simp only [hji4] at H ⊢; exact H)
 (try rw [hji4] at A3)
 have hji4_ : (if t393 < a1 then t393 else a1) = ji4 := hji4
 have H' := m0 H
 clear H
 go_enter Tryd.func52, Tryd.ntmps52
 go_wp2_with (first | ((with_reducible refine gate_dst (N := 9) rfl ?_); refine Kd.S_lit k39 _ 39 ?hg (N := 9) ?hd (xs := ([] : List (S39))) (inner := []) (ok := fun _ => True) (okp := fun _ => True) ?hr ?hp (fun _ hk => hk) trivial (Below.refl _ _) (Nat.le_refl _) (by simp) ?_; (case hd => rfl); (case hg => rfl); (case hr => first | (go_simp; done) | (go_simp; rfl)); (case hp => exact (Reps.none _ _)); intro v388 w5 ho6 hb hg_ hnew_; clear hg_ hnew_; (first | rw [← Ny387.out] at ho6 | (simp only [Int.reduceToNat] at ho6; rw [← Ny387.out] at ho6)); have n0_ := m0 (Kd.S_lower ho6 (keep_size (w := w) (g := g) (row := none) HK.out)); have n1_ := m0 (IsS80.below HI0.out hb); have n2_ := m0 (KeepBut.trans HK.out (KeepBut.of_below hb g none) (.inl rfl)); have n3_ := m0 (below_step HB.out hb); clear HI0; clear HK; clear HB; have HO389 := n0_; have HI0 := n1_; have HK := n2_; have HB := n3_; clear n0_ n1_ n2_ n3_; clear hb ho6) | ((with_reducible refine gate_dst (N := 12) rfl ?_); refine Kd.R_lit (Kd.int .i64) _ 3 ?hg (N := 12) ?hd (xs := ([4, 5, 3, 6, 2, 1, 0, 8] : List Int)) (inner := [.int .i64 4, .int .i64 5, .int .i64 3, .int .i64 6, .int .i64 2, .int .i64 1, .int .i64 0, .int .i64 8]) (ok := fun _ => True) (okp := fun _ => True) ?hr ?hp (fun _ hk => hk) trivial (Below.refl _ _) (Nat.le_refl _) (by simp) ?_; (case hd => rfl); (case hg => rfl); (case hr => first | (go_simp; done) | (go_simp; rfl)); (case hp => exact (Reps.one (show Kd.M (Kd.int .i64) _ _ _ 4 [.int .i64 4] from rfl) (Reps.one (show Kd.M (Kd.int .i64) _ _ _ 5 [.int .i64 5] from rfl) (Reps.one (show Kd.M (Kd.int .i64) _ _ _ 3 [.int .i64 3] from rfl) (Reps.one (show Kd.M (Kd.int .i64) _ _ _ 6 [.int .i64 6] from rfl) (Reps.one (show Kd.M (Kd.int .i64) _ _ _ 2 [.int .i64 2] from rfl) (Reps.one (show Kd.M (Kd.int .i64) _ _ _ 1 [.int .i64 1] from rfl) (Reps.one (show Kd.M (Kd.int .i64) _ _ _ 0 [.int .i64 0] from rfl) (Reps.one (show Kd.M (Kd.int .i64) _ _ _ 8 [.int .i64 8] from rfl) (Reps.none _ _)))))))))); intro v391 w7 ho8 hb hg_ hnew_; clear hg_ hnew_; (first | rw [← Ny390.out] at ho8 | (simp only [Int.reduceToNat] at ho8; rw [← Ny390.out] at ho8)); have n0_ := m0 (Kd.S_elder' HO389.out (Kd.R_base ho8) hb); have n1_ := m0 (Kd.R_lower ho8 (keep_size (w := w) (g := g) (row := none) HK.out)); have n2_ := m0 (IsS80.below HI0.out hb); have n3_ := m0 (KeepBut.trans HK.out (KeepBut.of_below hb g none) (.inl rfl)); have n4_ := m0 (below_step HB.out hb); clear HO389; clear HI0; clear HK; clear HB; have HO389 := n0_; have HO392 := n1_; have HI0 := n2_; have HK := n3_; have HB := n4_; clear n0_ n1_ n2_ n3_ n4_; clear hb ho8; obtain ⟨Ao9, co9, eo9⟩ := Kd.R_slice HO392.out; subst eo9) | ((with_reducible refine gate_callee (f := 54) rfl ?_); refine goesL_ (some 13) rfl rfl Tryd.func54 (by kernel_rfl) rfl #[.pointer (some ⟨g, 0, none⟩), .slice Ao9 y390.length co9] rfl (by (try simp only [List.map_toArray, List.map_cons, List.map_nil]); rfl) ?_; (with_reducible refine (spec_reader_one.calls k g s0_0 s0_1 _ _ y390 t393 t394 w0 _ ?side1 ?side2 ?side3 ?side4 ?side5 A3.out).mono ?_); (case side1 => exact HI0.out); (case side2 => exact HB.out); (case side3 => exact (Kd.R_reads' HO392.out).2.2); (case side4 => exact (Kd.R_reads' HO392.out).2.1); (case side5 => exact far_slice (IsS80.own_ne HI0.out HO392.out (by decide))); rintro e w10 ⟨rfl, hi, hb, hk⟩; refine ⟨_, rfl, ?_⟩; have n0_ := m0 (Kd.S_mono (Kd.S_keep (IsS80.apartS (show IsS80 w0 _ g s0_0 s0_1 from HI0.out) HO389.out (by decide)) hk (fun _ h => h.2)) (fun _ h => h.1)); have n1_ := m0 (Kd.R_mono (Kd.R_keep (IsS80.apart (show IsS80 w0 _ g s0_0 s0_1 from HI0.out) HO392.out (by decide)) hk (fun _ h => h.2)) (fun _ h => h.1)); have n2_ := m0 (KeepBut.trans HK.out hk (.inl rfl)); have n3_ := m0 (hb); have n4_ := m0 (hi); clear HO389; clear HO392; clear HK; clear HB; clear HI0; have HO389 := n0_; have HO392 := n1_; have HK := n2_; have HB := n3_; have HI0 := n4_; clear n0_ n1_ n2_ n3_ n4_; (try clear hb); (try clear hb2); (try clear hk); (try clear hi)))
 go_loopg [5, 6] k (fun kq v5 v6 w' => ∃ (x5_1 : List (S39)) (x6_1 : Int) (x1001_1 : Int), v6 = .int .i64 x6_1 ∧ Aside0 (spec_someGraph.l0 kq x5_1 x6_1 s0_0 x1001_1 = some (r1, r2)) ∧ Aside0 (kq ≤ k) ∧ Aside0 (Kd.S k39 39 w' w.heap.size (fun _ => True) v5 x5_1) ∧ Aside0 (IsS80 w0 w' g s0_0 x1001_1) ∧ Aside0 (KeepBut w w' g none) ∧ Aside0 (Below w0.heap.size w0 w'))
 case atStart => exact ⟨(y387), (ji4), (t394), (by first | rfl | (simp; done) | (simp only [← hji4] <;> (first | rfl | simp)) | (simp [*]; done)), H', ⟨Nat.le_refl _⟩, ⟨by (with_reducible repeat (first | apply Kd.S_alloc | apply Kd.S_drewN | apply Kd.S_drew)); exact Kd.S_mono HO389.out (fun _ hk => trivial)⟩, ⟨HI0.out⟩, ⟨HK.out⟩, ⟨HB.out⟩⟩
 case round =>
  clear H'
  try clear p2
  try clear c5
  obtain ⟨x5_1, x6_1, x1001_1, rfl, HA, HK1, HO_5, HI0, HK, HB⟩ := hrel
  cases gk with
  | zero => exact absurd HA.out (by simp [spec_someGraph.l0])
  | succ k1 =>
   have H := HA.out
   clear HA
   simp only [spec_someGraph.l0] at H
   by_cases c11 : x6_1 > 0
   ·rw [if_pos c11] at H
    have c11b0 : decide (0 < x6_1) = true := decide_eq_true c11
    clear c11
    obtain ⟨y395, hy395⟩ : ∃ y_ : List Int, y_ = (([1, 3, 5, 2, 7, 20] : List Int)) := ⟨_, rfl⟩
    replace H : ((spec_reader_one.f k1 s0_0 x1001_1 y395).bind fun bt398 => ((spec_reader_pick.f k1 s0_0 bt398.2 3).bind fun bt400 => ((spec_reader_pick.f k1 s0_0 bt400.2 4).bind fun bt402 => (spec_someGraph.l1 k1 x5_1 x6_1 0 s0_0 bt402.2 bt398.1 (([] : List Int)) bt400.1 (wrap64 (1 + bt402.1)))))) = some (r1, r2) := by first | (rw [hy395]; with_reducible exact H) | (have H2_ := (Option.bind_some _ _).symm.trans H; rw [hy395]; with_reducible exact H2_) | (have H2_ := (Option.bind_some _ _).symm.trans H; with_reducible exact H2_) | with_reducible exact H | (rw [hy395]; exact H) | exact H
    have Ny395 := m0 hy395
    clear hy395
    replace H := Option.bind_eq_some_iff.mp H
    obtain ⟨⟨t398, t399⟩, A120, H⟩ := H
    replace H : ((spec_reader_pick.f k1 s0_0 t399 3).bind fun bt400 => ((spec_reader_pick.f k1 s0_0 bt400.2 4).bind fun bt402 => (spec_someGraph.l1 k1 x5_1 x6_1 0 s0_0 bt402.2 t398 (([] : List Int)) bt400.1 (wrap64 (1 + bt402.1))))) = some (r1, r2) := H
    have A12 := m0 A120
    clear A120
    replace H := Option.bind_eq_some_iff.mp H
    obtain ⟨⟨t400, t401⟩, A130, H⟩ := H
    replace H : ((spec_reader_pick.f k1 s0_0 t401 4).bind fun bt402 => (spec_someGraph.l1 k1 x5_1 x6_1 0 s0_0 bt402.2 t398 (([] : List Int)) t400 (wrap64 (1 + bt402.1)))) = some (r1, r2) := H
    have A13 := m0 A130
    clear A130
    replace H := Option.bind_eq_some_iff.mp H
    obtain ⟨⟨t402, t403⟩, A140, H⟩ := H
    replace H : (spec_someGraph.l1 k1 x5_1 x6_1 0 s0_0 t403 t398 (([] : List Int)) t400 (wrap64 (1 + t402))) = some (r1, r2) := H
    have A14 := m0 A140
    clear A140
    obtain ⟨y404, hy404⟩ : ∃ y_ : List Int, y_ = (([] : List Int)) := ⟨_, rfl⟩
    replace H : (spec_someGraph.l1 k1 x5_1 x6_1 0 s0_0 t403 t398 y404 t400 (wrap64 (1 + t402))) = some (r1, r2) := by first | (rw [hy404]; with_reducible exact H) | (have H2_ := (Option.bind_some _ _).symm.trans H; rw [hy404]; with_reducible exact H2_) | (have H2_ := (Option.bind_some _ _).symm.trans H; with_reducible exact H2_) | with_reducible exact H | (rw [hy404]; exact H) | exact H
    have Ny404 := m0 hy404
    clear hy404
    have H' := m0 H
    clear H
    go_wp2_with (first | ((with_reducible refine gate_dst (N := 20) rfl ?_); refine Kd.R_lit (Kd.int .i64) _ 3 ?hg (N := 20) ?hd (xs := ([1, 3, 5, 2, 7, 20] : List Int)) (inner := [.int .i64 1, .int .i64 3, .int .i64 5, .int .i64 2, .int .i64 7, .int .i64 20]) (ok := fun _ => True) (okp := fun _ => True) ?hr ?hp (fun _ hk => hk) trivial (Below.refl _ _) (Nat.le_refl _) (by simp) ?_; (case hd => rfl); (case hg => rfl); (case hr => first | (go_simp; done) | (go_simp; rfl)); (case hp => exact (Reps.one (show Kd.M (Kd.int .i64) _ _ _ 1 [.int .i64 1] from rfl) (Reps.one (show Kd.M (Kd.int .i64) _ _ _ 3 [.int .i64 3] from rfl) (Reps.one (show Kd.M (Kd.int .i64) _ _ _ 5 [.int .i64 5] from rfl) (Reps.one (show Kd.M (Kd.int .i64) _ _ _ 2 [.int .i64 2] from rfl) (Reps.one (show Kd.M (Kd.int .i64) _ _ _ 7 [.int .i64 7] from rfl) (Reps.one (show Kd.M (Kd.int .i64) _ _ _ 20 [.int .i64 20] from rfl) (Reps.none _ _)))))))); intro v396 w15 ho16 hb hg_ hnew_; clear hg_ hnew_; (first | rw [← Ny395.out] at ho16 | (simp only [Int.reduceToNat] at ho16; rw [← Ny395.out] at ho16)); have n0_ := m0 (Kd.S_elder' HO_5.out (Kd.R_base ho16) hb); have n1_ := m0 (Kd.R_lower ho16 (keep_size (w := w) (g := g) (row := none) HK.out)); have n2_ := m0 (IsS80.below HI0.out hb); have n3_ := m0 (KeepBut.trans HK.out (KeepBut.of_below hb g none) (.inl rfl)); have n4_ := m0 (below_step HB.out hb); clear HO_5; clear HI0; clear HK; clear HB; have HO_5 := n0_; have HO397 := n1_; have HI0 := n2_; have HK := n3_; have HB := n4_; clear n0_ n1_ n2_ n3_ n4_; clear hb ho16; obtain ⟨Ao17, co17, eo17⟩ := Kd.R_slice HO397.out; subst eo17) | ((with_reducible refine gate_callee (f := 54) rfl ?_); refine goesL_ (some 21) rfl rfl Tryd.func54 (by kernel_rfl) rfl #[.pointer (some ⟨g, 0, none⟩), .slice Ao17 y395.length co17] rfl (by (try simp only [List.map_toArray, List.map_cons, List.map_nil]); rfl) ?_; (with_reducible refine (spec_reader_one.calls k1 g s0_0 x1001_1 _ _ y395 t398 t399 w0 _ ?side1 ?side2 ?side3 ?side4 ?side5 A12.out).mono ?_); (case side1 => exact HI0.out); (case side2 => exact HB.out); (case side3 => exact (Kd.R_reads' HO397.out).2.2); (case side4 => exact (Kd.R_reads' HO397.out).2.1); (case side5 => exact far_slice (IsS80.own_ne HI0.out HO397.out (by decide))); rintro e w18 ⟨rfl, hi, hb, hk⟩; refine ⟨_, rfl, ?_⟩; have n0_ := m0 (Kd.S_mono (Kd.S_keep (IsS80.apartS (show IsS80 w0 _ g s0_0 x1001_1 from HI0.out) HO_5.out (by decide)) hk (fun _ h => h.2)) (fun _ h => h.1)); have n1_ := m0 (Kd.R_mono (Kd.R_keep (IsS80.apart (show IsS80 w0 _ g s0_0 x1001_1 from HI0.out) HO397.out (by decide)) hk (fun _ h => h.2)) (fun _ h => h.1)); have n2_ := m0 (KeepBut.trans HK.out hk (.inl rfl)); have n3_ := m0 (hb); have n4_ := m0 (hi); clear HO_5; clear HO397; clear HK; clear HB; clear HI0; have HO_5 := n0_; have HO397 := n1_; have HK := n2_; have HB := n3_; have HI0 := n4_; clear n0_ n1_ n2_ n3_ n4_; (try clear hb); (try clear hb2); (try clear hk); (try clear hi)) | ((with_reducible refine gate_callee (f := 50) rfl ?_); refine goesL_ (some 23) rfl rfl Tryd.func50 (by kernel_rfl) rfl #[.pointer (some ⟨g, 0, none⟩), .int .i64 3] rfl (by (try simp only [List.map_toArray, List.map_cons, List.map_nil]); rfl) ?_; (with_reducible refine (spec_reader_pick.calls k1 g s0_0 t399 3 t400 t401 w0 _ ?side1 ?side2 A13.out).mono ?_); (case side1 => exact HI0.out); (case side2 => exact HB.out); rintro e w19 ⟨rfl, hi, hb, hk⟩; refine ⟨_, rfl, ?_⟩; have n0_ := m0 (Kd.S_mono (Kd.S_keep (IsS80.apartS (show IsS80 w0 _ g s0_0 t399 from HI0.out) HO_5.out (by decide)) hk (fun _ h => h.2)) (fun _ h => h.1)); have n1_ := m0 (Kd.R_mono (Kd.R_keep (IsS80.apart (show IsS80 w0 _ g s0_0 t399 from HI0.out) HO397.out (by decide)) hk (fun _ h => h.2)) (fun _ h => h.1)); have n2_ := m0 (KeepBut.trans HK.out hk (.inl rfl)); have n3_ := m0 (hb); have n4_ := m0 (hi); clear HO_5; clear HO397; clear HK; clear HB; clear HI0; have HO_5 := n0_; have HO397 := n1_; have HK := n2_; have HB := n3_; have HI0 := n4_; clear n0_ n1_ n2_ n3_ n4_; (try clear hb); (try clear hb2); (try clear hk); (try clear hi)) | ((with_reducible refine gate_callee (f := 50) rfl ?_); refine goesL_ (some 25) rfl rfl Tryd.func50 (by kernel_rfl) rfl #[.pointer (some ⟨g, 0, none⟩), .int .i64 4] rfl (by (try simp only [List.map_toArray, List.map_cons, List.map_nil]); rfl) ?_; (with_reducible refine (spec_reader_pick.calls k1 g s0_0 t401 4 t402 t403 w0 _ ?side1 ?side2 A14.out).mono ?_); (case side1 => exact HI0.out); (case side2 => exact HB.out); rintro e w20 ⟨rfl, hi, hb, hk⟩; refine ⟨_, rfl, ?_⟩; have n0_ := m0 (Kd.S_mono (Kd.S_keep (IsS80.apartS (show IsS80 w0 _ g s0_0 t401 from HI0.out) HO_5.out (by decide)) hk (fun _ h => h.2)) (fun _ h => h.1)); have n1_ := m0 (Kd.R_mono (Kd.R_keep (IsS80.apart (show IsS80 w0 _ g s0_0 t401 from HI0.out) HO397.out (by decide)) hk (fun _ h => h.2)) (fun _ h => h.1)); have n2_ := m0 (KeepBut.trans HK.out hk (.inl rfl)); have n3_ := m0 (hb); have n4_ := m0 (hi); clear HO_5; clear HO397; clear HK; clear HB; clear HI0; have HO_5 := n0_; have HO397 := n1_; have HK := n2_; have HB := n3_; have HI0 := n4_; clear n0_ n1_ n2_ n3_ n4_; (try clear hb); (try clear hb2); (try clear hk); (try clear hi)) | ((with_reducible refine gate_dst (N := 27) rfl ?_); refine Kd.R_lit (Kd.int .i64) _ 3 ?hg (N := 27) ?hd (xs := ([] : List Int)) (inner := []) (ok := fun _ => True) (okp := fun _ => True) ?hr ?hp (fun _ hk => hk) trivial (Below.refl _ _) (Nat.le_refl _) (by simp) ?_; (case hd => rfl); (case hg => rfl); (case hr => first | (go_simp; done) | (go_simp; rfl)); (case hp => exact (Reps.none _ _)); intro v405 w21 ho22 hb hg_ hnew_; clear hg_ hnew_; (first | rw [← Ny404.out] at ho22 | (simp only [Int.reduceToNat] at ho22; rw [← Ny404.out] at ho22)); have n0_ := m0 (Kd.S_elder' HO_5.out (Kd.R_base ho22) hb); have n1_ := m0 (Kd.R_elder' HO397.out (Kd.R_base ho22) hb); have n2_ := m0 (Kd.R_lower (Kd.R_new' ho22 (Kd.R_lt HO397.out)) (keep_size (w := w) (g := g) (row := none) HK.out)); have n3_ := m0 (IsS80.below HI0.out hb); have n4_ := m0 (KeepBut.trans HK.out (KeepBut.of_below hb g none) (.inl rfl)); have n5_ := m0 (below_step HB.out hb); clear HO_5; clear HO397; clear HI0; clear HK; clear HB; have HO_5 := n0_; have HO397 := n1_; have HO406 := n2_; have HI0 := n3_; have HK := n4_; have HB := n5_; clear n0_ n1_ n2_ n3_ n4_ n5_; clear hb ho22; obtain ⟨Ao23, co23, eo23⟩ := Kd.R_slice HO406.out; subst eo23) | ((with_reducible refine gate_dst (N := 7) rfl ?_); refine box_event ?hg (N := 7) ?hd (cs := #[.int .i64 0, .slice none 0 0, .int .i64 0, .int .i64 0]) (t := 39) ?hr ?_; (case hd => rfl); (case hg => rfl); (case hr => first | (go_simp; done) | (go_simp; rfl)); intro gb407 hg w24 hbox hb; have n0_ := m0 (Kd.S_below (Kd.S_elderB HO_5.out gb407 (Nat.le_of_eq hg.symm)) hb); have n1_ := m0 (Kd.R_below HO397.out hb); have n2_ := m0 (Kd.R_below HO406.out hb); have n3_ := m0 (IsS80.below HI0.out hb); have n4_ := m0 (KeepBut.trans HK.out (KeepBut.of_below hb g none) (.inl rfl)); have n5_ := m0 (below_step HB.out hb); have n6_ := m0 (hbox); have n7_ := m0 ((by rw [hg]; exact (keep_size (w := w) (g := g) (row := none) HK.out) : w.heap.size ≤ gb407)); have n8_ := m0 ((Nat.le_trans HW0.out (by rw [hg]; exact (keep_size (w := w) (g := g) (row := none) HK.out) : w.heap.size ≤ gb407) : w0.heap.size ≤ gb407)); have n9_ := m0 ((by rw [hg]; exact Nat.ne_of_lt (IsS80.lt (show IsS80 w0 _ g s0_0 t403 from HI0.out)) : g ≠ gb407)); have n10_ := m0 ((by rw [hg]; exact Nat.ne_of_gt (IsS80.lt (show IsS80 w0 _ g s0_0 t403 from HI0.out)) : gb407 ≠ g)); clear HO_5; clear HO397; clear HO406; clear HI0; clear HK; clear HB; have HO_5 := n0_; have HO397 := n1_; have HO406 := n2_; have HI0 := n3_; have HK := n4_; have HB := n5_; have BK407 := n6_; have GW407 := n7_; have GE407 := n8_; have NB0_407 := n9_; have NB407_0 := n10_; clear n0_ n1_ n2_ n3_ n4_ n5_ n6_ n7_ n8_ n9_ n10_; clear hb hbox hg; have hnb25 := NB407_0.out; have hnc25 := NB0_407.out; have hcz26_0 : w24.cell? ⟨gb407, 0, none⟩ = some (.int .i64 0) := (blk_cell BK407.out 0).trans rfl; have hcz26_1 : w24.cell? ⟨gb407, 1, none⟩ = some (.slice none 0 0) := (blk_cell BK407.out 1).trans rfl; have hcz26_2 : w24.cell? ⟨gb407, 2, none⟩ = some (.int .i64 0) := (blk_cell BK407.out 2).trans rfl; have hcz26_3 : w24.cell? ⟨gb407, 3, none⟩ = some (.int .i64 0) := (blk_cell BK407.out 3).trans rfl; have hfz26_0 := blk_frozen BK407.out 0; have hfz26_1 := blk_frozen BK407.out 1; have hfz26_2 := blk_frozen BK407.out 2; have hfz26_3 := blk_frozen BK407.out 3))
    go_loopg [8] k1 (fun kq v8 w' => ∃ (x8_2 : Int) (x1001_2 : Int) (x408001_2 : List Int) (u408001 : Value), v8 = .int .i64 x8_2 ∧ Aside0 (spec_someGraph.l1 kq x5_1 x6_1 x8_2 s0_0 x1001_2 t398 x408001_2 t400 (wrap64 (1 + t402)) = some (r1, r2)) ∧ Aside0 (kq ≤ k1) ∧ Aside0 (Kd.S k39 39 w' w.heap.size (fun k_ => some k_ ≠ (u408001 : Value).ownBlock ∧ k_ ≠ gb407) u5 x5_1) ∧ Aside0 (Kd.R (Kd.int .i64) 3 w' w.heap.size (fun _ => True) u408001 x408001_2) ∧ Aside0 (w'.heap[gb407]? = some (.cells #[.int .i64 t398, u408001, .int .i64 t400, .int .i64 (wrap64 (1 + t402))] 39 (0, 0))) ∧ Aside0 (IsS80 w0 w' g s0_0 x1001_2) ∧ Aside0 (KeepBut w w' g none) ∧ Aside0 (Below w0.heap.size w0 w'))
    case atStart => exact ⟨(0), (t403), (y404), (.slice Ao23 y404.length co23), (by first | rfl | (simp; done) | (simp [*]; done)), H', ⟨Nat.le_refl _⟩, ⟨by (with_reducible repeat (first | apply Kd.S_alloc | apply Kd.S_drewN | apply Kd.S_drew)); exact Kd.S_mono (Kd.S_far (p := ⟨gb407, 3, none⟩) (Kd.S_far (p := ⟨gb407, 2, none⟩) (Kd.S_far (p := ⟨gb407, 1, none⟩) (Kd.S_far (p := ⟨gb407, 0, none⟩) (Kd.S_mono HO_5.out (fun k_ hk => (⟨hk, hk.2⟩ : _ ∧ k_ ≠ gb407))) (fun _ hk => hk.2) (.int .i64 t398)) (fun _ hk => hk.2) (.slice Ao23 y404.length co23)) (fun _ hk => hk.2) (.int .i64 t400)) (fun _ hk => hk.2) (.int .i64 (wrap64 (1 + t402)))) (fun _ hk => ⟨hk.1.1.2, hk.1.2⟩)⟩, ⟨by (with_reducible repeat (first | apply Kd.R_alloc | apply Kd.R_drewN | apply Kd.R_drew)); exact Kd.R_mono (Kd.R_far (p := ⟨gb407, 3, none⟩) (Kd.R_far (p := ⟨gb407, 2, none⟩) (Kd.R_far (p := ⟨gb407, 1, none⟩) (Kd.R_far (p := ⟨gb407, 0, none⟩) (Kd.R_types HO406.out BK407.out (by decide)) (fun _ hk => hk.2) (.int .i64 t398)) (fun _ hk => hk.2) (.slice Ao23 y404.length co23)) (fun _ hk => hk.2) (.int .i64 t400)) (fun _ hk => hk.2) (.int .i64 (wrap64 (1 + t402)))) (fun _ hk => trivial)⟩, ⟨by (with_reducible repeat (first | refine blk_drewN ?_ _ | refine blk_drew ?_ | refine blk_alloc ?_ _)); refine blk_put (cs := #[.int .i64 t398, .slice Ao23 y404.length co23, .int .i64 t400, .int .i64 0]) ?_ 3 _ rfl; (with_reducible repeat (first | refine blk_drewN ?_ _ | refine blk_drew ?_ | refine blk_alloc ?_ _)); refine blk_put (cs := #[.int .i64 t398, .slice Ao23 y404.length co23, .int .i64 0, .int .i64 0]) ?_ 2 _ rfl; (with_reducible repeat (first | refine blk_drewN ?_ _ | refine blk_drew ?_ | refine blk_alloc ?_ _)); refine blk_put (cs := #[.int .i64 t398, .slice none 0 0, .int .i64 0, .int .i64 0]) ?_ 1 _ rfl; (with_reducible repeat (first | refine blk_drewN ?_ _ | refine blk_drew ?_ | refine blk_alloc ?_ _)); refine blk_put (cs := #[.int .i64 0, .slice none 0 0, .int .i64 0, .int .i64 0]) ?_ 0 _ rfl; (with_reducible repeat (first | refine blk_drewN ?_ _ | refine blk_drew ?_ | refine blk_alloc ?_ _)); exact BK407.out⟩, ⟨by repeat (first | (with_reducible first | exact HI0.out | apply IsS80.alloc | apply IsS80.drewN | apply IsS80.drew | apply IsS80.set_1 | refine IsS80.far ?_ NB0_407.out _) | exact HI0.out)⟩, ⟨by repeat (first | (with_reducible first | exact HK.out | apply KeepBut.set_ | apply keep_drewN | apply keep_drew | apply keep_alloc | refine keep_far ?_ GW407.out _) | exact HK.out)⟩, ⟨by repeat (first | (with_reducible first | exact HB.out | apply below_alloc | apply pw_below_drewN | apply below_drew1 | refine below_set ?_ (IsS80.ge HI0.out) | refine below_set ?_ GE407.out) | exact HB.out)⟩⟩
    case round =>
     clear H'
     try clear c1
     try clear c2
     try clear p2
     try clear c5
     try clear p6
     try clear c11
     try clear c11b0
     try clear c25
     try clear hcz26_0
     try clear hcz26_1
     try clear hcz26_2
     try clear hcz26_3
     try clear hfz26_0
     try clear hfz26_1
     try clear hfz26_2
     try clear hfz26_3
     try clear p2
     obtain ⟨x8_2, x1001_2, x408001_2, u408001, rfl, HA, HK2, HO_5, HO_408001, BK407, HI0, HK, HB⟩ := hrel
     cases gk with
     | zero => exact absurd HA.out (by simp [spec_someGraph.l1])
     | succ k2 =>
      have H := HA.out
      clear HA
      simp only [spec_someGraph.l1] at H
      by_cases c27 : x8_2 < (x5_1.length : Int)
      ·rw [if_pos c27] at H
       have c27b0 : decide (x8_2 < (x5_1.length : Int)) = true := decide_eq_true c27
       clear c27
       replace H := Option.bind_eq_some_iff.mp H
       obtain ⟨⟨t408, t409⟩, A280, H⟩ := H
       replace H : (if t408 = 0 then (if x408001_2.length < 17592186044416 then (spec_someGraph.l1 k2 x5_1 x6_1 (wrap64 (x8_2 + 1)) s0_0 t409 t398 (x408001_2 ++ [x8_2]) t400 (wrap64 (1 + t402))) else (none)) else (spec_someGraph.l1 k2 x5_1 x6_1 (wrap64 (x8_2 + 1)) s0_0 t409 t398 x408001_2 t400 (wrap64 (1 + t402)))) = some (r1, r2) := H
       have A28 := m0 A280
       clear A280
       by_cases c29 : t408 = 0
       ·rw [if_pos c29] at H
        have c29b0 : (t408 == 0) = true := beq_iff_eq.mpr c29
        have c29b1 : (t408 != 0) = false := bne_eq_false_iff_eq.mpr c29
        clear c29
        by_cases c30 : x408001_2.length < 17592186044416
        ·rw [if_pos c30] at H
         have LMc30 := m0 c30
         clear c30
         obtain ⟨y410, hy410⟩ : ∃ y_ : List Int, y_ = (x408001_2 ++ [x8_2]) := ⟨_, rfl⟩
         replace H : (spec_someGraph.l1 k2 x5_1 x6_1 (wrap64 (x8_2 + 1)) s0_0 t409 t398 y410 t400 (wrap64 (1 + t402))) = some (r1, r2) := by first | (rw [hy410]; with_reducible exact H) | (have H2_ := (Option.bind_some _ _).symm.trans H; rw [hy410]; with_reducible exact H2_) | (have H2_ := (Option.bind_some _ _).symm.trans H; with_reducible exact H2_) | with_reducible exact H | (rw [hy410]; exact H) | exact H
         have Ny410 := m0 hy410
         clear hy410
         have H' := m0 H
         clear H
         obtain ⟨Ao31, co31, eo31⟩ := Kd.S_slice HO_5.out
         subst eo31
         go_wp2_with (first | ((with_reducible refine gate_callee (f := 50) rfl ?_); refine goesL_ (some 36) rfl rfl Tryd.func50 (by kernel_rfl) rfl #[.pointer (some ⟨g, 0, none⟩), .int .i64 3] rfl (by (try simp only [List.map_toArray, List.map_cons, List.map_nil]); rfl) ?_; (with_reducible refine (spec_reader_pick.calls k2 g s0_0 x1001_2 3 t408 t409 w0 _ ?side1 ?side2 A28.out).mono ?_); (case side1 => repeat (first | (with_reducible first | exact HI0.out | apply IsS80.alloc | apply IsS80.drewN | apply IsS80.drew | apply IsS80.set_1 | refine IsS80.far ?_ NB0_407.out _) | exact HI0.out)); (case side2 => repeat (first | (with_reducible first | exact HB.out | apply below_alloc | apply pw_below_drewN | apply below_drew1 | refine below_set ?_ (IsS80.ge HI0.out) | refine below_set ?_ GE407.out) | exact HB.out)); rintro e w32 ⟨rfl, hi, hb, hk⟩; refine ⟨_, rfl, ?_⟩; have n0_ := m0 (Kd.S_mono (Kd.S_keep (IsS80.apartS (show IsS80 w0 _ g s0_0 x1001_2 from by repeat (first | (with_reducible first | exact HI0.out | apply IsS80.alloc | apply IsS80.drewN | apply IsS80.drew | apply IsS80.set_1 | refine IsS80.far ?_ NB0_407.out _) | exact HI0.out)) HO_5.out (by decide)) hk (fun _ h => h.2)) (fun _ h => h.1)); have n1_ := m0 (Kd.R_mono (Kd.R_keep (IsS80.apart (show IsS80 w0 _ g s0_0 x1001_2 from by repeat (first | (with_reducible first | exact HI0.out | apply IsS80.alloc | apply IsS80.drewN | apply IsS80.drew | apply IsS80.set_1 | refine IsS80.far ?_ NB0_407.out _) | exact HI0.out)) HO_408001.out (by decide)) hk (fun _ h => h.2)) (fun _ h => h.1)); have n2_ := m0 (KeepBut.blk hk (g' := gb407) (o := .cells #[.int .i64 t398, u408001, .int .i64 t400, .int .i64 (wrap64 (1 + t402))] 39 (0, 0)) (by (with_reducible repeat (first | refine blk_drewN ?_ _ | refine blk_drew ?_ | refine blk_alloc ?_ _)); exact BK407.out) NB407_0.out (by simp)); have n3_ := m0 (KeepBut.trans (by repeat (first | (with_reducible first | exact HK.out | apply KeepBut.set_ | apply keep_drewN | apply keep_drew | apply keep_alloc | refine keep_far ?_ GW407.out _) | exact HK.out)) hk (.inl rfl)); have n4_ := m0 (hb); have n5_ := m0 (hi); clear HO_5; clear HO_408001; clear BK407; clear HK; clear HB; clear HI0; have HO_5 := n0_; have HO_408001 := n1_; have BK407 := n2_; have HK := n3_; have HB := n4_; have HI0 := n5_; clear n0_ n1_ n2_ n3_ n4_ n5_; (try clear hb); (try clear hb2); (try clear hk); (try clear hi); have hnb33 := NB407_0.out; have hnc33 := NB0_407.out; have hcz34_0 : w32.cell? ⟨gb407, 0, none⟩ = some (.int .i64 t398) := (blk_cell BK407.out 0).trans rfl; have hcz34_1 : w32.cell? ⟨gb407, 1, none⟩ = some (u408001) := (blk_cell BK407.out 1).trans rfl; have hcz34_2 : w32.cell? ⟨gb407, 2, none⟩ = some (.int .i64 t400) := (blk_cell BK407.out 2).trans rfl; have hcz34_3 : w32.cell? ⟨gb407, 3, none⟩ = some (.int .i64 (wrap64 (1 + t402))) := (blk_cell BK407.out 3).trans rfl; have hfz34_0 := blk_frozen BK407.out 0; have hfz34_1 := blk_frozen BK407.out 1; have hfz34_2 := blk_frozen BK407.out 2; have hfz34_3 := blk_frozen BK407.out 3) | ((with_reducible refine gate_builtin (b := .append) (xs := #[.tmp 39, .tmp 41]) rfl ?_); at_builtin; refine Kd.R_append (Kd.int .i64) w.heap.size rfl (.tmp 39) (.tmp 41) 23 3 (.int .i64 0) 8 rfl Tryd.underlying23 info3 rfl (by decide) (by omega) u408001 x408001_2 x8_2 [.int .i64 x8_2] (fun _ => True) (fun _ => False) rfl rfl ?aP (fun _ hk => hk.elim) ?aF ?aO (Below.refl _ _) ?aS ?aL ?_; (case aP => exact rfl); (case aF => exact (fun _ _ => trivial)); (case aO => exact HO_408001.out); (case aS => exact (keep_size (w := w) (g := g) (row := none) (by repeat (first | (with_reducible first | exact HK.out | apply KeepBut.set_ | apply keep_drewN | apply keep_drew | apply keep_alloc | refine keep_far ?_ GW407.out _) | exact HK.out)))); (case aL => have := LMc30.out; omega); intro v411 w35 ho hb hg hat; rw [← Ny410.out] at ho; have n0_ := m0 (Kd.S_after (ok := (fun k_ => k_ ≠ gb407)) (Kd.S_mono HO_5.out (fun _ hk => ⟨hk.2, hk.1⟩)) hg hat); have n1_ := m0 (blk_grown (g := gb407) (o := .cells #[.int .i64 t398, u408001, .int .i64 t400, .int .i64 (wrap64 (1 + t402))] 39 (0, 0)) (by (with_reducible repeat (first | refine blk_drewN ?_ _ | refine blk_drew ?_ | refine blk_alloc ?_ _)); exact BK407.out) hg (Kd.R_ne HO_408001.out BK407.out (by decide))); have n2_ := m0 (IsS80.grown (by repeat (first | (with_reducible first | exact HI0.out | apply IsS80.alloc | apply IsS80.drewN | apply IsS80.drew | apply IsS80.set_1 | refine IsS80.far ?_ NB0_407.out _) | exact HI0.out)) hg (IsS80.own_ne HI0.out HO_408001.out (by decide))); have n3_ := m0 (below_weaken (by repeat (first | (with_reducible first | exact HB.out | apply below_alloc | apply pw_below_drewN | apply below_drew1 | refine below_set ?_ (IsS80.ge HI0.out) | refine below_set ?_ GE407.out) | exact HB.out)) HL.out hb); have n4_ := m0 (KeepBut.trans (by repeat (first | (with_reducible first | exact HK.out | apply KeepBut.set_ | apply keep_drewN | apply keep_drew | apply keep_alloc | refine keep_far ?_ GW407.out _) | exact HK.out)) (KeepBut.of_grown hg g) (Kd.R_base2 HO_408001.out)); have n5_ := m0 (ho); clear HO_5; clear BK407; clear HI0; clear HB; clear HK; clear HO_408001; have HO_5 := n0_; have BK407 := n1_; have HI0 := n2_; have HB := n3_; have HK := n4_; have HO412 := n5_; clear n0_ n1_ n2_ n3_ n4_ n5_; clear ho hb hg hat; obtain ⟨Ao36, co36, eo36⟩ := Kd.R_slice HO412.out; subst eo36; have hcz37_0 : w35.cell? ⟨gb407, 0, none⟩ = some (.int .i64 t398) := (blk_cell BK407.out 0).trans rfl; have hcz37_1 : w35.cell? ⟨gb407, 1, none⟩ = some (u408001) := (blk_cell BK407.out 1).trans rfl; have hcz37_2 : w35.cell? ⟨gb407, 2, none⟩ = some (.int .i64 t400) := (blk_cell BK407.out 2).trans rfl; have hcz37_3 : w35.cell? ⟨gb407, 3, none⟩ = some (.int .i64 (wrap64 (1 + t402))) := (blk_cell BK407.out 3).trans rfl; have hfz37_0 := blk_frozen BK407.out 0; have hfz37_1 := blk_frozen BK407.out 1; have hfz37_2 := blk_frozen BK407.out 2; have hfz37_3 := blk_frozen BK407.out 3))
         go_roundg k2
         case measure => have := HK1.out; have := HK2.out; omega
         case rel => exact ⟨(wrap64 (x8_2 + 1)), (t409), (y410), (.slice Ao36 y410.length co36), (by first | rfl | (simp; done) | (simp [*]; done)), H', ⟨by have := HK1.out; have := HK2.out; omega⟩, ⟨by (with_reducible repeat (first | apply Kd.S_alloc | apply Kd.S_drewN | apply Kd.S_drew)); exact Kd.S_mono (Kd.S_far (p := ⟨gb407, 1, none⟩) (Kd.S_mono HO_5.out (fun k_ hk => (⟨hk, hk.1⟩ : _ ∧ k_ ≠ gb407))) (fun _ hk => hk.2) (.slice Ao36 y410.length co36)) (fun _ hk => ⟨hk.1.2, hk.1.1⟩)⟩, ⟨by (with_reducible repeat (first | apply Kd.R_alloc | apply Kd.R_drewN | apply Kd.R_drew)); exact Kd.R_mono (Kd.R_far (p := ⟨gb407, 1, none⟩) (Kd.R_types HO412.out BK407.out (by decide)) (fun _ hk => hk.2) (.slice Ao36 y410.length co36)) (fun _ hk => trivial)⟩, ⟨by (with_reducible repeat (first | refine blk_drewN ?_ _ | refine blk_drew ?_ | refine blk_alloc ?_ _)); refine blk_put (cs := #[.int .i64 t398, u408001, .int .i64 t400, .int .i64 (wrap64 (1 + t402))]) ?_ 1 _ rfl; (with_reducible repeat (first | refine blk_drewN ?_ _ | refine blk_drew ?_ | refine blk_alloc ?_ _)); exact BK407.out⟩, ⟨by repeat (first | (with_reducible first | exact HI0.out | apply IsS80.alloc | apply IsS80.drewN | apply IsS80.drew | apply IsS80.set_1 | refine IsS80.far ?_ NB0_407.out _) | exact HI0.out)⟩, ⟨by repeat (first | (with_reducible first | exact HK.out | apply KeepBut.set_ | apply keep_drewN | apply keep_drew | apply keep_alloc | refine keep_far ?_ GW407.out _) | exact HK.out)⟩, ⟨by repeat (first | (with_reducible first | exact HB.out | apply below_alloc | apply pw_below_drewN | apply below_drew1 | refine below_set ?_ (IsS80.ge HI0.out) | refine below_set ?_ GE407.out) | exact HB.out)⟩⟩
        ·rw [if_neg c30] at H
         exact absurd H (by simp)
       ·rw [if_neg c29] at H
        have c29b0 : (t408 == 0) = false := beq_eq_false_iff_ne.mpr c29
        have c29b1 : (t408 != 0) = true := bne_iff_ne.mpr c29
        have H' := m0 H
        clear H
        obtain ⟨Ao38, co38, eo38⟩ := Kd.S_slice HO_5.out
        subst eo38
        go_wp2_with (first | ((with_reducible refine gate_callee (f := 50) rfl ?_); refine goesL_ (some 36) rfl rfl Tryd.func50 (by kernel_rfl) rfl #[.pointer (some ⟨g, 0, none⟩), .int .i64 3] rfl (by (try simp only [List.map_toArray, List.map_cons, List.map_nil]); rfl) ?_; (with_reducible refine (spec_reader_pick.calls k2 g s0_0 x1001_2 3 t408 t409 w0 _ ?side1 ?side2 A28.out).mono ?_); (case side1 => repeat (first | (with_reducible first | exact HI0.out | apply IsS80.alloc | apply IsS80.drewN | apply IsS80.drew | apply IsS80.set_1 | refine IsS80.far ?_ NB0_407.out _) | exact HI0.out)); (case side2 => repeat (first | (with_reducible first | exact HB.out | apply below_alloc | apply pw_below_drewN | apply below_drew1 | refine below_set ?_ (IsS80.ge HI0.out) | refine below_set ?_ GE407.out) | exact HB.out)); rintro e w39 ⟨rfl, hi, hb, hk⟩; refine ⟨_, rfl, ?_⟩; have n0_ := m0 (Kd.S_mono (Kd.S_keep (IsS80.apartS (show IsS80 w0 _ g s0_0 x1001_2 from by repeat (first | (with_reducible first | exact HI0.out | apply IsS80.alloc | apply IsS80.drewN | apply IsS80.drew | apply IsS80.set_1 | refine IsS80.far ?_ NB0_407.out _) | exact HI0.out)) HO_5.out (by decide)) hk (fun _ h => h.2)) (fun _ h => h.1)); have n1_ := m0 (Kd.R_mono (Kd.R_keep (IsS80.apart (show IsS80 w0 _ g s0_0 x1001_2 from by repeat (first | (with_reducible first | exact HI0.out | apply IsS80.alloc | apply IsS80.drewN | apply IsS80.drew | apply IsS80.set_1 | refine IsS80.far ?_ NB0_407.out _) | exact HI0.out)) HO_408001.out (by decide)) hk (fun _ h => h.2)) (fun _ h => h.1)); have n2_ := m0 (KeepBut.blk hk (g' := gb407) (o := .cells #[.int .i64 t398, u408001, .int .i64 t400, .int .i64 (wrap64 (1 + t402))] 39 (0, 0)) (by (with_reducible repeat (first | refine blk_drewN ?_ _ | refine blk_drew ?_ | refine blk_alloc ?_ _)); exact BK407.out) NB407_0.out (by simp)); have n3_ := m0 (KeepBut.trans (by repeat (first | (with_reducible first | exact HK.out | apply KeepBut.set_ | apply keep_drewN | apply keep_drew | apply keep_alloc | refine keep_far ?_ GW407.out _) | exact HK.out)) hk (.inl rfl)); have n4_ := m0 (hb); have n5_ := m0 (hi); clear HO_5; clear HO_408001; clear BK407; clear HK; clear HB; clear HI0; have HO_5 := n0_; have HO_408001 := n1_; have BK407 := n2_; have HK := n3_; have HB := n4_; have HI0 := n5_; clear n0_ n1_ n2_ n3_ n4_ n5_; (try clear hb); (try clear hb2); (try clear hk); (try clear hi)))
        go_roundg k2
        case measure => have := HK1.out; have := HK2.out; omega
        case rel => exact ⟨(wrap64 (x8_2 + 1)), (t409), (x408001_2), (u408001), (by first | rfl | (simp; done) | (simp [*]; done)), H', ⟨by have := HK1.out; have := HK2.out; omega⟩, ⟨HO_5.out⟩, ⟨HO_408001.out⟩, ⟨by (with_reducible repeat (first | refine blk_drewN ?_ _ | refine blk_drew ?_ | refine blk_alloc ?_ _)); exact BK407.out⟩, ⟨by repeat (first | (with_reducible first | exact HI0.out | apply IsS80.alloc | apply IsS80.drewN | apply IsS80.drew | apply IsS80.set_1 | refine IsS80.far ?_ NB0_407.out _) | exact HI0.out)⟩, ⟨by repeat (first | (with_reducible first | exact HK.out | apply KeepBut.set_ | apply keep_drewN | apply keep_drew | apply keep_alloc | refine keep_far ?_ GW407.out _) | exact HK.out)⟩, ⟨by repeat (first | (with_reducible first | exact HB.out | apply below_alloc | apply pw_below_drewN | apply below_drew1 | refine below_set ?_ (IsS80.ge HI0.out) | refine below_set ?_ GE407.out) | exact HB.out)⟩⟩
      ·rw [if_neg c27] at H
       have c27b0 : decide (x8_2 < (x5_1.length : Int)) = false := decide_eq_false c27
       clear c27
       by_cases c40 : x5_1.length < 2932031007402
       ·rw [if_pos c40] at H
        have LMc40 := m0 c40
        clear c40
        obtain ⟨y413, hy413⟩ : ∃ y_ : List (S39), y_ = (x5_1 ++ [(⟨t398, x408001_2, t400, (wrap64 (1 + t402))⟩ : S39)]) := ⟨_, rfl⟩
        replace H : (spec_someGraph.l0 k2 y413 (wrap64 (x6_1 - 1)) s0_0 x1001_2) = some (r1, r2) := by first | (rw [hy413]; with_reducible exact H) | (have H2_ := (Option.bind_some _ _).symm.trans H; rw [hy413]; with_reducible exact H2_) | (have H2_ := (Option.bind_some _ _).symm.trans H; with_reducible exact H2_) | with_reducible exact H | (rw [hy413]; exact H) | exact H
        have Ny413 := m0 hy413
        clear hy413
        have H' := m0 H
        clear H
        obtain ⟨Ao41, co41, eo41⟩ := Kd.S_slice HO_5.out
        subst eo41
        have hnb42 := NB407_0.out
        have hnc42 := NB0_407.out
        have hcz43_0 : wr.cell? ⟨gb407, 0, none⟩ = some (.int .i64 t398) := (blk_cell BK407.out 0).trans rfl
        have hcz43_1 : wr.cell? ⟨gb407, 1, none⟩ = some (u408001) := (blk_cell BK407.out 1).trans rfl
        have hcz43_2 : wr.cell? ⟨gb407, 2, none⟩ = some (.int .i64 t400) := (blk_cell BK407.out 2).trans rfl
        have hcz43_3 : wr.cell? ⟨gb407, 3, none⟩ = some (.int .i64 (wrap64 (1 + t402))) := (blk_cell BK407.out 3).trans rfl
        have hfz43_0 := blk_frozen BK407.out 0
        have hfz43_1 := blk_frozen BK407.out 1
        have hfz43_2 := blk_frozen BK407.out 2
        have hfz43_3 := blk_frozen BK407.out 3
        obtain ⟨Ao45, co45, eo45⟩ := Kd.R_slice HO_408001.out
        subst eo45
        go_wp2_with (first | ((with_reducible refine gate_builtin (b := .append) (xs := #[.tmp 44, .tmp 46]) rfl ?_); at_builtin; refine Kd.S_append k39 w.heap.size rfl (.tmp 44) (.tmp 46) 26 39 (.agg #[(.int .i64 0), (.slice none 0 0), (.int .i64 0), (.int .i64 0)]) 48 rfl Tryd.underlying26 info39 rfl (by decide) (by omega) (.slice Ao41 x5_1.length co41) x5_1 (⟨t398, x408001_2, t400, (wrap64 (1 + t402))⟩ : S39) [.int .i64 t398, .slice Ao45 x408001_2.length co45, .int .i64 t400, .int .i64 (wrap64 (1 + t402))] (fun k_ => k_ ≠ gb407) (fun k_ => some k_ = (.slice Ao45 x408001_2.length co45 : Value).ownBlock) rfl rfl ?aP (fun k_ hk_ => ((Kd.R_mono (ok' := fun k_ => ((fun k_ => k_ ≠ gb407)) k_ ∧ some k_ ≠ (.slice Ao41 x5_1.length co41 : Value).ownBlock) (Kd.R_types (Kd.R_apart' (HO_408001.out) (Kd.S_typed HO_5.out) (by decide)) BK407.out (by decide)) (fun k_ hk => ⟨hk.2, hk.1.2⟩))).1 k_ hk_.symm) ?aF ?aO (Below.refl _ _) ?aS ?aL ?_; (case aP => exact k39_mkM _ _ _ (⟨t398, x408001_2, t400, (wrap64 (1 + t402))⟩ : S39) (Kd.R_mono (Kd.R_tight rfl (Kd.R_mono (ok' := fun k_ => ((fun k_ => k_ ≠ gb407)) k_ ∧ some k_ ≠ (.slice Ao41 x5_1.length co41 : Value).ownBlock) (Kd.R_types (Kd.R_apart' (HO_408001.out) (Kd.S_typed HO_5.out) (by decide)) BK407.out (by decide)) (fun k_ hk => ⟨hk.2, hk.1.2⟩))) (fun _ h_ => h_))); (case aF => exact (fun k_ hk => Kd.freshB (g := gb407) (o := .cells #[.int .i64 t398, .slice Ao45 x408001_2.length co45, .int .i64 t400, .int .i64 (wrap64 (1 + t402))] 39 (0, 0)) (by (with_reducible repeat (first | refine blk_drewN ?_ _ | refine blk_drew ?_ | refine blk_alloc ?_ _)); exact BK407.out) k_ hk)); (case aO => exact (Kd.S_mono HO_5.out (fun k_ hk => ⟨hk.2, fun e_ => hk.1 e_⟩))); (case aS => exact (keep_size (w := w) (g := g) (row := none) (by repeat (first | (with_reducible first | exact HK.out | apply KeepBut.set_ | apply keep_drewN | apply keep_drew | apply keep_alloc | refine keep_far ?_ GW407.out _) | exact HK.out)))); (case aL => have := LMc40.out; omega); intro v414 w44 ho hb hg hat; rw [← Ny413.out] at ho; have n0_ := m0 (blk_grown (g := gb407) (o := .cells #[.int .i64 t398, .slice Ao45 x408001_2.length co45, .int .i64 t400, .int .i64 (wrap64 (1 + t402))] 39 (0, 0)) (by (with_reducible repeat (first | refine blk_drewN ?_ _ | refine blk_drew ?_ | refine blk_alloc ?_ _)); exact BK407.out) hg (Kd.S_away HO_5.out (fun _ hk => hk.2))); have n1_ := m0 (IsS80.grown (by repeat (first | (with_reducible first | exact HI0.out | apply IsS80.alloc | apply IsS80.drewN | apply IsS80.drew | apply IsS80.set_1 | refine IsS80.far ?_ NB0_407.out _) | exact HI0.out)) hg (IsS80.own_neS HI0.out HO_5.out (by decide))); have n2_ := m0 (below_weaken (by repeat (first | (with_reducible first | exact HB.out | apply below_alloc | apply pw_below_drewN | apply below_drew1 | refine below_set ?_ (IsS80.ge HI0.out) | refine below_set ?_ GE407.out) | exact HB.out)) HL.out hb); have n3_ := m0 (KeepBut.trans (by repeat (first | (with_reducible first | exact HK.out | apply KeepBut.set_ | apply keep_drewN | apply keep_drew | apply keep_alloc | refine keep_far ?_ GW407.out _) | exact HK.out)) (KeepBut.of_grown hg g) (Kd.S_base2 HO_5.out)); have n4_ := m0 (ho); clear BK407; clear HI0; clear HB; clear HK; clear HO_5; clear HO_408001; have BK407 := n0_; have HI0 := n1_; have HB := n2_; have HK := n3_; have HO415 := n4_; clear n0_ n1_ n2_ n3_ n4_; clear ho hb hg hat))
        go_roundg k2
        case measure => have := HK1.out; have := HK2.out; omega
        case rel => exact ⟨(y413), (wrap64 (x6_1 - 1)), (x1001_2), (by first | rfl | (simp; done) | (simp [*]; done)), H', ⟨by have := HK1.out; have := HK2.out; omega⟩, ⟨by (with_reducible repeat (first | apply Kd.S_alloc | apply Kd.S_drewN | apply Kd.S_drew)); exact Kd.S_mono HO415.out (fun _ hk => trivial)⟩, ⟨by repeat (first | (with_reducible first | exact HI0.out | apply IsS80.alloc | apply IsS80.drewN | apply IsS80.drew | apply IsS80.set_1 | refine IsS80.far ?_ NB0_407.out _) | exact HI0.out)⟩, ⟨by repeat (first | (with_reducible first | exact HK.out | apply KeepBut.set_ | apply keep_drewN | apply keep_drew | apply keep_alloc | refine keep_far ?_ GW407.out _) | exact HK.out)⟩, ⟨by repeat (first | (with_reducible first | exact HB.out | apply below_alloc | apply pw_below_drewN | apply below_drew1 | refine below_set ?_ (IsS80.ge HI0.out) | refine below_set ?_ GE407.out) | exact HB.out)⟩⟩
       ·rw [if_neg c40] at H
        exact absurd H (by simp)
   ·rw [if_neg c11] at H
    have c11b0 : decide (0 < x6_1) = false := decide_eq_false c11
    clear c11
    by_cases c46 : (x5_1.length : Int) > 1
    ·rw [if_pos c46] at H
     have c46b0 : decide (1 < (x5_1.length : Int)) = true := decide_eq_true c46
     have c46b1 : decide (1 < x5_1.length) = true := decide_eq_true (by omega)
     clear c46
     replace H := Option.bind_eq_some_iff.mp H
     obtain ⟨⟨t416, t417⟩, A470, H⟩ := H
     replace H : (if t416 = 0 then ((spec_turned.f k1 x5_1).bind fun t418 => (some (t418, t417))) else (some (x5_1, t417))) = some (r1, r2) := H
     have A47 := m0 A470
     clear A470
     by_cases c48 : t416 = 0
     ·rw [if_pos c48] at H
      have c48b0 : (t416 == 0) = true := beq_iff_eq.mpr c48
      have c48b1 : (t416 != 0) = false := bne_eq_false_iff_eq.mpr c48
      clear c48
      replace H := Option.bind_eq_some_iff.mp H
      obtain ⟨t418, A490, H⟩ := H
      replace H : (some (t418, t417)) = some (r1, r2) := H
      have A49 := m0 A490
      clear A490
      simp only [Option.some.injEq, Prod.mk.injEq] at H
      obtain ⟨rfl, rfl⟩ := H
      obtain ⟨Ao50, co50, eo50⟩ := Kd.S_slice HO_5.out
      subst eo50
      go_wp2_with (first | (go_at_call 50; (with_reducible refine (spec_reader_pick.calls k1 g s0_0 x1001_1 4 t416 t417 w0 _ ?side1 ?side2 A47.out).mono ?_); (case side1 => exact HI0.out); (case side2 => exact HB.out); rintro e w51 ⟨rfl, hi, hb, hk⟩; have n0_ := m0 (Kd.S_mono (Kd.S_keep (IsS80.apartS (show IsS80 w0 _ g s0_0 x1001_1 from HI0.out) HO_5.out (by decide)) hk (fun _ h => h.2)) (fun _ h => h.1)); have n1_ := m0 (KeepBut.trans HK.out hk (.inl rfl)); have n2_ := m0 (hb); have n3_ := m0 (hi); clear HO_5; clear HK; clear HB; clear HI0; have HO_5 := n0_; have HK := n1_; have HB := n2_; have HI0 := n3_; clear n0_ n1_ n2_ n3_; (try clear hb); (try clear hb2); (try clear hk); (try clear hi)) | ((with_reducible refine gate_callee (f := 69) rfl ?_); refine goesL_ (some 57) rfl rfl Tryd.func69 (by kernel_rfl) rfl #[.slice Ao50 x5_1.length co50] rfl (by (try simp only [List.map_toArray, List.map_cons, List.map_nil]); rfl) ?_; (with_reducible refine (spec_turned.calls k1 _ _ x5_1 t418 _ ?side1 ?side2 A49.out).mono ?_); (case side1 => exact (Kd.S_reads' HO_5.out).2.2); (case side2 => exact (Kd.S_reads' HO_5.out).2.1); rintro e w52 ⟨v419, rfl, ho0, hb⟩; refine ⟨_, rfl, ?_⟩; have n0_ := m0 (Kd.S_elder' HO_5.out (Kd.S_base ho0) hb); have n1_ := m0 (Kd.S_lower (Kd.S_new' ho0 (Kd.S_lt HO_5.out)) (keep_size (w := w) (g := g) (row := none) HK.out)); have n2_ := m0 (IsS80.below HI0.out hb); have n3_ := m0 (KeepBut.trans HK.out (KeepBut.of_below hb g none) (.inl rfl)); have n4_ := m0 (below_step HB.out hb); clear HO_5; clear HI0; clear HK; clear HB; have HO_5 := n0_; have HO420 := n1_; have HI0 := n2_; have HK := n3_; have HB := n4_; clear n0_ n1_ n2_ n3_ n4_; (try clear hb); (try clear hb2); (try clear hk); (try clear hi); (try clear ho0)))
      go_ret
      exact ⟨_, by first | rfl | (simp [errW_none, errW_some] <;> rfl) | (simp only [← hji4]; first | rfl | (simp [errW_none, errW_some] <;> rfl)) | (simp [*, errW_none, errW_some] <;> rfl), by (with_reducible repeat (first | apply Kd.S_alloc | apply Kd.S_drewN | apply Kd.S_drew)); exact Kd.S_mono HO420.out (fun _ hk => trivial), HI0.out, HB.out, HK.out⟩
     ·rw [if_neg c48] at H
      have c48b0 : (t416 == 0) = false := beq_eq_false_iff_ne.mpr c48
      have c48b1 : (t416 != 0) = true := bne_iff_ne.mpr c48
      simp only [Option.some.injEq, Prod.mk.injEq] at H
      obtain ⟨rfl, rfl⟩ := H
      obtain ⟨Ao53, co53, eo53⟩ := Kd.S_slice HO_5.out
      subst eo53
      go_wp2_with (first | (go_at_call 50; (with_reducible refine (spec_reader_pick.calls k1 g s0_0 x1001_1 4 t416 t417 w0 _ ?side1 ?side2 A47.out).mono ?_); (case side1 => exact HI0.out); (case side2 => exact HB.out); rintro e w54 ⟨rfl, hi, hb, hk⟩; have n0_ := m0 (Kd.S_mono (Kd.S_keep (IsS80.apartS (show IsS80 w0 _ g s0_0 x1001_1 from HI0.out) HO_5.out (by decide)) hk (fun _ h => h.2)) (fun _ h => h.1)); have n1_ := m0 (KeepBut.trans HK.out hk (.inl rfl)); have n2_ := m0 (hb); have n3_ := m0 (hi); clear HO_5; clear HK; clear HB; clear HI0; have HO_5 := n0_; have HK := n1_; have HB := n2_; have HI0 := n3_; clear n0_ n1_ n2_ n3_; (try clear hb); (try clear hb2); (try clear hk); (try clear hi)))
      go_ret
      exact ⟨_, by first | rfl | (simp [errW_none, errW_some] <;> rfl) | (simp only [← hji4]; first | rfl | (simp [errW_none, errW_some] <;> rfl)) | (simp [*, errW_none, errW_some] <;> rfl), HO_5.out, HI0.out, HB.out, HK.out⟩
    ·rw [if_neg c46] at H
     have c46b0 : decide (1 < (x5_1.length : Int)) = false := decide_eq_false c46
     have c46b1 : decide (1 < x5_1.length) = false := decide_eq_false (by omega)
     clear c46
     simp only [Option.some.injEq, Prod.mk.injEq] at H
     obtain ⟨rfl, rfl⟩ := H
     obtain ⟨Ao55, co55, eo55⟩ := Kd.S_slice HO_5.out
     subst eo55
     go_wp2
     go_ret
     exact ⟨_, by first | rfl | (simp [errW_none, errW_some] <;> rfl) | (simp only [← hji4]; first | rfl | (simp [errW_none, errW_some] <;> rfl)) | (simp [*, errW_none, errW_some] <;> rfl), HO_5.out, HI0.out, HB.out, HK.out⟩
end Go.Proofs.YtimbfcedigaffaaDoor.P
end
section
namespace Go.Proofs.YtimbfcedigaffaaDoor.P
open Go.RowKit Go.Proofs.YtimbfcedigaffaaDoorW.PrintWords Go.Proofs.YtimbfcedigaffaaDoorW.PrintLast Go.Proofs.YtimbfcedigaffaaDoorW.PrintMore
attribute [local go_sem] max2_int min2_int max_two min_two max_three min_three max_four min_four
def spec_reader_spoil.f (k : Nat) (s0_0 : List Int) (s0_1 : Int) (l1 : List Int) (a2 : Int) : Option (List Int × Int) := (spec_copyInts.f l1).bind fun t421 => ((spec_reader_pick.f k s0_0 s0_1 20).bind fun bt424 => (if bt424.1 = 0 then (if t421.length < 17592186044416 then (some ((t421 ++ [a2]), bt424.2)) else (none)) else (if bt424.1 = 1 then (if (t421.length : Int) > 0 then (if 1 ≤ (t421.length : Int) then (some ((t421.drop (1 : Int).toNat), bt424.2)) else (none)) else (some (t421, bt424.2))) else (if bt424.1 = 2 then (if (t421.length : Int) > 0 then ((spec_reader_pick.f k s0_0 bt424.2 (t421.length : Int)).bind fun bt432 => ((spec_reader_one.f k s0_0 bt432.2 (([(-1), a2, 0, 1] : List Int))).bind fun bt437 => (if 0 ≤ bt432.1 then (if bt432.1 < (t421.length : Int) then (some ((t421.set (bt432.1 : Int).toNat bt437.1), bt437.2)) else (none)) else (none)))) else (some (t421, bt424.2))) else (some (t421, bt424.2))))))
theorem spec_reader_spoil.mono : ∀ a0 a1 a2 a3 k, LeO (spec_reader_spoil.f k a0 a1 a2 a3) (spec_reader_spoil.f (k + 1) a0 a1 a2 a3) := by
 intro a0 a1 a2 a3 k
 unfold spec_reader_spoil.f
 repeat' first
   | (with_reducible exact spec_reader_one.mono _ _ _ _)
   | (with_reducible exact spec_reader_pick.mono _ _ _ _)
   | (with_reducible exact LeO.refl _)
   | (with_reducible exact LeO.none _)
   | (with_reducible refine LeO.ite ?_ ?_)
   | (with_reducible refine LeO.bind ?_ (fun _ => ?_))
   | exact spec_reader_one.mono _ _ _ _
   | exact spec_reader_pick.mono _ _ _ _
   | exact LeO.none _
   | refine LeO.ite ?_ ?_
   | refine LeO.bind ?_ (fun _ => ?_)
set_option maxHeartbeats 8000000 in
set_option maxRecDepth 100000 in
theorem spec_reader_spoil.calls (k : Nat) (g : Nat) (s0_0 : List Int) (s0_1 : Int) (A1 : Option Addr) (c1 : Nat) (l1 : List Int) (a2 : Int) (r1 : List Int) (r2 : Int) (w0 w : World) (hI : IsS80 w0 w g s0_0 s0_1) (hB : Below w0.heap.size w0 w) (hr1 : Kd.C (Kd.int .i64) w A1 l1.length l1) (hc1 : l1.length ≤ c1) (hf1 : ∀ ad, A1 = some ad → 0 < l1.length → ad.block ≠ g) (h : spec_reader_spoil.f k s0_0 s0_1 l1 a2 = some (r1, r2)) :
  Calls Tryd.prog 53 #[.pointer (some ⟨g, 0, none⟩), .slice A1 l1.length c1, .int .i64 a2] w fun e w' => ∃ v0_ : Value, e = .returned (v0_) ∧ Kd.Q (Kd.int .i64) 3 w' w.heap.size (fun _ => True) v0_ r1 ∧ IsS80 w0 w' g s0_0 r2 ∧ Below w0.heap.size w0 w' ∧ KeepBut w w' g none := by
 have HR1 := m0 hr1
 have HC1 := m0 hc1
 clear hr1 hc1
 have HI0 := m0 hI
 have HK := m0 (KeepBut.refl w g none)
 have HL := m0 hB.size
 clear hI
 have HW0 := m0 hB.size
 have HB := m0 hB
 clear hB
 have H : ((spec_copyInts.f l1).bind fun t421 => ((spec_reader_pick.f k s0_0 s0_1 20).bind fun bt424 => (if bt424.1 = 0 then (if t421.length < 17592186044416 then (some ((t421 ++ [a2]), bt424.2)) else (none)) else (if bt424.1 = 1 then (if (t421.length : Int) > 0 then (if 1 ≤ (t421.length : Int) then (some ((t421.drop (1 : Int).toNat), bt424.2)) else (none)) else (some (t421, bt424.2))) else (if bt424.1 = 2 then (if (t421.length : Int) > 0 then ((spec_reader_pick.f k s0_0 bt424.2 (t421.length : Int)).bind fun bt432 => ((spec_reader_one.f k s0_0 bt432.2 (([(-1), a2, 0, 1] : List Int))).bind fun bt437 => (if 0 ≤ bt432.1 then (if bt432.1 < (t421.length : Int) then (some ((t421.set (bt432.1 : Int).toNat bt437.1), bt437.2)) else (none)) else (none)))) else (some (t421, bt424.2))) else (some (t421, bt424.2))))))) = some (r1, r2) := h
 clear h
 replace H := Option.bind_eq_some_iff.mp H
 obtain ⟨t421, A40, H⟩ := H
 replace H : ((spec_reader_pick.f k s0_0 s0_1 20).bind fun bt424 => (if bt424.1 = 0 then (if t421.length < 17592186044416 then (some ((t421 ++ [a2]), bt424.2)) else (none)) else (if bt424.1 = 1 then (if (t421.length : Int) > 0 then (if 1 ≤ (t421.length : Int) then (some ((t421.drop (1 : Int).toNat), bt424.2)) else (none)) else (some (t421, bt424.2))) else (if bt424.1 = 2 then (if (t421.length : Int) > 0 then ((spec_reader_pick.f k s0_0 bt424.2 (t421.length : Int)).bind fun bt432 => ((spec_reader_one.f k s0_0 bt432.2 (([(-1), a2, 0, 1] : List Int))).bind fun bt437 => (if 0 ≤ bt432.1 then (if bt432.1 < (t421.length : Int) then (some ((t421.set (bt432.1 : Int).toNat bt437.1), bt437.2)) else (none)) else (none)))) else (some (t421, bt424.2))) else (some (t421, bt424.2)))))) = some (r1, r2) := H
 have A4 := m0 A40
 clear A40
 replace H := Option.bind_eq_some_iff.mp H
 obtain ⟨⟨t424, t425⟩, A50, H⟩ := H
 replace H : (if t424 = 0 then (if t421.length < 17592186044416 then (some ((t421 ++ [a2]), t425)) else (none)) else (if t424 = 1 then (if (t421.length : Int) > 0 then (if 1 ≤ (t421.length : Int) then (some ((t421.drop (1 : Int).toNat), t425)) else (none)) else (some (t421, t425))) else (if t424 = 2 then (if (t421.length : Int) > 0 then ((spec_reader_pick.f k s0_0 t425 (t421.length : Int)).bind fun bt432 => ((spec_reader_one.f k s0_0 bt432.2 (([(-1), a2, 0, 1] : List Int))).bind fun bt437 => (if 0 ≤ bt432.1 then (if bt432.1 < (t421.length : Int) then (some ((t421.set (bt432.1 : Int).toNat bt437.1), bt437.2)) else (none)) else (none)))) else (some (t421, t425))) else (some (t421, t425))))) = some (r1, r2) := H
 have A5 := m0 A50
 clear A50
 by_cases c6 : t424 = 0
 ·rw [if_pos c6] at H
  have c6b0 : (t424 == 0) = true := beq_iff_eq.mpr c6
  have c6b1 : (t424 != 0) = false := bne_eq_false_iff_eq.mpr c6
  clear c6
  by_cases c7 : t421.length < 17592186044416
  ·rw [if_pos c7] at H
   have LMc7 := m0 c7
   clear c7
   obtain ⟨y426, hy426⟩ : ∃ y_ : List Int, y_ = (t421 ++ [a2]) := ⟨_, rfl⟩
   replace H : (some (y426, t425)) = some (r1, r2) := by first | (rw [hy426]; with_reducible exact H) | (have H2_ := (Option.bind_some _ _).symm.trans H; rw [hy426]; with_reducible exact H2_) | (have H2_ := (Option.bind_some _ _).symm.trans H; with_reducible exact H2_) | with_reducible exact H | (rw [hy426]; exact H) | exact H
   have Ny426 := m0 hy426
   clear hy426
   simp only [Option.some.injEq, Prod.mk.injEq] at H
   obtain ⟨rfl, rfl⟩ := H
   go_enter Tryd.func53, Tryd.ntmps53
   go_wp2_with (first | ((with_reducible refine gate_callee (f := 33) rfl ?_); refine goesL_ (some 9) rfl rfl Tryd.func33 (by kernel_rfl) rfl #[.slice A1 l1.length c1] rfl (by (try simp only [List.map_toArray, List.map_cons, List.map_nil]); rfl) ?_; (with_reducible refine (spec_copyInts.calls _ _ l1 t421 _ ?side1 ?side2 A4.out).mono ?_); (case side1 => exact Kd.C_keep 0 HR1.out HK.out hf1); (case side2 => exact HC1.out); rintro e w8 ⟨v422, rfl, ho0, hb⟩; refine ⟨_, rfl, ?_⟩; have n0_ := m0 (Kd.R_lower ho0 (keep_size (w := w) (g := g) (row := none) HK.out)); have n1_ := m0 (IsS80.below HI0.out hb); have n2_ := m0 (KeepBut.trans HK.out (KeepBut.of_below hb g none) (.inl rfl)); have n3_ := m0 (below_step HB.out hb); clear HI0; clear HK; clear HB; have HO423 := n0_; have HI0 := n1_; have HK := n2_; have HB := n3_; clear n0_ n1_ n2_ n3_; (try clear hb); (try clear hb2); (try clear hk); (try clear hi); (try clear ho0)) | ((with_reducible refine gate_callee (f := 50) rfl ?_); refine goesL_ (some 11) rfl rfl Tryd.func50 (by kernel_rfl) rfl #[.pointer (some ⟨g, 0, none⟩), .int .i64 20] rfl (by (try simp only [List.map_toArray, List.map_cons, List.map_nil]); rfl) ?_; (with_reducible refine (spec_reader_pick.calls k g s0_0 s0_1 20 t424 t425 w0 _ ?side1 ?side2 A5.out).mono ?_); (case side1 => exact HI0.out); (case side2 => exact HB.out); rintro e w9 ⟨rfl, hi, hb, hk⟩; refine ⟨_, rfl, ?_⟩; have n0_ := m0 (Kd.R_mono (Kd.R_keep (IsS80.apart (show IsS80 w0 _ g s0_0 s0_1 from HI0.out) HO423.out (by decide)) hk (fun _ h => h.2)) (fun _ h => h.1)); have n1_ := m0 (KeepBut.trans HK.out hk (.inl rfl)); have n2_ := m0 (hb); have n3_ := m0 (hi); clear HO423; clear HK; clear HB; clear HI0; have HO423 := n0_; have HK := n1_; have HB := n2_; have HI0 := n3_; clear n0_ n1_ n2_ n3_; (try clear hb); (try clear hb2); (try clear hk); (try clear hi)) | ((with_reducible refine gate_builtin (b := .append) (xs := #[.tmp 14, .tmp 16]) rfl ?_); at_builtin; refine Kd.R_append (Kd.int .i64) w.heap.size rfl (.tmp 14) (.tmp 16) 23 3 (.int .i64 0) 8 rfl Tryd.underlying23 info3 rfl (by decide) (by omega) v422 t421 a2 [.int .i64 a2] (fun _ => True) (fun _ => False) rfl rfl ?aP (fun _ hk => hk.elim) ?aF ?aO (Below.refl _ _) ?aS ?aL ?_; (case aP => exact rfl); (case aF => exact (fun _ _ => trivial)); (case aO => exact HO423.out); (case aS => exact (keep_size (w := w) (g := g) (row := none) HK.out)); (case aL => have := LMc7.out; omega); intro v427 w10 ho hb hg hat; rw [← Ny426.out] at ho; have n0_ := m0 (IsS80.grown HI0.out hg (IsS80.own_ne HI0.out HO423.out (by decide))); have n1_ := m0 (below_weaken HB.out HL.out hb); have n2_ := m0 (KeepBut.trans HK.out (KeepBut.of_grown hg g) (Kd.R_base2 HO423.out)); have n3_ := m0 (ho); clear HI0; clear HB; clear HK; clear HO423; have HI0 := n0_; have HB := n1_; have HK := n2_; have HO428 := n3_; clear n0_ n1_ n2_ n3_; clear ho hb hg hat))
   go_ret
   exact ⟨_, by first | rfl | (simp [errW_none, errW_some] <;> rfl) | (simp [*, errW_none, errW_some] <;> rfl), Kd.Q_of_R HO428.out, HI0.out, HB.out, HK.out⟩
  ·rw [if_neg c7] at H
   exact absurd H (by simp)
 ·rw [if_neg c6] at H
  have c6b0 : (t424 == 0) = false := beq_eq_false_iff_ne.mpr c6
  have c6b1 : (t424 != 0) = true := bne_iff_ne.mpr c6
  by_cases c11 : t424 = 1
  ·rw [if_pos c11] at H
   have c11b0 : (t424 == 1) = true := beq_iff_eq.mpr c11
   have c11b1 : (t424 != 1) = false := bne_eq_false_iff_eq.mpr c11
   clear c11
   by_cases c12 : (t421.length : Int) > 0
   ·rw [if_pos c12] at H
    have c12b0 : decide (0 < (t421.length : Int)) = true := decide_eq_true c12
    have c12b1 : decide (0 < t421.length) = true := decide_eq_true (by omega)
    clear c12
    by_cases c13 : 1 ≤ (t421.length : Int)
    ·rw [if_pos c13] at H
     have c13b0 := eq_true c13
     have c13b1 : decide (1 ≤ (t421.length : Int)) = true := decide_eq_true c13
     clear c13
     obtain ⟨y429, hy429⟩ : ∃ y_ : List Int, y_ = (t421.drop (1 : Int).toNat) := ⟨_, rfl⟩
     replace H : (some (y429, t425)) = some (r1, r2) := by first | (rw [hy429]; with_reducible exact H) | (have H2_ := (Option.bind_some _ _).symm.trans H; rw [hy429]; with_reducible exact H2_) | (have H2_ := (Option.bind_some _ _).symm.trans H; with_reducible exact H2_) | with_reducible exact H | (rw [hy429]; exact H) | exact H
     have Ny429 := m0 hy429
     clear hy429
     simp only [Option.some.injEq, Prod.mk.injEq] at H
     obtain ⟨rfl, rfl⟩ := H
     go_enter Tryd.func53, Tryd.ntmps53
     go_wp2_with (first | ((with_reducible refine gate_callee (f := 33) rfl ?_); refine goesL_ (some 9) rfl rfl Tryd.func33 (by kernel_rfl) rfl #[.slice A1 l1.length c1] rfl (by (try simp only [List.map_toArray, List.map_cons, List.map_nil]); rfl) ?_; (with_reducible refine (spec_copyInts.calls _ _ l1 t421 _ ?side1 ?side2 A4.out).mono ?_); (case side1 => exact Kd.C_keep 0 HR1.out HK.out hf1); (case side2 => exact HC1.out); rintro e w14 ⟨v422, rfl, ho0, hb⟩; refine ⟨_, rfl, ?_⟩; have n0_ := m0 (Kd.R_lower ho0 (keep_size (w := w) (g := g) (row := none) HK.out)); have n1_ := m0 (IsS80.below HI0.out hb); have n2_ := m0 (KeepBut.trans HK.out (KeepBut.of_below hb g none) (.inl rfl)); have n3_ := m0 (below_step HB.out hb); clear HI0; clear HK; clear HB; have HO423 := n0_; have HI0 := n1_; have HK := n2_; have HB := n3_; clear n0_ n1_ n2_ n3_; (try clear hb); (try clear hb2); (try clear hk); (try clear hi); (try clear ho0)) | ((with_reducible refine gate_callee (f := 50) rfl ?_); refine goesL_ (some 11) rfl rfl Tryd.func50 (by kernel_rfl) rfl #[.pointer (some ⟨g, 0, none⟩), .int .i64 20] rfl (by (try simp only [List.map_toArray, List.map_cons, List.map_nil]); rfl) ?_; (with_reducible refine (spec_reader_pick.calls k g s0_0 s0_1 20 t424 t425 w0 _ ?side1 ?side2 A5.out).mono ?_); (case side1 => exact HI0.out); (case side2 => exact HB.out); rintro e w15 ⟨rfl, hi, hb, hk⟩; refine ⟨_, rfl, ?_⟩; have n0_ := m0 (Kd.R_mono (Kd.R_keep (IsS80.apart (show IsS80 w0 _ g s0_0 s0_1 from HI0.out) HO423.out (by decide)) hk (fun _ h => h.2)) (fun _ h => h.1)); have n1_ := m0 (KeepBut.trans HK.out hk (.inl rfl)); have n2_ := m0 (hb); have n3_ := m0 (hi); clear HO423; clear HK; clear HB; clear HI0; have HO423 := n0_; have HK := n1_; have HB := n2_; have HI0 := n3_; clear n0_ n1_ n2_ n3_; (try clear hb); (try clear hb2); (try clear hk); (try clear hi); obtain ⟨Ao16, co16, eo16⟩ := Kd.R_slice HO423.out; subst eo16; have q17 : (1 : Int) ≤ ((t421.length : Int) : Int) := of_decide_eq_true (by first | (with_reducible assumption) | assumption); obtain ⟨i017, hi017, _, hsz17, _⟩ := info_parts info3; have hcut17 := cut_from (P := Tryd.prog) 23 3 .i64 Tryd.underlying23 hi017 1 hsz17 Ao16 t421.length co16 1 (by omega) q17; have hr17 := Kd.Q_drop (k := (1 : Int).toNat) (Kd.Q_of_R HO423.out) (by omega); obtain ⟨A17, hA17⟩ : ∃ A1, A1 = (if co16 = (1 : Int).toNat then Ao16 else (Ao16 : Option Addr).map (·.add ((1 : Int).toNat * 1))) := ⟨_, rfl⟩; obtain ⟨c17, hc17⟩ : ∃ c1, c1 = co16 - (1 : Int).toNat := ⟨_, rfl⟩; have hy17 : y429.length = t421.length - (1 : Int).toNat := (by rw [Ny429.out, List.length_drop]); rw [← Ny429.out] at hr17; rw [← hy17, ← hA17, ← hc17] at hcut17; replace hr17 : Kd.Q (Kd.int .i64) 3 w15 w.heap.size (fun _ => True) (.slice A17 y429.length c17) y429 := (by rw [hA17, hc17, hy17]; exact hr17); have HE17 : Aside0 ((Value.slice A17 y429.length c17).ownBlock = (.slice Ao16 t421.length co16 : Value).ownBlock) := ⟨by rw [hA17]; split <;> (cases (Ao16 : Option Addr) <;> rfl)⟩; clear hy17 hi017 hsz17 HO423 hA17 hc17; have HO431 := m0 hr17; clear hr17; replace q17 := eq_true q17))
     go_ret
     exact ⟨_, by first | rfl | (simp [errW_none, errW_some] <;> rfl) | (simp [*, errW_none, errW_some] <;> rfl), HO431.out, HI0.out, HB.out, HK.out⟩
    ·rw [if_neg c13] at H
     exact absurd H (by simp)
   ·rw [if_neg c12] at H
    have c12b0 : decide (0 < (t421.length : Int)) = false := decide_eq_false c12
    have c12b1 : decide (0 < t421.length) = false := decide_eq_false (by omega)
    clear c12
    simp only [Option.some.injEq, Prod.mk.injEq] at H
    obtain ⟨rfl, rfl⟩ := H
    go_enter Tryd.func53, Tryd.ntmps53
    go_wp2_with (first | ((with_reducible refine gate_callee (f := 33) rfl ?_); refine goesL_ (some 9) rfl rfl Tryd.func33 (by kernel_rfl) rfl #[.slice A1 l1.length c1] rfl (by (try simp only [List.map_toArray, List.map_cons, List.map_nil]); rfl) ?_; (with_reducible refine (spec_copyInts.calls _ _ l1 t421 _ ?side1 ?side2 A4.out).mono ?_); (case side1 => exact Kd.C_keep 0 HR1.out HK.out hf1); (case side2 => exact HC1.out); rintro e w18 ⟨v422, rfl, ho0, hb⟩; refine ⟨_, rfl, ?_⟩; have n0_ := m0 (Kd.R_lower ho0 (keep_size (w := w) (g := g) (row := none) HK.out)); have n1_ := m0 (IsS80.below HI0.out hb); have n2_ := m0 (KeepBut.trans HK.out (KeepBut.of_below hb g none) (.inl rfl)); have n3_ := m0 (below_step HB.out hb); clear HI0; clear HK; clear HB; have HO423 := n0_; have HI0 := n1_; have HK := n2_; have HB := n3_; clear n0_ n1_ n2_ n3_; (try clear hb); (try clear hb2); (try clear hk); (try clear hi); (try clear ho0)) | ((with_reducible refine gate_callee (f := 50) rfl ?_); refine goesL_ (some 11) rfl rfl Tryd.func50 (by kernel_rfl) rfl #[.pointer (some ⟨g, 0, none⟩), .int .i64 20] rfl (by (try simp only [List.map_toArray, List.map_cons, List.map_nil]); rfl) ?_; (with_reducible refine (spec_reader_pick.calls k g s0_0 s0_1 20 t424 t425 w0 _ ?side1 ?side2 A5.out).mono ?_); (case side1 => exact HI0.out); (case side2 => exact HB.out); rintro e w19 ⟨rfl, hi, hb, hk⟩; refine ⟨_, rfl, ?_⟩; have n0_ := m0 (Kd.R_mono (Kd.R_keep (IsS80.apart (show IsS80 w0 _ g s0_0 s0_1 from HI0.out) HO423.out (by decide)) hk (fun _ h => h.2)) (fun _ h => h.1)); have n1_ := m0 (KeepBut.trans HK.out hk (.inl rfl)); have n2_ := m0 (hb); have n3_ := m0 (hi); clear HO423; clear HK; clear HB; clear HI0; have HO423 := n0_; have HK := n1_; have HB := n2_; have HI0 := n3_; clear n0_ n1_ n2_ n3_; (try clear hb); (try clear hb2); (try clear hk); (try clear hi); obtain ⟨Ao20, co20, eo20⟩ := Kd.R_slice HO423.out; subst eo20))
    go_ret
    exact ⟨_, by first | rfl | (simp [errW_none, errW_some] <;> rfl) | (simp [*, errW_none, errW_some] <;> rfl), Kd.Q_of_R HO423.out, HI0.out, HB.out, HK.out⟩
  ·rw [if_neg c11] at H
   have c11b0 : (t424 == 1) = false := beq_eq_false_iff_ne.mpr c11
   have c11b1 : (t424 != 1) = true := bne_iff_ne.mpr c11
   by_cases c21 : t424 = 2
   ·rw [if_pos c21] at H
    have c21b0 : (t424 == 2) = true := beq_iff_eq.mpr c21
    have c21b1 : (t424 != 2) = false := bne_eq_false_iff_eq.mpr c21
    clear c21
    by_cases c22 : (t421.length : Int) > 0
    ·rw [if_pos c22] at H
     have c22b0 : decide (0 < (t421.length : Int)) = true := decide_eq_true c22
     have c22b1 : decide (0 < t421.length) = true := decide_eq_true (by omega)
     clear c22
     replace H := Option.bind_eq_some_iff.mp H
     obtain ⟨⟨t432, t433⟩, A230, H⟩ := H
     replace H : ((spec_reader_one.f k s0_0 t433 (([(-1), a2, 0, 1] : List Int))).bind fun bt437 => (if 0 ≤ t432 then (if t432 < (t421.length : Int) then (some ((t421.set (t432 : Int).toNat bt437.1), bt437.2)) else (none)) else (none))) = some (r1, r2) := H
     have A23 := m0 A230
     clear A230
     obtain ⟨y434, hy434⟩ : ∃ y_ : List Int, y_ = (([(-1), a2, 0, 1] : List Int)) := ⟨_, rfl⟩
     replace H : ((spec_reader_one.f k s0_0 t433 y434).bind fun bt437 => (if 0 ≤ t432 then (if t432 < (t421.length : Int) then (some ((t421.set (t432 : Int).toNat bt437.1), bt437.2)) else (none)) else (none))) = some (r1, r2) := by first | (rw [hy434]; with_reducible exact H) | (have H2_ := (Option.bind_some _ _).symm.trans H; rw [hy434]; with_reducible exact H2_) | (have H2_ := (Option.bind_some _ _).symm.trans H; with_reducible exact H2_) | with_reducible exact H | (rw [hy434]; exact H) | exact H
     have Ny434 := m0 hy434
     clear hy434
     replace H := Option.bind_eq_some_iff.mp H
     obtain ⟨⟨t437, t438⟩, A240, H⟩ := H
     replace H : (if 0 ≤ t432 then (if t432 < (t421.length : Int) then (some ((t421.set (t432 : Int).toNat t437), t438)) else (none)) else (none)) = some (r1, r2) := H
     have A24 := m0 A240
     clear A240
     by_cases c25 : 0 ≤ t432
     ·rw [if_pos c25] at H
      have c25b0 : decide (0 ≤ t432) = true := decide_eq_true c25
      clear c25
      by_cases c26 : t432 < (t421.length : Int)
      ·rw [if_pos c26] at H
       have c26b0 : decide (t432 < (t421.length : Int)) = true := decide_eq_true c26
       clear c26
       obtain ⟨y439, hy439⟩ : ∃ y_ : List Int, y_ = (t421.set (t432 : Int).toNat t437) := ⟨_, rfl⟩
       replace H : (some (y439, t438)) = some (r1, r2) := by first | (rw [hy439]; with_reducible exact H) | (have H2_ := (Option.bind_some _ _).symm.trans H; rw [hy439]; with_reducible exact H2_) | (have H2_ := (Option.bind_some _ _).symm.trans H; with_reducible exact H2_) | with_reducible exact H | (rw [hy439]; exact H) | exact H
       have Ny439 := m0 hy439
       clear hy439
       simp only [Option.some.injEq, Prod.mk.injEq] at H
       obtain ⟨rfl, rfl⟩ := H
       go_enter Tryd.func53, Tryd.ntmps53
       go_wp2_with (first | ((with_reducible refine gate_callee (f := 33) rfl ?_); refine goesL_ (some 9) rfl rfl Tryd.func33 (by kernel_rfl) rfl #[.slice A1 l1.length c1] rfl (by (try simp only [List.map_toArray, List.map_cons, List.map_nil]); rfl) ?_; (with_reducible refine (spec_copyInts.calls _ _ l1 t421 _ ?side1 ?side2 A4.out).mono ?_); (case side1 => exact Kd.C_keep 0 HR1.out HK.out hf1); (case side2 => exact HC1.out); rintro e w28 ⟨v422, rfl, ho0, hb⟩; refine ⟨_, rfl, ?_⟩; have n0_ := m0 (Kd.R_lower ho0 (keep_size (w := w) (g := g) (row := none) HK.out)); have n1_ := m0 (IsS80.below HI0.out hb); have n2_ := m0 (KeepBut.trans HK.out (KeepBut.of_below hb g none) (.inl rfl)); have n3_ := m0 (below_step HB.out hb); clear HI0; clear HK; clear HB; have HO423 := n0_; have HI0 := n1_; have HK := n2_; have HB := n3_; clear n0_ n1_ n2_ n3_; (try clear hb); (try clear hb2); (try clear hk); (try clear hi); (try clear ho0)) | ((with_reducible refine gate_callee (f := 50) rfl ?_); refine goesL_ (some 11) rfl rfl Tryd.func50 (by kernel_rfl) rfl #[.pointer (some ⟨g, 0, none⟩), .int .i64 20] rfl (by (try simp only [List.map_toArray, List.map_cons, List.map_nil]); rfl) ?_; (with_reducible refine (spec_reader_pick.calls k g s0_0 s0_1 20 t424 t425 w0 _ ?side1 ?side2 A5.out).mono ?_); (case side1 => exact HI0.out); (case side2 => exact HB.out); rintro e w29 ⟨rfl, hi, hb, hk⟩; refine ⟨_, rfl, ?_⟩; have n0_ := m0 (Kd.R_mono (Kd.R_keep (IsS80.apart (show IsS80 w0 _ g s0_0 s0_1 from HI0.out) HO423.out (by decide)) hk (fun _ h => h.2)) (fun _ h => h.1)); have n1_ := m0 (KeepBut.trans HK.out hk (.inl rfl)); have n2_ := m0 (hb); have n3_ := m0 (hi); clear HO423; clear HK; clear HB; clear HI0; have HO423 := n0_; have HK := n1_; have HB := n2_; have HI0 := n3_; clear n0_ n1_ n2_ n3_; (try clear hb); (try clear hb2); (try clear hk); (try clear hi); obtain ⟨Ao30, co30, eo30⟩ := Kd.R_slice HO423.out; subst eo30) | ((with_reducible refine gate_callee (f := 50) rfl ?_); refine goesL_ (some 34) rfl rfl Tryd.func50 (by kernel_rfl) rfl #[.pointer (some ⟨g, 0, none⟩), .int .i64 (t421.length : Int)] rfl (by (try simp only [List.map_toArray, List.map_cons, List.map_nil]); rfl) ?_; (with_reducible refine (spec_reader_pick.calls k g s0_0 t425 (t421.length : Int) t432 t433 w0 _ ?side1 ?side2 A23.out).mono ?_); (case side1 => exact HI0.out); (case side2 => exact HB.out); rintro e w31 ⟨rfl, hi, hb, hk⟩; refine ⟨_, rfl, ?_⟩; have n0_ := m0 (Kd.R_mono (Kd.R_keep (IsS80.apart (show IsS80 w0 _ g s0_0 t425 from HI0.out) HO423.out (by decide)) hk (fun _ h => h.2)) (fun _ h => h.1)); have n1_ := m0 (KeepBut.trans HK.out hk (.inl rfl)); have n2_ := m0 (hb); have n3_ := m0 (hi); clear HO423; clear HK; clear HB; clear HI0; have HO423 := n0_; have HK := n1_; have HB := n2_; have HI0 := n3_; clear n0_ n1_ n2_ n3_; (try clear hb); (try clear hb2); (try clear hk); (try clear hi)) | ((with_reducible refine gate_dst (N := 37) rfl ?_); refine Kd.R_lit (Kd.int .i64) _ 3 ?hg (N := 37) ?hd (xs := ([(-1), a2, 0, 1] : List Int)) (inner := [.int .i64 (-1), .int .i64 a2, .int .i64 0, .int .i64 1]) (ok := fun _ => True) (okp := fun _ => True) ?hr ?hp (fun _ hk => hk) trivial (Below.refl _ _) (Nat.le_refl _) (by simp) ?_; (case hd => rfl); (case hg => rfl); (case hr => first | (go_simp; done) | (go_simp; rfl)); (case hp => exact (Reps.one (show Kd.M (Kd.int .i64) _ _ _ (-1) [.int .i64 (-1)] from rfl) (Reps.one (show Kd.M (Kd.int .i64) _ _ _ a2 [.int .i64 a2] from rfl) (Reps.one (show Kd.M (Kd.int .i64) _ _ _ 0 [.int .i64 0] from rfl) (Reps.one (show Kd.M (Kd.int .i64) _ _ _ 1 [.int .i64 1] from rfl) (Reps.none _ _)))))); intro v435 w32 ho33 hb hg_ hnew_; clear hg_ hnew_; (first | rw [← Ny434.out] at ho33 | (simp only [Int.reduceToNat] at ho33; rw [← Ny434.out] at ho33)); have n0_ := m0 (Kd.R_elder' HO423.out (Kd.R_base ho33) hb); have n1_ := m0 (Kd.R_lower (Kd.R_new' ho33 (Kd.R_lt HO423.out)) (keep_size (w := w) (g := g) (row := none) HK.out)); have n2_ := m0 (IsS80.below HI0.out hb); have n3_ := m0 (KeepBut.trans HK.out (KeepBut.of_below hb g none) (.inl rfl)); have n4_ := m0 (below_step HB.out hb); clear HO423; clear HI0; clear HK; clear HB; have HO423 := n0_; have HO436 := n1_; have HI0 := n2_; have HK := n3_; have HB := n4_; clear n0_ n1_ n2_ n3_ n4_; clear hb ho33; obtain ⟨Ao34, co34, eo34⟩ := Kd.R_slice HO436.out; subst eo34) | ((with_reducible refine gate_callee (f := 54) rfl ?_); refine goesL_ (some 38) rfl rfl Tryd.func54 (by kernel_rfl) rfl #[.pointer (some ⟨g, 0, none⟩), .slice Ao34 y434.length co34] rfl (by (try simp only [List.map_toArray, List.map_cons, List.map_nil]); rfl) ?_; (with_reducible refine (spec_reader_one.calls k g s0_0 t433 _ _ y434 t437 t438 w0 _ ?side1 ?side2 ?side3 ?side4 ?side5 A24.out).mono ?_); (case side1 => exact HI0.out); (case side2 => exact HB.out); (case side3 => exact (Kd.R_reads' HO436.out).2.2); (case side4 => exact (Kd.R_reads' HO436.out).2.1); (case side5 => exact far_slice (IsS80.own_ne HI0.out HO436.out (by decide))); rintro e w35 ⟨rfl, hi, hb, hk⟩; refine ⟨_, rfl, ?_⟩; have n0_ := m0 (Kd.R_mono (Kd.R_keep (IsS80.apart (show IsS80 w0 _ g s0_0 t433 from HI0.out) HO423.out (by decide)) hk (fun _ h => h.2)) (fun _ h => h.1)); have n1_ := m0 (Kd.R_mono (Kd.R_keep (IsS80.apart (show IsS80 w0 _ g s0_0 t433 from HI0.out) HO436.out (by decide)) hk (fun _ h => h.2)) (fun _ h => h.1)); have n2_ := m0 (KeepBut.trans HK.out hk (.inl rfl)); have n3_ := m0 (hb); have n4_ := m0 (hi); clear HO423; clear HO436; clear HK; clear HB; clear HI0; have HO423 := n0_; have HO436 := n1_; have HK := n2_; have HB := n3_; have HI0 := n4_; clear n0_ n1_ n2_ n3_ n4_; (try clear hb); (try clear hb2); (try clear hk); (try clear hi); have p27 : 0 ≤ (t432 : Int) := of_decide_eq_true (by first | (with_reducible assumption) | assumption); have q27 : (t432 : Int) < ((t421.length : Int) : Int) := of_decide_eq_true (by first | (with_reducible assumption) | assumption); obtain ⟨go27, co27, eo27, gb27, gl27, cl27, HG27⟩ := Kd.R_form HO423.out (by omega); (first | cases eo27 | (injection eo27 with ea_ en_ ec_; (first | subst ea_ | (injection ea_ with ea_; subst ea_)); subst ec_; clear en_)); have GB27 := m0 gb27; have GG27 := m0 HG27; clear gb27 gl27 HG27; obtain ⟨hx27_0, hf27_0⟩ := Kd.R_celln 0 HO423.out (t432 : Int) p27 q27; replace p27 := eq_true p27; replace q27 := eq_true q27; have n_ := m0 (Kd.R_mono (ok' := (fun k_ => some k_ ≠ (.slice Ao34 y434.length co34 : Value).ownBlock)) HO423.out (fun k_ hk => hk.2)); clear HO423; have HO423 := n_; clear n_; obtain ⟨hy36_, hz36_⟩ := Kd.R_celln 0 HO423.out (t432 : Int) (of_decide_eq_true (by first | (with_reducible assumption) | assumption)) (of_decide_eq_true (by first | (with_reducible assumption) | assumption)); have HP36 := Kd.R_putg HO423.out (t432 : Int) t437) | ((with_reducible refine gate_store (t := 3) (p := 39) rfl ?_); refine store_event (t := 3) (p := 39) (v := ?vo_w37) (w1 := (w35.setCell ⟨go27, (t432 : Int).toNat, none⟩ (.int .i64 t437))) ?hg ?ho ?hn ?hr ?_; (case ho => rfl); (case hg => rfl); (case hn => rfl); (case hr => (first | (go_simp; done) | (go_simp; rfl))); intro w37 hw; have hg : w35.grownBy w37 (some go27) := (by rw [hw]; exact HP36.2); have hp_ : Kd.R (Kd.int .i64) 3 w37 w.heap.size (fun k_ => some k_ ≠ (.slice Ao34 y434.length co34 : Value).ownBlock) (.slice (some ⟨go27, 0, none⟩) t421.length co30) y439 := (by rw [hw, Ny439.out]; exact HP36.1); clear HP36; have n0_ := m0 (IsS80.grown HI0.out hg (IsS80.own_ne HI0.out HO423.out (by decide))); have n1_ := m0 (hp_); have n2_ := m0 (Kd.R_after (v := (.slice (some ⟨go27, 0, none⟩) t421.length co30)) (v1 := (.slice (some ⟨go27, 0, none⟩) t421.length co30)) (ok := (fun _ => True)) HO436.out hg (.inl rfl)); have n3_ := m0 ((by rw [hw]; exact below_set (HB.out) (Nat.le_trans HL.out GB27.out) : Below w0.heap.size w0 w37)); have n4_ := m0 (KeepBut.trans HK.out (KeepBut.of_grown hg g) (Kd.R_base2 HO423.out)); clear HI0; clear HO423; clear HO436; clear HB; clear HK; have HI0 := n0_; have HO423 := n1_; have HO436 := n2_; have HB := n3_; have HK := n4_; clear n0_ n1_ n2_ n3_ n4_; clear hg hw hp_))
       go_ret
       exact ⟨_, by first | rfl | (simp [errW_none, errW_some] <;> rfl) | (simp [*, errW_none, errW_some] <;> rfl), Kd.Q_of_R (Kd.R_mono HO423.out (fun _ hk => trivial)), HI0.out, HB.out, HK.out⟩
      ·rw [if_neg c26] at H
       exact absurd H (by simp)
     ·rw [if_neg c25] at H
      exact absurd H (by simp)
    ·rw [if_neg c22] at H
     have c22b0 : decide (0 < (t421.length : Int)) = false := decide_eq_false c22
     have c22b1 : decide (0 < t421.length) = false := decide_eq_false (by omega)
     clear c22
     simp only [Option.some.injEq, Prod.mk.injEq] at H
     obtain ⟨rfl, rfl⟩ := H
     go_enter Tryd.func53, Tryd.ntmps53
     go_wp2_with (first | ((with_reducible refine gate_callee (f := 33) rfl ?_); refine goesL_ (some 9) rfl rfl Tryd.func33 (by kernel_rfl) rfl #[.slice A1 l1.length c1] rfl (by (try simp only [List.map_toArray, List.map_cons, List.map_nil]); rfl) ?_; (with_reducible refine (spec_copyInts.calls _ _ l1 t421 _ ?side1 ?side2 A4.out).mono ?_); (case side1 => exact Kd.C_keep 0 HR1.out HK.out hf1); (case side2 => exact HC1.out); rintro e w38 ⟨v422, rfl, ho0, hb⟩; refine ⟨_, rfl, ?_⟩; have n0_ := m0 (Kd.R_lower ho0 (keep_size (w := w) (g := g) (row := none) HK.out)); have n1_ := m0 (IsS80.below HI0.out hb); have n2_ := m0 (KeepBut.trans HK.out (KeepBut.of_below hb g none) (.inl rfl)); have n3_ := m0 (below_step HB.out hb); clear HI0; clear HK; clear HB; have HO423 := n0_; have HI0 := n1_; have HK := n2_; have HB := n3_; clear n0_ n1_ n2_ n3_; (try clear hb); (try clear hb2); (try clear hk); (try clear hi); (try clear ho0)) | ((with_reducible refine gate_callee (f := 50) rfl ?_); refine goesL_ (some 11) rfl rfl Tryd.func50 (by kernel_rfl) rfl #[.pointer (some ⟨g, 0, none⟩), .int .i64 20] rfl (by (try simp only [List.map_toArray, List.map_cons, List.map_nil]); rfl) ?_; (with_reducible refine (spec_reader_pick.calls k g s0_0 s0_1 20 t424 t425 w0 _ ?side1 ?side2 A5.out).mono ?_); (case side1 => exact HI0.out); (case side2 => exact HB.out); rintro e w39 ⟨rfl, hi, hb, hk⟩; refine ⟨_, rfl, ?_⟩; have n0_ := m0 (Kd.R_mono (Kd.R_keep (IsS80.apart (show IsS80 w0 _ g s0_0 s0_1 from HI0.out) HO423.out (by decide)) hk (fun _ h => h.2)) (fun _ h => h.1)); have n1_ := m0 (KeepBut.trans HK.out hk (.inl rfl)); have n2_ := m0 (hb); have n3_ := m0 (hi); clear HO423; clear HK; clear HB; clear HI0; have HO423 := n0_; have HK := n1_; have HB := n2_; have HI0 := n3_; clear n0_ n1_ n2_ n3_; (try clear hb); (try clear hb2); (try clear hk); (try clear hi); obtain ⟨Ao40, co40, eo40⟩ := Kd.R_slice HO423.out; subst eo40))
     go_ret
     exact ⟨_, by first | rfl | (simp [errW_none, errW_some] <;> rfl) | (simp [*, errW_none, errW_some] <;> rfl), Kd.Q_of_R HO423.out, HI0.out, HB.out, HK.out⟩
   ·rw [if_neg c21] at H
    have c21b0 : (t424 == 2) = false := beq_eq_false_iff_ne.mpr c21
    have c21b1 : (t424 != 2) = true := bne_iff_ne.mpr c21
    simp only [Option.some.injEq, Prod.mk.injEq] at H
    obtain ⟨rfl, rfl⟩ := H
    go_enter Tryd.func53, Tryd.ntmps53
    go_wp2_with (first | ((with_reducible refine gate_callee (f := 33) rfl ?_); refine goesL_ (some 9) rfl rfl Tryd.func33 (by kernel_rfl) rfl #[.slice A1 l1.length c1] rfl (by (try simp only [List.map_toArray, List.map_cons, List.map_nil]); rfl) ?_; (with_reducible refine (spec_copyInts.calls _ _ l1 t421 _ ?side1 ?side2 A4.out).mono ?_); (case side1 => exact Kd.C_keep 0 HR1.out HK.out hf1); (case side2 => exact HC1.out); rintro e w41 ⟨v422, rfl, ho0, hb⟩; refine ⟨_, rfl, ?_⟩; have n0_ := m0 (Kd.R_lower ho0 (keep_size (w := w) (g := g) (row := none) HK.out)); have n1_ := m0 (IsS80.below HI0.out hb); have n2_ := m0 (KeepBut.trans HK.out (KeepBut.of_below hb g none) (.inl rfl)); have n3_ := m0 (below_step HB.out hb); clear HI0; clear HK; clear HB; have HO423 := n0_; have HI0 := n1_; have HK := n2_; have HB := n3_; clear n0_ n1_ n2_ n3_; (try clear hb); (try clear hb2); (try clear hk); (try clear hi); (try clear ho0)) | ((with_reducible refine gate_callee (f := 50) rfl ?_); refine goesL_ (some 11) rfl rfl Tryd.func50 (by kernel_rfl) rfl #[.pointer (some ⟨g, 0, none⟩), .int .i64 20] rfl (by (try simp only [List.map_toArray, List.map_cons, List.map_nil]); rfl) ?_; (with_reducible refine (spec_reader_pick.calls k g s0_0 s0_1 20 t424 t425 w0 _ ?side1 ?side2 A5.out).mono ?_); (case side1 => exact HI0.out); (case side2 => exact HB.out); rintro e w42 ⟨rfl, hi, hb, hk⟩; refine ⟨_, rfl, ?_⟩; have n0_ := m0 (Kd.R_mono (Kd.R_keep (IsS80.apart (show IsS80 w0 _ g s0_0 s0_1 from HI0.out) HO423.out (by decide)) hk (fun _ h => h.2)) (fun _ h => h.1)); have n1_ := m0 (KeepBut.trans HK.out hk (.inl rfl)); have n2_ := m0 (hb); have n3_ := m0 (hi); clear HO423; clear HK; clear HB; clear HI0; have HO423 := n0_; have HK := n1_; have HB := n2_; have HI0 := n3_; clear n0_ n1_ n2_ n3_; (try clear hb); (try clear hb2); (try clear hk); (try clear hi)))
    go_ret
    exact ⟨_, by first | rfl | (simp [errW_none, errW_some] <;> rfl) | (simp [*, errW_none, errW_some] <;> rfl), Kd.Q_of_R HO423.out, HI0.out, HB.out, HK.out⟩
end Go.Proofs.YtimbfcedigaffaaDoor.P
end
section
namespace Go.Proofs.YtimbfcedigaffaaDoor.P
open Go.RowKit Go.Proofs.YtimbfcedigaffaaDoorW.PrintWords Go.Proofs.YtimbfcedigaffaaDoorW.PrintLast Go.Proofs.YtimbfcedigaffaaDoorW.PrintMore
attribute [local go_sem] max2_int min2_int max_two min_two max_three min_three max_four min_four
def spec_someRoom.f (k : Nat) (s0_0 : List Int) (s0_1 : Int) : Option (List Int × Int) := (spec_reader_one.f k s0_0 s0_1 (([4, 5, 8, 4] : List Int))).bind fun bt453 => ((spec_reader_one.f k s0_0 bt453.2 (([4, 6, 8] : List Int))).bind fun bt458 => ((spec_reader_one.f k s0_0 bt458.2 (([4, 4, 7] : List Int))).bind fun bt463 => ((spec_reader_spoil.f k s0_0 bt463.2 (([bt453.1, bt458.1, bt463.1] : List Int)) 9).bind fun bt468 => (some (bt468.1, bt468.2)))))
theorem spec_someRoom.mono : ∀ a0 a1 k, LeO (spec_someRoom.f k a0 a1) (spec_someRoom.f (k + 1) a0 a1) := by
 intro a0 a1 k
 unfold spec_someRoom.f
 repeat' first
   | (with_reducible exact spec_reader_one.mono _ _ _ _)
   | (with_reducible exact spec_reader_spoil.mono _ _ _ _ _)
   | (with_reducible exact LeO.refl _)
   | (with_reducible exact LeO.none _)
   | (with_reducible refine LeO.ite ?_ ?_)
   | (with_reducible refine LeO.bind ?_ (fun _ => ?_))
   | exact spec_reader_one.mono _ _ _ _
   | exact spec_reader_spoil.mono _ _ _ _ _
   | exact LeO.none _
   | refine LeO.ite ?_ ?_
   | refine LeO.bind ?_ (fun _ => ?_)
set_option maxHeartbeats 8000000 in
set_option maxRecDepth 100000 in
theorem spec_someRoom.calls (k : Nat) (g : Nat) (s0_0 : List Int) (s0_1 : Int) (r1 : List Int) (r2 : Int) (w0 w : World) (hI : IsS80 w0 w g s0_0 s0_1) (hB : Below w0.heap.size w0 w) (h : spec_someRoom.f k s0_0 s0_1 = some (r1, r2)) :
  Calls Tryd.prog 36 #[.pointer (some ⟨g, 0, none⟩)] w fun e w' => ∃ v0_ : Value, e = .returned (v0_) ∧ Kd.Q (Kd.int .i64) 3 w' w.heap.size (fun _ => True) v0_ r1 ∧ IsS80 w0 w' g s0_0 r2 ∧ Below w0.heap.size w0 w' ∧ KeepBut w w' g none := by
 have HI0 := m0 hI
 have HK := m0 (KeepBut.refl w g none)
 have HL := m0 hB.size
 clear hI
 have HW0 := m0 hB.size
 have HB := m0 hB
 clear hB
 have H : ((spec_reader_one.f k s0_0 s0_1 (([4, 5, 8, 4] : List Int))).bind fun bt453 => ((spec_reader_one.f k s0_0 bt453.2 (([4, 6, 8] : List Int))).bind fun bt458 => ((spec_reader_one.f k s0_0 bt458.2 (([4, 4, 7] : List Int))).bind fun bt463 => ((spec_reader_spoil.f k s0_0 bt463.2 (([bt453.1, bt458.1, bt463.1] : List Int)) 9).bind fun bt468 => (some (bt468.1, bt468.2)))))) = some (r1, r2) := h
 clear h
 obtain ⟨y450, hy450⟩ : ∃ y_ : List Int, y_ = (([4, 5, 8, 4] : List Int)) := ⟨_, rfl⟩
 replace H : ((spec_reader_one.f k s0_0 s0_1 y450).bind fun bt453 => ((spec_reader_one.f k s0_0 bt453.2 (([4, 6, 8] : List Int))).bind fun bt458 => ((spec_reader_one.f k s0_0 bt458.2 (([4, 4, 7] : List Int))).bind fun bt463 => ((spec_reader_spoil.f k s0_0 bt463.2 (([bt453.1, bt458.1, bt463.1] : List Int)) 9).bind fun bt468 => (some (bt468.1, bt468.2)))))) = some (r1, r2) := by first | (rw [hy450]; with_reducible exact H) | (have H2_ := (Option.bind_some _ _).symm.trans H; rw [hy450]; with_reducible exact H2_) | (have H2_ := (Option.bind_some _ _).symm.trans H; with_reducible exact H2_) | with_reducible exact H | (rw [hy450]; exact H) | exact H
 have Ny450 := m0 hy450
 clear hy450
 replace H := Option.bind_eq_some_iff.mp H
 obtain ⟨⟨t453, t454⟩, A20, H⟩ := H
 replace H : ((spec_reader_one.f k s0_0 t454 (([4, 6, 8] : List Int))).bind fun bt458 => ((spec_reader_one.f k s0_0 bt458.2 (([4, 4, 7] : List Int))).bind fun bt463 => ((spec_reader_spoil.f k s0_0 bt463.2 (([t453, bt458.1, bt463.1] : List Int)) 9).bind fun bt468 => (some (bt468.1, bt468.2))))) = some (r1, r2) := H
 have A2 := m0 A20
 clear A20
 obtain ⟨y455, hy455⟩ : ∃ y_ : List Int, y_ = (([4, 6, 8] : List Int)) := ⟨_, rfl⟩
 replace H : ((spec_reader_one.f k s0_0 t454 y455).bind fun bt458 => ((spec_reader_one.f k s0_0 bt458.2 (([4, 4, 7] : List Int))).bind fun bt463 => ((spec_reader_spoil.f k s0_0 bt463.2 (([t453, bt458.1, bt463.1] : List Int)) 9).bind fun bt468 => (some (bt468.1, bt468.2))))) = some (r1, r2) := by first | (rw [hy455]; with_reducible exact H) | (have H2_ := (Option.bind_some _ _).symm.trans H; rw [hy455]; with_reducible exact H2_) | (have H2_ := (Option.bind_some _ _).symm.trans H; with_reducible exact H2_) | with_reducible exact H | (rw [hy455]; exact H) | exact H
 have Ny455 := m0 hy455
 clear hy455
 replace H := Option.bind_eq_some_iff.mp H
 obtain ⟨⟨t458, t459⟩, A30, H⟩ := H
 replace H : ((spec_reader_one.f k s0_0 t459 (([4, 4, 7] : List Int))).bind fun bt463 => ((spec_reader_spoil.f k s0_0 bt463.2 (([t453, t458, bt463.1] : List Int)) 9).bind fun bt468 => (some (bt468.1, bt468.2)))) = some (r1, r2) := H
 have A3 := m0 A30
 clear A30
 obtain ⟨y460, hy460⟩ : ∃ y_ : List Int, y_ = (([4, 4, 7] : List Int)) := ⟨_, rfl⟩
 replace H : ((spec_reader_one.f k s0_0 t459 y460).bind fun bt463 => ((spec_reader_spoil.f k s0_0 bt463.2 (([t453, t458, bt463.1] : List Int)) 9).bind fun bt468 => (some (bt468.1, bt468.2)))) = some (r1, r2) := by first | (rw [hy460]; with_reducible exact H) | (have H2_ := (Option.bind_some _ _).symm.trans H; rw [hy460]; with_reducible exact H2_) | (have H2_ := (Option.bind_some _ _).symm.trans H; with_reducible exact H2_) | with_reducible exact H | (rw [hy460]; exact H) | exact H
 have Ny460 := m0 hy460
 clear hy460
 replace H := Option.bind_eq_some_iff.mp H
 obtain ⟨⟨t463, t464⟩, A40, H⟩ := H
 replace H : ((spec_reader_spoil.f k s0_0 t464 (([t453, t458, t463] : List Int)) 9).bind fun bt468 => (some (bt468.1, bt468.2))) = some (r1, r2) := H
 have A4 := m0 A40
 clear A40
 obtain ⟨y465, hy465⟩ : ∃ y_ : List Int, y_ = (([t453, t458, t463] : List Int)) := ⟨_, rfl⟩
 replace H : ((spec_reader_spoil.f k s0_0 t464 y465 9).bind fun bt468 => (some (bt468.1, bt468.2))) = some (r1, r2) := by first | (rw [hy465]; with_reducible exact H) | (have H2_ := (Option.bind_some _ _).symm.trans H; rw [hy465]; with_reducible exact H2_) | (have H2_ := (Option.bind_some _ _).symm.trans H; with_reducible exact H2_) | with_reducible exact H | (rw [hy465]; exact H) | exact H
 have Ny465 := m0 hy465
 clear hy465
 replace H := Option.bind_eq_some_iff.mp H
 obtain ⟨⟨t468, t471⟩, A50, H⟩ := H
 replace H : (some (t468, t471)) = some (r1, r2) := H
 have A5 := m0 A50
 clear A50
 simp only [Option.some.injEq, Prod.mk.injEq] at H
 obtain ⟨rfl, rfl⟩ := H
 go_enter Tryd.func36, Tryd.ntmps36
 go_wp2_with (first | ((with_reducible refine gate_dst (N := 5) rfl ?_); refine Kd.R_lit (Kd.int .i64) _ 3 ?hg (N := 5) ?hd (xs := ([4, 5, 8, 4] : List Int)) (inner := [.int .i64 4, .int .i64 5, .int .i64 8, .int .i64 4]) (ok := fun _ => True) (okp := fun _ => True) ?hr ?hp (fun _ hk => hk) trivial (Below.refl _ _) (Nat.le_refl _) (by simp) ?_; (case hd => rfl); (case hg => rfl); (case hr => first | (go_simp; done) | (go_simp; rfl)); (case hp => exact (Reps.one (show Kd.M (Kd.int .i64) _ _ _ 4 [.int .i64 4] from rfl) (Reps.one (show Kd.M (Kd.int .i64) _ _ _ 5 [.int .i64 5] from rfl) (Reps.one (show Kd.M (Kd.int .i64) _ _ _ 8 [.int .i64 8] from rfl) (Reps.one (show Kd.M (Kd.int .i64) _ _ _ 4 [.int .i64 4] from rfl) (Reps.none _ _)))))); intro v451 w6 ho7 hb hg_ hnew_; clear hg_ hnew_; (first | rw [← Ny450.out] at ho7 | (simp only [Int.reduceToNat] at ho7; rw [← Ny450.out] at ho7)); have n0_ := m0 (Kd.R_lower ho7 (keep_size (w := w) (g := g) (row := none) HK.out)); have n1_ := m0 (IsS80.below HI0.out hb); have n2_ := m0 (KeepBut.trans HK.out (KeepBut.of_below hb g none) (.inl rfl)); have n3_ := m0 (below_step HB.out hb); clear HI0; clear HK; clear HB; have HO452 := n0_; have HI0 := n1_; have HK := n2_; have HB := n3_; clear n0_ n1_ n2_ n3_; clear hb ho7; obtain ⟨Ao8, co8, eo8⟩ := Kd.R_slice HO452.out; subst eo8) | ((with_reducible refine gate_callee (f := 54) rfl ?_); refine goesL_ (some 6) rfl rfl Tryd.func54 (by kernel_rfl) rfl #[.pointer (some ⟨g, 0, none⟩), .slice Ao8 y450.length co8] rfl (by (try simp only [List.map_toArray, List.map_cons, List.map_nil]); rfl) ?_; (with_reducible refine (spec_reader_one.calls k g s0_0 s0_1 _ _ y450 t453 t454 w0 _ ?side1 ?side2 ?side3 ?side4 ?side5 A2.out).mono ?_); (case side1 => exact HI0.out); (case side2 => exact HB.out); (case side3 => exact (Kd.R_reads' HO452.out).2.2); (case side4 => exact (Kd.R_reads' HO452.out).2.1); (case side5 => exact far_slice (IsS80.own_ne HI0.out HO452.out (by decide))); rintro e w9 ⟨rfl, hi, hb, hk⟩; refine ⟨_, rfl, ?_⟩; have n0_ := m0 (Kd.R_mono (Kd.R_keep (IsS80.apart (show IsS80 w0 _ g s0_0 s0_1 from HI0.out) HO452.out (by decide)) hk (fun _ h => h.2)) (fun _ h => h.1)); have n1_ := m0 (KeepBut.trans HK.out hk (.inl rfl)); have n2_ := m0 (hb); have n3_ := m0 (hi); clear HO452; clear HK; clear HB; clear HI0; have HO452 := n0_; have HK := n1_; have HB := n2_; have HI0 := n3_; clear n0_ n1_ n2_ n3_; (try clear hb); (try clear hb2); (try clear hk); (try clear hi)) | ((with_reducible refine gate_dst (N := 8) rfl ?_); refine Kd.R_lit (Kd.int .i64) _ 3 ?hg (N := 8) ?hd (xs := ([4, 6, 8] : List Int)) (inner := [.int .i64 4, .int .i64 6, .int .i64 8]) (ok := fun _ => True) (okp := fun _ => True) ?hr ?hp (fun _ hk => hk) trivial (Below.refl _ _) (Nat.le_refl _) (by simp) ?_; (case hd => rfl); (case hg => rfl); (case hr => first | (go_simp; done) | (go_simp; rfl)); (case hp => exact (Reps.one (show Kd.M (Kd.int .i64) _ _ _ 4 [.int .i64 4] from rfl) (Reps.one (show Kd.M (Kd.int .i64) _ _ _ 6 [.int .i64 6] from rfl) (Reps.one (show Kd.M (Kd.int .i64) _ _ _ 8 [.int .i64 8] from rfl) (Reps.none _ _))))); intro v456 w10 ho11 hb hg_ hnew_; clear hg_ hnew_; (first | rw [← Ny455.out] at ho11 | (simp only [Int.reduceToNat] at ho11; rw [← Ny455.out] at ho11)); have n0_ := m0 (Kd.R_elder' HO452.out (Kd.R_base ho11) hb); have n1_ := m0 (Kd.R_lower (Kd.R_new' ho11 (Kd.R_lt HO452.out)) (keep_size (w := w) (g := g) (row := none) HK.out)); have n2_ := m0 (IsS80.below HI0.out hb); have n3_ := m0 (KeepBut.trans HK.out (KeepBut.of_below hb g none) (.inl rfl)); have n4_ := m0 (below_step HB.out hb); clear HO452; clear HI0; clear HK; clear HB; have HO452 := n0_; have HO457 := n1_; have HI0 := n2_; have HK := n3_; have HB := n4_; clear n0_ n1_ n2_ n3_ n4_; clear hb ho11; obtain ⟨Ao12, co12, eo12⟩ := Kd.R_slice HO457.out; subst eo12) | ((with_reducible refine gate_callee (f := 54) rfl ?_); refine goesL_ (some 9) rfl rfl Tryd.func54 (by kernel_rfl) rfl #[.pointer (some ⟨g, 0, none⟩), .slice Ao12 y455.length co12] rfl (by (try simp only [List.map_toArray, List.map_cons, List.map_nil]); rfl) ?_; (with_reducible refine (spec_reader_one.calls k g s0_0 t454 _ _ y455 t458 t459 w0 _ ?side1 ?side2 ?side3 ?side4 ?side5 A3.out).mono ?_); (case side1 => exact HI0.out); (case side2 => exact HB.out); (case side3 => exact (Kd.R_reads' HO457.out).2.2); (case side4 => exact (Kd.R_reads' HO457.out).2.1); (case side5 => exact far_slice (IsS80.own_ne HI0.out HO457.out (by decide))); rintro e w13 ⟨rfl, hi, hb, hk⟩; refine ⟨_, rfl, ?_⟩; have n0_ := m0 (Kd.R_mono (Kd.R_keep (IsS80.apart (show IsS80 w0 _ g s0_0 t454 from HI0.out) HO452.out (by decide)) hk (fun _ h => h.2)) (fun _ h => h.1)); have n1_ := m0 (Kd.R_mono (Kd.R_keep (IsS80.apart (show IsS80 w0 _ g s0_0 t454 from HI0.out) HO457.out (by decide)) hk (fun _ h => h.2)) (fun _ h => h.1)); have n2_ := m0 (KeepBut.trans HK.out hk (.inl rfl)); have n3_ := m0 (hb); have n4_ := m0 (hi); clear HO452; clear HO457; clear HK; clear HB; clear HI0; have HO452 := n0_; have HO457 := n1_; have HK := n2_; have HB := n3_; have HI0 := n4_; clear n0_ n1_ n2_ n3_ n4_; (try clear hb); (try clear hb2); (try clear hk); (try clear hi)) | ((with_reducible refine gate_dst (N := 11) rfl ?_); refine Kd.R_lit (Kd.int .i64) _ 3 ?hg (N := 11) ?hd (xs := ([4, 4, 7] : List Int)) (inner := [.int .i64 4, .int .i64 4, .int .i64 7]) (ok := fun _ => True) (okp := fun _ => True) ?hr ?hp (fun _ hk => hk) trivial (Below.refl _ _) (Nat.le_refl _) (by simp) ?_; (case hd => rfl); (case hg => rfl); (case hr => first | (go_simp; done) | (go_simp; rfl)); (case hp => exact (Reps.one (show Kd.M (Kd.int .i64) _ _ _ 4 [.int .i64 4] from rfl) (Reps.one (show Kd.M (Kd.int .i64) _ _ _ 4 [.int .i64 4] from rfl) (Reps.one (show Kd.M (Kd.int .i64) _ _ _ 7 [.int .i64 7] from rfl) (Reps.none _ _))))); intro v461 w14 ho15 hb hg_ hnew_; clear hg_ hnew_; (first | rw [← Ny460.out] at ho15 | (simp only [Int.reduceToNat] at ho15; rw [← Ny460.out] at ho15)); have n0_ := m0 (Kd.R_elder' HO452.out (Kd.R_base ho15) hb); have n1_ := m0 (Kd.R_elder' HO457.out (Kd.R_base ho15) hb); have n2_ := m0 (Kd.R_lower (Kd.R_new' (Kd.R_new' ho15 (Kd.R_lt HO452.out)) (Kd.R_lt HO457.out)) (keep_size (w := w) (g := g) (row := none) HK.out)); have n3_ := m0 (IsS80.below HI0.out hb); have n4_ := m0 (KeepBut.trans HK.out (KeepBut.of_below hb g none) (.inl rfl)); have n5_ := m0 (below_step HB.out hb); clear HO452; clear HO457; clear HI0; clear HK; clear HB; have HO452 := n0_; have HO457 := n1_; have HO462 := n2_; have HI0 := n3_; have HK := n4_; have HB := n5_; clear n0_ n1_ n2_ n3_ n4_ n5_; clear hb ho15; obtain ⟨Ao16, co16, eo16⟩ := Kd.R_slice HO462.out; subst eo16) | ((with_reducible refine gate_callee (f := 54) rfl ?_); refine goesL_ (some 12) rfl rfl Tryd.func54 (by kernel_rfl) rfl #[.pointer (some ⟨g, 0, none⟩), .slice Ao16 y460.length co16] rfl (by (try simp only [List.map_toArray, List.map_cons, List.map_nil]); rfl) ?_; (with_reducible refine (spec_reader_one.calls k g s0_0 t459 _ _ y460 t463 t464 w0 _ ?side1 ?side2 ?side3 ?side4 ?side5 A4.out).mono ?_); (case side1 => exact HI0.out); (case side2 => exact HB.out); (case side3 => exact (Kd.R_reads' HO462.out).2.2); (case side4 => exact (Kd.R_reads' HO462.out).2.1); (case side5 => exact far_slice (IsS80.own_ne HI0.out HO462.out (by decide))); rintro e w17 ⟨rfl, hi, hb, hk⟩; refine ⟨_, rfl, ?_⟩; have n0_ := m0 (Kd.R_mono (Kd.R_keep (IsS80.apart (show IsS80 w0 _ g s0_0 t459 from HI0.out) HO452.out (by decide)) hk (fun _ h => h.2)) (fun _ h => h.1)); have n1_ := m0 (Kd.R_mono (Kd.R_keep (IsS80.apart (show IsS80 w0 _ g s0_0 t459 from HI0.out) HO457.out (by decide)) hk (fun _ h => h.2)) (fun _ h => h.1)); have n2_ := m0 (Kd.R_mono (Kd.R_keep (IsS80.apart (show IsS80 w0 _ g s0_0 t459 from HI0.out) HO462.out (by decide)) hk (fun _ h => h.2)) (fun _ h => h.1)); have n3_ := m0 (KeepBut.trans HK.out hk (.inl rfl)); have n4_ := m0 (hb); have n5_ := m0 (hi); clear HO452; clear HO457; clear HO462; clear HK; clear HB; clear HI0; have HO452 := n0_; have HO457 := n1_; have HO462 := n2_; have HK := n3_; have HB := n4_; have HI0 := n5_; clear n0_ n1_ n2_ n3_ n4_ n5_; (try clear hb); (try clear hb2); (try clear hk); (try clear hi)) | ((with_reducible refine gate_dst (N := 13) rfl ?_); refine Kd.R_lit (Kd.int .i64) _ 3 ?hg (N := 13) ?hd (xs := ([t453, t458, t463] : List Int)) (inner := [.int .i64 t453, .int .i64 t458, .int .i64 t463]) (ok := fun _ => True) (okp := fun _ => True) ?hr ?hp (fun _ hk => hk) trivial (Below.refl _ _) (Nat.le_refl _) (by simp) ?_; (case hd => rfl); (case hg => rfl); (case hr => first | (go_simp; done) | (go_simp; rfl)); (case hp => exact (Reps.one (show Kd.M (Kd.int .i64) _ _ _ t453 [.int .i64 t453] from rfl) (Reps.one (show Kd.M (Kd.int .i64) _ _ _ t458 [.int .i64 t458] from rfl) (Reps.one (show Kd.M (Kd.int .i64) _ _ _ t463 [.int .i64 t463] from rfl) (Reps.none _ _))))); intro v466 w18 ho19 hb hg_ hnew_; clear hg_ hnew_; (first | rw [← Ny465.out] at ho19 | (simp only [Int.reduceToNat] at ho19; rw [← Ny465.out] at ho19)); have n0_ := m0 (Kd.R_elder' HO452.out (Kd.R_base ho19) hb); have n1_ := m0 (Kd.R_elder' HO457.out (Kd.R_base ho19) hb); have n2_ := m0 (Kd.R_elder' HO462.out (Kd.R_base ho19) hb); have n3_ := m0 (Kd.R_lower (Kd.R_new' (Kd.R_new' (Kd.R_new' ho19 (Kd.R_lt HO452.out)) (Kd.R_lt HO457.out)) (Kd.R_lt HO462.out)) (keep_size (w := w) (g := g) (row := none) HK.out)); have n4_ := m0 (IsS80.below HI0.out hb); have n5_ := m0 (KeepBut.trans HK.out (KeepBut.of_below hb g none) (.inl rfl)); have n6_ := m0 (below_step HB.out hb); clear HO452; clear HO457; clear HO462; clear HI0; clear HK; clear HB; have HO452 := n0_; have HO457 := n1_; have HO462 := n2_; have HO467 := n3_; have HI0 := n4_; have HK := n5_; have HB := n6_; clear n0_ n1_ n2_ n3_ n4_ n5_ n6_; clear hb ho19; obtain ⟨Ao20, co20, eo20⟩ := Kd.R_slice HO467.out; subst eo20) | ((with_reducible refine gate_callee (f := 53) rfl ?_); refine goesL_ (some 14) rfl rfl Tryd.func53 (by kernel_rfl) rfl #[.pointer (some ⟨g, 0, none⟩), .slice Ao20 y465.length co20, .int .i64 9] rfl (by (try simp only [List.map_toArray, List.map_cons, List.map_nil]); rfl) ?_; (with_reducible refine (spec_reader_spoil.calls k g s0_0 t464 _ _ y465 9 t468 t471 w0 _ ?side1 ?side2 ?side3 ?side4 ?side5 A5.out).mono ?_); (case side1 => exact HI0.out); (case side2 => exact HB.out); (case side3 => exact (Kd.R_reads' HO467.out).2.2); (case side4 => exact (Kd.R_reads' HO467.out).2.1); (case side5 => exact far_slice (IsS80.own_ne HI0.out HO467.out (by decide))); rintro e w21 ⟨v469, rfl, ho0, hi, hb, hk⟩; refine ⟨_, rfl, ?_⟩; have n0_ := m0 (Kd.R_mono (Kd.R_told (Kd.R_oldK (IsS80.apart (show IsS80 w0 _ g s0_0 t464 from HI0.out) HO452.out (by decide)) hk) (Kd.Q_base ho0)) (fun _ h_ => h_.1)); have n1_ := m0 (Kd.R_mono (Kd.R_told (Kd.R_oldK (IsS80.apart (show IsS80 w0 _ g s0_0 t464 from HI0.out) HO457.out (by decide)) hk) (Kd.Q_base ho0)) (fun _ h_ => h_.1)); have n2_ := m0 (Kd.R_mono (Kd.R_told (Kd.R_oldK (IsS80.apart (show IsS80 w0 _ g s0_0 t464 from HI0.out) HO462.out (by decide)) hk) (Kd.Q_base ho0)) (fun _ h_ => h_.1)); have n3_ := m0 (Kd.R_mono (Kd.R_told (Kd.R_oldK (IsS80.apart (show IsS80 w0 _ g s0_0 t464 from HI0.out) HO467.out (by decide)) hk) (Kd.Q_base ho0)) (fun _ h_ => h_.1)); have n4_ := m0 (Kd.Q_lower (Kd.Q_new' (Kd.Q_new' (Kd.Q_new' (Kd.Q_new' ho0 (Kd.R_lt HO452.out)) (Kd.R_lt HO457.out)) (Kd.R_lt HO462.out)) (Kd.R_lt HO467.out)) (keep_size (w := w) (g := g) (row := none) HK.out)); have n5_ := m0 (KeepBut.trans HK.out hk (.inl rfl)); have n6_ := m0 (hb); have n7_ := m0 (hi); clear HO452; clear HO457; clear HO462; clear HO467; clear HK; clear HB; clear HI0; have HO452 := n0_; have HO457 := n1_; have HO462 := n2_; have HO467 := n3_; have HO470 := n4_; have HK := n5_; have HB := n6_; have HI0 := n7_; clear n0_ n1_ n2_ n3_ n4_ n5_ n6_ n7_; (try clear hb); (try clear hb2); (try clear hk); (try clear hi); (try clear ho0)))
 go_ret
 exact ⟨_, by first | rfl | (simp [errW_none, errW_some] <;> rfl) | (simp [*, errW_none, errW_some] <;> rfl), by (with_reducible repeat (first | apply Kd.Q_alloc | apply Kd.Q_drewN | apply Kd.Q_drew)); exact Kd.Q_mono HO470.out (fun _ hk => trivial), HI0.out, HB.out, HK.out⟩
def spec_someWorkers.f (k : Nat) (s0_0 : List Int) (s0_1 : Int) : Option (Int × Int) := (spec_reader_one.f k s0_0 s0_1 (([1, 2, 3, 4, 2, 0, 5] : List Int))).bind fun bt475 => (some (bt475.1, bt475.2))
theorem spec_someWorkers.mono : ∀ a0 a1 k, LeO (spec_someWorkers.f k a0 a1) (spec_someWorkers.f (k + 1) a0 a1) := by
 intro a0 a1 k
 unfold spec_someWorkers.f
 repeat' first
   | (with_reducible exact spec_reader_one.mono _ _ _ _)
   | (with_reducible exact LeO.refl _)
   | (with_reducible exact LeO.none _)
   | (with_reducible refine LeO.ite ?_ ?_)
   | (with_reducible refine LeO.bind ?_ (fun _ => ?_))
   | exact spec_reader_one.mono _ _ _ _
   | exact LeO.none _
   | refine LeO.ite ?_ ?_
   | refine LeO.bind ?_ (fun _ => ?_)
set_option maxHeartbeats 8000000 in
set_option maxRecDepth 100000 in
theorem spec_someWorkers.calls (k : Nat) (g : Nat) (s0_0 : List Int) (s0_1 : Int) (r1 : Int) (r2 : Int) (w0 w : World) (hI : IsS80 w0 w g s0_0 s0_1) (hB : Below w0.heap.size w0 w) (h : spec_someWorkers.f k s0_0 s0_1 = some (r1, r2)) :
  Calls Tryd.prog 37 #[.pointer (some ⟨g, 0, none⟩)] w fun e w' => e = .returned (.int .i64 r1) ∧ IsS80 w0 w' g s0_0 r2 ∧ Below w0.heap.size w0 w' ∧ KeepBut w w' g none := by
 have HI0 := m0 hI
 have HK := m0 (KeepBut.refl w g none)
 have HL := m0 hB.size
 clear hI
 have HW0 := m0 hB.size
 have HB := m0 hB
 clear hB
 have H : ((spec_reader_one.f k s0_0 s0_1 (([1, 2, 3, 4, 2, 0, 5] : List Int))).bind fun bt475 => (some (bt475.1, bt475.2))) = some (r1, r2) := h
 clear h
 obtain ⟨y472, hy472⟩ : ∃ y_ : List Int, y_ = (([1, 2, 3, 4, 2, 0, 5] : List Int)) := ⟨_, rfl⟩
 replace H : ((spec_reader_one.f k s0_0 s0_1 y472).bind fun bt475 => (some (bt475.1, bt475.2))) = some (r1, r2) := by first | (rw [hy472]; with_reducible exact H) | (have H2_ := (Option.bind_some _ _).symm.trans H; rw [hy472]; with_reducible exact H2_) | (have H2_ := (Option.bind_some _ _).symm.trans H; with_reducible exact H2_) | with_reducible exact H | (rw [hy472]; exact H) | exact H
 have Ny472 := m0 hy472
 clear hy472
 replace H := Option.bind_eq_some_iff.mp H
 obtain ⟨⟨t475, t476⟩, A20, H⟩ := H
 replace H : (some (t475, t476)) = some (r1, r2) := H
 have A2 := m0 A20
 clear A20
 simp only [Option.some.injEq, Prod.mk.injEq] at H
 obtain ⟨rfl, rfl⟩ := H
 go_enter Tryd.func37, Tryd.ntmps37
 go_wp2_with (first | ((with_reducible refine gate_dst (N := 4) rfl ?_); refine Kd.R_lit (Kd.int .i64) _ 3 ?hg (N := 4) ?hd (xs := ([1, 2, 3, 4, 2, 0, 5] : List Int)) (inner := [.int .i64 1, .int .i64 2, .int .i64 3, .int .i64 4, .int .i64 2, .int .i64 0, .int .i64 5]) (ok := fun _ => True) (okp := fun _ => True) ?hr ?hp (fun _ hk => hk) trivial (Below.refl _ _) (Nat.le_refl _) (by simp) ?_; (case hd => rfl); (case hg => rfl); (case hr => first | (go_simp; done) | (go_simp; rfl)); (case hp => exact (Reps.one (show Kd.M (Kd.int .i64) _ _ _ 1 [.int .i64 1] from rfl) (Reps.one (show Kd.M (Kd.int .i64) _ _ _ 2 [.int .i64 2] from rfl) (Reps.one (show Kd.M (Kd.int .i64) _ _ _ 3 [.int .i64 3] from rfl) (Reps.one (show Kd.M (Kd.int .i64) _ _ _ 4 [.int .i64 4] from rfl) (Reps.one (show Kd.M (Kd.int .i64) _ _ _ 2 [.int .i64 2] from rfl) (Reps.one (show Kd.M (Kd.int .i64) _ _ _ 0 [.int .i64 0] from rfl) (Reps.one (show Kd.M (Kd.int .i64) _ _ _ 5 [.int .i64 5] from rfl) (Reps.none _ _))))))))); intro v473 w3 ho4 hb hg_ hnew_; clear hg_ hnew_; (first | rw [← Ny472.out] at ho4 | (simp only [Int.reduceToNat] at ho4; rw [← Ny472.out] at ho4)); have n0_ := m0 (Kd.R_lower ho4 (keep_size (w := w) (g := g) (row := none) HK.out)); have n1_ := m0 (IsS80.below HI0.out hb); have n2_ := m0 (KeepBut.trans HK.out (KeepBut.of_below hb g none) (.inl rfl)); have n3_ := m0 (below_step HB.out hb); clear HI0; clear HK; clear HB; have HO474 := n0_; have HI0 := n1_; have HK := n2_; have HB := n3_; clear n0_ n1_ n2_ n3_; clear hb ho4; obtain ⟨Ao5, co5, eo5⟩ := Kd.R_slice HO474.out; subst eo5) | ((with_reducible refine gate_callee (f := 54) rfl ?_); refine goesL_ (some 5) rfl rfl Tryd.func54 (by kernel_rfl) rfl #[.pointer (some ⟨g, 0, none⟩), .slice Ao5 y472.length co5] rfl (by (try simp only [List.map_toArray, List.map_cons, List.map_nil]); rfl) ?_; (with_reducible refine (spec_reader_one.calls k g s0_0 s0_1 _ _ y472 t475 t476 w0 _ ?side1 ?side2 ?side3 ?side4 ?side5 A2.out).mono ?_); (case side1 => exact HI0.out); (case side2 => exact HB.out); (case side3 => exact (Kd.R_reads' HO474.out).2.2); (case side4 => exact (Kd.R_reads' HO474.out).2.1); (case side5 => exact far_slice (IsS80.own_ne HI0.out HO474.out (by decide))); rintro e w6 ⟨rfl, hi, hb, hk⟩; refine ⟨_, rfl, ?_⟩; have n0_ := m0 (Kd.R_mono (Kd.R_keep (IsS80.apart (show IsS80 w0 _ g s0_0 s0_1 from HI0.out) HO474.out (by decide)) hk (fun _ h => h.2)) (fun _ h => h.1)); have n1_ := m0 (KeepBut.trans HK.out hk (.inl rfl)); have n2_ := m0 (hb); have n3_ := m0 (hi); clear HO474; clear HK; clear HB; clear HI0; have HO474 := n0_; have HK := n1_; have HB := n2_; have HI0 := n3_; clear n0_ n1_ n2_ n3_; (try clear hb); (try clear hb2); (try clear hk); (try clear hi)))
 go_ret
 exact ⟨by first | rfl | (simp [errW_none, errW_some] <;> rfl) | (simp [*, errW_none, errW_some] <;> rfl), HI0.out, HB.out, HK.out⟩
end Go.Proofs.YtimbfcedigaffaaDoor.P
end
section
namespace Go.Proofs.YtimbfcedigaffaaDoor.Core
open Go Go.RowKit Go.Shelf Go.Proofs.YtimbfcedigaffaaDoorW.PrintWords Go.Proofs.YtimbfcedigaffaaDoorW.PrintLast Go.Proofs.YtimbfcedigaffaaDoorW.PrintMore Go.Proofs.YtimbfcedigaffaaDoor.P
attribute [local go_sem] Oper.semAt_some wide_fn wide_depth
/-- A region of open order within a round: as a plain one (start_). -/
theorem start_in {P : Program} {ops : Array Oper} {Q : Exit → Act → World → Prop} {S : World → Prop} {ds : List Nat} {id n lr n0 : Nat} {a : Act} {w : World} (l : Array Bool) (hm : P.follows .mixedOrders = true) (hd : noDefer ops = true) (hQ : ¬ LetsOut Q) (hn : ops.size = n) (hl : Array.replicate n false = l) (hS : S w.drew)
  (h : S w.drew → wpAnyLast P .any ops Q S ds n l a w.drew) : (Code.region id ops true).wpIn (Fence.wide.inRound lr) n0 P Q a w := by
 subst hn
 subst hl
 exact wpIn_region_any hm (wpAnyIn_of_wpAny (noDefer_spec hd) hQ _ _ _ _ (wpAny_of_last _ _ _ _ (h hS)))
/-- What holds of each valid graph. -/
structure GOk (G : GD) : Prop where
 n8 : G.tasks.length ≤ 8
 nl : G.needs.length = G.tasks.length
 nb : below1 G.tasks.length G.needs
 ol : G.order.length = G.tasks.length
 ob : ∀ i ∈ G.order, i < G.tasks.length
 bl : G.below.length = G.tasks.length
 bb : below1 G.tasks.length G.below
 al : G.above.length = G.tasks.length
 ab : below1 G.tasks.length G.above
theorem IsG.move {w w' : World} {b : Nat} {G : GD} (h : IsG w b G) (hb : Below w.heap.size w w') : IsG w' b G := by
 obtain ⟨A0, A1, A2, A3, A4, c0, c1, c2, c3, c4, hh, h0, h1, h2, h3, h4⟩ := h
 exact ⟨A0, A1, A2, A3, A4, c0, c1, c2, c3, c4, (hb.block b (cells_lt hh)).trans hh, ⟨h0.1, Kd.C_below h0.2 hb⟩, ⟨h1.1, Kd.C_below h1.2 hb⟩, ⟨h2.1, Kd.C_below h2.2 hb⟩, ⟨h3.1, Kd.C_below h3.2 hb⟩, ⟨h4.1, Kd.C_below h4.2 hb⟩⟩
theorem IsG.lt {w : World} {b : Nat} {G : GD} (h : IsG w b G) : b < w.heap.size := by
 obtain ⟨A0, A1, A2, A3, A4, c0, c1, c2, c3, c4, hh, _⟩ := h
 exact cells_lt hh
theorem IsG.tasks {w : World} {b : Nat} {G : GD} (h : IsG w b G) : ∃ A c, w.cell? ⟨b, 0, none⟩ = some (.slice A G.tasks.length c) ∧ G.tasks.length ≤ c ∧ k39.C w A G.tasks.length G.tasks := by
 obtain ⟨A0, A1, A2, A3, A4, c0, c1, c2, c3, c4, hh, h0, h1, h2, h3, h4⟩ := h
 exact ⟨A0, c0, by simp [World.cell?, hh], h0.1, h0.2⟩
theorem IsG.needs {w : World} {b : Nat} {G : GD} (h : IsG w b G) : ∃ A c, w.cell? ⟨b, 1, none⟩ = some (.slice A G.needs.length c) ∧ G.needs.length ≤ c ∧ (Kd.int .u16).C w A G.needs.length (up G.needs) := by
 obtain ⟨A0, A1, A2, A3, A4, c0, c1, c2, c3, c4, hh, h0, h1, h2, h3, h4⟩ := h
 exact ⟨A1, c1, by simp [World.cell?, hh], h1.1, h1.2⟩
theorem IsG.order {w : World} {b : Nat} {G : GD} (h : IsG w b G) : ∃ A c, w.cell? ⟨b, 2, none⟩ = some (.slice A G.order.length c) ∧ G.order.length ≤ c ∧ (Kd.int .i64).C w A G.order.length (up G.order) := by
 obtain ⟨A0, A1, A2, A3, A4, c0, c1, c2, c3, c4, hh, h0, h1, h2, h3, h4⟩ := h
 exact ⟨A2, c2, by simp [World.cell?, hh], h2.1, h2.2⟩
theorem IsG.below {w : World} {b : Nat} {G : GD} (h : IsG w b G) : ∃ A c, w.cell? ⟨b, 3, none⟩ = some (.slice A G.below.length c) ∧ G.below.length ≤ c ∧ (Kd.int .u16).C w A G.below.length (up G.below) := by
 obtain ⟨A0, A1, A2, A3, A4, c0, c1, c2, c3, c4, hh, h0, h1, h2, h3, h4⟩ := h
 exact ⟨A3, c3, by simp [World.cell?, hh], h3.1, h3.2⟩
theorem IsG.above {w : World} {b : Nat} {G : GD} (h : IsG w b G) : ∃ A c, w.cell? ⟨b, 4, none⟩ = some (.slice A G.above.length c) ∧ G.above.length ≤ c ∧ (Kd.int .u16).C w A G.above.length (up G.above) := by
 obtain ⟨A0, A1, A2, A3, A4, c0, c1, c2, c3, c4, hh, h0, h1, h2, h3, h4⟩ := h
 exact ⟨A4, c4, by simp [World.cell?, hh], h4.1, h4.2⟩
set_option maxHeartbeats 1000000 in
theorem size_calls (b : Nat) (G : GD) (w : World) (hg : IsG w b G) :
  Calls Tryd.prog 46 #[.pointer (some ⟨b, 0, none⟩)] w fun e w' => e = .returned (.int .i64 (G.tasks.length : Int)) ∧ w = w' := by
 obtain ⟨A, c, hc, _, _⟩ := hg.tasks
 go_enter Tryd.func46, Tryd.ntmps46
 go_wp2
 go_ret
 exact ⟨rfl, rfl⟩
/-- The tasks that can come next, among the first ones. -/
def readyTo (N : List Nat) (d : Nat) : Nat → Nat
 | 0 => 0
 | i + 1 => if d.testBit i = false ∧ sub (N.getD i 0) d = 0 then readyTo N d i ||| 2 ^ i else readyTo N d i
theorem readyTo_lt (N : List Nat) (d : Nat) : ∀ i, readyTo N d i < 2 ^ i
 | 0 => by simp [readyTo]
 | i + 1 => by
  have h := Nat.lt_of_lt_of_le (readyTo_lt N d i) (Nat.pow_le_pow_right (n := 2) (by omega) (Nat.le_succ i))
  unfold readyTo
  split
  ·exact Nat.or_lt_two_pow h (Nat.pow_lt_pow_right (by omega) (by omega))
  ·exact h
def GD.ready (G : GD) (d : Nat) : Nat := readyTo G.needs d G.needs.length
end Go.Proofs.YtimbfcedigaffaaDoor.Core
end
section
namespace Go.Proofs.YtimbfcedigaffaaDoor.Core
open Go Go.RowKit Go.Shelf Go.Proofs.YtimbfcedigaffaaDoorW.PrintWords Go.Proofs.YtimbfcedigaffaaDoorW.PrintLast Go.Proofs.YtimbfcedigaffaaDoorW.PrintMore Go.Proofs.YtimbfcedigaffaaDoor.P
/-- How many of the first n numbers a set lacks. -/
def zb : Nat → Nat → Nat
 | 0, _ => 0
 | n + 1, p => zb n p + (if p.testBit n then 0 else 1)
theorem or_bit (p i j : Nat) : (p ||| 2 ^ i).testBit j = (p.testBit j || decide (i = j)) := by rw [Nat.testBit_or, Nat.testBit_two_pow]
theorem zb_le (p i : Nat) : ∀ n, zb n (p ||| 2 ^ i) ≤ zb n p
 | 0 => Nat.le_refl _
 | n + 1 => by
  have := zb_le p i n
  simp only [zb, or_bit]
  by_cases h : i = n
  ·subst h; cases p.testBit i <;> simp <;> omega
  ·cases p.testBit n <;> simp [h] <;> omega
theorem zb_lt {p i : Nat} (hp : p.testBit i = false) : ∀ {n : Nat}, i < n → zb n (p ||| 2 ^ i) < zb n p
 | 0, h => by omega
 | n + 1, h => by
  simp only [zb, or_bit]
  by_cases hi : i = n
  ·subst hi
   have := zb_le p i i
   simp [hp]
   omega
  ·have := zb_lt hp (n := n) (by omega)
   cases p.testBit n <;> simp [hi] <;> omega
theorem zb_bound (p : Nat) : ∀ n, zb n p ≤ n
 | 0 => Nat.le_refl _
 | n + 1 => by
  have := zb_bound p n
  simp only [zb]
  split <;> omega
theorem readyTo_bit (N : List Nat) (d i : Nat) : ∀ n, (readyTo N d n).testBit i = true → i < n ∧ d.testBit i = false ∧ sub (N.getD i 0) d = 0
 | 0 => by simp [readyTo]
 | n + 1 => by
  intro h
  unfold readyTo at h
  split at h
  ·rename_i hc
   rw [or_bit] at h
   by_cases hi : n = i
   ·subst hi; exact ⟨by omega, hc⟩
   ·have := readyTo_bit N d i n (by simpa [hi] using h)
    exact ⟨by omega, this.2⟩
  ·have := readyTo_bit N d i n h
   exact ⟨by omega, this.2⟩
theorem readyTo_bit' (N : List Nat) (d i : Nat) : ∀ n, i < n → d.testBit i = false → sub (N.getD i 0) d = 0 → (readyTo N d n).testBit i = true
 | 0 => by intro h; omega
 | n + 1 => by
  intro h h1 h2
  unfold readyTo
  by_cases hi : n = i
  ·subst hi
   rw [if_pos ⟨h1, h2⟩, or_bit]
   simp
  ·have := readyTo_bit' N d i n (by omega) h1 h2
   split
   ·rw [or_bit, this]; rfl
   ·exact this
theorem mem_ready {G : GD} {d i : Nat} (h8 : G.needs.length ≤ 8) : i ∈ elemsN (G.ready d) ↔ i < G.needs.length ∧ d.testBit i = false ∧ sub (G.needs.getD i 0) d = 0 := by
 rw [mem_elemsN]
 constructor
 ·intro h
  exact readyTo_bit _ _ _ _ h.2
 ·intro h
  exact ⟨by omega, readyTo_bit' _ _ _ _ h.1 h.2.1 h.2.2⟩
theorem elemsN_length (s : Nat) : (elemsN s).length ≤ 8 := by
 have := elems_length s
 rwa [elems, List.length_map] at this
theorem ready_lt (G : GD) (d : Nat) : G.ready d < 2 ^ G.needs.length := readyTo_lt _ _ _
/-- Whether a task can come next. -/
def canNext (N : List Nat) (d i : Nat) : Bool := !d.testBit i && decide (sub (N.getD i 0) d = 0)
theorem elemsN_ready {G : GD} (h8 : G.needs.length ≤ 8) (d : Nat) : elemsN (G.ready d) = (List.range G.needs.length).filter (canNext G.needs d) := by
 have e8 : List.range 8 = List.range G.needs.length ++ (List.range (8 - G.needs.length)).map (G.needs.length + ·) := by
  rw [← List.range_add]; congr 1; omega
 unfold elemsN
 rw [e8, List.filter_append]
 have e2 : ((List.range (8 - G.needs.length)).map (G.needs.length + ·)).filter (fun i => (G.ready d).testBit i) = [] := by
  rw [List.filter_eq_nil_iff]
  intro x hx hb
  obtain ⟨y, _, rfl⟩ := List.mem_map.1 hx
  have := (readyTo_bit _ _ _ _ hb).1
  omega
 rw [e2, List.append_nil]
 refine List.filter_congr fun i hi => ?_
 have hi := List.mem_range.1 hi
 rw [Bool.eq_iff_iff]
 constructor
 ·intro h
  have := readyTo_bit _ _ _ _ h
  have h1 := this.2.1
  have h2 := this.2.2
  simp only [canNext, Bool.and_eq_true, Bool.not_eq_true', decide_eq_true_eq]
  exact ⟨h1, h2⟩
 ·intro h
  have h2 : d.testBit i = false ∧ sub (G.needs.getD i 0) d = 0 := by simpa [canNext] using h
  exact readyTo_bit' _ _ _ _ hi h2.1 h2.2
end Go.Proofs.YtimbfcedigaffaaDoor.Core
end
section
namespace Go.Proofs.YtimbfcedigaffaaDoor.Core
open Go Go.RowKit Go.Proofs.YtimbfcedigaffaaDoorW.PrintWords Go.Proofs.YtimbfcedigaffaaDoorW.PrintMore Go.Proofs.YtimbfcedigaffaaDoor.P
/-- From some number on, f says r. -/
def Ev {α : Type} (f : Nat → Option α) (r : α) : Prop := ∃ K, ∀ k, K ≤ k → f k = some r
theorem Ev.const {α : Type} (r : α) : Ev (fun _ => some r) r := ⟨0, fun _ _ => rfl⟩
theorem Ev.bind {α β : Type} {f : Nat → Option α} {g : Nat → α → Option β} {a : α} {b : β} (h : Ev f a) (h2 : Ev (fun k => g k a) b) : Ev (fun k => (f k).bind (g k)) b := by
 obtain ⟨K, h⟩ := h
 obtain ⟨K2, h2⟩ := h2
 exact ⟨max K K2, fun k hk => by show (f k).bind (g k) = some b; rw [h k (by omega)]; exact h2 k (by omega)⟩
theorem Ev.succ {α : Type} {f : Nat → Option α} {r : α} (h : Ev (fun k => f (k + 1)) r) : Ev f r := by
 obtain ⟨K, h⟩ := h
 refine ⟨K + 1, fun k hk => ?_⟩
 obtain ⟨m, rfl⟩ : ∃ m, k = m + 1 := ⟨k - 1, by omega⟩
 exact h m (by omega)
theorem Ev.of {α : Type} {f g : Nat → Option α} {r : α} (h : Ev f r) (e : ∀ k, g k = f k) : Ev g r := by
 obtain ⟨K, h⟩ := h
 exact ⟨K, fun k hk => (e k).trans (h k hk)⟩
theorem Ev.both {α β : Type} {f : Nat → Option α} {g : Nat → Option β} {a : α} {b : β} (h : Ev f a) (h2 : Ev g b) : ∃ k, f k = some a ∧ g k = some b := by
 obtain ⟨K, h⟩ := h
 obtain ⟨K2, h2⟩ := h2
 exact ⟨max K K2, h _ (by omega), h2 _ (by omega)⟩
theorem Ev.one {α : Type} {f : Nat → Option α} {a : α} (h : Ev f a) : ∃ k, f k = some a := by
 obtain ⟨K, h⟩ := h
 exact ⟨K, h _ (by omega)⟩
theorem w64 {n : Int} (h0 : -9223372036854775808 ≤ n) (h1 : n ≤ 9223372036854775807) : wrap64 n = n := by unfold wrap64; omega
theorem rd_mid {pre r : List Int} {x : Int} {i : Int} (hi : i = (pre.length : Int)) : rd (pre ++ x :: r) i = x := by
 subst hi
 simp [rd]
theorem within_eq (x a b : Int) : impl_within.f x a b = some (decide (a ≤ x ∧ x ≤ b)) := by
 unfold impl_within.f
 by_cases h : x ≥ a
 ·rw [if_pos h]; simp; omega
 ·rw [if_neg h]; simp; omega
theorem setwith_eq {s k : Nat} (hs : s < 256) (hk : k < 8) : impl_set_with.f (s : Int) (k : Int) = some ((s ||| 2 ^ k : Nat) : Int) := by
 unfold impl_set_with.f
 rw [if_pos (by omega)]
 have : shl .u16 1 (k : Int) = IntKind.u16.wrap (2 ^ k) := by
  unfold shl
  rw [Int.toNat_natCast, Nat.min_eq_left (by show k ≤ 16; omega), Int.one_mul]
 rw [this, with_eq hs hk]
theorem sethas_eq {s k : Nat} (hs : s < 256) (hk : k < 8) : impl_set_has.f (s : Int) (k : Int) = some (s.testBit k) := by
 unfold impl_set_has.f
 rw [if_pos (by omega)]
 have : shr .u16 (s : Int) (k : Int) = (s : Int) / 2 ^ k := by
  unfold shr
  rw [Int.toNat_natCast, Nat.min_eq_left (by show k ≤ 16; omega)]
 rw [this, has_eq hs]
/-- The set of ascending numbers below n. -/
def setGo (n : Nat) : List Int → Nat → Int → Option Nat
 | [], s, _ => some s
 | x :: r, s, last => if last + 1 ≤ x ∧ x ≤ (n : Int) - 1 then setGo n r (s ||| 2 ^ x.toNat) x else none
def setD (n : Nat) (L : List Int) : Option Nat := setGo n L 0 (-1)
def setR (o : Option Nat) : Int × Bool := match o with | some s => ((s : Int), true) | none => (0, false)
theorem ev_setGo {n : Nat} (hn : n ≤ 8) (L : List Int) : ∀ (r pre : List Int) (s : Nat) (last : Int), L = pre ++ r → s < 2 ^ n → (pre.length : Int) ≤ last + 1 → last ≤ (n : Int) - 1 →
  Ev (fun k => impl_setOf.l0 k (n : Int) (s : Int) last L (L.length : Int) (pre.length : Int)) (setR (setGo n r s last))
 | [], pre, s, last, hL, hs, h1, h2 => by
  refine Ev.succ ((Ev.const _).of fun k => ?_)
  rw [List.append_nil] at hL
  subst hL
  simp only [impl_setOf.l0]
  rw [if_neg (by omega)]
  rfl
 | x :: r, pre, s, last, hL, hs, h1, h2 => by
  have hlen : L.length = pre.length + (r.length + 1) := by rw [hL]; simp
  have hw1 : wrap64 (last + 1) = last + 1 := w64 (by omega) (by omega)
  have hw2 : wrap64 ((n : Int) - 1) = (n : Int) - 1 := w64 (by omega) (by omega)
  have hrd : rd L (pre.length : Int) = x := by rw [hL]; exact rd_mid rfl
  refine Ev.succ ?_
  by_cases hx : last + 1 ≤ x ∧ x ≤ (n : Int) - 1
  ·have hx0 : 0 ≤ x := by omega
   obtain ⟨m, rfl⟩ : ∃ m : Nat, x = (m : Int) := ⟨x.toNat, by omega⟩
   have hs8 : s < 256 := Nat.lt_of_lt_of_le hs (pow8 hn)
   have ih := ev_setGo hn L r (pre ++ [(m : Int)]) (s ||| 2 ^ m) m (by rw [hL]; simp) (Nat.or_lt_two_pow hs (Nat.pow_lt_pow_right (by omega) (by omega))) (by simp; omega) (by omega)
   have hg : setGo n ((m : Int) :: r) s last = setGo n r (s ||| 2 ^ m) m := by
    rw [setGo, if_pos hx, Int.toNat_natCast]
   rw [hg]
   refine ih.of fun k => ?_
   simp only [impl_setOf.l0]
   rw [if_pos (by omega), if_pos (by omega), if_pos (by omega), hrd, hw1, hw2, within_eq, decide_eq_true hx]
   simp only [Option.bind_some, if_true]
   rw [setwith_eq hs8 (by omega)]
   simp only [Option.bind_some, List.length_append, List.length_cons, List.length_nil]
   rw [w64 (by omega) (by omega)]
   rfl
  ·have hg : setGo n (x :: r) s last = none := by rw [setGo, if_neg hx]
   rw [hg]
   refine (Ev.const _).of fun k => ?_
   simp only [impl_setOf.l0]
   rw [if_pos (by omega), if_pos (by omega), if_pos (by omega), hrd, hw1, hw2, within_eq, decide_eq_false hx]
   rfl
theorem ev_setOf {n : Nat} (hn : n ≤ 8) (L : List Int) : Ev (fun k => impl_setOf.f k L (n : Int)) (setR (setD n L)) :=
 ev_setGo hn L L [] 0 (-1) rfl (Nat.two_pow_pos n) (by simp) (by omega)
theorem setGo_lt {n : Nat} : ∀ {r : List Int} {s : Nat} {last : Int} {t : Nat}, setGo n r s last = some t → s < 2 ^ n → -1 ≤ last → t < 2 ^ n
 | [], s, last, t, h, hs, hl => by rw [setGo] at h; cases h; exact hs
 | x :: r, s, last, t, h, hs, hl => by
  rw [setGo] at h
  by_cases hx : last + 1 ≤ x ∧ x ≤ (n : Int) - 1
  ·rw [if_pos hx] at h
   exact setGo_lt h (Nat.or_lt_two_pow hs (Nat.pow_lt_pow_right (by omega) (by omega))) (by omega)
  ·rw [if_neg hx] at h; cases h
theorem setD_lt {n : Nat} {L : List Int} {t : Nat} (h : setD n L = some t) : t < 2 ^ n := setGo_lt h (Nat.two_pow_pos n) (by omega)
def taskOk (t : Tk) : Prop := (1 ≤ t.f0 ∧ t.f0 ≤ 20) ∧ (0 ≤ t.f2 ∧ t.f2 ≤ 2) ∧ (1 ≤ t.f3 ∧ t.f3 ≤ 4)
instance (t : Tk) : Decidable (taskOk t) := by unfold taskOk; infer_instance
def needsGo (n : Nat) : List Tk → Option (List Nat)
 | [] => some []
 | t :: r => match setD n t.f1 with
  | none => none
  | some s => if taskOk t then (needsGo n r).map (s :: ·) else none
def needsD (g : List Tk) : Option (List Nat) := if g.length ≤ 8 then needsGo g.length g else none
def needsR (o : Option (List Nat)) : List Int × Bool := match o with | some N => (up N, true) | none => ([], false)
theorem rdT_mid {pre r : List Tk} {x : Tk} {i : Int} (hi : i = (pre.length : Int)) : rd_T39 (pre ++ x :: r) i = x := by
 subst hi
 simp [rd_T39]
theorem ev_needsGo (G : List Tk) (h8 : G.length ≤ 8) : ∀ (r pre : List Tk) (N : List Nat), G = pre ++ r → N.length = pre.length →
  Ev (fun k => impl_needsOf.l0 k G (up N) G (G.length : Int) (pre.length : Int)) (needsR ((needsGo G.length r).map (N ++ ·)))
 | [], pre, N, hG, hN => by
  refine Ev.succ ((Ev.const _).of fun k => ?_)
  rw [List.append_nil] at hG
  subst hG
  simp only [impl_needsOf.l0]
  rw [if_neg (by omega)]
  simp [needsGo, needsR]
 | t :: r, pre, N, hG, hN => by
  have hlen : G.length = pre.length + (r.length + 1) := by rw [hG]; simp
  have hrd : rd_T39 G (pre.length : Int) = t := by rw [hG]; exact rdT_mid rfl
  have hs := ev_setOf h8 t.f1
  refine Ev.succ ?_
  cases he : setD G.length t.f1 with
  | none =>
   rw [he] at hs
   have hg : needsGo G.length (t :: r) = none := by rw [needsGo, he]
   rw [hg]
   obtain ⟨K, h2⟩ := hs
   dsimp only at h2
   refine ⟨K, fun k hk => ?_⟩
   show impl_needsOf.l0 (k + 1) _ _ _ _ _ = _
   simp only [impl_needsOf.l0]
   rw [if_pos (by omega), if_pos (by omega), if_pos (by omega), hrd, h2 k hk]
   rfl
  | some s =>
   rw [he] at hs
   by_cases hok : taskOk t
   ·have hg : needsGo G.length (t :: r) = (needsGo G.length r).map (s :: ·) := by rw [needsGo, he]; simp [hok]
    have ih := ev_needsGo G h8 r (pre ++ [t]) (N ++ [s]) (by rw [hG]; simp) (by simp [hN])
    have e1 : ((needsGo G.length r).map (s :: ·)).map (N ++ ·) = (needsGo G.length r).map ((N ++ [s]) ++ ·) := by cases needsGo G.length r <;> simp
    rw [hg, e1]
    obtain ⟨K, h2⟩ := hs
    dsimp only at h2
    obtain ⟨K2, h3⟩ := ih
    dsimp only at h3
    refine ⟨max K K2, fun k hk => ?_⟩
    show impl_needsOf.l0 (k + 1) _ _ _ _ _ = _
    simp only [impl_needsOf.l0]
    rw [if_pos (by omega), if_pos (by omega), if_pos (by omega), hrd, h2 k (by omega)]
    simp only [setR, Option.bind_some, if_true]
    rw [within_eq, decide_eq_true hok.1]
    simp only [Option.bind_some, if_true]
    rw [within_eq, decide_eq_true hok.2.1]
    simp only [Option.bind_some, if_true]
    rw [within_eq, decide_eq_true hok.2.2]
    simp only [Option.bind_some, if_true]
    rw [if_pos (by rw [up_length]; omega), w64 (by omega) (by omega)]
    have := h3 k (by omega)
    simpa [up] using this
   ·have hg : needsGo G.length (t :: r) = none := by rw [needsGo, he]; simp [hok]
    rw [hg]
    obtain ⟨K, h2⟩ := hs
    dsimp only at h2
    refine ⟨K, fun k hk => ?_⟩
    show impl_needsOf.l0 (k + 1) _ _ _ _ _ = _
    simp only [impl_needsOf.l0]
    rw [if_pos (by omega), if_pos (by omega), if_pos (by omega), hrd, h2 k (by omega)]
    simp only [setR, Option.bind_some, if_true]
    rw [within_eq, within_eq, within_eq]
    simp only [Option.bind_some]
    by_cases h1 : 1 ≤ t.f0 ∧ t.f0 ≤ 20
    ·by_cases h2 : 0 ≤ t.f2 ∧ t.f2 ≤ 2
     ·by_cases h3 : 1 ≤ t.f3 ∧ t.f3 ≤ 4
      ·exact absurd ⟨h1, h2, h3⟩ hok
      ·simp [h1, h2, h3, needsR]
     ·simp [h1, h2, needsR]
    ·simp [h1, needsR]
theorem ev_needsOf (G : List Tk) : Ev (fun k => impl_needsOf.f k G) (needsR (needsD G)) := by
 unfold needsD
 by_cases h : G.length ≤ 8
 ·rw [if_pos h]
  have h2 := ev_needsGo G h G [] [] rfl rfl
  have e : (needsGo G.length G).map (([] : List Nat) ++ ·) = needsGo G.length G := by cases needsGo G.length G <;> simp
  rw [e] at h2
  refine h2.of fun k => ?_
  unfold impl_needsOf.f
  rw [if_neg (by omega), if_pos (by omega), if_pos (by omega)]
  rfl
 ·rw [if_neg h]
  refine (Ev.const _).of fun k => ?_
  unfold impl_needsOf.f
  rw [if_pos (by omega)]
  rfl
theorem needsGo_spec {n : Nat} : ∀ {r : List Tk} {N : List Nat}, needsGo n r = some N → N.length = r.length ∧ below1 n N
 | [], N, h => by rw [needsGo] at h; cases h; exact ⟨rfl, fun x hx => by cases hx⟩
 | t :: r, N, h => by
  rw [needsGo] at h
  cases he : setD n t.f1 with
  | none => rw [he] at h; cases h
  | some s =>
   rw [he] at h
   by_cases hok : taskOk t
   ·simp only [hok, if_true] at h
    cases hg : needsGo n r with
    | none => rw [hg] at h; cases h
    | some M =>
     rw [hg] at h
     cases h
     have := needsGo_spec hg
     refine ⟨by simp [this.1], fun x hx => ?_⟩
     rcases List.mem_cons.1 hx with rfl | hx
     ·exact setD_lt he
     ·exact this.2 x hx
   ·simp [hok] at h
theorem needsD_spec {g : List Tk} {N : List Nat} (h : needsD g = some N) : g.length ≤ 8 ∧ N.length = g.length ∧ below1 g.length N := by
 unfold needsD at h
 by_cases h8 : g.length ≤ 8
 ·rw [if_pos h8] at h
  exact ⟨h8, needsGo_spec h⟩
 ·rw [if_neg h8] at h; cases h
end Go.Proofs.YtimbfcedigaffaaDoor.Core
namespace Go.Proofs.YtimbfcedigaffaaDoor.Core
open Go Go.RowKit Go.Shelf Go.Proofs.YtimbfcedigaffaaDoorW.PrintWords Go.Proofs.YtimbfcedigaffaaDoorW.PrintMore Go.Proofs.YtimbfcedigaffaaDoor.P
attribute [local go_sem] Oper.semAt_some wide_fn wide_depth
def nextFrom (N : List Nat) (d : Nat) : Nat → Nat → Option Nat
 | _, 0 => none
 | i, m + 1 => if d.testBit i = false ∧ sub (N.getD i 0) d = 0 then some i else nextFrom N d (i + 1) m
def nextD (N : List Nat) (d : Nat) : Option Nat := nextFrom N d 0 N.length
def orderGo (N : List Nat) : Nat → List Nat → Nat → List Nat × Nat
 | 0, L, d => (L, d)
 | m + 1, L, d => match nextD N d with
  | some i => orderGo N m (L ++ [i]) (d ||| 2 ^ i)
  | none => orderGo N m L d
def orderD (N : List Nat) : List Nat × Nat := orderGo N N.length [] 0
theorem nextFrom_spec {N : List Nat} {d : Nat} : ∀ {m i j : Nat}, nextFrom N d i m = some j → i ≤ j ∧ j < i + m ∧ d.testBit j = false ∧ sub (N.getD j 0) d = 0
 | 0, i, j, h => by rw [nextFrom] at h; cases h
 | m + 1, i, j, h => by
  rw [nextFrom] at h
  by_cases hc : d.testBit i = false ∧ sub (N.getD i 0) d = 0
  ·rw [if_pos hc] at h
   cases h
   exact ⟨by omega, by omega, hc⟩
  ·rw [if_neg hc] at h
   have := nextFrom_spec h
   exact ⟨by omega, by omega, this.2.2⟩
theorem nextD_spec {N : List Nat} {d j : Nat} (h : nextD N d = some j) : j < N.length ∧ d.testBit j = false ∧ sub (N.getD j 0) d = 0 := by
 have := nextFrom_spec h
 exact ⟨by omega, this.2.2⟩
def ordR (x : List Nat × Nat) : List Int × Int := (up x.1, (x.2 : Int))
theorem order_step {N : List Nat} {n : Nat} (hN : N.length = n) (hn : n ≤ 8) (L : List Nat) (d i j k : Nat) (hd8 : d < 256) (hNi : N.getD i 0 < 256) (hi : i < n) (hj : j ≤ 8) (hL : L.length ≤ j) : impl_order.l1 (k + 1) (up N) (up L) (d : Int) (n : Int) (j : Int) (up N) (n : Int) (i : Int) = (if d.testBit i = true then impl_order.l1 k (up N) (up L) (d : Int) (n : Int) (j : Int) (up N) (n : Int) ((i + 1 : Nat) : Int) else if ((sub (N.getD i 0) d : Nat) : Int) = 0 then impl_order.l0 k (up N) (up (L ++ [i])) ((d ||| 2 ^ i : Nat) : Int) (n : Int) ((j + 1 : Nat) : Int) else impl_order.l1 k (up N) (up L) (d : Int) (n : Int) (j : Int) (up N) (n : Int) ((i + 1 : Nat) : Int)) := by
 have h8 : up (L ++ [i]) = up L ++ [(i : Int)] := by simp [up]
 have hwj : ((j + 1 : Nat) : Int) = wrap64 ((j : Int) + 1) := by rw [w64 (by omega) (by omega)]; omega
 have hw : ((i + 1 : Nat) : Int) = wrap64 ((i : Int) + 1) := by rw [w64 (by omega) (by omega)]; omega
 rw [h8, hwj, hw, ← andNot_eq hNi hd8, impl_order.l1, if_pos (by omega), if_pos (by omega), if_pos (by rw [up_length, hN]; omega), sethas_eq hd8 (by omega), Option.bind_some, rd_up (L := N) (i := i) rfl]
 congr 1
 congr 1
 rw [if_pos (by rw [up_length]; omega), setwith_eq hd8 (by omega), Option.bind_some]
theorem ev_next {N : List Nat} {n : Nat} (hN : N.length = n) (hn : n ≤ 8) (hb : below1 n N) (L : List Nat) (d : Nat) (hd : d < 2 ^ n) (j : Nat) (hL : L.length ≤ j) (hj : j ≤ 8) (R : List Nat → Nat → List Int × Int)
  (ho : ∀ (L' : List Nat) (d' : Nat), d' < 2 ^ n → L'.length ≤ j + 1 → Ev (fun k => impl_order.l0 k (up N) (up L') (d' : Int) (n : Int) ((j + 1 : Nat) : Int)) (R L' d')) (m : Nat) : ∀ i, i + m = n →
  Ev (fun k => impl_order.l1 k (up N) (up L) (d : Int) (n : Int) (j : Int) (up N) (n : Int) (i : Int)) (match nextFrom N d i m with | some i => R (L ++ [i]) (d ||| 2 ^ i) | none => R L d) := by
 induction m with
 | zero =>
  intro i hi
  have hwj : wrap64 ((j : Int) + 1) = ((j + 1 : Nat) : Int) := by rw [w64 (by omega) (by omega)]; omega
  have hg : nextFrom N d i 0 = none := by rw [nextFrom]
  have h0 := ho L d hd (by omega)
  rw [hg]
  refine Ev.succ (h0.of fun k => ?_)
  rw [impl_order.l1, if_neg (by omega), hwj]
 | succ m ih =>
  intro i hi
  have h256 := pow8 hn
  have hd8 : d < 256 := Nat.lt_of_lt_of_le hd h256
  have hNi : N.getD i 0 < 256 := Nat.lt_of_lt_of_le (getD_lt hb i) h256
  have hstep := fun k => order_step hN hn L d i j k hd8 hNi (by omega) hj hL
  have ih := ih (i + 1) (by omega)
  refine Ev.succ ?_
  cases hbit : d.testBit i with
  | true =>
   have hg : nextFrom N d i (m + 1) = nextFrom N d (i + 1) m := by rw [nextFrom, if_neg (by simp [hbit])]
   rw [hg]
   refine ih.of fun k => ?_
   rw [hstep, if_pos hbit]
  | false =>
   by_cases hz : sub (N.getD i 0) d = 0
   ·have hg : nextFrom N d i (m + 1) = some i := by rw [nextFrom, if_pos ⟨hbit, hz⟩]
    rw [hg]
    have h0 := ho (L ++ [i]) (d ||| 2 ^ i) (Nat.or_lt_two_pow hd (Nat.pow_lt_pow_right (by omega) (by omega))) (by simp; omega)
    refine h0.of fun k => ?_
    rw [hstep, if_neg (by simp [hbit]), if_pos (by omega)]
   ·have hg : nextFrom N d i (m + 1) = nextFrom N d (i + 1) m := by rw [nextFrom, if_neg (fun h => hz h.2)]
    rw [hg]
    refine ih.of fun k => ?_
    rw [hstep, if_neg (by simp [hbit]), if_neg (by omega)]
theorem ev_orderGo {N : List Nat} {n : Nat} (hN : N.length = n) (hn : n ≤ 8) (hb : below1 n N) : ∀ (m j : Nat) (L : List Nat) (d : Nat), j + m = n → d < 2 ^ n → L.length ≤ j →
  Ev (fun k => impl_order.l0 k (up N) (up L) (d : Int) (n : Int) (j : Int)) (ordR (orderGo N m L d))
 | 0, j, L, d, hj, hd, hL => by
  refine Ev.succ ((Ev.const _).of fun k => ?_)
  simp only [impl_order.l0]
  rw [if_neg (by omega)]
  rfl
 | m + 1, j, L, d, hj, hd, hL => by
  refine Ev.succ ?_
  have h := ev_next hN hn hb L d hd j hL (by omega) (fun L' d' => ordR (orderGo N m L' d')) (fun L' d' hd' hL' => ev_orderGo hN hn hb m (j + 1) L' d' (by omega) hd' hL') N.length 0 (by omega)
  have e : (match nextFrom N d 0 N.length with | some i => ordR (orderGo N m (L ++ [i]) (d ||| 2 ^ i)) | none => ordR (orderGo N m L d)) = ordR (orderGo N (m + 1) L d) := by
   rw [orderGo, nextD]
   cases he : nextFrom N d 0 N.length <;> rfl
  rw [← e]
  refine h.of fun k => ?_
  simp only [impl_order.l0]
  rw [if_pos (by omega), up_length, hN]
  rfl
theorem ev_order {N : List Nat} (hn : N.length ≤ 8) (hb : below1 N.length N) : Ev (fun k => impl_order.f k (up N)) (ordR (orderD N)) := by
 have h := ev_orderGo rfl hn hb N.length 0 [] 0 (by omega) (Nat.two_pow_pos _) (by simp)
 refine h.of fun k => ?_
 unfold impl_order.f
 rw [up_length]
 rfl
/-- What an order (as far as it goes) and its set have. -/
structure OrdOk (N : List Nat) (L : List Nat) (d : Nat) : Prop where
 lt : ∀ i ∈ L, i < N.length
 set : ∀ i, d.testBit i = true ↔ i ∈ L
 dlt : d < 2 ^ N.length
 nodup : L.Nodup
 len : L.length + zb N.length d = N.length
 needs : ∀ pre i suf, L = pre ++ i :: suf → ∀ k, (N.getD i 0).testBit k = true → k ∈ pre
theorem zb_step {p i : Nat} (hp : p.testBit i = false) : ∀ {n : Nat}, i < n → zb n (p ||| 2 ^ i) + 1 = zb n p
 | 0, h => by omega
 | n + 1, h => by
  simp only [zb, or_bit]
  by_cases hi : i = n
  ·subst hi
   have : ∀ m, m ≤ i → zb m (p ||| 2 ^ i) = zb m p := by
    intro m
    induction m with
    | zero => intro _; rfl
    | succ m ih =>
     intro hm
     simp only [zb, or_bit, ih (by omega)]
     have : i ≠ m := by omega
     simp [this]
   rw [this i (Nat.le_refl _)]
   simp [hp]
  ·have := zb_step hp (n := n) (by omega)
   cases p.testBit n <;> simp [hi] <;> omega
theorem zb_zero : ∀ n, zb n 0 = n
 | 0 => rfl
 | n + 1 => by simp [zb, zb_zero n]
theorem zb_full (n : Nat) : ∀ m, m ≤ n → zb m (2 ^ n - 1) = 0
 | 0, _ => rfl
 | m + 1, h => by
  simp only [zb, zb_full n m (by omega), Nat.testBit_two_pow_sub_one]
  simp; omega
theorem OrdOk.step {N L : List Nat} {d i : Nat} (hn : N.length ≤ 8) (hb : below1 N.length N) (h : OrdOk N L d) (hi : i < N.length) (h1 : d.testBit i = false) (h2 : sub (N.getD i 0) d = 0) : OrdOk N (L ++ [i]) (d ||| 2 ^ i) where
 lt := by
  intro k hk
  rcases List.mem_append.1 hk with hk | hk
  ·exact h.lt k hk
  ·rw [List.mem_singleton.1 hk]; exact hi
 set := by
  intro k
  rw [or_bit, List.mem_append, List.mem_singleton, Bool.or_eq_true, h.set, decide_eq_true_eq]
  constructor
  ·rintro (h | h)
   ·exact .inl h
   ·exact .inr h.symm
  ·rintro (h | h)
   ·exact .inl h
   ·exact .inr h.symm
 dlt := Nat.or_lt_two_pow h.dlt (Nat.pow_lt_pow_right (by omega) hi)
 nodup := by
  rw [List.nodup_append]
  refine ⟨h.nodup, by simp, fun a ha b hb => ?_⟩
  rw [List.mem_singleton.1 hb]
  rintro rfl
  have := (h.set a).2 ha
  rw [this] at h1
  cases h1
 len := by
  have := zb_step h1 hi
  have := h.len
  simp
  omega
 needs := by
  intro pre k suf he m hm
  rcases List.eq_nil_or_concat suf with rfl | ⟨s2, x, rfl⟩
  ·have h3 : pre = L ∧ k = i := by
    have := List.append_inj' he (by simp)
    simpa [eq_comm] using this
   obtain ⟨rfl, rfl⟩ := h3
   have hd8 : d < 256 := Nat.lt_of_lt_of_le h.dlt (pow8 hn)
   have h4 := sub_testBit (i := m) (Nat.lt_of_lt_of_le (getD_lt hb k) (pow8 hn)) hd8
   rw [h2, hm] at h4
   simp at h4
   exact (h.set m).1 h4
  ·have h3 : L = pre ++ k :: s2 := by
    have e2 : L ++ [i] = (pre ++ k :: s2) ++ [x] := by rw [he]; simp
    exact (List.append_inj' e2 (by simp)).1
   exact h.needs pre k s2 h3 m hm
theorem orderGo_ok {N : List Nat} (hn : N.length ≤ 8) (hb : below1 N.length N) : ∀ {m : Nat} {L : List Nat} {d : Nat}, OrdOk N L d → OrdOk N (orderGo N m L d).1 (orderGo N m L d).2
 | 0, L, d, h => h
 | m + 1, L, d, h => by
  rw [orderGo]
  cases he : nextD N d with
  | none => exact orderGo_ok hn hb h
  | some i =>
   have := nextD_spec he
   exact orderGo_ok hn hb (h.step hn hb this.1 this.2.1 this.2.2)
theorem orderD_ok {N : List Nat} (hn : N.length ≤ 8) (hb : below1 N.length N) : OrdOk N (orderD N).1 (orderD N).2 :=
 orderGo_ok hn hb ⟨by simp, by simp, Nat.two_pow_pos _, by simp, by rw [zb_zero]; simp, by simp⟩
/-- What is known of a valid graph. -/
def mkG (g : List Tk) (N : List Nat) : GD := ⟨g, N, (orderD N).1, (reach N (orderD N).1 g.length).1, (reach N (orderD N).1 g.length).2⟩
def graphD (g : List Tk) : Option GD := match needsD g with
 | none => none
 | some N => if (orderD N).2 = 2 ^ g.length - 1 then some (mkG g N) else none
theorem graphD_spec {g : List Tk} {G : GD} (h : graphD g = some G) : ∃ N, needsD g = some N ∧ (orderD N).2 = 2 ^ g.length - 1 ∧ G = mkG g N := by
 unfold graphD at h
 cases he : needsD g with
 | none => rw [he] at h; cases h
 | some N =>
  rw [he] at h
  simp only [] at h
  by_cases hf : (orderD N).2 = 2 ^ g.length - 1
  ·rw [if_pos hf] at h
   cases h
   exact ⟨N, rfl, hf, rfl⟩
  ·rw [if_neg hf] at h; cases h
theorem graphD_tasks {g : List Tk} {G : GD} (h : graphD g = some G) : G.tasks = g := by
 obtain ⟨N, _, _, rfl⟩ := graphD_spec h
 rfl
theorem graphD_ok {g : List Tk} {G : GD} (h : graphD g = some G) : GOk G := by
 obtain ⟨N, h1, h2, rfl⟩ := graphD_spec h
 obtain ⟨h8, hl, hb⟩ := needsD_spec h1
 have hb' : below1 N.length N := by rw [hl]; exact hb
 have ok := orderD_ok (by omega) hb'
 have hob : ∀ i ∈ (orderD N).1, i < g.length := fun i hi => by have := ok.lt i hi; omega
 have hr := reach_below hb hob
 refine ⟨h8, hl, hb, ?_, hob, reach_len1 _ _ _, hr.1, reach_len2 _ _ _, hr.2⟩
 have := ok.len
 rw [h2, hl, zb_full _ _ (Nat.le_refl _)] at this
 exact this
set_option maxRecDepth 100000 in
set_option maxHeartbeats 4000000 in
theorem graphOf_no2 (k : Nat) (A0 : Option Addr) (c0 : Nat) (l0 : List Tk) (N O : List Nat) (d : Nat) (w : World) (hr0 : k39.C w A0 l0.length l0) (hc0 : l0.length ≤ c0) (h8 : l0.length ≤ 8) (hne : d ≠ 2 ^ l0.length - 1)
  (h : impl_needsOf.f k l0 = some (up N, true)) (ho : impl_order.f k (up N) = some (up O, (d : Int))) :
  Calls Tryd.prog 55 #[.slice A0 l0.length c0] w fun e w' => e = .returned (.tuple #[.pointer none, .bool false]) ∧ Below w.heap.size w w' := by
 have h' := Lib.hid h
 have ho' := Lib.hid ho
 clear h ho
 have hev := everything_calls l0.length h8
 generalize 2 ^ l0.length - 1 = full at hne hev
 generalize hfi : ((full : Nat) : Int) = fi at hev
 generalize hdi : ((d : Nat) : Int) = di at ho'
 have hne1 : (di != fi) = true := by simp; omega
 clear hfi hdi
 refine calls_marks Tryd.func55 rfl ?_
 simp only [Tryd.ntmps55, List.size_toArray, List.length_cons, List.length_nil, Nat.reduceAdd, Nat.reduceSub, Array.replicate_succ, Array.replicate_zero, List.push_toArray, List.append_toArray, List.nil_append, List.cons_append]
 go_wp2_with (first | (go_at_call 70; refine (impl_needsOf.calls k A0 c0 l0 _ _ _ hr0 hc0 h'.out).mono ?_; rintro e w1 ⟨v0, rfl, hR1, hB1⟩; obtain ⟨A1, c1, rfl, hl1', hC1⟩ := Kd.R_reads hR1; have hz1 := Lib.hid (up_length N)) | (go_at_call 71; refine (impl_order.calls k _ _ (up N) _ _ _ hC1 hl1' ho'.out).mono ?_; rintro e w2 ⟨v1, rfl, hR2, hB2⟩) | (go_at_call 72; refine (hev _).mono ?_; rintro e w3 ⟨rfl, rfl⟩))
 refine leave_ret (Marks.nil w.heap.size w.heap.size _) (fun W => results_tmp2 rfl _ _ _) ?_
 intro W' ht
 exact ⟨rfl, ht.below (below_step hB1 hB2) (Nat.le_refl _) (Nat.le_refl _)⟩
/-- What graphOf hands back. -/
def graphPost (A0 : Option Addr) (g : List Tk) (w : World) (e : Ending) (w' : World) : Prop := match graphD g with
 | none => e = .returned (.tuple #[.pointer none, .bool false]) ∧ Below w.heap.size w w'
 | some G => ∃ (b : Nat) (v : Value), e = .returned (.tuple #[.pointer (some ⟨b, 0, none⟩), .bool true]) ∧ Below w.heap.size w w' ∧ w.heap.size ≤ b ∧ IsG w' b G ∧ w'.cell? ⟨b, 2, none⟩ = some v ∧ (Kd.int .i64).R 3 w' w.heap.size (fun _ => True) v (up G.order) ∧ (∀ W2 : World, k39.C W2 A0 g.length g → (∀ k, w.heap.size ≤ k → k < w'.heap.size → W2.heap[k]? = w'.heap[k]?) → IsG W2 b G)
theorem graphOf_calls (A0 : Option Addr) (c0 : Nat) (l0 : List Tk) (w : World) (hT : Tab w) (hr0 : k39.C w A0 l0.length l0) (hc0 : l0.length ≤ c0) :
  Calls Tryd.prog 55 #[.slice A0 l0.length c0] w (graphPost A0 l0 w) := by
 have hn := ev_needsOf l0
 cases he : needsD l0 with
 | none =>
  rw [he] at hn
  obtain ⟨k, hk⟩ := hn.one
  refine (graphOf_no1 k A0 c0 l0 [] w hr0 hc0 hk).mono ?_
  intro e w' h
  have hg : graphD l0 = none := by unfold graphD; rw [he]
  unfold graphPost
  rw [hg]
  exact h
 | some N =>
  rw [he] at hn
  obtain ⟨h8, hl, hb⟩ := needsD_spec he
  have hb' : below1 N.length N := by rw [hl]; exact hb
  have ho := ev_order (N := N) (by omega) hb'
  have ok := orderD_ok (N := N) (by omega) hb'
  obtain ⟨k, h1, h2⟩ := hn.both ho
  by_cases hf : (orderD N).2 = 2 ^ l0.length - 1
  ·have hg : graphD l0 = some (mkG l0 N) := by unfold graphD; rw [he]; simp only []; rw [if_pos hf]
   have h2' : impl_order.f k (up N) = some (up (orderD N).1, ((2 ^ l0.length - 1 : Nat) : Int)) := by rw [← hf]; exact h2
   have gok := graphD_ok hg
   refine (graphOf_yes k A0 c0 l0 N (orderD N).1 w hT hr0 hc0 h8 hl hb gok.ob (by have := gok.ol; have := gok.n8; show (orderD N).1.length ≤ 8; simp only [mkG] at *; omega) h1 h2').mono ?_
   intro e w' h
   unfold graphPost
   rw [hg]
   exact h
  ·have hg : graphD l0 = none := by unfold graphD; rw [he]; simp only []; rw [if_neg hf]
   refine (graphOf_no2 k A0 c0 l0 N (orderD N).1 (orderD N).2 w hr0 hc0 h8 hf h1 h2).mono ?_
   intro e w' h
   unfold graphPost
   rw [hg]
   exact h
end Go.Proofs.YtimbfcedigaffaaDoor.Core
end
section
namespace Go.Proofs.YtimbfcedigaffaaDoor.Core
open Go Go.RowKit Go.Shelf Go.Proofs.YtimbfcedigaffaaDoorW.PrintWords Go.Proofs.YtimbfcedigaffaaDoorW.PrintMore Go.Proofs.YtimbfcedigaffaaDoor.P
attribute [local go_sem] Oper.semAt_some wide_fn wide_depth
theorem needsGo_taskOk {n : Nat} : ∀ {r : List Tk} {N : List Nat}, needsGo n r = some N → ∀ t ∈ r, taskOk t
 | [], _, _, t, ht => by cases ht
 | a :: r, N, h, t, ht => by
  rw [needsGo] at h
  cases he : setD n a.f1 with
  | none => rw [he] at h; cases h
  | some s =>
   rw [he] at h
   by_cases hok : taskOk a
   ·simp only [hok, if_true] at h
    cases hg : needsGo n r with
    | none => rw [hg] at h; cases h
    | some M =>
     rcases List.mem_cons.1 ht with rfl | ht
     ·exact hok
     ·exact needsGo_taskOk hg t ht
   ·simp [hok] at h
theorem graphD_taskOk {g : List Tk} {G : GD} (h : graphD g = some G) : ∀ t ∈ g, taskOk t := by
 obtain ⟨N, hN, _, _⟩ := graphD_spec h
 unfold needsD at hN
 by_cases h8 : g.length ≤ 8
 ·rw [if_pos h8] at hN; exact needsGo_taskOk hN
 ·rw [if_neg h8] at hN; cases hN
theorem graphD_pool {g : List Tk} {G : GD} (h : graphD g = some G) : ∀ t ∈ G.tasks, 0 ≤ t.f2 ∧ t.f2 ≤ 2 := fun t ht => by
 rw [graphD_tasks h] at ht
 exact (graphD_taskOk h t ht).2.1
theorem drawn_below {w w' : World} (h : Drawn0 w w') : Below w.heap.size w w' := by
 obtain ⟨n, rfl⟩ := h
 exact pw_below_drewN (Below.refl _ _) n
theorem graphOf_none (A0 : Option Addr) (c0 : Nat) (l0 : List Tk) (w : World) (hT : Tab w) (hr0 : k39.C w A0 l0.length l0) (hc0 : l0.length ≤ c0) (hg : graphD l0 = none) :
  Calls Tryd.prog 55 #[.slice A0 l0.length c0] w fun e w' => e = .returned (.tuple #[.pointer none, .bool false]) ∧ Below w.heap.size w w' :=
 (graphOf_calls A0 c0 l0 w hT hr0 hc0).mono fun e w' h => by unfold graphPost at h; rw [hg] at h; exact h
theorem graphOf_row (A0 : Option Addr) (c0 : Nat) (l0 : List Tk) (G : GD) (w : World) (hT : Tab w) (hr0 : k39.C w A0 l0.length l0) (hc0 : l0.length ≤ c0) (hg : graphD l0 = some G) :
  Calls Tryd.prog 55 #[.slice A0 l0.length c0] w fun e w' => ∃ (b : Nat) (v : Value), e = .returned (.tuple #[.pointer (some ⟨b, 0, none⟩), .bool true]) ∧ Below w.heap.size w w' ∧ w.heap.size ≤ b ∧ IsG w' b G ∧ w'.cell? ⟨b, 2, none⟩ = some v ∧ (Kd.int .i64).R 3 w' w.heap.size (fun _ => True) v (up G.order) :=
 (graphOf_calls A0 c0 l0 w hT hr0 hc0).mono fun e w' h => by
  unfold graphPost at h
  rw [hg] at h
  obtain ⟨b, v, h1, h2, h3, h4, h5, h6, _⟩ := h
  exact ⟨b, v, h1, h2, h3, h4, h5, h6⟩
theorem graphOf_some (A0 : Option Addr) (c0 : Nat) (l0 : List Tk) (G : GD) (w : World) (hT : Tab w) (hr0 : k39.C w A0 l0.length l0) (hc0 : l0.length ≤ c0) (hg : graphD l0 = some G) :
  Calls Tryd.prog 55 #[.slice A0 l0.length c0] w fun e w' => ∃ b : Nat, e = .returned (.tuple #[.pointer (some ⟨b, 0, none⟩), .bool true]) ∧ Below w.heap.size w w' ∧ IsG w' b G :=
 (graphOf_row A0 c0 l0 G w hT hr0 hc0 hg).mono fun e w' ⟨b, v, h1, h2, _, h3, _⟩ => ⟨b, h1, h2, h3⟩
theorem within_is (x a b : Int) (t : Bool) (w : World) (h : decide (a ≤ x ∧ x ≤ b) = t) :
  Calls Tryd.prog 56 #[.int .i64 x, .int .i64 a, .int .i64 b] w fun e w' => e = .returned (.bool t) ∧ Below w.heap.size w w' :=
 (impl_within.calls x a b t w (by rw [within_eq, h])).mono fun e w' h => ⟨h.1, drawn_below h.2⟩
theorem cell_set {W : World} {p t i : Nat} {cs : Array Value} (h : W.heap[p]? = some (.cells cs t (0, 0))) (v : Value) : (W.setCell ⟨p, i, none⟩ v).heap[p]? = some (.cells (cs.setIfInBounds i v) t (0, 0)) := by
 obtain ⟨hlt, hk⟩ := Array.getElem?_eq_some_iff.1 h
 show (W.heap.modify p _)[p]? = _
 rw [Array.getElem?_eq_getElem (by rw [Array.size_modify]; exact hlt), Array.getElem_modify_self, hk]
 rfl
theorem grown_trans {a b c : World} {row : Option Nat} (h1 : a.grownBy b row) (h2 : b.grownBy c row) : a.grownBy c row :=
 ⟨h2.os.trans h1.os, h2.tape.trans h1.tape, h2.output.trans h1.output, Nat.le_trans h1.size h2.size, fun k hk hn => (h2.block k (Nat.lt_of_lt_of_le hk h1.size) hn).trans (h1.block k hk hn)⟩
theorem grown_of_below {a b : World} (row : Option Nat) (h : Below a.heap.size a b) : a.grownBy b row := ⟨h.os, h.tape, h.output, h.size, fun k hk _ => h.block k hk⟩
end Go.Proofs.YtimbfcedigaffaaDoor.Core
end
section
namespace Go.Proofs.YtimbfcedigaffaaDoor.Core
open Go Go.RowKit Go.Shelf Go.Proofs.YtimbfcedigaffaaDoorW.PrintWords Go.Proofs.YtimbfcedigaffaaDoorW.PrintLast Go.Proofs.YtimbfcedigaffaaDoorW.PrintMore Go.Proofs.YtimbfcedigaffaaDoor.P
attribute [local go_sem] Oper.semAt_some wide_fn wide_depth
/-- A counter: the tasks, the units of each pool. -/
structure Cn where
 t : Int
 u0 : Int
 u1 : Int
 u2 : Int
def Cn.cells (c : Cn) : Array Value := #[.int .i64 c.t, .int .i64 c.u0, .int .i64 c.u1, .int .i64 c.u2]
def IsCn (w : World) (b : Nat) (c : Cn) : Prop := w.heap[b]? = some (.cells #[.int .i64 c.t, .int .i64 c.u0, .int .i64 c.u1, .int .i64 c.u2] 105 (0, 0))
def Cn.add (c : Cn) (p u s : Int) : Cn :=
 { t := wrap64 (c.t + s), u0 := if p = 0 then wrap64 (c.u0 + wrap64 (s * u)) else c.u0, u1 := if p = 1 then wrap64 (c.u1 + wrap64 (s * u)) else c.u1, u2 := if p = 2 then wrap64 (c.u2 + wrap64 (s * u)) else c.u2 }
theorem IsCn.cell0 {w : World} {b : Nat} {c : Cn} (h : IsCn w b c) : w.cell? ⟨b, 0, none⟩ = some (.int .i64 c.t) := by unfold IsCn at h; simp [World.cell?, h]
theorem IsCn.cell1 {w : World} {b : Nat} {c : Cn} (h : IsCn w b c) : w.cell? ⟨b, 1, none⟩ = some (.int .i64 c.u0) := by unfold IsCn at h; simp [World.cell?, h]
theorem IsCn.cell2 {w : World} {b : Nat} {c : Cn} (h : IsCn w b c) : w.cell? ⟨b, 2, none⟩ = some (.int .i64 c.u1) := by unfold IsCn at h; simp [World.cell?, h]
theorem IsCn.cell3 {w : World} {b : Nat} {c : Cn} (h : IsCn w b c) : w.cell? ⟨b, 3, none⟩ = some (.int .i64 c.u2) := by unfold IsCn at h; simp [World.cell?, h]
theorem IsCn.frozen {w : World} {b i : Nat} {c : Cn} (h : IsCn w b c) : w.frozen? ⟨b, i, none⟩ = false := by unfold IsCn at h; simp [World.frozen?, h]
theorem IsCn.move {w w' : World} {b : Nat} {c : Cn} (h : IsCn w b c) (hb : Below w.heap.size w w') : IsCn w' b c := (hb.block b (cells_lt h)).trans h
set_option maxRecDepth 100000 in
set_option maxHeartbeats 4000000 in
theorem add_calls (pc : Nat) (c : Cn) (f0 f2 f3 s : Int) (A : Option Addr) (n cp : Nat) (w : World) (hc : IsCn w pc c) (hp : f2 = 0 ∨ f2 = 1 ∨ f2 = 2) :
  Calls Tryd.prog 79 #[.pointer (some ⟨pc, 0, none⟩), .agg #[.int .i64 f0, .slice A n cp, .int .i64 f2, .int .i64 f3], .int .i64 s] w fun e w' => e = .returned (.tuple #[]) ∧ w.grownBy w' (some pc) ∧ IsCn w' pc (c.add f2 f3 s) := by
 have hB0 := (Below.refl w.heap.size w).alloc (Nat.le_refl _) (.cells #[.int .i64 f0, .slice A n cp, .int .i64 f2, .int .i64 f3] 39)
 have hcA := hc.move hB0
 have hc0 := hcA.cell0
 have hf0 := hcA.frozen (i := 0)
 go_enter Tryd.func79, Tryd.ntmps79
 go_wp2
 have hpar : (w.alloc (.cells #[.int .i64 f0, .slice A n cp, .int .i64 f2, .int .i64 f3] 39)).heap[w.heap.size]? = some (.cells #[.int .i64 f0, .slice A n cp, .int .i64 f2, .int .i64 f3] 39 (0, 0)) := cells_new w _
 clear hc0 hf0
 have hlt := cells_lt hc
 revert hB0 hcA hpar
 generalize w.alloc (.cells #[.int .i64 f0, .slice A n cp, .int .i64 f2, .int .i64 f3] 39) = w1
 intro hB0 hcA hpar
 have hg1 := grown_trans (grown_of_below (some pc) hB0) (grownBy_setCell'' w1 pc 0 (.int .i64 (wrap64 (c.t + s))))
 have hpar2 := (sother (i := 0) (.int .i64 (wrap64 (c.t + s))) (show w.heap.size ≠ pc by omega)).trans hpar
 have hcB : IsCn (w1.setCell ⟨pc, 0, none⟩ (.int .i64 (wrap64 (c.t + s)))) pc { c with t := wrap64 (c.t + s) } := cell_set hcA _
 revert hg1 hpar2 hcB
 generalize w1.setCell ⟨pc, 0, none⟩ (.int .i64 (wrap64 (c.t + s))) = w2
 intro hg1 hpar2 hcB
 clear hB0 hcA hpar
 refine wp_region_still_tail 15 rfl (by kernel_rfl) ?_
 change wpStill _ _ w2.drew (fun a' => wpList _ _ _ _ a' w2.drew) _ _
 have hdr : Below w2.heap.size w2 w2.drew := below_drew (Below.refl _ _)
 revert hdr
 generalize w2.drew = w3
 intro hdr
 have hcC := hcB.move hdr
 have hpar3 := (hdr.block _ (cells_lt hpar2)).trans hpar2
 have hg3 := grown_trans hg1 (grown_of_below (some pc) hdr)
 clear hcB hpar2 hg1 hdr
 have ht2 : w3.cell? ⟨w.heap.size, 2, none⟩ = some (.int .i64 f2) := by simp [World.cell?, hpar3]
 have ht3 : w3.cell? ⟨w.heap.size, 3, none⟩ = some (.int .i64 f3) := by simp [World.cell?, hpar3]
 have hc1 := hcC.cell1
 have hc2 := hcC.cell2
 have hc3 := hcC.cell3
 have hf1 := hcC.frozen (i := 1)
 have hf2 := hcC.frozen (i := 2)
 have hf3 := hcC.frozen (i := 3)
 simp only [List.take_succ_cons, List.take_zero, List.drop_succ_cons, List.drop_zero]
 rcases hp with rfl | rfl | rfl
 ·repeat still_step
  refine wpStill_nil ?_
  go_wp2
  go_end0
  exact ⟨rfl, grown_trans hg3 (grownBy_setCell'' _ _ _ _), cell_set hcC _⟩
 ·repeat still_step
  refine wpStill_nil ?_
  go_wp2
  go_end0
  exact ⟨rfl, grown_trans hg3 (grownBy_setCell'' _ _ _ _), cell_set hcC _⟩
 ·repeat still_step
  refine wpStill_nil ?_
  go_wp2
  go_end0
  exact ⟨rfl, grown_trans hg3 (grownBy_setCell'' _ _ _ _), cell_set hcC _⟩
theorem IsCn.tame {B : Nat} {w w' : World} {b : Nat} {c : Cn} (h : IsCn w b c) (ht : Tame B w w') : IsCn w' b c := ht.cells h
def Cn.zero : Cn := ⟨0, 0, 0, 0⟩
def cstep (g : List Tk) (c : Cn) (i : Nat) : Cn := c.add (g.getD i z39).f2 (g.getD i z39).f3 1
end Go.Proofs.YtimbfcedigaffaaDoor.Core
end
section
namespace Go.Proofs.YtimbfcedigaffaaDoor.Core
open Go Go.RowKit Go.Shelf Go.Proofs.YtimbfcedigaffaaDoorW.PrintWords Go.Proofs.YtimbfcedigaffaaDoorW.PrintLast Go.Proofs.YtimbfcedigaffaaDoorW.PrintMore Go.Proofs.YtimbfcedigaffaaDoor.P
attribute [local go_sem] Oper.semAt_some wide_fn wide_depth max2_int max_two
def icells (L : List Nat) : Array Value := (L.map fun (x : Nat) => Value.int .i64 (x : Int)).toArray
theorem icell {W : World} {p t : Nat} {L : List Nat} (h : W.heap[p]? = some (.cells (icells L) t (0, 0))) (i : Nat) (hi : i < L.length) : W.cell? ⟨p, i, none⟩ = some (.int .i64 ((L.getD i 0 : Nat) : Int)) := by
 simp [World.cell?, h, icells, hi]
theorem ifrozen {W : World} {p t : Nat} {L : List Nat} (h : W.heap[p]? = some (.cells (icells L) t (0, 0))) (i : Nat) : W.frozen? ⟨p, i, none⟩ = false := by
 simp [World.frozen?, h]
theorem iset {W : World} {p t : Nat} {L : List Nat} (h : W.heap[p]? = some (.cells (icells L) t (0, 0))) (i x : Nat) : (W.setCell ⟨p, i, none⟩ (.int .i64 (x : Int))).heap[p]? = some (.cells (icells (L.set i x)) t (0, 0)) := by
 rw [blk_set h i _]
 congr 2
 apply Array.ext'
 simp [icells, List.map_set]
/-- What the loops hold: the row, its variable; the rest as it was. -/
structure SI (w0 : World) (p pO n : Nat) (W : World) (L : List Nat) : Prop where
 row : W.heap[p]? = some (.cells (icells L) 3 (0, 0))
 box : Boxed W pO 23 (.slice (some ⟨p, 0, none⟩) n n)
 below : Below w0.heap.size w0 W
theorem SI.tame {w0 W W' : World} {p pO n B : Nat} {L : List Nat} (h : SI w0 p pO n W L) (hb : w0.heap.size ≤ B) (ht : Tame B W W') : SI w0 p pO n W' L := ⟨ht.cells h.row, ht.boxed h.box, ht.below h.below (Nat.le_refl _) hb⟩
theorem SI.move {w0 W W' : World} {p pO n : Nat} {L : List Nat} (h : SI w0 p pO n W L) (hb : Below W.heap.size W W') : SI w0 p pO n W' L := ⟨(hb.block _ (cells_lt h.row)).trans h.row, (hb.block _ h.box.lt).trans h.box, below_step h.below hb⟩
theorem SI.alloc {w0 W : World} {p pO n : Nat} {L : List Nat} (h : SI w0 p pO n W L) (o : Obj) : SI w0 p pO n (W.alloc o) L := h.move ((Below.refl W.heap.size W).alloc (Nat.le_refl _) o)
theorem SI.set {w0 W : World} {p pO n : Nat} {L : List Nat} (h : SI w0 p pO n W L) (hp : w0.heap.size ≤ p) (hne : pO ≠ p) (i x : Nat) : SI w0 p pO n (W.setCell ⟨p, i, none⟩ (.int .i64 (x : Int))) (L.set i x) := ⟨iset h.row i x, (sother _ hne).trans h.box, h.below.setCell (p := ⟨p, i, none⟩) hp _⟩
theorem infoI : (Tryd.prog.info? 3).map (fun i => (i.zero, i.size, i.bytes)) = some (some (.int .i64 0), 1, 8) := by kernel_rfl
theorem run_make_ints (n : Nat) (hn : n ≤ 8) (W : World) : (Instr.makeSlice 23 (.int .i64 (n : Int)) (.int .i64 (n : Int))).run Tryd.prog W = .ok (.slice (some ⟨W.heap.size, 0, none⟩) n n) (W.alloc (.cells (icells (List.replicate n 0)) 3)) := by
 obtain ⟨i0, hi, hz0, hz1, hz2⟩ := info_parts infoI
 have hr := run_make (P := Tryd.prog) W 23 3 i0 (.int .i64 0) Tryd.underlying23 hi hz0 .i64 .i64 (n : Int) (n : Int) (by omega) (by omega) (by rw [hz2]; omega) (by omega)
 rw [hz1] at hr
 simp only [Int.toNat_natCast, Nat.mul_one] at hr
 rw [hr]
 rw [show madeCells (Value.cells (.int .i64 0)) n = icells (List.replicate n 0) from (madeCells1 _ n).trans (by simp [icells])]
/-- A block of numbers, told as a row. -/
theorem icells_R {w : World} {base p n : Nat} {L : List Nat} (hp : base ≤ p) (hrow : w.heap[p]? = some (.cells (icells L) 3 (0, 0))) (hl : L.length = n) (hn : n ≤ 8) : (Kd.int .i64).R 3 w base (fun _ => True) (.slice (some ⟨p, 0, none⟩) n n) (up L) := by
 have hl' : (up L).length = n := by rw [up_length]; exact hl
 exact row_R (k := .i64) (xs := up L) ⟨by simp [encs], .inr ⟨p, n, icells L, by rw [hl'], hp, hrow, by rw [hl']; exact Nat.le_refl _, by unfold maxLen; omega, by simp [icells]; exact hl, by rw [hl']; simp [icells, encs, up]; exact List.take_of_length_le (by rw [List.length_map]; exact Nat.le_of_eq hl)⟩⟩
end Go.Proofs.YtimbfcedigaffaaDoor.Core
end
section
namespace Go.Proofs.YtimbfcedigaffaaDoor.Core
open Go Go.RowKit Go.Proofs.YtimbfcedigaffaaDoorW.PrintWords Go.Proofs.YtimbfcedigaffaaDoorW.PrintMore Go.Proofs.YtimbfcedigaffaaDoor.P
/-- The time of a task. -/
def tmN (g : List Tk) (i : Nat) : Nat := (g.getD i z39).f0.toNat
theorem getD_set_ne {L : List Nat} {i j x : Nat} (h : j ≠ i) : (L.set i x).getD j 0 = L.getD j 0 := by
 rw [List.getD_eq_getElem?_getD, List.getElem?_set_ne (Ne.symm h), ← List.getD_eq_getElem?_getD]
theorem getD_set_self {L : List Nat} {i x : Nat} (h : i < L.length) : (L.set i x).getD i 0 = x := by
 rw [List.getD_eq_getElem?_getD, List.getElem?_set_self h]; rfl
def leB (b : Nat) (L : List Nat) : Prop := ∀ i, L.getD i 0 ≤ b
theorem leB_mono {a b : Nat} {L : List Nat} (h : leB a L) (hab : a ≤ b) : leB b L := fun i => Nat.le_trans (h i) hab
theorem leB_set {b i x : Nat} {L : List Nat} (h : leB b L) (hx : x ≤ b) : leB b (L.set i x) := by
 intro j
 by_cases e : j = i
 ·subst e
  by_cases hl : j < L.length
  ·rw [getD_set_self hl]; exact hx
  ·rw [List.set_eq_of_length_le (by omega)]; exact h j
 ·rw [getD_set_ne e]; exact h j
def tm20 (g : List Tk) : Prop := ∀ i, tmN g i ≤ 20
end Go.Proofs.YtimbfcedigaffaaDoor.Core
end
section
namespace Go.Proofs.YtimbfcedigaffaaDoor.Core
open Go Go.RowKit Go.Proofs.YtimbfcedigaffaaDoorW.PrintWords Go.Proofs.YtimbfcedigaffaaDoorW.PrintMore Go.Proofs.YtimbfcedigaffaaDoor.P
theorem i64_w' (n : Int) : IntKind.i64.wrap n = Go.RowKit.wrap64 n := by unfold Go.RowKit.wrap64; exact IntKind.wrap_i64 n
theorem tm20_of {g : List Tk} (h : ∀ t ∈ g, taskOk t) : tm20 g := by
 intro i
 unfold tmN
 rw [List.getD_eq_getElem?_getD]
 cases e : g[i]? with
 | none => simp [z39]
 | some t =>
  have := (h t (List.mem_of_getElem? e)).1
  simp only [Option.getD_some]
  omega
theorem tm_int {g : List Tk} (h : ∀ t ∈ g, taskOk t) {i : Nat} (hi : i < g.length) : (g.getD i z39).f0 = (tmN g i : Int) ∧ 1 ≤ tmN g i ∧ tmN g i ≤ 20 := by
 have hm : g.getD i z39 ∈ g := by
  rw [List.getD_eq_getElem?_getD, List.getElem?_eq_getElem hi]
  exact List.getElem_mem hi
 have := (h _ hm).1
 unfold tmN
 omega
/-- Sums and greatest ones of small numbers, as the program reckons them. -/
theorem wadd {a b : Nat} (ha : a ≤ 100000) (hb : b ≤ 100000) : wrap64 ((a : Int) + (b : Int)) = ((a + b : Nat) : Int) ∧ IntKind.i64.wrap ((a : Int) + (b : Int)) = ((a + b : Nat) : Int) := by
 have h : wrap64 ((a : Int) + (b : Int)) = ((a + b : Nat) : Int) := by rw [w64 (by omega) (by omega)]; omega
 exact ⟨h, by rw [i64_w']; exact h⟩
theorem wmax (a b : Nat) : (if (a : Int) < (b : Int) then (b : Int) else (a : Int)) = ((max a b : Nat) : Int) := by split <;> omega
end Go.Proofs.YtimbfcedigaffaaDoor.Core
end
section
namespace Go.Proofs.YtimbfcedigaffaaDoor.Core
open Go Go.RowKit Go.Shelf Go.Proofs.YtimbfcedigaffaaDoorW.PrintWords Go.Proofs.YtimbfcedigaffaaDoorW.PrintMore Go.Proofs.YtimbfcedigaffaaDoor.P
attribute [local go_sem] Oper.semAt_some wide_fn wide_depth
/-- Whether rooms are valid. -/
def roomOk (l : List Int) : Prop := l.length = 3 ∧ ∀ x ∈ l, 4 ≤ x ∧ x ≤ 8
instance (l : List Int) : Decidable (roomOk l) := by unfold roomOk; infer_instance
theorem ev_room_from (L : List Int) (hL : L.length = 3) : ∀ (r pre : List Int), L = pre ++ r → Ev (fun k => impl_ValidRoom.l0 k L (L.length : Int) (pre.length : Int)) (decide (∀ x ∈ r, 4 ≤ x ∧ x ≤ 8))
 | [], pre, hp => by
  refine Ev.succ ((Ev.const _).of fun k => ?_)
  rw [List.append_nil] at hp
  subst hp
  rw [impl_ValidRoom.l0, if_neg (by omega)]
  simp
 | y :: r, pre, hp => by
  have hlen : L.length = pre.length + (r.length + 1) := by rw [hp]; simp
  have hrd : rd L (pre.length : Int) = y := by rw [hp]; exact rd_mid rfl
  refine Ev.succ ?_
  by_cases hy : 4 ≤ y ∧ y ≤ 8
  ·have ih := ev_room_from L hL r (pre ++ [y]) (by rw [hp]; simp)
   have e : decide (∀ x ∈ y :: r, 4 ≤ x ∧ x ≤ 8) = decide (∀ x ∈ r, 4 ≤ x ∧ x ≤ 8) := by simp [hy]
   rw [e]
   refine ih.of fun k => ?_
   rw [impl_ValidRoom.l0, if_pos (by omega), if_pos (by omega), if_pos (by omega), hrd, within_eq, decide_eq_true hy, Option.bind_some, if_pos rfl, w64 (by omega) (by omega)]
   simp
  ·refine (Ev.const _).of fun k => ?_
   rw [impl_ValidRoom.l0, if_pos (by omega), if_pos (by omega), if_pos (by omega), hrd, within_eq, decide_eq_false hy, Option.bind_some, if_neg (by simp)]
   simp only [Option.some.injEq]
   rw [eq_comm, decide_eq_false_iff_not]
   exact fun h => hy (h y List.mem_cons_self)
theorem ev_ValidRoom (L : List Int) : Ev (fun k => impl_ValidRoom.f k L) (decide (roomOk L)) := by
 by_cases h : L.length = 3
 ·have e : decide (roomOk L) = decide (∀ x ∈ L, 4 ≤ x ∧ x ≤ 8) := by rw [decide_eq_decide]; exact ⟨fun x => x.2, fun x => ⟨h, x⟩⟩
  rw [e]
  refine (ev_room_from L h L [] rfl).of fun k => ?_
  unfold impl_ValidRoom.f
  rw [if_pos (by omega)]
  rfl
 ·refine (Ev.const _).of fun k => ?_
  unfold impl_ValidRoom.f
  rw [if_neg (by omega), eq_comm]
  simp only [Option.some.injEq, decide_eq_false_iff_not]
  exact fun x => h x.1
theorem room_is (A : Option Addr) (c : Nat) (L : List Int) (t : Bool) (w : World) (hC : (Kd.int .i64).C w A L.length L) (hc : L.length ≤ c) (h : decide (roomOk L) = t) :
  Calls Tryd.prog 74 #[.slice A L.length c] w fun e w' => e = .returned (.bool t) ∧ Below w.heap.size w w' := by
 obtain ⟨k, hk⟩ := (ev_ValidRoom L).one
 rw [h] at hk
 exact (impl_ValidRoom.calls k A c L t w hC hc hk).mono fun e w' h => ⟨h.1, drawn_below h.2⟩
end Go.Proofs.YtimbfcedigaffaaDoor.Core
end
section
namespace Go.Proofs.YtimbfcedigaffaaDoor.Core
open Go Go.RowKit Go.Shelf Go.Proofs.YtimbfcedigaffaaDoorW.PrintWords Go.Proofs.YtimbfcedigaffaaDoorW.PrintLast Go.Proofs.YtimbfcedigaffaaDoorW.PrintMore Go.Proofs.YtimbfcedigaffaaDoor.P
attribute [local go_sem] Oper.semAt_some wide_fn wide_depth
/-- A pool's units. -/
def Cn.u (c : Cn) (p : Int) : Int := if p = 0 then c.u0 else if p = 1 then c.u1 else c.u2
/-- Whether one task more can run. -/
def takesB (c : Cn) (f2 f3 : Int) (room : List Int) (wk : Int) : Bool := decide (c.t < wk) && decide (wrap64 (c.u f2 + f3) ≤ rd room f2)
/-- A counter behind a task that is let in, or not. -/
def afterTake (c : Cn) (f2 f3 : Int) : Bool → Cn
 | true => c.add f2 f3 1
 | false => c
set_option maxRecDepth 100000 in
set_option maxHeartbeats 2000000 in
theorem takes_calls (pc : Nat) (c : Cn) (f0 f2 f3 : Int) (A : Option Addr) (n cp : Nat) (A2 : Option Addr) (c2 : Nat) (room : List Int) (wk : Int) (w : World) (hc : IsCn w pc c) (hp : f2 = 0 ∨ f2 = 1 ∨ f2 = 2) (hl : room.length = 3) (hC : (Kd.int .i64).C w A2 room.length room) (hcp : room.length ≤ c2) :
  Calls Tryd.prog 80 #[.pointer (some ⟨pc, 0, none⟩), .agg #[.int .i64 f0, .slice A n cp, .int .i64 f2, .int .i64 f3], .slice A2 room.length c2, .int .i64 wk] w fun e w' => e = .returned (.bool (takesB c f2 f3 room wk)) ∧ w.grownBy w' (some pc) ∧ IsCn w' pc (afterTake c f2 f3 (takesB c f2 f3 room wk)) := by
 have hB0 := (Below.refl w.heap.size w).alloc (Nat.le_refl _) (.cells #[.int .i64 f0, .slice A n cp, .int .i64 f2, .int .i64 f3] 39)
 have hcA := hc.move hB0
 have hCA := Kd.C_below hC hB0
 have hpar : (w.alloc (.cells #[.int .i64 f0, .slice A n cp, .int .i64 f2, .int .i64 f3] 39)).heap[w.heap.size]? = some (.cells #[.int .i64 f0, .slice A n cp, .int .i64 f2, .int .i64 f3] 39 (0, 0)) := cells_new w _
 have hlt := cells_lt hc
 have hadd := fun W (h : IsCn W pc c) => add_calls pc c f0 f2 f3 1 A n cp W h hp
 have HADD := m0 hadd
 have hdef : takesB c f2 f3 room wk = (decide (c.t < wk) && decide (wrap64 (c.u f2 + f3) ≤ rd room f2)) := rfl
 generalize takesB c f2 f3 room wk = tb at hdef ⊢
 have hrd : f2.toNat < 3 ∧ 0 ≤ f2 := by omega
 obtain ⟨ad, e0, hxr⟩ := Kd.at_int hCA f2 (by omega) (by omega)
 subst e0
 clear hadd
 go_enter Tryd.func80, Tryd.ntmps80
 rw [hl] at hC hcp ⊢
 go_wp2
 revert hB0 hcA hCA hpar hxr
 generalize w.alloc (.cells #[.int .i64 f0, .slice A n cp, .int .i64 f2, .int .i64 f3] 39) = w1
 intro hB0 hcA hpar hxr hCA
 clear hCA hC hcp
 have hgA : w.grownBy w1 (some pc) := grown_of_below (some pc) hB0
 have ht0 : w1.cell? ⟨w.heap.size, 0, none⟩ = some (.int .i64 f0) := by simp [World.cell?, hpar]
 have ht1 : w1.cell? ⟨w.heap.size, 1, none⟩ = some (.slice A n cp) := by simp [World.cell?, hpar]
 have ht2 : w1.cell? ⟨w.heap.size, 2, none⟩ = some (.int .i64 f2) := by simp [World.cell?, hpar]
 have ht3 : w1.cell? ⟨w.heap.size, 3, none⟩ = some (.int .i64 f3) := by simp [World.cell?, hpar]
 have hc0 := hcA.cell0
 have hcu : w1.cell? ⟨pc, 1 + f2.toNat, none⟩ = some (.int .i64 (c.u f2)) := by
  rcases hp with rfl | rfl | rfl
  ·exact hcA.cell1
  ·exact hcA.cell2
  ·exact hcA.cell3
 generalize c.u f2 = cu at hcu hdef
 generalize rd room f2 = rr at hxr hdef
 by_cases hw : c.t < wk
 ·have hge : decide (c.t ≥ wk) = false := decide_eq_false (by omega)
  have hge2 : decide (wk ≤ c.t) = false := decide_eq_false (by omega)
  rw [decide_eq_true hw, Bool.true_and] at hdef
  have HPAR := m0 hpar
  have HCN := m0 hcA
  have HGA := m0 hgA
  have HDEF := m0 hdef
  have htk : tb = decide (wrap64 (cu + f3) ≤ rr) := hdef
  clear hpar hcA hgA hdef hw hlt hB0 hc HDEF
  have HTK := m0 htk
  clear htk
  rcases hp with rfl | rfl | rfl
  ·refine start_ (n := 24) (S := fun w' => w'.cell? ⟨pc, 0, none⟩ = some (.int .i64 c.t) ∧ w'.cell? ⟨w.heap.size, 2, none⟩ = some (.int .i64 0) ∧ w'.cell? ⟨pc, 1, none⟩ = some (.int .i64 cu) ∧ w'.cell? ⟨w.heap.size, 3, none⟩ = some (.int .i64 f3) ∧ w'.cell? ad = some (.int .i64 rr)) (ds := []) #[F4q,F4q,F4q,F4q,F4q,F4q,F4q,F4q,F4q,F4q,F4q,F4q,F4q,F4q,F4q,F4q,F4q,F4q,F4q,F4q,F4q,F4q,F4q,F4q] rfl (by kernel_rfl) rfl ⟨hc0, ht2, hcu, ht3, hxr⟩ (fun hHeld => ?_)
   refine pure_ (i := 0) (N := some 9) (v := ?_) (a' := ?_) #[T4q,F4q,F4q,F4q,F4q,F4q,F4q,F4q,F4q,F4q,F4q,F4q,F4q,F4q,F4q,F4q,F4q,F4q,F4q,F4q,F4q,F4q,F4q,F4q] rfl rfl (by kernel_rfl) (fun _ _ _ h => h) (Or.inl ⟨by rfl, ?_⟩) ?_ ?_
   rotate_left
   ·intro w'
    go_simp
    with_reducible rfl
   rotate_left
   ·simp only [Act.put, sIA, sC0, sCS, i64_w, i32_w]
    rfl
   refine pure_ (i := 1) (N := some 10) (v := ?_) (a' := ?_) #[T4q,T4q,F4q,F4q,F4q,F4q,F4q,F4q,F4q,F4q,F4q,F4q,F4q,F4q,F4q,F4q,F4q,F4q,F4q,F4q,F4q,F4q,F4q,F4q] rfl rfl (by kernel_rfl) (fun _ _ _ h => h) (Or.inl ⟨by rfl, ?_⟩) ?_ ?_
   rotate_left
   ·intro w'
    go_simp
    with_reducible rfl
   rotate_left
   ·simp only [Act.put, sIA, sC0, sCS, i64_w, i32_w]
    rfl
   refine pure_ (i := 2) (N := some 11) (v := ?_) (a' := ?_) #[T4q,T4q,T4q,F4q,F4q,F4q,F4q,F4q,F4q,F4q,F4q,F4q,F4q,F4q,F4q,F4q,F4q,F4q,F4q,F4q,F4q,F4q,F4q,F4q] rfl rfl (by kernel_rfl) (fun _ _ _ h => h) (Or.inl ⟨by rfl, ?_⟩) ?_ ?_
   rotate_left
   ·intro w'
    go_simp
    with_reducible rfl
   rotate_left
   ·simp only [Act.put, sIA, sC0, sCS, i64_w, i32_w]
    rfl
   refine take_ (i := 3) (N := some 12) (v := ?_) (a' := ?_) #[T4q,T4q,T4q,T4q,F4q,F4q,F4q,F4q,F4q,F4q,F4q,F4q,F4q,F4q,F4q,F4q,F4q,F4q,F4q,F4q,F4q,F4q,F4q,F4q] rfl rfl (by kernel_rfl) (fun _ _ _ h => h) (Or.inl ⟨by rfl, ?_⟩) hHeld ?_ ?_
   rotate_left
   ·rintro w' ⟨s0, s1, s2, s3, s4⟩
    go_simp
    with_reducible rfl
   rotate_left
   ·simp only [Act.put, sIA, sC0, sCS, i64_w, i32_w]
    rfl
   refine pure_ (i := 4) (N := some 13) (v := ?_) (a' := ?_) #[T4q,T4q,T4q,T4q,T4q,F4q,F4q,F4q,F4q,F4q,F4q,F4q,F4q,F4q,F4q,F4q,F4q,F4q,F4q,F4q,F4q,F4q,F4q,F4q] rfl rfl (by kernel_rfl) (fun _ _ _ h => h) (Or.inl ⟨by rfl, ?_⟩) ?_ ?_
   rotate_left
   ·intro w'
    go_simp
    with_reducible rfl
   rotate_left
   ·simp only [Act.put, sIA, sC0, sCS, i64_w, i32_w]
    rfl
   refine pure_ (i := 5) (N := some 14) (v := ?_) (a' := ?_) #[T4q,T4q,T4q,T4q,T4q,T4q,F4q,F4q,F4q,F4q,F4q,F4q,F4q,F4q,F4q,F4q,F4q,F4q,F4q,F4q,F4q,F4q,F4q,F4q] rfl rfl (by kernel_rfl) (fun _ _ _ h => h) (Or.inl ⟨by rfl, ?_⟩) ?_ ?_
   rotate_left
   ·intro w'
    go_simp
    with_reducible rfl
   rotate_left
   ·simp only [Act.put, sIA, sC0, sCS, i64_w, i32_w]
    rfl
   refine pure_ (i := 6) (N := some 15) (v := ?_) (a' := ?_) #[T4q,T4q,T4q,T4q,T4q,T4q,T4q,F4q,F4q,F4q,F4q,F4q,F4q,F4q,F4q,F4q,F4q,F4q,F4q,F4q,F4q,F4q,F4q,F4q] rfl rfl (by kernel_rfl) (fun _ _ _ h => h) (Or.inl ⟨by rfl, ?_⟩) ?_ ?_
   rotate_left
   ·intro w'
    go_simp
    with_reducible rfl
   rotate_left
   ·simp only [Act.put, sIA, sC0, sCS, i64_w, i32_w]
    rfl
   refine pure_ (i := 7) (N := some 16) (v := ?_) (a' := ?_) #[T4q,T4q,T4q,T4q,T4q,T4q,T4q,T4q,F4q,F4q,F4q,F4q,F4q,F4q,F4q,F4q,F4q,F4q,F4q,F4q,F4q,F4q,F4q,F4q] rfl rfl (by kernel_rfl) (fun _ _ _ h => h) (Or.inl ⟨by rfl, ?_⟩) ?_ ?_
   rotate_left
   ·intro w'
    go_simp
    with_reducible rfl
   rotate_left
   ·simp only [Act.put, sIA, sC0, sCS, i64_w, i32_w]
    rfl
   refine pure_ (i := 8) (N := some 17) (v := ?_) (a' := ?_) #[T4q,T4q,T4q,T4q,T4q,T4q,T4q,T4q,T4q,F4q,F4q,F4q,F4q,F4q,F4q,F4q,F4q,F4q,F4q,F4q,F4q,F4q,F4q,F4q] rfl rfl (by kernel_rfl) (fun _ _ _ h => h) (Or.inl ⟨by rfl, ?_⟩) ?_ ?_
   rotate_left
   ·intro w'
    go_simp
    with_reducible rfl
   rotate_left
   ·simp only [Act.put, sIA, sC0, sCS, i64_w, i32_w]
    rfl
   refine take_ (i := 9) (N := some 18) (v := ?_) (a' := ?_) #[T4q,T4q,T4q,T4q,T4q,T4q,T4q,T4q,T4q,T4q,F4q,F4q,F4q,F4q,F4q,F4q,F4q,F4q,F4q,F4q,F4q,F4q,F4q,F4q] rfl rfl (by kernel_rfl) (fun _ _ _ h => h) (Or.inl ⟨by rfl, ?_⟩) hHeld ?_ ?_
   rotate_left
   ·rintro w' ⟨s0, s1, s2, s3, s4⟩
    go_simp
    with_reducible rfl
   rotate_left
   ·simp only [Act.put, sIA, sC0, sCS, i64_w, i32_w]
    rfl
   refine pure_ (i := 10) (N := some 19) (v := ?_) (a' := ?_) #[T4q,T4q,T4q,T4q,T4q,T4q,T4q,T4q,T4q,T4q,T4q,F4q,F4q,F4q,F4q,F4q,F4q,F4q,F4q,F4q,F4q,F4q,F4q,F4q] rfl rfl (by kernel_rfl) (fun _ _ _ h => h) (Or.inl ⟨by rfl, ?_⟩) ?_ ?_
   rotate_left
   ·intro w'
    go_simp
    with_reducible rfl
   rotate_left
   ·simp only [Act.put, sIA, sC0, sCS, i64_w, i32_w]
    rfl
   refine pure_ (i := 11) (N := some 20) (v := ?_) (a' := ?_) #[T4q,T4q,T4q,T4q,T4q,T4q,T4q,T4q,T4q,T4q,T4q,T4q,F4q,F4q,F4q,F4q,F4q,F4q,F4q,F4q,F4q,F4q,F4q,F4q] rfl rfl (by kernel_rfl) (fun _ _ _ h => h) (Or.inl ⟨by rfl, ?_⟩) ?_ ?_
   rotate_left
   ·intro w'
    go_simp
    with_reducible rfl
   rotate_left
   ·simp only [Act.put, sIA, sC0, sCS, i64_w, i32_w]
    rfl
   refine pure_ (i := 12) (N := some 21) (v := ?_) (a' := ?_) #[T4q,T4q,T4q,T4q,T4q,T4q,T4q,T4q,T4q,T4q,T4q,T4q,T4q,F4q,F4q,F4q,F4q,F4q,F4q,F4q,F4q,F4q,F4q,F4q] rfl rfl (by kernel_rfl) (fun _ _ _ h => h) (Or.inl ⟨by rfl, ?_⟩) ?_ ?_
   rotate_left
   ·intro w'
    go_simp
    with_reducible rfl
   rotate_left
   ·simp only [Act.put, sIA, sC0, sCS, i64_w, i32_w]
    rfl
   refine take_ (i := 13) (N := some 22) (v := ?_) (a' := ?_) #[T4q,T4q,T4q,T4q,T4q,T4q,T4q,T4q,T4q,T4q,T4q,T4q,T4q,T4q,F4q,F4q,F4q,F4q,F4q,F4q,F4q,F4q,F4q,F4q] rfl rfl (by kernel_rfl) (fun _ _ _ h => h) (Or.inl ⟨by rfl, ?_⟩) hHeld ?_ ?_
   rotate_left
   ·rintro w' ⟨s0, s1, s2, s3, s4⟩
    go_simp
    with_reducible rfl
   rotate_left
   ·simp only [Act.put, sIA, sC0, sCS, i64_w, i32_w]
    rfl
   refine pure_ (i := 14) (N := some 23) (v := ?_) (a' := ?_) #[T4q,T4q,T4q,T4q,T4q,T4q,T4q,T4q,T4q,T4q,T4q,T4q,T4q,T4q,T4q,F4q,F4q,F4q,F4q,F4q,F4q,F4q,F4q,F4q] rfl rfl (by kernel_rfl) (fun _ _ _ h => h) (Or.inl ⟨by rfl, ?_⟩) ?_ ?_
   rotate_left
   ·intro w'
    go_simp
    with_reducible rfl
   rotate_left
   ·simp only [Act.put, sIA, sC0, sCS, i64_w, i32_w]
    rfl
   refine take_ (i := 15) (N := some 24) (v := ?_) (a' := ?_) #[T4q,T4q,T4q,T4q,T4q,T4q,T4q,T4q,T4q,T4q,T4q,T4q,T4q,T4q,T4q,T4q,F4q,F4q,F4q,F4q,F4q,F4q,F4q,F4q] rfl rfl (by kernel_rfl) (fun _ _ _ h => h) (Or.inl ⟨by rfl, ?_⟩) hHeld ?_ ?_
   rotate_left
   ·rintro w' ⟨s0, s1, s2, s3, s4⟩
    go_simp
    with_reducible rfl
   rotate_left
   ·simp only [Act.put, sIA, sC0, sCS, i64_w, i32_w]
    rfl
   refine pure_ (i := 16) (N := some 25) (v := ?_) (a' := ?_) #[T4q,T4q,T4q,T4q,T4q,T4q,T4q,T4q,T4q,T4q,T4q,T4q,T4q,T4q,T4q,T4q,T4q,F4q,F4q,F4q,F4q,F4q,F4q,F4q] rfl rfl (by kernel_rfl) (fun _ _ _ h => h) (Or.inl ⟨by rfl, ?_⟩) ?_ ?_
   rotate_left
   ·intro w'
    go_simp
    with_reducible rfl
   rotate_left
   ·simp only [Act.put, sIA, sC0, sCS, i64_w, i32_w]
    rfl
   refine pure_ (i := 17) (N := some 26) (v := ?_) (a' := ?_) #[T4q,T4q,T4q,T4q,T4q,T4q,T4q,T4q,T4q,T4q,T4q,T4q,T4q,T4q,T4q,T4q,T4q,T4q,F4q,F4q,F4q,F4q,F4q,F4q] rfl rfl (by kernel_rfl) (fun _ _ _ h => h) (Or.inl ⟨by rfl, ?_⟩) ?_ ?_
   rotate_left
   ·intro w'
    go_simp
    with_reducible rfl
   rotate_left
   ·simp only [Act.put, sIA, sC0, sCS, i64_w, i32_w]
    rfl
   refine pure_ (i := 18) (N := some 27) (v := ?_) (a' := ?_) #[T4q,T4q,T4q,T4q,T4q,T4q,T4q,T4q,T4q,T4q,T4q,T4q,T4q,T4q,T4q,T4q,T4q,T4q,T4q,F4q,F4q,F4q,F4q,F4q] rfl rfl (by kernel_rfl) (fun _ _ _ h => h) (Or.inl ⟨by rfl, ?_⟩) ?_ ?_
   rotate_left
   ·intro w'
    go_simp
    with_reducible rfl
   rotate_left
   ·simp only [Act.put, sIA, sC0, sCS, i64_w, i32_w]
    rfl
   refine take_ (i := 19) (N := some 28) (v := ?_) (a' := ?_) #[T4q,T4q,T4q,T4q,T4q,T4q,T4q,T4q,T4q,T4q,T4q,T4q,T4q,T4q,T4q,T4q,T4q,T4q,T4q,T4q,F4q,F4q,F4q,F4q] rfl rfl (by kernel_rfl) (fun _ _ _ h => h) (Or.inl ⟨by rfl, ?_⟩) hHeld ?_ ?_
   rotate_left
   ·rintro w' ⟨s0, s1, s2, s3, s4⟩
    go_simp
    with_reducible rfl
   rotate_left
   ·simp only [Act.put, sIA, sC0, sCS, i64_w, i32_w]
    rfl
   refine pure_ (i := 20) (N := some 29) (v := ?_) (a' := ?_) #[T4q,T4q,T4q,T4q,T4q,T4q,T4q,T4q,T4q,T4q,T4q,T4q,T4q,T4q,T4q,T4q,T4q,T4q,T4q,T4q,T4q,F4q,F4q,F4q] rfl rfl (by kernel_rfl) (fun _ _ _ h => h) (Or.inl ⟨by rfl, ?_⟩) ?_ ?_
   rotate_left
   ·intro w'
    go_simp
    with_reducible rfl
   rotate_left
   ·simp only [Act.put, sIA, sC0, sCS, i64_w, i32_w]
    rfl
   refine take_ (i := 21) (N := some 30) (v := ?_) (a' := ?_) #[T4q,T4q,T4q,T4q,T4q,T4q,T4q,T4q,T4q,T4q,T4q,T4q,T4q,T4q,T4q,T4q,T4q,T4q,T4q,T4q,T4q,T4q,F4q,F4q] rfl rfl (by kernel_rfl) (fun _ _ _ h => h) (Or.inl ⟨by rfl, ?_⟩) hHeld ?_ ?_
   rotate_left
   ·rintro w' ⟨s0, s1, s2, s3, s4⟩
    go_simp
    with_reducible rfl
   rotate_left
   ·simp only [Act.put, sIA, sC0, sCS, i64_w, i32_w]
    rfl
   refine pure_ (i := 22) (N := some 31) (v := ?_) (a' := ?_) #[T4q,T4q,T4q,T4q,T4q,T4q,T4q,T4q,T4q,T4q,T4q,T4q,T4q,T4q,T4q,T4q,T4q,T4q,T4q,T4q,T4q,T4q,T4q,F4q] rfl rfl (by kernel_rfl) (fun _ _ _ h => h) (Or.inl ⟨by rfl, ?_⟩) ?_ ?_
   rotate_left
   ·intro w'
    go_simp
    with_reducible rfl
   rotate_left
   ·simp only [Act.put, sIA, sC0, sCS, i64_w, i32_w]
    rfl
   refine pure_ (i := 23) (N := some 32) (v := ?_) (a' := ?_) #[T4q,T4q,T4q,T4q,T4q,T4q,T4q,T4q,T4q,T4q,T4q,T4q,T4q,T4q,T4q,T4q,T4q,T4q,T4q,T4q,T4q,T4q,T4q,T4q] rfl rfl (by kernel_rfl) (fun _ _ _ h => h) (Or.inl ⟨by rfl, ?_⟩) ?_ ?_
   rotate_left
   ·intro w'
    go_simp
    with_reducible rfl
   rotate_left
   ·simp only [Act.put, sIA, sC0, sCS, i64_w, i32_w]
    rfl
   refine done_ (by kernel_rfl) ?_
   have hdr : Below w1.heap.size w1 w1.drew := below_drew (Below.refl _ _)
   have HCN2 := m0 (HCN.out.move hdr)
   have HGA2 := m0 (grown_trans HGA.out (grown_of_below (some pc) hdr))
   have u0 : w1.drew.cell? ⟨w.heap.size, 0, none⟩ = some (.int .i64 f0) := ht0
   have u1 : w1.drew.cell? ⟨w.heap.size, 1, none⟩ = some (.slice A n cp) := ht1
   have u2 : w1.drew.cell? ⟨w.heap.size, 2, none⟩ = some (.int .i64 0) := ht2
   have u3 : w1.drew.cell? ⟨w.heap.size, 3, none⟩ = some (.int .i64 f3) := ht3
   clear ht0 ht1 ht2 ht3 hc0 hcu hxr hHeld hdr
   revert HCN2 HGA2 u0 u1 u2 u3
   generalize w1.drew = w3
   intro HCN2 HGA2 u0 u1 u2 u3
   by_cases hgt : wrap64 (cu + f3) ≤ rr
   ·have hg1 : decide (wrap64 (cu + f3) > rr) = false := decide_eq_false (by omega)
    have hg2 : decide (rr < wrap64 (cu + f3)) = false := decide_eq_false (by omega)
    have htb : tb = true := by rw [HTK.out]; exact decide_eq_true hgt
    subst htb
    go_wp2_with (go_at_call 79; refine (HADD.out _ HCN2.out).mono ?_; rintro e w' ⟨rfl, hgr, hcn'⟩)
    go_ret
    exact ⟨rfl, grown_trans HGA2.out hgr, hcn'⟩
   ·have hg1 : decide (wrap64 (cu + f3) > rr) = true := decide_eq_true (by omega)
    have hg2 : decide (rr < wrap64 (cu + f3)) = true := decide_eq_true (by omega)
    have htb : tb = false := by rw [HTK.out]; exact decide_eq_false hgt
    subst htb
    go_wp2
    go_ret
    exact ⟨rfl, HGA2.out, HCN2.out⟩
  ·refine start_ (n := 24) (S := fun w' => w'.cell? ⟨pc, 0, none⟩ = some (.int .i64 c.t) ∧ w'.cell? ⟨w.heap.size, 2, none⟩ = some (.int .i64 1) ∧ w'.cell? ⟨pc, 2, none⟩ = some (.int .i64 cu) ∧ w'.cell? ⟨w.heap.size, 3, none⟩ = some (.int .i64 f3) ∧ w'.cell? ⟨ad.block, ad.off + 1, none⟩ = some (.int .i64 rr)) (ds := []) #[F4q,F4q,F4q,F4q,F4q,F4q,F4q,F4q,F4q,F4q,F4q,F4q,F4q,F4q,F4q,F4q,F4q,F4q,F4q,F4q,F4q,F4q,F4q,F4q] rfl (by kernel_rfl) rfl ⟨hc0, ht2, hcu, ht3, hxr⟩ (fun hHeld => ?_)
   refine pure_ (i := 0) (N := some 9) (v := ?_) (a' := ?_) #[T4q,F4q,F4q,F4q,F4q,F4q,F4q,F4q,F4q,F4q,F4q,F4q,F4q,F4q,F4q,F4q,F4q,F4q,F4q,F4q,F4q,F4q,F4q,F4q] rfl rfl (by kernel_rfl) (fun _ _ _ h => h) (Or.inl ⟨by rfl, ?_⟩) ?_ ?_
   rotate_left
   ·intro w'
    go_simp
    with_reducible rfl
   rotate_left
   ·simp only [Act.put, sIA, sC0, sCS, i64_w, i32_w]
    rfl
   refine pure_ (i := 1) (N := some 10) (v := ?_) (a' := ?_) #[T4q,T4q,F4q,F4q,F4q,F4q,F4q,F4q,F4q,F4q,F4q,F4q,F4q,F4q,F4q,F4q,F4q,F4q,F4q,F4q,F4q,F4q,F4q,F4q] rfl rfl (by kernel_rfl) (fun _ _ _ h => h) (Or.inl ⟨by rfl, ?_⟩) ?_ ?_
   rotate_left
   ·intro w'
    go_simp
    with_reducible rfl
   rotate_left
   ·simp only [Act.put, sIA, sC0, sCS, i64_w, i32_w]
    rfl
   refine pure_ (i := 2) (N := some 11) (v := ?_) (a' := ?_) #[T4q,T4q,T4q,F4q,F4q,F4q,F4q,F4q,F4q,F4q,F4q,F4q,F4q,F4q,F4q,F4q,F4q,F4q,F4q,F4q,F4q,F4q,F4q,F4q] rfl rfl (by kernel_rfl) (fun _ _ _ h => h) (Or.inl ⟨by rfl, ?_⟩) ?_ ?_
   rotate_left
   ·intro w'
    go_simp
    with_reducible rfl
   rotate_left
   ·simp only [Act.put, sIA, sC0, sCS, i64_w, i32_w]
    rfl
   refine take_ (i := 3) (N := some 12) (v := ?_) (a' := ?_) #[T4q,T4q,T4q,T4q,F4q,F4q,F4q,F4q,F4q,F4q,F4q,F4q,F4q,F4q,F4q,F4q,F4q,F4q,F4q,F4q,F4q,F4q,F4q,F4q] rfl rfl (by kernel_rfl) (fun _ _ _ h => h) (Or.inl ⟨by rfl, ?_⟩) hHeld ?_ ?_
   rotate_left
   ·rintro w' ⟨s0, s1, s2, s3, s4⟩
    go_simp
    with_reducible rfl
   rotate_left
   ·simp only [Act.put, sIA, sC0, sCS, i64_w, i32_w]
    rfl
   refine pure_ (i := 4) (N := some 13) (v := ?_) (a' := ?_) #[T4q,T4q,T4q,T4q,T4q,F4q,F4q,F4q,F4q,F4q,F4q,F4q,F4q,F4q,F4q,F4q,F4q,F4q,F4q,F4q,F4q,F4q,F4q,F4q] rfl rfl (by kernel_rfl) (fun _ _ _ h => h) (Or.inl ⟨by rfl, ?_⟩) ?_ ?_
   rotate_left
   ·intro w'
    go_simp
    with_reducible rfl
   rotate_left
   ·simp only [Act.put, sIA, sC0, sCS, i64_w, i32_w]
    rfl
   refine pure_ (i := 5) (N := some 14) (v := ?_) (a' := ?_) #[T4q,T4q,T4q,T4q,T4q,T4q,F4q,F4q,F4q,F4q,F4q,F4q,F4q,F4q,F4q,F4q,F4q,F4q,F4q,F4q,F4q,F4q,F4q,F4q] rfl rfl (by kernel_rfl) (fun _ _ _ h => h) (Or.inl ⟨by rfl, ?_⟩) ?_ ?_
   rotate_left
   ·intro w'
    go_simp
    with_reducible rfl
   rotate_left
   ·simp only [Act.put, sIA, sC0, sCS, i64_w, i32_w]
    rfl
   refine pure_ (i := 6) (N := some 15) (v := ?_) (a' := ?_) #[T4q,T4q,T4q,T4q,T4q,T4q,T4q,F4q,F4q,F4q,F4q,F4q,F4q,F4q,F4q,F4q,F4q,F4q,F4q,F4q,F4q,F4q,F4q,F4q] rfl rfl (by kernel_rfl) (fun _ _ _ h => h) (Or.inl ⟨by rfl, ?_⟩) ?_ ?_
   rotate_left
   ·intro w'
    go_simp
    with_reducible rfl
   rotate_left
   ·simp only [Act.put, sIA, sC0, sCS, i64_w, i32_w]
    rfl
   refine pure_ (i := 7) (N := some 16) (v := ?_) (a' := ?_) #[T4q,T4q,T4q,T4q,T4q,T4q,T4q,T4q,F4q,F4q,F4q,F4q,F4q,F4q,F4q,F4q,F4q,F4q,F4q,F4q,F4q,F4q,F4q,F4q] rfl rfl (by kernel_rfl) (fun _ _ _ h => h) (Or.inl ⟨by rfl, ?_⟩) ?_ ?_
   rotate_left
   ·intro w'
    go_simp
    with_reducible rfl
   rotate_left
   ·simp only [Act.put, sIA, sC0, sCS, i64_w, i32_w]
    rfl
   refine pure_ (i := 8) (N := some 17) (v := ?_) (a' := ?_) #[T4q,T4q,T4q,T4q,T4q,T4q,T4q,T4q,T4q,F4q,F4q,F4q,F4q,F4q,F4q,F4q,F4q,F4q,F4q,F4q,F4q,F4q,F4q,F4q] rfl rfl (by kernel_rfl) (fun _ _ _ h => h) (Or.inl ⟨by rfl, ?_⟩) ?_ ?_
   rotate_left
   ·intro w'
    go_simp
    with_reducible rfl
   rotate_left
   ·simp only [Act.put, sIA, sC0, sCS, i64_w, i32_w]
    rfl
   refine take_ (i := 9) (N := some 18) (v := ?_) (a' := ?_) #[T4q,T4q,T4q,T4q,T4q,T4q,T4q,T4q,T4q,T4q,F4q,F4q,F4q,F4q,F4q,F4q,F4q,F4q,F4q,F4q,F4q,F4q,F4q,F4q] rfl rfl (by kernel_rfl) (fun _ _ _ h => h) (Or.inl ⟨by rfl, ?_⟩) hHeld ?_ ?_
   rotate_left
   ·rintro w' ⟨s0, s1, s2, s3, s4⟩
    go_simp
    with_reducible rfl
   rotate_left
   ·simp only [Act.put, sIA, sC0, sCS, i64_w, i32_w]
    rfl
   refine pure_ (i := 10) (N := some 19) (v := ?_) (a' := ?_) #[T4q,T4q,T4q,T4q,T4q,T4q,T4q,T4q,T4q,T4q,T4q,F4q,F4q,F4q,F4q,F4q,F4q,F4q,F4q,F4q,F4q,F4q,F4q,F4q] rfl rfl (by kernel_rfl) (fun _ _ _ h => h) (Or.inl ⟨by rfl, ?_⟩) ?_ ?_
   rotate_left
   ·intro w'
    go_simp
    with_reducible rfl
   rotate_left
   ·simp only [Act.put, sIA, sC0, sCS, i64_w, i32_w]
    rfl
   refine pure_ (i := 11) (N := some 20) (v := ?_) (a' := ?_) #[T4q,T4q,T4q,T4q,T4q,T4q,T4q,T4q,T4q,T4q,T4q,T4q,F4q,F4q,F4q,F4q,F4q,F4q,F4q,F4q,F4q,F4q,F4q,F4q] rfl rfl (by kernel_rfl) (fun _ _ _ h => h) (Or.inl ⟨by rfl, ?_⟩) ?_ ?_
   rotate_left
   ·intro w'
    go_simp
    with_reducible rfl
   rotate_left
   ·simp only [Act.put, sIA, sC0, sCS, i64_w, i32_w]
    rfl
   refine pure_ (i := 12) (N := some 21) (v := ?_) (a' := ?_) #[T4q,T4q,T4q,T4q,T4q,T4q,T4q,T4q,T4q,T4q,T4q,T4q,T4q,F4q,F4q,F4q,F4q,F4q,F4q,F4q,F4q,F4q,F4q,F4q] rfl rfl (by kernel_rfl) (fun _ _ _ h => h) (Or.inl ⟨by rfl, ?_⟩) ?_ ?_
   rotate_left
   ·intro w'
    go_simp
    with_reducible rfl
   rotate_left
   ·simp only [Act.put, sIA, sC0, sCS, i64_w, i32_w]
    rfl
   refine take_ (i := 13) (N := some 22) (v := ?_) (a' := ?_) #[T4q,T4q,T4q,T4q,T4q,T4q,T4q,T4q,T4q,T4q,T4q,T4q,T4q,T4q,F4q,F4q,F4q,F4q,F4q,F4q,F4q,F4q,F4q,F4q] rfl rfl (by kernel_rfl) (fun _ _ _ h => h) (Or.inl ⟨by rfl, ?_⟩) hHeld ?_ ?_
   rotate_left
   ·rintro w' ⟨s0, s1, s2, s3, s4⟩
    go_simp
    with_reducible rfl
   rotate_left
   ·simp only [Act.put, sIA, sC0, sCS, i64_w, i32_w]
    rfl
   refine pure_ (i := 14) (N := some 23) (v := ?_) (a' := ?_) #[T4q,T4q,T4q,T4q,T4q,T4q,T4q,T4q,T4q,T4q,T4q,T4q,T4q,T4q,T4q,F4q,F4q,F4q,F4q,F4q,F4q,F4q,F4q,F4q] rfl rfl (by kernel_rfl) (fun _ _ _ h => h) (Or.inl ⟨by rfl, ?_⟩) ?_ ?_
   rotate_left
   ·intro w'
    go_simp
    with_reducible rfl
   rotate_left
   ·simp only [Act.put, sIA, sC0, sCS, i64_w, i32_w]
    rfl
   refine take_ (i := 15) (N := some 24) (v := ?_) (a' := ?_) #[T4q,T4q,T4q,T4q,T4q,T4q,T4q,T4q,T4q,T4q,T4q,T4q,T4q,T4q,T4q,T4q,F4q,F4q,F4q,F4q,F4q,F4q,F4q,F4q] rfl rfl (by kernel_rfl) (fun _ _ _ h => h) (Or.inl ⟨by rfl, ?_⟩) hHeld ?_ ?_
   rotate_left
   ·rintro w' ⟨s0, s1, s2, s3, s4⟩
    go_simp
    with_reducible rfl
   rotate_left
   ·simp only [Act.put, sIA, sC0, sCS, i64_w, i32_w]
    rfl
   refine pure_ (i := 16) (N := some 25) (v := ?_) (a' := ?_) #[T4q,T4q,T4q,T4q,T4q,T4q,T4q,T4q,T4q,T4q,T4q,T4q,T4q,T4q,T4q,T4q,T4q,F4q,F4q,F4q,F4q,F4q,F4q,F4q] rfl rfl (by kernel_rfl) (fun _ _ _ h => h) (Or.inl ⟨by rfl, ?_⟩) ?_ ?_
   rotate_left
   ·intro w'
    go_simp
    with_reducible rfl
   rotate_left
   ·simp only [Act.put, sIA, sC0, sCS, i64_w, i32_w]
    rfl
   refine pure_ (i := 17) (N := some 26) (v := ?_) (a' := ?_) #[T4q,T4q,T4q,T4q,T4q,T4q,T4q,T4q,T4q,T4q,T4q,T4q,T4q,T4q,T4q,T4q,T4q,T4q,F4q,F4q,F4q,F4q,F4q,F4q] rfl rfl (by kernel_rfl) (fun _ _ _ h => h) (Or.inl ⟨by rfl, ?_⟩) ?_ ?_
   rotate_left
   ·intro w'
    go_simp
    with_reducible rfl
   rotate_left
   ·simp only [Act.put, sIA, sC0, sCS, i64_w, i32_w]
    rfl
   refine pure_ (i := 18) (N := some 27) (v := ?_) (a' := ?_) #[T4q,T4q,T4q,T4q,T4q,T4q,T4q,T4q,T4q,T4q,T4q,T4q,T4q,T4q,T4q,T4q,T4q,T4q,T4q,F4q,F4q,F4q,F4q,F4q] rfl rfl (by kernel_rfl) (fun _ _ _ h => h) (Or.inl ⟨by rfl, ?_⟩) ?_ ?_
   rotate_left
   ·intro w'
    go_simp
    with_reducible rfl
   rotate_left
   ·simp only [Act.put, sIA, sC0, sCS, i64_w, i32_w]
    rfl
   refine take_ (i := 19) (N := some 28) (v := ?_) (a' := ?_) #[T4q,T4q,T4q,T4q,T4q,T4q,T4q,T4q,T4q,T4q,T4q,T4q,T4q,T4q,T4q,T4q,T4q,T4q,T4q,T4q,F4q,F4q,F4q,F4q] rfl rfl (by kernel_rfl) (fun _ _ _ h => h) (Or.inl ⟨by rfl, ?_⟩) hHeld ?_ ?_
   rotate_left
   ·rintro w' ⟨s0, s1, s2, s3, s4⟩
    go_simp
    with_reducible rfl
   rotate_left
   ·simp only [Act.put, sIA, sC0, sCS, i64_w, i32_w]
    rfl
   refine pure_ (i := 20) (N := some 29) (v := ?_) (a' := ?_) #[T4q,T4q,T4q,T4q,T4q,T4q,T4q,T4q,T4q,T4q,T4q,T4q,T4q,T4q,T4q,T4q,T4q,T4q,T4q,T4q,T4q,F4q,F4q,F4q] rfl rfl (by kernel_rfl) (fun _ _ _ h => h) (Or.inl ⟨by rfl, ?_⟩) ?_ ?_
   rotate_left
   ·intro w'
    go_simp
    with_reducible rfl
   rotate_left
   ·simp only [Act.put, sIA, sC0, sCS, i64_w, i32_w]
    rfl
   refine take_ (i := 21) (N := some 30) (v := ?_) (a' := ?_) #[T4q,T4q,T4q,T4q,T4q,T4q,T4q,T4q,T4q,T4q,T4q,T4q,T4q,T4q,T4q,T4q,T4q,T4q,T4q,T4q,T4q,T4q,F4q,F4q] rfl rfl (by kernel_rfl) (fun _ _ _ h => h) (Or.inl ⟨by rfl, ?_⟩) hHeld ?_ ?_
   rotate_left
   ·rintro w' ⟨s0, s1, s2, s3, s4⟩
    go_simp
    with_reducible rfl
   rotate_left
   ·simp only [Act.put, sIA, sC0, sCS, i64_w, i32_w]
    rfl
   refine pure_ (i := 22) (N := some 31) (v := ?_) (a' := ?_) #[T4q,T4q,T4q,T4q,T4q,T4q,T4q,T4q,T4q,T4q,T4q,T4q,T4q,T4q,T4q,T4q,T4q,T4q,T4q,T4q,T4q,T4q,T4q,F4q] rfl rfl (by kernel_rfl) (fun _ _ _ h => h) (Or.inl ⟨by rfl, ?_⟩) ?_ ?_
   rotate_left
   ·intro w'
    go_simp
    with_reducible rfl
   rotate_left
   ·simp only [Act.put, sIA, sC0, sCS, i64_w, i32_w]
    rfl
   refine pure_ (i := 23) (N := some 32) (v := ?_) (a' := ?_) #[T4q,T4q,T4q,T4q,T4q,T4q,T4q,T4q,T4q,T4q,T4q,T4q,T4q,T4q,T4q,T4q,T4q,T4q,T4q,T4q,T4q,T4q,T4q,T4q] rfl rfl (by kernel_rfl) (fun _ _ _ h => h) (Or.inl ⟨by rfl, ?_⟩) ?_ ?_
   rotate_left
   ·intro w'
    go_simp
    with_reducible rfl
   rotate_left
   ·simp only [Act.put, sIA, sC0, sCS, i64_w, i32_w]
    rfl
   refine done_ (by kernel_rfl) ?_
   have hdr : Below w1.heap.size w1 w1.drew := below_drew (Below.refl _ _)
   have HCN2 := m0 (HCN.out.move hdr)
   have HGA2 := m0 (grown_trans HGA.out (grown_of_below (some pc) hdr))
   have u0 : w1.drew.cell? ⟨w.heap.size, 0, none⟩ = some (.int .i64 f0) := ht0
   have u1 : w1.drew.cell? ⟨w.heap.size, 1, none⟩ = some (.slice A n cp) := ht1
   have u2 : w1.drew.cell? ⟨w.heap.size, 2, none⟩ = some (.int .i64 1) := ht2
   have u3 : w1.drew.cell? ⟨w.heap.size, 3, none⟩ = some (.int .i64 f3) := ht3
   clear ht0 ht1 ht2 ht3 hc0 hcu hxr hHeld hdr
   revert HCN2 HGA2 u0 u1 u2 u3
   generalize w1.drew = w3
   intro HCN2 HGA2 u0 u1 u2 u3
   by_cases hgt : wrap64 (cu + f3) ≤ rr
   ·have hg1 : decide (wrap64 (cu + f3) > rr) = false := decide_eq_false (by omega)
    have hg2 : decide (rr < wrap64 (cu + f3)) = false := decide_eq_false (by omega)
    have htb : tb = true := by rw [HTK.out]; exact decide_eq_true hgt
    subst htb
    go_wp2_with (go_at_call 79; refine (HADD.out _ HCN2.out).mono ?_; rintro e w' ⟨rfl, hgr, hcn'⟩)
    go_ret
    exact ⟨rfl, grown_trans HGA2.out hgr, hcn'⟩
   ·have hg1 : decide (wrap64 (cu + f3) > rr) = true := decide_eq_true (by omega)
    have hg2 : decide (rr < wrap64 (cu + f3)) = true := decide_eq_true (by omega)
    have htb : tb = false := by rw [HTK.out]; exact decide_eq_false hgt
    subst htb
    go_wp2
    go_ret
    exact ⟨rfl, HGA2.out, HCN2.out⟩
  ·refine start_ (n := 24) (S := fun w' => w'.cell? ⟨pc, 0, none⟩ = some (.int .i64 c.t) ∧ w'.cell? ⟨w.heap.size, 2, none⟩ = some (.int .i64 2) ∧ w'.cell? ⟨pc, 3, none⟩ = some (.int .i64 cu) ∧ w'.cell? ⟨w.heap.size, 3, none⟩ = some (.int .i64 f3) ∧ w'.cell? ⟨ad.block, ad.off + 2, none⟩ = some (.int .i64 rr)) (ds := []) #[F4q,F4q,F4q,F4q,F4q,F4q,F4q,F4q,F4q,F4q,F4q,F4q,F4q,F4q,F4q,F4q,F4q,F4q,F4q,F4q,F4q,F4q,F4q,F4q] rfl (by kernel_rfl) rfl ⟨hc0, ht2, hcu, ht3, hxr⟩ (fun hHeld => ?_)
   refine pure_ (i := 0) (N := some 9) (v := ?_) (a' := ?_) #[T4q,F4q,F4q,F4q,F4q,F4q,F4q,F4q,F4q,F4q,F4q,F4q,F4q,F4q,F4q,F4q,F4q,F4q,F4q,F4q,F4q,F4q,F4q,F4q] rfl rfl (by kernel_rfl) (fun _ _ _ h => h) (Or.inl ⟨by rfl, ?_⟩) ?_ ?_
   rotate_left
   ·intro w'
    go_simp
    with_reducible rfl
   rotate_left
   ·simp only [Act.put, sIA, sC0, sCS, i64_w, i32_w]
    rfl
   refine pure_ (i := 1) (N := some 10) (v := ?_) (a' := ?_) #[T4q,T4q,F4q,F4q,F4q,F4q,F4q,F4q,F4q,F4q,F4q,F4q,F4q,F4q,F4q,F4q,F4q,F4q,F4q,F4q,F4q,F4q,F4q,F4q] rfl rfl (by kernel_rfl) (fun _ _ _ h => h) (Or.inl ⟨by rfl, ?_⟩) ?_ ?_
   rotate_left
   ·intro w'
    go_simp
    with_reducible rfl
   rotate_left
   ·simp only [Act.put, sIA, sC0, sCS, i64_w, i32_w]
    rfl
   refine pure_ (i := 2) (N := some 11) (v := ?_) (a' := ?_) #[T4q,T4q,T4q,F4q,F4q,F4q,F4q,F4q,F4q,F4q,F4q,F4q,F4q,F4q,F4q,F4q,F4q,F4q,F4q,F4q,F4q,F4q,F4q,F4q] rfl rfl (by kernel_rfl) (fun _ _ _ h => h) (Or.inl ⟨by rfl, ?_⟩) ?_ ?_
   rotate_left
   ·intro w'
    go_simp
    with_reducible rfl
   rotate_left
   ·simp only [Act.put, sIA, sC0, sCS, i64_w, i32_w]
    rfl
   refine take_ (i := 3) (N := some 12) (v := ?_) (a' := ?_) #[T4q,T4q,T4q,T4q,F4q,F4q,F4q,F4q,F4q,F4q,F4q,F4q,F4q,F4q,F4q,F4q,F4q,F4q,F4q,F4q,F4q,F4q,F4q,F4q] rfl rfl (by kernel_rfl) (fun _ _ _ h => h) (Or.inl ⟨by rfl, ?_⟩) hHeld ?_ ?_
   rotate_left
   ·rintro w' ⟨s0, s1, s2, s3, s4⟩
    go_simp
    with_reducible rfl
   rotate_left
   ·simp only [Act.put, sIA, sC0, sCS, i64_w, i32_w]
    rfl
   refine pure_ (i := 4) (N := some 13) (v := ?_) (a' := ?_) #[T4q,T4q,T4q,T4q,T4q,F4q,F4q,F4q,F4q,F4q,F4q,F4q,F4q,F4q,F4q,F4q,F4q,F4q,F4q,F4q,F4q,F4q,F4q,F4q] rfl rfl (by kernel_rfl) (fun _ _ _ h => h) (Or.inl ⟨by rfl, ?_⟩) ?_ ?_
   rotate_left
   ·intro w'
    go_simp
    with_reducible rfl
   rotate_left
   ·simp only [Act.put, sIA, sC0, sCS, i64_w, i32_w]
    rfl
   refine pure_ (i := 5) (N := some 14) (v := ?_) (a' := ?_) #[T4q,T4q,T4q,T4q,T4q,T4q,F4q,F4q,F4q,F4q,F4q,F4q,F4q,F4q,F4q,F4q,F4q,F4q,F4q,F4q,F4q,F4q,F4q,F4q] rfl rfl (by kernel_rfl) (fun _ _ _ h => h) (Or.inl ⟨by rfl, ?_⟩) ?_ ?_
   rotate_left
   ·intro w'
    go_simp
    with_reducible rfl
   rotate_left
   ·simp only [Act.put, sIA, sC0, sCS, i64_w, i32_w]
    rfl
   refine pure_ (i := 6) (N := some 15) (v := ?_) (a' := ?_) #[T4q,T4q,T4q,T4q,T4q,T4q,T4q,F4q,F4q,F4q,F4q,F4q,F4q,F4q,F4q,F4q,F4q,F4q,F4q,F4q,F4q,F4q,F4q,F4q] rfl rfl (by kernel_rfl) (fun _ _ _ h => h) (Or.inl ⟨by rfl, ?_⟩) ?_ ?_
   rotate_left
   ·intro w'
    go_simp
    with_reducible rfl
   rotate_left
   ·simp only [Act.put, sIA, sC0, sCS, i64_w, i32_w]
    rfl
   refine pure_ (i := 7) (N := some 16) (v := ?_) (a' := ?_) #[T4q,T4q,T4q,T4q,T4q,T4q,T4q,T4q,F4q,F4q,F4q,F4q,F4q,F4q,F4q,F4q,F4q,F4q,F4q,F4q,F4q,F4q,F4q,F4q] rfl rfl (by kernel_rfl) (fun _ _ _ h => h) (Or.inl ⟨by rfl, ?_⟩) ?_ ?_
   rotate_left
   ·intro w'
    go_simp
    with_reducible rfl
   rotate_left
   ·simp only [Act.put, sIA, sC0, sCS, i64_w, i32_w]
    rfl
   refine pure_ (i := 8) (N := some 17) (v := ?_) (a' := ?_) #[T4q,T4q,T4q,T4q,T4q,T4q,T4q,T4q,T4q,F4q,F4q,F4q,F4q,F4q,F4q,F4q,F4q,F4q,F4q,F4q,F4q,F4q,F4q,F4q] rfl rfl (by kernel_rfl) (fun _ _ _ h => h) (Or.inl ⟨by rfl, ?_⟩) ?_ ?_
   rotate_left
   ·intro w'
    go_simp
    with_reducible rfl
   rotate_left
   ·simp only [Act.put, sIA, sC0, sCS, i64_w, i32_w]
    rfl
   refine take_ (i := 9) (N := some 18) (v := ?_) (a' := ?_) #[T4q,T4q,T4q,T4q,T4q,T4q,T4q,T4q,T4q,T4q,F4q,F4q,F4q,F4q,F4q,F4q,F4q,F4q,F4q,F4q,F4q,F4q,F4q,F4q] rfl rfl (by kernel_rfl) (fun _ _ _ h => h) (Or.inl ⟨by rfl, ?_⟩) hHeld ?_ ?_
   rotate_left
   ·rintro w' ⟨s0, s1, s2, s3, s4⟩
    go_simp
    with_reducible rfl
   rotate_left
   ·simp only [Act.put, sIA, sC0, sCS, i64_w, i32_w]
    rfl
   refine pure_ (i := 10) (N := some 19) (v := ?_) (a' := ?_) #[T4q,T4q,T4q,T4q,T4q,T4q,T4q,T4q,T4q,T4q,T4q,F4q,F4q,F4q,F4q,F4q,F4q,F4q,F4q,F4q,F4q,F4q,F4q,F4q] rfl rfl (by kernel_rfl) (fun _ _ _ h => h) (Or.inl ⟨by rfl, ?_⟩) ?_ ?_
   rotate_left
   ·intro w'
    go_simp
    with_reducible rfl
   rotate_left
   ·simp only [Act.put, sIA, sC0, sCS, i64_w, i32_w]
    rfl
   refine pure_ (i := 11) (N := some 20) (v := ?_) (a' := ?_) #[T4q,T4q,T4q,T4q,T4q,T4q,T4q,T4q,T4q,T4q,T4q,T4q,F4q,F4q,F4q,F4q,F4q,F4q,F4q,F4q,F4q,F4q,F4q,F4q] rfl rfl (by kernel_rfl) (fun _ _ _ h => h) (Or.inl ⟨by rfl, ?_⟩) ?_ ?_
   rotate_left
   ·intro w'
    go_simp
    with_reducible rfl
   rotate_left
   ·simp only [Act.put, sIA, sC0, sCS, i64_w, i32_w]
    rfl
   refine pure_ (i := 12) (N := some 21) (v := ?_) (a' := ?_) #[T4q,T4q,T4q,T4q,T4q,T4q,T4q,T4q,T4q,T4q,T4q,T4q,T4q,F4q,F4q,F4q,F4q,F4q,F4q,F4q,F4q,F4q,F4q,F4q] rfl rfl (by kernel_rfl) (fun _ _ _ h => h) (Or.inl ⟨by rfl, ?_⟩) ?_ ?_
   rotate_left
   ·intro w'
    go_simp
    with_reducible rfl
   rotate_left
   ·simp only [Act.put, sIA, sC0, sCS, i64_w, i32_w]
    rfl
   refine take_ (i := 13) (N := some 22) (v := ?_) (a' := ?_) #[T4q,T4q,T4q,T4q,T4q,T4q,T4q,T4q,T4q,T4q,T4q,T4q,T4q,T4q,F4q,F4q,F4q,F4q,F4q,F4q,F4q,F4q,F4q,F4q] rfl rfl (by kernel_rfl) (fun _ _ _ h => h) (Or.inl ⟨by rfl, ?_⟩) hHeld ?_ ?_
   rotate_left
   ·rintro w' ⟨s0, s1, s2, s3, s4⟩
    go_simp
    with_reducible rfl
   rotate_left
   ·simp only [Act.put, sIA, sC0, sCS, i64_w, i32_w]
    rfl
   refine pure_ (i := 14) (N := some 23) (v := ?_) (a' := ?_) #[T4q,T4q,T4q,T4q,T4q,T4q,T4q,T4q,T4q,T4q,T4q,T4q,T4q,T4q,T4q,F4q,F4q,F4q,F4q,F4q,F4q,F4q,F4q,F4q] rfl rfl (by kernel_rfl) (fun _ _ _ h => h) (Or.inl ⟨by rfl, ?_⟩) ?_ ?_
   rotate_left
   ·intro w'
    go_simp
    with_reducible rfl
   rotate_left
   ·simp only [Act.put, sIA, sC0, sCS, i64_w, i32_w]
    rfl
   refine take_ (i := 15) (N := some 24) (v := ?_) (a' := ?_) #[T4q,T4q,T4q,T4q,T4q,T4q,T4q,T4q,T4q,T4q,T4q,T4q,T4q,T4q,T4q,T4q,F4q,F4q,F4q,F4q,F4q,F4q,F4q,F4q] rfl rfl (by kernel_rfl) (fun _ _ _ h => h) (Or.inl ⟨by rfl, ?_⟩) hHeld ?_ ?_
   rotate_left
   ·rintro w' ⟨s0, s1, s2, s3, s4⟩
    go_simp
    with_reducible rfl
   rotate_left
   ·simp only [Act.put, sIA, sC0, sCS, i64_w, i32_w]
    rfl
   refine pure_ (i := 16) (N := some 25) (v := ?_) (a' := ?_) #[T4q,T4q,T4q,T4q,T4q,T4q,T4q,T4q,T4q,T4q,T4q,T4q,T4q,T4q,T4q,T4q,T4q,F4q,F4q,F4q,F4q,F4q,F4q,F4q] rfl rfl (by kernel_rfl) (fun _ _ _ h => h) (Or.inl ⟨by rfl, ?_⟩) ?_ ?_
   rotate_left
   ·intro w'
    go_simp
    with_reducible rfl
   rotate_left
   ·simp only [Act.put, sIA, sC0, sCS, i64_w, i32_w]
    rfl
   refine pure_ (i := 17) (N := some 26) (v := ?_) (a' := ?_) #[T4q,T4q,T4q,T4q,T4q,T4q,T4q,T4q,T4q,T4q,T4q,T4q,T4q,T4q,T4q,T4q,T4q,T4q,F4q,F4q,F4q,F4q,F4q,F4q] rfl rfl (by kernel_rfl) (fun _ _ _ h => h) (Or.inl ⟨by rfl, ?_⟩) ?_ ?_
   rotate_left
   ·intro w'
    go_simp
    with_reducible rfl
   rotate_left
   ·simp only [Act.put, sIA, sC0, sCS, i64_w, i32_w]
    rfl
   refine pure_ (i := 18) (N := some 27) (v := ?_) (a' := ?_) #[T4q,T4q,T4q,T4q,T4q,T4q,T4q,T4q,T4q,T4q,T4q,T4q,T4q,T4q,T4q,T4q,T4q,T4q,T4q,F4q,F4q,F4q,F4q,F4q] rfl rfl (by kernel_rfl) (fun _ _ _ h => h) (Or.inl ⟨by rfl, ?_⟩) ?_ ?_
   rotate_left
   ·intro w'
    go_simp
    with_reducible rfl
   rotate_left
   ·simp only [Act.put, sIA, sC0, sCS, i64_w, i32_w]
    rfl
   refine take_ (i := 19) (N := some 28) (v := ?_) (a' := ?_) #[T4q,T4q,T4q,T4q,T4q,T4q,T4q,T4q,T4q,T4q,T4q,T4q,T4q,T4q,T4q,T4q,T4q,T4q,T4q,T4q,F4q,F4q,F4q,F4q] rfl rfl (by kernel_rfl) (fun _ _ _ h => h) (Or.inl ⟨by rfl, ?_⟩) hHeld ?_ ?_
   rotate_left
   ·rintro w' ⟨s0, s1, s2, s3, s4⟩
    go_simp
    with_reducible rfl
   rotate_left
   ·simp only [Act.put, sIA, sC0, sCS, i64_w, i32_w]
    rfl
   refine pure_ (i := 20) (N := some 29) (v := ?_) (a' := ?_) #[T4q,T4q,T4q,T4q,T4q,T4q,T4q,T4q,T4q,T4q,T4q,T4q,T4q,T4q,T4q,T4q,T4q,T4q,T4q,T4q,T4q,F4q,F4q,F4q] rfl rfl (by kernel_rfl) (fun _ _ _ h => h) (Or.inl ⟨by rfl, ?_⟩) ?_ ?_
   rotate_left
   ·intro w'
    go_simp
    with_reducible rfl
   rotate_left
   ·simp only [Act.put, sIA, sC0, sCS, i64_w, i32_w]
    rfl
   refine take_ (i := 21) (N := some 30) (v := ?_) (a' := ?_) #[T4q,T4q,T4q,T4q,T4q,T4q,T4q,T4q,T4q,T4q,T4q,T4q,T4q,T4q,T4q,T4q,T4q,T4q,T4q,T4q,T4q,T4q,F4q,F4q] rfl rfl (by kernel_rfl) (fun _ _ _ h => h) (Or.inl ⟨by rfl, ?_⟩) hHeld ?_ ?_
   rotate_left
   ·rintro w' ⟨s0, s1, s2, s3, s4⟩
    go_simp
    with_reducible rfl
   rotate_left
   ·simp only [Act.put, sIA, sC0, sCS, i64_w, i32_w]
    rfl
   refine pure_ (i := 22) (N := some 31) (v := ?_) (a' := ?_) #[T4q,T4q,T4q,T4q,T4q,T4q,T4q,T4q,T4q,T4q,T4q,T4q,T4q,T4q,T4q,T4q,T4q,T4q,T4q,T4q,T4q,T4q,T4q,F4q] rfl rfl (by kernel_rfl) (fun _ _ _ h => h) (Or.inl ⟨by rfl, ?_⟩) ?_ ?_
   rotate_left
   ·intro w'
    go_simp
    with_reducible rfl
   rotate_left
   ·simp only [Act.put, sIA, sC0, sCS, i64_w, i32_w]
    rfl
   refine pure_ (i := 23) (N := some 32) (v := ?_) (a' := ?_) #[T4q,T4q,T4q,T4q,T4q,T4q,T4q,T4q,T4q,T4q,T4q,T4q,T4q,T4q,T4q,T4q,T4q,T4q,T4q,T4q,T4q,T4q,T4q,T4q] rfl rfl (by kernel_rfl) (fun _ _ _ h => h) (Or.inl ⟨by rfl, ?_⟩) ?_ ?_
   rotate_left
   ·intro w'
    go_simp
    with_reducible rfl
   rotate_left
   ·simp only [Act.put, sIA, sC0, sCS, i64_w, i32_w]
    rfl
   refine done_ (by kernel_rfl) ?_
   have hdr : Below w1.heap.size w1 w1.drew := below_drew (Below.refl _ _)
   have HCN2 := m0 (HCN.out.move hdr)
   have HGA2 := m0 (grown_trans HGA.out (grown_of_below (some pc) hdr))
   have u0 : w1.drew.cell? ⟨w.heap.size, 0, none⟩ = some (.int .i64 f0) := ht0
   have u1 : w1.drew.cell? ⟨w.heap.size, 1, none⟩ = some (.slice A n cp) := ht1
   have u2 : w1.drew.cell? ⟨w.heap.size, 2, none⟩ = some (.int .i64 2) := ht2
   have u3 : w1.drew.cell? ⟨w.heap.size, 3, none⟩ = some (.int .i64 f3) := ht3
   clear ht0 ht1 ht2 ht3 hc0 hcu hxr hHeld hdr
   revert HCN2 HGA2 u0 u1 u2 u3
   generalize w1.drew = w3
   intro HCN2 HGA2 u0 u1 u2 u3
   by_cases hgt : wrap64 (cu + f3) ≤ rr
   ·have hg1 : decide (wrap64 (cu + f3) > rr) = false := decide_eq_false (by omega)
    have hg2 : decide (rr < wrap64 (cu + f3)) = false := decide_eq_false (by omega)
    have htb : tb = true := by rw [HTK.out]; exact decide_eq_true hgt
    subst htb
    go_wp2_with (go_at_call 79; refine (HADD.out _ HCN2.out).mono ?_; rintro e w' ⟨rfl, hgr, hcn'⟩)
    go_ret
    exact ⟨rfl, grown_trans HGA2.out hgr, hcn'⟩
   ·have hg1 : decide (wrap64 (cu + f3) > rr) = true := decide_eq_true (by omega)
    have hg2 : decide (rr < wrap64 (cu + f3)) = true := decide_eq_true (by omega)
    have htb : tb = false := by rw [HTK.out]; exact decide_eq_false hgt
    subst htb
    go_wp2
    go_ret
    exact ⟨rfl, HGA2.out, HCN2.out⟩
 ·have hge : decide (c.t ≥ wk) = true := decide_eq_true (by omega)
  have hge2 : decide (wk ≤ c.t) = true := decide_eq_true (by omega)
  rw [decide_eq_false hw, Bool.false_and] at hdef
  subst hdef
  have HPAR := m0 hpar
  have HCN := m0 hcA
  have HGA := m0 hgA
  clear hpar hcA hgA hw hlt hB0 hc
  refine start_ (n := 24) (S := fun w' => w'.cell? ⟨pc, 0, none⟩ = some (.int .i64 c.t) ∧ w'.cell? ⟨w.heap.size, 2, none⟩ = some (.int .i64 f2) ∧ w'.cell? ⟨pc, 1 + f2.toNat, none⟩ = some (.int .i64 cu) ∧ w'.cell? ⟨w.heap.size, 3, none⟩ = some (.int .i64 f3) ∧ w'.cell? (ad.add f2.toNat) = some (.int .i64 rr)) (ds := []) #[F4q,F4q,F4q,F4q,F4q,F4q,F4q,F4q,F4q,F4q,F4q,F4q,F4q,F4q,F4q,F4q,F4q,F4q,F4q,F4q,F4q,F4q,F4q,F4q] rfl (by kernel_rfl) rfl ⟨hc0, ht2, hcu, ht3, hxr⟩ (fun hHeld => ?_)
  refine pure_ (i := 0) (N := some 9) (v := ?_) (a' := ?_) #[T4q,F4q,F4q,F4q,F4q,F4q,F4q,F4q,F4q,F4q,F4q,F4q,F4q,F4q,F4q,F4q,F4q,F4q,F4q,F4q,F4q,F4q,F4q,F4q] rfl rfl (by kernel_rfl) (fun _ _ _ h => h) (Or.inl ⟨by rfl, ?_⟩) ?_ ?_
  rotate_left
  ·intro w'
   go_simp
   with_reducible rfl
  rotate_left
  ·simp only [Act.put, sIA, sC0, sCS, i64_w, i32_w]
   rfl
  refine pure_ (i := 1) (N := some 10) (v := ?_) (a' := ?_) #[T4q,T4q,F4q,F4q,F4q,F4q,F4q,F4q,F4q,F4q,F4q,F4q,F4q,F4q,F4q,F4q,F4q,F4q,F4q,F4q,F4q,F4q,F4q,F4q] rfl rfl (by kernel_rfl) (fun _ _ _ h => h) (Or.inl ⟨by rfl, ?_⟩) ?_ ?_
  rotate_left
  ·intro w'
   go_simp
   with_reducible rfl
  rotate_left
  ·simp only [Act.put, sIA, sC0, sCS, i64_w, i32_w]
   rfl
  refine pure_ (i := 2) (N := some 11) (v := ?_) (a' := ?_) #[T4q,T4q,T4q,F4q,F4q,F4q,F4q,F4q,F4q,F4q,F4q,F4q,F4q,F4q,F4q,F4q,F4q,F4q,F4q,F4q,F4q,F4q,F4q,F4q] rfl rfl (by kernel_rfl) (fun _ _ _ h => h) (Or.inl ⟨by rfl, ?_⟩) ?_ ?_
  rotate_left
  ·intro w'
   go_simp
   with_reducible rfl
  rotate_left
  ·simp only [Act.put, sIA, sC0, sCS, i64_w, i32_w]
   rfl
  refine take_ (i := 3) (N := some 12) (v := ?_) (a' := ?_) #[T4q,T4q,T4q,T4q,F4q,F4q,F4q,F4q,F4q,F4q,F4q,F4q,F4q,F4q,F4q,F4q,F4q,F4q,F4q,F4q,F4q,F4q,F4q,F4q] rfl rfl (by kernel_rfl) (fun _ _ _ h => h) (Or.inl ⟨by rfl, ?_⟩) hHeld ?_ ?_
  rotate_left
  ·rintro w' ⟨s0, s1, s2, s3, s4⟩
   go_simp
   with_reducible rfl
  rotate_left
  ·simp only [Act.put, sIA, sC0, sCS, i64_w, i32_w]
   rfl
  refine pure_ (i := 4) (N := some 13) (v := ?_) (a' := ?_) #[T4q,T4q,T4q,T4q,T4q,F4q,F4q,F4q,F4q,F4q,F4q,F4q,F4q,F4q,F4q,F4q,F4q,F4q,F4q,F4q,F4q,F4q,F4q,F4q] rfl rfl (by kernel_rfl) (fun _ _ _ h => h) (Or.inl ⟨by rfl, ?_⟩) ?_ ?_
  rotate_left
  ·intro w'
   go_simp
   with_reducible rfl
  rotate_left
  ·simp only [Act.put, sIA, sC0, sCS, i64_w, i32_w]
   rfl
  refine pure_ (i := 5) (N := some 14) (v := ?_) (a' := ?_) #[T4q,T4q,T4q,T4q,T4q,T4q,F4q,F4q,F4q,F4q,F4q,F4q,F4q,F4q,F4q,F4q,F4q,F4q,F4q,F4q,F4q,F4q,F4q,F4q] rfl rfl (by kernel_rfl) (fun _ _ _ h => h) (Or.inl ⟨by rfl, ?_⟩) ?_ ?_
  rotate_left
  ·intro w'
   go_simp
   with_reducible rfl
  rotate_left
  ·simp only [Act.put, sIA, sC0, sCS, i64_w, i32_w]
   rfl
  refine pure_ (i := 6) (N := some 15) (v := ?_) (a' := ?_) #[T4q,T4q,T4q,T4q,T4q,T4q,T4q,F4q,F4q,F4q,F4q,F4q,F4q,F4q,F4q,F4q,F4q,F4q,F4q,F4q,F4q,F4q,F4q,F4q] rfl rfl (by kernel_rfl) (fun _ _ _ h => h) (Or.inl ⟨by rfl, ?_⟩) ?_ ?_
  rotate_left
  ·intro w'
   go_simp
   with_reducible rfl
  rotate_left
  ·simp only [Act.put, sIA, sC0, sCS, i64_w, i32_w]
   rfl
  refine pure_ (i := 7) (N := some 16) (v := undef) (a' := ?_) #[T4q,T4q,T4q,T4q,T4q,T4q,T4q,T4q,F4q,F4q,F4q,F4q,F4q,F4q,F4q,F4q,F4q,F4q,F4q,F4q,F4q,F4q,F4q,F4q] rfl rfl (by kernel_rfl) (fun _ _ _ h => h) (Or.inr ⟨by rfl, rfl⟩) ?_ ?_
  rotate_left
  ·simp only [Act.put, sIA, sC0, sCS, i64_w, i32_w]
   rfl
  refine pure_ (i := 8) (N := some 17) (v := undef) (a' := ?_) #[T4q,T4q,T4q,T4q,T4q,T4q,T4q,T4q,T4q,F4q,F4q,F4q,F4q,F4q,F4q,F4q,F4q,F4q,F4q,F4q,F4q,F4q,F4q,F4q] rfl rfl (by kernel_rfl) (fun _ _ _ h => h) (Or.inr ⟨by rfl, rfl⟩) ?_ ?_
  rotate_left
  ·simp only [Act.put, sIA, sC0, sCS, i64_w, i32_w]
   rfl
  refine pure_ (i := 9) (N := some 18) (v := undef) (a' := ?_) #[T4q,T4q,T4q,T4q,T4q,T4q,T4q,T4q,T4q,T4q,F4q,F4q,F4q,F4q,F4q,F4q,F4q,F4q,F4q,F4q,F4q,F4q,F4q,F4q] rfl rfl (by kernel_rfl) (fun _ _ _ h => h) (Or.inr ⟨by rfl, rfl⟩) ?_ ?_
  rotate_left
  ·simp only [Act.put, sIA, sC0, sCS, i64_w, i32_w]
   rfl
  refine pure_ (i := 10) (N := some 19) (v := undef) (a' := ?_) #[T4q,T4q,T4q,T4q,T4q,T4q,T4q,T4q,T4q,T4q,T4q,F4q,F4q,F4q,F4q,F4q,F4q,F4q,F4q,F4q,F4q,F4q,F4q,F4q] rfl rfl (by kernel_rfl) (fun _ _ _ h => h) (Or.inr ⟨by rfl, rfl⟩) ?_ ?_
  rotate_left
  ·simp only [Act.put, sIA, sC0, sCS, i64_w, i32_w]
   rfl
  refine pure_ (i := 11) (N := some 20) (v := undef) (a' := ?_) #[T4q,T4q,T4q,T4q,T4q,T4q,T4q,T4q,T4q,T4q,T4q,T4q,F4q,F4q,F4q,F4q,F4q,F4q,F4q,F4q,F4q,F4q,F4q,F4q] rfl rfl (by kernel_rfl) (fun _ _ _ h => h) (Or.inr ⟨by rfl, rfl⟩) ?_ ?_
  rotate_left
  ·simp only [Act.put, sIA, sC0, sCS, i64_w, i32_w]
   rfl
  refine pure_ (i := 12) (N := some 21) (v := undef) (a' := ?_) #[T4q,T4q,T4q,T4q,T4q,T4q,T4q,T4q,T4q,T4q,T4q,T4q,T4q,F4q,F4q,F4q,F4q,F4q,F4q,F4q,F4q,F4q,F4q,F4q] rfl rfl (by kernel_rfl) (fun _ _ _ h => h) (Or.inr ⟨by rfl, rfl⟩) ?_ ?_
  rotate_left
  ·simp only [Act.put, sIA, sC0, sCS, i64_w, i32_w]
   rfl
  refine pure_ (i := 13) (N := some 22) (v := undef) (a' := ?_) #[T4q,T4q,T4q,T4q,T4q,T4q,T4q,T4q,T4q,T4q,T4q,T4q,T4q,T4q,F4q,F4q,F4q,F4q,F4q,F4q,F4q,F4q,F4q,F4q] rfl rfl (by kernel_rfl) (fun _ _ _ h => h) (Or.inr ⟨by rfl, rfl⟩) ?_ ?_
  rotate_left
  ·simp only [Act.put, sIA, sC0, sCS, i64_w, i32_w]
   rfl
  refine pure_ (i := 14) (N := some 23) (v := undef) (a' := ?_) #[T4q,T4q,T4q,T4q,T4q,T4q,T4q,T4q,T4q,T4q,T4q,T4q,T4q,T4q,T4q,F4q,F4q,F4q,F4q,F4q,F4q,F4q,F4q,F4q] rfl rfl (by kernel_rfl) (fun _ _ _ h => h) (Or.inr ⟨by rfl, rfl⟩) ?_ ?_
  rotate_left
  ·simp only [Act.put, sIA, sC0, sCS, i64_w, i32_w]
   rfl
  refine pure_ (i := 15) (N := some 24) (v := undef) (a' := ?_) #[T4q,T4q,T4q,T4q,T4q,T4q,T4q,T4q,T4q,T4q,T4q,T4q,T4q,T4q,T4q,T4q,F4q,F4q,F4q,F4q,F4q,F4q,F4q,F4q] rfl rfl (by kernel_rfl) (fun _ _ _ h => h) (Or.inr ⟨by rfl, rfl⟩) ?_ ?_
  rotate_left
  ·simp only [Act.put, sIA, sC0, sCS, i64_w, i32_w]
   rfl
  refine pure_ (i := 16) (N := some 25) (v := undef) (a' := ?_) #[T4q,T4q,T4q,T4q,T4q,T4q,T4q,T4q,T4q,T4q,T4q,T4q,T4q,T4q,T4q,T4q,T4q,F4q,F4q,F4q,F4q,F4q,F4q,F4q] rfl rfl (by kernel_rfl) (fun _ _ _ h => h) (Or.inr ⟨by rfl, rfl⟩) ?_ ?_
  rotate_left
  ·simp only [Act.put, sIA, sC0, sCS, i64_w, i32_w]
   rfl
  refine pure_ (i := 17) (N := some 26) (v := undef) (a' := ?_) #[T4q,T4q,T4q,T4q,T4q,T4q,T4q,T4q,T4q,T4q,T4q,T4q,T4q,T4q,T4q,T4q,T4q,T4q,F4q,F4q,F4q,F4q,F4q,F4q] rfl rfl (by kernel_rfl) (fun _ _ _ h => h) (Or.inr ⟨by rfl, rfl⟩) ?_ ?_
  rotate_left
  ·simp only [Act.put, sIA, sC0, sCS, i64_w, i32_w]
   rfl
  refine pure_ (i := 18) (N := some 27) (v := undef) (a' := ?_) #[T4q,T4q,T4q,T4q,T4q,T4q,T4q,T4q,T4q,T4q,T4q,T4q,T4q,T4q,T4q,T4q,T4q,T4q,T4q,F4q,F4q,F4q,F4q,F4q] rfl rfl (by kernel_rfl) (fun _ _ _ h => h) (Or.inr ⟨by rfl, rfl⟩) ?_ ?_
  rotate_left
  ·simp only [Act.put, sIA, sC0, sCS, i64_w, i32_w]
   rfl
  refine pure_ (i := 19) (N := some 28) (v := undef) (a' := ?_) #[T4q,T4q,T4q,T4q,T4q,T4q,T4q,T4q,T4q,T4q,T4q,T4q,T4q,T4q,T4q,T4q,T4q,T4q,T4q,T4q,F4q,F4q,F4q,F4q] rfl rfl (by kernel_rfl) (fun _ _ _ h => h) (Or.inr ⟨by rfl, rfl⟩) ?_ ?_
  rotate_left
  ·simp only [Act.put, sIA, sC0, sCS, i64_w, i32_w]
   rfl
  refine pure_ (i := 20) (N := some 29) (v := undef) (a' := ?_) #[T4q,T4q,T4q,T4q,T4q,T4q,T4q,T4q,T4q,T4q,T4q,T4q,T4q,T4q,T4q,T4q,T4q,T4q,T4q,T4q,T4q,F4q,F4q,F4q] rfl rfl (by kernel_rfl) (fun _ _ _ h => h) (Or.inr ⟨by rfl, rfl⟩) ?_ ?_
  rotate_left
  ·simp only [Act.put, sIA, sC0, sCS, i64_w, i32_w]
   rfl
  refine pure_ (i := 21) (N := some 30) (v := undef) (a' := ?_) #[T4q,T4q,T4q,T4q,T4q,T4q,T4q,T4q,T4q,T4q,T4q,T4q,T4q,T4q,T4q,T4q,T4q,T4q,T4q,T4q,T4q,T4q,F4q,F4q] rfl rfl (by kernel_rfl) (fun _ _ _ h => h) (Or.inr ⟨by rfl, rfl⟩) ?_ ?_
  rotate_left
  ·simp only [Act.put, sIA, sC0, sCS, i64_w, i32_w]
   rfl
  refine pure_ (i := 22) (N := some 31) (v := undef) (a' := ?_) #[T4q,T4q,T4q,T4q,T4q,T4q,T4q,T4q,T4q,T4q,T4q,T4q,T4q,T4q,T4q,T4q,T4q,T4q,T4q,T4q,T4q,T4q,T4q,F4q] rfl rfl (by kernel_rfl) (fun _ _ _ h => h) (Or.inr ⟨by rfl, rfl⟩) ?_ ?_
  rotate_left
  ·simp only [Act.put, sIA, sC0, sCS, i64_w, i32_w]
   rfl
  refine pure_ (i := 23) (N := some 32) (v := ?_) (a' := ?_) #[T4q,T4q,T4q,T4q,T4q,T4q,T4q,T4q,T4q,T4q,T4q,T4q,T4q,T4q,T4q,T4q,T4q,T4q,T4q,T4q,T4q,T4q,T4q,T4q] rfl rfl (by kernel_rfl) (fun _ _ _ h => h) (Or.inl ⟨by rfl, ?_⟩) ?_ ?_
  rotate_left
  ·intro w'
   go_simp
   with_reducible rfl
  rotate_left
  ·simp only [Act.put, sIA, sC0, sCS, i64_w, i32_w]
   rfl
  refine done_ (by kernel_rfl) ?_
  have HCN2 := m0 (HCN.out.move (below_drew (Below.refl _ _)))
  have HGA2 := m0 (grown_trans HGA.out (grown_of_below (some pc) (below_drew (Below.refl _ w1))))
  go_wp2
  go_ret
  exact ⟨rfl, HGA2.out, HCN2.out⟩
end Go.Proofs.YtimbfcedigaffaaDoor.Core
end
