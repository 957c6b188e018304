/- The law FnExactAdmitTasks holds of the given program: the proof's own part, with its row and its card, part 4 of 8. -/
import Derived.Test.YtpibdjkajgfgjaaDoorZFnExactAdmitTasks3
namespace Go.Proofs.YtpibdjkajgfgjaaDoor.P
abbrev T4q : Bool := true
abbrev F4q : Bool := false
end Go.Proofs.YtpibdjkajgfgjaaDoor.P
section
namespace Go.Proofs.YtpibdjkajgfgjaaDoor.P
open Go.RowKit Go.Proofs.YtpibdjkajgfgjaaDoorW.PrintWords Go.Proofs.YtpibdjkajgfgjaaDoorW.PrintLast Go.Proofs.YtpibdjkajgfgjaaDoorW.PrintMore
attribute [local go_sem] max2_int min2_int max_two min_two max_three min_three max_four min_four   -- for this text's walks alone
set_option linter.unusedVariables false
set_option linter.unusedSimpArgs false
mutual
def spec_admit.l0 : Nat → List (S48) → List Int → List Int → Int → List Int → List Int → Int → Option (List Int)
 | 0, _, _, _, _, _, _, _ => none
 | k + 1, x0, x1, x3, x4, x11, x12, x13 => if x13 < (x3.length : Int) then (spec_admit.j1 k x0 x1 x3 x4 x11 x12 x13 (decide ((x12.length : Int) < x4))) else (spec_admit.j1 k x0 x1 x3 x4 x11 x12 x13 false)
def spec_admit.j1 : Nat → List (S48) → List Int → List Int → Int → List Int → List Int → Int → Bool → Option (List Int)
 | 0, _, _, _, _, _, _, _, _ => none
 | k + 1, x0, x1, x3, x4, x11, x12, x13, x27 => if x27 = true then (if 0 ≤ x13 then (if x13 < (x3.length : Int) then (if 0 ≤ (rd x3 x13) then (if (rd x3 x13) < (x0.length : Int) then ((spec_used.f k x0 x12 ((rd_T48 x0 (rd x3 x13)).f2)).bind fun t159 => (if 0 ≤ ((rd_T48 x0 (rd x3 x13)).f2) then (if ((rd_T48 x0 (rd x3 x13)).f2) < (x1.length : Int) then (if (wrap64 (t159 + ((rd_T48 x0 (rd x3 x13)).f3))) ≤ (rd x1 ((rd_T48 x0 (rd x3 x13)).f2)) then (if x11.length < 17592186044416 then (if x12.length < 17592186044416 then (spec_admit.l0 k x0 x1 x3 x4 (x11 ++ [rd x3 x13]) (x12 ++ [rd x3 x13]) (wrap64 (x13 + 1))) else (none)) else (none)) else (spec_admit.l0 k x0 x1 x3 x4 x11 x12 (wrap64 (x13 + 1)))) else (none)) else (none))) else (none)) else (none)) else (none)) else (none)) else (some x11)
end
def spec_admit.f (k : Nat) (l0 : List (S48)) (l1 : List Int) (l2 : List Int) (l3 : List Int) (a4 : Int) : Option (List Int) := (spec_copyInts.f l2).bind fun t153 => (spec_admit.l0 k l0 l1 l3 a4 (([] : List Int)) t153 0)
theorem spec_admit.mono_l : ∀ k, (∀ y0 y1 y2 y3 y4 y5 y6, LeO (spec_admit.l0 k y0 y1 y2 y3 y4 y5 y6) (spec_admit.l0 (k + 1) y0 y1 y2 y3 y4 y5 y6)) ∧ (∀ y0 y1 y2 y3 y4 y5 y6 y7, LeO (spec_admit.j1 k y0 y1 y2 y3 y4 y5 y6 y7) (spec_admit.j1 (k + 1) y0 y1 y2 y3 y4 y5 y6 y7))
 | 0 => ⟨fun _ _ _ _ _ _ _ r h => by simp [spec_admit.l0] at h, fun _ _ _ _ _ _ _ _ r h => by simp [spec_admit.j1] at h⟩
 | k + 1 => by
  obtain ⟨ih0, ih1⟩ := spec_admit.mono_l k
  refine ⟨?_, ?_⟩
  ·intro y0 y1 y2 y3 y4 y5 y6
   unfold spec_admit.l0
   repeat' first
   | (with_reducible exact ih0 _ _ _ _ _ _ _)
   | (with_reducible exact ih1 _ _ _ _ _ _ _ _)
   | (with_reducible exact spec_used.mono _ _ _ _)
   | (with_reducible exact LeO.refl _)
   | (with_reducible exact LeO.none _)
   | (with_reducible refine LeO.ite ?_ ?_)
   | (with_reducible refine LeO.bind ?_ (fun _ => ?_))
   | exact ih0 _ _ _ _ _ _ _
   | exact ih1 _ _ _ _ _ _ _ _
   | exact spec_used.mono _ _ _ _
   | exact LeO.none _
   | refine LeO.ite ?_ ?_
   | refine LeO.bind ?_ (fun _ => ?_)
  ·intro y0 y1 y2 y3 y4 y5 y6 y7
   unfold spec_admit.j1
   repeat' first
   | (with_reducible exact ih0 _ _ _ _ _ _ _)
   | (with_reducible exact ih1 _ _ _ _ _ _ _ _)
   | (with_reducible exact spec_used.mono _ _ _ _)
   | (with_reducible exact LeO.refl _)
   | (with_reducible exact LeO.none _)
   | (with_reducible refine LeO.ite ?_ ?_)
   | (with_reducible refine LeO.bind ?_ (fun _ => ?_))
   | exact ih0 _ _ _ _ _ _ _
   | exact ih1 _ _ _ _ _ _ _ _
   | exact spec_used.mono _ _ _ _
   | exact LeO.none _
   | refine LeO.ite ?_ ?_
   | refine LeO.bind ?_ (fun _ => ?_)
theorem spec_admit.mono : ∀ a0 a1 a2 a3 a4 k, LeO (spec_admit.f k a0 a1 a2 a3 a4) (spec_admit.f (k + 1) a0 a1 a2 a3 a4) := by
 intro a0 a1 a2 a3 a4 k
 obtain ⟨ih0, ih1⟩ := spec_admit.mono_l k
 unfold spec_admit.f
 repeat' first
   | (with_reducible exact ih0 _ _ _ _ _ _ _)
   | (with_reducible exact ih1 _ _ _ _ _ _ _ _)
   | (with_reducible exact spec_used.mono _ _ _ _)
   | (with_reducible exact LeO.refl _)
   | (with_reducible exact LeO.none _)
   | (with_reducible refine LeO.ite ?_ ?_)
   | (with_reducible refine LeO.bind ?_ (fun _ => ?_))
   | exact ih0 _ _ _ _ _ _ _
   | exact ih1 _ _ _ _ _ _ _ _
   | exact spec_used.mono _ _ _ _
   | exact LeO.none _
   | refine LeO.ite ?_ ?_
   | refine LeO.bind ?_ (fun _ => ?_)
set_option maxHeartbeats 8000000 in
set_option maxRecDepth 100000 in
theorem spec_admit.calls (k : Nat) (A0 : Option Addr) (c0 : Nat) (l0 : List (S48)) (A1 : Option Addr) (c1 : Nat) (l1 : List Int) (A2 : Option Addr) (c2 : Nat) (l2 : List Int) (A3 : Option Addr) (c3 : Nat) (l3 : List Int) (a4 : Int) (r : List Int) (w : World) (hr0 : Kd.C k48 w A0 l0.length l0) (hc0 : l0.length ≤ c0) (hr1 : Kd.C (Kd.int .i64) w A1 l1.length l1) (hc1 : l1.length ≤ c1) (hr2 : Kd.C (Kd.int .i64) w A2 l2.length l2) (hc2 : l2.length ≤ c2) (hr3 : Kd.C (Kd.int .i64) w A3 l3.length l3) (hc3 : l3.length ≤ c3) (h : spec_admit.f k l0 l1 l2 l3 a4 = some r) :
  Calls Tryd.prog 57 #[.slice A0 l0.length c0, .slice A1 l1.length c1, .slice A2 l2.length c2, .slice A3 l3.length c3, .int .i64 a4] w fun e w' => ∃ v0_ : Value, e = .returned (v0_) ∧ Kd.R (Kd.int .i64) 3 w' w.heap.size (fun _ => True) v0_ r ∧ Below w.heap.size w w' := by
 have hu48 := Tryd.underlying48
 have HR0 := Aside0.mk hr0
 have HC0 := Aside0.mk hc0
 clear hr0 hc0
 have HR1 := Aside0.mk hr1
 have HC1 := Aside0.mk hc1
 clear hr1 hc1
 have HR2 := Aside0.mk hr2
 have HC2 := Aside0.mk hc2
 clear hr2 hc2
 have HR3 := Aside0.mk hr3
 have HC3 := Aside0.mk hc3
 clear hr3 hc3
 have HB := Aside0.mk (Below.refl w.heap.size w)
 have H : ((spec_copyInts.f l2).bind fun t153 => (spec_admit.l0 k l0 l1 l3 a4 (([] : List Int)) t153 0)) = some r := h
 clear h
 obtain ⟨y150, hy150⟩ : ∃ y_ : List Int, y_ = (([] : List Int)) := ⟨_, rfl⟩
 replace H : ((spec_copyInts.f l2).bind fun t153 => (spec_admit.l0 k l0 l1 l3 a4 y150 t153 0)) = some r := by first | (rw [hy150]; with_reducible exact H) | (have H2_ := (Option.bind_some _ _).symm.trans H; rw [hy150]; with_reducible exact H2_) | (have H2_ := (Option.bind_some _ _).symm.trans H; with_reducible exact H2_) | with_reducible exact H | (rw [hy150]; exact H) | exact H
 have Ny150 := Aside0.mk hy150
 clear hy150
 replace H := Option.bind_eq_some_iff.mp H
 obtain ⟨t153, A60, H⟩ := H
 replace H : (spec_admit.l0 k l0 l1 l3 a4 y150 t153 0) = some r := H
 have A6 := Aside0.mk A60
 clear A60
 have H' := Aside0.mk H
 clear H
 go_enter Tryd.func57, Tryd.ntmps57
 go_wp2_with (first | ((with_reducible refine gate_dst (N := 15) rfl ?_); (try (refine gate_guard (by rfl) ?_; dsimp only)); refine Kd.R_lit (Kd.int .i64) _ 3 ?hg (N := 15) ?hd (xs := ([] : List Int)) (inner := []) (ok := fun _ => True) (okp := fun _ => True) ?hr ?hp (fun _ hk => hk) trivial (Below.refl _ _) (Nat.le_refl _) (by simp) ?_; (case hd => rfl); (case hg => rfl); (case hr => first | (go_simp; done) | (go_simp; rfl)); (case hp => exact (Reps.none _ _)); intro v151 w7 ho8 hb hg_ hnew_; clear hg_ hnew_; (first | rw [← Ny150.out] at ho8 | (simp only [Int.reduceToNat] at ho8; rw [← Ny150.out] at ho8)); have n0_ := Aside0.mk (Kd.R_lower ho8 (below_size (by repeat (first | (with_reducible first | exact HB.out | apply below_alloc | apply pw_below_drewN | apply below_drew1) | exact HB.out)))); have n1_ := Aside0.mk (below_step (by repeat (first | (with_reducible first | exact HB.out | apply below_alloc | apply pw_below_drewN | apply below_drew1) | exact HB.out)) hb); clear HB; have HO152 := n0_; have HB := n1_; clear n0_ n1_; clear hb ho8) | (go_at_call 90; (with_reducible refine (spec_copyInts.calls _ _ l2 t153 _ ?side1 ?side2 A6.out).mono ?_); (case side1 => repeat (first | exact (Kd.C_below HR2.out HB.out) | (with_reducible refine Kd.C_alloc ?_ _) | (with_reducible refine Kd.C_drewN ?_ _) | (with_reducible refine Kd.C_drew ?_))); (case side2 => exact HC2.out); rintro e w9 ⟨v154, rfl, ho0, hb⟩; have n0_ := Aside0.mk (Kd.R_elder' (by (with_reducible repeat (first | apply Kd.R_alloc | apply Kd.R_drewN | apply Kd.R_drew)); exact HO152.out) (Kd.R_base ho0) hb); have n1_ := Aside0.mk (Kd.R_lower (Kd.R_new' ho0 (Kd.R_lt (by (with_reducible repeat (first | apply Kd.R_alloc | apply Kd.R_drewN | apply Kd.R_drew)); exact HO152.out))) (below_size (by repeat (first | (with_reducible first | exact HB.out | apply below_alloc | apply pw_below_drewN | apply below_drew1) | exact HB.out)))); have n2_ := Aside0.mk (below_step (by repeat (first | (with_reducible first | exact HB.out | apply below_alloc | apply pw_below_drewN | apply below_drew1) | exact HB.out)) hb); clear HO152; clear HB; have HO152 := n0_; have HO155 := n1_; have HB := n2_; clear n0_ n1_ n2_; (try clear hb); (try clear hb2); (try clear hk); (try clear hi); (try clear ho0)))
 repeat (go_quiet (first | ((with_reducible refine gate_dst (N := 15) rfl ?_); (try (refine gate_guard (by rfl) ?_; dsimp only)); refine Kd.R_lit (Kd.int .i64) _ 3 ?hg (N := 15) ?hd (xs := ([] : List Int)) (inner := []) (ok := fun _ => True) (okp := fun _ => True) ?hr ?hp (fun _ hk => hk) trivial (Below.refl _ _) (Nat.le_refl _) (by simp) ?_; (case hd => rfl); (case hg => rfl); (case hr => first | (go_simp; done) | (go_simp; rfl)); (case hp => exact (Reps.none _ _)); intro v151 w7 ho8 hb hg_ hnew_; clear hg_ hnew_; (first | rw [← Ny150.out] at ho8 | (simp only [Int.reduceToNat] at ho8; rw [← Ny150.out] at ho8)); have n0_ := Aside0.mk (Kd.R_lower ho8 (below_size (by repeat (first | (with_reducible first | exact HB.out | apply below_alloc | apply pw_below_drewN | apply below_drew1) | exact HB.out)))); have n1_ := Aside0.mk (below_step (by repeat (first | (with_reducible first | exact HB.out | apply below_alloc | apply pw_below_drewN | apply below_drew1) | exact HB.out)) hb); clear HB; have HO152 := n0_; have HB := n1_; clear n0_ n1_; clear hb ho8) | (go_at_call 90; (with_reducible refine (spec_copyInts.calls _ _ l2 t153 _ ?side1 ?side2 A6.out).mono ?_); (case side1 => repeat (first | exact (Kd.C_below HR2.out HB.out) | (with_reducible refine Kd.C_alloc ?_ _) | (with_reducible refine Kd.C_drewN ?_ _) | (with_reducible refine Kd.C_drew ?_))); (case side2 => exact HC2.out); rintro e w9 ⟨v154, rfl, ho0, hb⟩; have n0_ := Aside0.mk (Kd.R_elder' (by (with_reducible repeat (first | apply Kd.R_alloc | apply Kd.R_drewN | apply Kd.R_drew)); exact HO152.out) (Kd.R_base ho0) hb); have n1_ := Aside0.mk (Kd.R_lower (Kd.R_new' ho0 (Kd.R_lt (by (with_reducible repeat (first | apply Kd.R_alloc | apply Kd.R_drewN | apply Kd.R_drew)); exact HO152.out))) (below_size (by repeat (first | (with_reducible first | exact HB.out | apply below_alloc | apply pw_below_drewN | apply below_drew1) | exact HB.out)))); have n2_ := Aside0.mk (below_step (by repeat (first | (with_reducible first | exact HB.out | apply below_alloc | apply pw_below_drewN | apply below_drew1) | exact HB.out)) hb); clear HO152; clear HB; have HO152 := n0_; have HO155 := n1_; have HB := n2_; clear n0_ n1_ n2_; (try clear hb); (try clear hb2); (try clear hk); (try clear hi); (try clear ho0))); try go_wp2_with (first | ((with_reducible refine gate_dst (N := 15) rfl ?_); (try (refine gate_guard (by rfl) ?_; dsimp only)); refine Kd.R_lit (Kd.int .i64) _ 3 ?hg (N := 15) ?hd (xs := ([] : List Int)) (inner := []) (ok := fun _ => True) (okp := fun _ => True) ?hr ?hp (fun _ hk => hk) trivial (Below.refl _ _) (Nat.le_refl _) (by simp) ?_; (case hd => rfl); (case hg => rfl); (case hr => first | (go_simp; done) | (go_simp; rfl)); (case hp => exact (Reps.none _ _)); intro v151 w7 ho8 hb hg_ hnew_; clear hg_ hnew_; (first | rw [← Ny150.out] at ho8 | (simp only [Int.reduceToNat] at ho8; rw [← Ny150.out] at ho8)); have n0_ := Aside0.mk (Kd.R_lower ho8 (below_size (by repeat (first | (with_reducible first | exact HB.out | apply below_alloc | apply pw_below_drewN | apply below_drew1) | exact HB.out)))); have n1_ := Aside0.mk (below_step (by repeat (first | (with_reducible first | exact HB.out | apply below_alloc | apply pw_below_drewN | apply below_drew1) | exact HB.out)) hb); clear HB; have HO152 := n0_; have HB := n1_; clear n0_ n1_; clear hb ho8) | (go_at_call 90; (with_reducible refine (spec_copyInts.calls _ _ l2 t153 _ ?side1 ?side2 A6.out).mono ?_); (case side1 => repeat (first | exact (Kd.C_below HR2.out HB.out) | (with_reducible refine Kd.C_alloc ?_ _) | (with_reducible refine Kd.C_drewN ?_ _) | (with_reducible refine Kd.C_drew ?_))); (case side2 => exact HC2.out); rintro e w9 ⟨v154, rfl, ho0, hb⟩; have n0_ := Aside0.mk (Kd.R_elder' (by (with_reducible repeat (first | apply Kd.R_alloc | apply Kd.R_drewN | apply Kd.R_drew)); exact HO152.out) (Kd.R_base ho0) hb); have n1_ := Aside0.mk (Kd.R_lower (Kd.R_new' ho0 (Kd.R_lt (by (with_reducible repeat (first | apply Kd.R_alloc | apply Kd.R_drewN | apply Kd.R_drew)); exact HO152.out))) (below_size (by repeat (first | (with_reducible first | exact HB.out | apply below_alloc | apply pw_below_drewN | apply below_drew1) | exact HB.out)))); have n2_ := Aside0.mk (below_step (by repeat (first | (with_reducible first | exact HB.out | apply below_alloc | apply pw_below_drewN | apply below_drew1) | exact HB.out)) hb); clear HO152; clear HB; have HO152 := n0_; have HO155 := n1_; have HB := n2_; clear n0_ n1_ n2_; (try clear hb); (try clear hb2); (try clear hk); (try clear hi); (try clear ho0))))
 go_loopg [11, 12, 13] k (fun kq v11 v12 v13 w' => ∃ (x11_1 : List Int) (x12_1 : List Int) (x13_1 : Int), v13 = .int .i64 x13_1 ∧ Aside0 (spec_admit.l0 kq l0 l1 l3 a4 x11_1 x12_1 x13_1 = some r) ∧ Aside0 (kq ≤ k) ∧ Aside0 (Kd.R (Kd.int .i64) 3 w' w.heap.size (fun k_ => some k_ ≠ (v12 : Value).ownBlock) v11 x11_1) ∧ Aside0 (Kd.R (Kd.int .i64) 3 w' w.heap.size (fun k_ => some k_ ≠ (v11 : Value).ownBlock) v12 x12_1) ∧ Aside0 (Below w.heap.size w w'))
 case atStart => exact ⟨(y150), (t153), (0), (by first | rfl | (simp; done) | (simp [*]; done)), H', ⟨Nat.le_refl _⟩, ⟨by (with_reducible repeat (first | apply Kd.R_alloc | apply Kd.R_drewN | apply Kd.R_drew)); exact Kd.R_mono HO152.out (fun _ hk => hk.2)⟩, ⟨by (with_reducible repeat (first | apply Kd.R_alloc | apply Kd.R_drewN | apply Kd.R_drew)); exact Kd.R_mono HO155.out (fun _ hk => hk.2)⟩, ⟨by repeat (first | (with_reducible first | exact HB.out | apply below_alloc | apply pw_below_drewN | apply below_drew1) | exact HB.out)⟩⟩
 case round =>
  clear H'
  try clear c1
  try clear c2
  try clear p2
  try clear c3
  try clear c5
  obtain ⟨x11_1, x12_1, x13_1, rfl, HA, HK1, HO_11, HO_12, HB⟩ := hrel
  cases gk with
  | zero => exact absurd HA.out (by simp [spec_admit.l0])
  | succ k1 =>
   have H := HA.out
   clear HA
   simp only [spec_admit.l0] at H
   have HC10 := Aside0.mk H
   clear H
   go_upto_region 4 with (fail)
   repeat (go_quiet (fail); go_upto_region 4 with (fail))
   go_cut [27] (fun v27 wc => ∃ (kq : Nat) (x27_9 : Bool), v27 = .bool x27_9 ∧ Aside0 (spec_admit.j1 kq l0 l1 l3 a4 x11_1 x12_1 x13_1 x27_9 = some r) ∧ Aside0 (kq ≤ k1) ∧ Aside0 (Kd.R (Kd.int .i64) 3 wc w.heap.size (fun k_ => some k_ ≠ (u12 : Value).ownBlock) u11 x11_1) ∧ Aside0 (Kd.R (Kd.int .i64) 3 wc w.heap.size (fun k_ => some k_ ≠ (u11 : Value).ownBlock) u12 x12_1) ∧ Aside0 (Below w.heap.size w wc))
   case first =>
    have H := HC10.out
    clear HC10
    by_cases c11 : x13_1 < (l3.length : Int)
    ·rw [if_pos c11] at H
     have c11b0 : decide (x13_1 < (l3.length : Int)) = true := decide_eq_true c11
     clear c11
     (first | rw [c11b0] | (simp only [i64_w, i32_w]; rw [c11b0]) | skip)
     have H' := Aside0.mk H
     clear H
     obtain ⟨Ao12, co12, eo12⟩ := Kd.R_slice HO_12.out
     subst eo12
     go_wp2
     repeat (go_quiet (fail); try go_wp2)
     go_meet
     case rel => exact ⟨_, (decide ((x12_1.length : Int) < a4)), (by first | rfl | (simp; done) | (simp [*]; done)), H', ⟨by have := HK1.out; first | omega | exact Nat.le_refl _⟩, ⟨by (with_reducible repeat (first | apply Kd.R_alloc | apply Kd.R_drewN | apply Kd.R_drew)); exact HO_11.out⟩, ⟨by (with_reducible repeat (first | apply Kd.R_alloc | apply Kd.R_drewN | apply Kd.R_drew)); exact HO_12.out⟩, ⟨by repeat (first | (with_reducible first | exact HB.out | apply below_alloc | apply pw_below_drewN | apply below_drew1) | exact HB.out)⟩⟩
    ·rw [if_neg c11] at H
     have c11b0 : decide (x13_1 < (l3.length : Int)) = false := decide_eq_false c11
     clear c11
     (first | rw [c11b0] | (simp only [i64_w, i32_w]; rw [c11b0]) | skip)
     have H' := Aside0.mk H
     clear H
     go_wp2
     repeat (go_quiet (fail); try go_wp2)
     go_meet
     case rel => exact ⟨_, (false), (by first | rfl | (simp; done) | (simp [*]; done)), H', ⟨by have := HK1.out; first | omega | exact Nat.le_refl _⟩, ⟨by (with_reducible repeat (first | apply Kd.R_alloc | apply Kd.R_drewN | apply Kd.R_drew)); exact HO_11.out⟩, ⟨by (with_reducible repeat (first | apply Kd.R_alloc | apply Kd.R_drewN | apply Kd.R_drew)); exact HO_12.out⟩, ⟨by repeat (first | (with_reducible first | exact HB.out | apply below_alloc | apply pw_below_drewN | apply below_drew1) | exact HB.out)⟩⟩
   case rest =>
    clear HC10
    try clear c1
    try clear c2
    try clear p2
    try clear c3
    try clear c5
    try clear c11
    try clear c11b0
    try clear p2
    obtain ⟨kq, x27_9, rfl, HA, HJ9, HO_11, HO_12, HB⟩ := hcut
    cases kq with
    | zero => exact absurd HA.out (by simp [spec_admit.j1])
    | succ kj9 =>
     have H := HA.out
     clear HA
     simp only [spec_admit.j1] at H
     by_cases c13 : x27_9 = true
     ·subst c13
      have H1 : (if 0 ≤ x13_1 then (if x13_1 < (l3.length : Int) then (if 0 ≤ (rd l3 x13_1) then (if (rd l3 x13_1) < (l0.length : Int) then ((spec_used.f kj9 l0 x12_1 ((rd_T48 l0 (rd l3 x13_1)).f2)).bind fun t159 => (if 0 ≤ ((rd_T48 l0 (rd l3 x13_1)).f2) then (if ((rd_T48 l0 (rd l3 x13_1)).f2) < (l1.length : Int) then (if (wrap64 (t159 + ((rd_T48 l0 (rd l3 x13_1)).f3))) ≤ (rd l1 ((rd_T48 l0 (rd l3 x13_1)).f2)) then (if x11_1.length < 17592186044416 then (if x12_1.length < 17592186044416 then (spec_admit.l0 kj9 l0 l1 l3 a4 (x11_1 ++ [rd l3 x13_1]) (x12_1 ++ [rd l3 x13_1]) (wrap64 (x13_1 + 1))) else (none)) else (none)) else (spec_admit.l0 kj9 l0 l1 l3 a4 x11_1 x12_1 (wrap64 (x13_1 + 1)))) else (none)) else (none))) else (none)) else (none)) else (none)) else (none)) = some r := by rw [if_pos rfl] at H; exact H
      clear H
      have H := H1
      clear H1
      by_cases c14 : 0 ≤ x13_1
      ·rw [if_pos c14] at H
       have c14b0 : decide (0 ≤ x13_1) = true := decide_eq_true c14
       clear c14
       by_cases c15 : x13_1 < (l3.length : Int)
       ·rw [if_pos c15] at H
        have c15b0 : decide (x13_1 < (l3.length : Int)) = true := decide_eq_true c15
        clear c15
        by_cases c16 : 0 ≤ (rd l3 x13_1)
        ·rw [if_pos c16] at H
         have c16b0 : decide (0 ≤ (rd l3 x13_1)) = true := decide_eq_true c16
         clear c16
         by_cases c17 : (rd l3 x13_1) < (l0.length : Int)
         ·rw [if_pos c17] at H
          have c17b0 : decide ((rd l3 x13_1) < (l0.length : Int)) = true := decide_eq_true c17
          clear c17
          replace H := Option.bind_eq_some_iff.mp H
          obtain ⟨t159, A180, H⟩ := H
          replace H : (if 0 ≤ ((rd_T48 l0 (rd l3 x13_1)).f2) then (if ((rd_T48 l0 (rd l3 x13_1)).f2) < (l1.length : Int) then (if (wrap64 (t159 + ((rd_T48 l0 (rd l3 x13_1)).f3))) ≤ (rd l1 ((rd_T48 l0 (rd l3 x13_1)).f2)) then (if x11_1.length < 17592186044416 then (if x12_1.length < 17592186044416 then (spec_admit.l0 kj9 l0 l1 l3 a4 (x11_1 ++ [rd l3 x13_1]) (x12_1 ++ [rd l3 x13_1]) (wrap64 (x13_1 + 1))) else (none)) else (none)) else (spec_admit.l0 kj9 l0 l1 l3 a4 x11_1 x12_1 (wrap64 (x13_1 + 1)))) else (none)) else (none)) = some r := H
          have A18 := Aside0.mk A180
          clear A180
          by_cases c19 : 0 ≤ ((rd_T48 l0 (rd l3 x13_1)).f2)
          ·rw [if_pos c19] at H
           have c19b0 : decide (0 ≤ ((rd_T48 l0 (rd l3 x13_1)).f2)) = true := decide_eq_true c19
           clear c19
           by_cases c20 : ((rd_T48 l0 (rd l3 x13_1)).f2) < (l1.length : Int)
           ·rw [if_pos c20] at H
            have c20b0 : decide (((rd_T48 l0 (rd l3 x13_1)).f2) < (l1.length : Int)) = true := decide_eq_true c20
            clear c20
            by_cases c21 : (wrap64 (t159 + ((rd_T48 l0 (rd l3 x13_1)).f3))) ≤ (rd l1 ((rd_T48 l0 (rd l3 x13_1)).f2))
            ·rw [if_pos c21] at H
             have c21b0 : decide ((wrap64 (t159 + ((rd_T48 l0 (rd l3 x13_1)).f3))) ≤ (rd l1 ((rd_T48 l0 (rd l3 x13_1)).f2))) = true := decide_eq_true c21
             have c21b0w : decide ((IntKind.i64.wrap (t159 + ((rd_T48 l0 (rd l3 x13_1)).f3))) ≤ (rd l1 ((rd_T48 l0 (rd l3 x13_1)).f2))) = true := by rw [i64_w]; exact c21b0
             clear c21
             by_cases c22 : x11_1.length < 17592186044416
             ·rw [if_pos c22] at H
              have LMc22 := Aside0.mk c22
              clear c22
              obtain ⟨y162, hy162⟩ : ∃ y_ : List Int, y_ = (x11_1 ++ [rd l3 x13_1]) := ⟨_, rfl⟩
              replace H : (if x12_1.length < 17592186044416 then (spec_admit.l0 kj9 l0 l1 l3 a4 y162 (x12_1 ++ [rd l3 x13_1]) (wrap64 (x13_1 + 1))) else (none)) = some r := by first | (rw [hy162]; with_reducible exact H) | (have H2_ := (Option.bind_some _ _).symm.trans H; rw [hy162]; with_reducible exact H2_) | (have H2_ := (Option.bind_some _ _).symm.trans H; with_reducible exact H2_) | with_reducible exact H | (rw [hy162]; exact H) | exact H
              have Ny162 := Aside0.mk hy162
              clear hy162
              by_cases c23 : x12_1.length < 17592186044416
              ·rw [if_pos c23] at H
               have LMc23 := Aside0.mk c23
               clear c23
               obtain ⟨y166, hy166⟩ : ∃ y_ : List Int, y_ = (x12_1 ++ [rd l3 x13_1]) := ⟨_, rfl⟩
               replace H : (spec_admit.l0 kj9 l0 l1 l3 a4 y162 y166 (wrap64 (x13_1 + 1))) = some r := by first | (rw [hy166]; with_reducible exact H) | (have H2_ := (Option.bind_some _ _).symm.trans H; rw [hy166]; with_reducible exact H2_) | (have H2_ := (Option.bind_some _ _).symm.trans H; with_reducible exact H2_) | with_reducible exact H | (rw [hy166]; exact H) | exact H
               have Ny166 := Aside0.mk hy166
               clear hy166
               have H' := Aside0.mk H
               clear H
               have p156 : 0 ≤ (x13_1 : Int) := of_decide_eq_true (by first | (with_reducible assumption) | assumption)
               have q156 : x13_1 < (l3.length : Int) := of_decide_eq_true (by first | (with_reducible assumption) | assumption)
               obtain ⟨ad156, e156, hx156_0⟩ := Kd.at_int HR3.out x13_1 p156 q156
               cases e156
               (try replace hx156_0 := (HB.out.cell (World.block_lt_of_cell? w _ hx156_0)).trans hx156_0)
               replace p156 := eq_true p156
               replace q156 := eq_true q156
               have p157 : 0 ≤ ((rd l3 x13_1) : Int) := of_decide_eq_true (by first | (with_reducible assumption) | assumption)
               have q157 : (rd l3 x13_1) < (l0.length : Int) := of_decide_eq_true (by first | (with_reducible assumption) | assumption)
               obtain ⟨ad157, A157_1, c157_1, e157, hx157_0, hx157_1, hx157_2, hx157_3, hl157_1, hi157_1⟩ := at_T48 HR0.out (rd l3 x13_1) p157 q157
               cases e157
               (try replace hx157_0 := (HB.out.cell (World.block_lt_of_cell? w _ hx157_0)).trans hx157_0)
               (try replace hx157_1 := (HB.out.cell (World.block_lt_of_cell? w _ hx157_1)).trans hx157_1)
               (try replace hx157_2 := (HB.out.cell (World.block_lt_of_cell? w _ hx157_2)).trans hx157_2)
               (try replace hx157_3 := (HB.out.cell (World.block_lt_of_cell? w _ hx157_3)).trans hx157_3)
               have HR157_1 := Aside0.mk hi157_1
               have HC157_1 := Aside0.mk hl157_1
               clear hi157_1 hl157_1
               replace p157 := eq_true p157
               replace q157 := eq_true q157
               go_wp2_with (first | ((with_reducible refine gate_dst (N := 14) rfl ?_); (try (refine gate_guard (by rfl) ?_; dsimp only)); refine box_event ?hg (N := 14) ?hd (cs := #[.int .i64 0, .slice none 0 0, .int .i64 0, .int .i64 0]) (t := 48) ?hr ?_; (case hd => rfl); (case hg => rfl); (case hr => first | (go_simp; done) | (go_simp; rfl)); intro gb158 hg w24 hbox hb; have n0_ := Aside0.mk (Kd.R_below (by (with_reducible repeat (first | apply Kd.R_alloc | apply Kd.R_drewN | apply Kd.R_drew)); exact HO_11.out) hb); have n1_ := Aside0.mk (Kd.R_below (by (with_reducible repeat (first | apply Kd.R_alloc | apply Kd.R_drewN | apply Kd.R_drew)); exact HO_12.out) hb); have n2_ := Aside0.mk (below_step (by repeat (first | (with_reducible first | exact HB.out | apply below_alloc | apply pw_below_drewN | apply below_drew1) | exact HB.out)) hb); have n3_ := Aside0.mk (hbox); have n4_ := Aside0.mk ((by rw [hg]; exact (below_size (by repeat (first | (with_reducible first | exact HB.out | apply below_alloc | apply pw_below_drewN | apply below_drew1) | exact HB.out))) : w.heap.size ≤ gb158)); have n5_ := Aside0.mk ((by rw [hg]; exact (below_size (by repeat (first | (with_reducible first | exact HB.out | apply below_alloc | apply pw_below_drewN | apply below_drew1) | exact HB.out))) : w.heap.size ≤ gb158)); clear HO_11; clear HO_12; clear HB; have HO_11 := n0_; have HO_12 := n1_; have HB := n2_; have BK158 := n3_; have GW158 := n4_; have GE158 := n5_; clear n0_ n1_ n2_ n3_ n4_ n5_; clear hb hbox hg; have hcz25_0 : w24.cell? ⟨gb158, 0, none⟩ = some (.int .i64 0) := (blk_cell BK158.out 0).trans rfl; have hcz25_1 : w24.cell? ⟨gb158, 1, none⟩ = some (.slice none 0 0) := (blk_cell BK158.out 1).trans rfl; have hcz25_2 : w24.cell? ⟨gb158, 2, none⟩ = some (.int .i64 0) := (blk_cell BK158.out 2).trans rfl; have hcz25_3 : w24.cell? ⟨gb158, 3, none⟩ = some (.int .i64 0) := (blk_cell BK158.out 3).trans rfl; have hfz25_0 := blk_frozen BK158.out 0; have hfz25_1 := blk_frozen BK158.out 1; have hfz25_2 := blk_frozen BK158.out 2; have hfz25_3 := blk_frozen BK158.out 3; obtain ⟨Ao26, co26, eo26⟩ := Kd.R_slice HO_12.out; subst eo26) | (go_at_call 102; (with_reducible refine (spec_used.calls kj9 _ _ l0 _ _ x12_1 ((rd_T48 l0 (rd l3 x13_1)).f2) t159 _ ?side1 ?side2 ?side3 ?side4 A18.out).mono ?_); (case side1 => exact Kd.C_below HR0.out (by repeat (first | (with_reducible first | exact HB.out | apply below_alloc | apply pw_below_drewN | apply below_drew1 | refine below_set ?_ GE158.out) | exact HB.out))); (case side2 => exact HC0.out); (case side3 => refine (Kd.R_reads' (e := 3) (base := w.heap.size) (ok := fun k_ => some k_ ≠ (u11 : Value).ownBlock) (n := x12_1.length) (c := co26) ?_).2.2; exact (by (with_reducible repeat (first | apply Kd.R_alloc | apply Kd.R_drewN | apply Kd.R_drew)); exact (Kd.R_mono (Kd.R_far (p := ⟨gb158, 3, none⟩) (Kd.R_far (p := ⟨gb158, 2, none⟩) (Kd.R_far (p := ⟨gb158, 1, none⟩) (Kd.R_far (p := ⟨gb158, 0, none⟩) (Kd.R_types HO_12.out BK158.out (by decide)) (fun _ hk => hk.2) (.int .i64 ((rd_T48 l0 (rd l3 x13_1)).f0))) (fun _ hk => hk.2) (.slice A157_1 ((rd_T48 l0 (rd l3 x13_1)).f1).length c157_1)) (fun _ hk => hk.2) (.int .i64 ((rd_T48 l0 (rd l3 x13_1)).f2))) (fun _ hk => hk.2) (.int .i64 ((rd_T48 l0 (rd l3 x13_1)).f3))) (fun _ h_ => h_.1)))); (case side4 => exact (Kd.R_reads' HO_12.out).2.1); rintro e w' ⟨rfl, ⟨nd, rfl⟩⟩; (try first | exact ⟨rfl, _, World.drewN_drewN _ _ _⟩ | exact ⟨rfl, _, Eq.trans (World.drewN_drewN _ _ _) (congrArg (World.drewN _) (Nat.add_assoc _ _ _))⟩); have p160 : 0 ≤ (((rd_T48 l0 (rd l3 x13_1)).f2) : Int) := of_decide_eq_true (by first | (with_reducible assumption) | assumption); have q160 : ((rd_T48 l0 (rd l3 x13_1)).f2) < (l1.length : Int) := of_decide_eq_true (by first | (with_reducible assumption) | assumption); obtain ⟨ad160, e160, hx160_0⟩ := Kd.at_int HR1.out ((rd_T48 l0 (rd l3 x13_1)).f2) p160 q160; cases e160; have hn160_0 : ad160.block ≠ gb158 := Nat.ne_of_lt (Nat.lt_of_lt_of_le (by have := World.block_lt_of_cell? _ _ hx160_0; first | rwa [add_block] at this | exact this) GW158.out); have hn160_1 : ad160.block ≠ gb158 := Nat.ne_of_lt (Nat.lt_of_lt_of_le (by have := World.block_lt_of_cell? _ _ hx160_0; first | rwa [add_block] at this | exact this) GW158.out); have hn160_2 : ad160.block ≠ gb158 := Nat.ne_of_lt (Nat.lt_of_lt_of_le (by have := World.block_lt_of_cell? _ _ hx160_0; first | rwa [add_block] at this | exact this) GW158.out); have hn160_3 : ad160.block ≠ gb158 := Nat.ne_of_lt (Nat.lt_of_lt_of_le (by have := World.block_lt_of_cell? _ _ hx160_0; first | rwa [add_block] at this | exact this) GW158.out); replace hx160_0 := (HB.out.cell (World.block_lt_of_cell? w _ hx160_0)).trans hx160_0; replace hx160_0 := (cell_far (p := ⟨gb158, 0, none⟩) (by first | (rw [add_block]; exact hn160_0) | (show (Addr.add _ _).block ≠ _; rw [add_block]; exact hn160_0) | exact hn160_0) (.int .i64 ((rd_T48 l0 (rd l3 x13_1)).f0))).trans hx160_0; replace hx160_0 := (cell_far (p := ⟨gb158, 1, none⟩) (by first | (rw [add_block]; exact hn160_1) | (show (Addr.add _ _).block ≠ _; rw [add_block]; exact hn160_1) | exact hn160_1) (.slice A157_1 ((rd_T48 l0 (rd l3 x13_1)).f1).length c157_1)).trans hx160_0; replace hx160_0 := (cell_far (p := ⟨gb158, 2, none⟩) (by first | (rw [add_block]; exact hn160_2) | (show (Addr.add _ _).block ≠ _; rw [add_block]; exact hn160_2) | exact hn160_2) (.int .i64 ((rd_T48 l0 (rd l3 x13_1)).f2))).trans hx160_0; replace hx160_0 := (cell_far (p := ⟨gb158, 3, none⟩) (by first | (rw [add_block]; exact hn160_3) | (show (Addr.add _ _).block ≠ _; rw [add_block]; exact hn160_3) | exact hn160_3) (.int .i64 ((rd_T48 l0 (rd l3 x13_1)).f3))).trans hx160_0; (try have hy160_0 := fun (n_ : Nat) => (show ((((((w24.drewN n_).setCell ⟨gb158, 0, none⟩ (.int .i64 ((rd_T48 l0 (rd l3 x13_1)).f0))).setCell ⟨gb158, 1, none⟩ (.slice A157_1 ((rd_T48 l0 (rd l3 x13_1)).f1).length c157_1)).setCell ⟨gb158, 2, none⟩ (.int .i64 ((rd_T48 l0 (rd l3 x13_1)).f2))).setCell ⟨gb158, 3, none⟩ (.int .i64 ((rd_T48 l0 (rd l3 x13_1)).f3)))).cell? _ = some _ from hx160_0)); clear hn160_0; clear hn160_1; clear hn160_2; clear hn160_3; replace p160 := eq_true p160; replace q160 := eq_true q160; have p161 : 0 ≤ (x13_1 : Int) := of_decide_eq_true (by first | (with_reducible assumption) | assumption); have q161 : x13_1 < (l3.length : Int) := of_decide_eq_true (by first | (with_reducible assumption) | assumption); obtain ⟨ad161, e161, hx161_0⟩ := Kd.at_int HR3.out x13_1 p161 q161; obtain rfl : ad156 = ad161 := (by injection e161); have hn161_0 : ad156.block ≠ gb158 := Nat.ne_of_lt (Nat.lt_of_lt_of_le (by have := World.block_lt_of_cell? _ _ hx161_0; first | rwa [add_block] at this | exact this) GW158.out); have hn161_1 : ad156.block ≠ gb158 := Nat.ne_of_lt (Nat.lt_of_lt_of_le (by have := World.block_lt_of_cell? _ _ hx161_0; first | rwa [add_block] at this | exact this) GW158.out); have hn161_2 : ad156.block ≠ gb158 := Nat.ne_of_lt (Nat.lt_of_lt_of_le (by have := World.block_lt_of_cell? _ _ hx161_0; first | rwa [add_block] at this | exact this) GW158.out); have hn161_3 : ad156.block ≠ gb158 := Nat.ne_of_lt (Nat.lt_of_lt_of_le (by have := World.block_lt_of_cell? _ _ hx161_0; first | rwa [add_block] at this | exact this) GW158.out); replace hx161_0 := (HB.out.cell (World.block_lt_of_cell? w _ hx161_0)).trans hx161_0; replace hx161_0 := (cell_far (p := ⟨gb158, 0, none⟩) (by first | (rw [add_block]; exact hn161_0) | (show (Addr.add _ _).block ≠ _; rw [add_block]; exact hn161_0) | exact hn161_0) (.int .i64 ((rd_T48 l0 (rd l3 x13_1)).f0))).trans hx161_0; replace hx161_0 := (cell_far (p := ⟨gb158, 1, none⟩) (by first | (rw [add_block]; exact hn161_1) | (show (Addr.add _ _).block ≠ _; rw [add_block]; exact hn161_1) | exact hn161_1) (.slice A157_1 ((rd_T48 l0 (rd l3 x13_1)).f1).length c157_1)).trans hx161_0; replace hx161_0 := (cell_far (p := ⟨gb158, 2, none⟩) (by first | (rw [add_block]; exact hn161_2) | (show (Addr.add _ _).block ≠ _; rw [add_block]; exact hn161_2) | exact hn161_2) (.int .i64 ((rd_T48 l0 (rd l3 x13_1)).f2))).trans hx161_0; replace hx161_0 := (cell_far (p := ⟨gb158, 3, none⟩) (by first | (rw [add_block]; exact hn161_3) | (show (Addr.add _ _).block ≠ _; rw [add_block]; exact hn161_3) | exact hn161_3) (.int .i64 ((rd_T48 l0 (rd l3 x13_1)).f3))).trans hx161_0; (try have hy161_0 := fun (n_ : Nat) => (show ((((((w24.drewN n_).setCell ⟨gb158, 0, none⟩ (.int .i64 ((rd_T48 l0 (rd l3 x13_1)).f0))).setCell ⟨gb158, 1, none⟩ (.slice A157_1 ((rd_T48 l0 (rd l3 x13_1)).f1).length c157_1)).setCell ⟨gb158, 2, none⟩ (.int .i64 ((rd_T48 l0 (rd l3 x13_1)).f2))).setCell ⟨gb158, 3, none⟩ (.int .i64 ((rd_T48 l0 (rd l3 x13_1)).f3)))).cell? _ = some _ from hx161_0)); clear hn161_0; clear hn161_1; clear hn161_2; clear hn161_3; replace p161 := eq_true p161; replace q161 := eq_true q161) | ((with_reducible refine gate_builtin (b := .append) (xs := #[.tmp 51, .tmp 56]) rfl ?_); (try (refine gate_guard (by rfl) ?_; dsimp only)); at_builtin; refine Kd.R_append (Kd.int .i64) (w0 := w) w.heap.size rfl (.tmp 51) (.tmp 56) 23 3 (.int .i64 0) 8 rfl Tryd.underlying23 info3 rfl (by decide) (by omega) u11 x11_1 (rd l3 x13_1) [.int .i64 (rd l3 x13_1)] (fun k_ => some k_ ≠ (.slice Ao26 x12_1.length co26 : Value).ownBlock) (fun _ => False) rfl (by first | (go_simp; done) | (go_simp; rfl)) ?aP (fun _ hk => hk.elim) ?aF ?aO ?aB ?aS ?aL ?_; (case aP => exact rfl); (case aB => exact (by repeat (first | (with_reducible first | exact HB.out | apply below_alloc | apply pw_below_drewN | apply below_drew1 | refine below_set ?_ GE158.out) | exact HB.out))); (case aF => exact (fun k_ hk => Kd.fresh' (Kd.R_lt (by (with_reducible repeat (first | apply Kd.R_alloc | apply Kd.R_drewN | apply Kd.R_drew)); exact (Kd.R_mono (Kd.R_far (p := ⟨gb158, 3, none⟩) (Kd.R_far (p := ⟨gb158, 2, none⟩) (Kd.R_far (p := ⟨gb158, 1, none⟩) (Kd.R_far (p := ⟨gb158, 0, none⟩) (Kd.R_types HO_12.out BK158.out (by decide)) (fun _ hk => hk.2) (.int .i64 ((rd_T48 l0 (rd l3 x13_1)).f0))) (fun _ hk => hk.2) (.slice A157_1 ((rd_T48 l0 (rd l3 x13_1)).f1).length c157_1)) (fun _ hk => hk.2) (.int .i64 ((rd_T48 l0 (rd l3 x13_1)).f2))) (fun _ hk => hk.2) (.int .i64 ((rd_T48 l0 (rd l3 x13_1)).f3))) (fun _ h_ => h_.1)))) k_ hk)); (case aO => exact (by (with_reducible repeat (first | apply Kd.R_alloc | apply Kd.R_drewN | apply Kd.R_drew)); exact Kd.R_mono (Kd.R_far (p := ⟨gb158, 3, none⟩) (Kd.R_far (p := ⟨gb158, 2, none⟩) (Kd.R_far (p := ⟨gb158, 1, none⟩) (Kd.R_far (p := ⟨gb158, 0, none⟩) (Kd.R_types HO_11.out BK158.out (by decide)) (fun _ hk => hk.2) (.int .i64 ((rd_T48 l0 (rd l3 x13_1)).f0))) (fun _ hk => hk.2) (.slice A157_1 ((rd_T48 l0 (rd l3 x13_1)).f1).length c157_1)) (fun _ hk => hk.2) (.int .i64 ((rd_T48 l0 (rd l3 x13_1)).f2))) (fun _ hk => hk.2) (.int .i64 ((rd_T48 l0 (rd l3 x13_1)).f3))) (fun _ hk => hk.1))); (case aS => exact (below_size (by repeat (first | (with_reducible first | exact HB.out | apply below_alloc | apply pw_below_drewN | apply below_drew1 | refine below_set ?_ GE158.out) | exact HB.out)))); (case aL => have := LMc22.out; omega); intro v163 w27 ho hb hg hat; rw [← Ny162.out] at ho; have n0_ := Aside0.mk (Kd.R_after (ok := (fun _ => True)) (by (with_reducible repeat (first | apply Kd.R_alloc | apply Kd.R_drewN | apply Kd.R_drew)); exact Kd.R_mono (Kd.R_far (p := ⟨gb158, 3, none⟩) (Kd.R_far (p := ⟨gb158, 2, none⟩) (Kd.R_far (p := ⟨gb158, 1, none⟩) (Kd.R_far (p := ⟨gb158, 0, none⟩) (Kd.R_types HO_12.out BK158.out (by decide)) (fun _ hk => hk.2) (.int .i64 ((rd_T48 l0 (rd l3 x13_1)).f0))) (fun _ hk => hk.2) (.slice A157_1 ((rd_T48 l0 (rd l3 x13_1)).f1).length c157_1)) (fun _ hk => hk.2) (.int .i64 ((rd_T48 l0 (rd l3 x13_1)).f2))) (fun _ hk => hk.2) (.int .i64 ((rd_T48 l0 (rd l3 x13_1)).f3))) (fun _ hk => ⟨trivial, hk.1⟩)) hg hat); have n1_ := Aside0.mk (blk_grown (g := gb158) (o := .cells #[.int .i64 ((rd_T48 l0 (rd l3 x13_1)).f0), .slice A157_1 ((rd_T48 l0 (rd l3 x13_1)).f1).length c157_1, .int .i64 ((rd_T48 l0 (rd l3 x13_1)).f2), .int .i64 ((rd_T48 l0 (rd l3 x13_1)).f3)] 48 (0, 0)) (by (with_reducible repeat (first | refine blk_drewN ?_ _ | refine blk_drew ?_ | refine blk_alloc ?_ _)); refine blk_put (cs := #[.int .i64 ((rd_T48 l0 (rd l3 x13_1)).f0), .slice A157_1 ((rd_T48 l0 (rd l3 x13_1)).f1).length c157_1, .int .i64 ((rd_T48 l0 (rd l3 x13_1)).f2), .int .i64 0]) ?_ 3 _ rfl; (with_reducible repeat (first | refine blk_drewN ?_ _ | refine blk_drew ?_ | refine blk_alloc ?_ _)); refine blk_put (cs := #[.int .i64 ((rd_T48 l0 (rd l3 x13_1)).f0), .slice A157_1 ((rd_T48 l0 (rd l3 x13_1)).f1).length c157_1, .int .i64 0, .int .i64 0]) ?_ 2 _ rfl; (with_reducible repeat (first | refine blk_drewN ?_ _ | refine blk_drew ?_ | refine blk_alloc ?_ _)); refine blk_put (cs := #[.int .i64 ((rd_T48 l0 (rd l3 x13_1)).f0), .slice none 0 0, .int .i64 0, .int .i64 0]) ?_ 1 _ rfl; (with_reducible repeat (first | refine blk_drewN ?_ _ | refine blk_drew ?_ | refine blk_alloc ?_ _)); refine blk_put (cs := #[.int .i64 0, .slice none 0 0, .int .i64 0, .int .i64 0]) ?_ 0 _ rfl; (with_reducible repeat (first | refine blk_drewN ?_ _ | refine blk_drew ?_ | refine blk_alloc ?_ _)); exact BK158.out) hg (Kd.R_ne HO_11.out BK158.out (by decide))); have n2_ := Aside0.mk (hb); have n3_ := Aside0.mk (ho); clear HO_12; clear BK158; clear HB; clear HO_11; have HO_12 := n0_; have BK158 := n1_; have HB := n2_; have HO164 := n3_; clear n0_ n1_ n2_ n3_; clear ho hb hg hat; have p165 : 0 ≤ (x13_1 : Int) := of_decide_eq_true (by first | (with_reducible assumption) | assumption); have q165 : x13_1 < (l3.length : Int) := of_decide_eq_true (by first | (with_reducible assumption) | assumption); obtain ⟨ad165, e165, hx165_0⟩ := Kd.at_int HR3.out x13_1 p165 q165; obtain rfl : ad156 = ad165 := (by injection e165); replace hx165_0 := (HB.out.cell (World.block_lt_of_cell? w _ hx165_0)).trans hx165_0; replace p165 := eq_true p165; replace q165 := eq_true q165) | ((with_reducible refine gate_builtin (b := .append) (xs := #[.tmp 58, .tmp 63]) rfl ?_); (try (refine gate_guard (by rfl) ?_; dsimp only)); at_builtin; refine Kd.R_append (Kd.int .i64) (w0 := w) w.heap.size rfl (.tmp 58) (.tmp 63) 23 3 (.int .i64 0) 8 rfl Tryd.underlying23 info3 rfl (by decide) (by omega) (.slice Ao26 x12_1.length co26) x12_1 (rd l3 x13_1) [.int .i64 (rd l3 x13_1)] (fun k_ => some k_ ≠ (v163 : Value).ownBlock) (fun _ => False) rfl rfl ?aP (fun _ hk => hk.elim) ?aF ?aO ?aB ?aS ?aL ?_; (case aP => exact rfl); (case aB => exact (by repeat (first | (with_reducible first | exact HB.out | apply below_alloc | apply pw_below_drewN | apply below_drew1 | refine below_set ?_ GE158.out) | exact HB.out))); (case aF => exact (fun k_ hk => Kd.fresh' (Kd.R_lt (by (with_reducible repeat (first | apply Kd.R_alloc | apply Kd.R_drewN | apply Kd.R_drew)); exact HO164.out)) k_ hk)); (case aO => exact (by (with_reducible repeat (first | apply Kd.R_alloc | apply Kd.R_drewN | apply Kd.R_drew)); exact Kd.R_mono HO_12.out (fun _ hk => hk.2))); (case aS => exact (below_size (by repeat (first | (with_reducible first | exact HB.out | apply below_alloc | apply pw_below_drewN | apply below_drew1 | refine below_set ?_ GE158.out) | exact HB.out)))); (case aL => have := LMc23.out; omega); intro v167 w28 ho hb hg hat; rw [← Ny166.out] at ho; have n0_ := Aside0.mk (blk_grown (g := gb158) (o := .cells #[.int .i64 ((rd_T48 l0 (rd l3 x13_1)).f0), .slice A157_1 ((rd_T48 l0 (rd l3 x13_1)).f1).length c157_1, .int .i64 ((rd_T48 l0 (rd l3 x13_1)).f2), .int .i64 ((rd_T48 l0 (rd l3 x13_1)).f3)] 48 (0, 0)) (by (with_reducible repeat (first | refine blk_drewN ?_ _ | refine blk_drew ?_ | refine blk_alloc ?_ _)); exact BK158.out) hg (Kd.R_ne HO_12.out BK158.out (by decide))); have n1_ := Aside0.mk (Kd.R_after (ok := (fun _ => True)) (by (with_reducible repeat (first | apply Kd.R_alloc | apply Kd.R_drewN | apply Kd.R_drew)); exact Kd.R_mono HO164.out (fun _ hk => ⟨trivial, hk⟩)) hg hat); have n2_ := Aside0.mk (hb); have n3_ := Aside0.mk (ho); clear BK158; clear HO164; clear HB; clear HO_12; have BK158 := n0_; have HO164 := n1_; have HB := n2_; have HO168 := n3_; clear n0_ n1_ n2_ n3_; clear ho hb hg hat))
               repeat (go_quiet (first | ((with_reducible refine gate_dst (N := 14) rfl ?_); (try (refine gate_guard (by rfl) ?_; dsimp only)); refine box_event ?hg (N := 14) ?hd (cs := #[.int .i64 0, .slice none 0 0, .int .i64 0, .int .i64 0]) (t := 48) ?hr ?_; (case hd => rfl); (case hg => rfl); (case hr => first | (go_simp; done) | (go_simp; rfl)); intro gb158 hg w24 hbox hb; have n0_ := Aside0.mk (Kd.R_below (by (with_reducible repeat (first | apply Kd.R_alloc | apply Kd.R_drewN | apply Kd.R_drew)); exact HO_11.out) hb); have n1_ := Aside0.mk (Kd.R_below (by (with_reducible repeat (first | apply Kd.R_alloc | apply Kd.R_drewN | apply Kd.R_drew)); exact HO_12.out) hb); have n2_ := Aside0.mk (below_step (by repeat (first | (with_reducible first | exact HB.out | apply below_alloc | apply pw_below_drewN | apply below_drew1) | exact HB.out)) hb); have n3_ := Aside0.mk (hbox); have n4_ := Aside0.mk ((by rw [hg]; exact (below_size (by repeat (first | (with_reducible first | exact HB.out | apply below_alloc | apply pw_below_drewN | apply below_drew1) | exact HB.out))) : w.heap.size ≤ gb158)); have n5_ := Aside0.mk ((by rw [hg]; exact (below_size (by repeat (first | (with_reducible first | exact HB.out | apply below_alloc | apply pw_below_drewN | apply below_drew1) | exact HB.out))) : w.heap.size ≤ gb158)); clear HO_11; clear HO_12; clear HB; have HO_11 := n0_; have HO_12 := n1_; have HB := n2_; have BK158 := n3_; have GW158 := n4_; have GE158 := n5_; clear n0_ n1_ n2_ n3_ n4_ n5_; clear hb hbox hg; have hcz25_0 : w24.cell? ⟨gb158, 0, none⟩ = some (.int .i64 0) := (blk_cell BK158.out 0).trans rfl; have hcz25_1 : w24.cell? ⟨gb158, 1, none⟩ = some (.slice none 0 0) := (blk_cell BK158.out 1).trans rfl; have hcz25_2 : w24.cell? ⟨gb158, 2, none⟩ = some (.int .i64 0) := (blk_cell BK158.out 2).trans rfl; have hcz25_3 : w24.cell? ⟨gb158, 3, none⟩ = some (.int .i64 0) := (blk_cell BK158.out 3).trans rfl; have hfz25_0 := blk_frozen BK158.out 0; have hfz25_1 := blk_frozen BK158.out 1; have hfz25_2 := blk_frozen BK158.out 2; have hfz25_3 := blk_frozen BK158.out 3; obtain ⟨Ao26, co26, eo26⟩ := Kd.R_slice HO_12.out; subst eo26) | (go_at_call 102; (with_reducible refine (spec_used.calls kj9 _ _ l0 _ _ x12_1 ((rd_T48 l0 (rd l3 x13_1)).f2) t159 _ ?side1 ?side2 ?side3 ?side4 A18.out).mono ?_); (case side1 => exact Kd.C_below HR0.out (by repeat (first | (with_reducible first | exact HB.out | apply below_alloc | apply pw_below_drewN | apply below_drew1 | refine below_set ?_ GE158.out) | exact HB.out))); (case side2 => exact HC0.out); (case side3 => refine (Kd.R_reads' (e := 3) (base := w.heap.size) (ok := fun k_ => some k_ ≠ (u11 : Value).ownBlock) (n := x12_1.length) (c := co26) ?_).2.2; exact (by (with_reducible repeat (first | apply Kd.R_alloc | apply Kd.R_drewN | apply Kd.R_drew)); exact (Kd.R_mono (Kd.R_far (p := ⟨gb158, 3, none⟩) (Kd.R_far (p := ⟨gb158, 2, none⟩) (Kd.R_far (p := ⟨gb158, 1, none⟩) (Kd.R_far (p := ⟨gb158, 0, none⟩) (Kd.R_types HO_12.out BK158.out (by decide)) (fun _ hk => hk.2) (.int .i64 ((rd_T48 l0 (rd l3 x13_1)).f0))) (fun _ hk => hk.2) (.slice A157_1 ((rd_T48 l0 (rd l3 x13_1)).f1).length c157_1)) (fun _ hk => hk.2) (.int .i64 ((rd_T48 l0 (rd l3 x13_1)).f2))) (fun _ hk => hk.2) (.int .i64 ((rd_T48 l0 (rd l3 x13_1)).f3))) (fun _ h_ => h_.1)))); (case side4 => exact (Kd.R_reads' HO_12.out).2.1); rintro e w' ⟨rfl, ⟨nd, rfl⟩⟩; (try first | exact ⟨rfl, _, World.drewN_drewN _ _ _⟩ | exact ⟨rfl, _, Eq.trans (World.drewN_drewN _ _ _) (congrArg (World.drewN _) (Nat.add_assoc _ _ _))⟩); have p160 : 0 ≤ (((rd_T48 l0 (rd l3 x13_1)).f2) : Int) := of_decide_eq_true (by first | (with_reducible assumption) | assumption); have q160 : ((rd_T48 l0 (rd l3 x13_1)).f2) < (l1.length : Int) := of_decide_eq_true (by first | (with_reducible assumption) | assumption); obtain ⟨ad160, e160, hx160_0⟩ := Kd.at_int HR1.out ((rd_T48 l0 (rd l3 x13_1)).f2) p160 q160; cases e160; have hn160_0 : ad160.block ≠ gb158 := Nat.ne_of_lt (Nat.lt_of_lt_of_le (by have := World.block_lt_of_cell? _ _ hx160_0; first | rwa [add_block] at this | exact this) GW158.out); have hn160_1 : ad160.block ≠ gb158 := Nat.ne_of_lt (Nat.lt_of_lt_of_le (by have := World.block_lt_of_cell? _ _ hx160_0; first | rwa [add_block] at this | exact this) GW158.out); have hn160_2 : ad160.block ≠ gb158 := Nat.ne_of_lt (Nat.lt_of_lt_of_le (by have := World.block_lt_of_cell? _ _ hx160_0; first | rwa [add_block] at this | exact this) GW158.out); have hn160_3 : ad160.block ≠ gb158 := Nat.ne_of_lt (Nat.lt_of_lt_of_le (by have := World.block_lt_of_cell? _ _ hx160_0; first | rwa [add_block] at this | exact this) GW158.out); replace hx160_0 := (HB.out.cell (World.block_lt_of_cell? w _ hx160_0)).trans hx160_0; replace hx160_0 := (cell_far (p := ⟨gb158, 0, none⟩) (by first | (rw [add_block]; exact hn160_0) | (show (Addr.add _ _).block ≠ _; rw [add_block]; exact hn160_0) | exact hn160_0) (.int .i64 ((rd_T48 l0 (rd l3 x13_1)).f0))).trans hx160_0; replace hx160_0 := (cell_far (p := ⟨gb158, 1, none⟩) (by first | (rw [add_block]; exact hn160_1) | (show (Addr.add _ _).block ≠ _; rw [add_block]; exact hn160_1) | exact hn160_1) (.slice A157_1 ((rd_T48 l0 (rd l3 x13_1)).f1).length c157_1)).trans hx160_0; replace hx160_0 := (cell_far (p := ⟨gb158, 2, none⟩) (by first | (rw [add_block]; exact hn160_2) | (show (Addr.add _ _).block ≠ _; rw [add_block]; exact hn160_2) | exact hn160_2) (.int .i64 ((rd_T48 l0 (rd l3 x13_1)).f2))).trans hx160_0; replace hx160_0 := (cell_far (p := ⟨gb158, 3, none⟩) (by first | (rw [add_block]; exact hn160_3) | (show (Addr.add _ _).block ≠ _; rw [add_block]; exact hn160_3) | exact hn160_3) (.int .i64 ((rd_T48 l0 (rd l3 x13_1)).f3))).trans hx160_0; (try have hy160_0 := fun (n_ : Nat) => (show ((((((w24.drewN n_).setCell ⟨gb158, 0, none⟩ (.int .i64 ((rd_T48 l0 (rd l3 x13_1)).f0))).setCell ⟨gb158, 1, none⟩ (.slice A157_1 ((rd_T48 l0 (rd l3 x13_1)).f1).length c157_1)).setCell ⟨gb158, 2, none⟩ (.int .i64 ((rd_T48 l0 (rd l3 x13_1)).f2))).setCell ⟨gb158, 3, none⟩ (.int .i64 ((rd_T48 l0 (rd l3 x13_1)).f3)))).cell? _ = some _ from hx160_0)); clear hn160_0; clear hn160_1; clear hn160_2; clear hn160_3; replace p160 := eq_true p160; replace q160 := eq_true q160; have p161 : 0 ≤ (x13_1 : Int) := of_decide_eq_true (by first | (with_reducible assumption) | assumption); have q161 : x13_1 < (l3.length : Int) := of_decide_eq_true (by first | (with_reducible assumption) | assumption); obtain ⟨ad161, e161, hx161_0⟩ := Kd.at_int HR3.out x13_1 p161 q161; obtain rfl : ad156 = ad161 := (by injection e161); have hn161_0 : ad156.block ≠ gb158 := Nat.ne_of_lt (Nat.lt_of_lt_of_le (by have := World.block_lt_of_cell? _ _ hx161_0; first | rwa [add_block] at this | exact this) GW158.out); have hn161_1 : ad156.block ≠ gb158 := Nat.ne_of_lt (Nat.lt_of_lt_of_le (by have := World.block_lt_of_cell? _ _ hx161_0; first | rwa [add_block] at this | exact this) GW158.out); have hn161_2 : ad156.block ≠ gb158 := Nat.ne_of_lt (Nat.lt_of_lt_of_le (by have := World.block_lt_of_cell? _ _ hx161_0; first | rwa [add_block] at this | exact this) GW158.out); have hn161_3 : ad156.block ≠ gb158 := Nat.ne_of_lt (Nat.lt_of_lt_of_le (by have := World.block_lt_of_cell? _ _ hx161_0; first | rwa [add_block] at this | exact this) GW158.out); replace hx161_0 := (HB.out.cell (World.block_lt_of_cell? w _ hx161_0)).trans hx161_0; replace hx161_0 := (cell_far (p := ⟨gb158, 0, none⟩) (by first | (rw [add_block]; exact hn161_0) | (show (Addr.add _ _).block ≠ _; rw [add_block]; exact hn161_0) | exact hn161_0) (.int .i64 ((rd_T48 l0 (rd l3 x13_1)).f0))).trans hx161_0; replace hx161_0 := (cell_far (p := ⟨gb158, 1, none⟩) (by first | (rw [add_block]; exact hn161_1) | (show (Addr.add _ _).block ≠ _; rw [add_block]; exact hn161_1) | exact hn161_1) (.slice A157_1 ((rd_T48 l0 (rd l3 x13_1)).f1).length c157_1)).trans hx161_0; replace hx161_0 := (cell_far (p := ⟨gb158, 2, none⟩) (by first | (rw [add_block]; exact hn161_2) | (show (Addr.add _ _).block ≠ _; rw [add_block]; exact hn161_2) | exact hn161_2) (.int .i64 ((rd_T48 l0 (rd l3 x13_1)).f2))).trans hx161_0; replace hx161_0 := (cell_far (p := ⟨gb158, 3, none⟩) (by first | (rw [add_block]; exact hn161_3) | (show (Addr.add _ _).block ≠ _; rw [add_block]; exact hn161_3) | exact hn161_3) (.int .i64 ((rd_T48 l0 (rd l3 x13_1)).f3))).trans hx161_0; (try have hy161_0 := fun (n_ : Nat) => (show ((((((w24.drewN n_).setCell ⟨gb158, 0, none⟩ (.int .i64 ((rd_T48 l0 (rd l3 x13_1)).f0))).setCell ⟨gb158, 1, none⟩ (.slice A157_1 ((rd_T48 l0 (rd l3 x13_1)).f1).length c157_1)).setCell ⟨gb158, 2, none⟩ (.int .i64 ((rd_T48 l0 (rd l3 x13_1)).f2))).setCell ⟨gb158, 3, none⟩ (.int .i64 ((rd_T48 l0 (rd l3 x13_1)).f3)))).cell? _ = some _ from hx161_0)); clear hn161_0; clear hn161_1; clear hn161_2; clear hn161_3; replace p161 := eq_true p161; replace q161 := eq_true q161) | ((with_reducible refine gate_builtin (b := .append) (xs := #[.tmp 51, .tmp 56]) rfl ?_); (try (refine gate_guard (by rfl) ?_; dsimp only)); at_builtin; refine Kd.R_append (Kd.int .i64) (w0 := w) w.heap.size rfl (.tmp 51) (.tmp 56) 23 3 (.int .i64 0) 8 rfl Tryd.underlying23 info3 rfl (by decide) (by omega) u11 x11_1 (rd l3 x13_1) [.int .i64 (rd l3 x13_1)] (fun k_ => some k_ ≠ (.slice Ao26 x12_1.length co26 : Value).ownBlock) (fun _ => False) rfl (by first | (go_simp; done) | (go_simp; rfl)) ?aP (fun _ hk => hk.elim) ?aF ?aO ?aB ?aS ?aL ?_; (case aP => exact rfl); (case aB => exact (by repeat (first | (with_reducible first | exact HB.out | apply below_alloc | apply pw_below_drewN | apply below_drew1 | refine below_set ?_ GE158.out) | exact HB.out))); (case aF => exact (fun k_ hk => Kd.fresh' (Kd.R_lt (by (with_reducible repeat (first | apply Kd.R_alloc | apply Kd.R_drewN | apply Kd.R_drew)); exact (Kd.R_mono (Kd.R_far (p := ⟨gb158, 3, none⟩) (Kd.R_far (p := ⟨gb158, 2, none⟩) (Kd.R_far (p := ⟨gb158, 1, none⟩) (Kd.R_far (p := ⟨gb158, 0, none⟩) (Kd.R_types HO_12.out BK158.out (by decide)) (fun _ hk => hk.2) (.int .i64 ((rd_T48 l0 (rd l3 x13_1)).f0))) (fun _ hk => hk.2) (.slice A157_1 ((rd_T48 l0 (rd l3 x13_1)).f1).length c157_1)) (fun _ hk => hk.2) (.int .i64 ((rd_T48 l0 (rd l3 x13_1)).f2))) (fun _ hk => hk.2) (.int .i64 ((rd_T48 l0 (rd l3 x13_1)).f3))) (fun _ h_ => h_.1)))) k_ hk)); (case aO => exact (by (with_reducible repeat (first | apply Kd.R_alloc | apply Kd.R_drewN | apply Kd.R_drew)); exact Kd.R_mono (Kd.R_far (p := ⟨gb158, 3, none⟩) (Kd.R_far (p := ⟨gb158, 2, none⟩) (Kd.R_far (p := ⟨gb158, 1, none⟩) (Kd.R_far (p := ⟨gb158, 0, none⟩) (Kd.R_types HO_11.out BK158.out (by decide)) (fun _ hk => hk.2) (.int .i64 ((rd_T48 l0 (rd l3 x13_1)).f0))) (fun _ hk => hk.2) (.slice A157_1 ((rd_T48 l0 (rd l3 x13_1)).f1).length c157_1)) (fun _ hk => hk.2) (.int .i64 ((rd_T48 l0 (rd l3 x13_1)).f2))) (fun _ hk => hk.2) (.int .i64 ((rd_T48 l0 (rd l3 x13_1)).f3))) (fun _ hk => hk.1))); (case aS => exact (below_size (by repeat (first | (with_reducible first | exact HB.out | apply below_alloc | apply pw_below_drewN | apply below_drew1 | refine below_set ?_ GE158.out) | exact HB.out)))); (case aL => have := LMc22.out; omega); intro v163 w27 ho hb hg hat; rw [← Ny162.out] at ho; have n0_ := Aside0.mk (Kd.R_after (ok := (fun _ => True)) (by (with_reducible repeat (first | apply Kd.R_alloc | apply Kd.R_drewN | apply Kd.R_drew)); exact Kd.R_mono (Kd.R_far (p := ⟨gb158, 3, none⟩) (Kd.R_far (p := ⟨gb158, 2, none⟩) (Kd.R_far (p := ⟨gb158, 1, none⟩) (Kd.R_far (p := ⟨gb158, 0, none⟩) (Kd.R_types HO_12.out BK158.out (by decide)) (fun _ hk => hk.2) (.int .i64 ((rd_T48 l0 (rd l3 x13_1)).f0))) (fun _ hk => hk.2) (.slice A157_1 ((rd_T48 l0 (rd l3 x13_1)).f1).length c157_1)) (fun _ hk => hk.2) (.int .i64 ((rd_T48 l0 (rd l3 x13_1)).f2))) (fun _ hk => hk.2) (.int .i64 ((rd_T48 l0 (rd l3 x13_1)).f3))) (fun _ hk => ⟨trivial, hk.1⟩)) hg hat); have n1_ := Aside0.mk (blk_grown (g := gb158) (o := .cells #[.int .i64 ((rd_T48 l0 (rd l3 x13_1)).f0), .slice A157_1 ((rd_T48 l0 (rd l3 x13_1)).f1).length c157_1, .int .i64 ((rd_T48 l0 (rd l3 x13_1)).f2), .int .i64 ((rd_T48 l0 (rd l3 x13_1)).f3)] 48 (0, 0)) (by (with_reducible repeat (first | refine blk_drewN ?_ _ | refine blk_drew ?_ | refine blk_alloc ?_ _)); refine blk_put (cs := #[.int .i64 ((rd_T48 l0 (rd l3 x13_1)).f0), .slice A157_1 ((rd_T48 l0 (rd l3 x13_1)).f1).length c157_1, .int .i64 ((rd_T48 l0 (rd l3 x13_1)).f2), .int .i64 0]) ?_ 3 _ rfl; (with_reducible repeat (first | refine blk_drewN ?_ _ | refine blk_drew ?_ | refine blk_alloc ?_ _)); refine blk_put (cs := #[.int .i64 ((rd_T48 l0 (rd l3 x13_1)).f0), .slice A157_1 ((rd_T48 l0 (rd l3 x13_1)).f1).length c157_1, .int .i64 0, .int .i64 0]) ?_ 2 _ rfl; (with_reducible repeat (first | refine blk_drewN ?_ _ | refine blk_drew ?_ | refine blk_alloc ?_ _)); refine blk_put (cs := #[.int .i64 ((rd_T48 l0 (rd l3 x13_1)).f0), .slice none 0 0, .int .i64 0, .int .i64 0]) ?_ 1 _ rfl; (with_reducible repeat (first | refine blk_drewN ?_ _ | refine blk_drew ?_ | refine blk_alloc ?_ _)); refine blk_put (cs := #[.int .i64 0, .slice none 0 0, .int .i64 0, .int .i64 0]) ?_ 0 _ rfl; (with_reducible repeat (first | refine blk_drewN ?_ _ | refine blk_drew ?_ | refine blk_alloc ?_ _)); exact BK158.out) hg (Kd.R_ne HO_11.out BK158.out (by decide))); have n2_ := Aside0.mk (hb); have n3_ := Aside0.mk (ho); clear HO_12; clear BK158; clear HB; clear HO_11; have HO_12 := n0_; have BK158 := n1_; have HB := n2_; have HO164 := n3_; clear n0_ n1_ n2_ n3_; clear ho hb hg hat; have p165 : 0 ≤ (x13_1 : Int) := of_decide_eq_true (by first | (with_reducible assumption) | assumption); have q165 : x13_1 < (l3.length : Int) := of_decide_eq_true (by first | (with_reducible assumption) | assumption); obtain ⟨ad165, e165, hx165_0⟩ := Kd.at_int HR3.out x13_1 p165 q165; obtain rfl : ad156 = ad165 := (by injection e165); replace hx165_0 := (HB.out.cell (World.block_lt_of_cell? w _ hx165_0)).trans hx165_0; replace p165 := eq_true p165; replace q165 := eq_true q165) | ((with_reducible refine gate_builtin (b := .append) (xs := #[.tmp 58, .tmp 63]) rfl ?_); (try (refine gate_guard (by rfl) ?_; dsimp only)); at_builtin; refine Kd.R_append (Kd.int .i64) (w0 := w) w.heap.size rfl (.tmp 58) (.tmp 63) 23 3 (.int .i64 0) 8 rfl Tryd.underlying23 info3 rfl (by decide) (by omega) (.slice Ao26 x12_1.length co26) x12_1 (rd l3 x13_1) [.int .i64 (rd l3 x13_1)] (fun k_ => some k_ ≠ (v163 : Value).ownBlock) (fun _ => False) rfl rfl ?aP (fun _ hk => hk.elim) ?aF ?aO ?aB ?aS ?aL ?_; (case aP => exact rfl); (case aB => exact (by repeat (first | (with_reducible first | exact HB.out | apply below_alloc | apply pw_below_drewN | apply below_drew1 | refine below_set ?_ GE158.out) | exact HB.out))); (case aF => exact (fun k_ hk => Kd.fresh' (Kd.R_lt (by (with_reducible repeat (first | apply Kd.R_alloc | apply Kd.R_drewN | apply Kd.R_drew)); exact HO164.out)) k_ hk)); (case aO => exact (by (with_reducible repeat (first | apply Kd.R_alloc | apply Kd.R_drewN | apply Kd.R_drew)); exact Kd.R_mono HO_12.out (fun _ hk => hk.2))); (case aS => exact (below_size (by repeat (first | (with_reducible first | exact HB.out | apply below_alloc | apply pw_below_drewN | apply below_drew1 | refine below_set ?_ GE158.out) | exact HB.out)))); (case aL => have := LMc23.out; omega); intro v167 w28 ho hb hg hat; rw [← Ny166.out] at ho; have n0_ := Aside0.mk (blk_grown (g := gb158) (o := .cells #[.int .i64 ((rd_T48 l0 (rd l3 x13_1)).f0), .slice A157_1 ((rd_T48 l0 (rd l3 x13_1)).f1).length c157_1, .int .i64 ((rd_T48 l0 (rd l3 x13_1)).f2), .int .i64 ((rd_T48 l0 (rd l3 x13_1)).f3)] 48 (0, 0)) (by (with_reducible repeat (first | refine blk_drewN ?_ _ | refine blk_drew ?_ | refine blk_alloc ?_ _)); exact BK158.out) hg (Kd.R_ne HO_12.out BK158.out (by decide))); have n1_ := Aside0.mk (Kd.R_after (ok := (fun _ => True)) (by (with_reducible repeat (first | apply Kd.R_alloc | apply Kd.R_drewN | apply Kd.R_drew)); exact Kd.R_mono HO164.out (fun _ hk => ⟨trivial, hk⟩)) hg hat); have n2_ := Aside0.mk (hb); have n3_ := Aside0.mk (ho); clear BK158; clear HO164; clear HB; clear HO_12; have BK158 := n0_; have HO164 := n1_; have HB := n2_; have HO168 := n3_; clear n0_ n1_ n2_ n3_; clear ho hb hg hat)); try go_wp2_with (first | ((with_reducible refine gate_dst (N := 14) rfl ?_); (try (refine gate_guard (by rfl) ?_; dsimp only)); refine box_event ?hg (N := 14) ?hd (cs := #[.int .i64 0, .slice none 0 0, .int .i64 0, .int .i64 0]) (t := 48) ?hr ?_; (case hd => rfl); (case hg => rfl); (case hr => first | (go_simp; done) | (go_simp; rfl)); intro gb158 hg w24 hbox hb; have n0_ := Aside0.mk (Kd.R_below (by (with_reducible repeat (first | apply Kd.R_alloc | apply Kd.R_drewN | apply Kd.R_drew)); exact HO_11.out) hb); have n1_ := Aside0.mk (Kd.R_below (by (with_reducible repeat (first | apply Kd.R_alloc | apply Kd.R_drewN | apply Kd.R_drew)); exact HO_12.out) hb); have n2_ := Aside0.mk (below_step (by repeat (first | (with_reducible first | exact HB.out | apply below_alloc | apply pw_below_drewN | apply below_drew1) | exact HB.out)) hb); have n3_ := Aside0.mk (hbox); have n4_ := Aside0.mk ((by rw [hg]; exact (below_size (by repeat (first | (with_reducible first | exact HB.out | apply below_alloc | apply pw_below_drewN | apply below_drew1) | exact HB.out))) : w.heap.size ≤ gb158)); have n5_ := Aside0.mk ((by rw [hg]; exact (below_size (by repeat (first | (with_reducible first | exact HB.out | apply below_alloc | apply pw_below_drewN | apply below_drew1) | exact HB.out))) : w.heap.size ≤ gb158)); clear HO_11; clear HO_12; clear HB; have HO_11 := n0_; have HO_12 := n1_; have HB := n2_; have BK158 := n3_; have GW158 := n4_; have GE158 := n5_; clear n0_ n1_ n2_ n3_ n4_ n5_; clear hb hbox hg; have hcz25_0 : w24.cell? ⟨gb158, 0, none⟩ = some (.int .i64 0) := (blk_cell BK158.out 0).trans rfl; have hcz25_1 : w24.cell? ⟨gb158, 1, none⟩ = some (.slice none 0 0) := (blk_cell BK158.out 1).trans rfl; have hcz25_2 : w24.cell? ⟨gb158, 2, none⟩ = some (.int .i64 0) := (blk_cell BK158.out 2).trans rfl; have hcz25_3 : w24.cell? ⟨gb158, 3, none⟩ = some (.int .i64 0) := (blk_cell BK158.out 3).trans rfl; have hfz25_0 := blk_frozen BK158.out 0; have hfz25_1 := blk_frozen BK158.out 1; have hfz25_2 := blk_frozen BK158.out 2; have hfz25_3 := blk_frozen BK158.out 3; obtain ⟨Ao26, co26, eo26⟩ := Kd.R_slice HO_12.out; subst eo26) | (go_at_call 102; (with_reducible refine (spec_used.calls kj9 _ _ l0 _ _ x12_1 ((rd_T48 l0 (rd l3 x13_1)).f2) t159 _ ?side1 ?side2 ?side3 ?side4 A18.out).mono ?_); (case side1 => exact Kd.C_below HR0.out (by repeat (first | (with_reducible first | exact HB.out | apply below_alloc | apply pw_below_drewN | apply below_drew1 | refine below_set ?_ GE158.out) | exact HB.out))); (case side2 => exact HC0.out); (case side3 => refine (Kd.R_reads' (e := 3) (base := w.heap.size) (ok := fun k_ => some k_ ≠ (u11 : Value).ownBlock) (n := x12_1.length) (c := co26) ?_).2.2; exact (by (with_reducible repeat (first | apply Kd.R_alloc | apply Kd.R_drewN | apply Kd.R_drew)); exact (Kd.R_mono (Kd.R_far (p := ⟨gb158, 3, none⟩) (Kd.R_far (p := ⟨gb158, 2, none⟩) (Kd.R_far (p := ⟨gb158, 1, none⟩) (Kd.R_far (p := ⟨gb158, 0, none⟩) (Kd.R_types HO_12.out BK158.out (by decide)) (fun _ hk => hk.2) (.int .i64 ((rd_T48 l0 (rd l3 x13_1)).f0))) (fun _ hk => hk.2) (.slice A157_1 ((rd_T48 l0 (rd l3 x13_1)).f1).length c157_1)) (fun _ hk => hk.2) (.int .i64 ((rd_T48 l0 (rd l3 x13_1)).f2))) (fun _ hk => hk.2) (.int .i64 ((rd_T48 l0 (rd l3 x13_1)).f3))) (fun _ h_ => h_.1)))); (case side4 => exact (Kd.R_reads' HO_12.out).2.1); rintro e w' ⟨rfl, ⟨nd, rfl⟩⟩; (try first | exact ⟨rfl, _, World.drewN_drewN _ _ _⟩ | exact ⟨rfl, _, Eq.trans (World.drewN_drewN _ _ _) (congrArg (World.drewN _) (Nat.add_assoc _ _ _))⟩); have p160 : 0 ≤ (((rd_T48 l0 (rd l3 x13_1)).f2) : Int) := of_decide_eq_true (by first | (with_reducible assumption) | assumption); have q160 : ((rd_T48 l0 (rd l3 x13_1)).f2) < (l1.length : Int) := of_decide_eq_true (by first | (with_reducible assumption) | assumption); obtain ⟨ad160, e160, hx160_0⟩ := Kd.at_int HR1.out ((rd_T48 l0 (rd l3 x13_1)).f2) p160 q160; cases e160; have hn160_0 : ad160.block ≠ gb158 := Nat.ne_of_lt (Nat.lt_of_lt_of_le (by have := World.block_lt_of_cell? _ _ hx160_0; first | rwa [add_block] at this | exact this) GW158.out); have hn160_1 : ad160.block ≠ gb158 := Nat.ne_of_lt (Nat.lt_of_lt_of_le (by have := World.block_lt_of_cell? _ _ hx160_0; first | rwa [add_block] at this | exact this) GW158.out); have hn160_2 : ad160.block ≠ gb158 := Nat.ne_of_lt (Nat.lt_of_lt_of_le (by have := World.block_lt_of_cell? _ _ hx160_0; first | rwa [add_block] at this | exact this) GW158.out); have hn160_3 : ad160.block ≠ gb158 := Nat.ne_of_lt (Nat.lt_of_lt_of_le (by have := World.block_lt_of_cell? _ _ hx160_0; first | rwa [add_block] at this | exact this) GW158.out); replace hx160_0 := (HB.out.cell (World.block_lt_of_cell? w _ hx160_0)).trans hx160_0; replace hx160_0 := (cell_far (p := ⟨gb158, 0, none⟩) (by first | (rw [add_block]; exact hn160_0) | (show (Addr.add _ _).block ≠ _; rw [add_block]; exact hn160_0) | exact hn160_0) (.int .i64 ((rd_T48 l0 (rd l3 x13_1)).f0))).trans hx160_0; replace hx160_0 := (cell_far (p := ⟨gb158, 1, none⟩) (by first | (rw [add_block]; exact hn160_1) | (show (Addr.add _ _).block ≠ _; rw [add_block]; exact hn160_1) | exact hn160_1) (.slice A157_1 ((rd_T48 l0 (rd l3 x13_1)).f1).length c157_1)).trans hx160_0; replace hx160_0 := (cell_far (p := ⟨gb158, 2, none⟩) (by first | (rw [add_block]; exact hn160_2) | (show (Addr.add _ _).block ≠ _; rw [add_block]; exact hn160_2) | exact hn160_2) (.int .i64 ((rd_T48 l0 (rd l3 x13_1)).f2))).trans hx160_0; replace hx160_0 := (cell_far (p := ⟨gb158, 3, none⟩) (by first | (rw [add_block]; exact hn160_3) | (show (Addr.add _ _).block ≠ _; rw [add_block]; exact hn160_3) | exact hn160_3) (.int .i64 ((rd_T48 l0 (rd l3 x13_1)).f3))).trans hx160_0; (try have hy160_0 := fun (n_ : Nat) => (show ((((((w24.drewN n_).setCell ⟨gb158, 0, none⟩ (.int .i64 ((rd_T48 l0 (rd l3 x13_1)).f0))).setCell ⟨gb158, 1, none⟩ (.slice A157_1 ((rd_T48 l0 (rd l3 x13_1)).f1).length c157_1)).setCell ⟨gb158, 2, none⟩ (.int .i64 ((rd_T48 l0 (rd l3 x13_1)).f2))).setCell ⟨gb158, 3, none⟩ (.int .i64 ((rd_T48 l0 (rd l3 x13_1)).f3)))).cell? _ = some _ from hx160_0)); clear hn160_0; clear hn160_1; clear hn160_2; clear hn160_3; replace p160 := eq_true p160; replace q160 := eq_true q160; have p161 : 0 ≤ (x13_1 : Int) := of_decide_eq_true (by first | (with_reducible assumption) | assumption); have q161 : x13_1 < (l3.length : Int) := of_decide_eq_true (by first | (with_reducible assumption) | assumption); obtain ⟨ad161, e161, hx161_0⟩ := Kd.at_int HR3.out x13_1 p161 q161; obtain rfl : ad156 = ad161 := (by injection e161); have hn161_0 : ad156.block ≠ gb158 := Nat.ne_of_lt (Nat.lt_of_lt_of_le (by have := World.block_lt_of_cell? _ _ hx161_0; first | rwa [add_block] at this | exact this) GW158.out); have hn161_1 : ad156.block ≠ gb158 := Nat.ne_of_lt (Nat.lt_of_lt_of_le (by have := World.block_lt_of_cell? _ _ hx161_0; first | rwa [add_block] at this | exact this) GW158.out); have hn161_2 : ad156.block ≠ gb158 := Nat.ne_of_lt (Nat.lt_of_lt_of_le (by have := World.block_lt_of_cell? _ _ hx161_0; first | rwa [add_block] at this | exact this) GW158.out); have hn161_3 : ad156.block ≠ gb158 := Nat.ne_of_lt (Nat.lt_of_lt_of_le (by have := World.block_lt_of_cell? _ _ hx161_0; first | rwa [add_block] at this | exact this) GW158.out); replace hx161_0 := (HB.out.cell (World.block_lt_of_cell? w _ hx161_0)).trans hx161_0; replace hx161_0 := (cell_far (p := ⟨gb158, 0, none⟩) (by first | (rw [add_block]; exact hn161_0) | (show (Addr.add _ _).block ≠ _; rw [add_block]; exact hn161_0) | exact hn161_0) (.int .i64 ((rd_T48 l0 (rd l3 x13_1)).f0))).trans hx161_0; replace hx161_0 := (cell_far (p := ⟨gb158, 1, none⟩) (by first | (rw [add_block]; exact hn161_1) | (show (Addr.add _ _).block ≠ _; rw [add_block]; exact hn161_1) | exact hn161_1) (.slice A157_1 ((rd_T48 l0 (rd l3 x13_1)).f1).length c157_1)).trans hx161_0; replace hx161_0 := (cell_far (p := ⟨gb158, 2, none⟩) (by first | (rw [add_block]; exact hn161_2) | (show (Addr.add _ _).block ≠ _; rw [add_block]; exact hn161_2) | exact hn161_2) (.int .i64 ((rd_T48 l0 (rd l3 x13_1)).f2))).trans hx161_0; replace hx161_0 := (cell_far (p := ⟨gb158, 3, none⟩) (by first | (rw [add_block]; exact hn161_3) | (show (Addr.add _ _).block ≠ _; rw [add_block]; exact hn161_3) | exact hn161_3) (.int .i64 ((rd_T48 l0 (rd l3 x13_1)).f3))).trans hx161_0; (try have hy161_0 := fun (n_ : Nat) => (show ((((((w24.drewN n_).setCell ⟨gb158, 0, none⟩ (.int .i64 ((rd_T48 l0 (rd l3 x13_1)).f0))).setCell ⟨gb158, 1, none⟩ (.slice A157_1 ((rd_T48 l0 (rd l3 x13_1)).f1).length c157_1)).setCell ⟨gb158, 2, none⟩ (.int .i64 ((rd_T48 l0 (rd l3 x13_1)).f2))).setCell ⟨gb158, 3, none⟩ (.int .i64 ((rd_T48 l0 (rd l3 x13_1)).f3)))).cell? _ = some _ from hx161_0)); clear hn161_0; clear hn161_1; clear hn161_2; clear hn161_3; replace p161 := eq_true p161; replace q161 := eq_true q161) | ((with_reducible refine gate_builtin (b := .append) (xs := #[.tmp 51, .tmp 56]) rfl ?_); (try (refine gate_guard (by rfl) ?_; dsimp only)); at_builtin; refine Kd.R_append (Kd.int .i64) (w0 := w) w.heap.size rfl (.tmp 51) (.tmp 56) 23 3 (.int .i64 0) 8 rfl Tryd.underlying23 info3 rfl (by decide) (by omega) u11 x11_1 (rd l3 x13_1) [.int .i64 (rd l3 x13_1)] (fun k_ => some k_ ≠ (.slice Ao26 x12_1.length co26 : Value).ownBlock) (fun _ => False) rfl (by first | (go_simp; done) | (go_simp; rfl)) ?aP (fun _ hk => hk.elim) ?aF ?aO ?aB ?aS ?aL ?_; (case aP => exact rfl); (case aB => exact (by repeat (first | (with_reducible first | exact HB.out | apply below_alloc | apply pw_below_drewN | apply below_drew1 | refine below_set ?_ GE158.out) | exact HB.out))); (case aF => exact (fun k_ hk => Kd.fresh' (Kd.R_lt (by (with_reducible repeat (first | apply Kd.R_alloc | apply Kd.R_drewN | apply Kd.R_drew)); exact (Kd.R_mono (Kd.R_far (p := ⟨gb158, 3, none⟩) (Kd.R_far (p := ⟨gb158, 2, none⟩) (Kd.R_far (p := ⟨gb158, 1, none⟩) (Kd.R_far (p := ⟨gb158, 0, none⟩) (Kd.R_types HO_12.out BK158.out (by decide)) (fun _ hk => hk.2) (.int .i64 ((rd_T48 l0 (rd l3 x13_1)).f0))) (fun _ hk => hk.2) (.slice A157_1 ((rd_T48 l0 (rd l3 x13_1)).f1).length c157_1)) (fun _ hk => hk.2) (.int .i64 ((rd_T48 l0 (rd l3 x13_1)).f2))) (fun _ hk => hk.2) (.int .i64 ((rd_T48 l0 (rd l3 x13_1)).f3))) (fun _ h_ => h_.1)))) k_ hk)); (case aO => exact (by (with_reducible repeat (first | apply Kd.R_alloc | apply Kd.R_drewN | apply Kd.R_drew)); exact Kd.R_mono (Kd.R_far (p := ⟨gb158, 3, none⟩) (Kd.R_far (p := ⟨gb158, 2, none⟩) (Kd.R_far (p := ⟨gb158, 1, none⟩) (Kd.R_far (p := ⟨gb158, 0, none⟩) (Kd.R_types HO_11.out BK158.out (by decide)) (fun _ hk => hk.2) (.int .i64 ((rd_T48 l0 (rd l3 x13_1)).f0))) (fun _ hk => hk.2) (.slice A157_1 ((rd_T48 l0 (rd l3 x13_1)).f1).length c157_1)) (fun _ hk => hk.2) (.int .i64 ((rd_T48 l0 (rd l3 x13_1)).f2))) (fun _ hk => hk.2) (.int .i64 ((rd_T48 l0 (rd l3 x13_1)).f3))) (fun _ hk => hk.1))); (case aS => exact (below_size (by repeat (first | (with_reducible first | exact HB.out | apply below_alloc | apply pw_below_drewN | apply below_drew1 | refine below_set ?_ GE158.out) | exact HB.out)))); (case aL => have := LMc22.out; omega); intro v163 w27 ho hb hg hat; rw [← Ny162.out] at ho; have n0_ := Aside0.mk (Kd.R_after (ok := (fun _ => True)) (by (with_reducible repeat (first | apply Kd.R_alloc | apply Kd.R_drewN | apply Kd.R_drew)); exact Kd.R_mono (Kd.R_far (p := ⟨gb158, 3, none⟩) (Kd.R_far (p := ⟨gb158, 2, none⟩) (Kd.R_far (p := ⟨gb158, 1, none⟩) (Kd.R_far (p := ⟨gb158, 0, none⟩) (Kd.R_types HO_12.out BK158.out (by decide)) (fun _ hk => hk.2) (.int .i64 ((rd_T48 l0 (rd l3 x13_1)).f0))) (fun _ hk => hk.2) (.slice A157_1 ((rd_T48 l0 (rd l3 x13_1)).f1).length c157_1)) (fun _ hk => hk.2) (.int .i64 ((rd_T48 l0 (rd l3 x13_1)).f2))) (fun _ hk => hk.2) (.int .i64 ((rd_T48 l0 (rd l3 x13_1)).f3))) (fun _ hk => ⟨trivial, hk.1⟩)) hg hat); have n1_ := Aside0.mk (blk_grown (g := gb158) (o := .cells #[.int .i64 ((rd_T48 l0 (rd l3 x13_1)).f0), .slice A157_1 ((rd_T48 l0 (rd l3 x13_1)).f1).length c157_1, .int .i64 ((rd_T48 l0 (rd l3 x13_1)).f2), .int .i64 ((rd_T48 l0 (rd l3 x13_1)).f3)] 48 (0, 0)) (by (with_reducible repeat (first | refine blk_drewN ?_ _ | refine blk_drew ?_ | refine blk_alloc ?_ _)); refine blk_put (cs := #[.int .i64 ((rd_T48 l0 (rd l3 x13_1)).f0), .slice A157_1 ((rd_T48 l0 (rd l3 x13_1)).f1).length c157_1, .int .i64 ((rd_T48 l0 (rd l3 x13_1)).f2), .int .i64 0]) ?_ 3 _ rfl; (with_reducible repeat (first | refine blk_drewN ?_ _ | refine blk_drew ?_ | refine blk_alloc ?_ _)); refine blk_put (cs := #[.int .i64 ((rd_T48 l0 (rd l3 x13_1)).f0), .slice A157_1 ((rd_T48 l0 (rd l3 x13_1)).f1).length c157_1, .int .i64 0, .int .i64 0]) ?_ 2 _ rfl; (with_reducible repeat (first | refine blk_drewN ?_ _ | refine blk_drew ?_ | refine blk_alloc ?_ _)); refine blk_put (cs := #[.int .i64 ((rd_T48 l0 (rd l3 x13_1)).f0), .slice none 0 0, .int .i64 0, .int .i64 0]) ?_ 1 _ rfl; (with_reducible repeat (first | refine blk_drewN ?_ _ | refine blk_drew ?_ | refine blk_alloc ?_ _)); refine blk_put (cs := #[.int .i64 0, .slice none 0 0, .int .i64 0, .int .i64 0]) ?_ 0 _ rfl; (with_reducible repeat (first | refine blk_drewN ?_ _ | refine blk_drew ?_ | refine blk_alloc ?_ _)); exact BK158.out) hg (Kd.R_ne HO_11.out BK158.out (by decide))); have n2_ := Aside0.mk (hb); have n3_ := Aside0.mk (ho); clear HO_12; clear BK158; clear HB; clear HO_11; have HO_12 := n0_; have BK158 := n1_; have HB := n2_; have HO164 := n3_; clear n0_ n1_ n2_ n3_; clear ho hb hg hat; have p165 : 0 ≤ (x13_1 : Int) := of_decide_eq_true (by first | (with_reducible assumption) | assumption); have q165 : x13_1 < (l3.length : Int) := of_decide_eq_true (by first | (with_reducible assumption) | assumption); obtain ⟨ad165, e165, hx165_0⟩ := Kd.at_int HR3.out x13_1 p165 q165; obtain rfl : ad156 = ad165 := (by injection e165); replace hx165_0 := (HB.out.cell (World.block_lt_of_cell? w _ hx165_0)).trans hx165_0; replace p165 := eq_true p165; replace q165 := eq_true q165) | ((with_reducible refine gate_builtin (b := .append) (xs := #[.tmp 58, .tmp 63]) rfl ?_); (try (refine gate_guard (by rfl) ?_; dsimp only)); at_builtin; refine Kd.R_append (Kd.int .i64) (w0 := w) w.heap.size rfl (.tmp 58) (.tmp 63) 23 3 (.int .i64 0) 8 rfl Tryd.underlying23 info3 rfl (by decide) (by omega) (.slice Ao26 x12_1.length co26) x12_1 (rd l3 x13_1) [.int .i64 (rd l3 x13_1)] (fun k_ => some k_ ≠ (v163 : Value).ownBlock) (fun _ => False) rfl rfl ?aP (fun _ hk => hk.elim) ?aF ?aO ?aB ?aS ?aL ?_; (case aP => exact rfl); (case aB => exact (by repeat (first | (with_reducible first | exact HB.out | apply below_alloc | apply pw_below_drewN | apply below_drew1 | refine below_set ?_ GE158.out) | exact HB.out))); (case aF => exact (fun k_ hk => Kd.fresh' (Kd.R_lt (by (with_reducible repeat (first | apply Kd.R_alloc | apply Kd.R_drewN | apply Kd.R_drew)); exact HO164.out)) k_ hk)); (case aO => exact (by (with_reducible repeat (first | apply Kd.R_alloc | apply Kd.R_drewN | apply Kd.R_drew)); exact Kd.R_mono HO_12.out (fun _ hk => hk.2))); (case aS => exact (below_size (by repeat (first | (with_reducible first | exact HB.out | apply below_alloc | apply pw_below_drewN | apply below_drew1 | refine below_set ?_ GE158.out) | exact HB.out)))); (case aL => have := LMc23.out; omega); intro v167 w28 ho hb hg hat; rw [← Ny166.out] at ho; have n0_ := Aside0.mk (blk_grown (g := gb158) (o := .cells #[.int .i64 ((rd_T48 l0 (rd l3 x13_1)).f0), .slice A157_1 ((rd_T48 l0 (rd l3 x13_1)).f1).length c157_1, .int .i64 ((rd_T48 l0 (rd l3 x13_1)).f2), .int .i64 ((rd_T48 l0 (rd l3 x13_1)).f3)] 48 (0, 0)) (by (with_reducible repeat (first | refine blk_drewN ?_ _ | refine blk_drew ?_ | refine blk_alloc ?_ _)); exact BK158.out) hg (Kd.R_ne HO_12.out BK158.out (by decide))); have n1_ := Aside0.mk (Kd.R_after (ok := (fun _ => True)) (by (with_reducible repeat (first | apply Kd.R_alloc | apply Kd.R_drewN | apply Kd.R_drew)); exact Kd.R_mono HO164.out (fun _ hk => ⟨trivial, hk⟩)) hg hat); have n2_ := Aside0.mk (hb); have n3_ := Aside0.mk (ho); clear BK158; clear HO164; clear HB; clear HO_12; have BK158 := n0_; have HO164 := n1_; have HB := n2_; have HO168 := n3_; clear n0_ n1_ n2_ n3_; clear ho hb hg hat)))
               go_roundg kj9
               case measure => have := HK1.out; have := HJ9.out; omega
               case rel => exact ⟨(y162), (y166), (wrap64 (x13_1 + 1)), (by first | rfl | (simp; done) | (simp [*]; done)), H', ⟨by have := HK1.out; have := HJ9.out; omega⟩, ⟨by (with_reducible repeat (first | apply Kd.R_alloc | apply Kd.R_drewN | apply Kd.R_drew)); exact Kd.R_mono HO164.out (fun _ hk => hk.2)⟩, ⟨by (with_reducible repeat (first | apply Kd.R_alloc | apply Kd.R_drewN | apply Kd.R_drew)); exact HO168.out⟩, ⟨by repeat (first | (with_reducible first | exact HB.out | apply below_alloc | apply pw_below_drewN | apply below_drew1 | refine below_set ?_ GE158.out) | exact HB.out)⟩⟩
              ·rw [if_neg c23] at H
               exact absurd H (by simp)
             ·rw [if_neg c22] at H
              exact absurd H (by simp)
            ·rw [if_neg c21] at H
             have c21b0 : decide ((wrap64 (t159 + ((rd_T48 l0 (rd l3 x13_1)).f3))) ≤ (rd l1 ((rd_T48 l0 (rd l3 x13_1)).f2))) = false := decide_eq_false c21
             have c21b0w : decide ((IntKind.i64.wrap (t159 + ((rd_T48 l0 (rd l3 x13_1)).f3))) ≤ (rd l1 ((rd_T48 l0 (rd l3 x13_1)).f2))) = false := by rw [i64_w]; exact c21b0
             clear c21
             have H' := Aside0.mk H
             clear H
             have p156 : 0 ≤ (x13_1 : Int) := of_decide_eq_true (by first | (with_reducible assumption) | assumption)
             have q156 : x13_1 < (l3.length : Int) := of_decide_eq_true (by first | (with_reducible assumption) | assumption)
             obtain ⟨ad156, e156, hx156_0⟩ := Kd.at_int HR3.out x13_1 p156 q156
             cases e156
             (try replace hx156_0 := (HB.out.cell (World.block_lt_of_cell? w _ hx156_0)).trans hx156_0)
             replace p156 := eq_true p156
             replace q156 := eq_true q156
             have p157 : 0 ≤ ((rd l3 x13_1) : Int) := of_decide_eq_true (by first | (with_reducible assumption) | assumption)
             have q157 : (rd l3 x13_1) < (l0.length : Int) := of_decide_eq_true (by first | (with_reducible assumption) | assumption)
             obtain ⟨ad157, A157_1, c157_1, e157, hx157_0, hx157_1, hx157_2, hx157_3, hl157_1, hi157_1⟩ := at_T48 HR0.out (rd l3 x13_1) p157 q157
             cases e157
             (try replace hx157_0 := (HB.out.cell (World.block_lt_of_cell? w _ hx157_0)).trans hx157_0)
             (try replace hx157_1 := (HB.out.cell (World.block_lt_of_cell? w _ hx157_1)).trans hx157_1)
             (try replace hx157_2 := (HB.out.cell (World.block_lt_of_cell? w _ hx157_2)).trans hx157_2)
             (try replace hx157_3 := (HB.out.cell (World.block_lt_of_cell? w _ hx157_3)).trans hx157_3)
             have HR157_1 := Aside0.mk hi157_1
             have HC157_1 := Aside0.mk hl157_1
             clear hi157_1 hl157_1
             replace p157 := eq_true p157
             replace q157 := eq_true q157
             go_wp2_with (first | ((with_reducible refine gate_dst (N := 14) rfl ?_); (try (refine gate_guard (by rfl) ?_; dsimp only)); refine box_event ?hg (N := 14) ?hd (cs := #[.int .i64 0, .slice none 0 0, .int .i64 0, .int .i64 0]) (t := 48) ?hr ?_; (case hd => rfl); (case hg => rfl); (case hr => first | (go_simp; done) | (go_simp; rfl)); intro gb158 hg w29 hbox hb; have n0_ := Aside0.mk (Kd.R_below (by (with_reducible repeat (first | apply Kd.R_alloc | apply Kd.R_drewN | apply Kd.R_drew)); exact HO_11.out) hb); have n1_ := Aside0.mk (Kd.R_below (by (with_reducible repeat (first | apply Kd.R_alloc | apply Kd.R_drewN | apply Kd.R_drew)); exact HO_12.out) hb); have n2_ := Aside0.mk (below_step (by repeat (first | (with_reducible first | exact HB.out | apply below_alloc | apply pw_below_drewN | apply below_drew1) | exact HB.out)) hb); have n3_ := Aside0.mk (hbox); have n4_ := Aside0.mk ((by rw [hg]; exact (below_size (by repeat (first | (with_reducible first | exact HB.out | apply below_alloc | apply pw_below_drewN | apply below_drew1) | exact HB.out))) : w.heap.size ≤ gb158)); have n5_ := Aside0.mk ((by rw [hg]; exact (below_size (by repeat (first | (with_reducible first | exact HB.out | apply below_alloc | apply pw_below_drewN | apply below_drew1) | exact HB.out))) : w.heap.size ≤ gb158)); clear HO_11; clear HO_12; clear HB; have HO_11 := n0_; have HO_12 := n1_; have HB := n2_; have BK158 := n3_; have GW158 := n4_; have GE158 := n5_; clear n0_ n1_ n2_ n3_ n4_ n5_; clear hb hbox hg; have hcz30_0 : w29.cell? ⟨gb158, 0, none⟩ = some (.int .i64 0) := (blk_cell BK158.out 0).trans rfl; have hcz30_1 : w29.cell? ⟨gb158, 1, none⟩ = some (.slice none 0 0) := (blk_cell BK158.out 1).trans rfl; have hcz30_2 : w29.cell? ⟨gb158, 2, none⟩ = some (.int .i64 0) := (blk_cell BK158.out 2).trans rfl; have hcz30_3 : w29.cell? ⟨gb158, 3, none⟩ = some (.int .i64 0) := (blk_cell BK158.out 3).trans rfl; have hfz30_0 := blk_frozen BK158.out 0; have hfz30_1 := blk_frozen BK158.out 1; have hfz30_2 := blk_frozen BK158.out 2; have hfz30_3 := blk_frozen BK158.out 3; obtain ⟨Ao31, co31, eo31⟩ := Kd.R_slice HO_12.out; subst eo31) | (go_at_call 102; (with_reducible refine (spec_used.calls kj9 _ _ l0 _ _ x12_1 ((rd_T48 l0 (rd l3 x13_1)).f2) t159 _ ?side1 ?side2 ?side3 ?side4 A18.out).mono ?_); (case side1 => exact Kd.C_below HR0.out (by repeat (first | (with_reducible first | exact HB.out | apply below_alloc | apply pw_below_drewN | apply below_drew1 | refine below_set ?_ GE158.out) | exact HB.out))); (case side2 => exact HC0.out); (case side3 => refine (Kd.R_reads' (e := 3) (base := w.heap.size) (ok := fun k_ => some k_ ≠ (u11 : Value).ownBlock) (n := x12_1.length) (c := co31) ?_).2.2; exact (by (with_reducible repeat (first | apply Kd.R_alloc | apply Kd.R_drewN | apply Kd.R_drew)); exact (Kd.R_mono (Kd.R_far (p := ⟨gb158, 3, none⟩) (Kd.R_far (p := ⟨gb158, 2, none⟩) (Kd.R_far (p := ⟨gb158, 1, none⟩) (Kd.R_far (p := ⟨gb158, 0, none⟩) (Kd.R_types HO_12.out BK158.out (by decide)) (fun _ hk => hk.2) (.int .i64 ((rd_T48 l0 (rd l3 x13_1)).f0))) (fun _ hk => hk.2) (.slice A157_1 ((rd_T48 l0 (rd l3 x13_1)).f1).length c157_1)) (fun _ hk => hk.2) (.int .i64 ((rd_T48 l0 (rd l3 x13_1)).f2))) (fun _ hk => hk.2) (.int .i64 ((rd_T48 l0 (rd l3 x13_1)).f3))) (fun _ h_ => h_.1)))); (case side4 => exact (Kd.R_reads' HO_12.out).2.1); rintro e w' ⟨rfl, ⟨nd, rfl⟩⟩; (try first | exact ⟨rfl, _, World.drewN_drewN _ _ _⟩ | exact ⟨rfl, _, Eq.trans (World.drewN_drewN _ _ _) (congrArg (World.drewN _) (Nat.add_assoc _ _ _))⟩); have p160 : 0 ≤ (((rd_T48 l0 (rd l3 x13_1)).f2) : Int) := of_decide_eq_true (by first | (with_reducible assumption) | assumption); have q160 : ((rd_T48 l0 (rd l3 x13_1)).f2) < (l1.length : Int) := of_decide_eq_true (by first | (with_reducible assumption) | assumption); obtain ⟨ad160, e160, hx160_0⟩ := Kd.at_int HR1.out ((rd_T48 l0 (rd l3 x13_1)).f2) p160 q160; cases e160; have hn160_0 : ad160.block ≠ gb158 := Nat.ne_of_lt (Nat.lt_of_lt_of_le (by have := World.block_lt_of_cell? _ _ hx160_0; first | rwa [add_block] at this | exact this) GW158.out); have hn160_1 : ad160.block ≠ gb158 := Nat.ne_of_lt (Nat.lt_of_lt_of_le (by have := World.block_lt_of_cell? _ _ hx160_0; first | rwa [add_block] at this | exact this) GW158.out); have hn160_2 : ad160.block ≠ gb158 := Nat.ne_of_lt (Nat.lt_of_lt_of_le (by have := World.block_lt_of_cell? _ _ hx160_0; first | rwa [add_block] at this | exact this) GW158.out); have hn160_3 : ad160.block ≠ gb158 := Nat.ne_of_lt (Nat.lt_of_lt_of_le (by have := World.block_lt_of_cell? _ _ hx160_0; first | rwa [add_block] at this | exact this) GW158.out); replace hx160_0 := (HB.out.cell (World.block_lt_of_cell? w _ hx160_0)).trans hx160_0; replace hx160_0 := (cell_far (p := ⟨gb158, 0, none⟩) (by first | (rw [add_block]; exact hn160_0) | (show (Addr.add _ _).block ≠ _; rw [add_block]; exact hn160_0) | exact hn160_0) (.int .i64 ((rd_T48 l0 (rd l3 x13_1)).f0))).trans hx160_0; replace hx160_0 := (cell_far (p := ⟨gb158, 1, none⟩) (by first | (rw [add_block]; exact hn160_1) | (show (Addr.add _ _).block ≠ _; rw [add_block]; exact hn160_1) | exact hn160_1) (.slice A157_1 ((rd_T48 l0 (rd l3 x13_1)).f1).length c157_1)).trans hx160_0; replace hx160_0 := (cell_far (p := ⟨gb158, 2, none⟩) (by first | (rw [add_block]; exact hn160_2) | (show (Addr.add _ _).block ≠ _; rw [add_block]; exact hn160_2) | exact hn160_2) (.int .i64 ((rd_T48 l0 (rd l3 x13_1)).f2))).trans hx160_0; replace hx160_0 := (cell_far (p := ⟨gb158, 3, none⟩) (by first | (rw [add_block]; exact hn160_3) | (show (Addr.add _ _).block ≠ _; rw [add_block]; exact hn160_3) | exact hn160_3) (.int .i64 ((rd_T48 l0 (rd l3 x13_1)).f3))).trans hx160_0; (try have hy160_0 := fun (n_ : Nat) => (show ((((((w29.drewN n_).setCell ⟨gb158, 0, none⟩ (.int .i64 ((rd_T48 l0 (rd l3 x13_1)).f0))).setCell ⟨gb158, 1, none⟩ (.slice A157_1 ((rd_T48 l0 (rd l3 x13_1)).f1).length c157_1)).setCell ⟨gb158, 2, none⟩ (.int .i64 ((rd_T48 l0 (rd l3 x13_1)).f2))).setCell ⟨gb158, 3, none⟩ (.int .i64 ((rd_T48 l0 (rd l3 x13_1)).f3)))).cell? _ = some _ from hx160_0)); clear hn160_0; clear hn160_1; clear hn160_2; clear hn160_3; replace p160 := eq_true p160; replace q160 := eq_true q160))
             repeat (go_quiet (first | ((with_reducible refine gate_dst (N := 14) rfl ?_); (try (refine gate_guard (by rfl) ?_; dsimp only)); refine box_event ?hg (N := 14) ?hd (cs := #[.int .i64 0, .slice none 0 0, .int .i64 0, .int .i64 0]) (t := 48) ?hr ?_; (case hd => rfl); (case hg => rfl); (case hr => first | (go_simp; done) | (go_simp; rfl)); intro gb158 hg w29 hbox hb; have n0_ := Aside0.mk (Kd.R_below (by (with_reducible repeat (first | apply Kd.R_alloc | apply Kd.R_drewN | apply Kd.R_drew)); exact HO_11.out) hb); have n1_ := Aside0.mk (Kd.R_below (by (with_reducible repeat (first | apply Kd.R_alloc | apply Kd.R_drewN | apply Kd.R_drew)); exact HO_12.out) hb); have n2_ := Aside0.mk (below_step (by repeat (first | (with_reducible first | exact HB.out | apply below_alloc | apply pw_below_drewN | apply below_drew1) | exact HB.out)) hb); have n3_ := Aside0.mk (hbox); have n4_ := Aside0.mk ((by rw [hg]; exact (below_size (by repeat (first | (with_reducible first | exact HB.out | apply below_alloc | apply pw_below_drewN | apply below_drew1) | exact HB.out))) : w.heap.size ≤ gb158)); have n5_ := Aside0.mk ((by rw [hg]; exact (below_size (by repeat (first | (with_reducible first | exact HB.out | apply below_alloc | apply pw_below_drewN | apply below_drew1) | exact HB.out))) : w.heap.size ≤ gb158)); clear HO_11; clear HO_12; clear HB; have HO_11 := n0_; have HO_12 := n1_; have HB := n2_; have BK158 := n3_; have GW158 := n4_; have GE158 := n5_; clear n0_ n1_ n2_ n3_ n4_ n5_; clear hb hbox hg; have hcz30_0 : w29.cell? ⟨gb158, 0, none⟩ = some (.int .i64 0) := (blk_cell BK158.out 0).trans rfl; have hcz30_1 : w29.cell? ⟨gb158, 1, none⟩ = some (.slice none 0 0) := (blk_cell BK158.out 1).trans rfl; have hcz30_2 : w29.cell? ⟨gb158, 2, none⟩ = some (.int .i64 0) := (blk_cell BK158.out 2).trans rfl; have hcz30_3 : w29.cell? ⟨gb158, 3, none⟩ = some (.int .i64 0) := (blk_cell BK158.out 3).trans rfl; have hfz30_0 := blk_frozen BK158.out 0; have hfz30_1 := blk_frozen BK158.out 1; have hfz30_2 := blk_frozen BK158.out 2; have hfz30_3 := blk_frozen BK158.out 3; obtain ⟨Ao31, co31, eo31⟩ := Kd.R_slice HO_12.out; subst eo31) | (go_at_call 102; (with_reducible refine (spec_used.calls kj9 _ _ l0 _ _ x12_1 ((rd_T48 l0 (rd l3 x13_1)).f2) t159 _ ?side1 ?side2 ?side3 ?side4 A18.out).mono ?_); (case side1 => exact Kd.C_below HR0.out (by repeat (first | (with_reducible first | exact HB.out | apply below_alloc | apply pw_below_drewN | apply below_drew1 | refine below_set ?_ GE158.out) | exact HB.out))); (case side2 => exact HC0.out); (case side3 => refine (Kd.R_reads' (e := 3) (base := w.heap.size) (ok := fun k_ => some k_ ≠ (u11 : Value).ownBlock) (n := x12_1.length) (c := co31) ?_).2.2; exact (by (with_reducible repeat (first | apply Kd.R_alloc | apply Kd.R_drewN | apply Kd.R_drew)); exact (Kd.R_mono (Kd.R_far (p := ⟨gb158, 3, none⟩) (Kd.R_far (p := ⟨gb158, 2, none⟩) (Kd.R_far (p := ⟨gb158, 1, none⟩) (Kd.R_far (p := ⟨gb158, 0, none⟩) (Kd.R_types HO_12.out BK158.out (by decide)) (fun _ hk => hk.2) (.int .i64 ((rd_T48 l0 (rd l3 x13_1)).f0))) (fun _ hk => hk.2) (.slice A157_1 ((rd_T48 l0 (rd l3 x13_1)).f1).length c157_1)) (fun _ hk => hk.2) (.int .i64 ((rd_T48 l0 (rd l3 x13_1)).f2))) (fun _ hk => hk.2) (.int .i64 ((rd_T48 l0 (rd l3 x13_1)).f3))) (fun _ h_ => h_.1)))); (case side4 => exact (Kd.R_reads' HO_12.out).2.1); rintro e w' ⟨rfl, ⟨nd, rfl⟩⟩; (try first | exact ⟨rfl, _, World.drewN_drewN _ _ _⟩ | exact ⟨rfl, _, Eq.trans (World.drewN_drewN _ _ _) (congrArg (World.drewN _) (Nat.add_assoc _ _ _))⟩); have p160 : 0 ≤ (((rd_T48 l0 (rd l3 x13_1)).f2) : Int) := of_decide_eq_true (by first | (with_reducible assumption) | assumption); have q160 : ((rd_T48 l0 (rd l3 x13_1)).f2) < (l1.length : Int) := of_decide_eq_true (by first | (with_reducible assumption) | assumption); obtain ⟨ad160, e160, hx160_0⟩ := Kd.at_int HR1.out ((rd_T48 l0 (rd l3 x13_1)).f2) p160 q160; cases e160; have hn160_0 : ad160.block ≠ gb158 := Nat.ne_of_lt (Nat.lt_of_lt_of_le (by have := World.block_lt_of_cell? _ _ hx160_0; first | rwa [add_block] at this | exact this) GW158.out); have hn160_1 : ad160.block ≠ gb158 := Nat.ne_of_lt (Nat.lt_of_lt_of_le (by have := World.block_lt_of_cell? _ _ hx160_0; first | rwa [add_block] at this | exact this) GW158.out); have hn160_2 : ad160.block ≠ gb158 := Nat.ne_of_lt (Nat.lt_of_lt_of_le (by have := World.block_lt_of_cell? _ _ hx160_0; first | rwa [add_block] at this | exact this) GW158.out); have hn160_3 : ad160.block ≠ gb158 := Nat.ne_of_lt (Nat.lt_of_lt_of_le (by have := World.block_lt_of_cell? _ _ hx160_0; first | rwa [add_block] at this | exact this) GW158.out); replace hx160_0 := (HB.out.cell (World.block_lt_of_cell? w _ hx160_0)).trans hx160_0; replace hx160_0 := (cell_far (p := ⟨gb158, 0, none⟩) (by first | (rw [add_block]; exact hn160_0) | (show (Addr.add _ _).block ≠ _; rw [add_block]; exact hn160_0) | exact hn160_0) (.int .i64 ((rd_T48 l0 (rd l3 x13_1)).f0))).trans hx160_0; replace hx160_0 := (cell_far (p := ⟨gb158, 1, none⟩) (by first | (rw [add_block]; exact hn160_1) | (show (Addr.add _ _).block ≠ _; rw [add_block]; exact hn160_1) | exact hn160_1) (.slice A157_1 ((rd_T48 l0 (rd l3 x13_1)).f1).length c157_1)).trans hx160_0; replace hx160_0 := (cell_far (p := ⟨gb158, 2, none⟩) (by first | (rw [add_block]; exact hn160_2) | (show (Addr.add _ _).block ≠ _; rw [add_block]; exact hn160_2) | exact hn160_2) (.int .i64 ((rd_T48 l0 (rd l3 x13_1)).f2))).trans hx160_0; replace hx160_0 := (cell_far (p := ⟨gb158, 3, none⟩) (by first | (rw [add_block]; exact hn160_3) | (show (Addr.add _ _).block ≠ _; rw [add_block]; exact hn160_3) | exact hn160_3) (.int .i64 ((rd_T48 l0 (rd l3 x13_1)).f3))).trans hx160_0; (try have hy160_0 := fun (n_ : Nat) => (show ((((((w29.drewN n_).setCell ⟨gb158, 0, none⟩ (.int .i64 ((rd_T48 l0 (rd l3 x13_1)).f0))).setCell ⟨gb158, 1, none⟩ (.slice A157_1 ((rd_T48 l0 (rd l3 x13_1)).f1).length c157_1)).setCell ⟨gb158, 2, none⟩ (.int .i64 ((rd_T48 l0 (rd l3 x13_1)).f2))).setCell ⟨gb158, 3, none⟩ (.int .i64 ((rd_T48 l0 (rd l3 x13_1)).f3)))).cell? _ = some _ from hx160_0)); clear hn160_0; clear hn160_1; clear hn160_2; clear hn160_3; replace p160 := eq_true p160; replace q160 := eq_true q160)); try go_wp2_with (first | ((with_reducible refine gate_dst (N := 14) rfl ?_); (try (refine gate_guard (by rfl) ?_; dsimp only)); refine box_event ?hg (N := 14) ?hd (cs := #[.int .i64 0, .slice none 0 0, .int .i64 0, .int .i64 0]) (t := 48) ?hr ?_; (case hd => rfl); (case hg => rfl); (case hr => first | (go_simp; done) | (go_simp; rfl)); intro gb158 hg w29 hbox hb; have n0_ := Aside0.mk (Kd.R_below (by (with_reducible repeat (first | apply Kd.R_alloc | apply Kd.R_drewN | apply Kd.R_drew)); exact HO_11.out) hb); have n1_ := Aside0.mk (Kd.R_below (by (with_reducible repeat (first | apply Kd.R_alloc | apply Kd.R_drewN | apply Kd.R_drew)); exact HO_12.out) hb); have n2_ := Aside0.mk (below_step (by repeat (first | (with_reducible first | exact HB.out | apply below_alloc | apply pw_below_drewN | apply below_drew1) | exact HB.out)) hb); have n3_ := Aside0.mk (hbox); have n4_ := Aside0.mk ((by rw [hg]; exact (below_size (by repeat (first | (with_reducible first | exact HB.out | apply below_alloc | apply pw_below_drewN | apply below_drew1) | exact HB.out))) : w.heap.size ≤ gb158)); have n5_ := Aside0.mk ((by rw [hg]; exact (below_size (by repeat (first | (with_reducible first | exact HB.out | apply below_alloc | apply pw_below_drewN | apply below_drew1) | exact HB.out))) : w.heap.size ≤ gb158)); clear HO_11; clear HO_12; clear HB; have HO_11 := n0_; have HO_12 := n1_; have HB := n2_; have BK158 := n3_; have GW158 := n4_; have GE158 := n5_; clear n0_ n1_ n2_ n3_ n4_ n5_; clear hb hbox hg; have hcz30_0 : w29.cell? ⟨gb158, 0, none⟩ = some (.int .i64 0) := (blk_cell BK158.out 0).trans rfl; have hcz30_1 : w29.cell? ⟨gb158, 1, none⟩ = some (.slice none 0 0) := (blk_cell BK158.out 1).trans rfl; have hcz30_2 : w29.cell? ⟨gb158, 2, none⟩ = some (.int .i64 0) := (blk_cell BK158.out 2).trans rfl; have hcz30_3 : w29.cell? ⟨gb158, 3, none⟩ = some (.int .i64 0) := (blk_cell BK158.out 3).trans rfl; have hfz30_0 := blk_frozen BK158.out 0; have hfz30_1 := blk_frozen BK158.out 1; have hfz30_2 := blk_frozen BK158.out 2; have hfz30_3 := blk_frozen BK158.out 3; obtain ⟨Ao31, co31, eo31⟩ := Kd.R_slice HO_12.out; subst eo31) | (go_at_call 102; (with_reducible refine (spec_used.calls kj9 _ _ l0 _ _ x12_1 ((rd_T48 l0 (rd l3 x13_1)).f2) t159 _ ?side1 ?side2 ?side3 ?side4 A18.out).mono ?_); (case side1 => exact Kd.C_below HR0.out (by repeat (first | (with_reducible first | exact HB.out | apply below_alloc | apply pw_below_drewN | apply below_drew1 | refine below_set ?_ GE158.out) | exact HB.out))); (case side2 => exact HC0.out); (case side3 => refine (Kd.R_reads' (e := 3) (base := w.heap.size) (ok := fun k_ => some k_ ≠ (u11 : Value).ownBlock) (n := x12_1.length) (c := co31) ?_).2.2; exact (by (with_reducible repeat (first | apply Kd.R_alloc | apply Kd.R_drewN | apply Kd.R_drew)); exact (Kd.R_mono (Kd.R_far (p := ⟨gb158, 3, none⟩) (Kd.R_far (p := ⟨gb158, 2, none⟩) (Kd.R_far (p := ⟨gb158, 1, none⟩) (Kd.R_far (p := ⟨gb158, 0, none⟩) (Kd.R_types HO_12.out BK158.out (by decide)) (fun _ hk => hk.2) (.int .i64 ((rd_T48 l0 (rd l3 x13_1)).f0))) (fun _ hk => hk.2) (.slice A157_1 ((rd_T48 l0 (rd l3 x13_1)).f1).length c157_1)) (fun _ hk => hk.2) (.int .i64 ((rd_T48 l0 (rd l3 x13_1)).f2))) (fun _ hk => hk.2) (.int .i64 ((rd_T48 l0 (rd l3 x13_1)).f3))) (fun _ h_ => h_.1)))); (case side4 => exact (Kd.R_reads' HO_12.out).2.1); rintro e w' ⟨rfl, ⟨nd, rfl⟩⟩; (try first | exact ⟨rfl, _, World.drewN_drewN _ _ _⟩ | exact ⟨rfl, _, Eq.trans (World.drewN_drewN _ _ _) (congrArg (World.drewN _) (Nat.add_assoc _ _ _))⟩); have p160 : 0 ≤ (((rd_T48 l0 (rd l3 x13_1)).f2) : Int) := of_decide_eq_true (by first | (with_reducible assumption) | assumption); have q160 : ((rd_T48 l0 (rd l3 x13_1)).f2) < (l1.length : Int) := of_decide_eq_true (by first | (with_reducible assumption) | assumption); obtain ⟨ad160, e160, hx160_0⟩ := Kd.at_int HR1.out ((rd_T48 l0 (rd l3 x13_1)).f2) p160 q160; cases e160; have hn160_0 : ad160.block ≠ gb158 := Nat.ne_of_lt (Nat.lt_of_lt_of_le (by have := World.block_lt_of_cell? _ _ hx160_0; first | rwa [add_block] at this | exact this) GW158.out); have hn160_1 : ad160.block ≠ gb158 := Nat.ne_of_lt (Nat.lt_of_lt_of_le (by have := World.block_lt_of_cell? _ _ hx160_0; first | rwa [add_block] at this | exact this) GW158.out); have hn160_2 : ad160.block ≠ gb158 := Nat.ne_of_lt (Nat.lt_of_lt_of_le (by have := World.block_lt_of_cell? _ _ hx160_0; first | rwa [add_block] at this | exact this) GW158.out); have hn160_3 : ad160.block ≠ gb158 := Nat.ne_of_lt (Nat.lt_of_lt_of_le (by have := World.block_lt_of_cell? _ _ hx160_0; first | rwa [add_block] at this | exact this) GW158.out); replace hx160_0 := (HB.out.cell (World.block_lt_of_cell? w _ hx160_0)).trans hx160_0; replace hx160_0 := (cell_far (p := ⟨gb158, 0, none⟩) (by first | (rw [add_block]; exact hn160_0) | (show (Addr.add _ _).block ≠ _; rw [add_block]; exact hn160_0) | exact hn160_0) (.int .i64 ((rd_T48 l0 (rd l3 x13_1)).f0))).trans hx160_0; replace hx160_0 := (cell_far (p := ⟨gb158, 1, none⟩) (by first | (rw [add_block]; exact hn160_1) | (show (Addr.add _ _).block ≠ _; rw [add_block]; exact hn160_1) | exact hn160_1) (.slice A157_1 ((rd_T48 l0 (rd l3 x13_1)).f1).length c157_1)).trans hx160_0; replace hx160_0 := (cell_far (p := ⟨gb158, 2, none⟩) (by first | (rw [add_block]; exact hn160_2) | (show (Addr.add _ _).block ≠ _; rw [add_block]; exact hn160_2) | exact hn160_2) (.int .i64 ((rd_T48 l0 (rd l3 x13_1)).f2))).trans hx160_0; replace hx160_0 := (cell_far (p := ⟨gb158, 3, none⟩) (by first | (rw [add_block]; exact hn160_3) | (show (Addr.add _ _).block ≠ _; rw [add_block]; exact hn160_3) | exact hn160_3) (.int .i64 ((rd_T48 l0 (rd l3 x13_1)).f3))).trans hx160_0; (try have hy160_0 := fun (n_ : Nat) => (show ((((((w29.drewN n_).setCell ⟨gb158, 0, none⟩ (.int .i64 ((rd_T48 l0 (rd l3 x13_1)).f0))).setCell ⟨gb158, 1, none⟩ (.slice A157_1 ((rd_T48 l0 (rd l3 x13_1)).f1).length c157_1)).setCell ⟨gb158, 2, none⟩ (.int .i64 ((rd_T48 l0 (rd l3 x13_1)).f2))).setCell ⟨gb158, 3, none⟩ (.int .i64 ((rd_T48 l0 (rd l3 x13_1)).f3)))).cell? _ = some _ from hx160_0)); clear hn160_0; clear hn160_1; clear hn160_2; clear hn160_3; replace p160 := eq_true p160; replace q160 := eq_true q160)))
             go_roundg kj9
             case measure => have := HK1.out; have := HJ9.out; omega
             case rel => exact ⟨(x11_1), (x12_1), (wrap64 (x13_1 + 1)), (by first | rfl | (simp; done) | (simp [*]; done)), H', ⟨by have := HK1.out; have := HJ9.out; omega⟩, ⟨by (with_reducible repeat (first | apply Kd.R_alloc | apply Kd.R_drewN | apply Kd.R_drew)); exact Kd.R_mono (Kd.R_far (p := ⟨gb158, 3, none⟩) (Kd.R_far (p := ⟨gb158, 2, none⟩) (Kd.R_far (p := ⟨gb158, 1, none⟩) (Kd.R_far (p := ⟨gb158, 0, none⟩) (Kd.R_types HO_11.out BK158.out (by decide)) (fun _ hk => hk.2) (.int .i64 ((rd_T48 l0 (rd l3 x13_1)).f0))) (fun _ hk => hk.2) (.slice A157_1 ((rd_T48 l0 (rd l3 x13_1)).f1).length c157_1)) (fun _ hk => hk.2) (.int .i64 ((rd_T48 l0 (rd l3 x13_1)).f2))) (fun _ hk => hk.2) (.int .i64 ((rd_T48 l0 (rd l3 x13_1)).f3))) (fun _ hk => hk.1)⟩, ⟨by (with_reducible repeat (first | apply Kd.R_alloc | apply Kd.R_drewN | apply Kd.R_drew)); exact Kd.R_mono (Kd.R_far (p := ⟨gb158, 3, none⟩) (Kd.R_far (p := ⟨gb158, 2, none⟩) (Kd.R_far (p := ⟨gb158, 1, none⟩) (Kd.R_far (p := ⟨gb158, 0, none⟩) (Kd.R_types HO_12.out BK158.out (by decide)) (fun _ hk => hk.2) (.int .i64 ((rd_T48 l0 (rd l3 x13_1)).f0))) (fun _ hk => hk.2) (.slice A157_1 ((rd_T48 l0 (rd l3 x13_1)).f1).length c157_1)) (fun _ hk => hk.2) (.int .i64 ((rd_T48 l0 (rd l3 x13_1)).f2))) (fun _ hk => hk.2) (.int .i64 ((rd_T48 l0 (rd l3 x13_1)).f3))) (fun _ hk => hk.1)⟩, ⟨by repeat (first | (with_reducible first | exact HB.out | apply below_alloc | apply pw_below_drewN | apply below_drew1 | refine below_set ?_ GE158.out) | exact HB.out)⟩⟩
           ·rw [if_neg c20] at H
            exact absurd H (by simp)
          ·rw [if_neg c19] at H
           exact absurd H (by simp)
         ·rw [if_neg c17] at H
          exact absurd H (by simp)
        ·rw [if_neg c16] at H
         exact absurd H (by simp)
       ·rw [if_neg c15] at H
        exact absurd H (by simp)
      ·rw [if_neg c14] at H
       exact absurd H (by simp)
     ·replace c13 := Bool.eq_false_iff.mpr c13
      subst c13
      have H1 : (some x11_1) = some r := by rw [if_neg (show ¬ (false = true) by decide)] at H; exact H
      clear H
      have H := H1
      clear H1
      obtain rfl := Option.some.inj H
      go_wp2
      repeat (go_quiet (fail); try go_wp2)
      go_ret
      exact ⟨_, by first | rfl | (simp [errW_none, errW_some] <;> rfl) | (simp [*, errW_none, errW_some] <;> rfl), by (with_reducible repeat (first | apply Kd.R_alloc | apply Kd.R_drewN | apply Kd.R_drew)); exact Kd.R_mono HO_11.out (fun _ hk => trivial), by repeat (first | (with_reducible first | exact HB.out | apply below_alloc | apply pw_below_drewN | apply below_drew1) | exact HB.out)⟩
end Go.Proofs.YtpibdjkajgfgjaaDoor.P
end
section
namespace Go.Proofs.YtpibdjkajgfgjaaDoor.P
open Go.RowKit Go.Proofs.YtpibdjkajgfgjaaDoorW.PrintWords Go.Proofs.YtpibdjkajgfgjaaDoorW.PrintLast Go.Proofs.YtpibdjkajgfgjaaDoorW.PrintMore
attribute [local go_sem] max2_int min2_int max_two min_two max_three min_three max_four min_four   -- for this text's walks alone
set_option linter.unusedVariables false
set_option linter.unusedSimpArgs false
mutual
def spec_AdmitTasks.j0 : Nat → List (S48) → List Int → List Int → List Int → Int → Bool → Option (List Int)
 | 0, _, _, _, _, _, _ => none
 | k + 1, x0, x1, x2, x3, x4, x29 => if x29 = true then (some ([] : List Int)) else (spec_AdmitTasks.l0 k x0 x1 x2 x3 x4 0)
def spec_AdmitTasks.l0 : Nat → List (S48) → List Int → List Int → List Int → Int → Int → Option (List Int)
 | 0, _, _, _, _, _, _ => none
 | k + 1, x0, x1, x2, x3, x4, x11 => if x11 < (x3.length : Int) then (if 0 ≤ x11 then ((spec_isIn.f k x2 (rd x3 x11)).bind fun t176 => (if t176 = true then (some ([] : List Int)) else (if x11 ≤ (x3.length : Int) then ((spec_isIn.f k (x3.take (x11 : Int).toNat) (rd x3 x11)).bind fun t179 => (if t179 = true then (some ([] : List Int)) else (spec_AdmitTasks.l0 k x0 x1 x2 x3 x4 (wrap64 (x11 + 1))))) else (none)))) else (none)) else ((spec_admit.f k x0 x1 x2 x3 x4).bind fun t172 => (some t172))
end
def spec_AdmitTasks.f (k : Nat) (l0 : List (S48)) (l1 : List Int) (l2 : List Int) (l3 : List Int) (a4 : Int) : Option (List Int) := (spec_validRunning.f k l0 l1 l2).bind fun t169 => (if t169 = true then ((spec_inRange.f a4 1 4).bind fun t170 => (if t170 = true then ((spec_allIn.f k l3 0 (wrap64 ((l0.length : Int) - 1))).bind fun t171 => (spec_AdmitTasks.j0 k l0 l1 l2 l3 a4 (!t171))) else (spec_AdmitTasks.j0 k l0 l1 l2 l3 a4 true))) else (spec_AdmitTasks.j0 k l0 l1 l2 l3 a4 true))
theorem spec_AdmitTasks.mono_l : ∀ k, (∀ y0 y1 y2 y3 y4 y5, LeO (spec_AdmitTasks.j0 k y0 y1 y2 y3 y4 y5) (spec_AdmitTasks.j0 (k + 1) y0 y1 y2 y3 y4 y5)) ∧ (∀ y0 y1 y2 y3 y4 y5, LeO (spec_AdmitTasks.l0 k y0 y1 y2 y3 y4 y5) (spec_AdmitTasks.l0 (k + 1) y0 y1 y2 y3 y4 y5))
 | 0 => ⟨fun _ _ _ _ _ _ r h => by simp [spec_AdmitTasks.j0] at h, fun _ _ _ _ _ _ r h => by simp [spec_AdmitTasks.l0] at h⟩
 | k + 1 => by
  obtain ⟨ih0, ih1⟩ := spec_AdmitTasks.mono_l k
  refine ⟨?_, ?_⟩
  ·intro y0 y1 y2 y3 y4 y5
   unfold spec_AdmitTasks.j0
   repeat' first
   | (with_reducible exact ih0 _ _ _ _ _ _)
   | (with_reducible exact ih1 _ _ _ _ _ _)
   | (with_reducible exact spec_admit.mono _ _ _ _ _ _)
   | (with_reducible exact spec_allIn.mono _ _ _ _)
   | (with_reducible exact spec_isIn.mono _ _ _)
   | (with_reducible exact spec_validRunning.mono _ _ _ _)
   | (with_reducible exact LeO.refl _)
   | (with_reducible exact LeO.none _)
   | (with_reducible refine LeO.ite ?_ ?_)
   | (with_reducible refine LeO.bind ?_ (fun _ => ?_))
   | exact ih0 _ _ _ _ _ _
   | exact ih1 _ _ _ _ _ _
   | exact spec_admit.mono _ _ _ _ _ _
   | exact spec_allIn.mono _ _ _ _
   | exact spec_isIn.mono _ _ _
   | exact spec_validRunning.mono _ _ _ _
   | exact LeO.none _
   | refine LeO.ite ?_ ?_
   | refine LeO.bind ?_ (fun _ => ?_)
  ·intro y0 y1 y2 y3 y4 y5
   unfold spec_AdmitTasks.l0
   repeat' first
   | (with_reducible exact ih0 _ _ _ _ _ _)
   | (with_reducible exact ih1 _ _ _ _ _ _)
   | (with_reducible exact spec_admit.mono _ _ _ _ _ _)
   | (with_reducible exact spec_allIn.mono _ _ _ _)
   | (with_reducible exact spec_isIn.mono _ _ _)
   | (with_reducible exact spec_validRunning.mono _ _ _ _)
   | (with_reducible exact LeO.refl _)
   | (with_reducible exact LeO.none _)
   | (with_reducible refine LeO.ite ?_ ?_)
   | (with_reducible refine LeO.bind ?_ (fun _ => ?_))
   | exact ih0 _ _ _ _ _ _
   | exact ih1 _ _ _ _ _ _
   | exact spec_admit.mono _ _ _ _ _ _
   | exact spec_allIn.mono _ _ _ _
   | exact spec_isIn.mono _ _ _
   | exact spec_validRunning.mono _ _ _ _
   | exact LeO.none _
   | refine LeO.ite ?_ ?_
   | refine LeO.bind ?_ (fun _ => ?_)
theorem spec_AdmitTasks.mono : ∀ a0 a1 a2 a3 a4 k, LeO (spec_AdmitTasks.f k a0 a1 a2 a3 a4) (spec_AdmitTasks.f (k + 1) a0 a1 a2 a3 a4) := by
 intro a0 a1 a2 a3 a4 k
 obtain ⟨ih0, ih1⟩ := spec_AdmitTasks.mono_l k
 unfold spec_AdmitTasks.f
 repeat' first
   | (with_reducible exact ih0 _ _ _ _ _ _)
   | (with_reducible exact ih1 _ _ _ _ _ _)
   | (with_reducible exact spec_admit.mono _ _ _ _ _ _)
   | (with_reducible exact spec_allIn.mono _ _ _ _)
   | (with_reducible exact spec_isIn.mono _ _ _)
   | (with_reducible exact spec_validRunning.mono _ _ _ _)
   | (with_reducible exact LeO.refl _)
   | (with_reducible exact LeO.none _)
   | (with_reducible refine LeO.ite ?_ ?_)
   | (with_reducible refine LeO.bind ?_ (fun _ => ?_))
   | exact ih0 _ _ _ _ _ _
   | exact ih1 _ _ _ _ _ _
   | exact spec_admit.mono _ _ _ _ _ _
   | exact spec_allIn.mono _ _ _ _
   | exact spec_isIn.mono _ _ _
   | exact spec_validRunning.mono _ _ _ _
   | exact LeO.none _
   | refine LeO.ite ?_ ?_
   | refine LeO.bind ?_ (fun _ => ?_)
set_option maxHeartbeats 8000000 in
set_option maxRecDepth 100000 in
theorem spec_AdmitTasks.calls (k : Nat) (A0 : Option Addr) (c0 : Nat) (l0 : List (S48)) (A1 : Option Addr) (c1 : Nat) (l1 : List Int) (A2 : Option Addr) (c2 : Nat) (l2 : List Int) (A3 : Option Addr) (c3 : Nat) (l3 : List Int) (a4 : Int) (r : List Int) (w : World) (hr0 : Kd.C k48 w A0 l0.length l0) (hc0 : l0.length ≤ c0) (hr1 : Kd.C (Kd.int .i64) w A1 l1.length l1) (hc1 : l1.length ≤ c1) (hr2 : Kd.C (Kd.int .i64) w A2 l2.length l2) (hc2 : l2.length ≤ c2) (hr3 : Kd.C (Kd.int .i64) w A3 l3.length l3) (hc3 : l3.length ≤ c3) (h : spec_AdmitTasks.f k l0 l1 l2 l3 a4 = some r) :
  Calls Tryd.prog 16 #[.slice A0 l0.length c0, .slice A1 l1.length c1, .slice A2 l2.length c2, .slice A3 l3.length c3, .int .i64 a4] w fun e w' => ∃ v0_ : Value, e = .returned (v0_) ∧ Kd.R (Kd.int .i64) 3 w' w.heap.size (fun _ => True) v0_ r ∧ Below w.heap.size w w' := by
 have HR0 := Aside0.mk hr0
 have HC0 := Aside0.mk hc0
 clear hr0 hc0
 have HR1 := Aside0.mk hr1
 have HC1 := Aside0.mk hc1
 clear hr1 hc1
 have HR2 := Aside0.mk hr2
 have HC2 := Aside0.mk hc2
 clear hr2 hc2
 have HR3 := Aside0.mk hr3
 have HC3 := Aside0.mk hc3
 clear hr3 hc3
 have HB := Aside0.mk (Below.refl w.heap.size w)
 have H : ((spec_validRunning.f k l0 l1 l2).bind fun t169 => (if t169 = true then ((spec_inRange.f a4 1 4).bind fun t170 => (if t170 = true then ((spec_allIn.f k l3 0 (wrap64 ((l0.length : Int) - 1))).bind fun t171 => (spec_AdmitTasks.j0 k l0 l1 l2 l3 a4 (!t171))) else (spec_AdmitTasks.j0 k l0 l1 l2 l3 a4 true))) else (spec_AdmitTasks.j0 k l0 l1 l2 l3 a4 true))) = some r := h
 clear h
 have HC6 := Aside0.mk H
 clear H
 go_enter Tryd.func16, Tryd.ntmps16
 go_upto_region 1 with (fail)
 repeat (go_quiet (fail); go_upto_region 1 with (fail))
 go_cut [29] (fun v29 wc => ∃ (kq : Nat) (x29_5 : Bool), v29 = .bool x29_5 ∧ Aside0 (spec_AdmitTasks.j0 kq l0 l1 l2 l3 a4 x29_5 = some r) ∧ Aside0 (kq ≤ k) ∧ Aside0 (Below w.heap.size w wc))
 case first =>
  have H := HC6.out
  clear HC6
  replace H := Option.bind_eq_some_iff.mp H
  obtain ⟨t169, A70, H⟩ := H
  replace H : (if t169 = true then ((spec_inRange.f a4 1 4).bind fun t170 => (if t170 = true then ((spec_allIn.f k l3 0 (wrap64 ((l0.length : Int) - 1))).bind fun t171 => (spec_AdmitTasks.j0 k l0 l1 l2 l3 a4 (!t171))) else (spec_AdmitTasks.j0 k l0 l1 l2 l3 a4 true))) else (spec_AdmitTasks.j0 k l0 l1 l2 l3 a4 true)) = some r := H
  have A7 := Aside0.mk A70
  clear A70
  by_cases c8 : t169 = true
  ·subst c8
   have H1 : ((spec_inRange.f a4 1 4).bind fun t170 => (if t170 = true then ((spec_allIn.f k l3 0 (wrap64 ((l0.length : Int) - 1))).bind fun t171 => (spec_AdmitTasks.j0 k l0 l1 l2 l3 a4 (!t171))) else (spec_AdmitTasks.j0 k l0 l1 l2 l3 a4 true))) = some r := by rw [if_pos rfl] at H; exact H
   clear H
   have H := H1
   clear H1
   replace H := Option.bind_eq_some_iff.mp H
   obtain ⟨t170, A90, H⟩ := H
   replace H : (if t170 = true then ((spec_allIn.f k l3 0 (wrap64 ((l0.length : Int) - 1))).bind fun t171 => (spec_AdmitTasks.j0 k l0 l1 l2 l3 a4 (!t171))) else (spec_AdmitTasks.j0 k l0 l1 l2 l3 a4 true)) = some r := H
   have A9 := Aside0.mk A90
   clear A90
   by_cases c10 : t170 = true
   ·subst c10
    have H1 : ((spec_allIn.f k l3 0 (wrap64 ((l0.length : Int) - 1))).bind fun t171 => (spec_AdmitTasks.j0 k l0 l1 l2 l3 a4 (!t171))) = some r := by rw [if_pos rfl] at H; exact H
    clear H
    have H := H1
    clear H1
    replace H := Option.bind_eq_some_iff.mp H
    obtain ⟨t171, A110, H⟩ := H
    replace H : (spec_AdmitTasks.j0 k l0 l1 l2 l3 a4 (!t171)) = some r := H
    have A11 := Aside0.mk A110
    clear A110
    have H' := Aside0.mk H
    clear H
    go_wp2_with (first | (go_at_call 53; (with_reducible refine (spec_validRunning.calls k _ _ l0 _ _ l1 _ _ l2 true _ ?side1 ?side2 ?side3 ?side4 ?side5 ?side6 A7.out).mono ?_); (case side1 => repeat (first | exact (Kd.C_below HR0.out HB.out) | (with_reducible refine Kd.C_alloc ?_ _) | (with_reducible refine Kd.C_drewN ?_ _) | (with_reducible refine Kd.C_drew ?_))); (case side2 => exact HC0.out); (case side3 => repeat (first | exact (Kd.C_below HR1.out HB.out) | (with_reducible refine Kd.C_alloc ?_ _) | (with_reducible refine Kd.C_drewN ?_ _) | (with_reducible refine Kd.C_drew ?_))); (case side4 => exact HC1.out); (case side5 => repeat (first | exact (Kd.C_below HR2.out HB.out) | (with_reducible refine Kd.C_alloc ?_ _) | (with_reducible refine Kd.C_drewN ?_ _) | (with_reducible refine Kd.C_drew ?_))); (case side6 => exact HC2.out); rintro e w12 ⟨rfl, hb⟩; have n0_ := Aside0.mk (below_step (by repeat (first | (with_reducible first | exact HB.out | apply below_alloc | apply pw_below_drewN | apply below_drew1) | exact HB.out)) hb); clear HB; have HB := n0_; clear n0_; (try clear hb); (try clear hb2); (try clear hk); (try clear hi)) | (go_at_call 54; (with_reducible refine (spec_inRange.calls a4 1 4 true _ A9.out).mono ?_); rintro e w' ⟨rfl, ⟨nd, rfl⟩⟩; (try first | exact ⟨rfl, _, World.drewN_drewN _ _ _⟩ | exact ⟨rfl, _, Eq.trans (World.drewN_drewN _ _ _) (congrArg (World.drewN _) (Nat.add_assoc _ _ _))⟩)) | (go_at_call 55; (with_reducible refine (spec_allIn.calls k _ _ l3 0 (wrap64 ((l0.length : Int) - 1)) t171 _ ?side1 ?side2 A11.out).mono ?_); (case side1 => repeat (first | exact (Kd.C_below HR3.out (by repeat (first | (with_reducible first | exact HB.out | apply below_alloc | apply pw_below_drewN | apply below_drew1) | exact HB.out))) | (with_reducible refine Kd.C_alloc ?_ _) | (with_reducible refine Kd.C_drewN ?_ _) | (with_reducible refine Kd.C_drew ?_))); (case side2 => exact HC3.out); rintro e w' ⟨rfl, ⟨nd, rfl⟩⟩; (try first | exact ⟨rfl, _, World.drewN_drewN _ _ _⟩ | exact ⟨rfl, _, Eq.trans (World.drewN_drewN _ _ _) (congrArg (World.drewN _) (Nat.add_assoc _ _ _))⟩)))
    repeat (go_quiet (first | (go_at_call 53; (with_reducible refine (spec_validRunning.calls k _ _ l0 _ _ l1 _ _ l2 true _ ?side1 ?side2 ?side3 ?side4 ?side5 ?side6 A7.out).mono ?_); (case side1 => repeat (first | exact (Kd.C_below HR0.out HB.out) | (with_reducible refine Kd.C_alloc ?_ _) | (with_reducible refine Kd.C_drewN ?_ _) | (with_reducible refine Kd.C_drew ?_))); (case side2 => exact HC0.out); (case side3 => repeat (first | exact (Kd.C_below HR1.out HB.out) | (with_reducible refine Kd.C_alloc ?_ _) | (with_reducible refine Kd.C_drewN ?_ _) | (with_reducible refine Kd.C_drew ?_))); (case side4 => exact HC1.out); (case side5 => repeat (first | exact (Kd.C_below HR2.out HB.out) | (with_reducible refine Kd.C_alloc ?_ _) | (with_reducible refine Kd.C_drewN ?_ _) | (with_reducible refine Kd.C_drew ?_))); (case side6 => exact HC2.out); rintro e w12 ⟨rfl, hb⟩; have n0_ := Aside0.mk (below_step (by repeat (first | (with_reducible first | exact HB.out | apply below_alloc | apply pw_below_drewN | apply below_drew1) | exact HB.out)) hb); clear HB; have HB := n0_; clear n0_; (try clear hb); (try clear hb2); (try clear hk); (try clear hi)) | (go_at_call 54; (with_reducible refine (spec_inRange.calls a4 1 4 true _ A9.out).mono ?_); rintro e w' ⟨rfl, ⟨nd, rfl⟩⟩; (try first | exact ⟨rfl, _, World.drewN_drewN _ _ _⟩ | exact ⟨rfl, _, Eq.trans (World.drewN_drewN _ _ _) (congrArg (World.drewN _) (Nat.add_assoc _ _ _))⟩)) | (go_at_call 55; (with_reducible refine (spec_allIn.calls k _ _ l3 0 (wrap64 ((l0.length : Int) - 1)) t171 _ ?side1 ?side2 A11.out).mono ?_); (case side1 => repeat (first | exact (Kd.C_below HR3.out (by repeat (first | (with_reducible first | exact HB.out | apply below_alloc | apply pw_below_drewN | apply below_drew1) | exact HB.out))) | (with_reducible refine Kd.C_alloc ?_ _) | (with_reducible refine Kd.C_drewN ?_ _) | (with_reducible refine Kd.C_drew ?_))); (case side2 => exact HC3.out); rintro e w' ⟨rfl, ⟨nd, rfl⟩⟩; (try first | exact ⟨rfl, _, World.drewN_drewN _ _ _⟩ | exact ⟨rfl, _, Eq.trans (World.drewN_drewN _ _ _) (congrArg (World.drewN _) (Nat.add_assoc _ _ _))⟩))); try go_wp2_with (first | (go_at_call 53; (with_reducible refine (spec_validRunning.calls k _ _ l0 _ _ l1 _ _ l2 true _ ?side1 ?side2 ?side3 ?side4 ?side5 ?side6 A7.out).mono ?_); (case side1 => repeat (first | exact (Kd.C_below HR0.out HB.out) | (with_reducible refine Kd.C_alloc ?_ _) | (with_reducible refine Kd.C_drewN ?_ _) | (with_reducible refine Kd.C_drew ?_))); (case side2 => exact HC0.out); (case side3 => repeat (first | exact (Kd.C_below HR1.out HB.out) | (with_reducible refine Kd.C_alloc ?_ _) | (with_reducible refine Kd.C_drewN ?_ _) | (with_reducible refine Kd.C_drew ?_))); (case side4 => exact HC1.out); (case side5 => repeat (first | exact (Kd.C_below HR2.out HB.out) | (with_reducible refine Kd.C_alloc ?_ _) | (with_reducible refine Kd.C_drewN ?_ _) | (with_reducible refine Kd.C_drew ?_))); (case side6 => exact HC2.out); rintro e w12 ⟨rfl, hb⟩; have n0_ := Aside0.mk (below_step (by repeat (first | (with_reducible first | exact HB.out | apply below_alloc | apply pw_below_drewN | apply below_drew1) | exact HB.out)) hb); clear HB; have HB := n0_; clear n0_; (try clear hb); (try clear hb2); (try clear hk); (try clear hi)) | (go_at_call 54; (with_reducible refine (spec_inRange.calls a4 1 4 true _ A9.out).mono ?_); rintro e w' ⟨rfl, ⟨nd, rfl⟩⟩; (try first | exact ⟨rfl, _, World.drewN_drewN _ _ _⟩ | exact ⟨rfl, _, Eq.trans (World.drewN_drewN _ _ _) (congrArg (World.drewN _) (Nat.add_assoc _ _ _))⟩)) | (go_at_call 55; (with_reducible refine (spec_allIn.calls k _ _ l3 0 (wrap64 ((l0.length : Int) - 1)) t171 _ ?side1 ?side2 A11.out).mono ?_); (case side1 => repeat (first | exact (Kd.C_below HR3.out (by repeat (first | (with_reducible first | exact HB.out | apply below_alloc | apply pw_below_drewN | apply below_drew1) | exact HB.out))) | (with_reducible refine Kd.C_alloc ?_ _) | (with_reducible refine Kd.C_drewN ?_ _) | (with_reducible refine Kd.C_drew ?_))); (case side2 => exact HC3.out); rintro e w' ⟨rfl, ⟨nd, rfl⟩⟩; (try first | exact ⟨rfl, _, World.drewN_drewN _ _ _⟩ | exact ⟨rfl, _, Eq.trans (World.drewN_drewN _ _ _) (congrArg (World.drewN _) (Nat.add_assoc _ _ _))⟩))))
    go_meet
    case rel => exact ⟨_, (!t171), (by first | rfl | (simp; done) | (simp [*]; done)), H', ⟨by first | omega | exact Nat.le_refl _⟩, ⟨by repeat (first | (with_reducible first | exact HB.out | apply below_alloc | apply pw_below_drewN | apply below_drew1) | exact HB.out)⟩⟩
   ·replace c10 := Bool.eq_false_iff.mpr c10
    subst c10
    have H1 : (spec_AdmitTasks.j0 k l0 l1 l2 l3 a4 true) = some r := by rw [if_neg (show ¬ (false = true) by decide)] at H; exact H
    clear H
    have H := H1
    clear H1
    have H' := Aside0.mk H
    clear H
    go_wp2_with (first | (go_at_call 53; (with_reducible refine (spec_validRunning.calls k _ _ l0 _ _ l1 _ _ l2 true _ ?side1 ?side2 ?side3 ?side4 ?side5 ?side6 A7.out).mono ?_); (case side1 => repeat (first | exact (Kd.C_below HR0.out HB.out) | (with_reducible refine Kd.C_alloc ?_ _) | (with_reducible refine Kd.C_drewN ?_ _) | (with_reducible refine Kd.C_drew ?_))); (case side2 => exact HC0.out); (case side3 => repeat (first | exact (Kd.C_below HR1.out HB.out) | (with_reducible refine Kd.C_alloc ?_ _) | (with_reducible refine Kd.C_drewN ?_ _) | (with_reducible refine Kd.C_drew ?_))); (case side4 => exact HC1.out); (case side5 => repeat (first | exact (Kd.C_below HR2.out HB.out) | (with_reducible refine Kd.C_alloc ?_ _) | (with_reducible refine Kd.C_drewN ?_ _) | (with_reducible refine Kd.C_drew ?_))); (case side6 => exact HC2.out); rintro e w13 ⟨rfl, hb⟩; have n0_ := Aside0.mk (below_step (by repeat (first | (with_reducible first | exact HB.out | apply below_alloc | apply pw_below_drewN | apply below_drew1) | exact HB.out)) hb); clear HB; have HB := n0_; clear n0_; (try clear hb); (try clear hb2); (try clear hk); (try clear hi)) | (go_at_call 54; (with_reducible refine (spec_inRange.calls a4 1 4 false _ A9.out).mono ?_); rintro e w' ⟨rfl, ⟨nd, rfl⟩⟩; (try first | exact ⟨rfl, _, World.drewN_drewN _ _ _⟩ | exact ⟨rfl, _, Eq.trans (World.drewN_drewN _ _ _) (congrArg (World.drewN _) (Nat.add_assoc _ _ _))⟩)))
    repeat (go_quiet (first | (go_at_call 53; (with_reducible refine (spec_validRunning.calls k _ _ l0 _ _ l1 _ _ l2 true _ ?side1 ?side2 ?side3 ?side4 ?side5 ?side6 A7.out).mono ?_); (case side1 => repeat (first | exact (Kd.C_below HR0.out HB.out) | (with_reducible refine Kd.C_alloc ?_ _) | (with_reducible refine Kd.C_drewN ?_ _) | (with_reducible refine Kd.C_drew ?_))); (case side2 => exact HC0.out); (case side3 => repeat (first | exact (Kd.C_below HR1.out HB.out) | (with_reducible refine Kd.C_alloc ?_ _) | (with_reducible refine Kd.C_drewN ?_ _) | (with_reducible refine Kd.C_drew ?_))); (case side4 => exact HC1.out); (case side5 => repeat (first | exact (Kd.C_below HR2.out HB.out) | (with_reducible refine Kd.C_alloc ?_ _) | (with_reducible refine Kd.C_drewN ?_ _) | (with_reducible refine Kd.C_drew ?_))); (case side6 => exact HC2.out); rintro e w13 ⟨rfl, hb⟩; have n0_ := Aside0.mk (below_step (by repeat (first | (with_reducible first | exact HB.out | apply below_alloc | apply pw_below_drewN | apply below_drew1) | exact HB.out)) hb); clear HB; have HB := n0_; clear n0_; (try clear hb); (try clear hb2); (try clear hk); (try clear hi)) | (go_at_call 54; (with_reducible refine (spec_inRange.calls a4 1 4 false _ A9.out).mono ?_); rintro e w' ⟨rfl, ⟨nd, rfl⟩⟩; (try first | exact ⟨rfl, _, World.drewN_drewN _ _ _⟩ | exact ⟨rfl, _, Eq.trans (World.drewN_drewN _ _ _) (congrArg (World.drewN _) (Nat.add_assoc _ _ _))⟩))); try go_wp2_with (first | (go_at_call 53; (with_reducible refine (spec_validRunning.calls k _ _ l0 _ _ l1 _ _ l2 true _ ?side1 ?side2 ?side3 ?side4 ?side5 ?side6 A7.out).mono ?_); (case side1 => repeat (first | exact (Kd.C_below HR0.out HB.out) | (with_reducible refine Kd.C_alloc ?_ _) | (with_reducible refine Kd.C_drewN ?_ _) | (with_reducible refine Kd.C_drew ?_))); (case side2 => exact HC0.out); (case side3 => repeat (first | exact (Kd.C_below HR1.out HB.out) | (with_reducible refine Kd.C_alloc ?_ _) | (with_reducible refine Kd.C_drewN ?_ _) | (with_reducible refine Kd.C_drew ?_))); (case side4 => exact HC1.out); (case side5 => repeat (first | exact (Kd.C_below HR2.out HB.out) | (with_reducible refine Kd.C_alloc ?_ _) | (with_reducible refine Kd.C_drewN ?_ _) | (with_reducible refine Kd.C_drew ?_))); (case side6 => exact HC2.out); rintro e w13 ⟨rfl, hb⟩; have n0_ := Aside0.mk (below_step (by repeat (first | (with_reducible first | exact HB.out | apply below_alloc | apply pw_below_drewN | apply below_drew1) | exact HB.out)) hb); clear HB; have HB := n0_; clear n0_; (try clear hb); (try clear hb2); (try clear hk); (try clear hi)) | (go_at_call 54; (with_reducible refine (spec_inRange.calls a4 1 4 false _ A9.out).mono ?_); rintro e w' ⟨rfl, ⟨nd, rfl⟩⟩; (try first | exact ⟨rfl, _, World.drewN_drewN _ _ _⟩ | exact ⟨rfl, _, Eq.trans (World.drewN_drewN _ _ _) (congrArg (World.drewN _) (Nat.add_assoc _ _ _))⟩))))
    go_meet
    case rel => exact ⟨_, (true), (by first | rfl | (simp; done) | (simp [*]; done)), H', ⟨by first | omega | exact Nat.le_refl _⟩, ⟨by repeat (first | (with_reducible first | exact HB.out | apply below_alloc | apply pw_below_drewN | apply below_drew1) | exact HB.out)⟩⟩
  ·replace c8 := Bool.eq_false_iff.mpr c8
   subst c8
   have H1 : (spec_AdmitTasks.j0 k l0 l1 l2 l3 a4 true) = some r := by rw [if_neg (show ¬ (false = true) by decide)] at H; exact H
   clear H
   have H := H1
   clear H1
   have H' := Aside0.mk H
   clear H
   go_wp2_with (first | (go_at_call 53; (with_reducible refine (spec_validRunning.calls k _ _ l0 _ _ l1 _ _ l2 false _ ?side1 ?side2 ?side3 ?side4 ?side5 ?side6 A7.out).mono ?_); (case side1 => repeat (first | exact (Kd.C_below HR0.out HB.out) | (with_reducible refine Kd.C_alloc ?_ _) | (with_reducible refine Kd.C_drewN ?_ _) | (with_reducible refine Kd.C_drew ?_))); (case side2 => exact HC0.out); (case side3 => repeat (first | exact (Kd.C_below HR1.out HB.out) | (with_reducible refine Kd.C_alloc ?_ _) | (with_reducible refine Kd.C_drewN ?_ _) | (with_reducible refine Kd.C_drew ?_))); (case side4 => exact HC1.out); (case side5 => repeat (first | exact (Kd.C_below HR2.out HB.out) | (with_reducible refine Kd.C_alloc ?_ _) | (with_reducible refine Kd.C_drewN ?_ _) | (with_reducible refine Kd.C_drew ?_))); (case side6 => exact HC2.out); rintro e w14 ⟨rfl, hb⟩; have n0_ := Aside0.mk (below_step (by repeat (first | (with_reducible first | exact HB.out | apply below_alloc | apply pw_below_drewN | apply below_drew1) | exact HB.out)) hb); clear HB; have HB := n0_; clear n0_; (try clear hb); (try clear hb2); (try clear hk); (try clear hi)))
   repeat (go_quiet (first | (go_at_call 53; (with_reducible refine (spec_validRunning.calls k _ _ l0 _ _ l1 _ _ l2 false _ ?side1 ?side2 ?side3 ?side4 ?side5 ?side6 A7.out).mono ?_); (case side1 => repeat (first | exact (Kd.C_below HR0.out HB.out) | (with_reducible refine Kd.C_alloc ?_ _) | (with_reducible refine Kd.C_drewN ?_ _) | (with_reducible refine Kd.C_drew ?_))); (case side2 => exact HC0.out); (case side3 => repeat (first | exact (Kd.C_below HR1.out HB.out) | (with_reducible refine Kd.C_alloc ?_ _) | (with_reducible refine Kd.C_drewN ?_ _) | (with_reducible refine Kd.C_drew ?_))); (case side4 => exact HC1.out); (case side5 => repeat (first | exact (Kd.C_below HR2.out HB.out) | (with_reducible refine Kd.C_alloc ?_ _) | (with_reducible refine Kd.C_drewN ?_ _) | (with_reducible refine Kd.C_drew ?_))); (case side6 => exact HC2.out); rintro e w14 ⟨rfl, hb⟩; have n0_ := Aside0.mk (below_step (by repeat (first | (with_reducible first | exact HB.out | apply below_alloc | apply pw_below_drewN | apply below_drew1) | exact HB.out)) hb); clear HB; have HB := n0_; clear n0_; (try clear hb); (try clear hb2); (try clear hk); (try clear hi))); try go_wp2_with (first | (go_at_call 53; (with_reducible refine (spec_validRunning.calls k _ _ l0 _ _ l1 _ _ l2 false _ ?side1 ?side2 ?side3 ?side4 ?side5 ?side6 A7.out).mono ?_); (case side1 => repeat (first | exact (Kd.C_below HR0.out HB.out) | (with_reducible refine Kd.C_alloc ?_ _) | (with_reducible refine Kd.C_drewN ?_ _) | (with_reducible refine Kd.C_drew ?_))); (case side2 => exact HC0.out); (case side3 => repeat (first | exact (Kd.C_below HR1.out HB.out) | (with_reducible refine Kd.C_alloc ?_ _) | (with_reducible refine Kd.C_drewN ?_ _) | (with_reducible refine Kd.C_drew ?_))); (case side4 => exact HC1.out); (case side5 => repeat (first | exact (Kd.C_below HR2.out HB.out) | (with_reducible refine Kd.C_alloc ?_ _) | (with_reducible refine Kd.C_drewN ?_ _) | (with_reducible refine Kd.C_drew ?_))); (case side6 => exact HC2.out); rintro e w14 ⟨rfl, hb⟩; have n0_ := Aside0.mk (below_step (by repeat (first | (with_reducible first | exact HB.out | apply below_alloc | apply pw_below_drewN | apply below_drew1) | exact HB.out)) hb); clear HB; have HB := n0_; clear n0_; (try clear hb); (try clear hb2); (try clear hk); (try clear hi))))
   go_meet
   case rel => exact ⟨_, (true), (by first | rfl | (simp; done) | (simp [*]; done)), H', ⟨by first | omega | exact Nat.le_refl _⟩, ⟨by repeat (first | (with_reducible first | exact HB.out | apply below_alloc | apply pw_below_drewN | apply below_drew1) | exact HB.out)⟩⟩
 case rest =>
  clear HC6
  try clear c1
  try clear c2
  try clear p2
  try clear c3
  try clear p6
  try clear c8
  try clear c10
  obtain ⟨kq, x29_5, rfl, HA, HJ5, HB⟩ := hcut
  cases kq with
  | zero => exact absurd HA.out (by simp [spec_AdmitTasks.j0])
  | succ kj5 =>
   have H := HA.out
   clear HA
   simp only [spec_AdmitTasks.j0] at H
   by_cases c15 : x29_5 = true
   ·subst c15
    have H1 : (some ([] : List Int)) = some r := by rw [if_pos rfl] at H; exact H
    clear H
    have H := H1
    clear H1
    obtain rfl := Option.some.inj H
    go_wp2
    repeat (go_quiet (fail); try go_wp2)
    go_ret
    exact ⟨_, by first | rfl | (simp [errW_none, errW_some] <;> rfl) | (simp [*, errW_none, errW_some] <;> rfl), by first | exact Kd.R_nil _ _ _ _ _ | exact Kd.N_nil _ _ _ _ _ | exact Kd.V_nil _ _ _ _ _ | exact Kd.Q_nil _ _ _ _ _ | exact Kd.S_nil _ _ _ _ _, by repeat (first | (with_reducible first | exact HB.out | apply below_alloc | apply pw_below_drewN | apply below_drew1) | exact HB.out)⟩
   ·replace c15 := Bool.eq_false_iff.mpr c15
    subst c15
    have H1 : (spec_AdmitTasks.l0 kj5 l0 l1 l2 l3 a4 0) = some r := by rw [if_neg (show ¬ (false = true) by decide)] at H; exact H
    clear H
    have H := H1
    clear H1
    have H' := Aside0.mk H
    clear H
    go_wp2
    repeat (go_quiet (fail); try go_wp2)
    go_loopg [11] kj5 (fun kq v11 w' => ∃ (x11_2 : Int), v11 = .int .i64 x11_2 ∧ Aside0 (spec_AdmitTasks.l0 kq l0 l1 l2 l3 a4 x11_2 = some r) ∧ Aside0 (kq ≤ kj5) ∧ Aside0 (Below w.heap.size w w'))
    case atStart => exact ⟨(0), (by first | rfl | (simp; done) | (simp [*]; done)), H', ⟨Nat.le_refl _⟩, ⟨by repeat (first | (with_reducible first | exact HB.out | apply below_alloc | apply pw_below_drewN | apply below_drew1) | exact HB.out)⟩⟩
    case round =>
     clear H'
     try clear c1
     try clear c2
     try clear p2
     try clear c3
     try clear p6
     try clear c8
     try clear c10
     try clear c15
     try clear p2
     try clear p6
     obtain ⟨x11_2, rfl, HA, HK2, HB⟩ := hrel
     cases gk with
     | zero => exact absurd HA.out (by simp [spec_AdmitTasks.l0])
     | succ k2 =>
      have H := HA.out
      clear HA
      simp only [spec_AdmitTasks.l0] at H
      by_cases c16 : x11_2 < (l3.length : Int)
      ·rw [if_pos c16] at H
       have c16b0 : decide (x11_2 < (l3.length : Int)) = true := decide_eq_true c16
       clear c16
       by_cases c17 : 0 ≤ x11_2
       ·rw [if_pos c17] at H
        have c17b0 : decide (0 ≤ x11_2) = true := decide_eq_true c17
        clear c17
        replace H := Option.bind_eq_some_iff.mp H
        obtain ⟨t176, A180, H⟩ := H
        replace H : (if t176 = true then (some ([] : List Int)) else (if x11_2 ≤ (l3.length : Int) then ((spec_isIn.f k2 (l3.take (x11_2 : Int).toNat) (rd l3 x11_2)).bind fun t179 => (if t179 = true then (some ([] : List Int)) else (spec_AdmitTasks.l0 k2 l0 l1 l2 l3 a4 (wrap64 (x11_2 + 1))))) else (none))) = some r := H
        have A18 := Aside0.mk A180
        clear A180
        by_cases c19 : t176 = true
        ·subst c19
         have H1 : (some ([] : List Int)) = some r := by rw [if_pos rfl] at H; exact H
         clear H
         have H := H1
         clear H1
         obtain rfl := Option.some.inj H
         have p175 : 0 ≤ (x11_2 : Int) := of_decide_eq_true (by first | (with_reducible assumption) | assumption)
         have q175 : x11_2 < (l3.length : Int) := of_decide_eq_true (by first | (with_reducible assumption) | assumption)
         obtain ⟨ad175, e175, hx175_0⟩ := Kd.at_int HR3.out x11_2 p175 q175
         cases e175
         (try replace hx175_0 := (HB.out.cell (World.block_lt_of_cell? w _ hx175_0)).trans hx175_0)
         replace p175 := eq_true p175
         replace q175 := eq_true q175
         go_wp2_with (first | (go_at_call 56; (with_reducible refine (spec_isIn.calls k2 _ _ l2 (rd l3 x11_2) true _ ?side1 ?side2 A18.out).mono ?_); (case side1 => repeat (first | exact (Kd.C_below HR2.out HB.out) | (with_reducible refine Kd.C_alloc ?_ _) | (with_reducible refine Kd.C_drewN ?_ _) | (with_reducible refine Kd.C_drew ?_))); (case side2 => exact HC2.out); rintro e w' ⟨rfl, ⟨nd, rfl⟩⟩; (try first | exact ⟨rfl, _, World.drewN_drewN _ _ _⟩ | exact ⟨rfl, _, Eq.trans (World.drewN_drewN _ _ _) (congrArg (World.drewN _) (Nat.add_assoc _ _ _))⟩)))
         repeat (go_quiet (first | (go_at_call 56; (with_reducible refine (spec_isIn.calls k2 _ _ l2 (rd l3 x11_2) true _ ?side1 ?side2 A18.out).mono ?_); (case side1 => repeat (first | exact (Kd.C_below HR2.out HB.out) | (with_reducible refine Kd.C_alloc ?_ _) | (with_reducible refine Kd.C_drewN ?_ _) | (with_reducible refine Kd.C_drew ?_))); (case side2 => exact HC2.out); rintro e w' ⟨rfl, ⟨nd, rfl⟩⟩; (try first | exact ⟨rfl, _, World.drewN_drewN _ _ _⟩ | exact ⟨rfl, _, Eq.trans (World.drewN_drewN _ _ _) (congrArg (World.drewN _) (Nat.add_assoc _ _ _))⟩))); try go_wp2_with (first | (go_at_call 56; (with_reducible refine (spec_isIn.calls k2 _ _ l2 (rd l3 x11_2) true _ ?side1 ?side2 A18.out).mono ?_); (case side1 => repeat (first | exact (Kd.C_below HR2.out HB.out) | (with_reducible refine Kd.C_alloc ?_ _) | (with_reducible refine Kd.C_drewN ?_ _) | (with_reducible refine Kd.C_drew ?_))); (case side2 => exact HC2.out); rintro e w' ⟨rfl, ⟨nd, rfl⟩⟩; (try first | exact ⟨rfl, _, World.drewN_drewN _ _ _⟩ | exact ⟨rfl, _, Eq.trans (World.drewN_drewN _ _ _) (congrArg (World.drewN _) (Nat.add_assoc _ _ _))⟩))))
         go_ret
         exact ⟨_, by first | rfl | (simp [errW_none, errW_some] <;> rfl) | (simp [*, errW_none, errW_some] <;> rfl), by first | exact Kd.R_nil _ _ _ _ _ | exact Kd.N_nil _ _ _ _ _ | exact Kd.V_nil _ _ _ _ _ | exact Kd.Q_nil _ _ _ _ _ | exact Kd.S_nil _ _ _ _ _, by repeat (first | (with_reducible first | exact HB.out | apply below_alloc | apply pw_below_drewN | apply below_drew1) | exact HB.out)⟩
        ·replace c19 := Bool.eq_false_iff.mpr c19
         subst c19
         have H1 : (if x11_2 ≤ (l3.length : Int) then ((spec_isIn.f k2 (l3.take (x11_2 : Int).toNat) (rd l3 x11_2)).bind fun t179 => (if t179 = true then (some ([] : List Int)) else (spec_AdmitTasks.l0 k2 l0 l1 l2 l3 a4 (wrap64 (x11_2 + 1))))) else (none)) = some r := by rw [if_neg (show ¬ (false = true) by decide)] at H; exact H
         clear H
         have H := H1
         clear H1
         have c20b0 := eq_true (of_decide_eq_true (by first | (with_reducible assumption) | assumption) : 0 ≤ x11_2)
         by_cases c21 : x11_2 ≤ (l3.length : Int)
         ·rw [if_pos c21] at H
          have c21b0 := eq_true c21
          have c21b1 : decide (x11_2 ≤ (l3.length : Int)) = true := decide_eq_true c21
          clear c21
          replace H := Option.bind_eq_some_iff.mp H
          obtain ⟨t179, A220, H⟩ := H
          replace H : (if t179 = true then (some ([] : List Int)) else (spec_AdmitTasks.l0 k2 l0 l1 l2 l3 a4 (wrap64 (x11_2 + 1)))) = some r := H
          have A22 := Aside0.mk A220
          clear A220
          by_cases c23 : t179 = true
          ·subst c23
           have H1 : (some ([] : List Int)) = some r := by rw [if_pos rfl] at H; exact H
           clear H
           have H := H1
           clear H1
           obtain rfl := Option.some.inj H
           have p175 : 0 ≤ (x11_2 : Int) := of_decide_eq_true (by first | (with_reducible assumption) | assumption)
           have q175 : x11_2 < (l3.length : Int) := of_decide_eq_true (by first | (with_reducible assumption) | assumption)
           obtain ⟨ad175, e175, hx175_0⟩ := Kd.at_int HR3.out x11_2 p175 q175
           cases e175
           (try replace hx175_0 := (HB.out.cell (World.block_lt_of_cell? w _ hx175_0)).trans hx175_0)
           replace p175 := eq_true p175
           replace q175 := eq_true q175
           go_wp2
           obtain ⟨i0_, hi0_, _, hsz_, _⟩ := info_parts info3
           obtain ⟨hcut_, hA_, hC_⟩ := print_take_of (P := Tryd.prog) (Value.int .i64) 0 23 3 .i64 Tryd.underlying23 hi0_ hsz_ (some ad175) c3 l3 x11_2 (of_decide_eq_true (by assumption)) (of_decide_eq_true (by assumption)) HC3.out
           have HRt_ := Aside0.mk (Kd.C_of_reads (h1 := fun _ => rfl) (hA_ _ (Kd.reads_of_C HR3.out)))
           have HCt_ := Aside0.mk hC_
           clear hA_ hC_ hi0_ hsz_
           refine start_ (n := 16) (S := fun w' => w'.cell? (ad175.add (x11_2).toNat) = some (.int .i64 (rd l3 x11_2))) (ds := []) #[F4q,F4q,F4q,F4q,F4q,F4q,F4q,F4q,F4q,F4q,F4q,F4q,F4q,F4q,F4q,F4q] rfl (by kernel_rfl) rfl ‹_› (fun hHeld => ?_)
           have HBd := Aside0.mk (below_drew1 HB.out)
           revert HBd hHeld
           generalize wr.drew = wd_
           intro hHeld HBd
           have HBw := HBd
           refine pure_ (i := 0) (N := some 36) (v := ?_) (a' := ?_) #[T4q,F4q,F4q,F4q,F4q,F4q,F4q,F4q,F4q,F4q,F4q,F4q,F4q,F4q,F4q,F4q] rfl rfl (by kernel_rfl) (fun _ _ _ h => h) (Or.inl ⟨by rfl, ?_⟩) ?_ ?_
           rotate_left
           ·intro w'
            go_simp
            with_reducible rfl
           rotate_left
           ·simp only [Act.put, List.setIfInBounds_toArray, List.set_cons_zero, List.set_cons_succ, i64_w, i32_w]
            rfl
           refine pure_ (i := 1) (N := some 37) (v := ?_) (a' := ?_) #[T4q,T4q,F4q,F4q,F4q,F4q,F4q,F4q,F4q,F4q,F4q,F4q,F4q,F4q,F4q,F4q] rfl rfl (by kernel_rfl) (fun _ _ _ h => h) (Or.inl ⟨by rfl, ?_⟩) ?_ ?_
           rotate_left
           ·intro w'
            go_simp
            with_reducible rfl
           rotate_left
           ·simp only [Act.put, List.setIfInBounds_toArray, List.set_cons_zero, List.set_cons_succ, i64_w, i32_w]
            rfl
           refine pure_ (i := 2) (N := some 38) (v := ?_) (a' := ?_) #[T4q,T4q,T4q,F4q,F4q,F4q,F4q,F4q,F4q,F4q,F4q,F4q,F4q,F4q,F4q,F4q] rfl rfl (by kernel_rfl) (fun _ _ _ h => h) (Or.inl ⟨by rfl, ?_⟩) ?_ ?_
           rotate_left
           ·intro w'
            go_simp
            with_reducible rfl
           rotate_left
           ·simp only [Act.put, List.setIfInBounds_toArray, List.set_cons_zero, List.set_cons_succ, i64_w, i32_w]
            rfl
           refine pure_ (i := 3) (N := some 39) (v := ?_) (a' := ?_) #[T4q,T4q,T4q,T4q,F4q,F4q,F4q,F4q,F4q,F4q,F4q,F4q,F4q,F4q,F4q,F4q] rfl rfl (by kernel_rfl) (fun _ _ _ h => h) (Or.inl ⟨by rfl, ?_⟩) ?_ ?_
           rotate_left
           ·intro w'
            go_simp
            with_reducible rfl
           rotate_left
           ·simp only [Act.put, List.setIfInBounds_toArray, List.set_cons_zero, List.set_cons_succ, i64_w, i32_w]
            rfl
           refine take_ (i := 4) (N := some 40) (v := ?_) (a' := ?_) #[T4q,T4q,T4q,T4q,T4q,F4q,F4q,F4q,F4q,F4q,F4q,F4q,F4q,F4q,F4q,F4q] rfl rfl (by kernel_rfl) (fun _ _ _ h => h) (Or.inl ⟨by rfl, ?_⟩) hHeld ?_ ?_
           rotate_left
           ·rintro w' s0
            go_simp
            with_reducible rfl
           rotate_left
           ·simp only [Act.put, List.setIfInBounds_toArray, List.set_cons_zero, List.set_cons_succ, i64_w, i32_w]
            rfl
           refine one_ (i := 5) (N := some 41) #[T4q,T4q,T4q,T4q,T4q,T4q,F4q,F4q,F4q,F4q,F4q,F4q,F4q,F4q,F4q,F4q] rfl rfl (by kernel_rfl) (by decide) (fun K hK => ?_)
           refine goes_ Tryd.func56 (by kernel_rfl) rfl #[.slice A2 l2.length c2, .int .i64 (rd l3 x11_2)] (by rfl) rfl rfl (by (try simp only [List.map_toArray, List.map_cons, List.map_nil]); rfl) ?_
           refine (spec_isIn.calls k2 _ _ l2 (rd l3 x11_2) false _ (Kd.C_below HR2.out HBd.out) HC2.out A18.out).mono ?_
           rintro e w' ⟨rfl, ⟨nd, rfl⟩⟩
           refine ⟨_, rfl, ?_⟩
           refine hK.out _ _ hHeld (fun hHeld => ?_)
           clear hK K
           refine norm_ (a' := ?_) ?_ ?_
           rotate_left
           ·show Act.put _ (some 41) _ = _
            simp only [Act.put, List.setIfInBounds_toArray, List.set_cons_zero, List.set_cons_succ, i64_w, i32_w]
            rfl
           replace HBd := Aside0.mk (pw_below_drewN HBd.out nd)
           refine pure_ (i := 6) (N := some 42) (v := ?_) (a' := ?_) #[T4q,T4q,T4q,T4q,T4q,T4q,T4q,F4q,F4q,F4q,F4q,F4q,F4q,F4q,F4q,F4q] rfl rfl (by kernel_rfl) (fun _ _ _ h => h) (Or.inl ⟨by rfl, ?_⟩) ?_ ?_
           rotate_left
           ·intro w'
            go_simp
            with_reducible rfl
           rotate_left
           ·simp only [Act.put, List.setIfInBounds_toArray, List.set_cons_zero, List.set_cons_succ, i64_w, i32_w]
            rfl
           refine pure_ (i := 7) (N := some 43) (v := ?_) (a' := ?_) #[T4q,T4q,T4q,T4q,T4q,T4q,T4q,T4q,F4q,F4q,F4q,F4q,F4q,F4q,F4q,F4q] rfl rfl (by kernel_rfl) (fun _ _ _ h => h) (Or.inl ⟨by rfl, ?_⟩) ?_ ?_
           rotate_left
           ·intro w'
            go_simp
            with_reducible rfl
           rotate_left
           ·simp only [Act.put, List.setIfInBounds_toArray, List.set_cons_zero, List.set_cons_succ, i64_w, i32_w]
            rfl
           refine pure_ (i := 8) (N := some 44) (v := ?_) (a' := ?_) #[T4q,T4q,T4q,T4q,T4q,T4q,T4q,T4q,T4q,F4q,F4q,F4q,F4q,F4q,F4q,F4q] rfl rfl (by kernel_rfl) (fun _ _ _ h => h) (Or.inl ⟨by rfl, ?_⟩) ?_ ?_
           rotate_left
           ·intro w'
            go_simp
            with_reducible rfl
           rotate_left
           ·simp only [Act.put, List.setIfInBounds_toArray, List.set_cons_zero, List.set_cons_succ, i64_w, i32_w]
            rfl
           refine pure_ (i := 9) (N := some 45) (v := ?_) (a' := ?_) #[T4q,T4q,T4q,T4q,T4q,T4q,T4q,T4q,T4q,T4q,F4q,F4q,F4q,F4q,F4q,F4q] rfl rfl (by kernel_rfl) (fun _ _ _ h => h) (Or.inl ⟨by rfl, ?_⟩) ?_ ?_
           rotate_left
           ·intro w'
            go_simp
            with_reducible rfl
           rotate_left
           ·simp only [Act.put, List.setIfInBounds_toArray, List.set_cons_zero, List.set_cons_succ, i64_w, i32_w]
            rfl
           refine pure_ (i := 10) (N := some 46) (v := ?_) (a' := ?_) #[T4q,T4q,T4q,T4q,T4q,T4q,T4q,T4q,T4q,T4q,T4q,F4q,F4q,F4q,F4q,F4q] rfl rfl (by kernel_rfl) (fun _ _ _ h => h) (Or.inl ⟨by rfl, ?_⟩) ?_ ?_
           rotate_left
           ·intro w'
            go_simp
            with_reducible rfl
           rotate_left
           ·simp only [Act.put, List.setIfInBounds_toArray, List.set_cons_zero, List.set_cons_succ, i64_w, i32_w]
            rfl
           refine pure_ (i := 11) (N := some 47) (v := ?_) (a' := ?_) #[T4q,T4q,T4q,T4q,T4q,T4q,T4q,T4q,T4q,T4q,T4q,T4q,F4q,F4q,F4q,F4q] rfl rfl (by kernel_rfl) (fun _ _ _ h => h) (Or.inl ⟨by rfl, ?_⟩) ?_ ?_
           rotate_left
           ·intro w'
            go_simp
            with_reducible rfl
           rotate_left
           ·simp only [Act.put, List.setIfInBounds_toArray, List.set_cons_zero, List.set_cons_succ, i64_w, i32_w]
            rfl
           refine pure_ (i := 12) (N := some 48) (v := ?_) (a' := ?_) #[T4q,T4q,T4q,T4q,T4q,T4q,T4q,T4q,T4q,T4q,T4q,T4q,T4q,F4q,F4q,F4q] rfl rfl (by kernel_rfl) (fun _ _ _ h => h) (Or.inl ⟨by rfl, ?_⟩) ?_ ?_
           rotate_left
           ·intro w'
            go_simp
            with_reducible rfl
           rotate_left
           ·simp only [Act.put, List.setIfInBounds_toArray, List.set_cons_zero, List.set_cons_succ, i64_w, i32_w]
            rfl
           refine take_ (i := 13) (N := some 49) (v := ?_) (a' := ?_) #[T4q,T4q,T4q,T4q,T4q,T4q,T4q,T4q,T4q,T4q,T4q,T4q,T4q,T4q,F4q,F4q] rfl rfl (by kernel_rfl) (fun _ _ _ h => h) (Or.inl ⟨by rfl, ?_⟩) hHeld ?_ ?_
           rotate_left
           ·rintro w' s0
            go_simp
            with_reducible rfl
           rotate_left
           ·simp only [Act.put, List.setIfInBounds_toArray, List.set_cons_zero, List.set_cons_succ, i64_w, i32_w]
            rfl
           have hc_ := spec_isIn.calls k2 _ _ (l3.take (x11_2).toNat) (rd l3 x11_2) true _ (Kd.C_below HRt_.out HBd.out) HCt_.out A22.out
           rw [show (l3.take (x11_2).toNat).length = (x11_2).toNat from by have h1_ : 0 ≤ x11_2 := of_decide_eq_true (by assumption); have h2_ : x11_2 ≤ (l3.length : Int) := of_decide_eq_true (by assumption); rw [List.length_take]; omega] at hc_
           refine one_ (i := 14) (N := some 50) #[T4q,T4q,T4q,T4q,T4q,T4q,T4q,T4q,T4q,T4q,T4q,T4q,T4q,T4q,T4q,F4q] rfl rfl (by kernel_rfl) (by decide) (fun K hK => ?_)
           refine goes_ Tryd.func56 (by kernel_rfl) rfl #[.slice (some ad175) (x11_2).toNat c3, .int .i64 (rd l3 x11_2)] (by rfl) rfl rfl (by (try simp only [List.map_toArray, List.map_cons, List.map_nil]); rfl) ?_
           refine (hc_).mono ?_
           rintro e w' ⟨rfl, ⟨nd, rfl⟩⟩
           refine ⟨_, rfl, ?_⟩
           refine hK.out _ _ hHeld (fun hHeld => ?_)
           clear hK K
           refine norm_ (a' := ?_) ?_ ?_
           rotate_left
           ·show Act.put _ (some 50) _ = _
            simp only [Act.put, List.setIfInBounds_toArray, List.set_cons_zero, List.set_cons_succ, i64_w, i32_w]
            rfl
           replace HBd := Aside0.mk (pw_below_drewN HBd.out nd)
           refine pure_ (i := 15) (N := some 51) (v := ?_) (a' := ?_) #[T4q,T4q,T4q,T4q,T4q,T4q,T4q,T4q,T4q,T4q,T4q,T4q,T4q,T4q,T4q,T4q] rfl rfl (by kernel_rfl) (fun _ _ _ h => h) (Or.inl ⟨by rfl, ?_⟩) ?_ ?_
           rotate_left
           ·intro w'
            go_simp
            with_reducible rfl
           rotate_left
           ·simp only [Act.put, List.setIfInBounds_toArray, List.set_cons_zero, List.set_cons_succ, i64_w, i32_w]
            rfl
           refine done_ (by kernel_rfl) ?_
           clear HB hHeld HBd
           have HB := HBw
           clear HBw
           go_wp2
           go_ret
           exact ⟨_, by first | rfl | (simp [errW_none, errW_some] <;> rfl) | (simp [*, errW_none, errW_some] <;> rfl), by first | exact Kd.R_nil _ _ _ _ _ | exact Kd.N_nil _ _ _ _ _ | exact Kd.V_nil _ _ _ _ _ | exact Kd.Q_nil _ _ _ _ _ | exact Kd.S_nil _ _ _ _ _, by repeat (first | (with_reducible first | exact HB.out | apply below_alloc | apply pw_below_drewN | apply below_drew1) | exact HB.out)⟩
          ·replace c23 := Bool.eq_false_iff.mpr c23
           subst c23
           have H1 : (spec_AdmitTasks.l0 k2 l0 l1 l2 l3 a4 (wrap64 (x11_2 + 1))) = some r := by rw [if_neg (show ¬ (false = true) by decide)] at H; exact H
           clear H
           have H := H1
           clear H1
           have H' := Aside0.mk H
           clear H
           have p175 : 0 ≤ (x11_2 : Int) := of_decide_eq_true (by first | (with_reducible assumption) | assumption)
           have q175 : x11_2 < (l3.length : Int) := of_decide_eq_true (by first | (with_reducible assumption) | assumption)
           obtain ⟨ad175, e175, hx175_0⟩ := Kd.at_int HR3.out x11_2 p175 q175
           cases e175
           (try replace hx175_0 := (HB.out.cell (World.block_lt_of_cell? w _ hx175_0)).trans hx175_0)
           replace p175 := eq_true p175
           replace q175 := eq_true q175
           go_wp2
           obtain ⟨i0_, hi0_, _, hsz_, _⟩ := info_parts info3
           obtain ⟨hcut_, hA_, hC_⟩ := print_take_of (P := Tryd.prog) (Value.int .i64) 0 23 3 .i64 Tryd.underlying23 hi0_ hsz_ (some ad175) c3 l3 x11_2 (of_decide_eq_true (by assumption)) (of_decide_eq_true (by assumption)) HC3.out
           have HRt_ := Aside0.mk (Kd.C_of_reads (h1 := fun _ => rfl) (hA_ _ (Kd.reads_of_C HR3.out)))
           have HCt_ := Aside0.mk hC_
           clear hA_ hC_ hi0_ hsz_
           refine start_ (n := 16) (S := fun w' => w'.cell? (ad175.add (x11_2).toNat) = some (.int .i64 (rd l3 x11_2))) (ds := []) #[F4q,F4q,F4q,F4q,F4q,F4q,F4q,F4q,F4q,F4q,F4q,F4q,F4q,F4q,F4q,F4q] rfl (by kernel_rfl) rfl ‹_› (fun hHeld => ?_)
           have HBd := Aside0.mk (below_drew1 HB.out)
           revert HBd hHeld
           generalize wr.drew = wd_
           intro hHeld HBd
           have HBw := HBd
           refine pure_ (i := 0) (N := some 36) (v := ?_) (a' := ?_) #[T4q,F4q,F4q,F4q,F4q,F4q,F4q,F4q,F4q,F4q,F4q,F4q,F4q,F4q,F4q,F4q] rfl rfl (by kernel_rfl) (fun _ _ _ h => h) (Or.inl ⟨by rfl, ?_⟩) ?_ ?_
           rotate_left
           ·intro w'
            go_simp
            with_reducible rfl
           rotate_left
           ·simp only [Act.put, List.setIfInBounds_toArray, List.set_cons_zero, List.set_cons_succ, i64_w, i32_w]
            rfl
           refine pure_ (i := 1) (N := some 37) (v := ?_) (a' := ?_) #[T4q,T4q,F4q,F4q,F4q,F4q,F4q,F4q,F4q,F4q,F4q,F4q,F4q,F4q,F4q,F4q] rfl rfl (by kernel_rfl) (fun _ _ _ h => h) (Or.inl ⟨by rfl, ?_⟩) ?_ ?_
           rotate_left
           ·intro w'
            go_simp
            with_reducible rfl
           rotate_left
           ·simp only [Act.put, List.setIfInBounds_toArray, List.set_cons_zero, List.set_cons_succ, i64_w, i32_w]
            rfl
           refine pure_ (i := 2) (N := some 38) (v := ?_) (a' := ?_) #[T4q,T4q,T4q,F4q,F4q,F4q,F4q,F4q,F4q,F4q,F4q,F4q,F4q,F4q,F4q,F4q] rfl rfl (by kernel_rfl) (fun _ _ _ h => h) (Or.inl ⟨by rfl, ?_⟩) ?_ ?_
           rotate_left
           ·intro w'
            go_simp
            with_reducible rfl
           rotate_left
           ·simp only [Act.put, List.setIfInBounds_toArray, List.set_cons_zero, List.set_cons_succ, i64_w, i32_w]
            rfl
           refine pure_ (i := 3) (N := some 39) (v := ?_) (a' := ?_) #[T4q,T4q,T4q,T4q,F4q,F4q,F4q,F4q,F4q,F4q,F4q,F4q,F4q,F4q,F4q,F4q] rfl rfl (by kernel_rfl) (fun _ _ _ h => h) (Or.inl ⟨by rfl, ?_⟩) ?_ ?_
           rotate_left
           ·intro w'
            go_simp
            with_reducible rfl
           rotate_left
           ·simp only [Act.put, List.setIfInBounds_toArray, List.set_cons_zero, List.set_cons_succ, i64_w, i32_w]
            rfl
           refine take_ (i := 4) (N := some 40) (v := ?_) (a' := ?_) #[T4q,T4q,T4q,T4q,T4q,F4q,F4q,F4q,F4q,F4q,F4q,F4q,F4q,F4q,F4q,F4q] rfl rfl (by kernel_rfl) (fun _ _ _ h => h) (Or.inl ⟨by rfl, ?_⟩) hHeld ?_ ?_
           rotate_left
           ·rintro w' s0
            go_simp
            with_reducible rfl
           rotate_left
           ·simp only [Act.put, List.setIfInBounds_toArray, List.set_cons_zero, List.set_cons_succ, i64_w, i32_w]
            rfl
           refine one_ (i := 5) (N := some 41) #[T4q,T4q,T4q,T4q,T4q,T4q,F4q,F4q,F4q,F4q,F4q,F4q,F4q,F4q,F4q,F4q] rfl rfl (by kernel_rfl) (by decide) (fun K hK => ?_)
           refine goes_ Tryd.func56 (by kernel_rfl) rfl #[.slice A2 l2.length c2, .int .i64 (rd l3 x11_2)] (by rfl) rfl rfl (by (try simp only [List.map_toArray, List.map_cons, List.map_nil]); rfl) ?_
           refine (spec_isIn.calls k2 _ _ l2 (rd l3 x11_2) false _ (Kd.C_below HR2.out HBd.out) HC2.out A18.out).mono ?_
           rintro e w' ⟨rfl, ⟨nd, rfl⟩⟩
           refine ⟨_, rfl, ?_⟩
           refine hK.out _ _ hHeld (fun hHeld => ?_)
           clear hK K
           refine norm_ (a' := ?_) ?_ ?_
           rotate_left
           ·show Act.put _ (some 41) _ = _
            simp only [Act.put, List.setIfInBounds_toArray, List.set_cons_zero, List.set_cons_succ, i64_w, i32_w]
            rfl
           replace HBd := Aside0.mk (pw_below_drewN HBd.out nd)
           refine pure_ (i := 6) (N := some 42) (v := ?_) (a' := ?_) #[T4q,T4q,T4q,T4q,T4q,T4q,T4q,F4q,F4q,F4q,F4q,F4q,F4q,F4q,F4q,F4q] rfl rfl (by kernel_rfl) (fun _ _ _ h => h) (Or.inl ⟨by rfl, ?_⟩) ?_ ?_
           rotate_left
           ·intro w'
            go_simp
            with_reducible rfl
           rotate_left
           ·simp only [Act.put, List.setIfInBounds_toArray, List.set_cons_zero, List.set_cons_succ, i64_w, i32_w]
            rfl
           refine pure_ (i := 7) (N := some 43) (v := ?_) (a' := ?_) #[T4q,T4q,T4q,T4q,T4q,T4q,T4q,T4q,F4q,F4q,F4q,F4q,F4q,F4q,F4q,F4q] rfl rfl (by kernel_rfl) (fun _ _ _ h => h) (Or.inl ⟨by rfl, ?_⟩) ?_ ?_
           rotate_left
           ·intro w'
            go_simp
            with_reducible rfl
           rotate_left
           ·simp only [Act.put, List.setIfInBounds_toArray, List.set_cons_zero, List.set_cons_succ, i64_w, i32_w]
            rfl
           refine pure_ (i := 8) (N := some 44) (v := ?_) (a' := ?_) #[T4q,T4q,T4q,T4q,T4q,T4q,T4q,T4q,T4q,F4q,F4q,F4q,F4q,F4q,F4q,F4q] rfl rfl (by kernel_rfl) (fun _ _ _ h => h) (Or.inl ⟨by rfl, ?_⟩) ?_ ?_
           rotate_left
           ·intro w'
            go_simp
            with_reducible rfl
           rotate_left
           ·simp only [Act.put, List.setIfInBounds_toArray, List.set_cons_zero, List.set_cons_succ, i64_w, i32_w]
            rfl
           refine pure_ (i := 9) (N := some 45) (v := ?_) (a' := ?_) #[T4q,T4q,T4q,T4q,T4q,T4q,T4q,T4q,T4q,T4q,F4q,F4q,F4q,F4q,F4q,F4q] rfl rfl (by kernel_rfl) (fun _ _ _ h => h) (Or.inl ⟨by rfl, ?_⟩) ?_ ?_
           rotate_left
           ·intro w'
            go_simp
            with_reducible rfl
           rotate_left
           ·simp only [Act.put, List.setIfInBounds_toArray, List.set_cons_zero, List.set_cons_succ, i64_w, i32_w]
            rfl
           refine pure_ (i := 10) (N := some 46) (v := ?_) (a' := ?_) #[T4q,T4q,T4q,T4q,T4q,T4q,T4q,T4q,T4q,T4q,T4q,F4q,F4q,F4q,F4q,F4q] rfl rfl (by kernel_rfl) (fun _ _ _ h => h) (Or.inl ⟨by rfl, ?_⟩) ?_ ?_
           rotate_left
           ·intro w'
            go_simp
            with_reducible rfl
           rotate_left
           ·simp only [Act.put, List.setIfInBounds_toArray, List.set_cons_zero, List.set_cons_succ, i64_w, i32_w]
            rfl
           refine pure_ (i := 11) (N := some 47) (v := ?_) (a' := ?_) #[T4q,T4q,T4q,T4q,T4q,T4q,T4q,T4q,T4q,T4q,T4q,T4q,F4q,F4q,F4q,F4q] rfl rfl (by kernel_rfl) (fun _ _ _ h => h) (Or.inl ⟨by rfl, ?_⟩) ?_ ?_
           rotate_left
           ·intro w'
            go_simp
            with_reducible rfl
           rotate_left
           ·simp only [Act.put, List.setIfInBounds_toArray, List.set_cons_zero, List.set_cons_succ, i64_w, i32_w]
            rfl
           refine pure_ (i := 12) (N := some 48) (v := ?_) (a' := ?_) #[T4q,T4q,T4q,T4q,T4q,T4q,T4q,T4q,T4q,T4q,T4q,T4q,T4q,F4q,F4q,F4q] rfl rfl (by kernel_rfl) (fun _ _ _ h => h) (Or.inl ⟨by rfl, ?_⟩) ?_ ?_
           rotate_left
           ·intro w'
            go_simp
            with_reducible rfl
           rotate_left
           ·simp only [Act.put, List.setIfInBounds_toArray, List.set_cons_zero, List.set_cons_succ, i64_w, i32_w]
            rfl
           refine take_ (i := 13) (N := some 49) (v := ?_) (a' := ?_) #[T4q,T4q,T4q,T4q,T4q,T4q,T4q,T4q,T4q,T4q,T4q,T4q,T4q,T4q,F4q,F4q] rfl rfl (by kernel_rfl) (fun _ _ _ h => h) (Or.inl ⟨by rfl, ?_⟩) hHeld ?_ ?_
           rotate_left
           ·rintro w' s0
            go_simp
            with_reducible rfl
           rotate_left
           ·simp only [Act.put, List.setIfInBounds_toArray, List.set_cons_zero, List.set_cons_succ, i64_w, i32_w]
            rfl
           have hc_ := spec_isIn.calls k2 _ _ (l3.take (x11_2).toNat) (rd l3 x11_2) false _ (Kd.C_below HRt_.out HBd.out) HCt_.out A22.out
           rw [show (l3.take (x11_2).toNat).length = (x11_2).toNat from by have h1_ : 0 ≤ x11_2 := of_decide_eq_true (by assumption); have h2_ : x11_2 ≤ (l3.length : Int) := of_decide_eq_true (by assumption); rw [List.length_take]; omega] at hc_
           refine one_ (i := 14) (N := some 50) #[T4q,T4q,T4q,T4q,T4q,T4q,T4q,T4q,T4q,T4q,T4q,T4q,T4q,T4q,T4q,F4q] rfl rfl (by kernel_rfl) (by decide) (fun K hK => ?_)
           refine goes_ Tryd.func56 (by kernel_rfl) rfl #[.slice (some ad175) (x11_2).toNat c3, .int .i64 (rd l3 x11_2)] (by rfl) rfl rfl (by (try simp only [List.map_toArray, List.map_cons, List.map_nil]); rfl) ?_
           refine (hc_).mono ?_
           rintro e w' ⟨rfl, ⟨nd, rfl⟩⟩
           refine ⟨_, rfl, ?_⟩
           refine hK.out _ _ hHeld (fun hHeld => ?_)
           clear hK K
           refine norm_ (a' := ?_) ?_ ?_
           rotate_left
           ·show Act.put _ (some 50) _ = _
            simp only [Act.put, List.setIfInBounds_toArray, List.set_cons_zero, List.set_cons_succ, i64_w, i32_w]
            rfl
           replace HBd := Aside0.mk (pw_below_drewN HBd.out nd)
           refine pure_ (i := 15) (N := some 51) (v := ?_) (a' := ?_) #[T4q,T4q,T4q,T4q,T4q,T4q,T4q,T4q,T4q,T4q,T4q,T4q,T4q,T4q,T4q,T4q] rfl rfl (by kernel_rfl) (fun _ _ _ h => h) (Or.inl ⟨by rfl, ?_⟩) ?_ ?_
           rotate_left
           ·intro w'
            go_simp
            with_reducible rfl
           rotate_left
           ·simp only [Act.put, List.setIfInBounds_toArray, List.set_cons_zero, List.set_cons_succ, i64_w, i32_w]
            rfl
           refine done_ (by kernel_rfl) ?_
           clear HB hHeld HBd
           have HB := HBw
           clear HBw
           go_wp2
           go_roundg k2
           case measure => have := HJ5.out; have := HK2.out; omega
           case rel => exact ⟨(wrap64 (x11_2 + 1)), (by first | rfl | (simp; done) | (simp [*]; done)), H', ⟨by have := HJ5.out; have := HK2.out; omega⟩, ⟨by repeat (first | (with_reducible first | exact HB.out | apply below_alloc | apply pw_below_drewN | apply below_drew1) | exact HB.out)⟩⟩
         ·rw [if_neg c21] at H
          exact absurd H (by simp)
       ·rw [if_neg c17] at H
        exact absurd H (by simp)
      ·rw [if_neg c16] at H
       have c16b0 : decide (x11_2 < (l3.length : Int)) = false := decide_eq_false c16
       clear c16
       replace H := Option.bind_eq_some_iff.mp H
       obtain ⟨t172, A260, H⟩ := H
       replace H : (some t172) = some r := H
       have A26 := Aside0.mk A260
       clear A260
       obtain rfl := Option.some.inj H
       go_wp2_with (first | (go_at_call 57; (with_reducible refine (spec_admit.calls k2 _ _ l0 _ _ l1 _ _ l2 _ _ l3 a4 t172 _ ?side1 ?side2 ?side3 ?side4 ?side5 ?side6 ?side7 ?side8 A26.out).mono ?_); (case side1 => repeat (first | exact (Kd.C_below HR0.out HB.out) | (with_reducible refine Kd.C_alloc ?_ _) | (with_reducible refine Kd.C_drewN ?_ _) | (with_reducible refine Kd.C_drew ?_))); (case side2 => exact HC0.out); (case side3 => repeat (first | exact (Kd.C_below HR1.out HB.out) | (with_reducible refine Kd.C_alloc ?_ _) | (with_reducible refine Kd.C_drewN ?_ _) | (with_reducible refine Kd.C_drew ?_))); (case side4 => exact HC1.out); (case side5 => repeat (first | exact (Kd.C_below HR2.out HB.out) | (with_reducible refine Kd.C_alloc ?_ _) | (with_reducible refine Kd.C_drewN ?_ _) | (with_reducible refine Kd.C_drew ?_))); (case side6 => exact HC2.out); (case side7 => repeat (first | exact (Kd.C_below HR3.out HB.out) | (with_reducible refine Kd.C_alloc ?_ _) | (with_reducible refine Kd.C_drewN ?_ _) | (with_reducible refine Kd.C_drew ?_))); (case side8 => exact HC3.out); rintro e w27 ⟨v173, rfl, ho0, hb⟩; have n0_ := Aside0.mk (Kd.R_lower ho0 (below_size (by repeat (first | (with_reducible first | exact HB.out | apply below_alloc | apply pw_below_drewN | apply below_drew1) | exact HB.out)))); have n1_ := Aside0.mk (below_step (by repeat (first | (with_reducible first | exact HB.out | apply below_alloc | apply pw_below_drewN | apply below_drew1) | exact HB.out)) hb); clear HB; have HO174 := n0_; have HB := n1_; clear n0_ n1_; (try clear hb); (try clear hb2); (try clear hk); (try clear hi); (try clear ho0)))
       repeat (go_quiet (first | (go_at_call 57; (with_reducible refine (spec_admit.calls k2 _ _ l0 _ _ l1 _ _ l2 _ _ l3 a4 t172 _ ?side1 ?side2 ?side3 ?side4 ?side5 ?side6 ?side7 ?side8 A26.out).mono ?_); (case side1 => repeat (first | exact (Kd.C_below HR0.out HB.out) | (with_reducible refine Kd.C_alloc ?_ _) | (with_reducible refine Kd.C_drewN ?_ _) | (with_reducible refine Kd.C_drew ?_))); (case side2 => exact HC0.out); (case side3 => repeat (first | exact (Kd.C_below HR1.out HB.out) | (with_reducible refine Kd.C_alloc ?_ _) | (with_reducible refine Kd.C_drewN ?_ _) | (with_reducible refine Kd.C_drew ?_))); (case side4 => exact HC1.out); (case side5 => repeat (first | exact (Kd.C_below HR2.out HB.out) | (with_reducible refine Kd.C_alloc ?_ _) | (with_reducible refine Kd.C_drewN ?_ _) | (with_reducible refine Kd.C_drew ?_))); (case side6 => exact HC2.out); (case side7 => repeat (first | exact (Kd.C_below HR3.out HB.out) | (with_reducible refine Kd.C_alloc ?_ _) | (with_reducible refine Kd.C_drewN ?_ _) | (with_reducible refine Kd.C_drew ?_))); (case side8 => exact HC3.out); rintro e w27 ⟨v173, rfl, ho0, hb⟩; have n0_ := Aside0.mk (Kd.R_lower ho0 (below_size (by repeat (first | (with_reducible first | exact HB.out | apply below_alloc | apply pw_below_drewN | apply below_drew1) | exact HB.out)))); have n1_ := Aside0.mk (below_step (by repeat (first | (with_reducible first | exact HB.out | apply below_alloc | apply pw_below_drewN | apply below_drew1) | exact HB.out)) hb); clear HB; have HO174 := n0_; have HB := n1_; clear n0_ n1_; (try clear hb); (try clear hb2); (try clear hk); (try clear hi); (try clear ho0))); try go_wp2_with (first | (go_at_call 57; (with_reducible refine (spec_admit.calls k2 _ _ l0 _ _ l1 _ _ l2 _ _ l3 a4 t172 _ ?side1 ?side2 ?side3 ?side4 ?side5 ?side6 ?side7 ?side8 A26.out).mono ?_); (case side1 => repeat (first | exact (Kd.C_below HR0.out HB.out) | (with_reducible refine Kd.C_alloc ?_ _) | (with_reducible refine Kd.C_drewN ?_ _) | (with_reducible refine Kd.C_drew ?_))); (case side2 => exact HC0.out); (case side3 => repeat (first | exact (Kd.C_below HR1.out HB.out) | (with_reducible refine Kd.C_alloc ?_ _) | (with_reducible refine Kd.C_drewN ?_ _) | (with_reducible refine Kd.C_drew ?_))); (case side4 => exact HC1.out); (case side5 => repeat (first | exact (Kd.C_below HR2.out HB.out) | (with_reducible refine Kd.C_alloc ?_ _) | (with_reducible refine Kd.C_drewN ?_ _) | (with_reducible refine Kd.C_drew ?_))); (case side6 => exact HC2.out); (case side7 => repeat (first | exact (Kd.C_below HR3.out HB.out) | (with_reducible refine Kd.C_alloc ?_ _) | (with_reducible refine Kd.C_drewN ?_ _) | (with_reducible refine Kd.C_drew ?_))); (case side8 => exact HC3.out); rintro e w27 ⟨v173, rfl, ho0, hb⟩; have n0_ := Aside0.mk (Kd.R_lower ho0 (below_size (by repeat (first | (with_reducible first | exact HB.out | apply below_alloc | apply pw_below_drewN | apply below_drew1) | exact HB.out)))); have n1_ := Aside0.mk (below_step (by repeat (first | (with_reducible first | exact HB.out | apply below_alloc | apply pw_below_drewN | apply below_drew1) | exact HB.out)) hb); clear HB; have HO174 := n0_; have HB := n1_; clear n0_ n1_; (try clear hb); (try clear hb2); (try clear hk); (try clear hi); (try clear ho0))))
       go_ret
       exact ⟨_, by first | rfl | (simp [errW_none, errW_some] <;> rfl) | (simp [*, errW_none, errW_some] <;> rfl), by (with_reducible repeat (first | apply Kd.R_alloc | apply Kd.R_drewN | apply Kd.R_drew)); exact HO174.out, by repeat (first | (with_reducible first | exact HB.out | apply below_alloc | apply pw_below_drewN | apply below_drew1) | exact HB.out)⟩
end Go.Proofs.YtpibdjkajgfgjaaDoor.P
end
section
set_option linter.unusedVariables false
set_option linter.unusedSimpArgs false
namespace Go.Proofs.YtpibdjkajgfgjaaDoor.Core
open Go Go.RowKit Go.Proofs.YtpibdjkajgfgjaaDoorW.PrintWords Go.Proofs.YtpibdjkajgfgjaaDoorW.PrintLast Go.Proofs.YtpibdjkajgfgjaaDoorW.PrintMore Go.Proofs.YtpibdjkajgfgjaaDoor.P
/-- No block changes its kind or its size. -/
def Shape (w w' : World) : Prop := ∀ (k : Nat) (cur : Array Value) (t : TypeId), w.heap[k]? = some (.cells cur t (0, 0)) → ∃ cur', w'.heap[k]? = some (.cells cur' t (0, 0)) ∧ cur'.size = cur.size
theorem Shape.refl (w : World) : Shape w w := fun _ cur _ h => ⟨cur, h, rfl⟩
theorem Shape.trans {a b c : World} (h : Shape a b) (g : Shape b c) : Shape a c := fun k cur t hk => by
 obtain ⟨c1, h1, e1⟩ := h k cur t hk
 obtain ⟨c2, h2, e2⟩ := g k c1 t h1
 exact ⟨c2, h2, e2.trans e1⟩
theorem Shape.set {a w : World} (h : Shape a w) (g o : Nat) (u : Value) : Shape a (w.setCell ⟨g, o, none⟩ u) := h.trans fun k cur t hk => by
 by_cases e : k = g
 ·subst e
  exact ⟨_, blk_set hk o u, by simp⟩
 ·exact ⟨cur, by rw [Below.heap_setCell w _ u k e]; exact hk, rfl⟩
/-- A row of whatever whole numbers, from block B on. -/
def IRow (w : World) (B : Nat) (v : Value) (n : Nat) : Prop := ∃ A c, v = .slice A n c ∧ n ≤ maxLen ∧ (n = 0 ∨ ∃ g off cur e, A = some ⟨g, off, none⟩ ∧ B ≤ g ∧ w.heap[g]? = some (.cells cur e (0, 0)) ∧ off + n ≤ cur.size)
theorem IRow.mv {w w' : World} {B n : Nat} {v : Value} (h : IRow w B v n) (hs : Shape w w') : IRow w' B v n := by
 obtain ⟨A, c, hv, hn, h⟩ := h
 refine ⟨A, c, hv, hn, h.imp_right ?_⟩
 rintro ⟨g, off, cur, e, hA, hB, hg, hl⟩
 obtain ⟨cur', h1, h2⟩ := hs g cur e hg
 exact ⟨g, off, cur', e, hA, hB, h1, by omega⟩
/-- One more at each of n cells. -/
def upI : Nat → Int → Int
 | 0, a => a
 | n + 1, a => wrap64 (upI n a + 1)
/-- What a mark changes: the blocks of S, from B on; no block's kind or size. -/
structure Marks' (B : Nat) (S : Nat → Prop) (w w' : World) : Prop where
 below : Below B w w'
 kept : Kept w w' S
 shape : Shape w w'
theorem Marks'.refl (B : Nat) (S : Nat → Prop) (w : World) : Marks' B S w w := ⟨Below.refl _ _, Kept.refl _ _, Shape.refl _⟩
theorem Marks'.trans {B : Nat} {S S2 : Nat → Prop} {a b c : World} (h : Marks' B S a b) (g : Marks' B S2 b c) (hs : ∀ k, S2 k → S k) : Marks' B S a c :=
 ⟨h.below.trans g.below, h.kept.then_ g.kept (fun k hk => .inl (hs k hk)), h.shape.trans g.shape⟩
theorem Marks'.set {B : Nat} {S : Nat → Prop} {a w : World} (h : Marks' B S a w) {g : Nat} (hB : B ≤ g) (hS : S g) (o : Nat) (u : Value) : Marks' B S a (w.setCell ⟨g, o, none⟩ u) :=
 ⟨h.below.setCell (p := ⟨g, o, none⟩) hB u, h.kept.setCell (p := ⟨g, o, none⟩) (.inl hS) u, h.shape.set g o u⟩
theorem Marks'.drewN {B : Nat} {S : Nat → Prop} {a w : World} (h : Marks' B S a w) (m : Nat) : Marks' B S a (w.drewN m) := ⟨pw_below_drewN h.below m, h.kept.drewN m, h.shape⟩
theorem Marks'.drew {B : Nat} {S : Nat → Prop} {a w : World} (h : Marks' B S a w) : Marks' B S a w.drew := ⟨h.below.drew, h.kept.drew, h.shape⟩
set_option maxRecDepth 100000 in
set_option maxHeartbeats 4000000 in
theorem markIntS_row (B : Nat) (v : Value) (n : Nat) (a : Int) (w : World) (h : IRow w B v n) :
  Calls Tryd.prog 23 #[v, .int .i64 a] w fun e w' => e = .returned (.int .i64 (upI n a)) ∧ Marks' B (fun k => some k = v.ownBlock) w w' := by
 obtain ⟨A, c, rfl, hn, hrow⟩ := h
 have HW := Aside0.mk hrow
 have HN := Aside0.mk hn
 clear hrow hn
 go_enter Tryd.func23, Tryd.ntmps23
 go_wp2
 go_loopg [1, 5] n (fun kq v1 v5 w' => ∃ (i : Nat) (x y : Int), v1 = .int .i64 y ∧ v5 = .int .i64 x ∧ Aside0 (kq + i = n ∧ x = (i : Int) ∧ y = upI i a) ∧ Aside0 (Marks' B (fun k => some k = (Value.slice A n c).ownBlock) w w'))
 case atStart => exact ⟨0, 0, a, rfl, rfl, ⟨rfl, rfl, rfl⟩, ⟨Marks'.refl _ _ _⟩⟩
 case round =>
  obtain ⟨i, x, y, rfl, rfl, HI, HM⟩ := hrel
  have hn := HN.out
  have h1 := HI.out.1
  have h2 := HI.out.2.1
  have h3 := HI.out.2.2
  by_cases hlt : i < n
  ·have hd : decide (x < (n : Int)) = true := decide_eq_true (by omega)
   obtain ⟨g, off, cur0, e, hA, hB, hg0, hl0⟩ : ∃ g off cur e, A = some ⟨g, off, none⟩ ∧ B ≤ g ∧ w.heap[g]? = some (.cells cur e (0, 0)) ∧ off + n ≤ cur.size := HW.out.resolve_left (by omega)
   subst hA
   obtain ⟨cur, hg, hl⟩ := HM.out.shape g cur0 e hg0
   have p0 : 0 ≤ x := by omega
   have q0 : x < (n : Int) := by omega
   obtain ⟨u, hx⟩ : ∃ u, wr.cell? ⟨g, off + x.toNat, none⟩ = some u := by
    rw [cell_of_row wr g _ cur e (0, 0) hg]
    exact ⟨_, Array.getElem?_eq_getElem (by omega)⟩
   have hf : wr.frozen? ⟨g, off + x.toNat, none⟩ = false := blk_frozen hg _
   have HM2 := Aside0.mk (HM.out.set (g := g) hB rfl (off + x.toNat) (.int .i64 y))
   have HI2 := Aside0.mk (show (n - (i + 1)) + (i + 1) = n ∧ wrap64 (x + 1) = ((i + 1 : Nat) : Int) ∧ wrap64 (y + 1) = upI (i + 1) a from ⟨by omega, by unfold maxLen at hn; unfold wrap64; omega, by rw [h3]; rfl⟩)
   replace p0 := eq_true p0
   replace q0 := eq_true q0
   have hk : gk = (n - (i + 1)) + 1 := by omega
   clear h1 h2 h3 hn hg hg0 hl hl0 HI HM
   subst hk
   clear hd
   go_wp2
   go_roundg (n - (i + 1))
   case measure => omega
   case rel => exact ⟨i + 1, _, _, rfl, rfl, HI2, HM2⟩
  ·have hd : decide (x < (n : Int)) = false := decide_eq_false (by omega)
   have hi : i = n := by omega
   subst hi
   rw [h3]
   clear h1 h2 h3 hlt hn
   go_wp2
   go_ret
   exact ⟨rfl, HM.out⟩
/-- What the marks of tasks come to. -/
def mkT (l : List S48) (a : Int) : Nat → Int
 | 0 => a
 | i + 1 => wrap64 (wrap64 (upI (l.getD i z48).f1.length (wrap64 (mkT l a i + 1)) + 1) + 1)
theorem task_size {w : World} {B : Nat} {S : Nat → Prop} {g n cap : Nat} {l : List S48} (h : Kd.R k48 48 w B S (.slice (some ⟨g, 0, none⟩) n cap) l) {i : Nat} (hi : i < n) {cur : Array Value} {e : TypeId} (hg : w.heap[g]? = some (.cells cur e (0, 0))) : i * 4 + 3 < cur.size := by
 obtain ⟨c, hcl, hM, hcc, _⟩ := Kd.R_elem h z48 (i : Int) (by omega) (by omega)
 have h3 : (3 : Nat) < c.length := by rw [hcl]; decide
 have := hcc 3 _ (List.getElem?_eq_getElem h3)
 rw [cell_of_row w g _ cur e (0, 0) hg] at this
 obtain ⟨hl, _⟩ := Array.getElem?_eq_some_iff.1 this
 exact hl
/-- A cell of a block that is there. -/
theorem cell_here {w : World} {g o : Nat} {cur : Array Value} {e : TypeId} (hg : w.heap[g]? = some (.cells cur e (0, 0))) (h : o < cur.size) : (∃ u, w.cell? ⟨g, o, none⟩ = some u) ∧ w.frozen? ⟨g, o, none⟩ = false :=
 ⟨by rw [cell_of_row w g _ cur e (0, 0) hg]; exact ⟨_, Array.getElem?_eq_getElem h⟩, blk_frozen hg _⟩
theorem head_set {w wr : World} {g o : Nat} {u : Value} {cur : Array Value} {e : TypeId} (hg : wr.heap[g]? = some (.cells cur e (0, 0))) (h : ∀ j : Nat, wr.cell? ⟨g, j * 4 + 1, none⟩ = w.cell? ⟨g, j * 4 + 1, none⟩) (ho : o % 4 ≠ 1) : ∀ j : Nat, (wr.setCell ⟨g, o, none⟩ u).cell? ⟨g, j * 4 + 1, none⟩ = w.cell? ⟨g, j * 4 + 1, none⟩ := by
 intro j
 rw [← h j]
 rw [cell_of_row wr g _ cur e (0, 0) hg, cell_of_row _ g _ _ e (0, 0) (blk_set hg o u), Array.getElem?_setIfInBounds_ne (by omega)]
theorem head_kept {w w1 w2 : World} {S : Nat → Prop} {g : Nat} {cur : Array Value} {e : TypeId} (hs : Shape w w1) (hg : w.heap[g]? = some (.cells cur e (0, 0))) (hk : Kept w1 w2 S) (hn : ¬ S g) (o : Nat) : w2.cell? ⟨g, o, none⟩ = w1.cell? ⟨g, o, none⟩ := by
 obtain ⟨cur1, h1, _⟩ := hs g cur e hg
 exact World.cell?_of_block (w := w1) (hk.2 g (blk_lt h1) hn)
/-- A task's needs: the cell, and what it leads to. -/
theorem task_needs {w : World} {B : Nat} {S : Nat → Prop} {g n cap : Nat} {l : List S48} (h : Kd.R k48 48 w B S (.slice (some ⟨g, 0, none⟩) n cap) l) {i : Nat} (hi : i < n) :
  ∃ v1, w.cell? ⟨g, i * 4 + 1, none⟩ = some v1 ∧ IRow w B v1 (l.getD i z48).f1.length ∧ ∀ k, v1.ownBlock = some k → S k ∧ k ≠ g := by
 obtain ⟨c, hcl, hM, hcc, _⟩ := Kd.R_elem h z48 (i : Int) (by omega) (by omega)
 obtain ⟨v1, hc, hQ⟩ := k48_openM hM
 simp only [Int.toNat_natCast] at hcc hQ
 refine ⟨v1, hcc 1 v1 (by rw [hc]; rfl), ?_, fun k hk => ⟨(hQ.1 k hk).1, ?_⟩⟩
 ·obtain ⟨h0, inner, hq, hr⟩ := hQ
  have hmax := q_max hq
  rcases hq.2 with ⟨h1, A, hv, hA⟩ | ⟨g1, off, cap1, cur, hv, hb, hg, hnc, hcm, hcs, _⟩
  ·exact ⟨A, 0, by rw [hv, h1], hmax, .inl h1⟩
  ·refine ⟨_, cap1, hv, hmax, .inr ⟨g1, off, cur, _, by rw [show off * (Kd.int .i64).sz = off from Nat.mul_one off], hb, hg, ?_⟩⟩
   rw [show (off + cap1) * (Kd.int .i64).sz = off + cap1 from Nat.mul_one _] at hcs
   rw [hcs]
   exact Nat.add_le_add_left hnc off
 ·intro e
  exact (hQ.1 k hk).2 e
set_option maxRecDepth 100000 in
set_option maxHeartbeats 4000000 in
theorem markTaskS_row (B : Nat) (S : Nat → Prop) (v : Value) (l : List S48) (a : Int) (w : World) (h : Kd.R k48 48 w B S v l) :
  Calls Tryd.prog 22 #[v, .int .i64 a] w fun e w' => e = .returned (.int .i64 (mkT l a l.length)) ∧ Marks' B S w w' := by
 obtain ⟨A, c, rfl, hlc, hC⟩ := Kd.R_reads h
 have hn : l.length ≤ maxLen := hC.2.1
 have HN := Aside0.mk hn
 have HR := Aside0.mk h
 have HS := Aside0.mk h.1
 clear hn h hC hlc
 obtain ⟨n, HNL⟩ : ∃ n, Aside0 (n = l.length) := ⟨_, ⟨rfl⟩⟩
 rw [← HNL.out] at HN HR HS ⊢
 go_enter Tryd.func22, Tryd.ntmps22
 go_wp2
 go_loopg [1, 5] n (fun kq v1 v5 w' => ∃ (i : Nat) (x y : Int), v1 = .int .i64 y ∧ v5 = .int .i64 x ∧ Aside0 (kq + i = n ∧ x = (i : Int) ∧ y = mkT l a i) ∧ Aside0 (Marks' B S w w' ∧ ∀ g, A = some ⟨g, 0, none⟩ → ∀ j : Nat, w'.cell? ⟨g, j * 4 + 1, none⟩ = w.cell? ⟨g, j * 4 + 1, none⟩))
 case atStart => exact ⟨0, 0, a, rfl, rfl, ⟨rfl, rfl, rfl⟩, ⟨Marks'.refl _ _ _, fun _ _ _ => rfl⟩⟩
 case round =>
  obtain ⟨i, x, y, rfl, rfl, HI, HM⟩ := hrel
  have hn := HN.out
  have h1 := HI.out.1
  have h2 := HI.out.2.1
  have h3 := HI.out.2.2
  by_cases hlt : i < n
  ·have hd : decide (x < (n : Int)) = true := decide_eq_true (by omega)
   obtain ⟨g, cap, hv, hB, hgl, cur0, hg0⟩ := Kd.R_form HR.out (by have := HNL.out; omega)
   injection hv with hA hln hc
   subst hA
   clear hln
   have p0 : 0 ≤ x := by omega
   have q0 : x < (n : Int) := by omega
   replace p0 := eq_true p0
   replace q0 := eq_true q0
   have hk : gk = (n - (i + 1)) + 1 := by omega
   obtain ⟨X, hX⟩ : ∃ X, X = x.toNat := ⟨_, rfl⟩
   have hXi : X = i := by omega
   have hsz := task_size HR.out hlt hg0
   obtain ⟨v1, hv1, hrow, hown⟩ := task_needs HR.out hlt
   obtain ⟨m, hm⟩ : ∃ m, m = (l.getD i z48).f1.length := ⟨_, rfl⟩
   rw [← hm] at hrow
   have Hv1 := Aside0.mk hv1
   have Hrow := Aside0.mk hrow
   have Hown := Aside0.mk hown
   have HSg := Aside0.mk (HS.out g rfl)
   have HB := Aside0.mk hB
   have HG := Aside0.mk hg0
   have HSZ := Aside0.mk hsz
   obtain ⟨cur1, hg1, hl1⟩ := HM.out.1.shape g cur0 _ hg0
   obtain ⟨⟨ua, hx0⟩, hf0⟩ := cell_here (o := x.toNat * 4) hg1 (by omega)
   have M1 := Aside0.mk (HM.out.1.set (g := g) hB (HS.out g rfl) (x.toNat * 4) (.int .i64 y))
   have H1 := Aside0.mk (head_set hg1 (o := x.toNat * 4) (u := .int .i64 y) (HM.out.2 g rfl) (by omega))
   have HX := Aside0.mk (show x.toNat = i by omega)
   have HI2 := Aside0.mk (show (n - (i + 1)) + (i + 1) = n ∧ wrap64 (x + 1) = ((i + 1 : Nat) : Int) ∧ wrap64 (wrap64 (upI m (wrap64 (y + 1)) + 1) + 1) = mkT l a (i + 1) from ⟨by omega, by unfold maxLen at hn; unfold wrap64; omega, by rw [hm, h3]; rfl⟩)
   clear h1 h2 h3 hn hXi hX hv1 hrow hown hB hg0 hsz hg1 hl1 HI HM hc hgl hlt hm
   subst hk
   clear hd
   go_wp2_with (first | ((with_reducible refine gate_store (t := 3) (p := 16) rfl ?_); refine store_event (t := 3) (p := 16) (v := ?vo_w8) (w1 := (wr.setCell ⟨g, x.toNat * 4, none⟩ (.int .i64 y))) ?hg ?ho ?hn ?hr ?_; (case ho => rfl); (case hg => rfl); (case hn => rfl); (case hr => (first | (go_simp; done) | (go_simp; rfl))); intro w1 hw; rw [← hw] at M1 H1; clear hw hx0 hf0; have hv1 : w1.cell? ⟨g, x.toNat * 4 + 1, none⟩ = some v1 := (by rw [H1.out (x.toNat), HX.out]; exact Hv1.out); have HC := Aside0.mk (markIntS_row B v1 m (wrap64 (y + 1)) w1 (Hrow.out.mv M1.out.shape))) | (go_at_call 23; refine HC.out.mono ?_; rintro e w2 ⟨rfl, hm⟩; have M2 := Aside0.mk (M1.out.trans hm (fun k hk => (Hown.out k hk.symm).1)); have H2 := Aside0.mk (show ∀ j : Nat, w2.cell? ⟨g, j * 4 + 1, none⟩ = w.cell? ⟨g, j * 4 + 1, none⟩ from fun j => (head_kept M1.out.shape HG.out hm.kept (fun he => (Hown.out g he.symm).2 rfl) _).trans (H1.out j)); clear hm HC M1 H1 hv1; obtain ⟨cur2, hg2, hl2⟩ := M2.out.shape g cur0 _ HG.out; obtain ⟨⟨u2, hx2⟩, hf2⟩ := cell_here (o := x.toNat * 4 + 2) hg2 (by have h5 := HX.out; have h6 := HSZ.out; omega); have M3 := Aside0.mk (M2.out.set (g := g) HB.out HSg.out (x.toNat * 4 + 2) (.int .i64 (upI m (wrap64 (y + 1))))); have H3 := Aside0.mk (head_set hg2 (o := x.toNat * 4 + 2) (u := .int .i64 (upI m (wrap64 (y + 1)))) H2.out (by omega)); clear M2 H2 hg2 hl2; obtain ⟨cur3, hg3, hl3⟩ := M3.out.shape g cur0 _ HG.out; obtain ⟨⟨u3, hx3⟩, hf3⟩ := cell_here (o := x.toNat * 4 + 3) hg3 (by have h5 := HX.out; have h6 := HSZ.out; omega); have M4 := Aside0.mk (M3.out.set (g := g) HB.out HSg.out (x.toNat * 4 + 3) (.int .i64 (wrap64 (upI m (wrap64 (y + 1)) + 1)))); have H4 := Aside0.mk (head_set hg3 (o := x.toNat * 4 + 3) (u := .int .i64 (wrap64 (upI m (wrap64 (y + 1)) + 1))) H3.out (by omega)); clear M3 H3 hg3 hl3))
   go_roundg (n - (i + 1))
   case measure => omega
   case rel => exact ⟨i + 1, _, _, rfl, rfl, HI2, ⟨M4.out, fun g' hg' => by cases hg'; exact H4.out⟩⟩
  ·have hd : decide (x < (n : Int)) = false := decide_eq_false (by omega)
   have hi : i = n := by omega
   subst hi
   rw [h3]
   clear h1 h2 h3 hlt hn
   go_wp2
   go_ret
   exact ⟨by rw [HNL.out]; rfl, HM.out.1⟩
theorem of_if_some {p : Prop} {d_ : Decidable p} {a b : Bool} (h : (if p then some a else none) = some b) : p ∧ a = b := by
 by_cases hp : p
 ·rw [if_pos hp] at h
  exact ⟨hp, Option.some.inj h⟩
 ·rw [if_neg hp] at h
  cases h
theorem drawn0_below {w w' : World} (h : Drawn0 w w') : Below w.heap.size w w' := by
 obtain ⟨m, rfl⟩ := h
 exact pw_below_drewN (Below.refl _ _) m
theorem irow_of_R {w : World} {B : Nat} {ok : Nat → Prop} {e : TypeId} {v : Value} {xs : List Int} (h : Kd.R (Kd.int .i64) e w B ok v xs) : IRow w B v xs.length := by
 obtain ⟨h0, inner, hq, hr⟩ := Kd.Q_of_R h
 have hmax := q_max hq
 rcases hq.2 with ⟨h1, A, hv, hA⟩ | ⟨g1, off, cap1, cur, hv, hb, hg, hnc, hcm, hcs, _⟩
 ·exact ⟨A, 0, by rw [hv, h1], hmax, .inl h1⟩
 ·refine ⟨_, cap1, hv, hmax, .inr ⟨g1, off, cur, _, by rw [show off * (Kd.int .i64).sz = off from Nat.mul_one off], hb, hg, ?_⟩⟩
  rw [show (off + cap1) * (Kd.int .i64).sz = off + cap1 from Nat.mul_one _] at hcs
  rw [hcs]
  exact Nat.add_le_add_left hnc off
theorem Marks'.mono {B : Nat} {S S' : Nat → Prop} {w w' : World} (h : Marks' B S w w') (hs : ∀ k, S k → S' k) : Marks' B S' w w' := ⟨h.below, h.kept.mono hs, h.shape⟩
theorem markIntS_in (lo hi : Nat) (v : Value) (xs : List Int) (a : Int) (w : World) {e : TypeId} (h : Kd.R (Kd.int .i64) e w lo (fun k => k < hi) v xs) :
  Calls Tryd.prog 23 #[v, .int .i64 a] w fun e w' => e = .returned (.int .i64 (upI xs.length a)) ∧ Marks' lo (fun k => lo ≤ k ∧ k < hi) w w' :=
 (markIntS_row lo v xs.length a w (irow_of_R h)).mono fun e w' hh => ⟨hh.1, hh.2.mono fun k hk => ⟨((Kd.R_bound h).1 k hk.symm).2.1, h.1 k hk.symm⟩⟩
theorem markTaskS_in (lo hi : Nat) (v : Value) (l : List S48) (a : Int) (w : World) (h : Kd.R k48 48 w lo (fun k => k < hi) v l) :
  Calls Tryd.prog 22 #[v, .int .i64 a] w fun e w' => e = .returned (.int .i64 (mkT l a l.length)) ∧ Marks' lo (fun k => lo ≤ k ∧ k < hi) w w' :=
 markTaskS_row lo _ v l a w (Kd.R_mono (Kd.R_bound h) (fun k hk => ⟨hk.2.1, hk.1⟩))
end Go.Proofs.YtpibdjkajgfgjaaDoor.Core
end
section
set_option linter.unusedVariables false
namespace Go.Proofs.YtpibdjkajgfgjaaDoor.Core
open Go Go.RowKit Go.Proofs.YtpibdjkajgfgjaaDoorW.PrintWords Go.Proofs.YtpibdjkajgfgjaaDoorW.PrintLast Go.Proofs.YtpibdjkajgfgjaaDoorW.PrintMore Go.Proofs.YtpibdjkajgfgjaaDoor.P
theorem heldIntS_n {k : Nat} {A : Option Addr} {c n : Nat} {l : List Int} {a r : Int} {w : World} (hn : n = l.length ∧ n ≤ c ∧ (Kd.int .i64).C w A l.length l) (h : laws_heldIntS.f k l a = some r) :
  Calls Tryd.prog 24 #[.slice A n c, .int .i64 a] w fun e w' => e = .returned (.int .i64 r) ∧ Drawn0 w w' := by
 obtain ⟨rfl, hc, hC⟩ := hn
 exact laws_heldIntS.calls k A c l a r w hC hc h
end Go.Proofs.YtpibdjkajgfgjaaDoor.Core
end
section
set_option linter.unusedVariables false
set_option linter.unusedSimpArgs false
namespace Go.Proofs.YtpibdjkajgfgjaaDoor.Core
open Go Go.RowKit Go.Shelf Go.Proofs.YtpibdjkajgfgjaaDoorW.PrintWords Go.Proofs.YtpibdjkajgfgjaaDoorW.PrintLast Go.Proofs.YtpibdjkajgfgjaaDoorW.PrintMore Go.Proofs.YtpibdjkajgfgjaaDoor.P
attribute [local go_sem] Oper.semAt_some wide_fn wide_depth
/-- What holds of each valid graph. -/
structure GOk (G : GD) : Prop where
 n8 : G.tasks.length ≤ 8
 nl : G.needs.length = G.tasks.length
 nb : below1 G.tasks.length G.needs
 ol : G.order.length = G.tasks.length
 ob : ∀ i ∈ G.order, i < G.tasks.length
 bl : G.below.length = G.tasks.length
 bb : below1 G.tasks.length G.below
 al : G.above.length = G.tasks.length
 ab : below1 G.tasks.length G.above
theorem IsG.move {w w' : World} {b : Nat} {G : GD} (h : IsG w b G) (hb : Below w.heap.size w w') : IsG w' b G := by
 obtain ⟨A0, A1, A2, A3, A4, c0, c1, c2, c3, c4, hh, h0, h1, h2, h3, h4⟩ := h
 exact ⟨A0, A1, A2, A3, A4, c0, c1, c2, c3, c4, (hb.block b (cells_lt hh)).trans hh, ⟨h0.1, Kd.C_below h0.2 hb⟩, ⟨h1.1, Kd.C_below h1.2 hb⟩, ⟨h2.1, Kd.C_below h2.2 hb⟩, ⟨h3.1, Kd.C_below h3.2 hb⟩, ⟨h4.1, Kd.C_below h4.2 hb⟩⟩
theorem IsG.lt {w : World} {b : Nat} {G : GD} (h : IsG w b G) : b < w.heap.size := by
 obtain ⟨A0, A1, A2, A3, A4, c0, c1, c2, c3, c4, hh, _⟩ := h
 exact cells_lt hh
theorem IsG.tasks {w : World} {b : Nat} {G : GD} (h : IsG w b G) : ∃ A c, w.cell? ⟨b, 0, none⟩ = some (.slice A G.tasks.length c) ∧ G.tasks.length ≤ c ∧ k48.C w A G.tasks.length G.tasks := by
 obtain ⟨A0, A1, A2, A3, A4, c0, c1, c2, c3, c4, hh, h0, h1, h2, h3, h4⟩ := h
 exact ⟨A0, c0, by simp [World.cell?, hh], h0.1, h0.2⟩
theorem IsG.needs {w : World} {b : Nat} {G : GD} (h : IsG w b G) : ∃ A c, w.cell? ⟨b, 1, none⟩ = some (.slice A G.needs.length c) ∧ G.needs.length ≤ c ∧ (Kd.int .u16).C w A G.needs.length (up G.needs) := by
 obtain ⟨A0, A1, A2, A3, A4, c0, c1, c2, c3, c4, hh, h0, h1, h2, h3, h4⟩ := h
 exact ⟨A1, c1, by simp [World.cell?, hh], h1.1, h1.2⟩
theorem IsG.order {w : World} {b : Nat} {G : GD} (h : IsG w b G) : ∃ A c, w.cell? ⟨b, 2, none⟩ = some (.slice A G.order.length c) ∧ G.order.length ≤ c ∧ (Kd.int .i64).C w A G.order.length (up G.order) := by
 obtain ⟨A0, A1, A2, A3, A4, c0, c1, c2, c3, c4, hh, h0, h1, h2, h3, h4⟩ := h
 exact ⟨A2, c2, by simp [World.cell?, hh], h2.1, h2.2⟩
theorem IsG.below {w : World} {b : Nat} {G : GD} (h : IsG w b G) : ∃ A c, w.cell? ⟨b, 3, none⟩ = some (.slice A G.below.length c) ∧ G.below.length ≤ c ∧ (Kd.int .u16).C w A G.below.length (up G.below) := by
 obtain ⟨A0, A1, A2, A3, A4, c0, c1, c2, c3, c4, hh, h0, h1, h2, h3, h4⟩ := h
 exact ⟨A3, c3, by simp [World.cell?, hh], h3.1, h3.2⟩
theorem IsG.above {w : World} {b : Nat} {G : GD} (h : IsG w b G) : ∃ A c, w.cell? ⟨b, 4, none⟩ = some (.slice A G.above.length c) ∧ G.above.length ≤ c ∧ (Kd.int .u16).C w A G.above.length (up G.above) := by
 obtain ⟨A0, A1, A2, A3, A4, c0, c1, c2, c3, c4, hh, h0, h1, h2, h3, h4⟩ := h
 exact ⟨A4, c4, by simp [World.cell?, hh], h4.1, h4.2⟩
set_option maxHeartbeats 1000000 in
theorem size_calls (b : Nat) (G : GD) (w : World) (hg : IsG w b G) :
  Calls Tryd.prog 62 #[.pointer (some ⟨b, 0, none⟩)] w fun e w' => e = .returned (.int .i64 (G.tasks.length : Int)) ∧ w = w' := by
 obtain ⟨A, c, hc, _, _⟩ := hg.tasks
 go_enter Tryd.func62, Tryd.ntmps62
 go_wp2
 go_ret
 exact ⟨rfl, rfl⟩
/-- The tasks that can come next, among the first ones. -/
def readyTo (N : List Nat) (d : Nat) : Nat → Nat
 | 0 => 0
 | i + 1 => if d.testBit i = false ∧ sub (N.getD i 0) d = 0 then readyTo N d i ||| 2 ^ i else readyTo N d i
def GD.ready (G : GD) (d : Nat) : Nat := readyTo G.needs d G.needs.length
end Go.Proofs.YtpibdjkajgfgjaaDoor.Core
end
section
set_option linter.unusedVariables false
set_option linter.unusedSimpArgs false
namespace Go.Proofs.YtpibdjkajgfgjaaDoor.Core
open Go Go.RowKit Go.Shelf Go.Proofs.YtpibdjkajgfgjaaDoorW.PrintWords Go.Proofs.YtpibdjkajgfgjaaDoorW.PrintLast Go.Proofs.YtpibdjkajgfgjaaDoorW.PrintMore Go.Proofs.YtpibdjkajgfgjaaDoor.P
/-- How many of the first n numbers a set lacks. -/
def zb : Nat → Nat → Nat
 | 0, _ => 0
 | n + 1, p => zb n p + (if p.testBit n then 0 else 1)
theorem or_bit (p i j : Nat) : (p ||| 2 ^ i).testBit j = (p.testBit j || decide (i = j)) := by rw [Nat.testBit_or, Nat.testBit_two_pow]
theorem zb_le (p i : Nat) : ∀ n, zb n (p ||| 2 ^ i) ≤ zb n p
 | 0 => Nat.le_refl _
 | n + 1 => by
  have := zb_le p i n
  simp only [zb, or_bit]
  by_cases h : i = n
  ·subst h; cases p.testBit i <;> simp <;> omega
  ·cases p.testBit n <;> simp [h] <;> omega
theorem zb_lt {p i : Nat} (hp : p.testBit i = false) : ∀ {n : Nat}, i < n → zb n (p ||| 2 ^ i) < zb n p
 | 0, h => by omega
 | n + 1, h => by
  simp only [zb, or_bit]
  by_cases hi : i = n
  ·subst hi
   have := zb_le p i i
   simp [hp]
   omega
  ·have := zb_lt hp (n := n) (by omega)
   cases p.testBit n <;> simp [hi] <;> omega
theorem readyTo_bit (N : List Nat) (d i : Nat) : ∀ n, (readyTo N d n).testBit i = true → i < n ∧ d.testBit i = false ∧ sub (N.getD i 0) d = 0
 | 0 => by simp [readyTo]
 | n + 1 => by
  intro h
  unfold readyTo at h
  split at h
  ·rename_i hc
   rw [or_bit] at h
   by_cases hi : n = i
   ·subst hi; exact ⟨by omega, hc⟩
   ·have := readyTo_bit N d i n (by simpa [hi] using h)
    exact ⟨by omega, this.2⟩
  ·have := readyTo_bit N d i n h
   exact ⟨by omega, this.2⟩
theorem readyTo_bit' (N : List Nat) (d i : Nat) : ∀ n, i < n → d.testBit i = false → sub (N.getD i 0) d = 0 → (readyTo N d n).testBit i = true
 | 0 => by intro h; omega
 | n + 1 => by
  intro h h1 h2
  unfold readyTo
  by_cases hi : n = i
  ·subst hi
   rw [if_pos ⟨h1, h2⟩, or_bit]
   simp
  ·have := readyTo_bit' N d i n (by omega) h1 h2
   split
   ·rw [or_bit, this]; rfl
   ·exact this
theorem mem_ready {G : GD} {d i : Nat} (h8 : G.needs.length ≤ 8) : i ∈ elemsN (G.ready d) ↔ i < G.needs.length ∧ d.testBit i = false ∧ sub (G.needs.getD i 0) d = 0 := by
 rw [mem_elemsN]
 constructor
 ·intro h
  exact readyTo_bit _ _ _ _ h.2
 ·intro h
  exact ⟨by omega, readyTo_bit' _ _ _ _ h.1 h.2.1 h.2.2⟩
theorem elemsN_length (s : Nat) : (elemsN s).length ≤ 8 := by
 have := elems_length s
 rwa [elems, List.length_map] at this
end Go.Proofs.YtpibdjkajgfgjaaDoor.Core
end
section
set_option linter.unusedVariables false
set_option linter.unusedSimpArgs false
namespace Go.Proofs.YtpibdjkajgfgjaaDoor.Core
open Go Go.RowKit Go.Proofs.YtpibdjkajgfgjaaDoorW.PrintWords Go.Proofs.YtpibdjkajgfgjaaDoorW.PrintMore Go.Proofs.YtpibdjkajgfgjaaDoor.P
/-- From some number on, f says r. -/
def Ev {α : Type} (f : Nat → Option α) (r : α) : Prop := ∃ K, ∀ k, K ≤ k → f k = some r
theorem Ev.const {α : Type} (r : α) : Ev (fun _ => some r) r := ⟨0, fun _ _ => rfl⟩
theorem Ev.bind {α β : Type} {f : Nat → Option α} {g : Nat → α → Option β} {a : α} {b : β} (h : Ev f a) (h2 : Ev (fun k => g k a) b) : Ev (fun k => (f k).bind (g k)) b := by
 obtain ⟨K, h⟩ := h
 obtain ⟨K2, h2⟩ := h2
 exact ⟨max K K2, fun k hk => by show (f k).bind (g k) = some b; rw [h k (by omega)]; exact h2 k (by omega)⟩
theorem Ev.succ {α : Type} {f : Nat → Option α} {r : α} (h : Ev (fun k => f (k + 1)) r) : Ev f r := by
 obtain ⟨K, h⟩ := h
 refine ⟨K + 1, fun k hk => ?_⟩
 obtain ⟨m, rfl⟩ : ∃ m, k = m + 1 := ⟨k - 1, by omega⟩
 exact h m (by omega)
theorem Ev.of {α : Type} {f g : Nat → Option α} {r : α} (h : Ev f r) (e : ∀ k, g k = f k) : Ev g r := by
 obtain ⟨K, h⟩ := h
 exact ⟨K, fun k hk => (e k).trans (h k hk)⟩
theorem Ev.both {α β : Type} {f : Nat → Option α} {g : Nat → Option β} {a : α} {b : β} (h : Ev f a) (h2 : Ev g b) : ∃ k, f k = some a ∧ g k = some b := by
 obtain ⟨K, h⟩ := h
 obtain ⟨K2, h2⟩ := h2
 exact ⟨max K K2, h _ (by omega), h2 _ (by omega)⟩
theorem Ev.one {α : Type} {f : Nat → Option α} {a : α} (h : Ev f a) : ∃ k, f k = some a := by
 obtain ⟨K, h⟩ := h
 exact ⟨K, h _ (by omega)⟩
theorem w64 {n : Int} (h0 : -9223372036854775808 ≤ n) (h1 : n ≤ 9223372036854775807) : wrap64 n = n := by unfold wrap64; omega
theorem rd_mid {pre r : List Int} {x : Int} {i : Int} (hi : i = (pre.length : Int)) : rd (pre ++ x :: r) i = x := by
 subst hi
 simp [rd]
theorem within_eq (x a b : Int) : impl_within.f x a b = some (decide (a ≤ x ∧ x ≤ b)) := by
 unfold impl_within.f
 by_cases h : x ≥ a
 ·rw [if_pos h]; simp; omega
 ·rw [if_neg h]; simp; omega
theorem setwith_eq {s k : Nat} (hs : s < 256) (hk : k < 8) : impl_set_with.f (s : Int) (k : Int) = some ((s ||| 2 ^ k : Nat) : Int) := by
 unfold impl_set_with.f
 rw [if_pos (by omega)]
 have : shl .u16 1 (k : Int) = IntKind.u16.wrap (2 ^ k) := by
  unfold shl
  rw [Int.toNat_natCast, Nat.min_eq_left (by show k ≤ 16; omega), Int.one_mul]
 rw [this, with_eq hs hk]
theorem sethas_eq {s k : Nat} (hs : s < 256) (hk : k < 8) : impl_set_has.f (s : Int) (k : Int) = some (s.testBit k) := by
 unfold impl_set_has.f
 rw [if_pos (by omega)]
 have : shr .u16 (s : Int) (k : Int) = (s : Int) / 2 ^ k := by
  unfold shr
  rw [Int.toNat_natCast, Nat.min_eq_left (by show k ≤ 16; omega)]
 rw [this, has_eq hs]
/-- The set of ascending numbers below n. -/
def setGo (n : Nat) : List Int → Nat → Int → Option Nat
 | [], s, _ => some s
 | x :: r, s, last => if last + 1 ≤ x ∧ x ≤ (n : Int) - 1 then setGo n r (s ||| 2 ^ x.toNat) x else none
def setD (n : Nat) (L : List Int) : Option Nat := setGo n L 0 (-1)
def setR (o : Option Nat) : Int × Bool := match o with | some s => ((s : Int), true) | none => (0, false)
theorem ev_setGo {n : Nat} (hn : n ≤ 8) (L : List Int) : ∀ (r pre : List Int) (s : Nat) (last : Int), L = pre ++ r → s < 2 ^ n → (pre.length : Int) ≤ last + 1 → last ≤ (n : Int) - 1 →
  Ev (fun k => impl_setOf.l0 k (n : Int) (s : Int) last L (L.length : Int) (pre.length : Int)) (setR (setGo n r s last))
 | [], pre, s, last, hL, hs, h1, h2 => by
  refine Ev.succ ((Ev.const _).of fun k => ?_)
  rw [List.append_nil] at hL
  subst hL
  simp only [impl_setOf.l0]
  rw [if_neg (by omega)]
  rfl
 | x :: r, pre, s, last, hL, hs, h1, h2 => by
  have hlen : L.length = pre.length + (r.length + 1) := by rw [hL]; simp
  have hw1 : wrap64 (last + 1) = last + 1 := w64 (by omega) (by omega)
  have hw2 : wrap64 ((n : Int) - 1) = (n : Int) - 1 := w64 (by omega) (by omega)
  have hrd : rd L (pre.length : Int) = x := by rw [hL]; exact rd_mid rfl
  refine Ev.succ ?_
  by_cases hx : last + 1 ≤ x ∧ x ≤ (n : Int) - 1
  ·have hx0 : 0 ≤ x := by omega
   obtain ⟨m, rfl⟩ : ∃ m : Nat, x = (m : Int) := ⟨x.toNat, by omega⟩
   have hs8 : s < 256 := Nat.lt_of_lt_of_le hs (pow8 hn)
   have ih := ev_setGo hn L r (pre ++ [(m : Int)]) (s ||| 2 ^ m) m (by rw [hL]; simp) (Nat.or_lt_two_pow hs (Nat.pow_lt_pow_right (by omega) (by omega))) (by simp; omega) (by omega)
   have hg : setGo n ((m : Int) :: r) s last = setGo n r (s ||| 2 ^ m) m := by
    rw [setGo, if_pos hx, Int.toNat_natCast]
   rw [hg]
   refine ih.of fun k => ?_
   simp only [impl_setOf.l0]
   rw [if_pos (by omega), if_pos (by omega), if_pos (by omega), hrd, hw1, hw2, within_eq, decide_eq_true hx]
   simp only [Option.bind_some, if_true]
   rw [setwith_eq hs8 (by omega)]
   simp only [Option.bind_some, List.length_append, List.length_cons, List.length_nil]
   rw [w64 (by omega) (by omega)]
   rfl
  ·have hg : setGo n (x :: r) s last = none := by rw [setGo, if_neg hx]
   rw [hg]
   refine (Ev.const _).of fun k => ?_
   simp only [impl_setOf.l0]
   rw [if_pos (by omega), if_pos (by omega), if_pos (by omega), hrd, hw1, hw2, within_eq, decide_eq_false hx]
   rfl
theorem ev_setOf {n : Nat} (hn : n ≤ 8) (L : List Int) : Ev (fun k => impl_setOf.f k L (n : Int)) (setR (setD n L)) :=
 ev_setGo hn L L [] 0 (-1) rfl (Nat.two_pow_pos n) (by simp) (by omega)
theorem setGo_lt {n : Nat} : ∀ {r : List Int} {s : Nat} {last : Int} {t : Nat}, setGo n r s last = some t → s < 2 ^ n → -1 ≤ last → t < 2 ^ n
 | [], s, last, t, h, hs, hl => by rw [setGo] at h; cases h; exact hs
 | x :: r, s, last, t, h, hs, hl => by
  rw [setGo] at h
  by_cases hx : last + 1 ≤ x ∧ x ≤ (n : Int) - 1
  ·rw [if_pos hx] at h
   exact setGo_lt h (Nat.or_lt_two_pow hs (Nat.pow_lt_pow_right (by omega) (by omega))) (by omega)
  ·rw [if_neg hx] at h; cases h
theorem setD_lt {n : Nat} {L : List Int} {t : Nat} (h : setD n L = some t) : t < 2 ^ n := setGo_lt h (Nat.two_pow_pos n) (by omega)
def taskOk (t : Tk) : Prop := (1 ≤ t.f0 ∧ t.f0 ≤ 20) ∧ (0 ≤ t.f2 ∧ t.f2 ≤ 2) ∧ (1 ≤ t.f3 ∧ t.f3 ≤ 4)
instance (t : Tk) : Decidable (taskOk t) := by unfold taskOk; infer_instance
def needsGo (n : Nat) : List Tk → Option (List Nat)
 | [] => some []
 | t :: r => match setD n t.f1 with
  | none => none
  | some s => if taskOk t then (needsGo n r).map (s :: ·) else none
def needsD (g : List Tk) : Option (List Nat) := if g.length ≤ 8 then needsGo g.length g else none
def needsR (o : Option (List Nat)) : List Int × Bool := match o with | some N => (up N, true) | none => ([], false)
theorem rdT_mid {pre r : List Tk} {x : Tk} {i : Int} (hi : i = (pre.length : Int)) : rd_T48 (pre ++ x :: r) i = x := by
 subst hi
 simp [rd_T48]
theorem ev_needsGo (G : List Tk) (h8 : G.length ≤ 8) : ∀ (r pre : List Tk) (N : List Nat), G = pre ++ r → N.length = pre.length →
  Ev (fun k => impl_needsOf.l0 k G (up N) G (G.length : Int) (pre.length : Int)) (needsR ((needsGo G.length r).map (N ++ ·)))
 | [], pre, N, hG, hN => by
  refine Ev.succ ((Ev.const _).of fun k => ?_)
  rw [List.append_nil] at hG
  subst hG
  simp only [impl_needsOf.l0]
  rw [if_neg (by omega)]
  simp [needsGo, needsR]
 | t :: r, pre, N, hG, hN => by
  have hlen : G.length = pre.length + (r.length + 1) := by rw [hG]; simp
  have hrd : rd_T48 G (pre.length : Int) = t := by rw [hG]; exact rdT_mid rfl
  have hs := ev_setOf h8 t.f1
  refine Ev.succ ?_
  cases he : setD G.length t.f1 with
  | none =>
   rw [he] at hs
   have hg : needsGo G.length (t :: r) = none := by rw [needsGo, he]
   rw [hg]
   obtain ⟨K, h2⟩ := hs
   dsimp only at h2
   refine ⟨K, fun k hk => ?_⟩
   show impl_needsOf.l0 (k + 1) _ _ _ _ _ = _
   simp only [impl_needsOf.l0]
   rw [if_pos (by omega), if_pos (by omega), if_pos (by omega), hrd, h2 k hk]
   rfl
  | some s =>
   rw [he] at hs
   by_cases hok : taskOk t
   ·have hg : needsGo G.length (t :: r) = (needsGo G.length r).map (s :: ·) := by rw [needsGo, he]; simp [hok]
    have ih := ev_needsGo G h8 r (pre ++ [t]) (N ++ [s]) (by rw [hG]; simp) (by simp [hN])
    have e1 : ((needsGo G.length r).map (s :: ·)).map (N ++ ·) = (needsGo G.length r).map ((N ++ [s]) ++ ·) := by cases needsGo G.length r <;> simp
    rw [hg, e1]
    obtain ⟨K, h2⟩ := hs
    dsimp only at h2
    obtain ⟨K2, h3⟩ := ih
    dsimp only at h3
    refine ⟨max K K2, fun k hk => ?_⟩
    show impl_needsOf.l0 (k + 1) _ _ _ _ _ = _
    simp only [impl_needsOf.l0]
    rw [if_pos (by omega), if_pos (by omega), if_pos (by omega), hrd, h2 k (by omega)]
    simp only [setR, Option.bind_some, if_true]
    rw [within_eq, decide_eq_true hok.1]
    simp only [Option.bind_some, if_true]
    rw [within_eq, decide_eq_true hok.2.1]
    simp only [Option.bind_some, if_true]
    rw [within_eq, decide_eq_true hok.2.2]
    simp only [Option.bind_some, if_true]
    rw [if_pos (by rw [up_length]; omega), w64 (by omega) (by omega)]
    have := h3 k (by omega)
    simpa [up] using this
   ·have hg : needsGo G.length (t :: r) = none := by rw [needsGo, he]; simp [hok]
    rw [hg]
    obtain ⟨K, h2⟩ := hs
    dsimp only at h2
    refine ⟨K, fun k hk => ?_⟩
    show impl_needsOf.l0 (k + 1) _ _ _ _ _ = _
    simp only [impl_needsOf.l0]
    rw [if_pos (by omega), if_pos (by omega), if_pos (by omega), hrd, h2 k (by omega)]
    simp only [setR, Option.bind_some, if_true]
    rw [within_eq, within_eq, within_eq]
    simp only [Option.bind_some]
    by_cases h1 : 1 ≤ t.f0 ∧ t.f0 ≤ 20
    ·by_cases h2 : 0 ≤ t.f2 ∧ t.f2 ≤ 2
     ·by_cases h3 : 1 ≤ t.f3 ∧ t.f3 ≤ 4
      ·exact absurd ⟨h1, h2, h3⟩ hok
      ·simp [h1, h2, h3, needsR]
     ·simp [h1, h2, needsR]
    ·simp [h1, needsR]
theorem ev_needsOf (G : List Tk) : Ev (fun k => impl_needsOf.f k G) (needsR (needsD G)) := by
 unfold needsD
 by_cases h : G.length ≤ 8
 ·rw [if_pos h]
  have h2 := ev_needsGo G h G [] [] rfl rfl
  have e : (needsGo G.length G).map (([] : List Nat) ++ ·) = needsGo G.length G := by cases needsGo G.length G <;> simp
  rw [e] at h2
  refine h2.of fun k => ?_
  unfold impl_needsOf.f
  rw [if_neg (by omega), if_pos (by omega), if_pos (by omega)]
  rfl
 ·rw [if_neg h]
  refine (Ev.const _).of fun k => ?_
  unfold impl_needsOf.f
  rw [if_pos (by omega)]
  rfl
theorem needsGo_spec {n : Nat} : ∀ {r : List Tk} {N : List Nat}, needsGo n r = some N → N.length = r.length ∧ below1 n N
 | [], N, h => by rw [needsGo] at h; cases h; exact ⟨rfl, fun x hx => by cases hx⟩
 | t :: r, N, h => by
  rw [needsGo] at h
  cases he : setD n t.f1 with
  | none => rw [he] at h; cases h
  | some s =>
   rw [he] at h
   by_cases hok : taskOk t
   ·simp only [hok, if_true] at h
    cases hg : needsGo n r with
    | none => rw [hg] at h; cases h
    | some M =>
     rw [hg] at h
     cases h
     have := needsGo_spec hg
     refine ⟨by simp [this.1], fun x hx => ?_⟩
     rcases List.mem_cons.1 hx with rfl | hx
     ·exact setD_lt he
     ·exact this.2 x hx
   ·simp [hok] at h
theorem needsD_spec {g : List Tk} {N : List Nat} (h : needsD g = some N) : g.length ≤ 8 ∧ N.length = g.length ∧ below1 g.length N := by
 unfold needsD at h
 by_cases h8 : g.length ≤ 8
 ·rw [if_pos h8] at h
  exact ⟨h8, needsGo_spec h⟩
 ·rw [if_neg h8] at h; cases h
end Go.Proofs.YtpibdjkajgfgjaaDoor.Core
namespace Go.Proofs.YtpibdjkajgfgjaaDoor.Core
open Go Go.RowKit Go.Shelf Go.Proofs.YtpibdjkajgfgjaaDoorW.PrintWords Go.Proofs.YtpibdjkajgfgjaaDoorW.PrintMore Go.Proofs.YtpibdjkajgfgjaaDoor.P
attribute [local go_sem] Oper.semAt_some wide_fn wide_depth
def nextFrom (N : List Nat) (d : Nat) : Nat → Nat → Option Nat
 | _, 0 => none
 | i, m + 1 => if d.testBit i = false ∧ sub (N.getD i 0) d = 0 then some i else nextFrom N d (i + 1) m
def nextD (N : List Nat) (d : Nat) : Option Nat := nextFrom N d 0 N.length
def orderGo (N : List Nat) : Nat → List Nat → Nat → List Nat × Nat
 | 0, L, d => (L, d)
 | m + 1, L, d => match nextD N d with
  | some i => orderGo N m (L ++ [i]) (d ||| 2 ^ i)
  | none => orderGo N m L d
def orderD (N : List Nat) : List Nat × Nat := orderGo N N.length [] 0
theorem nextFrom_spec {N : List Nat} {d : Nat} : ∀ {m i j : Nat}, nextFrom N d i m = some j → i ≤ j ∧ j < i + m ∧ d.testBit j = false ∧ sub (N.getD j 0) d = 0
 | 0, i, j, h => by rw [nextFrom] at h; cases h
 | m + 1, i, j, h => by
  rw [nextFrom] at h
  by_cases hc : d.testBit i = false ∧ sub (N.getD i 0) d = 0
  ·rw [if_pos hc] at h
   cases h
   exact ⟨by omega, by omega, hc⟩
  ·rw [if_neg hc] at h
   have := nextFrom_spec h
   exact ⟨by omega, by omega, this.2.2⟩
theorem nextD_spec {N : List Nat} {d j : Nat} (h : nextD N d = some j) : j < N.length ∧ d.testBit j = false ∧ sub (N.getD j 0) d = 0 := by
 have := nextFrom_spec h
 exact ⟨by omega, this.2.2⟩
def ordR (x : List Nat × Nat) : List Int × Int := (up x.1, (x.2 : Int))
theorem order_step {N : List Nat} {n : Nat} (hN : N.length = n) (hn : n ≤ 8) (L : List Nat) (d i j k : Nat) (hd8 : d < 256) (hNi : N.getD i 0 < 256) (hi : i < n) (hj : j ≤ 8) (hL : L.length ≤ j) : impl_order.l1 (k + 1) (up N) (up L) (d : Int) (n : Int) (j : Int) (up N) (n : Int) (i : Int) = (if d.testBit i = true then impl_order.l1 k (up N) (up L) (d : Int) (n : Int) (j : Int) (up N) (n : Int) ((i + 1 : Nat) : Int) else if ((sub (N.getD i 0) d : Nat) : Int) = 0 then impl_order.l0 k (up N) (up (L ++ [i])) ((d ||| 2 ^ i : Nat) : Int) (n : Int) ((j + 1 : Nat) : Int) else impl_order.l1 k (up N) (up L) (d : Int) (n : Int) (j : Int) (up N) (n : Int) ((i + 1 : Nat) : Int)) := by
 have h8 : up (L ++ [i]) = up L ++ [(i : Int)] := by simp [up]
 have hwj : ((j + 1 : Nat) : Int) = wrap64 ((j : Int) + 1) := by rw [w64 (by omega) (by omega)]; omega
 have hw : ((i + 1 : Nat) : Int) = wrap64 ((i : Int) + 1) := by rw [w64 (by omega) (by omega)]; omega
 rw [h8, hwj, hw, ← andNot_eq hNi hd8, impl_order.l1, if_pos (by omega), if_pos (by omega), if_pos (by rw [up_length, hN]; omega), sethas_eq hd8 (by omega), Option.bind_some, rd_up (L := N) (i := i) rfl]
 congr 1
 congr 1
 rw [if_pos (by rw [up_length]; omega), setwith_eq hd8 (by omega), Option.bind_some]
theorem ev_next {N : List Nat} {n : Nat} (hN : N.length = n) (hn : n ≤ 8) (hb : below1 n N) (L : List Nat) (d : Nat) (hd : d < 2 ^ n) (j : Nat) (hL : L.length ≤ j) (hj : j ≤ 8) (R : List Nat → Nat → List Int × Int)
  (ho : ∀ (L' : List Nat) (d' : Nat), d' < 2 ^ n → L'.length ≤ j + 1 → Ev (fun k => impl_order.l0 k (up N) (up L') (d' : Int) (n : Int) ((j + 1 : Nat) : Int)) (R L' d')) (m : Nat) : ∀ i, i + m = n →
  Ev (fun k => impl_order.l1 k (up N) (up L) (d : Int) (n : Int) (j : Int) (up N) (n : Int) (i : Int)) (match nextFrom N d i m with | some i => R (L ++ [i]) (d ||| 2 ^ i) | none => R L d) := by
 induction m with
 | zero =>
  intro i hi
  have hwj : wrap64 ((j : Int) + 1) = ((j + 1 : Nat) : Int) := by rw [w64 (by omega) (by omega)]; omega
  have hg : nextFrom N d i 0 = none := by rw [nextFrom]
  have h0 := ho L d hd (by omega)
  rw [hg]
  refine Ev.succ (h0.of fun k => ?_)
  rw [impl_order.l1, if_neg (by omega), hwj]
 | succ m ih =>
  intro i hi
  have h256 := pow8 hn
  have hd8 : d < 256 := Nat.lt_of_lt_of_le hd h256
  have hNi : N.getD i 0 < 256 := Nat.lt_of_lt_of_le (getD_lt hb i) h256
  have hstep := fun k => order_step hN hn L d i j k hd8 hNi (by omega) hj hL
  have ih := ih (i + 1) (by omega)
  refine Ev.succ ?_
  cases hbit : d.testBit i with
  | true =>
   have hg : nextFrom N d i (m + 1) = nextFrom N d (i + 1) m := by rw [nextFrom, if_neg (by simp [hbit])]
   rw [hg]
   refine ih.of fun k => ?_
   rw [hstep, if_pos hbit]
  | false =>
   by_cases hz : sub (N.getD i 0) d = 0
   ·have hg : nextFrom N d i (m + 1) = some i := by rw [nextFrom, if_pos ⟨hbit, hz⟩]
    rw [hg]
    have h0 := ho (L ++ [i]) (d ||| 2 ^ i) (Nat.or_lt_two_pow hd (Nat.pow_lt_pow_right (by omega) (by omega))) (by simp; omega)
    refine h0.of fun k => ?_
    rw [hstep, if_neg (by simp [hbit]), if_pos (by omega)]
   ·have hg : nextFrom N d i (m + 1) = nextFrom N d (i + 1) m := by rw [nextFrom, if_neg (fun h => hz h.2)]
    rw [hg]
    refine ih.of fun k => ?_
    rw [hstep, if_neg (by simp [hbit]), if_neg (by omega)]
theorem ev_orderGo {N : List Nat} {n : Nat} (hN : N.length = n) (hn : n ≤ 8) (hb : below1 n N) : ∀ (m j : Nat) (L : List Nat) (d : Nat), j + m = n → d < 2 ^ n → L.length ≤ j →
  Ev (fun k => impl_order.l0 k (up N) (up L) (d : Int) (n : Int) (j : Int)) (ordR (orderGo N m L d))
 | 0, j, L, d, hj, hd, hL => by
  refine Ev.succ ((Ev.const _).of fun k => ?_)
  simp only [impl_order.l0]
  rw [if_neg (by omega)]
  rfl
 | m + 1, j, L, d, hj, hd, hL => by
  refine Ev.succ ?_
  have h := ev_next hN hn hb L d hd j hL (by omega) (fun L' d' => ordR (orderGo N m L' d')) (fun L' d' hd' hL' => ev_orderGo hN hn hb m (j + 1) L' d' (by omega) hd' hL') N.length 0 (by omega)
  have e : (match nextFrom N d 0 N.length with | some i => ordR (orderGo N m (L ++ [i]) (d ||| 2 ^ i)) | none => ordR (orderGo N m L d)) = ordR (orderGo N (m + 1) L d) := by
   rw [orderGo, nextD]
   cases he : nextFrom N d 0 N.length <;> rfl
  rw [← e]
  refine h.of fun k => ?_
  simp only [impl_order.l0]
  rw [if_pos (by omega), up_length, hN]
  rfl
theorem ev_order {N : List Nat} (hn : N.length ≤ 8) (hb : below1 N.length N) : Ev (fun k => impl_order.f k (up N)) (ordR (orderD N)) := by
 have h := ev_orderGo rfl hn hb N.length 0 [] 0 (by omega) (Nat.two_pow_pos _) (by simp)
 refine h.of fun k => ?_
 unfold impl_order.f
 rw [up_length]
 rfl
/-- What an order (as far as it goes) and its set have. -/
structure OrdOk (N : List Nat) (L : List Nat) (d : Nat) : Prop where
 lt : ∀ i ∈ L, i < N.length
 set : ∀ i, d.testBit i = true ↔ i ∈ L
 dlt : d < 2 ^ N.length
 nodup : L.Nodup
 len : L.length + zb N.length d = N.length
 needs : ∀ pre i suf, L = pre ++ i :: suf → ∀ k, (N.getD i 0).testBit k = true → k ∈ pre
theorem zb_step {p i : Nat} (hp : p.testBit i = false) : ∀ {n : Nat}, i < n → zb n (p ||| 2 ^ i) + 1 = zb n p
 | 0, h => by omega
 | n + 1, h => by
  simp only [zb, or_bit]
  by_cases hi : i = n
  ·subst hi
   have : ∀ m, m ≤ i → zb m (p ||| 2 ^ i) = zb m p := by
    intro m
    induction m with
    | zero => intro _; rfl
    | succ m ih =>
     intro hm
     simp only [zb, or_bit, ih (by omega)]
     have : i ≠ m := by omega
     simp [this]
   rw [this i (Nat.le_refl _)]
   simp [hp]
  ·have := zb_step hp (n := n) (by omega)
   cases p.testBit n <;> simp [hi] <;> omega
theorem zb_zero : ∀ n, zb n 0 = n
 | 0 => rfl
 | n + 1 => by simp [zb, zb_zero n]
theorem zb_full (n : Nat) : ∀ m, m ≤ n → zb m (2 ^ n - 1) = 0
 | 0, _ => rfl
 | m + 1, h => by
  simp only [zb, zb_full n m (by omega), Nat.testBit_two_pow_sub_one]
  simp; omega
theorem OrdOk.step {N L : List Nat} {d i : Nat} (hn : N.length ≤ 8) (hb : below1 N.length N) (h : OrdOk N L d) (hi : i < N.length) (h1 : d.testBit i = false) (h2 : sub (N.getD i 0) d = 0) : OrdOk N (L ++ [i]) (d ||| 2 ^ i) where
 lt := by
  intro k hk
  rcases List.mem_append.1 hk with hk | hk
  ·exact h.lt k hk
  ·rw [List.mem_singleton.1 hk]; exact hi
 set := by
  intro k
  rw [or_bit, List.mem_append, List.mem_singleton, Bool.or_eq_true, h.set, decide_eq_true_eq]
  constructor
  ·rintro (h | h)
   ·exact .inl h
   ·exact .inr h.symm
  ·rintro (h | h)
   ·exact .inl h
   ·exact .inr h.symm
 dlt := Nat.or_lt_two_pow h.dlt (Nat.pow_lt_pow_right (by omega) hi)
 nodup := by
  rw [List.nodup_append]
  refine ⟨h.nodup, by simp, fun a ha b hb => ?_⟩
  rw [List.mem_singleton.1 hb]
  rintro rfl
  have := (h.set a).2 ha
  rw [this] at h1
  cases h1
 len := by
  have := zb_step h1 hi
  have := h.len
  simp
  omega
 needs := by
  intro pre k suf he m hm
  rcases List.eq_nil_or_concat suf with rfl | ⟨s2, x, rfl⟩
  ·have h3 : pre = L ∧ k = i := by
    have := List.append_inj' he (by simp)
    simpa [eq_comm] using this
   obtain ⟨rfl, rfl⟩ := h3
   have hd8 : d < 256 := Nat.lt_of_lt_of_le h.dlt (pow8 hn)
   have h4 := sub_testBit (i := m) (Nat.lt_of_lt_of_le (getD_lt hb k) (pow8 hn)) hd8
   rw [h2, hm] at h4
   simp at h4
   exact (h.set m).1 h4
  ·have h3 : L = pre ++ k :: s2 := by
    have e2 : L ++ [i] = (pre ++ k :: s2) ++ [x] := by rw [he]; simp
    exact (List.append_inj' e2 (by simp)).1
   exact h.needs pre k s2 h3 m hm
theorem orderGo_ok {N : List Nat} (hn : N.length ≤ 8) (hb : below1 N.length N) : ∀ {m : Nat} {L : List Nat} {d : Nat}, OrdOk N L d → OrdOk N (orderGo N m L d).1 (orderGo N m L d).2
 | 0, L, d, h => h
 | m + 1, L, d, h => by
  rw [orderGo]
  cases he : nextD N d with
  | none => exact orderGo_ok hn hb h
  | some i =>
   have := nextD_spec he
   exact orderGo_ok hn hb (h.step hn hb this.1 this.2.1 this.2.2)
theorem orderD_ok {N : List Nat} (hn : N.length ≤ 8) (hb : below1 N.length N) : OrdOk N (orderD N).1 (orderD N).2 :=
 orderGo_ok hn hb ⟨by simp, by simp, Nat.two_pow_pos _, by simp, by rw [zb_zero]; simp, by simp⟩
/-- What is known of a valid graph. -/
def mkG (g : List Tk) (N : List Nat) : GD := ⟨g, N, (orderD N).1, (reach N (orderD N).1 g.length).1, (reach N (orderD N).1 g.length).2⟩
def graphD (g : List Tk) : Option GD := match needsD g with
 | none => none
 | some N => if (orderD N).2 = 2 ^ g.length - 1 then some (mkG g N) else none
theorem graphD_spec {g : List Tk} {G : GD} (h : graphD g = some G) : ∃ N, needsD g = some N ∧ (orderD N).2 = 2 ^ g.length - 1 ∧ G = mkG g N := by
 unfold graphD at h
 cases he : needsD g with
 | none => rw [he] at h; cases h
 | some N =>
  rw [he] at h
  simp only [] at h
  by_cases hf : (orderD N).2 = 2 ^ g.length - 1
  ·rw [if_pos hf] at h
   cases h
   exact ⟨N, rfl, hf, rfl⟩
  ·rw [if_neg hf] at h; cases h
theorem graphD_tasks {g : List Tk} {G : GD} (h : graphD g = some G) : G.tasks = g := by
 obtain ⟨N, _, _, rfl⟩ := graphD_spec h
 rfl
theorem graphD_ok {g : List Tk} {G : GD} (h : graphD g = some G) : GOk G := by
 obtain ⟨N, h1, h2, rfl⟩ := graphD_spec h
 obtain ⟨h8, hl, hb⟩ := needsD_spec h1
 have hb' : below1 N.length N := by rw [hl]; exact hb
 have ok := orderD_ok (by omega) hb'
 have hob : ∀ i ∈ (orderD N).1, i < g.length := fun i hi => by have := ok.lt i hi; omega
 have hr := reach_below hb hob
 refine ⟨h8, hl, hb, ?_, hob, reach_len1 _ _ _, hr.1, reach_len2 _ _ _, hr.2⟩
 have := ok.len
 rw [h2, hl, zb_full _ _ (Nat.le_refl _)] at this
 exact this
set_option maxRecDepth 100000 in
set_option maxHeartbeats 4000000 in
theorem graphOf_no2 (k : Nat) (A0 : Option Addr) (c0 : Nat) (l0 : List Tk) (N O : List Nat) (d : Nat) (w : World) (hr0 : k48.C w A0 l0.length l0) (hc0 : l0.length ≤ c0) (h8 : l0.length ≤ 8) (hne : d ≠ 2 ^ l0.length - 1)
  (h : impl_needsOf.f k l0 = some (up N, true)) (ho : impl_order.f k (up N) = some (up O, (d : Int))) :
  Calls Tryd.prog 60 #[.slice A0 l0.length c0] w fun e w' => e = .returned (.tuple #[.pointer none, .bool false]) ∧ Below w.heap.size w w' := by
 have h' := Lib.hid h
 have ho' := Lib.hid ho
 clear h ho
 have hev := everything_calls l0.length h8
 generalize 2 ^ l0.length - 1 = full at hne hev
 generalize hfi : ((full : Nat) : Int) = fi at hev
 generalize hdi : ((d : Nat) : Int) = di at ho'
 have hne1 : (di != fi) = true := by simp; omega
 clear hfi hdi
 refine calls_marks Tryd.func60 rfl ?_
 simp only [Tryd.ntmps60, List.size_toArray, List.length_cons, List.length_nil, Nat.reduceAdd, Nat.reduceSub, Array.replicate_succ, Array.replicate_zero, List.push_toArray, List.append_toArray, List.nil_append, List.cons_append]
 go_wp2_with (first | (go_at_call 103; refine (impl_needsOf.calls k A0 c0 l0 _ _ _ hr0 hc0 h'.out).mono ?_; rintro e w1 ⟨v0, rfl, hR1, hB1⟩; obtain ⟨A1, c1, rfl, hl1', hC1⟩ := Kd.R_reads hR1; have hz1 := Lib.hid (up_length N)) | (go_at_call 104; refine (impl_order.calls k _ _ (up N) _ _ _ hC1 hl1' ho'.out).mono ?_; rintro e w2 ⟨v1, rfl, hR2, hB2⟩) | (go_at_call 72; refine (hev _).mono ?_; rintro e w3 ⟨rfl, rfl⟩))
 refine leave_ret (Marks.nil w.heap.size w.heap.size _) (fun W => results_tmp2 rfl _ _ _) ?_
 intro W' ht
 exact ⟨rfl, ht.below (below_step hB1 hB2) (Nat.le_refl _) (Nat.le_refl _)⟩
/-- What graphOf hands back. -/
def graphPost (A0 : Option Addr) (g : List Tk) (w : World) (e : Ending) (w' : World) : Prop := match graphD g with
 | none => e = .returned (.tuple #[.pointer none, .bool false]) ∧ Below w.heap.size w w'
 | some G => ∃ (b : Nat) (v : Value), e = .returned (.tuple #[.pointer (some ⟨b, 0, none⟩), .bool true]) ∧ Below w.heap.size w w' ∧ w.heap.size ≤ b ∧ IsG w' b G ∧ w'.cell? ⟨b, 2, none⟩ = some v ∧ (Kd.int .i64).R 3 w' w.heap.size (fun _ => True) v (up G.order) ∧ (∀ W2 : World, k48.C W2 A0 g.length g → (∀ k, w.heap.size ≤ k → k < w'.heap.size → W2.heap[k]? = w'.heap[k]?) → IsG W2 b G)
theorem graphOf_calls (A0 : Option Addr) (c0 : Nat) (l0 : List Tk) (w : World) (hT : Tab w) (hr0 : k48.C w A0 l0.length l0) (hc0 : l0.length ≤ c0) :
  Calls Tryd.prog 60 #[.slice A0 l0.length c0] w (graphPost A0 l0 w) := by
 have hn := ev_needsOf l0
 cases he : needsD l0 with
 | none =>
  rw [he] at hn
  obtain ⟨k, hk⟩ := hn.one
  refine (graphOf_no1 k A0 c0 l0 [] w hr0 hc0 hk).mono ?_
  intro e w' h
  have hg : graphD l0 = none := by unfold graphD; rw [he]
  unfold graphPost
  rw [hg]
  exact h
 | some N =>
  rw [he] at hn
  obtain ⟨h8, hl, hb⟩ := needsD_spec he
  have hb' : below1 N.length N := by rw [hl]; exact hb
  have ho := ev_order (N := N) (by omega) hb'
  have ok := orderD_ok (N := N) (by omega) hb'
  obtain ⟨k, h1, h2⟩ := hn.both ho
  by_cases hf : (orderD N).2 = 2 ^ l0.length - 1
  ·have hg : graphD l0 = some (mkG l0 N) := by unfold graphD; rw [he]; simp only []; rw [if_pos hf]
   have h2' : impl_order.f k (up N) = some (up (orderD N).1, ((2 ^ l0.length - 1 : Nat) : Int)) := by rw [← hf]; exact h2
   have gok := graphD_ok hg
   refine (graphOf_yes k A0 c0 l0 N (orderD N).1 w hT hr0 hc0 h8 hl hb gok.ob (by have := gok.ol; have := gok.n8; show (orderD N).1.length ≤ 8; simp only [mkG] at *; omega) h1 h2').mono ?_
   intro e w' h
   unfold graphPost
   rw [hg]
   exact h
  ·have hg : graphD l0 = none := by unfold graphD; rw [he]; simp only []; rw [if_neg hf]
   refine (graphOf_no2 k A0 c0 l0 N (orderD N).1 (orderD N).2 w hr0 hc0 h8 hf h1 h2).mono ?_
   intro e w' h
   unfold graphPost
   rw [hg]
   exact h
end Go.Proofs.YtpibdjkajgfgjaaDoor.Core
end
section
set_option linter.unusedVariables false
set_option linter.unusedSimpArgs false
namespace Go.Proofs.YtpibdjkajgfgjaaDoor.Core
open Go Go.RowKit Go.Proofs.YtpibdjkajgfgjaaDoorW.PrintWords Go.Proofs.YtpibdjkajgfgjaaDoorW.PrintMore Go.Proofs.YtpibdjkajgfgjaaDoor.P
abbrev big : Nat := 4611686018427387904
theorem w64s {n : Nat} (h : n < big) : wrap64 ((n : Int) + 1) = ((n + 1 : Nat) : Int) := by rw [w64 (by omega) (by unfold big at h; omega)]; omega
theorem inRange_eq (x a b : Int) : spec_inRange.f x a b = some (decide (a ≤ x ∧ x ≤ b)) := by
 unfold spec_inRange.f
 by_cases h : a ≤ x
 ·rw [if_pos h]; simp; omega
 ·rw [if_neg h]; simp; omega
theorem copyInts_eq {l : List Int} (h : l.length < big) (h2 : l.length < 17592186044416) : spec_copyInts.f l = some l := by
 unfold spec_copyInts.f
 simp [h2]
theorem ev_isIn_from (L : List Int) (x : Int) (hL : L.length < big) : ∀ (r pre : List Int), L = pre ++ r → Ev (fun k => spec_isIn.l0 k L x (pre.length : Int)) (decide (x ∈ r))
 | [], pre, hp => by
  refine Ev.succ ((Ev.const _).of fun k => ?_)
  rw [List.append_nil] at hp
  subst hp
  rw [spec_isIn.l0, if_neg (by omega)]
  simp
 | y :: r, pre, hp => by
  have hlen : L.length = pre.length + (r.length + 1) := by rw [hp]; simp
  have hrd : rd L (pre.length : Int) = y := by rw [hp]; exact rd_mid rfl
  refine Ev.succ ?_
  by_cases hy : y = x
  ·refine (Ev.const _).of fun k => ?_
   rw [spec_isIn.l0, if_pos (by omega), if_pos (by omega), hrd, if_pos hy]
   simp [hy]
  ·have ih := ev_isIn_from L x hL r (pre ++ [y]) (by rw [hp]; simp)
   have e : decide (x ∈ y :: r) = decide (x ∈ r) := by
    have : x ≠ y := fun h => hy h.symm
    simp [this]
   rw [e]
   refine ih.of fun k => ?_
   rw [spec_isIn.l0, if_pos (by omega), if_pos (by omega), hrd, if_neg hy, w64s (by omega)]
   simp
theorem ev_isIn {L : List Int} (hL : L.length < big) (x : Int) : Ev (fun k => spec_isIn.f k L x) (decide (x ∈ L)) := ev_isIn_from L x hL L [] rfl
theorem ev_allIn_from (L : List Int) (a b : Int) (hL : L.length < big) : ∀ (r pre : List Int), L = pre ++ r → Ev (fun k => spec_allIn.l0 k L a b (pre.length : Int)) (decide (∀ x ∈ r, a ≤ x ∧ x ≤ b))
 | [], pre, hp => by
  refine Ev.succ ((Ev.const _).of fun k => ?_)
  rw [List.append_nil] at hp
  subst hp
  rw [spec_allIn.l0, if_neg (by omega)]
  simp
 | y :: r, pre, hp => by
  have hlen : L.length = pre.length + (r.length + 1) := by rw [hp]; simp
  have hrd : rd L (pre.length : Int) = y := by rw [hp]; exact rd_mid rfl
  refine Ev.succ ?_
  by_cases hy : a ≤ y ∧ y ≤ b
  ·have ih := ev_allIn_from L a b hL r (pre ++ [y]) (by rw [hp]; simp)
   have e : decide (∀ x ∈ y :: r, a ≤ x ∧ x ≤ b) = decide (∀ x ∈ r, a ≤ x ∧ x ≤ b) := by simp [hy]
   rw [e]
   refine ih.of fun k => ?_
   rw [spec_allIn.l0, if_pos (by omega), if_pos (by omega), hrd, inRange_eq, decide_eq_true hy, Option.bind_some, if_pos rfl, w64s (by omega)]
   simp
  ·refine (Ev.const _).of fun k => ?_
   rw [spec_allIn.l0, if_pos (by omega), if_pos (by omega), hrd, inRange_eq, decide_eq_false hy, Option.bind_some, if_neg (by simp)]
   simp only [Option.some.injEq]
   rw [eq_comm, decide_eq_false_iff_not]
   exact fun h => hy (h y List.mem_cons_self)
theorem ev_allIn {L : List Int} (hL : L.length < big) (a b : Int) : Ev (fun k => spec_allIn.f k L a b) (decide (∀ x ∈ L, a ≤ x ∧ x ≤ b)) := ev_allIn_from L a b hL L [] rfl
def ascD : List Int → Bool
 | [] => true
 | [_] => true
 | x :: y :: r => decide (x < y) && ascD (y :: r)
theorem ev_asc_from (L : List Int) (hL : L.length < big) : ∀ (r pre : List Int) (x : Int), L = pre ++ x :: r → Ev (fun k => spec_ascends.l0 k L ((pre.length + 1 : Nat) : Int)) (ascD (x :: r))
 | [], pre, x, hp => by
  have hlen : L.length = pre.length + 1 := by rw [hp]; simp
  refine Ev.succ ((Ev.const _).of fun k => ?_)
  rw [spec_ascends.l0, if_neg (by omega)]
  rfl
 | y :: r, pre, x, hp => by
  have hlen : L.length = pre.length + (r.length + 1 + 1) := by rw [hp]; simp
  have hw : wrap64 (((pre.length + 1 : Nat) : Int) - 1) = (pre.length : Int) := by rw [w64 (by omega) (by unfold big at hL; omega)]; omega
  have hrd : rd L (pre.length : Int) = x := by rw [hp]; exact rd_mid rfl
  have hrd2 : rd L ((pre.length + 1 : Nat) : Int) = y := by
   have : L = (pre ++ [x]) ++ y :: r := by rw [hp]; simp
   rw [this]; exact rd_mid (by simp)
  refine Ev.succ ?_
  by_cases hy : x < y
  ·have ih := ev_asc_from L hL r (pre ++ [x]) y (by rw [hp]; simp)
   have e : ascD (x :: y :: r) = ascD (y :: r) := by simp [ascD, hy]
   rw [e]
   refine ih.of fun k => ?_
   rw [spec_ascends.l0, if_pos (by omega), if_pos (by omega), hw, if_pos (by omega), if_pos (by omega), hrd, hrd2, if_neg (by omega), w64s (by omega)]
   simp
  ·have e : ascD (x :: y :: r) = false := by simp [ascD, hy]
   rw [e]
   refine (Ev.const _).of fun k => ?_
   rw [spec_ascends.l0, if_pos (by omega), if_pos (by omega), hw, if_pos (by omega), if_pos (by omega), hrd, hrd2, if_pos (by omega)]
theorem ev_ascends {L : List Int} (hL : L.length < big) : Ev (fun k => spec_ascends.f k L) (ascD L) := by
 cases L with
 | nil =>
  refine Ev.of (Ev.succ ((Ev.const true).of (g := fun k => spec_ascends.l0 (k + 1) [] 1) fun k => ?_)) (fun k => rfl)
  rw [spec_ascends.l0, if_neg (by simp)]
 | cons x r => exact ev_asc_from (x :: r) hL r [] x rfl
theorem ev_allDone_from (L M : List Int) (hL : L.length < big) (hM : M.length < big) : ∀ (r pre : List Int), L = pre ++ r → Ev (fun k => spec_allDone.l0 k L M (pre.length : Int)) (decide (∀ x ∈ r, x ∈ M))
 | [], pre, hp => by
  refine Ev.succ ((Ev.const _).of fun k => ?_)
  rw [List.append_nil] at hp
  subst hp
  rw [spec_allDone.l0, if_neg (by omega)]
  simp
 | y :: r, pre, hp => by
  have hlen : L.length = pre.length + (r.length + 1) := by rw [hp]; simp
  have hrd : rd L (pre.length : Int) = y := by rw [hp]; exact rd_mid rfl
  have hi := ev_isIn hM y
  refine Ev.succ ?_
  by_cases hy : y ∈ M
  ·have ih := ev_allDone_from L M hL hM r (pre ++ [y]) (by rw [hp]; simp)
   have e : decide (∀ x ∈ y :: r, x ∈ M) = decide (∀ x ∈ r, x ∈ M) := by simp [hy]
   rw [e]
   rw [decide_eq_true hy] at hi
   refine (hi.bind (g := fun k t => if t = true then spec_allDone.l0 k L M ((pre ++ [y]).length : Int) else some false) (ih.of fun k => if_pos rfl)).of fun k => ?_
   rw [spec_allDone.l0, if_pos (by omega), if_pos (by omega), hrd, w64s (by omega)]
   simp
  ·have e : decide (∀ x ∈ y :: r, x ∈ M) = false := by
    rw [decide_eq_false_iff_not]
    exact fun h => hy (h y List.mem_cons_self)
   rw [e]
   rw [decide_eq_false hy] at hi
   refine (hi.bind (g := fun k t => if t = true then spec_allDone.l0 k L M ((pre ++ [y]).length : Int) else some false) ((Ev.const false).of fun k => if_neg (by simp))).of fun k => ?_
   rw [spec_allDone.l0, if_pos (by omega), if_pos (by omega), hrd, w64s (by omega)]
   simp
theorem ev_allDone {L M : List Int} (hL : L.length < big) (hM : M.length < big) : Ev (fun k => spec_allDone.f k L M) (decide (∀ x ∈ L, x ∈ M)) := ev_allDone_from L M hL hM L [] rfl
def needsOk (n : Nat) (l : List Int) : Prop := (∀ x ∈ l, 0 ≤ x ∧ x ≤ (n : Int) - 1) ∧ ascD l = true
instance (n : Nat) (l : List Int) : Decidable (needsOk n l) := by unfold needsOk; infer_instance
theorem ev_validTask {t : Tk} (ht : t.f1.length < big) {n : Nat} (hn : n < big) : Ev (fun k => spec_validTask.f k t.f0 t.f1 t.f2 t.f3 (n : Int)) (decide (taskOk t ∧ needsOk n t.f1)) := by
 have hw : wrap64 ((n : Int) - 1) = (n : Int) - 1 := w64 (by omega) (by unfold big at hn; omega)
 have hA := ev_allIn ht 0 ((n : Int) - 1)
 have hB := ev_ascends ht
 by_cases h1 : 1 ≤ t.f0 ∧ t.f0 ≤ 20
 ·by_cases h2 : 0 ≤ t.f2 ∧ t.f2 ≤ 2
  ·by_cases h3 : 1 ≤ t.f3 ∧ t.f3 ≤ 4
   ·have hok : taskOk t := ⟨h1, h2, h3⟩
    have hu : ∀ k, spec_validTask.f k t.f0 t.f1 t.f2 t.f3 (n : Int) = (spec_allIn.f k t.f1 0 ((n : Int) - 1)).bind fun t113 => (if t113 = true then ((spec_ascends.f k t.f1).bind fun t114 => (some t114)) else (some false)) := by
     intro k
     unfold spec_validTask.f
     rw [inRange_eq, inRange_eq, inRange_eq, decide_eq_true h1, decide_eq_true h2, decide_eq_true h3, hw]
     rfl
    refine Ev.of ?_ hu
    refine (hA.bind (g := fun k t113 => if t113 = true then ((spec_ascends.f k t.f1).bind fun t114 => (some t114)) else (some false)) (b := decide (taskOk t ∧ needsOk n t.f1)) ?_)
    by_cases h4 : ∀ x ∈ t.f1, 0 ≤ x ∧ x ≤ (n : Int) - 1
    ·rw [decide_eq_true h4]
     have e : decide (taskOk t ∧ needsOk n t.f1) = ascD t.f1 := by
      cases h5 : ascD t.f1
      ·rw [decide_eq_false_iff_not]; intro h; have := h.2.2; rw [h5] at this; cases this
      ·rw [decide_eq_true_eq]; exact ⟨hok, h4, h5⟩
     rw [e]
     refine (hB.bind (g := fun _ t114 => some t114) (Ev.const _)).of fun k => ?_
     rw [if_pos rfl]
    ·rw [decide_eq_false h4]
     have e : decide (taskOk t ∧ needsOk n t.f1) = false := by rw [decide_eq_false_iff_not]; exact fun h => h4 h.2.1
     rw [e]
     exact (Ev.const false).of fun k => if_neg (by simp)
   ·have e : decide (taskOk t ∧ needsOk n t.f1) = false := by rw [decide_eq_false_iff_not]; exact fun h => h3 h.1.2.2
    rw [e]
    refine (Ev.const false).of fun k => ?_
    unfold spec_validTask.f
    rw [inRange_eq, inRange_eq, inRange_eq, decide_eq_true h1, decide_eq_true h2, decide_eq_false h3]
    rfl
  ·have e : decide (taskOk t ∧ needsOk n t.f1) = false := by rw [decide_eq_false_iff_not]; exact fun h => h2 h.1.2.1
   rw [e]
   refine (Ev.const false).of fun k => ?_
   unfold spec_validTask.f
   rw [inRange_eq, inRange_eq, decide_eq_true h1, decide_eq_false h2]
   rfl
 ·have e : decide (taskOk t ∧ needsOk n t.f1) = false := by rw [decide_eq_false_iff_not]; exact fun h => h1 h.1.1
  rw [e]
  refine (Ev.const false).of fun k => ?_
  unfold spec_validTask.f
  rw [inRange_eq, decide_eq_false h1]
  rfl
/-- All lists are of a size that fits. -/
def Fits (g : List Tk) : Prop := g.length < big ∧ ∀ t ∈ g, t.f1.length < big
theorem ev_tasksFine_from (g : List Tk) (hg : Fits g) : ∀ (r pre : List Tk), g = pre ++ r → Ev (fun k => spec_tasksFine.l0 k g (pre.length : Int)) (decide ((∀ t ∈ r, taskOk t ∧ needsOk g.length t.f1) ∧ g.length ≤ 8))
 | [], pre, hp => by
  refine Ev.succ ((Ev.const _).of fun k => ?_)
  rw [List.append_nil] at hp
  subst hp
  rw [spec_tasksFine.l0, if_neg (by omega)]
  congr 1
  rw [decide_eq_decide]
  constructor
  ·intro h; exact ⟨by simp, by omega⟩
  ·intro h; omega
 | t :: r, pre, hp => by
  have hlen : g.length = pre.length + (r.length + 1) := by rw [hp]; simp
  have hbig := hg.1
  have hrd : rd_T48 g (pre.length : Int) = t := by rw [hp]; exact rdT_mid rfl
  have hv := ev_validTask (hg.2 t (by rw [hp]; simp)) hg.1
  refine Ev.succ ?_
  by_cases hy : taskOk t ∧ needsOk g.length t.f1
  ·have ih := ev_tasksFine_from g hg r (pre ++ [t]) (by rw [hp]; simp)
   have e : decide ((∀ t' ∈ t :: r, taskOk t' ∧ needsOk g.length t'.f1) ∧ g.length ≤ 8) = decide ((∀ t ∈ r, taskOk t ∧ needsOk g.length t.f1) ∧ g.length ≤ 8) := by simp [hy]
   rw [e]
   rw [decide_eq_true hy] at hv
   refine (hv.bind (g := fun k b => if b = true then spec_tasksFine.l0 k g ((pre ++ [t]).length : Int) else some false) (ih.of fun k => if_pos rfl)).of fun k => ?_
   rw [spec_tasksFine.l0, if_pos (by omega), if_pos (by omega), hrd, w64s (by omega)]
   simp
  ·have e : decide ((∀ t' ∈ t :: r, taskOk t' ∧ needsOk g.length t'.f1) ∧ g.length ≤ 8) = false := by
    rw [decide_eq_false_iff_not]
    exact fun h => hy (h.1 t List.mem_cons_self)
   rw [e]
   rw [decide_eq_false hy] at hv
   refine (hv.bind (g := fun k b => if b = true then spec_tasksFine.l0 k g ((pre ++ [t]).length : Int) else some false) ((Ev.const false).of fun k => if_neg (by simp))).of fun k => ?_
   rw [spec_tasksFine.l0, if_pos (by omega), if_pos (by omega), hrd, w64s (by omega)]
   simp
def fineD (g : List Tk) : Prop := (∀ t ∈ g, taskOk t ∧ needsOk g.length t.f1) ∧ g.length ≤ 8
instance (g : List Tk) : Decidable (fineD g) := by unfold fineD; infer_instance
theorem ev_tasksFine {g : List Tk} (hg : Fits g) : Ev (fun k => spec_tasksFine.f k g) (decide (fineD g)) := ev_tasksFine_from g hg g [] rfl
end Go.Proofs.YtpibdjkajgfgjaaDoor.Core
end
section
set_option linter.unusedVariables false
set_option linter.unusedSimpArgs false
namespace Go.Proofs.YtpibdjkajgfgjaaDoor.Core
open Go Go.RowKit Go.Shelf Go.Proofs.YtpibdjkajgfgjaaDoorW.PrintWords Go.Proofs.YtpibdjkajgfgjaaDoorW.PrintMore Go.Proofs.YtpibdjkajgfgjaaDoor.P
attribute [local go_sem] Oper.semAt_some wide_fn wide_depth
theorem needsGo_taskOk {n : Nat} : ∀ {r : List Tk} {N : List Nat}, needsGo n r = some N → ∀ t ∈ r, taskOk t
 | [], _, _, t, ht => by cases ht
 | a :: r, N, h, t, ht => by
  rw [needsGo] at h
  cases he : setD n a.f1 with
  | none => rw [he] at h; cases h
  | some s =>
   rw [he] at h
   by_cases hok : taskOk a
   ·simp only [hok, if_true] at h
    cases hg : needsGo n r with
    | none => rw [hg] at h; cases h
    | some M =>
     rcases List.mem_cons.1 ht with rfl | ht
     ·exact hok
     ·exact needsGo_taskOk hg t ht
   ·simp [hok] at h
theorem graphD_taskOk {g : List Tk} {G : GD} (h : graphD g = some G) : ∀ t ∈ g, taskOk t := by
 obtain ⟨N, hN, _, _⟩ := graphD_spec h
 unfold needsD at hN
 by_cases h8 : g.length ≤ 8
 ·rw [if_pos h8] at hN; exact needsGo_taskOk hN
 ·rw [if_neg h8] at hN; cases hN
theorem graphD_pool {g : List Tk} {G : GD} (h : graphD g = some G) : ∀ t ∈ G.tasks, 0 ≤ t.f2 ∧ t.f2 ≤ 2 := fun t ht => by
 rw [graphD_tasks h] at ht
 exact (graphD_taskOk h t ht).2.1
theorem drawn_below {w w' : World} (h : Drawn0 w w') : Below w.heap.size w w' := by
 obtain ⟨n, rfl⟩ := h
 exact pw_below_drewN (Below.refl _ _) n
theorem graphOf_none (A0 : Option Addr) (c0 : Nat) (l0 : List Tk) (w : World) (hT : Tab w) (hr0 : k48.C w A0 l0.length l0) (hc0 : l0.length ≤ c0) (hg : graphD l0 = none) :
  Calls Tryd.prog 60 #[.slice A0 l0.length c0] w fun e w' => e = .returned (.tuple #[.pointer none, .bool false]) ∧ Below w.heap.size w w' :=
 (graphOf_calls A0 c0 l0 w hT hr0 hc0).mono fun e w' h => by unfold graphPost at h; rw [hg] at h; exact h
theorem graphOf_row (A0 : Option Addr) (c0 : Nat) (l0 : List Tk) (G : GD) (w : World) (hT : Tab w) (hr0 : k48.C w A0 l0.length l0) (hc0 : l0.length ≤ c0) (hg : graphD l0 = some G) :
  Calls Tryd.prog 60 #[.slice A0 l0.length c0] w fun e w' => ∃ (b : Nat) (v : Value), e = .returned (.tuple #[.pointer (some ⟨b, 0, none⟩), .bool true]) ∧ Below w.heap.size w w' ∧ w.heap.size ≤ b ∧ IsG w' b G ∧ w'.cell? ⟨b, 2, none⟩ = some v ∧ (Kd.int .i64).R 3 w' w.heap.size (fun _ => True) v (up G.order) :=
 (graphOf_calls A0 c0 l0 w hT hr0 hc0).mono fun e w' h => by
  unfold graphPost at h
  rw [hg] at h
  obtain ⟨b, v, h1, h2, h3, h4, h5, h6, _⟩ := h
  exact ⟨b, v, h1, h2, h3, h4, h5, h6⟩
theorem graphOf_some (A0 : Option Addr) (c0 : Nat) (l0 : List Tk) (G : GD) (w : World) (hT : Tab w) (hr0 : k48.C w A0 l0.length l0) (hc0 : l0.length ≤ c0) (hg : graphD l0 = some G) :
  Calls Tryd.prog 60 #[.slice A0 l0.length c0] w fun e w' => ∃ b : Nat, e = .returned (.tuple #[.pointer (some ⟨b, 0, none⟩), .bool true]) ∧ Below w.heap.size w w' ∧ IsG w' b G :=
 (graphOf_row A0 c0 l0 G w hT hr0 hc0 hg).mono fun e w' ⟨b, v, h1, h2, _, h3, _⟩ => ⟨b, h1, h2, h3⟩
theorem setOf_none {n : Nat} (hn : n ≤ 8) (A : Option Addr) (c : Nat) (L : List Int) (w : World) (hC : (Kd.int .i64).C w A L.length L) (hc : L.length ≤ c) (h : setD n L = none) :
  Calls Tryd.prog 61 #[.slice A L.length c, .int .i64 (n : Int)] w fun e w' => e = .returned (.tuple #[.int .u16 0, .bool false]) ∧ Below w.heap.size w w' := by
 obtain ⟨k, hk⟩ := (ev_setOf hn L).one
 rw [h] at hk
 exact (impl_setOf.calls k A c L (n : Int) 0 false w hC hc hk).mono fun e w' h => ⟨h.1, drawn_below h.2⟩
theorem setOf_some {n : Nat} (hn : n ≤ 8) (A : Option Addr) (c : Nat) (L : List Int) (s : Nat) (w : World) (hC : (Kd.int .i64).C w A L.length L) (hc : L.length ≤ c) (h : setD n L = some s) :
  Calls Tryd.prog 61 #[.slice A L.length c, .int .i64 (n : Int)] w fun e w' => e = .returned (.tuple #[.int .u16 (s : Int), .bool true]) ∧ Below w.heap.size w w' := by
 obtain ⟨k, hk⟩ := (ev_setOf hn L).one
 rw [h] at hk
 exact (impl_setOf.calls k A c L (n : Int) (s : Int) true w hC hc hk).mono fun e w' h => ⟨h.1, drawn_below h.2⟩
theorem within_is (x a b : Int) (t : Bool) (w : World) (h : decide (a ≤ x ∧ x ≤ b) = t) :
  Calls Tryd.prog 64 #[.int .i64 x, .int .i64 a, .int .i64 b] w fun e w' => e = .returned (.bool t) ∧ Below w.heap.size w w' :=
 (impl_within.calls x a b t w (by rw [within_eq, h])).mono fun e w' h => ⟨h.1, drawn_below h.2⟩
theorem cell_set {W : World} {p t i : Nat} {cs : Array Value} (h : W.heap[p]? = some (.cells cs t (0, 0))) (v : Value) : (W.setCell ⟨p, i, none⟩ v).heap[p]? = some (.cells (cs.setIfInBounds i v) t (0, 0)) := by
 obtain ⟨hlt, hk⟩ := Array.getElem?_eq_some_iff.1 h
 show (W.heap.modify p _)[p]? = _
 rw [Array.getElem?_eq_getElem (by rw [Array.size_modify]; exact hlt), Array.getElem_modify_self, hk]
 rfl
theorem grown_trans {a b c : World} {row : Option Nat} (h1 : a.grownBy b row) (h2 : b.grownBy c row) : a.grownBy c row :=
 ⟨h2.os.trans h1.os, h2.tape.trans h1.tape, h2.output.trans h1.output, Nat.le_trans h1.size h2.size, fun k hk hn => (h2.block k (Nat.lt_of_lt_of_le hk h1.size) hn).trans (h1.block k hk hn)⟩
theorem grown_of_below {a b : World} (row : Option Nat) (h : Below a.heap.size a b) : a.grownBy b row := ⟨h.os, h.tape, h.output, h.size, fun k hk _ => h.block k hk⟩
theorem wpOpsIn_of_wpOps {P : Program} {ops : Array Oper} {Q : Exit → Act → World → Prop} {l n : Nat} (hnd : ∀ (i : Nat) (o : Oper), ops[i]? = some o → ∀ c : Call, o.op ≠ Op.defer c) (hQ : ¬ LetsOut Q) : ∀ (is : List Nat) (a : Act) (w : World), wpOps P ops Q is a w → wpOpsIn (Fence.wide.inRound l) n P ops Q is a w
 | [], _, _, h => h
 | i :: is, a, w, h => by
  rw [wpOps_cons] at h
  rw [wpOpsIn_cons]
  exact wpOpIn_of_wpOp (hnd i) hQ (fun a' w' h' => wpOpsIn_of_wpOps hnd hQ is a' w' h') h
theorem region_in {P : Program} {id l n : Nat} {Q : Exit → Act → World → Prop} {a : Act} {w : World} {ops : Array Oper} (hd : noDefer ops = true) (hQ : ¬ LetsOut Q) (h : wpList P ops Q ops.toList a w) : (Code.region id ops false).wpIn (Fence.wide.inRound l) n P Q a w :=
 wpIn_region (wpOpsIn_of_wpOps (noDefer_spec hd) hQ _ _ _ (by rw [List.range_eq_range', ← Array.length_toList, wpOps_eq_wpList ops.toList 0 (by simp)]; exact h))
theorem leaveM' {P : Program} {fn : Func} {tmps : Array Value} {R : Ending → World → Prop} {lo hi : Nat} :
  ∀ (ds : List Deferred) (W : World), Marks lo hi W ds → (∀ W', Tame lo W W' → ∃ v, (results fn tmps).run P W' = .ok v W' ∧ R (.returned v) W') → LeavesInM Fence.wide 0 P fn tmps R ds .returning W
 | [], W, _, hR => by
  obtain ⟨v, h1, h2⟩ := hR W (Tame.refl _ _)
  exact ⟨v, h1, h2⟩
 | d :: ds, W, hm, hR => by
  obtain ⟨D, rfl, h1, h2, h3⟩ := hm.2 d (List.mem_cons_self)
  have hlt := (Array.getElem?_eq_some_iff.1 h3).1
  have hnd := List.nodup_cons.1 hm.1
  refine ⟨by simp, .inl ⟨D, _, rfl, run_takeDeferred h3, ?_⟩⟩
  have ht : Tame lo W (W.putObj D (.deferred none)) := Tame.of_own (grownBy_putObj' W D _) (fun r e => by cases e; exact ⟨h1, _, h3, rfl⟩)
  refine leaveM' (hi := hi) ds _ ⟨hnd.2, fun d' hd' => ?_⟩ (fun W' h' => hR W' (ht.trans h'))
  obtain ⟨D', rfl, h1', h2', h3'⟩ := hm.2 d' (List.mem_cons_of_mem _ hd')
  refine ⟨D', rfl, h1', h2', (World.putObj_heap_other ?_).trans h3'⟩
  rintro rfl
  exact hnd.1 hd'
theorem leave_ret' {P : Program} {fn : Func} {a : Act} {W : World} {R : Ending → World → Prop} {lo hi : Nat} (hm : Marks lo hi W a.defers)
  (hR : ∀ W', Tame lo W W' → ∃ v, (results fn a.tmps).run P W' = .ok v W' ∧ R (.returned v) W') : bodyPostM Fence.wide 0 P fn R .ret a W := leaveM' _ _ hm hR
end Go.Proofs.YtpibdjkajgfgjaaDoor.Core
end
section
set_option linter.unusedVariables false
set_option linter.unusedSimpArgs false
namespace Go.Proofs.YtpibdjkajgfgjaaDoor.Core
open Go Go.RowKit Go.Shelf Go.Proofs.YtpibdjkajgfgjaaDoorW.PrintWords Go.Proofs.YtpibdjkajgfgjaaDoorW.PrintLast Go.Proofs.YtpibdjkajgfgjaaDoorW.PrintMore Go.Proofs.YtpibdjkajgfgjaaDoor.P
attribute [local go_sem] Oper.semAt_some wide_fn wide_depth
/-- A counter: the tasks, the units of each pool. -/
structure Cn where
 t : Int
 u0 : Int
 u1 : Int
 u2 : Int
def Cn.cells (c : Cn) : Array Value := #[.int .i64 c.t, .int .i64 c.u0, .int .i64 c.u1, .int .i64 c.u2]
def IsCn (w : World) (b : Nat) (c : Cn) : Prop := w.heap[b]? = some (.cells #[.int .i64 c.t, .int .i64 c.u0, .int .i64 c.u1, .int .i64 c.u2] 73 (0, 0))
def Cn.add (c : Cn) (p u s : Int) : Cn :=
 { t := wrap64 (c.t + s), u0 := if p = 0 then wrap64 (c.u0 + wrap64 (s * u)) else c.u0, u1 := if p = 1 then wrap64 (c.u1 + wrap64 (s * u)) else c.u1, u2 := if p = 2 then wrap64 (c.u2 + wrap64 (s * u)) else c.u2 }
theorem IsCn.cell0 {w : World} {b : Nat} {c : Cn} (h : IsCn w b c) : w.cell? ⟨b, 0, none⟩ = some (.int .i64 c.t) := by unfold IsCn at h; simp [World.cell?, h]
theorem IsCn.cell1 {w : World} {b : Nat} {c : Cn} (h : IsCn w b c) : w.cell? ⟨b, 1, none⟩ = some (.int .i64 c.u0) := by unfold IsCn at h; simp [World.cell?, h]
theorem IsCn.cell2 {w : World} {b : Nat} {c : Cn} (h : IsCn w b c) : w.cell? ⟨b, 2, none⟩ = some (.int .i64 c.u1) := by unfold IsCn at h; simp [World.cell?, h]
theorem IsCn.cell3 {w : World} {b : Nat} {c : Cn} (h : IsCn w b c) : w.cell? ⟨b, 3, none⟩ = some (.int .i64 c.u2) := by unfold IsCn at h; simp [World.cell?, h]
theorem IsCn.frozen {w : World} {b i : Nat} {c : Cn} (h : IsCn w b c) : w.frozen? ⟨b, i, none⟩ = false := by unfold IsCn at h; simp [World.frozen?, h]
theorem IsCn.move {w w' : World} {b : Nat} {c : Cn} (h : IsCn w b c) (hb : Below w.heap.size w w') : IsCn w' b c := (hb.block b (cells_lt h)).trans h
set_option maxRecDepth 100000 in
set_option maxHeartbeats 4000000 in
theorem add_calls (pc : Nat) (c : Cn) (f0 f2 f3 s : Int) (A : Option Addr) (n cp : Nat) (w : World) (hc : IsCn w pc c) (hp : f2 = 0 ∨ f2 = 1 ∨ f2 = 2) :
  Calls Tryd.prog 105 #[.pointer (some ⟨pc, 0, none⟩), .agg #[.int .i64 f0, .slice A n cp, .int .i64 f2, .int .i64 f3], .int .i64 s] w fun e w' => e = .returned (.tuple #[]) ∧ w.grownBy w' (some pc) ∧ IsCn w' pc (c.add f2 f3 s) := by
 have hB0 := (Below.refl w.heap.size w).alloc (Nat.le_refl _) (.cells #[.int .i64 f0, .slice A n cp, .int .i64 f2, .int .i64 f3] 48)
 have hcA := hc.move hB0
 have hc0 := hcA.cell0
 have hf0 := hcA.frozen (i := 0)
 go_enter Tryd.func105, Tryd.ntmps105
 go_wp2
 have hpar : (w.alloc (.cells #[.int .i64 f0, .slice A n cp, .int .i64 f2, .int .i64 f3] 48)).heap[w.heap.size]? = some (.cells #[.int .i64 f0, .slice A n cp, .int .i64 f2, .int .i64 f3] 48 (0, 0)) := cells_new w _
 clear hc0 hf0
 have hlt := cells_lt hc
 revert hB0 hcA hpar
 generalize w.alloc (.cells #[.int .i64 f0, .slice A n cp, .int .i64 f2, .int .i64 f3] 48) = w1
 intro hB0 hcA hpar
 have hg1 := grown_trans (grown_of_below (some pc) hB0) (grownBy_setCell'' w1 pc 0 (.int .i64 (wrap64 (c.t + s))))
 have hpar2 := (sother (i := 0) (.int .i64 (wrap64 (c.t + s))) (show w.heap.size ≠ pc by omega)).trans hpar
 have hcB : IsCn (w1.setCell ⟨pc, 0, none⟩ (.int .i64 (wrap64 (c.t + s)))) pc { c with t := wrap64 (c.t + s) } := cell_set hcA _
 revert hg1 hpar2 hcB
 generalize w1.setCell ⟨pc, 0, none⟩ (.int .i64 (wrap64 (c.t + s))) = w2
 intro hg1 hpar2 hcB
 clear hB0 hcA hpar
 refine wp_region_still_tail 15 rfl (by kernel_rfl) ?_
 change wpStill _ _ w2.drew (fun a' => wpList _ _ _ _ a' w2.drew) _ _
 have hdr : Below w2.heap.size w2 w2.drew := below_drew (Below.refl _ _)
 revert hdr
 generalize w2.drew = w3
 intro hdr
 have hcC := hcB.move hdr
 have hpar3 := (hdr.block _ (cells_lt hpar2)).trans hpar2
 have hg3 := grown_trans hg1 (grown_of_below (some pc) hdr)
 clear hcB hpar2 hg1 hdr
 have ht2 : w3.cell? ⟨w.heap.size, 2, none⟩ = some (.int .i64 f2) := by simp [World.cell?, hpar3]
 have ht3 : w3.cell? ⟨w.heap.size, 3, none⟩ = some (.int .i64 f3) := by simp [World.cell?, hpar3]
 have hc1 := hcC.cell1
 have hc2 := hcC.cell2
 have hc3 := hcC.cell3
 have hf1 := hcC.frozen (i := 1)
 have hf2 := hcC.frozen (i := 2)
 have hf3 := hcC.frozen (i := 3)
 simp only [List.take_succ_cons, List.take_zero, List.drop_succ_cons, List.drop_zero]
 rcases hp with rfl | rfl | rfl
 ·repeat still_step
  refine wpStill_nil ?_
  go_wp2
  go_end0
  exact ⟨rfl, grown_trans hg3 (grownBy_setCell'' _ _ _ _), cell_set hcC _⟩
 ·repeat still_step
  refine wpStill_nil ?_
  go_wp2
  go_end0
  exact ⟨rfl, grown_trans hg3 (grownBy_setCell'' _ _ _ _), cell_set hcC _⟩
 ·repeat still_step
  refine wpStill_nil ?_
  go_wp2
  go_end0
  exact ⟨rfl, grown_trans hg3 (grownBy_setCell'' _ _ _ _), cell_set hcC _⟩
theorem IsCn.tame {B : Nat} {w w' : World} {b : Nat} {c : Cn} (h : IsCn w b c) (ht : Tame B w w') : IsCn w' b c := ht.cells h
def Cn.zero : Cn := ⟨0, 0, 0, 0⟩
def cstep (g : List Tk) (c : Cn) (i : Nat) : Cn := c.add (g.getD i z48).f2 (g.getD i z48).f3 1
def countSet (g : List Tk) (s : Nat) : Cn := (elemsN s).foldl (cstep g) Cn.zero
theorem infoCn : (Tryd.prog.info? 73).map (·.size) = some 4 := by kernel_rfl
set_option maxRecDepth 100000 in
set_option maxHeartbeats 8000000 in
theorem counted_calls (b : Nat) (G : GD) (s : Nat) (w : World) (hT : Tab w) (hg : IsG w b G) (h8 : G.tasks.length ≤ 8) (hpool : ∀ t ∈ G.tasks, 0 ≤ t.f2 ∧ t.f2 ≤ 2) (hs : s < 2 ^ G.tasks.length) :
  Calls Tryd.prog 63 #[.pointer (some ⟨b, 0, none⟩), .int .u16 (s : Int)] w fun e w' => e = .returned (.agg #[.int .i64 (countSet G.tasks s).t, .int .i64 (countSet G.tasks s).u0, .int .i64 (countSet G.tasks s).u1, .int .i64 (countSet G.tasks s).u2]) ∧ Below w.heap.size w w' := by
 have hs256 : s < 256 := Nat.lt_of_lt_of_le hs (pow8 h8)
 refine calls_marks Tryd.func63 rfl ?_
 simp only [Tryd.ntmps63, List.size_toArray, List.length_cons, List.length_nil, Nat.reduceAdd, Nat.reduceSub, Array.replicate_succ, Array.replicate_zero, List.push_toArray, List.append_toArray, List.nil_append, List.cons_append]
 go_wp2_with (go_at_call 79; refine (all_calls s _).mono ?_; rintro e w' ⟨rfl, rfl⟩)
 have o1 : (w.alloc (.cells #[.pointer (some ⟨b, 0, none⟩)] 63)).heap.size = w.heap.size + 1 := by simp
 have x1 := Boxed.new w 63 (.pointer (some ⟨b, 0, none⟩))
 have B1 := (Below.refl w.heap.size w).alloc (Nat.le_refl _) (.cells #[.pointer (some ⟨b, 0, none⟩)] 63)
 revert o1 x1 B1
 generalize w.alloc (.cells #[.pointer (some ⟨b, 0, none⟩)] 63) = w1
 intro o1 x1 B1
 have o2 : (w1.alloc (.cells #[.int .i64 0, .int .i64 0, .int .i64 0, .int .i64 0] 73)).heap.size = w.heap.size + 1 + 1 := by simp [o1]
 have x2 := x1.alloc (.cells #[.int .i64 0, .int .i64 0, .int .i64 0, .int .i64 0] 73)
 have B2 := B1.alloc (by omega) (.cells #[.int .i64 0, .int .i64 0, .int .i64 0, .int .i64 0] 73)
 have r2 : IsCn (w1.alloc (.cells #[.int .i64 0, .int .i64 0, .int .i64 0, .int .i64 0] 73)) (w.heap.size + 1) Cn.zero := by rw [← o1]; exact cells_new w1 _
 revert o2 x2 B2 r2
 generalize w1.alloc (.cells #[.int .i64 0, .int .i64 0, .int .i64 0, .int .i64 0] 73) = w2
 intro o2 x2 B2 r2
 have o3 : (w2.alloc (.cells #[.int .i64 0, .int .i64 0, .int .i64 0, .int .i64 0] 73)).heap.size = w.heap.size + 1 + 1 + 1 := by simp [o2]
 have x3 := x2.alloc (.cells #[.int .i64 0, .int .i64 0, .int .i64 0, .int .i64 0] 73)
 have B3 := B2.alloc (by omega) (.cells #[.int .i64 0, .int .i64 0, .int .i64 0, .int .i64 0] 73)
 have r3 : IsCn (w2.alloc (.cells #[.int .i64 0, .int .i64 0, .int .i64 0, .int .i64 0] 73)) (w.heap.size + 1) Cn.zero := cells_alloc r2 _
 have c3 : IsCn (w2.alloc (.cells #[.int .i64 0, .int .i64 0, .int .i64 0, .int .i64 0] 73)) (w.heap.size + 1 + 1) Cn.zero := by rw [← o2]; exact cells_new w2 _
 revert o3 x3 B3 r3 c3
 generalize w2.alloc (.cells #[.int .i64 0, .int .i64 0, .int .i64 0, .int .i64 0] 73) = w3
 intro o3 x3 B3 r3 c3
 have s4 := Boxed.new w3 67 (.int .u16 (s : Int))
 rw [o3] at s4
 have o4 : (w3.alloc (.cells #[.int .u16 (s : Int)] 67)).heap.size = w.heap.size + 1 + 1 + 1 + 1 := by simp [o3]
 have x4 := x3.alloc (.cells #[.int .u16 (s : Int)] 67)
 have B4 := B3.alloc (by omega) (.cells #[.int .u16 (s : Int)] 67)
 have r4 : IsCn (w3.alloc (.cells #[.int .u16 (s : Int)] 67)) (w.heap.size + 1) Cn.zero := cells_alloc r3 _
 have c4 : IsCn (w3.alloc (.cells #[.int .u16 (s : Int)] 67)) (w.heap.size + 1 + 1) Cn.zero := cells_alloc c3 _
 revert s4 o4 x4 B4 r4 c4
 generalize w3.alloc (.cells #[.int .u16 (s : Int)] 67) = w4
 intro s4 o4 x4 B4 r4 c4
 clear x1 B1 o1 x2 B2 o2 r2 x3 B3 o3 r3 c3
 have hle : w.heap.size ≤ w4.heap.size := B4.size
 refine wp_rangeSet Tab.tame (w := w4) (w0 := w4) (p := 9) (d := 6) rfl (enters_of Tryd.func111 (by kernel_rfl) rfl)
  (all_seq (w.heap.size + 1 + 1 + 1) s hs256 w4 (hT.of B4) s4.cell) (Below.refl _ _) (by simp)
  (fun ys W' => ∃ zs : List Nat, ys = up zs ∧ Boxed W' w.heap.size 63 (.pointer (some ⟨b, 0, none⟩)) ∧ IsCn W' (w.heap.size + 1) Cn.zero ∧ IsCn W' (w.heap.size + 1 + 1) (zs.foldl (cstep G.tasks) Cn.zero) ∧ Below w.heap.size w W' ∧ w4.heap.size ≤ W'.heap.size) (fun _ _ _ => False)
  (ownFrom_tame (fun ys W' W'' ht ⟨zs, a, c, d, e, f, g⟩ => ⟨zs, a, ht.boxed c, d.tame ht, e.tame ht, ht.below f (Nat.le_refl _) hle, Nat.le_trans g ht.size⟩)) (fun _ => ownFrom_tame (fun _ _ _ _ h => h))
  ⟨[], rfl, x4, r4, c4, B4, Nat.le_refl _⟩ (fun ys W' ⟨_, _, _, _, _, h, _⟩ => hT.of h) ?body ?done (fun _ _ _ _ _ h _ => h.elim)
 case body =>
  rintro l pre1 x W1 hx ⟨zs, rfl, hxb, hr, hcn, hB, hsz⟩ hlt1
  obtain ⟨i, hxi, hi8, hib⟩ := mem_elems.1 hx
  have hin : i < G.tasks.length := by have := elems_lt hs hx; omega
  have hg1 := hg.move hB
  obtain ⟨A, c, hc0, hcl, hC⟩ := hg1.tasks
  have p0 : 0 ≤ x := by omega
  have q0 : x < (G.tasks.length : Int) := by omega
  obtain ⟨ad, A1, c1, e0, h0, h1, h2, h3, h4, h5⟩ := at_T48 hC x p0 q0
  subst e0
  have hrd : rd_T48 G.tasks x = G.tasks.getD i z48 := by rw [hxi]; simp [rd_T48]
  rw [hrd] at h0 h1 h2 h3 h4 h5
  have hmem : G.tasks.getD i z48 ∈ G.tasks := by
   rw [List.getD_eq_getElem?_getD, List.getElem?_eq_getElem hin]
   exact List.getElem_mem hin
  have hp := hpool _ hmem
  have hstep : (zs ++ [i]).foldl (cstep G.tasks) Cn.zero = (zs.foldl (cstep G.tasks) Cn.zero).add (G.tasks.getD i z48).f2 (G.tasks.getD i z48).f3 1 := by rw [List.foldl_append]; rfl
  generalize G.tasks.getD i z48 = tk at h0 h1 h2 h3 h4 h5 hp hstep
  generalize zs.foldl (cstep G.tasks) Cn.zero = cc at hcn hstep
  replace p0 := eq_true p0
  replace q0 := eq_true q0
  have hcx := hxb.cell
  have HX := Aside0.mk hxi
  clear hxi hx hib
  refine wpIn_block ?_
  refine region_in (by kernel_rfl) (fun ⟨_, _, h⟩ => h) ?_
  have hadd := fun W (h : IsCn W (w.heap.size + 1 + 1) cc) => add_calls (w.heap.size + 1 + 1) cc tk.f0 tk.f2 tk.f3 1 A1 tk.f1.length c1 W h (by omega)
  go_wp2_with (go_at_call 105; refine (hadd _ hcn).mono ?_; rintro e w' ⟨rfl, hgr, hcn'⟩)
  refine ⟨(KeepsOthers.of_grownBy hgr (fun j o e hj => by injection e with e; subst e; rw [show W1.heap[w.heap.size + 1 + 1]? = _ from hcn] at hj; cases hj; rfl)).from _, zs ++ [i], ?_, ?_, ?_, ?_, ?_, ?_⟩
  ·rw [HX.out]; simp [up]
  ·exact hxb.kept hgr (fun e => by injection e with e; omega)
  ·exact (hgr.block _ (cells_lt hr) (fun e => by injection e with e; omega)).trans hr
  ·rw [hstep]; exact hcn'
  ·exact below_put hgr hB (Nat.le_refl _) (by omega)
  ·exact Nat.le_trans hsz hgr.size
 case done =>
  rintro D W2 hD ⟨zs, hzs, hxb, hr, hcn, hB, hsz⟩ hk
  obtain rfl : elemsN s = zs := up_inj hzs
  have hm := (Marks.nil w.heap.size w4.heap.size W2).cons hD (by omega) hk
  clear hzs hk
  have hcs : countSet G.tasks s = (elemsN s).foldl (cstep G.tasks) Cn.zero := rfl
  generalize (elemsN s).foldl (cstep G.tasks) Cn.zero = cc at hcn hcs
  have HCS := Aside0.mk hcs
  clear hcs
  have h0 := hcn.cell0
  have h1 := hcn.cell1
  have h2 := hcn.cell2
  have h3 := hcn.cell3
  have g0 := hr.cell0
  have g1 := hr.cell1
  have g2 := hr.cell2
  have g3 := hr.cell3
  have f0 := hr.frozen (i := 0)
  have f1 := hr.frozen (i := 1)
  have f2 := hr.frozen (i := 2)
  have f3 := hr.frozen (i := 3)
  go_wp2
  have hfin : IsCn ((((W2.setCell ⟨w.heap.size + 1, 0, none⟩ (.int .i64 cc.t)).setCell ⟨w.heap.size + 1, 1, none⟩ (.int .i64 cc.u0)).setCell ⟨w.heap.size + 1, 2, none⟩ (.int .i64 cc.u1)).setCell ⟨w.heap.size + 1, 3, none⟩ (.int .i64 cc.u2)) (w.heap.size + 1) cc := cell_set (cell_set (cell_set (cell_set hr _) _) _) _
  have hgr := grown_trans (grown_trans (grown_trans (grownBy_setCell'' W2 (w.heap.size + 1) 0 (.int .i64 cc.t)) (grownBy_setCell'' _ (w.heap.size + 1) 1 (.int .i64 cc.u0))) (grownBy_setCell'' _ (w.heap.size + 1) 2 (.int .i64 cc.u1))) (grownBy_setCell'' _ (w.heap.size + 1) 3 (.int .i64 cc.u2))
  have hBf := below_put hgr hB (Nat.le_refl _) (by omega)
  refine leave_ret' (hm.grow hgr (fun k hk => ⟨_, _, by cases hk; exact hr⟩)) ?_
  intro W' ht
  refine ⟨_, results_cell_row rfl _ W' (w.heap.size + 1) 73 _ (0, 0) _ rfl (ht.cells hfin) Tryd.underlying73 rfl infoCn, ?_, ht.below hBf (Nat.le_refl _) (Nat.le_refl _)⟩
  rw [HCS.out]
/-- Whether no pool has more than its room. -/
def fitsD (c : Cn) (room : List Int) : Bool := decide (c.u0 ≤ rd room 0) && decide (c.u1 ≤ rd room 1) && decide (c.u2 ≤ rd room 2)
set_option maxRecDepth 100000 in
set_option maxHeartbeats 4000000 in
theorem fits_calls (c : Cn) (A : Option Addr) (cp : Nat) (l : List Int) (w : World) (hl : l.length = 3) (hC : (Kd.int .i64).C w A l.length l) (hcp : l.length ≤ cp) :
  Calls Tryd.prog 94 #[.agg #[.int .i64 c.t, .int .i64 c.u0, .int .i64 c.u1, .int .i64 c.u2], .slice A l.length cp] w fun e w' => e = .returned (.bool (fitsD c l)) ∧ Below w.heap.size w w' := by
 have i0 : ∀ (a b d : Int) (W : World), (Instr.index 71 (.agg #[.int .i64 a, .int .i64 b, .int .i64 d]) (.int .i64 0)).run Tryd.prog W = .ok (.int .i64 a) W := fun _ _ _ _ => by kernel_rfl
 have i1 : ∀ (a b d : Int) (W : World), (Instr.index 71 (.agg #[.int .i64 a, .int .i64 b, .int .i64 d]) (.int .i64 1)).run Tryd.prog W = .ok (.int .i64 b) W := fun _ _ _ _ => by kernel_rfl
 have i2 : ∀ (a b d : Int) (W : World), (Instr.index 71 (.agg #[.int .i64 a, .int .i64 b, .int .i64 d]) (.int .i64 2)).run Tryd.prog W = .ok (.int .i64 d) W := fun _ _ _ _ => by kernel_rfl
 obtain ⟨ad, e0, hx0⟩ := Kd.at_int hC 0 (by omega) (by omega)
 subst e0
 obtain ⟨ad1, e1, hx1⟩ := Kd.at_int hC 1 (by omega) (by omega)
 obtain rfl := Option.some.inj e1
 obtain ⟨ad2, e2, hx2⟩ := Kd.at_int hC 2 (by omega) (by omega)
 obtain rfl := Option.some.inj e2
 have hB := (Below.refl w.heap.size w).alloc (Nat.le_refl _) (.cells #[.int .i64 c.t, .int .i64 c.u0, .int .i64 c.u1, .int .i64 c.u2] 73)
 replace hx0 := (hB.cell (World.block_lt_of_cell? w _ hx0)).trans hx0
 replace hx1 := (hB.cell (World.block_lt_of_cell? w _ hx1)).trans hx1
 replace hx2 := (hB.cell (World.block_lt_of_cell? w _ hx2)).trans hx2
 have hcn : IsCn (w.alloc (.cells #[.int .i64 c.t, .int .i64 c.u0, .int .i64 c.u1, .int .i64 c.u2] 73)) w.heap.size c := cells_new w _
 have h1 := hcn.cell1
 have h2 := hcn.cell2
 have h3 := hcn.cell3
 have hfit : fitsD c l = (decide (c.u0 ≤ rd l 0) && decide (c.u1 ≤ rd l 1) && decide (c.u2 ≤ rd l 2)) := rfl
 generalize rd l 0 = r0 at hx0 hfit
 generalize rd l 1 = r1 at hx1 hfit
 generalize rd l 2 = r2 at hx2 hfit
 have HF := Aside0.mk hfit
 clear hfit
 rw [hl]
 have HB := Aside0.mk hB
 clear hB hC hcp hcn
 go_enter Tryd.func94, Tryd.ntmps94
 go_wp2
 revert hx0 hx1 hx2 h1 h2 h3 HB
 generalize w.alloc (.cells #[.int .i64 c.t, .int .i64 c.u0, .int .i64 c.u1, .int .i64 c.u2] 73) = W
 intro h1 h2 h3 hx0 hx1 hx2 HB
 replace hx0 : W.cell? ad = some (.int .i64 r0) := hx0
 replace hx1 : W.cell? ⟨ad.block, ad.off + 1, none⟩ = some (.int .i64 r1) := hx1
 replace hx2 : W.cell? ⟨ad.block, ad.off + 2, none⟩ = some (.int .i64 r2) := hx2
 go_loopg [9] 3 (fun kq v9 w' => ((kq = 3 ∧ v9 = .int .i64 0) ∨ (kq = 2 ∧ v9 = .int .i64 1 ∧ c.u0 ≤ r0) ∨ (kq = 1 ∧ v9 = .int .i64 2 ∧ c.u0 ≤ r0 ∧ c.u1 ≤ r1) ∨ (kq = 0 ∧ v9 = .int .i64 3 ∧ c.u0 ≤ r0 ∧ c.u1 ≤ r1 ∧ c.u2 ≤ r2)) ∧ W = w')
 case atStart => exact ⟨.inl ⟨rfl, rfl⟩, rfl⟩
 case round =>
  obtain ⟨hrel, rfl⟩ := hrel
  rcases hrel with ⟨rfl, rfl⟩ | ⟨rfl, rfl, ha⟩ | ⟨rfl, rfl, ha, hb⟩ | ⟨rfl, rfl, ha, hb, hc⟩
  ·by_cases hle : c.u0 ≤ r0
   ·have hgt : decide (c.u0 > r0) = false := decide_eq_false (by omega)
    go_wp2
    go_roundg 2
    case measure => omega
    case rel => exact ⟨.inr (.inl ⟨rfl, rfl, hle⟩), rfl⟩
   ·have hgt : decide (c.u0 > r0) = true := decide_eq_true (by omega)
    go_wp2
    go_ret
    refine ⟨?_, HB.out⟩
    rw [HF.out, show decide (c.u0 ≤ r0) = false from decide_eq_false (by omega)]
    simp
  ·by_cases hle : c.u1 ≤ r1
   ·have hgt : decide (c.u1 > r1) = false := decide_eq_false (by omega)
    go_wp2
    go_roundg 1
    case measure => omega
    case rel => exact ⟨.inr (.inr (.inl ⟨rfl, rfl, ha, hle⟩)), rfl⟩
   ·have hgt : decide (c.u1 > r1) = true := decide_eq_true (by omega)
    go_wp2
    go_ret
    refine ⟨?_, HB.out⟩
    rw [HF.out, show decide (c.u1 ≤ r1) = false from decide_eq_false (by omega)]
    simp
  ·by_cases hle : c.u2 ≤ r2
   ·have hgt : decide (c.u2 > r2) = false := decide_eq_false (by omega)
    go_wp2
    go_roundg 0
    case measure => omega
    case rel => exact ⟨.inr (.inr (.inr ⟨rfl, rfl, ha, hb, hle⟩)), rfl⟩
   ·have hgt : decide (c.u2 > r2) = true := decide_eq_true (by omega)
    go_wp2
    go_ret
    refine ⟨?_, HB.out⟩
    rw [HF.out, show decide (c.u2 ≤ r2) = false from decide_eq_false (by omega)]
    simp
  ·go_wp2
   go_ret
   refine ⟨?_, HB.out⟩
   rw [HF.out, decide_eq_true ha, decide_eq_true hb, decide_eq_true hc]
   rfl
end Go.Proofs.YtpibdjkajgfgjaaDoor.Core
end
section
set_option linter.unusedVariables false
set_option linter.unusedSimpArgs false
namespace Go.Proofs.YtpibdjkajgfgjaaDoor.Core
open Go Go.RowKit Go.Shelf Go.Proofs.YtpibdjkajgfgjaaDoorW.PrintWords Go.Proofs.YtpibdjkajgfgjaaDoorW.PrintMore Go.Proofs.YtpibdjkajgfgjaaDoor.P
attribute [local go_sem] Oper.semAt_some wide_fn wide_depth
/-- Whether rooms are valid. -/
def roomOk (l : List Int) : Prop := l.length = 3 ∧ ∀ x ∈ l, 4 ≤ x ∧ x ≤ 8
instance (l : List Int) : Decidable (roomOk l) := by unfold roomOk; infer_instance
theorem ev_room_from (L : List Int) (hL : L.length = 3) : ∀ (r pre : List Int), L = pre ++ r → Ev (fun k => impl_ValidRoom.l0 k L (L.length : Int) (pre.length : Int)) (decide (∀ x ∈ r, 4 ≤ x ∧ x ≤ 8))
 | [], pre, hp => by
  refine Ev.succ ((Ev.const _).of fun k => ?_)
  rw [List.append_nil] at hp
  subst hp
  rw [impl_ValidRoom.l0, if_neg (by omega)]
  simp
 | y :: r, pre, hp => by
  have hlen : L.length = pre.length + (r.length + 1) := by rw [hp]; simp
  have hrd : rd L (pre.length : Int) = y := by rw [hp]; exact rd_mid rfl
  refine Ev.succ ?_
  by_cases hy : 4 ≤ y ∧ y ≤ 8
  ·have ih := ev_room_from L hL r (pre ++ [y]) (by rw [hp]; simp)
   have e : decide (∀ x ∈ y :: r, 4 ≤ x ∧ x ≤ 8) = decide (∀ x ∈ r, 4 ≤ x ∧ x ≤ 8) := by simp [hy]
   rw [e]
   refine ih.of fun k => ?_
   rw [impl_ValidRoom.l0, if_pos (by omega), if_pos (by omega), if_pos (by omega), hrd, within_eq, decide_eq_true hy, Option.bind_some, if_pos rfl, w64 (by omega) (by omega)]
   simp
  ·refine (Ev.const _).of fun k => ?_
   rw [impl_ValidRoom.l0, if_pos (by omega), if_pos (by omega), if_pos (by omega), hrd, within_eq, decide_eq_false hy, Option.bind_some, if_neg (by simp)]
   simp only [Option.some.injEq]
   rw [eq_comm, decide_eq_false_iff_not]
   exact fun h => hy (h y List.mem_cons_self)
theorem ev_ValidRoom (L : List Int) : Ev (fun k => impl_ValidRoom.f k L) (decide (roomOk L)) := by
 by_cases h : L.length = 3
 ·have e : decide (roomOk L) = decide (∀ x ∈ L, 4 ≤ x ∧ x ≤ 8) := by rw [decide_eq_decide]; exact ⟨fun x => x.2, fun x => ⟨h, x⟩⟩
  rw [e]
  refine (ev_room_from L h L [] rfl).of fun k => ?_
  unfold impl_ValidRoom.f
  rw [if_pos (by omega)]
  rfl
 ·refine (Ev.const _).of fun k => ?_
  unfold impl_ValidRoom.f
  rw [if_neg (by omega), eq_comm]
  simp only [Option.some.injEq, decide_eq_false_iff_not]
  exact fun x => h x.1
theorem room_is (A : Option Addr) (c : Nat) (L : List Int) (t : Bool) (w : World) (hC : (Kd.int .i64).C w A L.length L) (hc : L.length ≤ c) (h : decide (roomOk L) = t) :
  Calls Tryd.prog 93 #[.slice A L.length c] w fun e w' => e = .returned (.bool t) ∧ Below w.heap.size w w' := by
 obtain ⟨k, hk⟩ := (ev_ValidRoom L).one
 rw [h] at hk
 exact (impl_ValidRoom.calls k A c L t w hC hc hk).mono fun e w' h => ⟨h.1, drawn_below h.2⟩
end Go.Proofs.YtpibdjkajgfgjaaDoor.Core
end
